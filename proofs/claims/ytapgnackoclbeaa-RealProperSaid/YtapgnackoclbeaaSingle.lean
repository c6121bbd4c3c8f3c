/- What Single gives: bits that 'laid' gives of some float. For every input. -/
import Derived.Test.YtapgnackoclbeaaLeafP
namespace Go.Proofs.Ytapgnackoclbeaa.PProper
open Go.RowKit
set_option linter.unusedVariables false
set_option linter.unusedSimpArgs false

theorem run_choose_one (P : Program) (w : World) (q : Question) : ∃ t n, (choose q).run P w = .ok t (w.drewN n) := by
  rw [run_choose_drew]
  split
  · exact ⟨_, 0, rfl⟩
  · exact ⟨_, 1, rfl⟩
theorem run_float_conv (P : Program) (w : World) (src dst : TypeId) (s k : FloatKind) (b : Nat) (hs : (P.underlying src).isSome = true) (hd : P.underlying dst = some (.float k)) :
    ∃ b' n, (convert src dst (.float s b)).run P w = .ok (.float k b') (w.drewN n) := by
  obtain ⟨u, hu⟩ := Option.isSome_iff_exists.1 hs
  have h1 : (convert src dst (.float s b)).run P w = (Conv.floatToFloat s b k).run P w := by
    cases u <;> simp [convert, run_underlying hu, run_underlying hd]
  rw [h1]
  unfold Conv.floatToFloat
  split
  · exact ⟨b, 0, rfl⟩
  · split
    · obtain ⟨t, n, h⟩ := run_choose_one P w (.nanConv k b)
      exact ⟨t, n, by rw [Sem.run_bind, h]; rfl⟩
    · exact ⟨_, 0, rfl⟩
    · simp only
      split
      · obtain ⟨t, n, h⟩ := run_choose_one P w (.floatToFloat b)
        exact ⟨t, n, by rw [Sem.run_bind, h]; rfl⟩
      · exact ⟨_, 0, rfl⟩
set_option maxHeartbeats 800000 in
theorem Single_any (a0 : Int) (w : World) :
    Calls Try.prog 45 #[.int .u64 a0] w fun e w' => ∃ b n, e = .returned (.int .u64 (laidB b : Nat)) ∧ w' = w.drewN n := by
  obtain ⟨b1, n1, h1⟩ := run_float_conv Try.prog w 40 59 .f64 .f32 a0.toNat (by rw [Try.underlying40]; rfl) Try.underlying59
  obtain ⟨b2, n2, h2⟩ := run_float_conv Try.prog (w.drewN n1) 59 40 .f32 .f64 b1 (by rw [Try.underlying59]; rfl) Try.underlying40
  go_enter Try.func45, Try.ntmps45
  go_wp2_with (first | (go_at_call 57; refine (number_calls _ _).mono ?_; rintro e w' ⟨rfl, rfl⟩) | (go_at_call 60; refine (laid_calls _ _).mono ?_; rintro e w' ⟨rfl, rfl⟩))
  go_ret
  exact ⟨b2, n1 + n2, rfl, by simp only [World.drewN_drewN]⟩
/-- a place holder: the printed text names it; it is struck out of it -/
def real_Single.f (a0 : Int) : Option Int := some 9221120237041090560
end Go.Proofs.Ytapgnackoclbeaa.PProper
