/- The contracts of package real's functions over the machine's floats: what each of their calls gives, as a plain function of the operands' bits. For every input but Single's overflow. -/
import Derived.Test.YtgbbcjooieggpaaProg
import Derived.WalkKit
import Derived.Tactics
import Derived.KernelRfl
import Derived.RowKit3
import Derived.WalkLawsBesides
import Derived.Laws.NewFold
import Derived.Laws.Externs
import Derived.Deep.Draws
import Derived.Lib.Hide
namespace Go.Proofs.Ytgbbcjooieggpaa.PFr
open Go.RowKit
set_option linter.unusedVariables false
set_option linter.unusedSimpArgs false

/-- the one NaN -/
def nanW : Nat := 9221120237041090560
/-- the bits that 'laid' gives -/
def laidB (b : Nat) : Nat := if FloatKind.f64.format.order b b == some .eq then b else nanW
/-- what comes of an operation's answer -/
def opW : Option Nat → Nat
  | some r => laidB r
  | none => nanW

theorem order_nan {b : Nat} (h : Ieee.double.infRung < b % Ieee.double.signWeight) (c : Nat) : Ieee.double.order b c = none := by
  have hb : Ieee.double.read b = .nan (b / Ieee.double.signWeight % 2 == 1) (b % Ieee.double.signWeight - Ieee.double.infRung) := by
    unfold Ieee.Format.read
    have h1 : Ieee.double.binade ≤ Ieee.double.infRung := by decide
    rw [if_neg (by omega), if_neg (by omega), if_neg (by omega)]
  unfold Ieee.Format.order
  rw [hb]; rfl

theorem infRung_is : Ieee.double.infRung = 9218868437227405312 := by decide
theorem signWeight_is : Ieee.double.signWeight = 9223372036854775808 := by decide
theorem binade_is : Ieee.double.binade = 4503599627370496 := by decide

/-- the NaN that the tape gives -/
def tapeNaN (w : World) (q : Question) : Nat := q.cut (w.tape w.drawn q)
theorem nan_cut (t : Nat) : Ieee.double.infRung < ((t % 2) * 9223372036854775808 + 9218868437227405312 + 1 + (t / 2) % 4503599627370495) % Ieee.double.signWeight := by
  rw [infRung_is, signWeight_is]
  have h1 : t / 2 % 4503599627370495 < 4503599627370495 := Nat.mod_lt _ (by omega)
  generalize t / 2 % 4503599627370495 = r at *
  have h2 : t % 2 = 0 ∨ t % 2 = 1 := by omega
  rcases h2 with h2 | h2 <;> rw [h2] <;> omega
theorem tapeNaN_bits (w : World) (x y : Nat) (c : Nat) : Ieee.double.order (tapeNaN w (.nanBits .f64 x y)) c = none := order_nan (nan_cut _) _
theorem tapeNaN_conv (w : World) (x : Nat) (c : Nat) : Ieee.double.order (tapeNaN w (.nanConv .f64 x)) c = none := order_nan (nan_cut _) _
theorem laidB_nan {b : Nat} (h : Ieee.double.order b b = none) : laidB b = nanW := by
  unfold laidB; rw [show FloatKind.f64.format.order b b = none from h]; rfl

theorem run_float_nan {P : Program} (w : World) (op : BinOp) (t : TypeId) (x y : Nat) (hop : op = .add ∨ op = .sub ∨ op = .mul ∨ op = .quo) (h : floatBits op .f64 x y = none) :
    (binOp op t (.float .f64 x) (.float .f64 y)).run P w = .ok (.float .f64 (tapeNaN w (.nanBits .f64 x y))) w.drew := by
  unfold floatBits at h
  rcases hop with rfl | rfl | rfl | rfl <;> simp only at h <;> simp [binOp, Op.floatArith, h, Question.forced, tapeNaN]

@[go_sem] theorem call_frombits (n : Int) (w : World) : (callFunc 57 #[.int .u64 n]).run Try.prog w = .ok (.value (.float .f64 n.toNat)) w := by
  rw [run_callFunc_extern Try.func57 (by kernel_rfl) (by kernel_rfl) (by kernel_rfl) (e := Extern.MathFloatBits.float64frombits) (by kernel_rfl)]
  rfl
@[go_sem] theorem call_bits (b : Nat) (w : World) : (callFunc 56 #[.float .f64 b]).run Try.prog w = .ok (.value (.int .u64 b)) w := by
  rw [run_callFunc_extern Try.func56 (by kernel_rfl) (by kernel_rfl) (by kernel_rfl) (e := Extern.MathFloatBits.float64bits) (by kernel_rfl)]
  rfl
set_option maxHeartbeats 400000 in
theorem number_calls (a : Int) (w : World) :
    Calls Try.prog 54 #[.int .u64 a] w fun e w' => e = .returned (.float .f64 a.toNat) ∧ w' = w := by
  go_enter Try.func54, Try.ntmps54
  go_wp2
  go_ret
  exact ⟨rfl, rfl⟩

set_option maxHeartbeats 400000 in
theorem laid_calls (b : Nat) (w : World) :
    Calls Try.prog 53 #[.float .f64 b] w fun e w' => e = .returned (.int .u64 (laidB b : Nat)) ∧ w' = w := by
  unfold laidB
  by_cases h : (FloatKind.f64.format.order b b == some .eq) = true
  · have h' : (FloatKind.f64.format.order b b != some .eq) = false := by simp [bne, h]
    rw [if_pos h]
    go_enter Try.func53, Try.ntmps53
    go_wp2
    go_ret
    exact ⟨rfl, rfl⟩
  · have h' : (FloatKind.f64.format.order b b != some .eq) = true := by simp [bne, h]
    rw [if_neg h]
    go_enter Try.func53, Try.ntmps53
    go_wp2
    go_ret
    exact ⟨rfl, rfl⟩

/-- 'Canon' -/
def real_Canon.f (a0 : Int) : Option Int := some ((laidB a0.toNat : Nat) : Int)
set_option maxHeartbeats 800000 in
theorem real_Canon.calls (a0 : Int) (r : Int) (w : World) (h : real_Canon.f a0 = some r) :
    Calls Try.prog 43 #[.int .u64 a0] w fun e w' => e = .returned (.int .u64 r) ∧ ∃ n, w' = w.drewN n := by
  obtain rfl := Option.some.inj h
  clear h
  go_enter Try.func43, Try.ntmps43
  go_wp2_with (first | (go_at_call 54; refine (number_calls _ _).mono ?_; rintro e w' ⟨rfl, rfl⟩) | (go_at_call 53; refine (laid_calls _ _).mono ?_; rintro e w' ⟨rfl, rfl⟩))
  go_ret
  exact ⟨rfl, 0, rfl⟩
end Go.Proofs.Ytgbbcjooieggpaa.PFr
