/- RealRoots: the root of a square is the number without its sign, for sizes from 2^-500 to 2^500. For every input. -/
import Derived.Test.YtapgnackoclbeaaPRealx9
import Derived.Test.YtapgnackoclbeaaFlE
import Derived.Test.YtapgnackoclbeaaFlI
namespace Go.Proofs.Ytapgnackoclbeaa.Pure
open Go.RowKit Go.Proofs.Ytapgnackoclbeaa.PReal Go.Proofs.Ytapgnackoclbeaa.Fl Go.Proofs.YtapgnackoclbeaaW.PrintWords Go.Proofs.YtapgnackoclbeaaW.PrintLast

theorem rung_parts (a : Nat) : rung a = a / 2^52 % 2048 * 2^52 + a % 2^52 := by unfold rung; omega
theorem rndS_zero : rndS (rv 0 * U) = 0 := by
  rw [show rv 0 = 0 from rfl, Nat.zero_mul]
  apply rndS_of
  · have : 0 < mid 0 := by unfold mid; have := rv_lt_succ 0; omega
    exact Nat.mul_pos this this
  · left; rfl
theorem sqrt_sq (a m f : Nat) (hr : rung a = f * 2^52 + m) (hm : 2^52 ≤ m) (hm2 : m < 2^53) (hf : 522 ≤ f) (hf2 : f ≤ 1521) : fsqrt (fmul a a) = rung a := by
  have hlt : rung a < infR := by
    have hinf : infR = 2047 * 2^52 := by decide
    omega
  have hv : rv (rung a) = m * 2^f := by rw [hr]; exact rv_norm _ _ (Or.inr hm) (Nat.le_of_lt hm2)
  obtain ⟨g1, g2⟩ := root_square m f hm hm2 hf hf2
  rw [← hr] at g1
  clear hr
  have hmul : fmul a a = rndW false ((m * 2^f) * (m * 2^f)) U := by
    unfold fmul
    rw [if_neg (by omega), if_neg (by omega), if_neg (by omega)]
    unfold mulW
    rw [hv, Bool.xor_self]
  rw [hmul]
  have hk := rung_W false ((m * 2^f) * (m * 2^f)) U
  have hs := sgn_W false ((m * 2^f) * (m * 2^f)) U
  rw [Nat.min_eq_left (Nat.le_of_lt g2)] at hk
  have hk0 : rndQ ((m * 2^f) * (m * 2^f)) U ≠ 0 := by
    intro h0
    rw [h0, rndS_zero] at g1
    rw [← g1] at hv
    have h2 : 0 < m * 2^f := Nat.mul_pos (by omega) (Nat.two_pow_pos f)
    rw [← hv] at h2
    exact Nat.lt_irrefl 0 h2
  generalize rndW false ((m * 2^f) * (m * 2^f)) U = w at *
  generalize rndQ ((m * 2^f) * (m * 2^f)) U = k at *
  unfold fsqrt
  rw [if_neg (by omega), if_neg (by omega), hs, if_neg (by simp), if_neg (by omega)]
  unfold sqrtW
  rw [hk, g1, Nat.min_eq_left (Nat.le_of_lt hlt)]
  rfl

theorem RealRoots : portagelaw03_RealRoots.Pure := by
  intro a0 wa
  obtain ⟨a, rfl, ha⟩ := u64_nat wa
  refine ⟨1, ?_⟩
  unfold portagelaw03_RealRoots.f
  rw [and_exp a ha]
  have he : a / 2^52 % 2048 < 2048 := Nat.mod_lt _ (by omega)
  obtain ⟨e, hE⟩ : ∃ e, e = a / 2^52 % 2048 := ⟨_, rfl⟩
  have hp := rung_parts a
  rw [← hE] at he hp ⊢
  have hf : a % 2^52 < 2^52 := Nat.mod_lt _ (by omega)
  by_cases c1 : e < 523
  · rw [if_pos (by omega)]
    simp only [portagelaw03_RealRoots.j0, if_true]
  · rw [if_neg (by omega)]
    by_cases c2 : 1523 ≤ e
    · rw [decide_eq_true (by omega)]
      simp only [portagelaw03_RealRoots.j0, if_true]
    · rw [decide_eq_false (by omega)]
      obtain ⟨m, hm⟩ : ∃ m, m = 2^52 + a % 2^52 := ⟨_, rfl⟩
      obtain ⟨f, hf2⟩ : ∃ f, e = f + 1 := ⟨e-1, by omega⟩
      have hr : rung a = f * 2^52 + m := by rw [hp, hm, hf2, Nat.add_mul, Nat.one_mul, Nat.add_assoc]
      have hm1 : 2^52 ≤ m := by omega
      have hm2 : m < 2^53 := by omega
      simp only [portagelaw03_RealRoots.j0, Bool.false_eq_true, if_false]
      rw [Mul_eq, Option.bind_some, Sqrt_eq, Option.bind_some, sqrt_sq a m f hr hm1 hm2 (by omega) (by omega), and_rung a ha]
      simp
end Go.Proofs.Ytapgnackoclbeaa.Pure
