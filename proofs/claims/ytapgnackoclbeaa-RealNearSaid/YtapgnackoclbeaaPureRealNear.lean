/- RealNear: the difference of two positive finite numbers, neither more than twice the other, is exact. For every input. -/
import Derived.Test.YtapgnackoclbeaaPRealx10
import Derived.Test.YtapgnackoclbeaaFlE
import Derived.Test.YtapgnackoclbeaaFlJ
set_option linter.unusedSimpArgs false
set_option linter.unusedVariables false
namespace Go.Proofs.Ytapgnackoclbeaa.Pure
open Go.RowKit Go.Proofs.Ytapgnackoclbeaa.PReal Go.Proofs.Ytapgnackoclbeaa.Fl Go.Proofs.YtapgnackoclbeaaW.PrintWords Go.Proofs.YtapgnackoclbeaaW.PrintLast

/-- a sum that is a value -/
theorem sum_exact (x y k : Nat) (hx : rung x < infR) (hy : rung y < infR) (hk : k ≤ infR) (h : (val x + val y).natAbs = rv k) :
    fadd x y = if val x + val y = 0 then word (sgn x && sgn y) 0 else word (decide (val x + val y < 0)) k := by
  unfold fadd
  rw [if_neg (by omega), if_neg (by omega), if_neg (by omega)]
  unfold addW
  split
  · rfl
  · rw [rndW_exact h.symm hk]

/-- doubled -/
theorem rv_twice (x : Nat) : rv (if x < 2^52 then 2 * x else x + 2^52) = 2 * rv x := by
  by_cases c : x < 2^52
  · rw [if_pos c, rv_small (by omega), rv_small (by omega)]
  · rw [if_neg c]
    obtain ⟨e, m, rfl, h, hm⟩ := split_rung x
    have hm2 : 2^52 ≤ m := by omega
    rw [show e * 2^52 + m + 2^52 = (e+1) * 2^52 + m by omega, rv_norm (e+1) m (Or.inr hm2) (by omega), rv_norm e m h (by omega), Nat.pow_succ]
    simp only [Nat.mul_assoc, Nat.mul_comm, Nat.mul_left_comm]
theorem twice_eq (x : Nat) (h : x < infR) : portagelaw03_twice.f (x : Int) = some (((if x < 2^52 then 2 * x else x + 2^52 : Nat)) : Int) := by
  have hinf : infR = 9218868437227405312 := rfl
  have hu : ∀ z : Int, IntKind.u64.wrap z = z % 18446744073709551616 := fun z => by simp [IntKind.wrap, IntKind.bits, IntKind.signed]
  unfold portagelaw03_twice.f
  rw [hu, hu]
  by_cases c : x < 2^52
  · rw [if_pos (by omega), if_pos c]
    have : (x : Int) * 2 % 18446744073709551616 = ((2 * x : Nat) : Int) := by omega
    rw [this]
  · rw [if_neg (by omega), if_neg c]
    have : ((x : Int) + 4503599627370496) % 18446744073709551616 = ((x + 2^52 : Nat) : Int) := by omega
    rw [this]

/-- the difference of near values is a value -/
theorem near_rep (a b : Nat) (h1 : b ≤ a) (h2 : rv a ≤ 2 * rv b) : ∃ k, k ≤ a ∧ rv k = rv a - rv b := by
  obtain ⟨e, m, ha, hem, hm⟩ := split_rung a
  obtain ⟨f, n, hb, hfn, hn⟩ := split_rung b
  have hfe : f ≤ e := by
    by_cases c : f ≤ e
    · exact c
    · exfalso
      have : n ≥ 2^52 := by omega
      have : (e+1) * 2^52 ≤ f * 2^52 := Nat.mul_le_mul_right _ (by omega)
      omega
  have hva : rv a = m * 2^e := by rw [ha]; exact rv_norm e m hem (by omega)
  have hvb : rv b = n * 2^f := by rw [hb]; exact rv_norm f n hfn (by omega)
  have hva2 : rv a = m * 2^(e-f) * 2^f := by
    rw [hva, Nat.mul_assoc, ← Nat.pow_add, show e - f + f = e by omega]
  have hd : rv a - rv b = (m * 2^(e-f) - n) * 2^f := by rw [hva2, hvb, Nat.sub_mul]
  have hP := Nat.two_pow_pos f
  have hle : m * 2^(e-f) ≤ 2 * n := by
    rw [hva2, hvb, ← Nat.mul_assoc] at h2
    exact Nat.le_of_mul_le_mul_right h2 hP
  obtain ⟨k, hk⟩ := rep f (m * 2^(e-f) - n) (by omega)
  refine ⟨k, ?_, by rw [hk, hd]⟩
  by_cases c : k ≤ a
  · exact c
  · have := rv_lt (show a < k by omega)
    omega

/-- one way -/
theorem near_back (a b : Nat) (ha : a < infR) (hb : b < infR) (ha0 : 0 < a) (hb0 : 0 < b) (h1 : rv a ≤ 2 * rv b) (h2 : rv b ≤ 2 * rv a) : fadd (fadd a (negW b)) b = a := by
  have h63 := Fl.infR_lt
  have hra : rung a = a := Nat.mod_eq_of_lt (by omega)
  have hrb : rung b = b := Nat.mod_eq_of_lt (by omega)
  have hsa : sgn a = false := by unfold sgn; rw [Nat.div_eq_of_lt (by omega)]; rfl
  have hsb : sgn b = false := by unfold sgn; rw [Nat.div_eq_of_lt (by omega)]; rfl
  have hva : val a = rv a := by rw [val_pos hsa, hra]
  have hvb : val b = rv b := by rw [val_pos hsb, hrb]
  have hvn : val (negW b) = -(rv b : Int) := by rw [val_neg, hvb]
  have hrn : rung (negW b) = b := by rw [rung_neg, hrb]
  have hpa := rv_pos (show a ≠ 0 by omega)
  have hdiff : ∃ k, k < infR ∧ rv k = (val a + val (negW b)).natAbs := by
    rw [hva, hvn]
    by_cases c : b ≤ a
    · obtain ⟨k, hk1, hk2⟩ := near_rep a b c h1
      have := rv_le c
      exact ⟨k, by omega, by omega⟩
    · obtain ⟨k, hk1, hk2⟩ := near_rep b a (by omega) h2
      have := rv_le (show a ≤ b by omega)
      exact ⟨k, by omega, by omega⟩
  obtain ⟨k, hk, hkv⟩ := hdiff
  have hs := sum_exact a (negW b) k (by omega) (by omega) (by omega) hkv.symm
  have hd : val (fadd a (negW b)) = val a + val (negW b) ∧ rung (fadd a (negW b)) < infR := by
    rw [hs]
    by_cases c : val a + val (negW b) = 0
    · rw [if_pos c, c]
      exact ⟨by rw [val_zero_iff, rung_word (by omega)], by rw [rung_word (by omega)]; omega⟩
    · rw [if_neg c]
      refine ⟨?_, by rw [rung_word (by omega)]; exact hk⟩
      unfold val
      rw [sgn_word (by omega), rung_word (by omega), hkv]
      show (if decide (val a + val (negW b) < 0) = true then _ else _) = val a + val (negW b)
      by_cases c2 : val a + val (negW b) < 0
      · rw [decide_eq_true c2, if_pos rfl]; omega
      · rw [decide_eq_false c2, if_neg (by simp)]; omega
  generalize fadd a (negW b) = d at *
  have hsum : val d + val b = rv a := by rw [hd.1, hvn, hva, hvb]; omega
  rw [sum_exact d b a hd.2 (by omega) (by omega) (by rw [hsum]; omega), hsum, if_neg (by omega), decide_eq_false (by omega)]
  rfl

theorem RealNear : portagelaw03_RealNear.Pure := by
  intro a0 b0 wa wb
  obtain ⟨a, rfl, ha⟩ := u64_nat wa
  obtain ⟨b, rfl, hb⟩ := u64_nat wb
  refine ⟨2, ?_⟩
  have hinf : infR = 9218868437227405312 := rfl
  have hj : portagelaw03_RealNear.j0 2 (a : Int) (b : Int) true = some true := by
    simp only [portagelaw03_RealNear.j0, if_true]
    rw [awake_at]; rfl
  unfold portagelaw03_RealNear.f
  by_cases c1 : a = 0
  · rw [if_pos (by omega)]; exact hj
  rw [if_neg (by omega)]
  by_cases c2 : b = 0
  · rw [if_pos (by omega)]; exact hj
  rw [if_neg (by omega)]
  by_cases c3 : infR ≤ a
  · rw [if_pos (by omega)]; exact hj
  rw [if_neg (by omega)]
  by_cases c4 : infR ≤ b
  · rw [if_pos (by omega)]; exact hj
  rw [if_neg (by omega), twice_eq b (by omega), Option.bind_some, twice_eq a (by omega), Option.bind_some]
  have tb := rv_twice b
  have ta := rv_twice a
  generalize (if b < 2^52 then 2 * b else b + 2^52) = tb2 at *
  generalize (if a < 2^52 then 2 * a else a + 2^52) = ta2 at *
  by_cases c5 : (a : Int) > (tb2 : Int)
  · rw [if_pos c5]; exact hj
  rw [if_neg c5]
  by_cases c6 : (b : Int) > (ta2 : Int)
  · rw [decide_eq_true c6]; exact hj
  rw [decide_eq_false c6]
  have h1 := rv_le (show a ≤ tb2 by omega)
  have h2 := rv_le (show b ≤ ta2 by omega)
  rw [tb] at h1
  rw [ta] at h2
  simp only [portagelaw03_RealNear.j0, Bool.false_eq_true, if_false]
  rw [Sub_eq, Option.bind_some, Add_eq, Option.bind_some, near_back a b (by omega) (by omega) (by omega) (by omega) h1 h2, if_pos rfl, Sub_eq, Option.bind_some, Add_eq, Option.bind_some, near_back b a (by omega) (by omega) (by omega) (by omega) h2 h1, if_pos rfl, awake_at]
  rfl
end Go.Proofs.Ytapgnackoclbeaa.Pure
