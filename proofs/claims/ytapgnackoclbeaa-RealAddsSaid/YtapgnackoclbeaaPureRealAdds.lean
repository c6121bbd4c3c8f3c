/- RealAdds: of every two 64 bits: the program's sum and difference are the document's (whole numbers, rounded once). For every input. -/
import Derived.Test.YtapgnackoclbeaaPRealx5
import Derived.Test.YtapgnackoclbeaaLimb6
set_option linter.unusedSimpArgs false
set_option linter.unusedVariables false
namespace Go.Proofs.Ytapgnackoclbeaa.Pure
open Go.RowKit Go.Proofs.Ytapgnackoclbeaa.PReal Go.Proofs.Ytapgnackoclbeaa.Fl Go.Proofs.YtapgnackoclbeaaW.PrintWords Go.Proofs.YtapgnackoclbeaaW.PrintLast

theorem fadd_negW_fneg' (a b : Nat) : fadd a (negW b) = fadd a (fneg b) := by
  unfold fneg; rw [fadd_comm, fadd_comm a, fadd_canon]
theorem cls_zero (a : Nat) : clsI a = 0 ↔ infR < rung a := by
  unfold clsI
  constructor
  · intro h
    by_cases c : infR < rung a
    · exact c
    · rw [if_neg c] at h; split at h <;> (try split at h) <;> (try split at h) <;> omega
  · intro h; rw [if_pos h]
theorem cls_one (a : Nat) : clsI a = 1 ↔ rung a = infR := by
  unfold clsI
  constructor
  · intro h
    by_cases c : infR < rung a
    · rw [if_pos c] at h; omega
    · rw [if_neg c] at h
      by_cases c2 : rung a = infR
      · exact c2
      · rw [if_neg c2] at h; split at h <;> (try split at h) <;> omega
  · intro h; rw [if_neg (by omega), if_pos h]

theorem bl_sum (n : Nat) (h : n < 2^(eX+1)) : bl n ≤ 100000 := by
  have := bl_lt h; have := eX_is; omega
theorem add_fin_ev (a b : Nat) (ha : a < 2^64) (hb : b < 2^64) (fa : rung a < infR) (fb : rung b < infR) (x5 x6 : Int) (h5 : x5 ≠ 1) (h6 : x6 ≠ 1) :
    Ev (fun k => portageref03_Add.j1 k (a : Int) (b : Int) x5 x6 false) ((addW a b : Nat) : Int) := by
  obtain ⟨K1, h1⟩ := sum_ev a b ha hb
  have hv := sum_val a b
  have hlt := sumN_lt a b
  have hpe : -1074 ≤ sumE a b ∧ sumE a b ≤ 1000 := by
    have := pe_ge a; have := pe_ge b; unfold sumE; omega
  have hP := Nat.two_pow_pos (sumE a b + 1074).toNat
  by_cases h0 : sumN a b = 0
  · have hva : val a + val b = 0 := by rw [hv, h0, Nat.zero_mul]; split <;> rfl
    have hlen : ((big (sumN a b)).length : Int) = 0 := by rw [h0, big_zero]; rfl
    have hW : addW a b = word (sgn a && sgn b) 0 := by unfold addW; rw [if_pos hva]
    refine ⟨K1 + 1, fun k hk => ?_⟩
    obtain ⟨k, rfl⟩ : ∃ m, k = m + 1 := ⟨k-1, by omega⟩
    simp only [portageref03_Add.j1, Bool.false_eq_true, if_false]
    rw [if_neg h5, if_neg h6, show portageref03_Sum.f k (a : Int) (b : Int) = some _ from h1 k (by omega), Option.bind_some, if_pos hlen, hW]
    have hz : ∀ x : Nat, x < 2^64 → rung x = 0 → sgn x = true → x = 9223372036854775808 := by
      intro x hx hr hs
      have := word_of x hx
      rw [hr, hs] at this
      rw [← this]; rfl
    -- both are zeros where both are negative
    by_cases c : a = 9223372036854775808
    · rw [if_pos (by omega)]
      have hsa : sgn a = true := by rw [c]; rfl
      have hva0 : val a = 0 := by rw [c]; decide
      have hvb : val b = 0 := by omega
      have hrb : rung b = 0 := by
        by_cases hr : rung b = 0
        · exact hr
        · have := rv_pos hr; unfold val at hvb; split at hvb <;> omega
      have hbb : ((b : Int) == 9223372036854775808) = sgn b := by
        by_cases hs : sgn b = true
        · rw [hs, hz b hb hrb hs]; rfl
        · have hs' : sgn b = false := by simpa using hs
          have := word_of b hb
          rw [hrb, hs'] at this
          rw [hs', ← this]; rfl
      have hsg := signed_eq (sgn b) 0 (by omega)
      rw [hbb, hsa, Bool.true_and, show (0 : Int) = ((0 : Nat) : Int) from rfl, hsg]; rfl
    · rw [if_neg (by omega)]
      have hsg := signed_eq false 0 (by omega)
      have hand : (sgn a && sgn b) = false := by
        cases hsa : sgn a
        · rfl
        · cases hsb : sgn b
          · rfl
          · exfalso
            rw [val_negv hsa, val_negv hsb] at hva
            have hra : rung a = 0 := by
              by_cases hr : rung a = 0
              · exact hr
              · have := rv_pos hr; omega
            exact c (hz a ha hra hsa)
      rw [show (0 : Int) = ((0 : Nat) : Int) from rfl, hsg, hand]; rfl
  · have hr := round_ev (sumNeg a b) (sumN a b) (sumE a b) false h0 (sh_of (by
      have := pow_big
      have e : (2:Nat)^(eX+1) = 2^eX + 2^eX := by rw [Nat.pow_succ]; omega
      omega)) ⟨by omega, by omega⟩ (bl_sum _ hlt) (by simp)
    obtain ⟨K2, h2⟩ := hr
    have hlen : ¬ ((big (sumN a b)).length : Int) = 0 := by
      intro h; exact h0 (len_pos.mp (by omega))
    have hNp : 0 < sumN a b * 2^(sumE a b + 1074).toNat := Nat.mul_pos (by omega) hP
    have hW : addW a b = roundN (sumNeg a b) (sumN a b) (sumE a b) false := by
      unfold roundN addW
      rw [if_neg (show ¬ (val a + val b = 0) from by rw [hv]; split <;> omega), if_neg (show ¬ (false = true) by simp)]
      rw [nearest_W (sumNeg a b) (sumN a b) (sumE a b) (sumN a b * 2^(sumE a b + 1074).toNat) 1 (by omega) (by rw [show (-(sumE a b + 1074)).toNat = 0 by omega])]
      have e1 : (val a + val b).natAbs = sumN a b * 2^(sumE a b + 1074).toNat := by rw [hv]; split <;> omega
      have e2 : decide (val a + val b < 0) = sumNeg a b := by
        rw [hv]
        cases sumNeg a b
        · rw [if_neg (by simp)]; exact decide_eq_false (by omega)
        · rw [if_pos rfl]; exact decide_eq_true (by omega)
      rw [e1, e2]
    refine ⟨max K1 K2 + 1, fun k hk => ?_⟩
    obtain ⟨k, rfl⟩ : ∃ m, k = m + 1 := ⟨k-1, by omega⟩
    simp only [portageref03_Add.j1, Bool.false_eq_true, if_false]
    rw [if_neg h5, if_neg h6, show portageref03_Sum.f k (a : Int) (b : Int) = some _ from h1 k (by omega), Option.bind_some, if_neg hlen]
    simp only
    rw [show portageref03_Round.f k (sumNeg a b) (big (sumN a b)) (sumE a b) false = some _ from h2 k (by omega), hW]; rfl

theorem add_ref (a b : Nat) (ha : a < 2^64) (hb : b < 2^64) : Ev (fun k => portageref03_Add.f k (a : Int) (b : Int)) ((fadd a b : Nat) : Int) := by
  have hcore : ∀ r : Int, Ev (fun k => portageref03_Add.j0 k (a : Int) (b : Int) (clsI a) (clsI b) (decide (infR < rung a) || decide (infR < rung b))) r → Ev (fun k => portageref03_Add.f k (a : Int) (b : Int)) r := by
    intro r h
    obtain ⟨K, h⟩ := h
    refine ⟨K + 1, fun k hk => ?_⟩
    obtain ⟨k, rfl⟩ : ∃ m, k = m + 1 := ⟨k-1, by omega⟩
    simp only [portageref03_Add.f]
    rw [class_eq a ha, class_eq b hb, Option.bind_some, Option.bind_some]
    have h' := h (k+1) (by omega)
    simp only at h'
    by_cases c : infR < rung a
    · rw [if_pos ((cls_zero a).mpr c)]
      rw [decide_eq_true c, Bool.true_or] at h'; exact h'
    · rw [if_neg (fun h => c ((cls_zero a).mp h))]
      rw [decide_eq_false c, Bool.false_or] at h'
      have : (clsI b == 0) = decide (infR < rung b) := by
        rw [Bool.eq_iff_iff, beq_iff_eq, decide_eq_true_iff]; exact cls_zero b
      rw [this]; exact h'
  apply hcore
  unfold fadd
  by_cases h1 : infR < rung a ∨ infR < rung b
  · rw [if_pos h1]
    have : (decide (infR < rung a) || decide (infR < rung b)) = true := by simpa using h1
    rw [this]
    refine ⟨1, fun k hk => ?_⟩
    obtain ⟨k, rfl⟩ : ∃ m, k = m + 1 := ⟨k-1, by omega⟩
    simp only [portageref03_Add.j0, if_true]; rfl
  · rw [if_neg h1]
    have hf : (decide (infR < rung a) || decide (infR < rung b)) = false := by simpa using h1
    rw [hf]
    have hj1 : ∀ (x30 : Bool) (r : Int), (clsI a = 1 ∧ clsI b = 1 → x30 = ((a : Int) != (b : Int))) → (¬(clsI a = 1 ∧ clsI b = 1) → x30 = false) → Ev (fun k => portageref03_Add.j1 k (a : Int) (b : Int) (clsI a) (clsI b) x30) r → Ev (fun k => portageref03_Add.j0 k (a : Int) (b : Int) (clsI a) (clsI b) false) r := by
      intro x30 r e1 e2 h
      refine ev_next (fun k => ?_) h
      simp only [portageref03_Add.j0, Bool.false_eq_true, if_false]
      by_cases c1 : clsI a = 1
      · rw [if_pos c1]
        by_cases c2 : clsI b = 1
        · rw [if_pos c2, e1 ⟨c1, c2⟩]
        · rw [if_neg c2, e2 (fun h => c2 h.2)]
      · rw [if_neg c1, e2 (fun h => c1 h.1)]
    by_cases h2 : rung a = infR
    · rw [if_pos h2]
      have ca : clsI a = 1 := (cls_one a).mpr h2
      by_cases h3 : rung b = infR
      · have cb : clsI b = 1 := (cls_one b).mpr h3
        have hne : ((a : Int) != (b : Int)) = decide (sgn a ≠ sgn b) := by
          rw [Bool.eq_iff_iff, bne_iff_ne, decide_eq_true_iff]
          constructor
          · intro h hs
            apply h
            have e1 := word_of a ha
            have e2 := word_of b hb
            rw [h2] at e1; rw [h3, ← hs] at e2
            omega
          · intro h hs
            exact h (by rw [show a = b by omega])
        apply hj1 (decide (sgn a ≠ sgn b)) _ (fun _ => hne.symm) (fun h => absurd ⟨ca, cb⟩ h)
        refine ⟨1, fun k hk => ?_⟩
        obtain ⟨k, rfl⟩ : ∃ m, k = m + 1 := ⟨k-1, by omega⟩
        simp only [portageref03_Add.j1]
        by_cases hs : sgn a = sgn b
        · rw [if_neg (by simp [hs]), if_pos ca, if_neg (by simp [hs])]
          have e1 := word_of a ha
          rw [h2] at e1
          rw [e1]
        · rw [if_pos (by simp [hs]), if_pos ⟨h3, hs⟩]; rfl
      · have cb : clsI b ≠ 1 := fun h => h3 ((cls_one b).mp h)
        apply hj1 false _ (fun h => absurd h.2 cb) (fun _ => rfl)
        refine ⟨1, fun k hk => ?_⟩
        obtain ⟨k, rfl⟩ : ∃ m, k = m + 1 := ⟨k-1, by omega⟩
        simp only [portageref03_Add.j1, Bool.false_eq_true, if_false]
        rw [if_pos ca, if_neg (by simp [h3])]
        have e1 := word_of a ha
        rw [h2] at e1
        rw [e1]
    · rw [if_neg h2]
      have ca : clsI a ≠ 1 := fun h => h2 ((cls_one a).mp h)
      apply hj1 false _ (fun h => absurd h.1 ca) (fun _ => rfl)
      by_cases h3 : rung b = infR
      · rw [if_pos h3]
        have cb : clsI b = 1 := (cls_one b).mpr h3
        refine ⟨1, fun k hk => ?_⟩
        obtain ⟨k, rfl⟩ : ∃ m, k = m + 1 := ⟨k-1, by omega⟩
        simp only [portageref03_Add.j1, Bool.false_eq_true, if_false]
        rw [if_neg ca, if_pos cb]
        have e1 := word_of b hb
        rw [h3] at e1
        rw [e1]
      · rw [if_neg h3]
        have cb : clsI b ≠ 1 := fun h => h3 ((cls_one b).mp h)
        exact add_fin_ev a b ha hb (by omega) (by omega) _ _ ca cb

theorem RealAdds : portagelaw03_RealAdds.Pure := by
  intro a0 b0 wa wb
  obtain ⟨a, rfl, ha⟩ := u64_nat wa
  obtain ⟨b, rfl, hb⟩ := u64_nat wb
  obtain ⟨K1, h1⟩ := add_ref a b ha hb
  obtain ⟨K2, h2⟩ := add_ref a (fneg b) ha (fneg_lt b)
  refine ⟨max K1 K2 + 1, ?_⟩
  unfold portagelaw03_RealAdds.f portageref03_Sub.f
  rw [Add_eq, Option.bind_some, show portageref03_Add.f (max K1 K2 + 1) (a : Int) (b : Int) = some _ from h1 _ (by omega), Option.bind_some, if_pos rfl, Sub_eq, Option.bind_some, neg_ref b hb, Option.bind_some, show portageref03_Add.f (max K1 K2 + 1) (a : Int) ((fneg b : Nat) : Int) = some _ from h2 _ (by omega), Option.bind_some, Option.bind_some, fadd_negW_fneg']
  simp
end Go.Proofs.Ytapgnackoclbeaa.Pure
