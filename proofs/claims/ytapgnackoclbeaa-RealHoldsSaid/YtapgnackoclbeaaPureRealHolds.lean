/- RealHolds: of every two 64 bits: the program's Less and Equal are the document's (the sign of the exact difference). For every input. -/
import Derived.Test.YtapgnackoclbeaaPRealx3
import Derived.Test.YtapgnackoclbeaaLimb6
set_option linter.unusedSimpArgs false
set_option linter.unusedVariables false
namespace Go.Proofs.Ytapgnackoclbeaa.Pure
open Go.RowKit Go.Proofs.Ytapgnackoclbeaa.PReal Go.Proofs.Ytapgnackoclbeaa.Fl Go.Proofs.YtapgnackoclbeaaW.PrintWords Go.Proofs.YtapgnackoclbeaaW.PrintLast

theorem hcls_zero (a : Nat) : clsI a = 0 ↔ infR < rung a := by
  unfold clsI
  constructor
  · intro h
    by_cases c : infR < rung a
    · exact c
    · rw [if_neg c] at h; split at h <;> (try split at h) <;> (try split at h) <;> omega
  · intro h; rw [if_pos h]
theorem hcls_one (a : Nat) : clsI a = 1 ↔ rung a = infR := by
  unfold clsI
  constructor
  · intro h
    by_cases c : infR < rung a
    · rw [if_pos c] at h; omega
    · rw [if_neg c] at h
      by_cases c2 : rung a = infR
      · exact c2
      · rw [if_neg c2] at h; split at h <;> (try split at h) <;> omega
  · intro h; rw [if_neg (by omega), if_pos h]

/-- the program's Less -/
def lessB (a b : Nat) : Bool := !(decide (infR < rung a) || decide (infR < rung b)) && decide (val a < val b)
theorem less_prog (a b : Nat) : real_Less.f a b = some (lessB a b) := by
  unfold real_Less.f lessB
  rw [Int.toNat_natCast, Int.toNat_natCast]
  by_cases h1 : infR < rung a ∨ infR < rung b
  · have : (decide (infR < rung a) || decide (infR < rung b)) = true := by simpa using h1
    rw [Fl.order_nan h1, this]; rfl
  · have : (decide (infR < rung a) || decide (infR < rung b)) = false := by simpa using h1
    rw [order_real (by omega) (by omega), cmp_def, this]
    by_cases c : val a < val b
    · rw [if_pos c, decide_eq_true c]; rfl
    · rw [if_neg c, decide_eq_false c]; split <;> rfl
theorem equal_prog (a b : Nat) : real_Equal.f a b = some (!(decide (infR < rung a) || decide (infR < rung b)) && (!lessB a b && !lessB b a)) := by
  unfold real_Equal.f lessB
  rw [Int.toNat_natCast, Int.toNat_natCast, Bool.or_comm (decide (infR < rung b))]
  by_cases h1 : infR < rung a ∨ infR < rung b
  · have : (decide (infR < rung a) || decide (infR < rung b)) = true := by simpa using h1
    rw [Fl.order_nan h1, this]; rfl
  · have : (decide (infR < rung a) || decide (infR < rung b)) = false := by simpa using h1
    rw [order_real (by omega) (by omega), cmp_def, this]
    by_cases c : val a < val b
    · rw [if_pos c, decide_eq_true c]; rfl
    · rw [if_neg c, decide_eq_false c]
      by_cases c2 : val a = val b
      · rw [if_pos c2, decide_eq_false (by omega)]; rfl
      · rw [if_neg c2, decide_eq_true (by omega)]; rfl

theorem inf_val {a : Nat} (h : rung a = infR) : val a = if sgn a then -(rv infR : Int) else (rv infR : Int) := by unfold val; rw [h]
theorem fin_val {a : Nat} (h : rung a < infR) : -(rv infR : Int) < val a ∧ val a < rv infR := by
  have := rv_lt h
  unfold val; split <;> omega
theorem rv_inf_pos : 0 < rv infR := rv_pos (by decide)

theorem less_ref (a b : Nat) (ha : a < 2^64) (hb : b < 2^64) : Ev (fun k => portageref03_Less.f k (a : Int) (b : Int)) (lessB a b) := by
  have hinf := rv_inf_pos
  -- the first test
  have hcore : ∀ (x32 : Bool), x32 = (decide (infR < rung a) || decide (infR < rung b) || (decide (rung a = infR) && decide (rung b = infR) && decide (a = b))) → Ev (fun k => portageref03_Less.j0 k (a : Int) (b : Int) (clsI a) (clsI b) x32) (lessB a b) → Ev (fun k => portageref03_Less.f k (a : Int) (b : Int)) (lessB a b) := by
    intro x32 hx h
    obtain ⟨K, h⟩ := h
    refine ⟨K + 1, fun k hk => ?_⟩
    obtain ⟨k, rfl⟩ : ∃ m, k = m + 1 := ⟨k-1, by omega⟩
    simp only [portageref03_Less.f]
    rw [class_eq a ha, class_eq b hb, Option.bind_some, Option.bind_some]
    have h' := h (k+1) (by omega)
    simp only at h'
    rw [hx] at h'
    by_cases c : infR < rung a
    · rw [if_pos ((hcls_zero a).mpr c)]
      rw [decide_eq_true c, Bool.true_or, Bool.true_or] at h'; exact h'
    · rw [if_neg (fun h => c ((hcls_zero a).mp h))]
      rw [decide_eq_false c, Bool.false_or] at h'
      by_cases c2 : infR < rung b
      · rw [if_pos ((hcls_zero b).mpr c2)]
        rw [decide_eq_true c2, Bool.true_or] at h'; exact h'
      · rw [if_neg (fun h => c2 ((hcls_zero b).mp h))]
        rw [decide_eq_false c2, Bool.false_or] at h'
        by_cases c3 : rung a = infR
        · rw [if_pos ((hcls_one a).mpr c3)]
          rw [decide_eq_true c3, Bool.true_and] at h'
          by_cases c4 : rung b = infR
          · rw [if_pos ((hcls_one b).mpr c4)]
            rw [decide_eq_true c4, Bool.true_and] at h'
            have : ((a : Int) == (b : Int)) = decide (a = b) := by
              rw [Bool.eq_iff_iff, beq_iff_eq, decide_eq_true_iff]; omega
            rw [this]; exact h'
          · rw [if_neg (fun h => c4 ((hcls_one b).mp h))]
            rw [decide_eq_false c4, Bool.false_and] at h'; exact h'
        · rw [if_neg (fun h => c3 ((hcls_one a).mp h))]
          rw [decide_eq_false c3, Bool.false_and, Bool.false_and] at h'; exact h'
  apply hcore _ rfl
  unfold lessB
  by_cases h1 : infR < rung a ∨ infR < rung b
  · have : (decide (infR < rung a) || decide (infR < rung b)) = true := by simpa using h1
    rw [this]
    refine ⟨1, fun k hk => ?_⟩
    obtain ⟨k, rfl⟩ : ∃ m, k = m + 1 := ⟨k-1, by omega⟩
    simp only [portageref03_Less.j0, Bool.true_or, if_true]; rfl
  · have hf : (decide (infR < rung a) || decide (infR < rung b)) = false := by simpa using h1
    rw [hf, Bool.false_or, Bool.not_false, Bool.true_and]
    by_cases c3 : rung a = infR
    · have ca : clsI a = 1 := (hcls_one a).mpr c3
      refine ⟨1, fun k hk => ?_⟩
      obtain ⟨k, rfl⟩ : ∃ m, k = m + 1 := ⟨k-1, by omega⟩
      simp only [portageref03_Less.j0]
      by_cases c4 : rung b = infR ∧ a = b
      · rw [decide_eq_true c3, decide_eq_true c4.1, decide_eq_true c4.2, if_pos (show (true && true && true) = true from rfl), c4.2]
        rw [decide_eq_false (by omega)]
      · have : (decide (rung a = infR) && decide (rung b = infR) && decide (a = b)) = false := by simp; intro _ h5 h6; exact c4 ⟨h5, h6⟩
        rw [this, if_neg (by simp), if_pos ca, negative_eq a ha, Option.bind_some]
        congr 1
        rw [Bool.eq_iff_iff, decide_eq_true_iff, inf_val c3]
        rcases Nat.lt_or_eq_of_le (show rung b ≤ infR by omega) with hb2 | hb2
        · have := fin_val hb2
          cases sgn a <;> simp <;> omega
        · have hs : sgn a ≠ sgn b := by
            intro hs
            apply c4
            refine ⟨hb2, ?_⟩
            have e1 := word_of a ha
            have e2 := word_of b hb
            rw [c3] at e1; rw [hb2, ← hs] at e2
            omega
          rw [inf_val hb2]
          cases hsa : sgn a <;> cases hsb : sgn b <;> simp [hsa, hsb] at hs ⊢ <;> omega
    · have ca : clsI a ≠ 1 := fun h => c3 ((hcls_one a).mp h)
      rw [decide_eq_false c3, Bool.false_and, Bool.false_and]
      by_cases c4 : rung b = infR
      · have cb : clsI b = 1 := (hcls_one b).mpr c4
        refine ⟨1, fun k hk => ?_⟩
        obtain ⟨k, rfl⟩ : ∃ m, k = m + 1 := ⟨k-1, by omega⟩
        simp only [portageref03_Less.j0]
        rw [if_neg (by simp), if_neg ca, if_pos cb, negative_eq b hb, Option.bind_some]
        congr 1
        have := fin_val (a := a) (by omega)
        rw [Bool.eq_iff_iff, decide_eq_true_iff, inf_val c4]
        cases sgn b <;> simp <;> omega
      · have cb : clsI b ≠ 1 := fun h => c4 ((hcls_one b).mp h)
        obtain ⟨K1, h2⟩ := sum_ev a (fneg b) ha (fneg_lt b)
        have hv := sum_val a (fneg b)
        have hvn : val (fneg b) = - val b := by rw [fneg_real (by omega), val_neg]
        have hP := Nat.two_pow_pos (sumE a (fneg b) + 1074).toNat
        refine ⟨K1 + 2, fun k hk => ?_⟩
        obtain ⟨k, rfl⟩ : ∃ m, k = m + 2 := ⟨k-2, by omega⟩
        simp only [portageref03_Less.j0]
        rw [if_neg (by simp), if_neg ca, if_neg cb, neg_ref b hb, Option.bind_some, show portageref03_Sum.f (k+1) (a : Int) ((fneg b : Nat) : Int) = some _ from h2 (k+1) (by omega), Option.bind_some]
        simp only
        rw [hvn] at hv
        by_cases cn : sumNeg a (fneg b) = true
        · rw [if_pos cn]
          rw [if_pos cn] at hv
          congr 1
          rw [decide_eq_decide]
          constructor
          · intro h
            have hN : sumN a (fneg b) ≠ 0 := by
              intro h0; rw [h0, big_zero] at h; simp at h
            have := Nat.mul_pos (Nat.pos_of_ne_zero hN) hP
            omega
          · intro h
            have hN : sumN a (fneg b) ≠ 0 := by
              intro h0; rw [h0, Nat.zero_mul] at hv; omega
            have : (big (sumN a (fneg b))).length ≠ 0 := fun h => hN (len_pos.mp h)
            omega
        · rw [if_neg cn]
          rw [if_neg cn] at hv
          congr 1
          exact (decide_eq_false (by omega)).symm

theorem RealHolds : portagelaw03_RealHolds.Pure := by
  intro a0 b0 wa wb
  obtain ⟨a, rfl, ha⟩ := u64_nat wa
  obtain ⟨b, rfl, hb⟩ := u64_nat wb
  obtain ⟨K1, h1⟩ := less_ref a b ha hb
  obtain ⟨K2, h2⟩ := less_ref b a hb ha
  have heq : portageref03_Equal.f (max K1 K2 + 2) (a : Int) (b : Int) = some (!(decide (infR < rung a) || decide (infR < rung b)) && (!lessB a b && !lessB b a)) := by
    unfold portageref03_Equal.f
    rw [class_eq a ha, Option.bind_some]
    by_cases c : infR < rung a
    · rw [if_pos ((hcls_zero a).mpr c), decide_eq_true c]
      simp only [portageref03_Equal.j0, if_true]; rfl
    · rw [if_neg (fun h => c ((hcls_zero a).mp h)), class_eq b hb, Option.bind_some, decide_eq_false c, Bool.false_or]
      have : (clsI b == 0) = decide (infR < rung b) := by
        rw [Bool.eq_iff_iff, beq_iff_eq, decide_eq_true_iff]; exact hcls_zero b
      rw [this]
      by_cases c2 : infR < rung b
      · rw [decide_eq_true c2]
        simp only [portageref03_Equal.j0, if_true]; rfl
      · rw [decide_eq_false c2]
        simp only [portageref03_Equal.j0, Bool.false_eq_true, if_false]
        rw [show portageref03_Less.f (max K1 K2 + 1) (a : Int) (b : Int) = some _ from h1 _ (by omega), Option.bind_some, show portageref03_Less.f (max K1 K2 + 1) (b : Int) (a : Int) = some _ from h2 _ (by omega)]
        cases lessB a b <;> rfl
  refine ⟨max K1 K2 + 2, ?_⟩
  unfold portagelaw03_RealHolds.f
  rw [less_prog, Option.bind_some, show portageref03_Less.f (max K1 K2 + 2) (a : Int) (b : Int) = some _ from h1 _ (by omega), Option.bind_some, if_pos (by simp), equal_prog, Option.bind_some, heq, Option.bind_some]
  simp
end Go.Proofs.Ytapgnackoclbeaa.Pure
