/- RealProper: no number that is answered is a NaN but the one; each NaN counts as the one. For every input. -/
import Derived.Test.YtapgnackoclbeaaPProperx2
import Derived.Test.YtapgnackoclbeaaFlE
import Derived.Test.YtapgnackoclbeaaFlK
set_option linter.unusedSimpArgs false
set_option linter.unusedVariables false
namespace Go.Proofs.Ytapgnackoclbeaa.Pure
open Go.RowKit Go.Proofs.Ytapgnackoclbeaa.PProper Go.Proofs.Ytapgnackoclbeaa.Fl Go.Proofs.YtapgnackoclbeaaW.PrintWords Go.Proofs.YtapgnackoclbeaaW.PrintLast

open PReal (u64_nat i64_range and_rung)
theorem pAdd (a b : Nat) : real_Add.f a b = some ((fadd a b : Nat) : Int) := PReal.Add_eq a b
theorem pSub (a b : Nat) : real_Sub.f a b = some ((fadd a (negW b) : Nat) : Int) := PReal.Sub_eq a b
theorem pMul (a b : Nat) : real_Mul.f a b = some ((fmul a b : Nat) : Int) := PReal.Mul_eq a b
theorem pDiv (a b : Nat) : real_Div.f a b = some ((fdiv a b : Nat) : Int) := PReal.Div_eq a b
theorem pSqrt (a : Nat) : real_Sqrt.f a = some ((fsqrt a : Nat) : Int) := PReal.Sqrt_eq a
theorem pCanon (a : Nat) : real_Canon.f a = some ((canon a : Nat) : Int) := PReal.Canon_eq a
theorem pNeg (a : Nat) (h : a < 2^64) : real_Neg.f a = some ((fneg a : Nat) : Int) := PReal.Neg_eq a h
theorem pFromInt (n : Int) : real_FromInt.f n = some ((fromN n : Nat) : Int) := PReal.FromInt_eq n
theorem pFloor (b : Nat) : real_Floor.f (b : Int) = some ((PReal.ffloor b : Nat) : Int) := PReal.Floor_eq b
theorem pSingle (a : Int) : real_Single.f a = some ((nanN : Nat) : Int) := rfl
theorem pAwake (k : Nat) : portagelaw03_awake.f (k + 1) = some true := by
  have : portagelaw03_awake.f (k + 1) = PReal.portagelaw03_awake.f (k + 1) := rfl
  rw [this]; exact PReal.awake_at k
/-- a number that is proper -/
def Proper (r : Nat) : Prop := r = nanN ∨ ¬ infR < rung r
theorem p_isNaN (b : Nat) : portagelaw03_isNaN.f b = some (decide (infR < rung b)) := by
  unfold portagelaw03_isNaN.f
  rw [bits_low]
  have hi : infR = 9218868437227405312 := rfl
  congr 1
  rw [Bool.eq_iff_iff, decide_eq_true_iff, decide_eq_true_iff]; omega
theorem p_proper {r : Nat} (h : Proper r) : portagelaw03_proper.f r = some true := by
  unfold portagelaw03_proper.f
  have hn : nanN = 9221120237041090560 := rfl
  by_cases c : (r : Int) = 9221120237041090560
  · rw [if_pos c]
  · rw [if_neg c, p_isNaN]
    have : ¬ infR < rung r := h.resolve_left (by omega)
    rw [decide_eq_false this]; rfl
theorem P_nan : Proper nanN := Or.inl rfl
theorem P_word {s : Bool} {k : Nat} (h : k ≤ infR) : Proper (word s k) := Or.inr (by rw [rung_word (by have := Fl.infR_lt; omega)]; omega)
theorem P_W (s : Bool) (A B : Nat) : Proper (rndW s A B) := P_word (by omega)
theorem P_canon (r : Nat) : Proper (canon r) := by
  unfold canon; split
  · exact P_nan
  · right; assumption
theorem P_add (a b : Nat) : Proper (fadd a b) := by
  unfold fadd addW
  have hi := Nat.zero_le infR
  repeat' split
  all_goals first | exact P_nan | exact P_W _ _ _ | exact P_word (Nat.le_refl _) | exact P_word hi
theorem P_mul (a b : Nat) : Proper (fmul a b) := by
  unfold fmul mulW
  repeat' split
  all_goals first | exact P_nan | exact P_W _ _ _ | exact P_word (Nat.le_refl _)
theorem P_div (a b : Nat) : Proper (fdiv a b) := by
  unfold fdiv divW
  have hi := Nat.zero_le infR
  repeat' split
  all_goals first | exact P_nan | exact P_W _ _ _ | exact P_word (Nat.le_refl _) | exact P_word hi
theorem P_sqrt (a : Nat) : Proper (fsqrt a) := by
  unfold fsqrt sqrtW
  have hi := Nat.zero_le infR
  repeat' split
  all_goals first | exact P_nan | exact P_word (Nat.min_le_right _ _) | exact P_word (Nat.le_refl _) | exact P_word hi
theorem P_floor (a : Nat) : Proper (PReal.ffloor a) := by
  unfold PReal.ffloor
  repeat' split
  all_goals first | exact P_nan | exact P_W _ _ _ | exact P_word (Nat.le_refl _)
theorem canon_nan {a : Nat} (h : infR < rung a) : canon a = nanN := by unfold canon; rw [if_pos h]
theorem canon_id {a : Nat} (h : ¬ infR < rung a) : canon a = a := by unfold canon; rw [if_neg h]
theorem nan_canon (a : Nat) : infR < rung (canon a) ↔ infR < rung a := by
  by_cases h : infR < rung a
  · rw [canon_nan h]; exact ⟨fun _ => h, fun _ => nanN_nan⟩
  · rw [canon_id h]
theorem add_cc (a b : Nat) : fadd (canon a) (canon b) = fadd a b := by
  rw [fadd_canon, fadd_comm, fadd_canon, fadd_comm]
theorem sub_cc (a b : Nat) : fadd (canon a) (negW (canon b)) = fadd a (negW b) := by
  rw [fadd_canon]
  by_cases h : infR < rung b
  · have h2 : infR < rung (canon b) := (nan_canon b).mpr h
    unfold fadd
    rw [if_pos (Or.inr (by rw [rung_neg]; exact h2)), if_pos (Or.inr (by rw [rung_neg]; exact h))]
  · rw [canon_id h]
theorem mul_cc (a b : Nat) : fmul (canon a) (canon b) = fmul a b := by
  by_cases h : infR < rung a ∨ infR < rung b
  · unfold fmul
    rw [if_pos h, if_pos (h.imp (nan_canon a).mpr (nan_canon b).mpr)]
  · rw [canon_id (fun c => h (Or.inl c)), canon_id (fun c => h (Or.inr c))]
theorem div_cc (a b : Nat) : fdiv (canon a) (canon b) = fdiv a b := by
  by_cases h : infR < rung a ∨ infR < rung b
  · unfold fdiv
    rw [if_pos h, if_pos (h.imp (nan_canon a).mpr (nan_canon b).mpr)]
  · rw [canon_id (fun c => h (Or.inl c)), canon_id (fun c => h (Or.inr c))]

/-! the class -/
theorem absB_rung (a : Nat) (h : a < 2^64) : absB a = rung a := by
  unfold absB
  have h1 : Go.bits .andNot .u64 (a : Int) 9223372036854775808 = Go.bits .and .u64 (a : Int) 9223372036854775807 := by
    show IntKind.u64.wrap ((BitVec.ofInt 64 (a : Int) &&& ~~~ BitVec.ofInt 64 9223372036854775808).toNat : Int) = IntKind.u64.wrap ((BitVec.ofInt 64 (a : Int) &&& BitVec.ofInt 64 9223372036854775807).toNat : Int)
    rfl
  rw [h1, and_rung a h]; rfl
theorem cls_nan {x : Nat} (h : infR < rung x) : clsW x = 0 := by
  unfold clsW
  rw [show FloatKind.f64.format.order x x = none from order_nan (Or.inl h), if_pos (by rfl)]
theorem cls_not {x : Nat} (h : ¬ infR < rung x) : clsW x ≠ 0 := by
  unfold clsW
  have h1 : FloatKind.f64.format.order x x = some (compare (val x) (val x)) := order_real (by omega) (by omega)
  rw [h1, cmp_def, if_neg (Int.lt_irrefl _), if_pos rfl, if_neg (by simp)]
  repeat' split
  all_goals omega
theorem rung_absB (a : Nat) (h : a < 2^64) : rung (absB a) = rung a := by
  rw [absB_rung a h]; unfold rung; omega
theorem pClass (a : Nat) : real_Class.f a = some (clsW (absB a)) := rfl
theorem canon_lt (a : Nat) (h : a < 2^64) : canon a < 2^64 := by
  unfold canon; split
  · decide
  · exact h
theorem cls_canon (a : Nat) (h : a < 2^64) : clsW (absB (canon a)) = clsW (absB a) := by
  by_cases c : infR < rung a
  · rw [cls_nan (x := absB a) (by rw [rung_absB a h]; exact c), cls_nan (x := absB (canon a)) (by rw [rung_absB _ (canon_lt a h)]; exact (nan_canon a).mpr c)]
  · rw [canon_id c]
theorem cls_iff (a : Nat) (h : a < 2^64) : clsW (absB a) = 0 ↔ infR < rung a := by
  constructor
  · intro hc
    by_cases c : infR < rung a
    · exact c
    · exact absurd hc (cls_not (by rw [rung_absB a h]; exact c))
  · intro c; exact cls_nan (by rw [rung_absB a h]; exact c)

theorem RealProper : portagelaw03_RealProper.Pure := by
  intro a0 b0 n0 wa wb wn
  obtain ⟨a, rfl, ha⟩ := u64_nat wa
  obtain ⟨b, rfl, hb⟩ := u64_nat wb
  have hfi : ¬ infR < rung (fromN n0) := by unfold fromN; rw [rung_W]; omega
  have hn : nanN = 9221120237041090560 := rfl
  refine ⟨5, ?_⟩
  have h3 : portagelaw03_RealProper.j3 2 (a : Int) (b : Int) false = some true := by
    simp only [portagelaw03_RealProper.j3, Bool.false_eq_true, if_false]
    by_cases c : infR < rung a
    · have e := (cls_iff a ha).mpr c
      rw [p_isNaN, Option.bind_some, decide_eq_true c, if_pos rfl, pClass, Option.bind_some, if_pos e, if_pos (by rfl), pAwake, Option.bind_some]
    · have e : ¬ clsW (absB a) = 0 := fun h => c ((cls_iff a ha).mp h)
      rw [p_isNaN, Option.bind_some, decide_eq_false c, if_neg (by simp), p_isNaN, Option.bind_some, pClass, Option.bind_some, if_neg e, pClass, Option.bind_some]
      have e2 : (clsW (absB b) == 0) = decide (infR < rung b) := by
        rw [Bool.eq_iff_iff, beq_iff_eq, decide_eq_true_iff]; exact cls_iff b hb
      rw [e2, beq_self_eq_true, if_pos rfl, pAwake, Option.bind_some]
  have h2 : portagelaw03_RealProper.j2 3 (a : Int) (b : Int) ((fadd a b : Nat) : Int) ((fadd a (negW b) : Nat) : Int) ((fmul a b : Nat) : Int) ((fdiv a b : Nat) : Int) ((canon a : Nat) : Int) ((canon b : Nat) : Int) false = some true := by
    simp only [portagelaw03_RealProper.j2, Bool.false_eq_true, if_false]
    rw [pAdd, Option.bind_some, add_cc, if_pos rfl, pSub, Option.bind_some, sub_cc, if_pos rfl, pMul, Option.bind_some, mul_cc, if_pos rfl, pDiv, Option.bind_some, div_cc]
    rw [show (((fdiv a b : Nat) : Int) != ((fdiv a b : Nat) : Int)) = false from by simp]
    exact h3
  have hc : ((clsW (absB (canon a))) != clsW (absB a)) = false := by rw [cls_canon a ha]; simp
  have h1 : portagelaw03_RealProper.j1 4 (a : Int) (b : Int) ((fadd a b : Nat) : Int) ((fadd a (negW b) : Nat) : Int) ((fmul a b : Nat) : Int) ((fdiv a b : Nat) : Int) false = some true := by
    simp only [portagelaw03_RealProper.j1, Bool.false_eq_true, if_false]
    rw [pCanon, Option.bind_some, pCanon, Option.bind_some, p_proper (P_canon a), Option.bind_some, if_pos rfl]
    by_cases c : infR < rung a
    · have e1 : ((canon a : Nat) : Int) = 9221120237041090560 := by rw [canon_nan c]; rfl
      rw [p_isNaN, Option.bind_some, decide_eq_true c, if_pos rfl, Option.bind_some, if_pos rfl, if_pos e1, pClass, Option.bind_some, pClass, Option.bind_some, hc]
      exact h2
    · have e1 : ((canon a : Nat) : Int) = (a : Int) := by rw [canon_id c]
      rw [p_isNaN, Option.bind_some, decide_eq_false c, if_neg (by simp), if_pos e1, Option.bind_some, if_neg (by simp), pClass, Option.bind_some, pClass, Option.bind_some, hc]
      exact h2
  have h0 : portagelaw03_RealProper.j0 5 (a : Int) (b : Int) ((fadd a b : Nat) : Int) ((fadd a (negW b) : Nat) : Int) ((fmul a b : Nat) : Int) ((fdiv a b : Nat) : Int) false = some true := by
    simp only [portagelaw03_RealProper.j0, Bool.false_eq_true, if_false]
    rw [pNeg a ha, Option.bind_some, p_proper (show Proper (fneg a) from P_canon _), Option.bind_some, if_pos rfl, pSqrt, Option.bind_some, p_proper (P_sqrt a), Option.bind_some, if_pos rfl, pFloor, Option.bind_some, p_proper (P_floor a), Option.bind_some, if_pos rfl, pSingle, Option.bind_some, p_proper P_nan, Option.bind_some, Bool.not_true]
    exact h1
  unfold portagelaw03_RealProper.f
  rw [pAdd, Option.bind_some, pSub, Option.bind_some, pMul, Option.bind_some, pDiv, Option.bind_some, p_proper (P_add a b), Option.bind_some, if_pos rfl, p_proper (P_add a (negW b)), Option.bind_some, if_pos rfl, p_proper (P_mul a b), Option.bind_some, if_pos rfl, p_proper (P_div a b), Option.bind_some, if_pos rfl, pFromInt, Option.bind_some, p_isNaN, Option.bind_some, decide_eq_false hfi]
  exact h0
end Go.Proofs.Ytapgnackoclbeaa.Pure
