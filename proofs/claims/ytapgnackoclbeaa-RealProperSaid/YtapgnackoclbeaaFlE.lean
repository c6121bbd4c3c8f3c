import Derived.Test.YtapgnackoclbeaaFlD
import Derived.Test.YtapgnackoclbeaaFlH
import Derived.Test.YtapgnackoclbeaaPRealx9
set_option linter.unusedSimpArgs false
namespace Go.Proofs.Ytapgnackoclbeaa.PReal
open Go.RowKit Go.Proofs.Ytapgnackoclbeaa.Fl

theorem isNaN_eq (a : Nat) (h : a < 2^64) : portagelaw03_isNaN.f a = some (decide (infR < rung a)) := by
  unfold portagelaw03_isNaN.f
  rw [and_rung a h]
  congr 1
  rw [decide_eq_decide]
  show (9218868437227405312 : Int) < _ ↔ _
  rw [show (9218868437227405312 : Int) = (infR : Nat) from rfl]; omega

theorem key_eq (a : Nat) (h : a < 2^64) : portagelaw03_key.f a = some (Fl.key a) := by
  unfold portagelaw03_key.f Fl.key
  rw [and_rung a h, and_sgn a h]
  have h1 := rung_lt a
  cases sgn a
  · rw [if_pos (by simp), if_neg (by simp)]
    congr 1; unfold wrap64; omega
  · rw [if_neg (by simp), if_pos rfl]
    congr 1; unfold wrap64; omega

theorem awake_at (k : Nat) : portagelaw03_awake.f (k + 1) = some true := by
  have e1 : real_Add.f 4607182418800017408 4611686018427387904 = some 4613937818241073152 := by kernel_rfl
  have e2 : real_Mul.f 4611686018427387904 4613937818241073152 = some 4618441417868443648 := by kernel_rfl
  have e3 : real_Div.f 4618441417868443648 4613937818241073152 = some 4611686018427387904 := by kernel_rfl
  have e4 : real_Less.f 4607182418800017408 4611686018427387904 = some true := by kernel_rfl
  have e5 : real_Equal.f 4613937818241073152 4613937818241073152 = some true := by kernel_rfl
  have e6 : real_Sqrt.f 4607182418800017408 = some 4607182418800017408 := by kernel_rfl
  have e7 : real_FromInt.f 6 = some 4618441417868443648 := by kernel_rfl
  unfold portagelaw03_awake.f
  rw [e1, e2, e3]
  simp only [Option.bind_some, if_true, portagelaw03_awake.j0]
  rw [e4, e5, e6, e7]
  simp

theorem laidB_canon (r : Nat) : laidB r = canon r := by
  by_cases h : infR < rung r
  · rw [laidB_nan' h]; unfold canon; rw [if_pos h]; rfl
  · rw [laidB_of (by omega), canon_of (by omega)]
theorem opW_opN (r : Option Nat) : opW r = opN r := by
  cases r with
  | none => rfl
  | some r => exact laidB_canon r
theorem Add_eq (a b : Nat) : real_Add.f a b = some ((fadd a b : Nat) : Int) := by
  unfold real_Add.f; rw [Int.toNat_natCast, Int.toNat_natCast, opW_opN, add_eq]
theorem Sub_eq (a b : Nat) : real_Sub.f a b = some ((fadd a (negW b) : Nat) : Int) := by
  unfold real_Sub.f; rw [Int.toNat_natCast, Int.toNat_natCast, opW_opN, sub_add, add_eq]
theorem Mul_eq (a b : Nat) : real_Mul.f a b = some ((fmul a b : Nat) : Int) := by
  unfold real_Mul.f; rw [Int.toNat_natCast, Int.toNat_natCast, opW_opN, mul_eq]
theorem Div_eq (a b : Nat) : real_Div.f a b = some ((fdiv a b : Nat) : Int) := by
  unfold real_Div.f; rw [Int.toNat_natCast, Int.toNat_natCast, opW_opN, div_eq]
theorem Sqrt_eq (a : Nat) : real_Sqrt.f a = some ((fsqrt a : Nat) : Int) := by
  unfold real_Sqrt.f; rw [Int.toNat_natCast, opW_opN, sqrt_eq]
theorem Canon_eq (a : Nat) : real_Canon.f a = some ((canon a : Nat) : Int) := by
  unfold real_Canon.f; rw [Int.toNat_natCast, laidB_canon]
theorem negFloat_eq (a : Nat) (h : a < 2^64) : Op.negFloat .f64 a = negW a := by
  have h1 : Op.negFloat .f64 a = a ^^^ 2^63 := rfl
  rw [h1]
  apply Nat.eq_of_testBit_eq
  intro i
  rw [Nat.testBit_xor, Nat.testBit_two_pow]
  unfold negW word sgn rung
  by_cases hi : i < 63
  · have h2 : ∀ z : Nat, (z % 2^63).testBit i = z.testBit i := fun z => by rw [Nat.testBit_mod_two_pow]; simp [hi]
    rw [show decide (63 = i) = false by simp; omega, Bool.xor_false, ← h2 a]
    split
    · rw [← h2 (2^63 + a % 2^63), Nat.add_mod_left, Nat.mod_mod]
    · rfl
  · by_cases hi2 : i = 63
    · subst hi2
      rw [show decide (63 = 63) = true from rfl, Bool.xor_true, Nat.testBit_eq_decide_div_mod_eq]
      by_cases hh : a / 2^63 % 2 = 1
      · rw [hh]
        simp only [decide_true, Bool.not_true, beq_self_eq_true, Bool.false_eq_true, if_false]
        rw [Nat.testBit_mod_two_pow]; simp
      · have h3 : a / 2^63 % 2 = 0 := by omega
        rw [h3]
        simp only [show ((0:Nat) = 1) = False by simp, decide_false, Bool.not_false, show ((0:Nat) == 1) = false from rfl, if_true]
        rw [Nat.testBit_eq_decide_div_mod_eq, show (2^63 + a % 2^63) / 2^63 = 1 by omega]; rfl
    · rw [show decide (63 = i) = false by simp; omega, Bool.xor_false]
      have h64 : (2:Nat)^64 ≤ 2^i := Nat.pow_le_pow_right (by omega) (by omega)
      rw [Nat.testBit_lt_two_pow (Nat.lt_of_lt_of_le h h64), Nat.testBit_lt_two_pow]
      split <;> omega
theorem Neg_eq (a : Nat) (h : a < 2^64) : real_Neg.f a = some ((fneg a : Nat) : Int) := by
  unfold real_Neg.f; rw [Int.toNat_natCast, laidB_canon, negFloat_eq a h]; rfl
theorem nanN_lt : nanN < 2^64 := by decide
theorem word_lt64 {s : Bool} {k : Nat} (h : k ≤ infR) : word s k < 2^64 := word_lt (by have := Fl.infR_lt; omega)
theorem W_lt (s : Bool) (A B : Nat) : rndW s A B < 2^64 := word_lt64 (by omega)
theorem fadd_lt (a b : Nat) : fadd a b < 2^64 := by
  unfold fadd addW
  repeat' split
  all_goals first | exact nanN_lt | exact word_lt64 (by omega) | exact W_lt _ _ _
theorem fmul_lt (a b : Nat) : fmul a b < 2^64 := by
  unfold fmul mulW
  repeat' split
  all_goals first | exact nanN_lt | exact word_lt64 (by omega) | exact W_lt _ _ _
theorem fdiv_lt (a b : Nat) : fdiv a b < 2^64 := by
  unfold fdiv divW
  repeat' split
  all_goals first | exact nanN_lt | exact word_lt64 (by omega) | exact W_lt _ _ _
theorem fneg_lt (a : Nat) : fneg a < 2^64 := by
  by_cases h : infR < rung a
  · rw [fneg_nan h]; exact nanN_lt
  · rw [fneg_real (by omega)]; exact word_lt64 (by omega)
end Go.Proofs.Ytapgnackoclbeaa.PReal
