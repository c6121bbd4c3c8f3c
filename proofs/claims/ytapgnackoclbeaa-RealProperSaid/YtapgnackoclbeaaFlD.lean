import Derived.Test.YtapgnackoclbeaaFlC
import Derived.Test.YtapgnackoclbeaaLeaf
import Derived.Laws.Bits64b
namespace Go.Proofs.Ytapgnackoclbeaa.PReal
open Go.Proofs.Ytapgnackoclbeaa.Fl

theorem u64_nat {a : Int} (h : (Lit.int .u64 a).wf = true) : ∃ n : Nat, a = n ∧ n < 2^64 := by
  simp [Lit.wf, IntKind.min, IntKind.max, IntKind.signed, IntKind.bits] at h
  exact ⟨a.toNat, by omega, by omega⟩
theorem i64_range {a : Int} (h : (Lit.int .i64 a).wf = true) : -9223372036854775808 ≤ a ∧ a ≤ 9223372036854775807 := by
  simp [Lit.wf, IntKind.min, IntKind.max, IntKind.signed, IntKind.bits] at h
  omega

theorem and_rung (a : Nat) (h : a < 2^64) : Go.bits .and .u64 (a : Int) 9223372036854775807 = (rung a : Nat) := by
  have := bits_and_u64_nat a 9223372036854775807 (by omega) (by omega)
  rw [show ((9223372036854775807 : Nat) : Int) = 9223372036854775807 from rfl] at this
  rw [this]
  have h2 : a &&& 9223372036854775807 = a % 2^63 := Nat.and_two_pow_sub_one_eq_mod a 63
  rw [h2]; rfl
theorem and_sgn (a : Nat) (h : a < 2^64) : Go.bits .and .u64 (a : Int) 9223372036854775808 = if sgn a then 9223372036854775808 else 0 := by
  have := bits_and_u64_nat a 9223372036854775808 (by omega) (by omega)
  rw [show ((9223372036854775808 : Nat) : Int) = 9223372036854775808 from rfl] at this
  rw [this]
  have h2 : a &&& 9223372036854775808 = (a.testBit 63).toNat * 2^63 := by
    apply Nat.eq_of_testBit_eq
    intro i
    rw [Nat.testBit_and, show (9223372036854775808 : Nat) = 2^63 from rfl, Nat.testBit_two_pow]
    by_cases hi : 63 = i
    · subst hi
      cases a.testBit 63
      · simp
      · decide
    · cases a.testBit 63
      · simp [hi]
      · rw [show true.toNat * 2^63 = 2^63 from rfl, Nat.testBit_two_pow]; simp [hi]
  rw [h2]
  have h3 : a.testBit 63 = sgn a := by
    unfold sgn; rw [Nat.testBit_eq_decide_div_mod_eq]
    by_cases hh : a / 2^63 % 2 = 1 <;> simp [hh]
  rw [h3]
  cases sgn a <;> simp
theorem and_exp (a : Nat) (h : a < 2^64) : Go.bits .and .u64 ((a : Int) / 4503599627370496) 2047 = (a / 2^52 % 2048 : Nat) := by
  have h0 : (a : Int) / 4503599627370496 = ((a / 2^52 : Nat) : Int) := by omega
  rw [h0]
  have := bits_and_u64_nat (a / 2^52) 2047 (by omega) (by omega)
  rw [show ((2047 : Nat) : Int) = 2047 from rfl] at this
  rw [this]
  have h2 : (a / 2^52) &&& 2047 = (a / 2^52) % 2^11 := Nat.and_two_pow_sub_one_eq_mod _ 11
  rw [h2]
theorem and_frac (a : Nat) (h : a < 2^64) : Go.bits .and .u64 (a : Int) 4503599627370495 = (a % 2^52 : Nat) := by
  have := bits_and_u64_nat a 4503599627370495 (by omega) (by omega)
  rw [show ((4503599627370495 : Nat) : Int) = 4503599627370495 from rfl] at this
  rw [this]
  have h2 : a &&& 4503599627370495 = a % 2^52 := Nat.and_two_pow_sub_one_eq_mod a 52
  rw [h2]
theorem or_sign (a : Nat) (h : a < 2^63) : Go.bits .or .u64 (a : Int) 9223372036854775808 = (a + 2^63 : Nat) := by
  have := bits_or_u64_nat a 9223372036854775808 (by omega) (by omega)
  rw [show ((9223372036854775808 : Nat) : Int) = 9223372036854775808 from rfl] at this
  rw [this]
  have h2 : 2^63 * 1 ||| a = 2^63 * 1 + a := (Nat.two_pow_add_eq_or_of_lt h 1).symm
  rw [Nat.or_comm, show (9223372036854775808 : Nat) = 2^63 * 1 from rfl, h2]
  congr 1; omega

/-- a result of an operation is no NaN -/
theorem laidB_of {r : Nat} (h : rung r ≤ infR) : laidB r = r := by
  have h1 : (FloatKind.f64.format.order r r == some .eq) = true := by
    rw [show FloatKind.f64.format.order r r = _ from order_real h h, cmp_def, if_neg (Int.lt_irrefl _), if_pos rfl]
    rfl
  unfold laidB
  rw [h1]; rfl
theorem laidB_nan' {r : Nat} (h : infR < rung r) : laidB r = nanW := by
  unfold laidB
  rw [show FloatKind.f64.format.order r r = none from Fl.order_nan (Or.inl h)]
  rfl
theorem rung_rndW (neg : Bool) (A B : Nat) : rung (rndW neg A B) = min (rndQ A B) infR := by
  unfold rndW
  apply rung_word
  have : infR < 2^63 := by decide
  omega
theorem laidB_rndW (neg : Bool) (A B : Nat) : laidB (rndW neg A B) = rndW neg A B := laidB_of (by rw [rung_rndW]; omega)
theorem infR_lt : infR < 2^63 := by decide
theorem laidB_word_inf (neg : Bool) : laidB (word neg infR) = word neg infR := laidB_of (by rw [rung_word infR_lt]; omega)
theorem laidB_word_zero (neg : Bool) : laidB (word neg 0) = word neg 0 := laidB_of (by rw [rung_word (by omega)]; omega)
end Go.Proofs.Ytapgnackoclbeaa.PReal
