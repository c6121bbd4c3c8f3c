/- RealScales: by a power of two and back; what it is to be doubled. For every input. -/
import Derived.Test.YtapgnackoclbeaaPRealx10
import Derived.Test.YtapgnackoclbeaaFlE
import Derived.Test.YtapgnackoclbeaaFlJ
set_option linter.unusedSimpArgs false
set_option linter.unusedVariables false
namespace Go.Proofs.Ytapgnackoclbeaa.Pure
open Go.RowKit Go.Proofs.Ytapgnackoclbeaa.PReal Go.Proofs.Ytapgnackoclbeaa.Fl Go.Proofs.YtapgnackoclbeaaW.PrintWords Go.Proofs.YtapgnackoclbeaaW.PrintLast

/-- the word of 2^(K - 1023) -/
def pw (K : Nat) : Nat := K * 2^52
theorem pw_facts (K : Nat) (h0 : 1 ≤ K) (h1 : K ≤ 2046) : pw K < 2^63 ∧ rung (pw K) = pw K ∧ sgn (pw K) = false ∧ rung (pw K) < infR ∧ rv (rung (pw K)) = 2^(51 + K) := by
  have hinf : infR = 2047 * 2^52 := by decide
  have hlt : pw K < 2^63 := by unfold pw; omega
  have hr : rung (pw K) = pw K := Nat.mod_eq_of_lt hlt
  refine ⟨hlt, hr, ?_, ?_, ?_⟩
  · unfold sgn; rw [Nat.div_eq_of_lt hlt]; rfl
  · rw [hr]; unfold pw; omega
  · rw [hr]
    have := rv_norm (K-1) (2^52) (Or.inr (Nat.le_refl _)) (by decide)
    rw [show (K-1) * 2^52 + 2^52 = pw K by unfold pw; omega] at this
    rw [this, ← Nat.pow_add]
    congr 1; omega
theorem pow_U (i j : Nat) (h : i + j = 2148) : 2^i * 2^j = U * U := by
  unfold U
  rw [← Nat.pow_add, ← Nat.pow_add]
  congr 1

/-- over a power of two is by its inverse -/
theorem div_mul (a K L : Nat) (hK : 23 ≤ K) (hL : 23 ≤ L) (hKL : K + L = 2046) : fdiv a (pw K) = fmul a (pw L) := by
  obtain ⟨p1, p2, p3, p4, p5⟩ := pw_facts K (by omega) (by omega)
  obtain ⟨q1, q2, q3, q4, q5⟩ := pw_facts L (by omega) (by omega)
  have hp0 : rung (pw K) ≠ 0 := by rw [p2]; unfold pw; omega
  have hq0 : rung (pw L) ≠ 0 := by rw [q2]; unfold pw; omega
  unfold fdiv fmul
  by_cases c1 : infR < rung a
  · rw [if_pos (Or.inl c1), if_pos (Or.inl c1)]
  · have n1 : ¬(infR < rung a ∨ infR < rung (pw K)) := by omega
    have n2 : ¬(infR < rung a ∨ infR < rung (pw L)) := by omega
    have n3 : ¬ rung (pw K) = infR := by omega
    have n4 : ¬ rung (pw L) = infR := by omega
    rw [if_neg n1, if_neg n2, p3, q3]
    by_cases c2 : rung a = infR
    · rw [if_pos c2, if_pos c2, if_neg n3, if_neg hq0]
    · rw [if_neg c2, if_neg c2, if_neg n3, if_neg hp0, if_neg n4]
      unfold divW mulW
      rw [p3, q3, p5, q5]
      unfold rndW
      rw [rndQ_cross (Nat.two_pow_pos _) U_pos (C := rv (rung a) * 2^(51+L)) (D := U)]
      rw [Nat.mul_assoc, Nat.mul_assoc, pow_U (51+L) (51+K) (by omega)]

/-- doubled -/
theorem two_facts : rung 4611686018427387904 = pw 1024 ∧ sgn 4611686018427387904 = false ∧ (4611686018427387904 : Nat) = pw 1024 := by decide
theorem rv_two : rv (rung 4611686018427387904) = 2 * U := by
  obtain ⟨q1, q2, q3, q4, q5⟩ := pw_facts 1024 (by omega) (by omega)
  rw [two_facts.1, ← q2, q5]
  unfold U
  rw [show 51 + 1024 = uE + 1 by rw [uE_is], Nat.pow_succ, Nat.mul_comm]
theorem double_eq (a : Nat) (ha : a < 2^64) : fadd a a = fmul a 4611686018427387904 := by
  have hf : rung 4611686018427387904 < infR := by decide
  have h2 := rv_two
  have hs := two_facts.2.1
  have h0 : rung 4611686018427387904 ≠ 0 := by decide
  unfold fadd fmul
  by_cases c1 : infR < rung a
  · rw [if_pos (Or.inl c1), if_pos (Or.inl c1)]
  · have n1 : ¬(infR < rung a ∨ infR < rung a) := by omega
    have n2 : ¬(infR < rung a ∨ infR < rung 4611686018427387904) := by omega
    rw [if_neg n1, if_neg n2, hs]
    by_cases c2 : rung a = infR
    · rw [if_pos c2, if_pos c2, if_neg h0, if_neg (by simp)]
      cases sgn a <;> rfl
    · have n3 : ¬ rung 4611686018427387904 = infR := by omega
      rw [if_neg c2, if_neg c2, if_neg c2, if_neg n3]
      unfold addW mulW
      rw [h2, hs, Bool.and_self, Bool.xor_false]
      by_cases c3 : rung a = 0
      · have hv : val a = 0 := (val_zero_iff a).mpr c3
        have h00 : rv 0 = 0 := rfl
        rw [hv, if_pos (by rfl), c3, h00, Nat.zero_mul]
        unfold rndW
        rw [rndQ_zero]; rfl
      · have hv : val a ≠ 0 := fun h => c3 ((val_zero_iff a).mp h)
        have hp := rv_pos c3
        rw [if_neg (by omega)]
        have e1 : decide (val a + val a < 0) = sgn a := by
          unfold val
          cases sgn a
          · simp only [Bool.false_eq_true, if_false]; exact decide_eq_false (by omega)
          · simp only [if_true]; exact decide_eq_true (by omega)
        have e2 : (val a + val a).natAbs = 2 * rv (rung a) := by
          unfold val; split <;> omega
        rw [e1, e2]
        unfold rndW
        rw [rndQ_cross (C := rv (rung a) * (2 * U)) (D := U) (by omega) U_pos]
        rw [Nat.mul_one]; simp only [Nat.mul_assoc, Nat.mul_comm, Nat.mul_left_comm]

/-- scaled -/
theorem scale_eq (a e f K : Nat) (hr : rung a = e * 2^52 + f) (hf : f < 2^52) (he : 1 ≤ e ∧ e ≤ 2046) (hK : 1 ≤ K ∧ K ≤ 2046) (hE : 1024 ≤ e + K ∧ e + K ≤ 3069) :
    fmul a (pw K) = word (sgn a) ((e + K - 1023) * 2^52 + f) := by
  obtain ⟨p1, p2, p3, p4, p5⟩ := pw_facts K hK.1 hK.2
  have hinf : infR = 2047 * 2^52 := by decide
  have hra : rung a < infR := by omega
  have hrv : rv (rung a) = (2^52 + f) * 2^(e-1) := by
    have := rv_norm (e-1) (2^52+f) (Or.inr (by omega)) (by omega)
    rw [show (e-1) * 2^52 + (2^52 + f) = rung a by omega] at this; exact this
  have hk : rv ((e + K - 1023) * 2^52 + f) = (2^52 + f) * 2^(e + K - 1024) := by
    have := rv_norm (e + K - 1024) (2^52+f) (Or.inr (by omega)) (by omega)
    rw [show (e + K - 1024) * 2^52 + (2^52 + f) = (e + K - 1023) * 2^52 + f by omega] at this; exact this
  unfold fmul
  rw [if_neg (by omega), if_neg (by omega), if_neg (by omega)]
  unfold mulW
  rw [hrv, p5, p3, Bool.xor_false]
  have hx : rndQ ((2^52 + f) * 2^(e-1) * 2^(51+K)) U = (e + K - 1023) * 2^52 + f := by
    rw [← rndQ_exact ((e + K - 1023) * 2^52 + f)]
    apply rndQ_cross U_pos (by omega)
    rw [hk, Nat.mul_one, Nat.mul_assoc, ← Nat.pow_add, Nat.mul_assoc]
    unfold U
    rw [← Nat.pow_add, uE_is]
    rw [show e - 1 + (51 + K) = e + K - 1024 + 1074 by omega]
  unfold rndW
  rw [hx, Nat.min_eq_left (by omega)]

/-- the bits of a word with another exponent -/
theorem bits_word (a E f : Nat) (ha : a < 2^64) (hf : f = a % 2^52) (hE : E < 2048) :
    Go.bits .or .u64 ((E * 4503599627370496 : Nat) : Int) (Go.bits .and .u64 (a : Int) 9227875636482146303) = ((word (sgn a) (E * 2^52 + f) : Nat) : Int) := by
  have hE64 : E * 4503599627370496 < 18446744073709551616 := by omega
  have h1 := bits_and_u64_nat a 9227875636482146303 (by omega) (by omega)
  rw [show ((9227875636482146303 : Nat) : Int) = 9227875636482146303 from rfl] at h1
  have hfl : f < 2^52 := by rw [hf]; exact Nat.mod_lt _ (by omega)
  have hlt : E * 4503599627370496 + f < 2^63 := by
    have h9 := Nat.mul_le_mul_right 4503599627370496 (Nat.succ_le_of_lt hE)
    rw [Nat.succ_mul] at h9
    exact Nat.lt_of_lt_of_le (Nat.add_lt_add_left hfl _) h9
  have hmask : (9227875636482146303 : Nat) = 9223372036854775808 ||| 4503599627370495 := by decide
  have h2 : a &&& 4503599627370495 = f := by rw [hf]; exact Nat.and_two_pow_sub_one_eq_mod a 52
  have h3 : a &&& 9223372036854775808 = (if sgn a then 9223372036854775808 else 0) := by
    have := and_sgn a ha
    have h4 := bits_and_u64_nat a 9223372036854775808 (by omega) (by omega)
    rw [show ((9223372036854775808 : Nat) : Int) = 9223372036854775808 from rfl] at h4
    rw [h4] at this
    clear h1 h4
    by_cases hs : sgn a = true
    · rw [if_pos hs] at this ⊢; omega
    · rw [if_neg hs] at this ⊢; omega
  have hor : E * 4503599627370496 ||| f = E * 4503599627370496 + f := by
    have := Nat.two_pow_add_eq_or_of_lt hfl E
    rw [show 2^52 * E = E * 4503599627370496 from Nat.mul_comm _ _] at this
    exact this.symm
  have hand : a &&& 9227875636482146303 = (if sgn a then 9223372036854775808 else 0) ||| f := by
    rw [hmask, Nat.and_or_distrib_left, h2, h3]
  have hfin : (E * 4503599627370496) ||| (a &&& 9227875636482146303) = word (sgn a) (E * 2^52 + f) := by
    rw [hand]
    unfold word
    cases sgn a
    · rw [if_neg (by simp), if_neg (by simp), Nat.zero_or, hor]
    · rw [if_pos rfl, if_pos rfl]
      rw [← Nat.or_assoc, Nat.or_comm (E * 4503599627370496), Nat.or_assoc, hor]
      have := Nat.two_pow_add_eq_or_of_lt hlt 1
      rw [Nat.mul_one] at this
      exact this.symm
  have hlow : a &&& 9227875636482146303 < 2^64 := Nat.lt_of_le_of_lt Nat.and_le_left ha
  rw [h1, bits_or_u64_nat (E * 4503599627370496) (a &&& 9227875636482146303) hE64 hlow, hfin]

theorem tmod_range (z : Int) : -1000 ≤ Int.tmod z 1001 ∧ Int.tmod z 1001 ≤ 1000 := by
  have h1 := Int.tmod_lt_of_pos z (show (0:Int) < 1001 by omega)
  have h2 := Int.tmod_lt_of_pos (-z) (show (0:Int) < 1001 by omega)
  rw [Int.neg_tmod] at h2
  omega
theorem RealScales : portagelaw03_RealScales.Pure := by
  intro a0 by0 wa wb
  obtain ⟨a, rfl, ha⟩ := u64_nat wa
  have rb := i64_range wb
  have hu : ∀ z : Int, IntKind.u64.wrap z = z % 18446744073709551616 := fun z => by simp [IntKind.wrap, IntKind.bits, IntKind.signed]
  refine ⟨3, ?_⟩
  -- the shift
  have hkb := tmod_range by0
  unfold portagelaw03_RealScales.f
  generalize Int.tmod by0 1001 = k at *
  clear rb wb
  obtain ⟨K, hK⟩ : ∃ K : Nat, (K : Int) = 1023 + k := ⟨(1023 + k).toNat, by omega⟩
  obtain ⟨L, hL⟩ : ∃ L : Nat, (L : Int) = 1023 - k := ⟨(1023 - k).toNat, by omega⟩
  have hKb : 23 ≤ K := by omega
  have hLb : 23 ≤ L := by omega
  have hKLs : K + L = 2046 := by omega
  have eK : IntKind.u64.wrap ((IntKind.u64.wrap (wrap64 (1023 + k))) * 4503599627370496) = ((pw K : Nat) : Int) := by
    rw [hu, hu, ← hK]
    unfold pw wrap64; omega
  have eL : IntKind.u64.wrap ((IntKind.u64.wrap (wrap64 (1023 - k))) * 4503599627370496) = ((pw L : Nat) : Int) := by
    rw [hu, hu, ← hL]
    unfold pw wrap64; omega
  have HK := Aside0.mk eK
  have HL := Aside0.mk eL
  rw [eK, eL]
  clear eK eL
  have hj1t : ∀ x8 : Int, portagelaw03_RealScales.j1 2 (a : Int) k ((pw K : Nat) : Int) ((pw L : Nat) : Int) x8 true = some true := by
    intro x8; simp only [portagelaw03_RealScales.j1, if_true]
  rw [Div_eq, Option.bind_some, Mul_eq, Option.bind_some, if_pos (show ((fdiv a (pw K) : Nat) : Int) = ((fmul a (pw L) : Nat) : Int) from by rw [div_mul a K L hKb hLb hKLs]), Add_eq, Option.bind_some, show (4611686018427387904 : Int) = ((4611686018427387904 : Nat) : Int) from rfl, Mul_eq, Option.bind_some, if_pos (show ((fadd a a : Nat) : Int) = ((fmul a 4611686018427387904 : Nat) : Int) from by rw [double_eq a ha]), awake_at, Option.bind_some, Bool.not_true]
  simp only [portagelaw03_RealScales.j0, Bool.false_eq_true, if_false]
  -- the exponent
  obtain ⟨e, he⟩ : ∃ e, e = a / 2^52 % 2048 := ⟨_, rfl⟩
  have hel : e < 2048 := by rw [he]; exact Nat.mod_lt _ (by omega)
  have hrs : rung a = e * 2^52 + a % 2^52 := by rw [he]; unfold rung; omega
  have hf : a % 2^52 < 2^52 := Nat.mod_lt _ (by omega)
  have ee : wrap64 (Go.bits .and .u64 ((a : Int) / 4503599627370496) 2047) = (e : Int) := by
    rw [and_exp a ha, ← he]; unfold wrap64; omega
  rw [ee]
  by_cases c1 : e = 0
  · rw [if_pos (by omega)]; exact hj1t _
  rw [if_neg (by omega)]
  by_cases c2 : e = 2047
  · rw [if_pos (by omega)]; exact hj1t _
  rw [if_neg (by omega)]
  have ew : wrap64 ((e : Int) + k) = (e : Int) + k := by unfold wrap64; omega
  rw [ew]
  by_cases c3 : (e : Int) + k < 1
  · rw [if_pos c3]; exact hj1t _
  rw [if_neg c3]
  by_cases c4 : (e : Int) + k > 2046
  · rw [decide_eq_true c4]; exact hj1t _
  rw [decide_eq_false c4]
  simp only [portagelaw03_RealScales.j1, Bool.false_eq_true, if_false]
  have hup := scale_eq a e (a % 2^52) K hrs hf ⟨by omega, by omega⟩ ⟨by omega, by omega⟩ ⟨by omega, by omega⟩
  obtain ⟨E, hE⟩ : ∃ E, E = e + K - 1023 := ⟨_, rfl⟩
  rw [← hE] at hup
  have hEk : IntKind.u64.wrap ((IntKind.u64.wrap (wrap64 ((e : Int) + k))) * 4503599627370496) = ((E * 4503599627370496 : Nat) : Int) := by
    rw [hu, hu, ew]; omega
  have hlt63 : E * 2^52 + a % 2^52 < 2^63 := by omega
  have hback := scale_eq (word (sgn a) (E * 2^52 + a % 2^52)) E (a % 2^52) L (rung_word hlt63) hf ⟨by omega, by omega⟩ ⟨by omega, by omega⟩ ⟨by omega, by omega⟩
  rw [sgn_word hlt63, show (E + L - 1023) * 2^52 + a % 2^52 = rung a by rw [hrs, show E + L - 1023 = e by omega], word_of a ha] at hback
  rw [Mul_eq, Option.bind_some, hEk, bits_word a E (a % 2^52) ha rfl (by omega), hup, if_pos rfl, Mul_eq, Option.bind_some, hback, beq_self_eq_true]
end Go.Proofs.Ytapgnackoclbeaa.Pure
