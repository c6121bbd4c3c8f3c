import Derived.Test.YtapgnackoclbeaaFlG
set_option linter.unusedSimpArgs false
set_option linter.unusedVariables false
namespace Go.Proofs.Ytapgnackoclbeaa.Fl
open Ieee

/-- the one NaN; what an operation's answer is laid as -/
def nanN : Nat := 9221120237041090560
theorem nanN_nan : infR < rung nanN := by decide
def canon (a : Nat) : Nat := if infR < rung a then nanN else a
def opN : Option Nat → Nat
  | some r => canon r
  | none => nanN
def fneg (a : Nat) : Nat := canon (negW a)
def fadd (a b : Nat) : Nat :=
  if infR < rung a ∨ infR < rung b then nanN
  else if rung a = infR then (if rung b = infR ∧ sgn a ≠ sgn b then nanN else word (sgn a) infR)
  else if rung b = infR then word (sgn b) infR else addW a b
def fmul (a b : Nat) : Nat :=
  if infR < rung a ∨ infR < rung b then nanN
  else if rung a = infR then (if rung b = 0 then nanN else word (sgn a ^^ sgn b) infR)
  else if rung b = infR then (if rung a = 0 then nanN else word (sgn a ^^ sgn b) infR) else mulW a b
def fdiv (a b : Nat) : Nat :=
  if infR < rung a ∨ infR < rung b then nanN
  else if rung a = infR then (if rung b = infR then nanN else word (sgn a ^^ sgn b) infR)
  else if rung b = infR then word (sgn a ^^ sgn b) 0
  else if rung b = 0 then (if rung a = 0 then nanN else word (sgn a ^^ sgn b) infR) else divW a b
def fsqrt (a : Nat) : Nat :=
  if infR < rung a then nanN
  else if rung a = 0 then word (sgn a) 0
  else if sgn a then nanN
  else if rung a = infR then word false infR else sqrtW a

theorem infR_lt : infR < 2^63 := by decide
theorem rung_W (neg : Bool) (A B : Nat) : rung (rndW neg A B) = min (rndQ A B) infR := by
  unfold rndW
  apply rung_word
  have := infR_lt; omega
theorem sgn_W (neg : Bool) (A B : Nat) : sgn (rndW neg A B) = neg := by
  unfold rndW
  apply sgn_word
  have := infR_lt; omega
theorem canon_of {r : Nat} (h : rung r ≤ infR) : canon r = r := by
  unfold canon; rw [if_neg (by omega)]
theorem canon_W (neg : Bool) (A B : Nat) : canon (rndW neg A B) = rndW neg A B := canon_of (by rw [rung_W]; omega)
theorem canon_word {neg : Bool} {k : Nat} (h : k ≤ infR) : canon (word neg k) = word neg k :=
  canon_of (by rw [rung_word (by have := infR_lt; omega)]; exact h)
theorem canon_addW (a b : Nat) : canon (addW a b) = addW a b := by
  unfold addW; split
  · exact canon_word (by omega)
  · exact canon_W _ _ _

theorem add_eq (a b : Nat) : opN (double.add a b) = fadd a b := by
  unfold fadd
  by_cases h1 : infR < rung a ∨ infR < rung b
  · rw [add_nan h1, if_pos h1]; rfl
  · rw [if_neg h1]
    by_cases h2 : rung a = infR
    · rw [if_pos h2]
      by_cases h3 : rung b = infR
      · rw [add_inf_inf h2 h3]
        by_cases h4 : sgn a = sgn b
        · rw [if_pos h4, if_neg (by simp [h4])]; exact canon_word (Nat.le_refl _)
        · rw [if_neg h4, if_pos ⟨h3, h4⟩]; rfl
      · rw [add_inf_left h2 (by omega), if_neg (by simp [h3])]; exact canon_word (Nat.le_refl _)
    · rw [if_neg h2]
      by_cases h3 : rung b = infR
      · rw [add_inf_right (by omega) h3, if_pos h3]; exact canon_word (Nat.le_refl _)
      · rw [add_finite (by omega) (by omega), if_neg h3]; exact canon_addW _ _
theorem mul_eq (a b : Nat) : opN (double.mul a b) = fmul a b := by
  unfold fmul
  by_cases h1 : infR < rung a ∨ infR < rung b
  · rw [mul_nan h1, if_pos h1]; rfl
  · rw [if_neg h1]
    by_cases h2 : rung a = infR
    · rw [if_pos h2]
      by_cases h3 : rung b = infR
      · rw [mul_inf_inf h2 h3, if_neg (by rw [h3]; decide)]; exact canon_word (Nat.le_refl _)
      · rw [mul_inf_left h2 (by omega)]
        by_cases h4 : rung b = 0
        · rw [if_pos h4, if_pos h4]; rfl
        · rw [if_neg h4, if_neg h4]; exact canon_word (Nat.le_refl _)
    · rw [if_neg h2]
      by_cases h3 : rung b = infR
      · rw [mul_inf_right (by omega) h3, if_pos h3]
        by_cases h4 : rung a = 0
        · rw [if_pos h4, if_pos h4]; rfl
        · rw [if_neg h4, if_neg h4]; exact canon_word (Nat.le_refl _)
      · rw [mul_finite (by omega) (by omega), if_neg h3]; exact canon_W _ _ _
theorem div_nan {a b : Nat} (h : infR < rung a ∨ infR < rung b) : double.div a b = none := by
  unfold Format.div
  rcases h with h | h <;> rw [read_nan h]
  · rfl
  · cases double.read a <;> rfl
theorem div_eq (a b : Nat) : opN (double.div a b) = fdiv a b := by
  unfold fdiv
  by_cases h1 : infR < rung a ∨ infR < rung b
  · rw [div_nan h1, if_pos h1]; rfl
  · rw [if_neg h1]
    by_cases h2 : rung a = infR
    · rw [if_pos h2]
      unfold Format.div
      rw [read_inf h2]
      by_cases h3 : rung b = infR
      · rw [read_inf h3, if_pos h3]; rfl
      · obtain ⟨n, j, hrb, _⟩ := read_finite (w := b) (by omega)
        rw [hrb, if_neg h3]
        simp only [Datum.quotient, Option.map_some, Format.write, word_is, infR_is]
        exact canon_word (Nat.le_refl _)
    · rw [if_neg h2]
      by_cases h3 : rung b = infR
      · rw [if_pos h3]
        obtain ⟨m, i, hra, _⟩ := read_finite (w := a) (by omega)
        unfold Format.div
        rw [read_inf h3, hra]
        simp only [Datum.quotient, Option.map_some, Format.write]
        rw [nearest_W _ 0 0 0 1 (by omega) (by rw [Nat.zero_mul, Nat.zero_mul, Nat.zero_mul])]
        unfold rndW; rw [rndQ_zero]
        exact canon_word (by omega)
      · rw [if_neg h3]
        by_cases h4 : rung b = 0
        · rw [if_pos h4]
          obtain ⟨m, i, hra, _, hv, _, hm0⟩ := read_finite (w := a) (by omega)
          obtain ⟨n, j, hrb, _, hnv, _⟩ := read_finite (w := b) (by omega)
          have hn : n = 0 := by
            rw [h4, rv_small (by omega)] at hnv
            rcases Nat.mul_eq_zero.mp hnv with h | h
            · exact h
            · have := Nat.two_pow_pos (j+1074).toNat; omega
          unfold Format.div
          rw [hra, hrb]
          simp only [Datum.quotient, if_pos hn]
          by_cases hm : m = 0
          · rw [if_pos hm, if_pos (hm0 hm)]; rfl
          · rw [if_neg hm, if_neg]
            · simp only [Option.map_some, Format.write, word_is, infR_is]
              exact canon_word (Nat.le_refl _)
            · intro h; rw [h, rv_small (by omega)] at hv
              rcases Nat.mul_eq_zero.mp hv with h | h
              · exact hm h
              · have := Nat.two_pow_pos (i+1074).toNat; omega
        · rw [if_neg h4, div_finite (by omega) (by omega) h4]; exact canon_W _ _ _
theorem sqrt_eq (a : Nat) : opN (double.sqrt a) = fsqrt a := by
  unfold fsqrt
  by_cases h1 : infR < rung a
  · rw [sqrt_nan h1, if_pos h1]; rfl
  · rw [if_neg h1]
    by_cases h2 : rung a = 0
    · rw [sqrt_zero h2, if_pos h2]; exact canon_word (by omega)
    · rw [if_neg h2]
      cases hs : sgn a
      · rw [if_neg (by simp)]
        by_cases h3 : rung a = infR
        · rw [sqrt_inf h3 hs, if_pos h3]; exact canon_word (Nat.le_refl _)
        · rw [sqrt_finite (by omega) h2 hs, if_neg h3]
          unfold sqrtW; exact canon_word (by omega)
      · rw [sqrt_neg (by omega) h2 hs, if_pos rfl]; rfl

/-! signs -/
theorem word_inj_neg (s : Bool) (k : Nat) (h : k < 2^63) : negW (word s k) = word (!s) k := by
  unfold negW; rw [sgn_word h, rung_word h]
theorem neg_W (s : Bool) (A B : Nat) : negW (rndW s A B) = rndW (!s) A B := by
  unfold rndW
  apply word_inj_neg
  have := infR_lt; omega
theorem addW_comm (a b : Nat) : addW a b = addW b a := by
  unfold addW; rw [Int.add_comm, Bool.and_comm]
theorem fadd_comm (a b : Nat) : fadd a b = fadd b a := by
  unfold fadd
  by_cases h1 : infR < rung a ∨ infR < rung b
  · have h1' : infR < rung b ∨ infR < rung a := h1.symm
    rw [if_pos h1, if_pos h1']
  · have h1' : ¬(infR < rung b ∨ infR < rung a) := fun h => h1 h.symm
    rw [if_neg h1, if_neg h1']
    by_cases h2 : rung a = infR <;> by_cases h3 : rung b = infR
    · rw [if_pos h2, if_pos h3]
      by_cases h4 : sgn a = sgn b
      · rw [if_neg (by simp [h4]), if_neg (by simp [h4]), h4]
      · rw [if_pos ⟨h3, h4⟩, if_pos ⟨h2, fun h => h4 h.symm⟩]
    · rw [if_pos h2, if_neg h3, if_neg (by simp [h3]), if_pos h2]
    · rw [if_neg h2, if_pos h3, if_pos h3, if_neg (by simp [h2])]
    · rw [if_neg h2, if_neg h3, if_neg h3, if_neg h2, addW_comm]
theorem mulW_comm (a b : Nat) : mulW a b = mulW b a := by
  unfold mulW; rw [Nat.mul_comm, Bool.xor_comm]
theorem fmul_comm (a b : Nat) : fmul a b = fmul b a := by
  unfold fmul
  by_cases h1 : infR < rung a ∨ infR < rung b
  · have h1' : infR < rung b ∨ infR < rung a := h1.symm
    rw [if_pos h1, if_pos h1']
  · have h1' : ¬(infR < rung b ∨ infR < rung a) := fun h => h1 h.symm
    rw [if_neg h1, if_neg h1', mulW_comm, Bool.xor_comm]
    have hz : infR ≠ 0 := by decide
    by_cases h2 : rung a = infR <;> by_cases h3 : rung b = infR
    · rw [if_pos h2, if_pos h3, if_neg (by omega), if_neg (by omega)]
    · rw [if_pos h2, if_neg h3, if_pos h2]
    · rw [if_neg h2, if_pos h3, if_pos h3]
    · rw [if_neg h2, if_neg h3, if_neg h3, if_neg h2]
theorem fneg_nan {a : Nat} (h : infR < rung a) : fneg a = nanN := by
  unfold fneg canon; rw [rung_neg, if_pos h]
theorem fneg_real {a : Nat} (h : rung a ≤ infR) : fneg a = negW a := by
  unfold fneg canon; rw [rung_neg, if_neg (by omega)]
theorem fneg_word (s : Bool) {k : Nat} (h : k ≤ infR) : fneg (word s k) = word (!s) k := by
  have := infR_lt
  rw [fneg_real (by rw [rung_word (by omega)]; exact h), word_inj_neg _ _ (by omega)]
theorem fneg_W (s : Bool) (A B : Nat) : fneg (rndW s A B) = rndW (!s) A B := by
  rw [fneg_real (by rw [rung_W]; omega), neg_W]
theorem fneg_nanN : fneg nanN = nanN := fneg_nan nanN_nan
theorem fneg_fneg (a : Nat) (h : a < 2^64) : fneg (fneg a) = canon a := by
  by_cases h1 : infR < rung a
  · rw [fneg_nan h1, fneg_nanN]; unfold canon; rw [if_pos h1]
  · have e1 : fneg a = negW a := fneg_real (by omega)
    rw [e1, fneg_real (by rw [rung_neg]; omega), neg_neg a h]; unfold canon; rw [if_neg h1]
theorem rung_fneg {a : Nat} (h : rung a ≤ infR) : rung (fneg a) = rung a := by rw [fneg_real h, rung_neg]
theorem nan_fneg (a : Nat) : infR < rung (fneg a) ↔ infR < rung a := by
  by_cases h1 : infR < rung a
  · rw [fneg_nan h1]; exact ⟨fun _ => h1, fun _ => nanN_nan⟩
  · rw [fneg_real (by omega), rung_neg]

theorem fmul_neg (a b : Nat) : fmul (fneg a) b = fneg (fmul a b) := by
  by_cases h1 : infR < rung a ∨ infR < rung b
  · have h1' : infR < rung (fneg a) ∨ infR < rung b := by rw [nan_fneg]; exact h1
    unfold fmul; rw [if_pos h1, if_pos h1', fneg_nanN]
  · have ha : rung a ≤ infR := by omega
    unfold fmul
    rw [fneg_real ha]
    simp only [mulW, rung_neg, sgn_neg, if_neg h1]
    have hx : (!sgn a ^^ sgn b) = !(sgn a ^^ sgn b) := by cases sgn a <;> cases sgn b <;> rfl
    rw [show ((!sgn a) ^^ sgn b) = !(sgn a ^^ sgn b) from hx]
    split
    · split
      · exact fneg_nanN.symm
      · exact (fneg_word _ (Nat.le_refl _)).symm
    · split
      · split
        · exact fneg_nanN.symm
        · exact (fneg_word _ (Nat.le_refl _)).symm
      · exact (fneg_W _ _ _).symm
theorem fmul_neg_right (a b : Nat) : fmul a (fneg b) = fneg (fmul a b) := by
  rw [fmul_comm, fmul_neg, fmul_comm]
theorem fdiv_neg (a b : Nat) : fdiv (fneg a) b = fneg (fdiv a b) := by
  by_cases h1 : infR < rung a ∨ infR < rung b
  · have h1' : infR < rung (fneg a) ∨ infR < rung b := by rw [nan_fneg]; exact h1
    unfold fdiv; rw [if_pos h1, if_pos h1', fneg_nanN]
  · have ha : rung a ≤ infR := by omega
    unfold fdiv
    rw [fneg_real ha]
    simp only [divW, rung_neg, sgn_neg, if_neg h1]
    have hx : (!sgn a ^^ sgn b) = !(sgn a ^^ sgn b) := by cases sgn a <;> cases sgn b <;> rfl
    rw [show ((!sgn a) ^^ sgn b) = !(sgn a ^^ sgn b) from hx]
    split
    · split
      · exact fneg_nanN.symm
      · exact (fneg_word _ (Nat.le_refl _)).symm
    · split
      · exact (fneg_word _ (by omega)).symm
      · split
        · split
          · exact fneg_nanN.symm
          · exact (fneg_word _ (Nat.le_refl _)).symm
        · exact (fneg_W _ _ _).symm
theorem fdiv_neg_right (a b : Nat) : fdiv a (fneg b) = fneg (fdiv a b) := by
  by_cases h1 : infR < rung a ∨ infR < rung b
  · have h1' : infR < rung a ∨ infR < rung (fneg b) := by rw [nan_fneg]; exact h1
    unfold fdiv; rw [if_pos h1, if_pos h1', fneg_nanN]
  · have hb : rung b ≤ infR := by omega
    unfold fdiv
    rw [fneg_real hb]
    simp only [divW, rung_neg, sgn_neg, if_neg h1]
    have hx : (sgn a ^^ !sgn b) = !(sgn a ^^ sgn b) := by cases sgn a <;> cases sgn b <;> rfl
    rw [hx]
    split
    · split
      · exact fneg_nanN.symm
      · exact (fneg_word _ (Nat.le_refl _)).symm
    · split
      · exact (fneg_word _ (by omega)).symm
      · split
        · split
          · exact fneg_nanN.symm
          · exact (fneg_word _ (Nat.le_refl _)).symm
        · exact (fneg_W _ _ _).symm
/-- a sum of turned signs, where it is no zero -/
theorem fadd_neg (a b : Nat) (h0 : rung (fadd a b) ≠ 0) : fadd (fneg a) (fneg b) = fneg (fadd a b) := by
  by_cases h1 : infR < rung a ∨ infR < rung b
  · have h1' : infR < rung (fneg a) ∨ infR < rung (fneg b) := by rw [nan_fneg, nan_fneg]; exact h1
    unfold fadd; rw [if_pos h1, if_pos h1', fneg_nanN]
  · have ha : rung a ≤ infR := by omega
    have hb : rung b ≤ infR := by omega
    unfold fadd at h0 ⊢
    rw [if_neg h1] at h0
    rw [fneg_real ha, fneg_real hb]
    simp only [sgn_neg, rung_neg, if_neg h1]
    split
    · by_cases h2 : rung b = infR ∧ sgn a ≠ sgn b
      · rw [if_pos h2, if_pos ⟨h2.1, by intro h; exact h2.2 (by simpa using h)⟩, fneg_nanN]
      · rw [if_neg h2, if_neg (by rintro ⟨h3, h4⟩; exact h2 ⟨h3, fun h => h4 (by rw [h])⟩)]
        exact (fneg_word _ (Nat.le_refl _)).symm
    · rename_i h2
      rw [if_neg h2] at h0
      split
      · exact (fneg_word _ (Nat.le_refl _)).symm
      · rename_i h3
        rw [if_neg h3] at h0
        unfold addW at h0 ⊢
        rw [val_neg, val_neg]
        by_cases hv : val a + val b = 0
        · rw [if_pos hv, rung_word (by omega)] at h0; exact absurd rfl h0
        · rw [if_neg hv, if_neg (by omega), fneg_W]
          have e1 : (-val a + -val b).natAbs = (val a + val b).natAbs := by omega
          have e2 : decide (-val a + -val b < 0) = !decide (val a + val b < 0) := by
            by_cases hn : val a + val b < 0
            · rw [decide_eq_true hn, decide_eq_false (by omega)]; rfl
            · rw [decide_eq_false hn, decide_eq_true (by omega)]; rfl
          rw [e1, e2]
theorem fadd_canon (a b : Nat) : fadd (canon a) b = fadd a b := by
  by_cases h : infR < rung a
  · unfold fadd canon; rw [if_pos h, if_pos (Or.inl h), if_pos (Or.inl nanN_nan)]
  · rw [canon_of (by omega)]
end Go.Proofs.Ytapgnackoclbeaa.Fl
