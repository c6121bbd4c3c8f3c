import Derived.Test.YtapgnackoclbeaaFlF
set_option linter.unusedSimpArgs false
set_option linter.unusedVariables false
namespace Go.Proofs.Ytapgnackoclbeaa.Fl
open Ieee

theorem rootFrom_spec (n : Nat) : ∀ (todo root : Nat), root * root ≤ n → n < (root + 2^todo) * (root + 2^todo) →
    Datum.rootFrom n todo root * Datum.rootFrom n todo root ≤ n ∧ n < (Datum.rootFrom n todo root + 1) * (Datum.rootFrom n todo root + 1) := by
  intro todo
  induction todo with
  | zero => intro root h1 h2; exact ⟨h1, h2⟩
  | succ t ih =>
    intro root h1 h2
    unfold Datum.rootFrom
    simp only [Nat.one_shiftLeft]
    apply ih
    · split
      · assumption
      · exact h1
    · split
      · rw [Nat.pow_succ] at h2
        rw [show root + 2^t + 2^t = root + 2^t * 2 by omega]; exact h2
      · omega

/-- the whole root -/
def isq (n : Nat) : Nat := Datum.rootFrom n (n.log2 / 2 + 1) 0
theorem isq_spec (n : Nat) : isq n * isq n ≤ n ∧ n < (isq n + 1) * (isq n + 1) := by
  apply rootFrom_spec n _ 0 (Nat.zero_le _)
  rw [Nat.zero_add, ← Nat.pow_add]
  have h2 : n < 2^(n.log2+1) := Nat.lt_log2_self
  exact Nat.lt_of_lt_of_le h2 (Nat.pow_le_pow_right (by omega) (by omega))
theorem sq_lt {a b : Nat} : a * a < b * b ↔ a < b := by
  constructor
  · intro h
    by_cases hh : a < b
    · exact hh
    · have := Nat.mul_le_mul (show b ≤ a by omega) (show b ≤ a by omega); omega
  · intro h; exact Nat.mul_self_lt_mul_self h
theorem sq_le {a b : Nat} : a * a ≤ b * b ↔ a ≤ b := by
  constructor
  · intro h
    by_cases hh : a ≤ b
    · exact hh
    · have := Nat.mul_self_lt_mul_self (show b < a by omega); omega
  · intro h; exact Nat.mul_self_le_mul_self h
theorem isq_uniq {n r : Nat} (h1 : r * r ≤ n) (h2 : n < (r+1)*(r+1)) : isq n = r := by
  obtain ⟨a, b⟩ := isq_spec n
  have h3 : isq n < r + 1 := sq_lt.mp (Nat.lt_of_le_of_lt a h2)
  have h4 : r < isq n + 1 := sq_lt.mp (Nat.lt_of_le_of_lt h1 b)
  omega
theorem isq_mono {a b : Nat} (h : a ≤ b) : isq a ≤ isq b := by
  obtain ⟨a1, b1⟩ := isq_spec a
  obtain ⟨a2, b2⟩ := isq_spec b
  have : isq a < isq b + 1 := sq_lt.mp (by omega)
  omega

/-- a whole root cut short -/
theorem isq_div (n P : Nat) (hP : 0 < P) : (isq n / P) * (isq n / P) * (P * P) ≤ n ∧ n < (isq n / P + 1) * (isq n / P + 1) * (P * P) := by
  obtain ⟨a, b⟩ := isq_spec n
  have h1 : isq n / P * P ≤ isq n := Nat.div_mul_le_self _ _
  have h2 : isq n + 1 ≤ (isq n / P + 1) * P := by
    have h3 := Nat.div_add_mod (isq n) P
    have h4 := Nat.mod_lt (isq n) hP
    rw [Nat.add_mul, Nat.one_mul, Nat.mul_comm]; omega
  constructor
  · refine Nat.le_trans ?_ a
    calc isq n / P * (isq n / P) * (P * P) = (isq n / P * P) * (isq n / P * P) := by simp only [Nat.mul_assoc, Nat.mul_comm, Nat.mul_left_comm]
      _ ≤ _ := Nat.mul_le_mul h1 h1
  · refine Nat.lt_of_lt_of_le b ?_
    calc (isq n + 1) * (isq n + 1) ≤ ((isq n / P + 1) * P) * ((isq n / P + 1) * P) := Nat.mul_le_mul h2 h2
      _ = _ := by simp only [Nat.mul_assoc, Nat.mul_comm, Nat.mul_left_comm]
theorem isq_exact (n P : Nat) (hP : 0 < P) : (isq n * isq n = n ∧ isq n % P = 0) ↔ (isq n / P) * (isq n / P) * (P * P) = n := by
  have h0 := Nat.div_add_mod (isq n) P
  constructor
  · rintro ⟨h1, h2⟩
    rw [h2, Nat.add_zero] at h0
    calc isq n / P * (isq n / P) * (P * P) = (P * (isq n / P)) * (P * (isq n / P)) := by simp only [Nat.mul_assoc, Nat.mul_comm, Nat.mul_left_comm]
      _ = n := by rw [h0, h1]
  · intro h
    have hc : ∀ q : Nat, (P * q) * (P * q) = q * q * (P * P) := fun q => by simp only [Nat.mul_assoc, Nat.mul_comm, Nat.mul_left_comm]
    have h3 : (P * (isq n / P)) * (P * (isq n / P)) = n := by rw [hc, h]
    have h4 : isq n = P * (isq n / P) := by
      apply isq_uniq
      · omega
      · rw [Nat.add_mul, Nat.mul_add, Nat.mul_add] at *; omega
    refine ⟨by rw [← h4] at h3; exact h3, ?_⟩
    omega

/-- the rung of the root of V, V in units of 2^-2148 -/
def rndS (V : Nat) : Nat := rndT (isq (4*V)) (isq (4*V) * isq (4*V) == 4*V)

theorem rndS_of_half {V e h : Nat} {x : Bool} (l : h * h * (2^e * 2^e) ≤ 4*V) (u : 4*V < (h+1)*(h+1)*(2^e * 2^e)) (hx : x = true ↔ h * h * (2^e*2^e) = 4*V) (h1 : e = 0 ∨ 2^53 ≤ h) (h2 : h < 2^54) :
    e * 2^52 + rneH h x = rndS V := by
  have hP := Nat.two_pow_pos e
  obtain ⟨a, b⟩ := isq_div (4*V) (2^e) hP
  have hP2 : 0 < 2^e * 2^e := Nat.mul_pos hP hP
  have hh : isq (4*V) / 2^e = h := by
    have c1 : (isq (4*V) / 2^e) * (isq (4*V) / 2^e) < (h+1)*(h+1) := Nat.lt_of_mul_lt_mul_right (Nat.lt_of_le_of_lt a u)
    have c2 : h * h < (isq (4*V) / 2^e + 1) * (isq (4*V) / 2^e + 1) := Nat.lt_of_mul_lt_mul_right (Nat.lt_of_le_of_lt l b)
    have := sq_lt.mp c1
    have := sq_lt.mp c2
    omega
  have hxx : x = ((isq (4*V) * isq (4*V) == 4*V) && isq (4*V) % 2^e == 0) := by
    rw [Bool.eq_iff_iff, hx, ← hh, ← isq_exact (4*V) (2^e) hP]
    simp
  rw [hxx, ← hh]
  unfold rndS
  exact (rndT_of_near (near_of_half e (by rw [hh]; exact h1) (by rw [hh]; exact h2))).symm

theorem nearest_root (n : Nat) (place : Int) (V : Nat) (hn : 2^106 ≤ n) (hV : 4 * V * (2^(-(place+1076)).toNat * 2^(-(place+1076)).toNat) = n * (2^(place+1076).toNat * 2^(place+1076).toNat)) :
    double.nearest false (2 * isq n + (isq n * isq n != n).toNat) place = word false (min (rndS V) infR) := by
  obtain ⟨mag, hmag⟩ : ∃ mag, mag = 2 * isq n + (isq n * isq n != n).toNat := ⟨_, rfl⟩
  have hq : 2^53 ≤ isq n := by
    have := isq_mono hn
    have h2 : isq (2^106) = 2^53 := isq_uniq (by decide) (by decide)
    omega
  have hlog : 54 ≤ mag.log2 := by
    rw [Nat.le_log2 (by omega)]; omega
  obtain ⟨e, g, d, he, hgd, hg0, hb1, hb2, hnn⟩ := nearest_core false mag place (by omega)
  have hg : g = 0 := by omega
  subst hg
  rw [← hmag, hnn]
  refine congrArg (fun z => word false (min z infR)) ?_
  rw [Nat.pow_zero, Nat.mul_one] at *
  have hd2 : 2 ≤ d := by omega
  have hm := mark_div (isq n) (isq n * isq n != n) d hd2
  rw [← hmag] at hm
  rw [hm.1, hm.2]
  rw [hm.1] at hb1 hb2
  have hP := Nat.two_pow_pos (d-2)
  obtain ⟨a, b⟩ := isq_div n (2^(d-2)) hP
  have hex := isq_exact n (2^(d-2)) hP
  generalize isq n / 2^(d-2) = h at *
  -- e + (-(place+1076))+ = d - 2 + (place+1076)+
  have hpe : 2^e * 2^(-(place+1076)).toNat = 2^(d-2) * 2^(place+1076).toNat := by
    rw [← Nat.pow_add, ← Nat.pow_add]; congr 1; omega
  generalize hX : 2^(-(place+1076)).toNat = X at *
  generalize hY : 2^(place+1076).toNat = Y at *
  have hXp : 0 < X := by rw [← hX]; exact Nat.two_pow_pos _
  have hYp : 0 < Y := by rw [← hY]; exact Nat.two_pow_pos _
  generalize (2:Nat)^(d-2) = D at *
  generalize hE : (2:Nat)^e = E at *
  have hXX : 0 < X * X := Nat.mul_pos hXp hXp
  have hYY : 0 < Y * Y := Nat.mul_pos hYp hYp
  have key : ∀ z : Nat, z * (E * E) * (X * X) = z * (D * D) * (Y * Y) := by
    intro z
    calc z * (E * E) * (X * X) = z * ((E * X) * (E * X)) := by simp only [Nat.mul_assoc, Nat.mul_comm, Nat.mul_left_comm]
      _ = _ := by rw [hpe]; simp only [Nat.mul_assoc, Nat.mul_comm, Nat.mul_left_comm]
  apply rndS_of_half (e := e) _ _ _ hb1 hb2
  · rw [hE]
    apply Nat.le_of_mul_le_mul_right _ hXX
    rw [key, hV]
    exact Nat.mul_le_mul_right _ a
  · rw [hE]
    apply Nat.lt_of_mul_lt_mul_right (a := X * X)
    rw [key, hV]
    exact Nat.mul_lt_mul_of_pos_right b hYY
  · rw [hE]
    have h5 : (h * h * (E * E) = 4 * V) ↔ h * h * (D * D) = n := by
      constructor
      · intro h6
        apply Nat.eq_of_mul_eq_mul_right hYY
        rw [← key, h6, hV]
      · intro h6
        apply Nat.eq_of_mul_eq_mul_right hXX
        rw [key, h6, hV]
    rw [h5, ← hex]
    simp

/-- the root of a finite word that is no zero -/
def sqrtW (a : Nat) : Nat := word false (min (rndS (rv (rung a) * U)) infR)
theorem sqrt_finite {a : Nat} (ha : rung a < infR) (h0 : rung a ≠ 0) (hs : sgn a = false) : double.sqrt a = some (sqrtW a) := by
  obtain ⟨m, i, hra, hi, hma, hm53, hm0⟩ := read_finite ha
  have hm : m ≠ 0 := fun h => h0 (hm0 h)
  unfold Format.sqrt sqrtW
  rw [hra, hs]
  simp only [Datum.root, if_neg hm, Bool.false_eq_true, if_false, Option.map_some, Format.write]
  congr 1
  rw [show double.fractionBits + 2 = 54 from rfl]
  have hlm : m.log2 < 53 := (Nat.log2_lt hm).mpr hm53
  obtain ⟨m0, hm0⟩ : ∃ m0, m0 = 2 * 54 - m.log2 := ⟨_, rfl⟩
  rw [← hm0]
  obtain ⟨more, hmore⟩ : ∃ more, more = m0 + ((i - m0) % 2).toNat := ⟨_, rfl⟩
  rw [← hmore]
  have heven : (i - more) % 2 = 0 := by omega
  rw [Nat.shiftLeft_eq]
  have hbig : 2^106 ≤ m * 2^more := by
    have h1 : 2^m.log2 ≤ m := Nat.log2_self_le hm
    calc 2^106 ≤ 2^(m.log2 + more) := Nat.pow_le_pow_right (by omega) (by omega)
      _ = 2^m.log2 * 2^more := Nat.pow_add _ _ _
      _ ≤ _ := Nat.mul_le_mul_right _ h1
  apply nearest_root (m * 2^more) _ _ hbig
  rw [← hma]
  have hpp : 4 * (2^(i+1074).toNat * U) * (2^(-((i - more) / 2 - 1 + 1076)).toNat * 2^(-((i - more) / 2 - 1 + 1076)).toNat) = 2^more * (2^((i - more) / 2 - 1 + 1076).toNat * 2^((i - more) / 2 - 1 + 1076).toNat) := by
    unfold U
    rw [show (4:Nat) = 2^2 from rfl, ← Nat.pow_add, ← Nat.pow_add, ← Nat.pow_add, ← Nat.pow_add, ← Nat.pow_add, ← Nat.pow_add]
    congr 1; rw [uE_is]; omega
  calc 4 * (m * 2^(i+1074).toNat * U) * (2^(-((i - more) / 2 - 1 + 1076)).toNat * 2^(-((i - more) / 2 - 1 + 1076)).toNat)
      = m * (4 * (2^(i+1074).toNat * U) * (2^(-((i - more) / 2 - 1 + 1076)).toNat * 2^(-((i - more) / 2 - 1 + 1076)).toNat)) := by simp only [Nat.mul_assoc, Nat.mul_comm, Nat.mul_left_comm]
    _ = _ := by rw [hpp, Nat.mul_assoc]
theorem sqrt_zero {a : Nat} (h : rung a = 0) : double.sqrt a = some (word (sgn a) 0) := by
  obtain ⟨m, i, hra, hi, hma, hm53, hm0⟩ := read_finite (w := a) (by rw [h]; decide)
  have hm : m = 0 := by
    rw [h, rv_small (by omega)] at hma
    rcases Nat.mul_eq_zero.mp hma with h | h
    · exact h
    · have := Nat.two_pow_pos (i+1074).toNat; omega
  subst hm
  unfold Format.sqrt
  rw [hra]
  simp only [Datum.root, if_true, Option.map_some, Format.write]
  rw [nearest_W _ 0 i 0 1 (by omega) (by simp)]
  unfold rndW; rw [rndQ_zero]; rfl
theorem sqrt_neg {a : Nat} (ha : rung a ≤ infR) (h0 : rung a ≠ 0) (hs : sgn a = true) : double.sqrt a = none := by
  unfold Format.sqrt
  rcases Nat.lt_or_eq_of_le ha with ha | ha
  · obtain ⟨m, i, hra, hi, hma, hm53, hm0⟩ := read_finite ha
    have hm : m ≠ 0 := fun h => h0 (hm0 h)
    rw [hra, hs]
    simp only [Datum.root, if_neg hm, if_true, Option.map_none]
  · rw [read_inf ha, hs]; rfl
theorem sqrt_inf {a : Nat} (ha : rung a = infR) (hs : sgn a = false) : double.sqrt a = some (word false infR) := by
  unfold Format.sqrt
  rw [read_inf ha, hs]
  simp only [Datum.root, Bool.false_eq_true, if_false, Option.map_some, Format.write, word_is, infR_is]
theorem sqrt_nan {a : Nat} (h : infR < rung a) : double.sqrt a = none := by
  unfold Format.sqrt; rw [read_nan h]; rfl
end Go.Proofs.Ytapgnackoclbeaa.Fl
