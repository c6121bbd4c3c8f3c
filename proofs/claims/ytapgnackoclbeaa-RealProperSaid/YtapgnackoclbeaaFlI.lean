import Derived.Test.YtapgnackoclbeaaFlH
set_option linter.unusedSimpArgs false
set_option linter.unusedVariables false
namespace Go.Proofs.Ytapgnackoclbeaa.Fl
open Ieee

/-- which rung a quotient is rounded to, by the middles -/
structure IsR (A B r : Nat) : Prop where
  hi : 2*A < mid r * B ∨ (2*A = mid r * B ∧ r % 2 = 0)
  lo : r = 0 ∨ mid (r-1) * B < 2*A ∨ (2*A = mid (r-1) * B ∧ r % 2 = 0)

theorem IsR.near {A B r : Nat} (hB : 0 < B) (h : IsR A B r) : NearT (2*A/B) (2*A%B == 0) r := by
  have h0 := Nat.div_add_mod (2*A) B
  have h1 := Nat.mod_lt (2*A) hB
  generalize 2*A/B = t at *
  generalize 2*A%B = s at *
  constructor
  · rcases h.hi with h2 | ⟨h2, h3⟩
    · left
      by_cases c : t < mid r
      · exact c
      · have := Nat.mul_le_mul_right B (show mid r ≤ t by omega)
        rw [Nat.mul_comm t B] at this; omega
    · right
      rw [h2, Nat.mul_comm (mid r)] at h0
      have e : t = mid r := by
        rcases Nat.lt_trichotomy t (mid r) with c | c | c
        · have := Nat.mul_le_mul_left B (show t + 1 ≤ mid r by omega)
          rw [Nat.mul_add] at this; omega
        · exact c
        · have := Nat.mul_le_mul_left B (show mid r + 1 ≤ t by omega)
          rw [Nat.mul_add] at this; omega
      subst e
      exact ⟨rfl, by simp; omega, h3⟩
  · rcases h.lo with h2 | h2 | ⟨h2, h3⟩
    · left; exact h2
    · right
      have e : mid (r-1) ≤ t := by
        by_cases c : mid (r-1) ≤ t
        · exact c
        · have := Nat.mul_le_mul_left B (show t + 1 ≤ mid (r-1) by omega)
          rw [Nat.mul_add] at this
          rw [Nat.mul_comm (mid (r-1))] at h2; omega
      by_cases c : mid (r-1) < t
      · left; exact c
      · right
        have e2 : t = mid (r-1) := by omega
        refine ⟨e2, ?_⟩
        intro hs
        rw [e2, Nat.mul_comm] at h0
        have : s = 0 := by simpa using hs
        omega
    · right
      have e : mid (r-1) ≤ t := by
        by_cases c : mid (r-1) ≤ t
        · exact c
        · have := Nat.mul_le_mul_left B (show t + 1 ≤ mid (r-1) by omega)
          rw [Nat.mul_add] at this
          rw [Nat.mul_comm (mid (r-1))] at h2; omega
      by_cases c : mid (r-1) < t
      · left; exact c
      · right; exact ⟨by omega, fun _ => h3⟩
theorem rndQ_of {A B r : Nat} (hB : 0 < B) (h : IsR A B r) : rndQ A B = r := rndT_of_near (h.near hB)
theorem isR_rndQ (A B : Nat) (hB : 0 < B) : IsR A B (rndQ A B) := by
  have h := near_rndT (2*A/B) (2*A%B == 0)
  have h0 := Nat.div_add_mod (2*A) B
  have h1 := Nat.mod_lt (2*A) hB
  unfold rndQ
  generalize rndT (2*A/B) (2*A%B == 0) = r at *
  generalize 2*A/B = t at *
  generalize 2*A%B = s at *
  constructor
  · rcases h.hi with h2 | ⟨h2, h3, h4⟩
    · left
      have := Nat.mul_le_mul_left B (show t + 1 ≤ mid r by omega)
      rw [Nat.mul_add] at this
      rw [Nat.mul_comm (mid r)]; omega
    · right
      have : s = 0 := by simpa using h3
      rw [h2] at h0
      rw [Nat.mul_comm (mid r)]; exact ⟨by omega, h4⟩
  · rcases h.lo with h2 | h2 | ⟨h2, h3⟩
    · left; exact h2
    · right; left
      have := Nat.mul_le_mul_left B (show mid (r-1) + 1 ≤ t by omega)
      rw [Nat.mul_add] at this
      rw [Nat.mul_comm (mid (r-1))]; omega
    · right
      rw [h2, Nat.mul_comm] at h0
      by_cases c : s = 0
      · right; exact ⟨by omega, h3 (by simpa using c)⟩
      · left; omega
theorem rndS_of {V r : Nat} (hi : 4*V < mid r * mid r) (lo : r = 0 ∨ mid (r-1) * mid (r-1) < 4*V) : rndS V = r := by
  obtain ⟨a, b⟩ := isq_spec (4*V)
  unfold rndS
  apply rndT_of_near
  generalize isq (4*V) = t at *
  constructor
  · left; exact sq_lt.mp (by omega)
  · rcases lo with h | h
    · left; exact h
    · right
      have : mid (r-1) < t + 1 := sq_lt.mp (by omega)
      by_cases c : mid (r-1) < t
      · left; exact c
      · right
        have e : t = mid (r-1) := by omega
        refine ⟨e, ?_⟩
        intro hs
        have : t * t = 4*V := by simpa using hs
        rw [e] at this; omega

/-- the middle below -/
theorem mid_pred (e m : Nat) (hm : m < 2^53) (h : (e = 0 ∧ 0 < m) ∨ 2^52 < m) : mid (e * 2^52 + m - 1) = (2*m-1) * 2^e := by
  have := mid_norm e (m-1) (by omega) (by omega)
  rw [show e * 2^52 + m - 1 = e * 2^52 + (m-1) by omega, this]
  congr 1; omega
theorem mid_pred_le (r : Nat) (h : 0 < r) : mid (r-1) < 2 * rv r := by
  unfold mid
  have := rv_lt (show r - 1 < r by omega)
  rw [show r - 1 + 1 = r by omega]; omega

/-- how near a half-rounded number is -/
theorem rneH_near (N c : Nat) (hc : 0 < c) : 2^(c-1) * 2 = 2^c ∧ 2 * (rneH (N / 2^(c-1)) (N % 2^(c-1) == 0) * 2^c) ≤ 2*N + 2^c ∧ 2*N ≤ 2 * (rneH (N / 2^(c-1)) (N % 2^(c-1) == 0) * 2^c) + 2^c := by
  obtain ⟨d, rfl⟩ : ∃ d, c = d + 1 := ⟨c-1, by omega⟩
  rw [show d + 1 - 1 = d by omega, Nat.pow_succ]
  refine ⟨rfl, ?_⟩
  have h0 := Nat.div_add_mod N (2^d)
  have h1 := Nat.mod_lt N (Nat.two_pow_pos d)
  generalize N / 2^d = h at *
  generalize N % 2^d = s at *
  generalize (2:Nat)^d = P at *
  have hle := rneH_le h (s == 0)
  by_cases c1 : h % 2 = 1
  · -- h = 2q+1
    obtain ⟨q, rfl⟩ : ∃ q, h = 2*q+1 := ⟨h/2, by omega⟩
    rw [Nat.mul_add, ← Nat.mul_assoc] at h0
    have hv : rneH (2*q+1) (s == 0) = q ∧ s = 0 ∨ rneH (2*q+1) (s == 0) = q + 1 := by
      unfold rneH
      by_cases c2 : (2*q+1) % 2 = 1 ∧ ((s == 0) = false ∨ (2*q+1)/2 % 2 = 1)
      · right; rw [if_pos c2]; omega
      · left; rw [if_neg c2]
        have : (s == 0) = true := by
          cases hb : (s == 0)
          · exact absurd ⟨by omega, Or.inl hb⟩ c2
          · rfl
        exact ⟨by omega, by simpa using this⟩
    rcases hv with ⟨hv, hs⟩ | hv
    · rw [hv]
      have e : q * (P * 2) = P * 2 * q := Nat.mul_comm _ _
      rw [e]; omega
    · rw [hv]
      have e : (q+1) * (P * 2) = P * 2 * q + P * 2 := by rw [Nat.add_mul, Nat.mul_comm]; omega
      rw [e]; omega
  · obtain ⟨q, rfl⟩ : ∃ q, h = 2*q := ⟨h/2, by omega⟩
    rw [← Nat.mul_assoc] at h0
    have hv : rneH (2*q) (s == 0) = q := by unfold rneH; rw [if_neg (by omega)]; omega
    rw [hv]
    have e : q * (P * 2) = P * 2 * q := Nat.mul_comm _ _
    rw [e]; omega

/-- the root of a rounded square -/
theorem root_square (m f : Nat) (hm : 2^52 ≤ m) (hm2 : m < 2^53) (hf : 522 ≤ f) (hf2 : f ≤ 1521) :
    rndS (rv (rndQ ((m * 2^f) * (m * 2^f)) U) * U) = f * 2^52 + m ∧ rndQ ((m * 2^f) * (m * 2^f)) U < infR := by
  -- s: how many digits fall
  have hmm : 2^104 ≤ m * m := by
    have := Nat.mul_le_mul hm hm
    rw [← Nat.pow_add] at this; exact this
  have hmm2 : m * m < 2^106 := by
    have := Nat.mul_lt_mul'' hm2 hm2
    rw [← Nat.pow_add] at this; exact this
  have hu := Nat.two_pow_pos f
  -- by the size of the square
  have core : ∀ s : Nat, (s = 52 ∧ m * m < 2^105) ∨ (s = 53 ∧ 2^105 ≤ m * m) → rndS (rv (rndQ ((m * 2^f) * (m * 2^f)) U) * U) = f * 2^52 + m ∧ rndQ ((m * 2^f) * (m * 2^f)) U < infR := by
    intro s hs
    obtain ⟨E, hE⟩ : ∃ E, E + 1074 = 2 * f + s := ⟨2*f+s-1074, by omega⟩
    obtain ⟨M, hM⟩ : ∃ M, M = rneH (m * m / 2^(s-1)) (m * m % 2^(s-1) == 0) := ⟨_, rfl⟩
    have hUE : U * 2^E = 2^f * 2^f * 2^s := by
      unfold U; rw [← Nat.pow_add, ← Nat.pow_add, ← Nat.pow_add]; congr 1; rw [uE_is]; omega
    have hAA : (m * 2^f) * (m * 2^f) = m * m * (2^f * 2^f) := by simp only [Nat.mul_assoc, Nat.mul_comm, Nat.mul_left_comm]
    have hps : 2^s = 2 * 2^(s-1) := by rw [← Nat.pow_succ']; congr 1; omega
    have hPs := Nat.two_pow_pos (s-1)
    have hcr : m * m * (U * 2^E) = (2 * ((m * 2^f) * (m * 2^f))) * 2^(s-1) := by
      rw [hUE, hAA, hps]; simp only [Nat.mul_assoc, Nat.mul_comm, Nat.mul_left_comm]
    have hUE0 : 0 < U * 2^E := Nat.mul_pos U_pos (Nat.two_pow_pos E)
    have q1 := div_cross hPs hUE0 hcr
    have q2 := mod_cross hPs hUE0 hcr
    have hb1 : 2^53 ≤ m * m / 2^(s-1) := by
      rw [Nat.le_div_iff_mul_le hPs, ← Nat.pow_add]
      rcases hs with ⟨rfl, h⟩ | ⟨rfl, h⟩
      · exact hmm
      · exact h
    have hb2 : m * m / 2^(s-1) < 2^54 := by
      rw [Nat.div_lt_iff_lt_mul hPs, ← Nat.pow_add]
      rcases hs with ⟨rfl, h⟩ | ⟨rfl, h⟩
      · exact h
      · exact hmm2
    have hk : E * 2^52 + M = rndQ ((m * 2^f) * (m * 2^f)) U := by
      rw [hM]; exact rndQ_of_half q1 q2 (Or.inr hb1) hb2
    have hMle : M ≤ 2^53 := by
      have := rneH_le (m * m / 2^(s-1)) (m * m % 2^(s-1) == 0); omega
    have hMge : 2^52 ≤ M := by rw [hM]; unfold rneH; split <;> omega
    have hrv : rv (rndQ ((m * 2^f) * (m * 2^f)) U) = M * 2^E := by
      rw [← hk]; exact rv_norm E M (Or.inr hMge) hMle
    obtain ⟨_, n1, n2⟩ := rneH_near (m * m) s (by omega)
    rw [← hM] at n1 n2
    refine ⟨?_, ?_⟩
    · rw [hrv, Nat.mul_assoc, Nat.mul_comm (2^E) U, hUE]
      -- 4 M 2^s u u against the middles
      have e0 : M * (2^f * 2^f * 2^s) = (M * 2^s) * (2^f * 2^f) := by simp only [Nat.mul_assoc, Nat.mul_comm, Nat.mul_left_comm]
      rw [e0]
      have hmid : mid (f * 2^52 + m) = (2*m+1) * 2^f := mid_norm f m (Or.inr hm) hm2
      have hsq : ∀ z : Nat, z * 2^f * (z * 2^f) = z * z * (2^f * 2^f) := fun z => by simp only [Nat.mul_assoc, Nat.mul_comm, Nat.mul_left_comm]
      have huu : 0 < 2^f * 2^f := Nat.mul_pos hu hu
      -- the bound on what was lost
      have hlost : 2 * 2^s < 4 * m ∨ M * 2^s = m * m := by
        rcases hs with ⟨rfl, h⟩ | ⟨rfl, h⟩
        · left
          have : (2:Nat)^52 * 2 = 2^53 := rfl
          omega
        · left
          have : 2^52 * 2^52 * 2 ≤ m * m := h
          have : ¬ m * m ≤ 6369051672525773 * 6369051672525772 → 6369051672525773 ≤ m := by
            intro h2
            by_cases c : 6369051672525773 ≤ m
            · exact c
            · have := Nat.mul_le_mul (show m ≤ 6369051672525772 by omega) (show m ≤ 6369051672525772 by omega)
              omega
          have := this (by omega)
          have h53 : (2:Nat)^53 = 9007199254740992 := rfl
          omega
      have hupper : 4 * (M * 2^s) < (2*m+1) * (2*m+1) := by
        have e : (2*m+1) * (2*m+1) = 4 * (m * m) + 4*m + 1 := by
          rw [Nat.add_mul, Nat.mul_add, Nat.mul_assoc, Nat.mul_left_comm m 2 m]; omega
        rw [e]; omega
      apply rndS_of
      · rw [hmid, hsq, ← Nat.mul_assoc 4]
        exact Nat.mul_lt_mul_of_pos_right hupper huu
      · right
        by_cases c : m = 2^52
        · -- an exact square
          have hex : M * 2^s = m * m := by
            rcases hs with ⟨rfl, h⟩ | ⟨rfl, h⟩
            · rw [hM, c]; decide
            · rw [c] at h; exact absurd h (by decide)
          rw [hex]
          have h1 := mid_pred_le (f * 2^52 + m) (by omega)
          rw [rv_norm f m (Or.inr hm) (by omega)] at h1
          have h2 := Nat.mul_self_lt_mul_self h1
          have e : 2 * (m * 2^f) * (2 * (m * 2^f)) = 4 * (m * m * (2^f * 2^f)) := by
            rw [← hAA]; exact Nat.mul_mul_mul_comm 2 (m * 2^f) 2 (m * 2^f)
          rw [e] at h2; exact h2
        · rw [mid_pred f m hm2 (Or.inr (by omega)), hsq, ← Nat.mul_assoc 4]
          apply Nat.mul_lt_mul_of_pos_right _ huu
          obtain ⟨z, rfl⟩ : ∃ z, m = z + 1 := ⟨m-1, by omega⟩
          have e : (2*(z+1)-1) * (2*(z+1)-1) = 4 * ((z+1) * (z+1)) - 4*(z+1) + 1 := by
            rw [show 2*(z+1)-1 = 2*z+1 by omega, Nat.add_mul, Nat.mul_add, Nat.mul_assoc, Nat.mul_left_comm z 2 z, Nat.add_mul z 1, Nat.mul_add z]; omega
          have hbig := Nat.mul_le_mul (show 1 ≤ z + 1 by omega) (Nat.le_refl (z+1))
          rw [e]; omega
    · rw [← hk]
      have : infR = 2047 * 2^52 := by decide
      omega
  by_cases c : m * m < 2^105
  · exact core 52 (Or.inl ⟨rfl, c⟩)
  · exact core 53 (Or.inr ⟨rfl, by omega⟩)
end Go.Proofs.Ytapgnackoclbeaa.Fl
