import Derived.Test.YtapgnackoclbeaaFlJ
set_option linter.unusedSimpArgs false
set_option linter.unusedVariables false
namespace Go.Proofs.Ytapgnackoclbeaa.Fl
open Ieee

/-- a whole number that is a value -/
def F (x : Int) : Prop := ∃ k, rv k = x.natAbs
/-- r is a value as near to x as any -/
structure Rn (x r : Int) : Prop where
  f : F r
  near : ∀ y, F y → (r - x).natAbs ≤ (y - x).natAbs

theorem absP (m : Int) (P : Nat) : (m * (P : Int)).natAbs = m.natAbs * P := by rw [Int.natAbs_mul, Int.natAbs_natCast]
theorem F_of (m : Int) (e : Nat) (h : m.natAbs ≤ 2^53) : F (m * ((2^e : Nat) : Int)) := by
  unfold F; rw [absP]; exact rep e _ h
theorem F_shape {x : Int} (h : F x) : ∃ (m : Int) (e : Nat), x = m * ((2^e : Nat) : Int) ∧ m.natAbs < 2^53 ∧ (e = 0 ∨ 2^52 ≤ m.natAbs) := by
  obtain ⟨k, hk⟩ := h
  obtain ⟨m, e, hm, h1, h2⟩ := rv_shape k
  by_cases c : 0 ≤ x
  · refine ⟨m, e, ?_, by omega, by omega⟩
    rw [← Int.natCast_mul, ← hm, hk]; omega
  · refine ⟨-m, e, ?_, by omega, by omega⟩
    rw [Int.neg_mul, ← Int.natCast_mul, ← hm, hk]; omega
theorem F_neg {x : Int} (h : F x) : F (-x) := by unfold F at *; rw [Int.natAbs_neg]; exact h
theorem F_zero : F 0 := ⟨0, rfl⟩
theorem Rn.exact {x r : Int} (h : Rn x r) (hx : F x) : r = x := by
  have := h.near x hx; omega
theorem Rn.ge {x r y : Int} (h : Rn x r) (hy : F y) (hle : y ≤ x) : y ≤ r := by
  have := h.near y hy; omega
theorem Rn.le {x r y : Int} (h : Rn x r) (hy : F y) (hle : x ≤ y) : r ≤ y := by
  have := h.near y hy; omega
theorem Rn.self {x : Int} (h : F x) : Rn x x := ⟨h, fun y _ => by omega⟩

/-- a large sum is a multiple -/
theorem mult_of {x s : Int} (N : Int) (f : Nat) (hx : x = N * ((2^f : Nat) : Int)) (h : Rn x s) : ∃ i : Int, s = i * ((2^f : Nat) : Int) ∧ (x = s ∨ ∃ i2 : Int, s = i2 * ((2^(f+1) : Nat) : Int)) := by
  by_cases c : N.natAbs ≤ 2^53
  · have : s = x := h.exact (by rw [hx]; exact F_of N f c)
    exact ⟨N, by rw [this, hx], Or.inl this.symm⟩
  · have hP := Nat.two_pow_pos f
    have hb : 2^53 * 2^f ≤ s.natAbs := by
      by_cases c2 : 0 ≤ N
      · have h1 : ((2^53 : Nat) : Int) * ((2^f : Nat) : Int) ≤ x := by rw [hx]; exact Int.mul_le_mul_of_nonneg_right (by omega) (by omega)
        have h2 := h.ge (F_of _ f (by omega)) h1
        have h3 : (2^53 * 2^f : Nat) = (((2^53 : Nat) : Int) * ((2^f : Nat) : Int)).natAbs := by rw [absP]; rfl
        have h4 : (0:Int) ≤ ((2^53 : Nat) : Int) * ((2^f : Nat) : Int) := Int.mul_nonneg (by omega) (by omega)
        rw [h3]; omega
      · have h1 : x ≤ (-((2^53 : Nat) : Int)) * ((2^f : Nat) : Int) := by rw [hx]; exact Int.mul_le_mul_of_nonneg_right (by omega) (by omega)
        have h2 := h.le (F_of _ f (by omega)) h1
        have h3 : (2^53 * 2^f : Nat) = ((-((2^53 : Nat) : Int)) * ((2^f : Nat) : Int)).natAbs := by rw [absP]; rfl
        have h4 : (0:Int) ≤ ((2^53 : Nat) : Int) * ((2^f : Nat) : Int) := Int.mul_nonneg (by omega) (by omega)
        rw [Int.neg_mul] at h2 h3
        rw [h3]; omega
    obtain ⟨M, E, hs, h1, h2⟩ := F_shape h.f
    have hE : f + 1 ≤ E := by
      by_cases c3 : f + 1 ≤ E
      · exact c3
      · exfalso
        rw [hs, absP] at hb
        have h5 : 2^E ≤ 2^f := Nat.pow_le_pow_right (by omega) (by omega)
        have h6 : M.natAbs * 2^E ≤ M.natAbs * 2^f := Nat.mul_le_mul_left _ h5
        have h7 := Nat.le_of_mul_le_mul_right (Nat.le_trans hb h6) hP
        omega
    refine ⟨M * ((2^(E-f) : Nat) : Int), ?_, Or.inr ⟨M * ((2^(E-(f+1)) : Nat) : Int), ?_⟩⟩
    · rw [hs, Int.mul_assoc, ← Int.natCast_mul, ← Nat.pow_add, show E - f + f = E by omega]
    · rw [hs, Int.mul_assoc, ← Int.natCast_mul, ← Nat.pow_add, show E - (f+1) + (f+1) = E by omega]

/-- what a sum lost is a value -/
theorem err_F {a b s : Int} (Fa : F a) (j n : Int) (f : Nat) (ha : a = j * ((2^f : Nat) : Int)) (hb : b = n * ((2^f : Nat) : Int)) (hn : n.natAbs ≤ 2^53) (h : Rn (a + b) s) : F (a + b - s) := by
  have hP := Nat.two_pow_pos f
  have hx : a + b = (j + n) * ((2^f : Nat) : Int) := by rw [ha, hb, Int.add_mul]
  obtain ⟨i, hi, _⟩ := mult_of _ f hx h
  have hd : a + b - s = (j + n - i) * ((2^f : Nat) : Int) := by rw [hx, hi, Int.sub_mul]
  have h1 := h.near a Fa
  have h2 : (a + b - s).natAbs ≤ b.natAbs := by omega
  rw [hd] at h2 ⊢
  rw [hb, absP, absP] at h2
  have h3 := Nat.le_of_mul_le_mul_right h2 hP
  exact F_of _ f (by omega)

/-- how much a sum lost -/
theorem err_le {x s : Int} (N : Int) (e : Nat) (hx : x.natAbs ≤ 2^54 * 2^e) (h : Rn x s) : (s - x).natAbs ≤ 2^e := by
  have hP := Nat.two_pow_pos e
  obtain ⟨P, hPd⟩ : ∃ P : Nat, P = 2^e := ⟨_, rfl⟩
  have hP2 : (2:Nat)^(e+1) = 2 * P := by rw [Nat.pow_succ, hPd]; omega
  rw [← hPd] at hP hx ⊢
  obtain ⟨q, hq⟩ : ∃ q : Int, q = x / (2 * (P : Int)) := ⟨_, rfl⟩
  have hdm := Int.mul_ediv_add_emod x (2 * (P : Int))
  have hm0 := Int.emod_nonneg x (show (2 * (P : Int)) ≠ 0 by omega)
  have hm1 := Int.emod_lt_of_pos x (show (0:Int) < 2 * (P : Int) by omega)
  rw [← hq] at hdm
  generalize x % (2 * (P : Int)) = r at *
  have hq1 : -(2^53 : Int) ≤ q := by
    rw [hq, Int.le_ediv_iff_mul_le (by omega)]; omega
  have hq2 : q ≤ (2^53 : Int) := by
    have : q < 2^53 + 1 := by rw [hq, Int.ediv_lt_iff_lt_mul (by omega)]; omega
    omega
  have e1 : q * ((2^(e+1) : Nat) : Int) = 2 * (P : Int) * q := by rw [hP2, Int.natCast_mul, Int.mul_comm]; rfl
  have e2 : (q + 1) * ((2^(e+1) : Nat) : Int) = 2 * (P : Int) * q + 2 * (P : Int) := by rw [hP2, Int.natCast_mul, Int.mul_comm, Int.mul_add, Int.mul_one]; rfl
  by_cases c : r ≤ P
  · have := h.near _ (F_of q (e+1) (by omega))
    rw [e1] at this
    omega
  · have hq3 : q < 2^53 := by
      by_cases c2 : q < 2^53
      · exact c2
      · exfalso
        have : q = 2^53 := by omega
        rw [this] at hdm
        omega
    have := h.near _ (F_of (q+1) (e+1) (by omega))
    rw [e2] at this
    omega

/-- the sum less the greater is a value -/
theorem fast_F {a b s : Int} (m n : Int) (e f : Nat) (ha : a = m * ((2^e : Nat) : Int)) (hb : b = n * ((2^f : Nat) : Int)) (hfe : f ≤ e) (hm : m.natAbs < 2^53) (hn : n.natAbs < 2^53) (h : Rn (a + b) s) : F (s - a) := by
  have hP := Nat.two_pow_pos f
  have Fa : F a := by rw [ha]; exact F_of m e (by omega)
  have Fb : F b := by rw [hb]; exact F_of n f (by omega)
  have ha2 : a = m * ((2^(e-f) : Nat) : Int) * ((2^f : Nat) : Int) := by
    rw [ha, Int.mul_assoc, ← Int.natCast_mul, ← Nat.pow_add, show e - f + f = e by omega]
  have hx : a + b = (m * ((2^(e-f) : Nat) : Int) + n) * ((2^f : Nat) : Int) := by rw [Int.add_mul, ← ha2, ← hb]
  obtain ⟨i, hi, hor⟩ := mult_of _ f hx h
  rcases hor with hor | ⟨i2, hi2⟩
  · rw [← hor]; rw [show a + b - a = b by omega]; exact Fb
  have hne := h.near a Fa
  by_cases c : f + 1 ≤ e
  · have hP2 := Nat.two_pow_pos (f+1)
    have ha3 : a = m * ((2^(e-(f+1)) : Nat) : Int) * ((2^(f+1) : Nat) : Int) := by
      rw [ha, Int.mul_assoc, ← Int.natCast_mul, ← Nat.pow_add, show e - (f+1) + (f+1) = e by omega]
    have hd : s - a = (i2 - m * ((2^(e-(f+1)) : Nat) : Int)) * ((2^(f+1) : Nat) : Int) := by rw [Int.sub_mul, ← hi2, ← ha3]
    have h2 : (s - a).natAbs ≤ 2 * b.natAbs := by omega
    rw [hd] at h2 ⊢
    rw [hb, absP, absP, show 2 * (n.natAbs * 2^f) = n.natAbs * 2^(f+1) by rw [Nat.pow_succ]; simp only [Nat.mul_assoc, Nat.mul_comm, Nat.mul_left_comm]] at h2
    have h3 := Nat.le_of_mul_le_mul_right h2 hP2
    exact F_of _ _ (by omega)
  · have hef : e = f := by omega
    subst hef
    have hl : (a + b).natAbs ≤ 2^54 * 2^e := by
      have h1 : a.natAbs ≤ 2^53 * 2^e := by rw [ha, absP]; exact Nat.mul_le_mul_right _ (by omega)
      have h2 : b.natAbs ≤ 2^53 * 2^e := by rw [hb, absP]; exact Nat.mul_le_mul_right _ (by omega)
      omega
    have he := err_le 0 e hl h
    have hd : s - a = (i - m) * ((2^e : Nat) : Int) := by rw [Int.sub_mul, ← hi, ← ha]
    have h2 : (s - a).natAbs ≤ b.natAbs + 2^e := by omega
    rw [hd] at h2 ⊢
    rw [hb, absP, absP, show n.natAbs * 2^e + 2^e = (n.natAbs + 1) * 2^e by rw [Nat.add_mul, Nat.one_mul]] at h2
    have h3 := Nat.le_of_mul_le_mul_right h2 hP
    exact F_of _ _ (by omega)

/-- normal forms: the greater has the greater place -/
theorem place_le {a b : Int} {m n : Int} {e f : Nat} (ha : a = m * ((2^e : Nat) : Int)) (hb : b = n * ((2^f : Nat) : Int)) (hm : m.natAbs < 2^53) (hn : n.natAbs < 2^53) (hm2 : e = 0 ∨ 2^52 ≤ m.natAbs) (hn2 : f = 0 ∨ 2^52 ≤ n.natAbs) (h : b.natAbs ≤ a.natAbs) : f ≤ e := by
  by_cases c : f ≤ e
  · exact c
  · exfalso
    have h1 : 2^(e+1) ≤ 2^f := Nat.pow_le_pow_right (by omega) (by omega)
    have h2 : 2^52 * 2^(e+1) ≤ n.natAbs * 2^f := Nat.mul_le_mul (by omega) h1
    rw [ha, hb, absP, absP] at h
    have h3 : 2^52 * 2^(e+1) = 2^53 * 2^e := by rw [Nat.pow_succ]; omega
    have h4 : 2^53 * 2^e ≤ m.natAbs * 2^e := by omega
    have := Nat.le_of_mul_le_mul_right h4 (Nat.two_pow_pos e)
    omega

theorem fast_ge {a b s : Int} (Fa : F a) (Fb : F b) (hle : b.natAbs ≤ a.natAbs) (h : Rn (a + b) s) : F (s - a) ∧ F (a + b - s) := by
  obtain ⟨m, e, ha, hm, hm2⟩ := F_shape Fa
  obtain ⟨n, f, hb, hn, hn2⟩ := F_shape Fb
  have hfe := place_le ha hb hm hn hm2 hn2 hle
  refine ⟨fast_F m n e f ha hb hfe hm hn h, err_F Fa (m * ((2^(e-f) : Nat) : Int)) n f ?_ hb (by omega) h⟩
  rw [ha, Int.mul_assoc, ← Int.natCast_mul, ← Nat.pow_add, show e - f + f = e by omega]

/-- near differences -/
theorem sterbenz {a b : Int} (Fa : F a) (Fb : F b) (h : (a + b).natAbs ≤ a.natAbs) (h2 : a.natAbs ≤ b.natAbs) : F (a + b) := by
  obtain ⟨m, e, ha, hm, hm2⟩ := F_shape Fa
  obtain ⟨n, f, hb, hn, hn2⟩ := F_shape Fb
  have hfe := place_le hb ha hn hm hn2 hm2 h2
  have hb2 : b = n * ((2^(f-e) : Nat) : Int) * ((2^e : Nat) : Int) := by
    rw [hb, Int.mul_assoc, ← Int.natCast_mul, ← Nat.pow_add, show f - e + e = f by omega]
  have hx : a + b = (m + n * ((2^(f-e) : Nat) : Int)) * ((2^e : Nat) : Int) := by rw [Int.add_mul, ← hb2, ← ha]
  rw [hx] at h ⊢
  rw [ha, absP, absP] at h
  have h3 := Nat.le_of_mul_le_mul_right h (Nat.two_pow_pos e)
  exact F_of _ _ (by omega)

/-- the second less what was taken for it -/
theorem db_F {a b s bb : Int} (Fa : F a) (Fb : F b) (hab : a.natAbs ≤ b.natAbs) (hs : Rn (a + b) s) (hbb : Rn (s - a) bb) : F (b - bb) := by
  obtain ⟨m, e, hb, hm, hm2⟩ := F_shape Fb
  have hP := Nat.two_pow_pos e
  have hl : (a + b).natAbs ≤ 2^54 * 2^e := by
    have h2 : b.natAbs ≤ 2^53 * 2^e := by rw [hb, absP]; exact Nat.mul_le_mul_right _ (by omega)
    omega
  have he := err_le 0 e hl hs
  have e1 : (m + 1) * ((2^e : Nat) : Int) = b + ((2^e : Nat) : Int) := by rw [Int.add_mul, ← hb, Int.one_mul]
  have e2 : (m - 1) * ((2^e : Nat) : Int) = b - ((2^e : Nat) : Int) := by rw [Int.sub_mul, ← hb, Int.one_mul]
  have h1 := hbb.le (F_of (m+1) e (by omega)) (by rw [e1]; omega)
  have h2 := hbb.ge (F_of (m-1) e (by omega)) (by rw [e2]; omega)
  rw [e1] at h1
  rw [e2] at h2
  have hd : (b - bb).natAbs ≤ 2^e := by omega
  by_cases c : e = 0
  · rw [c, Nat.pow_zero] at hd
    have := F_of (b - bb) 0 (by omega)
    rw [Nat.pow_zero] at this
    simpa using this
  · obtain ⟨E, rfl⟩ : ∃ E, e = E + 1 := ⟨e-1, by omega⟩
    have hPE := Nat.two_pow_pos E
    obtain ⟨m', e', hb', hm', hm2'⟩ := F_shape hbb.f
    have hbig : (2^52 - 1) * 2^(E+1) ≤ bb.natAbs := by
      have h3 : 2^52 * 2^(E+1) ≤ b.natAbs := by rw [hb, absP]; exact Nat.mul_le_mul_right _ (by omega)
      omega
    have hE : E ≤ e' := by
      by_cases c2 : E ≤ e'
      · exact c2
      · exfalso
        rw [hb', absP] at hbig
        have h5 : 2^(e'+1) ≤ 2^E := Nat.pow_le_pow_right (by omega) (by omega)
        rw [Nat.pow_succ] at h5
        have h6 : m'.natAbs * 2^e' ≤ 2^53 * 2^e' := Nat.mul_le_mul_right _ (by omega)
        rw [Nat.pow_succ] at hbig
        omega
    have hd2 : b - bb = (m * 2 - m' * ((2^(e'-E) : Nat) : Int)) * ((2^E : Nat) : Int) := by
      rw [Int.sub_mul, Int.mul_assoc m', ← Int.natCast_mul, ← Nat.pow_add, show e' - E + E = e' by omega, ← hb', hb, Nat.pow_succ, Int.natCast_mul, Int.mul_assoc, Int.mul_comm 2]
      rfl
    rw [hd2] at hd ⊢
    rw [absP, Nat.pow_succ, Nat.mul_comm (2^E)] at hd
    have := Nat.le_of_mul_le_mul_right hd hPE
    exact F_of _ _ (by omega)

/-- THE SUM OF TWO, and what it lost: exact -/
theorem two_sum {a b s bb aa da db er : Int} (Fa : F a) (Fb : F b) (hs : Rn (a + b) s) (hbb : Rn (s - a) bb) (haa : Rn (s - bb) aa) (hda : Rn (a - aa) da) (hdb : Rn (b - bb) db) (her : Rn (da + db) er) : s + er = a + b := by
  by_cases c : b.natAbs ≤ a.natAbs
  · obtain ⟨f1, f2⟩ := fast_ge Fa Fb c hs
    have e1 := hbb.exact f1
    rw [e1, show s - (s - a) = a by omega] at haa
    have e2 := haa.exact Fa
    rw [e2, show a - a = 0 by omega] at hda
    have e3 := hda.exact F_zero
    rw [e1, show b - (s - a) = a + b - s by omega] at hdb
    have e4 := hdb.exact f2
    rw [e3, e4, Int.zero_add] at her
    have e5 := her.exact f2
    omega
  · by_cases c2 : F (a + b)
    · have e0 := hs.exact c2
      rw [e0, show a + b - a = b by omega] at hbb
      have e1 := hbb.exact Fb
      rw [e0, e1, show a + b - b = a by omega] at haa
      have e2 := haa.exact Fa
      rw [e2, show a - a = 0 by omega] at hda
      have e3 := hda.exact F_zero
      rw [e1, show b - b = 0 by omega] at hdb
      have e4 := hdb.exact F_zero
      rw [e3, e4, Int.zero_add] at her
      have e5 := her.exact F_zero
      omega
    · have hsa : a.natAbs ≤ s.natAbs := by
        by_cases c3 : a.natAbs ≤ s.natAbs
        · exact c3
        · exfalso
          apply c2
          apply sterbenz Fa Fb _ (by omega)
          by_cases c4 : (a + b).natAbs ≤ a.natAbs
          · exact c4
          · exfalso
            -- then s is no less than a
            by_cases c5 : 0 ≤ a + b
            · by_cases c6 : 0 ≤ a
              · have := hs.ge Fa (by omega); omega
              · have := hs.ge (F_neg Fa) (by omega); omega
            · by_cases c6 : 0 ≤ a
              · have := hs.le (F_neg Fa) (by omega); omega
              · have := hs.le Fa (by omega); omega
      obtain ⟨g1, g2⟩ := fast_ge hs.f (F_neg Fa) (by rw [Int.natAbs_neg]; exact hsa) (by rw [← Int.sub_eq_add_neg]; exact hbb)
      have e1 := haa.exact (by have := F_neg g1; rw [show -(bb - s) = s - bb by omega] at this; exact this)
      rw [e1] at hda
      have e2 := hda.exact (by have := F_neg g2; rw [show -(s + -a - bb) = a - (s - bb) by omega] at this; exact this)
      have e3 := hdb.exact (db_F Fa Fb (by omega) hs hbb)
      have hfin : F (da + db) := by
        obtain ⟨_, k2⟩ := fast_ge Fb Fa (by omega) (by rw [Int.add_comm]; exact hs)
        rw [e2, e3, show a - (s - bb) + (b - bb) = b + a - s by omega]; exact k2
      have e4 := her.exact hfin
      omega
end Go.Proofs.Ytapgnackoclbeaa.Fl
