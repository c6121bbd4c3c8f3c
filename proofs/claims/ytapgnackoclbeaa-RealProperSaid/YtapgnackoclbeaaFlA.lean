import Ieee.Arith
namespace Go.Proofs.Ytapgnackoclbeaa.Fl
open Ieee

/-- the value of rung k, in units of 2^-1074 -/
def rv (k : Nat) : Nat := if k < 2^52 then k else (2^52 + k % 2^52) * 2^(k / 2^52 - 1)

theorem rv_small {k : Nat} (h : k < 2^53) : rv k = k := by
  unfold rv
  split
  · rfl
  · have h1 : k / 2^52 = 1 := by omega
    rw [h1]; simp; omega

theorem rv_mk (e f : Nat) (hf : f < 2^52) : rv ((e+1) * 2^52 + f) = (2^52 + f) * 2^e := by
  unfold rv
  rw [if_neg (by omega)]
  have h1 : ((e+1)*2^52 + f) % 2^52 = f := by omega
  have h2 : ((e+1)*2^52 + f) / 2^52 = e + 1 := by omega
  rw [h1, h2]; rfl

/-- e*2^52 + m, m from 2^52 (or e = 0) to 2^53 -/
theorem rv_norm (e m : Nat) (h : e = 0 ∨ 2^52 ≤ m) (hm : m ≤ 2^53) : rv (e * 2^52 + m) = m * 2^e := by
  by_cases h0 : m < 2^52
  · have : e = 0 := by omega
    subst this
    rw [rv_small (by omega)]; simp
  · by_cases h1 : m < 2^53
    · have := rv_mk e (m - 2^52) (by omega)
      rw [show (e+1)*2^52 + (m - 2^52) = e * 2^52 + m by omega, show 2^52 + (m - 2^52) = m by omega] at this
      exact this
    · have hm : m = 2^53 := by omega
      subst hm
      have := rv_mk (e+1) 0 (by omega)
      rw [show (e+1+1)*2^52 + 0 = e * 2^52 + 2^53 by omega] at this
      rw [this, Nat.pow_succ]; omega

theorem split_rung (k : Nat) : ∃ e m, k = e * 2^52 + m ∧ (e = 0 ∨ 2^52 ≤ m) ∧ m < 2^53 := by
  by_cases h : k < 2^53
  · exact ⟨0, k, by omega, Or.inl rfl, h⟩
  · exact ⟨k / 2^52 - 1, 2^52 + k % 2^52, by omega, Or.inr (by omega), by omega⟩

theorem rv_succ (e m : Nat) (h : e = 0 ∨ 2^52 ≤ m) (hm : m < 2^53) : rv (e * 2^52 + m + 1) = (m+1) * 2^e := by
  have := rv_norm e (m+1) (by omega) (by omega)
  rw [show e * 2^52 + m + 1 = e * 2^52 + (m+1) by omega]; exact this

theorem rv_lt_succ (k : Nat) : rv k < rv (k+1) := by
  obtain ⟨e, m, rfl, h, hm⟩ := split_rung k
  rw [rv_succ e m h hm, rv_norm e m h (by omega)]
  exact Nat.mul_lt_mul_of_pos_right (by omega) (Nat.two_pow_pos e)

theorem rv_lt {a b : Nat} (h : a < b) : rv a < rv b := by
  induction b with
  | zero => omega
  | succ b ih =>
    by_cases hab : a = b
    · subst hab; exact rv_lt_succ a
    · exact Nat.lt_trans (ih (by omega)) (rv_lt_succ b)

theorem rv_le {a b : Nat} (h : a ≤ b) : rv a ≤ rv b := by
  by_cases hab : a = b
  · subst hab; exact Nat.le_refl _
  · exact Nat.le_of_lt (rv_lt (by omega))

theorem rv_inj {a b : Nat} (h : rv a = rv b) : a = b := by
  rcases Nat.lt_trichotomy a b with h1 | h1 | h1
  · have := rv_lt h1; omega
  · exact h1
  · have := rv_lt h1; omega

/-- twice the middle between rungs k and k+1 -/
def mid (k : Nat) : Nat := rv k + rv (k+1)

theorem mid_lt {a b : Nat} (h : a < b) : mid a < mid b := by
  unfold mid
  have := rv_lt h
  have := rv_lt (show a+1 < b+1 by omega)
  omega

theorem mid_norm (e m : Nat) (h : e = 0 ∨ 2^52 ≤ m) (hm : m < 2^53) : mid (e * 2^52 + m) = (2*m+1) * 2^e := by
  unfold mid
  rw [rv_succ e m h hm, rv_norm e m h (by omega), ← Nat.add_mul]
  congr 1; omega

/-- x is t halves (of a unit 2^-1074), and, where ex does not say that this is all, a little more, less than a half: is k its rung? -/
structure NearT (t : Nat) (ex : Bool) (k : Nat) : Prop where
  hi : t < mid k ∨ (t = mid k ∧ ex = true ∧ k % 2 = 0)
  lo : k = 0 ∨ mid (k-1) < t ∨ (t = mid (k-1) ∧ (ex = true → k % 2 = 0))

/-- not above -/
def TLe (t : Nat) (ex : Bool) (t' : Nat) (ex' : Bool) : Prop := t < t' ∨ (t = t' ∧ (ex = true ∨ ex' = false))

theorem TLe.refl (t : Nat) (ex : Bool) : TLe t ex t ex := by
  cases ex <;> simp [TLe]

theorem NearT.mono {t t' : Nat} {ex ex' : Bool} {k k' : Nat} (h : NearT t ex k) (h' : NearT t' ex' k') (hle : TLe t ex t' ex') : k ≤ k' := by
  rcases Nat.lt_or_ge k' k with hlt | hge
  · exfalso
    have hmid : mid k' ≤ mid (k-1) := by
      by_cases h1 : k' = k-1
      · rw [h1]; exact Nat.le_refl _
      · exact Nat.le_of_lt (mid_lt (by omega))
    have hmid' : mid k' = mid (k-1) → k' = k - 1 := by
      intro heq
      by_cases h1 : k' = k-1
      · exact h1
      · have := mid_lt (show k' < k-1 by omega); omega
    have l := h.lo
    have u := h'.hi
    unfold TLe at hle
    rcases l with l | l | ⟨l, l'⟩
    · omega
    · rcases u with u | ⟨u, u', u''⟩ <;> omega
    · rcases u with u | ⟨u, u', u''⟩
      · omega
      · rcases hle with hle | ⟨hle, hle'⟩
        · omega
        · have hk := hmid' (by omega)
          rcases hle' with hex | hex
          · have := l' hex; omega
          · rw [hex] at u'; simp at u'
  · exact hge

theorem NearT.uniq {t : Nat} {ex : Bool} {k k' : Nat} (h : NearT t ex k) (h' : NearT t ex k') : k = k' :=
  Nat.le_antisymm (h.mono h' (TLe.refl _ _)) (h'.mono h (TLe.refl _ _))

/-- round to even by halves -/
def rneH (h : Nat) (ex : Bool) : Nat := if h % 2 = 1 ∧ (ex = false ∨ h / 2 % 2 = 1) then h / 2 + 1 else h / 2

theorem near_of_half {t : Nat} {ex : Bool} (e : Nat) (he : e = 0 ∨ 2^53 ≤ t / 2^e) (ht : t / 2^e < 2^54) :
    NearT t ex (e * 2^52 + rneH (t / 2^e) (ex && t % 2^e == 0)) := by
  have hP := Nat.two_pow_pos e
  have hdm := Nat.div_add_mod t (2^e)
  have hml := Nat.mod_lt t hP
  generalize t / 2^e = h at *
  generalize t % 2^e = r at *
  generalize hE : 2^e = P at *
  have hE' : (2:Nat)^e = P := hE
  -- t = P*h + r
  have key : ∀ m, (e = 0 ∨ 2^52 ≤ m) → m < 2^53 → mid (e*2^52+m) = (2*m+1)*P := fun m h1 h2 => by rw [mid_norm e m h1 h2, hE']
  -- middle below e*2^52+m, for m ≥ 1 in range
  have keylo : ∀ m, (e = 0 ∨ 2^52 ≤ m) → m ≤ 2^53 → 0 < e*2^52+m → 2 * mid (e*2^52+m-1) ≤ (4*m-1)*P ∧ ((2^52 < m ∨ e = 0) → mid (e*2^52+m-1) = (2*m-1)*P) := by
    intro m h1 h2 h3
    by_cases h4 : 2^52 < m ∨ e = 0
    · have : mid (e*2^52+(m-1)) = (2*(m-1)+1)*P := key (m-1) (by omega) (by omega)
      rw [show e*2^52+m-1 = e*2^52+(m-1) by omega, this]
      rw [show 2*(m-1)+1 = 2*m-1 by omega]
      refine ⟨?_, fun _ => rfl⟩
      rw [← Nat.mul_assoc]; exact Nat.mul_le_mul_right _ (by omega)
    · refine ⟨?_, fun h => absurd h h4⟩
      have hm : m = 2^52 := by omega
      obtain ⟨e', rfl⟩ : ∃ e', e = e'+1 := ⟨e-1, by omega⟩
      subst hm
      have := mid_norm e' (2^53-1) (by omega) (by omega)
      rw [show (e'+1)*2^52+2^52-1 = e'*2^52 + (2^53-1) by omega, this]
      rw [← hE', Nat.pow_succ]
      have := Nat.two_pow_pos e'
      omega
  unfold rneH
  by_cases hup : h % 2 = 1 ∧ ((ex && r == 0) = false ∨ h / 2 % 2 = 1)
  · rw [if_pos hup]
    have hrange : e = 0 ∨ 2^52 ≤ h/2+1 := by omega
    constructor
    · -- hi : t < mid
      left
      by_cases hl : h/2+1 < 2^53
      · rw [key _ hrange hl]
        have : (h+1) * P ≤ (2*(h/2+1)+1)*P := Nat.mul_le_mul_right _ (by omega)
        rw [Nat.add_mul, Nat.mul_comm h P] at this; omega
      · have h53 : h/2+1 = 2^53 := by omega
        rw [h53]
        have := mid_norm (e+1) (2^52) (by omega) (by omega)
        rw [show (e+1)*2^52+2^52 = e*2^52+2^53 by omega, Nat.pow_succ 2 e, hE'] at this
        rw [this]
        have : (h+1) * P ≤ (2^54) * P := Nat.mul_le_mul_right _ (by omega)
        rw [Nat.add_mul, Nat.mul_comm h P] at this; omega
    · right
      have hm1 : 2^52 < h/2+1 ∨ e = 0 := by omega
      have := (keylo (h/2+1) hrange (by omega) (by omega)).2 hm1
      rw [this]
      have hh : 2*(h/2+1)-1 = h := by omega
      rw [hh]
      by_cases hr : r = 0
      · right
        refine ⟨by rw [Nat.mul_comm]; omega, ?_⟩
        intro hex
        have h2 : h / 2 % 2 = 1 := by
          rcases hup.2 with h3 | h3
          · simp [hex, hr] at h3
          · exact h3
        omega
      · left; rw [Nat.mul_comm]; omega
  · rw [if_neg hup]
    have hrange : e = 0 ∨ 2^52 ≤ h/2 := by omega
    constructor
    · rw [key _ hrange (by omega)]
      by_cases hpar : h % 2 = 1
      · -- then ex and r = 0 and even
        have h1 : (ex && r == 0) = true ∧ h / 2 % 2 = 0 := by
          cases hb : (ex && r == 0)
          · exact absurd ⟨hpar, Or.inl hb⟩ hup
          · refine ⟨rfl, ?_⟩
            by_cases h2 : h/2%2 = 1
            · exact absurd ⟨hpar, Or.inr h2⟩ hup
            · omega
        simp at h1
        right
        refine ⟨?_, h1.1.1, by omega⟩
        rw [show 2*(h/2)+1 = h by omega, Nat.mul_comm]; omega
      · left
        have : (h+1) * P ≤ (2*(h/2)+1)*P := Nat.mul_le_mul_right _ (by omega)
        rw [Nat.add_mul, Nat.mul_comm h P] at this; omega
    · by_cases h0 : e*2^52+h/2 = 0
      · left; exact h0
      · right; left
        have := (keylo (h/2) hrange (by omega) (by omega)).1
        have h2 : 2 * (h * P) ≤ 2 * t := by rw [Nat.mul_comm h P]; omega
        have h3 : (4*(h/2)-1)*P + 1*P ≤ 2*(h*P) := by
          rw [← Nat.add_mul, ← Nat.mul_assoc]; exact Nat.mul_le_mul_right _ (by omega)
        omega
end Go.Proofs.Ytapgnackoclbeaa.Fl
