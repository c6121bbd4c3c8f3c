import Derived.Test.YtapgnackoclbeaaFlA
namespace Go.Proofs.Ytapgnackoclbeaa.Fl
open Ieee

theorem div_cross {a b c d : Nat} (hb : 0 < b) (hd : 0 < d) (h : a * d = c * b) : a / b = c / d := by
  rw [← Nat.mul_div_mul_right a b hd, h, Nat.mul_comm b d, Nat.mul_div_mul_right c d hb]

theorem mod_cross {a b c d : Nat} (hb : 0 < b) (hd : 0 < d) (h : a * d = c * b) : (a % b == 0) = (c % d == 0) := by
  rw [Bool.eq_iff_iff, beq_iff_eq, beq_iff_eq]
  have key : ∀ {a b c d : Nat}, 0 < b → 0 < d → a * d = c * b → a % b = 0 → c % d = 0 := by
    intro a b c d hb hd h h0
    obtain ⟨k, rfl⟩ := Nat.dvd_of_mod_eq_zero h0
    apply Nat.mod_eq_zero_of_dvd
    refine ⟨k, ?_⟩
    apply Nat.eq_of_mul_eq_mul_left hb
    have h1 : c * b = d * k * b := by rw [← h]; simp only [Nat.mul_comm, Nat.mul_left_comm]
    exact congrArg (b * ·) (Nat.eq_of_mul_eq_mul_right hb h1)
  exact ⟨key hb hd h, key hd hb h.symm⟩

theorem cut_even (neg : Bool) (n d : Nat) : Toward.even.cut neg n d = rneH (2*n / 2^d) (2*n % 2^d == 0) := by
  have core : ∀ g : Nat, 0 < g → n / g + (decide (g < 2 * (n % g)) || (g == 2 * (n % g) && n / g % 2 == 1)).toNat = rneH (2*n / g) (2*n % g == 0) := by
    intro g hg
    have hdm := Nat.div_add_mod n g
    have hml := Nat.mod_lt n hg
    generalize n / g = l at *
    generalize n % g = r at *
    have h2 : 2*n = g*(2*l) + 2*r := by rw [← hdm, Nat.mul_add, ← Nat.mul_assoc, Nat.mul_comm 2 g, Nat.mul_assoc]
    by_cases hr : 2*r < g
    · have e1 : 2*n/g = 2*l := by
        rw [h2, Nat.mul_add_div hg, Nat.div_eq_of_lt hr]; rfl
      rw [e1]
      unfold rneH
      rw [if_neg (by omega)]
      have : (decide (g < 2 * r) || (g == 2 * r && l % 2 == 1)) = false := by
        simp; constructor
        · omega
        · intro h; omega
      rw [this]; simp
    · have e1 : 2*n/g = 2*l+1 := by
        rw [h2, Nat.mul_add_div hg]
        have : 2*r/g = 1 := by
          rw [Nat.div_eq_iff hg]; omega
        rw [this]
      have e2 : 2*n%g = 2*r - g := by
        rw [h2, Nat.mul_add_mod]
        rw [Nat.mod_eq_sub_mod (by omega), Nat.mod_eq_of_lt (by omega)]
      rw [e1, e2]
      unfold rneH
      by_cases hr2 : g = 2*r
      · have h3 : (2*r - g == 0) = true := by simp; omega
        rw [h3]
        have h4 : (decide (g < 2 * r) || (g == 2 * r && l % 2 == 1)) = (l % 2 == 1) := by
          have : decide (g < 2*r) = false := by simp; omega
          rw [this]; simp [hr2]
        rw [h4]
        by_cases hl : l % 2 = 1
        · rw [if_pos (by constructor; omega; right; omega)]
          have : (l % 2 == 1) = true := by simpa using hl
          rw [this]; simp; omega
        · rw [if_neg (by simp; omega)]
          have : (l % 2 == 1) = false := by simpa using hl
          rw [this]; simp; omega
      · have h3 : (2*r - g == 0) = false := by simp; omega
        have h4 : (decide (g < 2 * r) || (g == 2 * r && l % 2 == 1)) = true := by
          have : decide (g < 2*r) = true := by simp; omega
          rw [this]; simp
        rw [h3, h4, if_pos (by constructor; omega; left; rfl)]
        simp; omega
  unfold Toward.cut
  simp only [Nat.one_shiftLeft]
  by_cases hd : d ≤ n.log2 + 2
  · rw [Nat.min_eq_left hd]
    exact core (2^d) (Nat.two_pow_pos d)
  · rw [Nat.min_eq_right (by omega)]
    have hlt : n < 2^(n.log2+1) := Nat.lt_log2_self
    have h2 : 2*n < 2^(n.log2+2) := by rw [Nat.pow_succ]; omega
    have h3 : (2:Nat)^(n.log2+2) ≤ 2^d := Nat.pow_le_pow_right (by omega) (by omega)
    rw [core (2^(n.log2+2)) (Nat.two_pow_pos _)]
    rw [Nat.div_eq_of_lt h2, Nat.div_eq_of_lt (by omega : 2*n < 2^d), Nat.mod_eq_of_lt h2, Nat.mod_eq_of_lt (by omega : 2*n < 2^d)]

/-- the rung of t halves -/
def rndT (t : Nat) (ex : Bool) : Nat := (t.log2 - 53) * 2^52 + rneH (t / 2^(t.log2-53)) (ex && t % 2^(t.log2-53) == 0)

theorem log_range (t : Nat) : (t.log2 - 53 = 0 ∨ 2^53 ≤ t / 2^(t.log2-53)) ∧ t / 2^(t.log2-53) < 2^54 := by
  have h2 : t < 2^(t.log2+1) := Nat.lt_log2_self
  have hP := Nat.two_pow_pos (t.log2-53)
  by_cases h : t.log2 ≤ 53
  · rw [Nat.sub_eq_zero_of_le h]
    refine ⟨Or.inl rfl, ?_⟩
    rw [Nat.pow_zero, Nat.div_one]
    exact Nat.lt_of_lt_of_le h2 (Nat.pow_le_pow_right (by omega) (by omega))
  · have ht : t ≠ 0 := by intro h0; rw [h0] at h; simp at h
    have h1 : 2^t.log2 ≤ t := Nat.log2_self_le ht
    constructor
    · right
      rw [Nat.le_div_iff_mul_le hP, ← Nat.pow_add]
      rw [show 53 + (t.log2 - 53) = t.log2 by omega]; exact h1
    · rw [Nat.div_lt_iff_lt_mul hP, ← Nat.pow_add]
      rw [show 54 + (t.log2 - 53) = t.log2 + 1 by omega]; exact h2

theorem near_rndT (t : Nat) (ex : Bool) : NearT t ex (rndT t ex) := near_of_half _ (log_range t).1 (log_range t).2

theorem rndT_of_near {t : Nat} {ex : Bool} {k : Nat} (h : NearT t ex k) : rndT t ex = k := (near_rndT t ex).uniq h

theorem rndT_mono {t t' : Nat} {ex ex' : Bool} (h : TLe t ex t' ex') : rndT t ex ≤ rndT t' ex' := (near_rndT t ex).mono (near_rndT t' ex') h

/-- the rung of A / B (in units of 2^-1074) -/
def rndQ (A B : Nat) : Nat := rndT (2*A/B) (2*A%B == 0)

theorem rndQ_cross {A B C D : Nat} (hB : 0 < B) (hD : 0 < D) (h : A * D = C * B) : rndQ A B = rndQ C D := by
  unfold rndQ
  have h' : (2*A) * D = (2*C) * B := by rw [Nat.mul_assoc, h, Nat.mul_assoc]
  rw [div_cross hB hD h', mod_cross hB hD h']

theorem rndQ_mono {A B C D : Nat} (hB : 0 < B) (hD : 0 < D) (h : A * D ≤ C * B) : rndQ A B ≤ rndQ C D := by
  unfold rndQ
  apply rndT_mono
  have h' : (2*A) * D ≤ (2*C) * B := by rw [Nat.mul_assoc, Nat.mul_assoc]; omega
  generalize 2*A = a at *
  generalize 2*C = c at *
  have h1 := Nat.div_add_mod a B
  have h2 := Nat.div_add_mod c D
  have hle : a / B ≤ c / D := by
    rw [Nat.le_div_iff_mul_le hD]
    have h3 : a / B * D * B ≤ c * B := by
      refine Nat.le_trans ?_ h'
      rw [Nat.mul_right_comm]
      exact Nat.mul_le_mul_right _ (Nat.div_mul_le_self a B)
    exact Nat.le_of_mul_le_mul_right h3 hB
  unfold TLe
  by_cases heq : a / B = c / D
  · right
    refine ⟨heq, ?_⟩
    by_cases hc : c % D = 0
    · left
      rw [hc, Nat.add_zero, ← heq] at h2
      rw [← h2] at h'
      have h3 : a ≤ B * (a / B) := by
        apply Nat.le_of_mul_le_mul_right _ hD
        refine Nat.le_trans h' ?_
        rw [Nat.mul_comm D, Nat.mul_right_comm, Nat.mul_comm (a/B) B]; exact Nat.le_refl _
      have : a % B = 0 := by omega
      simp [this]
    · right; simpa using hc
  · left; omega

theorem rneH_le (h : Nat) (ex : Bool) : rneH h ex ≤ h/2+1 := by unfold rneH; split <;> omega

theorem near_exact (k : Nat) : NearT (2 * rv k) true k := by
  constructor
  · left
    unfold mid
    have := rv_lt_succ k; omega
  · by_cases h : k = 0
    · left; exact h
    · right; left
      unfold mid
      have := rv_lt (show k-1 < k by omega)
      rw [show k - 1 + 1 = k by omega]; omega

theorem rndQ_exact (k : Nat) : rndQ (rv k) 1 = k := by
  unfold rndQ
  rw [Nat.div_one, Nat.mod_one]
  exact rndT_of_near (near_exact k)

/-- the number mag * 2^place: its rung -/
theorem nearest_eq (neg : Bool) (mag : Nat) (place : Int) (A B : Nat) (hm : 0 < mag) (hB : 0 < B) (hAB : A * 2^(-(place+1074)).toNat = mag * 2^(place+1074).toNat * B) :
    double.nearest neg mag place = double.word neg (min (rndQ A B) double.infRung) := by
  have hl1 : 2^mag.log2 ≤ mag := Nat.log2_self_le (by omega)
  have hl2 : mag < 2^(mag.log2+1) := Nat.lt_log2_self
  unfold Format.nearest
  rw [if_neg (by omega)]
  have hlp : double.leastPlace = -1074 := by decide
  have hfb : double.fractionBits = 52 := rfl
  have hbn : double.binade = 2^52 := rfl
  simp only [hlp, hfb, hbn]
  obtain ⟨p, hp⟩ : ∃ p, p = place + 1074 := ⟨_, rfl⟩
  obtain ⟨e, he⟩ : ∃ e : Nat, e = (p + mag.log2 - 52).toNat := ⟨_, rfl⟩
  have hlast : max (place + (mag.log2:Int) - (52:Nat)) (-1074) = (e:Int) - 1074 := by omega
  simp only [hlast]
  rw [← hp] at hAB
  rw [show (place - ((e:Int) - 1074)).toNat = (p - e).toNat by omega, show ((e:Int) - 1074 - place).toNat = ((e:Int) - p).toNat by omega, show ((e:Int) - 1074 - -1074).toNat = e by omega]
  rw [cut_even, Nat.shiftLeft_eq]
  refine congrArg (fun z => double.word neg (min z double.infRung)) ?_
  obtain ⟨g, hg⟩ : ∃ g, g = (p - e).toNat := ⟨_, rfl⟩
  obtain ⟨d, hd⟩ : ∃ d, d = ((e:Int) - p).toNat := ⟨_, rfl⟩
  rw [← hg, ← hd]
  have hcr : 2 * (mag * 2^g) * (B * 2^e) = (2*A) * 2^d := by
    by_cases h0 : 0 ≤ p
    · have ha : A = mag * 2^p.toNat * B := by
        rw [show (-p).toNat = 0 by omega] at hAB; simpa using hAB
      rw [ha]
      by_cases h1 : (e:Int) ≤ p
      · have hd0 : d = 0 := by omega
        have : p.toNat = g + e := by omega
        rw [hd0, this, Nat.pow_add, Nat.pow_zero, Nat.mul_one]
        simp only [Nat.mul_assoc, Nat.mul_comm, Nat.mul_left_comm]
      · have hg0 : g = 0 := by omega
        have : e = p.toNat + d := by omega
        rw [hg0, this, Nat.pow_add, Nat.pow_zero, Nat.mul_one]
        simp only [Nat.mul_assoc, Nat.mul_comm, Nat.mul_left_comm]
    · have hg0 : g = 0 := by omega
      have hde : d = e + (-p).toNat := by omega
      rw [show p.toNat = 0 by omega, Nat.pow_zero, Nat.mul_one] at hAB
      rw [hg0, hde, Nat.pow_zero, Nat.mul_one, Nat.pow_add]
      calc 2 * mag * (B * 2^e) = 2 * (mag * B) * 2^e := by simp only [Nat.mul_assoc, Nat.mul_comm, Nat.mul_left_comm]
        _ = 2 * (A * 2^(-p).toNat) * 2^e := by rw [hAB]
        _ = _ := by simp only [Nat.mul_assoc, Nat.mul_comm, Nat.mul_left_comm]
  have hBe : 0 < B * 2^e := Nat.mul_pos hB (Nat.two_pow_pos e)
  have hq := div_cross (Nat.two_pow_pos d) hBe hcr
  have hr := mod_cross (Nat.two_pow_pos d) hBe hcr
  rw [hq, hr]
  -- the same as near_of_half
  have hdd : 2*A/(B*2^e) = 2*A/B/2^e := (Nat.div_div_eq_div_mul _ _ _).symm
  have hmm : (2*A % (B*2^e) == 0) = ((2*A%B == 0) && (2*A/B) % 2^e == 0) := by
    rw [Nat.mod_mul, Bool.eq_iff_iff]
    simp only [beq_iff_eq, Bool.and_eq_true]
    constructor
    · intro h
      have h1 : 2*A%B = 0 := by omega
      have h2 : B * (2*A/B % 2^e) = 0 := by omega
      rcases Nat.mul_eq_zero.mp h2 with h3 | h3
      · omega
      · exact ⟨h1, h3⟩
    · rintro ⟨h1, h2⟩; rw [h1, h2]; rfl
  rw [hdd, hmm]
  symm
  unfold rndQ
  apply rndT_of_near
  have hlow : (e:Int) = 0 ∨ (mag.log2:Int) + g - d = 52 := by omega
  have hup : (mag.log2:Int) + g - d ≤ 52 := by omega
  rw [hdd] at hq
  have h1 : e = 0 ∨ 2^53 ≤ 2*A/B/2^e := by
    rcases hlow with h | h
    · left; omega
    · right
      rw [← hq, Nat.le_div_iff_mul_le (Nat.two_pow_pos d), ← Nat.pow_add, show 53 + d = 1 + mag.log2 + g by omega, Nat.pow_add, Nat.pow_add, Nat.mul_assoc]
      exact Nat.mul_le_mul_left _ (Nat.mul_le_mul_right _ hl1)
  have h2 : 2*A/B/2^e < 2^54 := by
    rw [← hq, Nat.div_lt_iff_lt_mul (Nat.two_pow_pos d), ← Nat.pow_add]
    refine Nat.lt_of_lt_of_le ?_ (Nat.pow_le_pow_right (by omega) (show 1 + (mag.log2+1) + g ≤ 54 + d by omega))
    rw [Nat.pow_add, Nat.pow_add, Nat.mul_assoc]
    exact Nat.mul_lt_mul_of_pos_left (Nat.mul_lt_mul_of_pos_right hl2 (Nat.two_pow_pos g)) (by omega)
  exact near_of_half e h1 h2
end Go.Proofs.Ytapgnackoclbeaa.Fl
