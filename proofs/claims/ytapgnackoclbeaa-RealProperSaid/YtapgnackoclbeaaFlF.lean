import Derived.Test.YtapgnackoclbeaaFlC
namespace Go.Proofs.Ytapgnackoclbeaa.Fl
open Ieee

theorem nearest_core (neg : Bool) (mag : Nat) (place : Int) (hm : 0 < mag) : ∃ e g d : Nat, e = (place + 1074 + mag.log2 - 52).toNat ∧ (d : Int) - g = e - (place + 1074) ∧ (g = 0 ∨ d = 0) ∧
    (e = 0 ∨ 2^53 ≤ 2 * (mag * 2^g) / 2^d) ∧ 2 * (mag * 2^g) / 2^d < 2^54 ∧
    double.nearest neg mag place = word neg (min (e * 2^52 + rneH (2 * (mag * 2^g) / 2^d) (2 * (mag * 2^g) % 2^d == 0)) infR) := by
  have hl1 : 2^mag.log2 ≤ mag := Nat.log2_self_le (by omega)
  have hl2 : mag < 2^(mag.log2+1) := Nat.lt_log2_self
  obtain ⟨p, hp⟩ : ∃ p, p = place + 1074 := ⟨_, rfl⟩
  obtain ⟨e, he⟩ : ∃ e : Nat, e = (p + mag.log2 - 52).toNat := ⟨_, rfl⟩
  obtain ⟨g, hg⟩ : ∃ g, g = (p - e).toNat := ⟨_, rfl⟩
  obtain ⟨d, hd⟩ : ∃ d, d = ((e:Int) - p).toNat := ⟨_, rfl⟩
  have hlow : (e:Int) = 0 ∨ (mag.log2:Int) + g - d = 52 := by omega
  have hup : (mag.log2:Int) + g - d ≤ 52 := by omega
  refine ⟨e, g, d, by rw [he, hp], by omega, by omega, ?_, ?_, ?_⟩
  · rcases hlow with h | h
    · left; omega
    · right
      rw [Nat.le_div_iff_mul_le (Nat.two_pow_pos d), ← Nat.pow_add, show 53 + d = 1 + mag.log2 + g by omega, Nat.pow_add, Nat.pow_add, Nat.mul_assoc]
      exact Nat.mul_le_mul_left _ (Nat.mul_le_mul_right _ hl1)
  · rw [Nat.div_lt_iff_lt_mul (Nat.two_pow_pos d), ← Nat.pow_add]
    refine Nat.lt_of_lt_of_le ?_ (Nat.pow_le_pow_right (by omega) (show 1 + (mag.log2+1) + g ≤ 54 + d by omega))
    rw [Nat.pow_add, Nat.pow_add, Nat.mul_assoc]
    exact Nat.mul_lt_mul_of_pos_left (Nat.mul_lt_mul_of_pos_right hl2 (Nat.two_pow_pos g)) (by omega)
  · unfold Format.nearest
    rw [if_neg (by omega), lp_is, binade_is, infR_is, show double.fractionBits = 52 from rfl]
    have hlast : max (place + (mag.log2:Int) - (52:Nat)) (-1074) = (e:Int) - 1074 := by omega
    simp only [hlast]
    rw [show (place - ((e:Int) - 1074)).toNat = g by omega, show ((e:Int) - 1074 - place).toNat = d by omega, show ((e:Int) - 1074 - -1074).toNat = e by omega]
    rw [cut_even, Nat.shiftLeft_eq, word_is]

theorem rndQ_of_half {A B e h : Nat} {x : Bool} (hh : h = 2*A/(B*2^e)) (hx : x = (2*A % (B*2^e) == 0)) (h1 : e = 0 ∨ 2^53 ≤ h) (h2 : h < 2^54) :
    e * 2^52 + rneH h x = rndQ A B := by
  have hdd : 2*A/(B*2^e) = 2*A/B/2^e := (Nat.div_div_eq_div_mul _ _ _).symm
  have hmm : (2*A % (B*2^e) == 0) = ((2*A%B == 0) && (2*A/B) % 2^e == 0) := by
    by_cases hB : B = 0
    · subst hB; simp
    rw [Nat.mod_mul, Bool.eq_iff_iff]
    simp only [beq_iff_eq, Bool.and_eq_true]
    constructor
    · intro h
      have h1 : 2*A%B = 0 := by omega
      have h2 : B * (2*A/B % 2^e) = 0 := by omega
      rcases Nat.mul_eq_zero.mp h2 with h3 | h3
      · omega
      · exact ⟨h1, h3⟩
    · rintro ⟨h1, h2⟩; rw [h1, h2]; rfl
  rw [hdd] at hh
  rw [hmm] at hx
  subst hh hx
  exact (rndT_of_near (near_of_half e h1 h2)).symm

/-- a number with a mark for what lies behind it -/
theorem mark_div (q : Nat) (s : Bool) (d : Nat) (hd : 2 ≤ d) : 2 * (2*q + s.toNat) / 2^d = q / 2^(d-2) ∧ ((2 * (2*q + s.toNat) % 2^d == 0) = (!s && q % 2^(d-2) == 0)) := by
  obtain ⟨c, rfl⟩ : ∃ c, d = c + 2 := ⟨d-2, by omega⟩
  have hP := Nat.two_pow_pos c
  rw [show c + 2 - 2 = c by omega, Nat.pow_add]
  have hs : s.toNat < 2 := by cases s <;> decide
  constructor
  · rw [Nat.mul_comm (2^c), ← Nat.div_div_eq_div_mul]
    congr 1; omega
  · rw [Bool.eq_iff_iff]
    simp only [beq_iff_eq, Bool.and_eq_true, Bool.not_eq_true']
    rw [Nat.mul_comm (2^c), Nat.mod_mul]
    have e1 : 2 * (2*q + s.toNat) / 2^2 = q := by omega
    rw [e1]
    generalize q % 2^c = r
    cases s
    · simp; omega
    · simp; omega

theorem nearest_mark (neg : Bool) (Y Z : Nat) (place : Int) (A B : Nat) (hZ : 0 < Z) (hB : 0 < B) (hq : 2^53 ≤ Y/Z)
    (hAB : A * Z * 2^(-(place+1075)).toNat = Y * 2^(place+1075).toNat * B) :
    double.nearest neg (2 * (Y/Z) + (Y % Z != 0).toNat) place = rndW neg A B := by
  obtain ⟨mag, hmag⟩ : ∃ mag, mag = 2 * (Y/Z) + (Y % Z != 0).toNat := ⟨_, rfl⟩
  have hlog : 54 ≤ mag.log2 := by
    rw [Nat.le_log2 (by omega)]; omega
  obtain ⟨e, g, d, he, hgd, hg0, hb1, hb2, hn⟩ := nearest_core neg mag place (by omega)
  have hg : g = 0 := by omega
  subst hg
  rw [← hmag, hn]
  unfold rndW
  refine congrArg (fun z => word neg (min z infR)) ?_
  rw [Nat.pow_zero, Nat.mul_one] at *
  have hd2 : 2 ≤ d := by omega
  have hm := mark_div (Y/Z) (Y % Z != 0) d hd2
  rw [← hmag] at hm
  have hcr : Y * (B * 2^e) = (2*A) * (Z * 2^(d-2)) := by
    by_cases h0 : 0 ≤ place + 1075
    · rw [show (-(place+1075)).toNat = 0 by omega, Nat.pow_zero, Nat.mul_one] at hAB
      have hexp : e + 2 = (place+1075).toNat + 1 + d := by omega
      have h4 : 2^e * 2^2 = 2^(place+1075).toNat * 2^1 * 2^d := by rw [← Nat.pow_add, ← Nat.pow_add, ← Nat.pow_add, hexp]
      have h5 : 2^d = 2^(d-2) * 2^2 := by rw [← Nat.pow_add]; congr 1; omega
      have h6 : 2^e = 2^(place+1075).toNat * 2 * 2^(d-2) := by
        rw [h5, ← Nat.mul_assoc] at h4
        exact Nat.eq_of_mul_eq_mul_right (by omega) h4
      rw [h6]
      calc Y * (B * (2^(place+1075).toNat * 2 * 2^(d-2))) = 2 * (Y * 2^(place+1075).toNat * B) * 2^(d-2) := by simp only [Nat.mul_assoc, Nat.mul_comm, Nat.mul_left_comm]
        _ = _ := by rw [← hAB]; simp only [Nat.mul_assoc, Nat.mul_comm, Nat.mul_left_comm]
    · rw [show (place+1075).toNat = 0 by omega, Nat.pow_zero, Nat.mul_one] at hAB
      have hexp : e + (-(place+1075)).toNat + 1 = d := by omega
      have h6 : 2^e * 2^(-(place+1075)).toNat * 2 = 2^(d-2) * 2^2 := by
        rw [← Nat.pow_add, ← Nat.pow_add, show d - 2 + 2 = e + (-(place+1075)).toNat + 1 by omega, Nat.pow_succ]
      have h7 : 2^e * 2^(-(place+1075)).toNat = 2 * 2^(d-2) := by omega
      calc Y * (B * 2^e) = (Y * B) * 2^e := by rw [Nat.mul_assoc]
        _ = A * Z * (2^e * 2^(-(place+1075)).toNat) := by rw [← hAB]; simp only [Nat.mul_assoc, Nat.mul_comm, Nat.mul_left_comm]
        _ = _ := by rw [h7]; simp only [Nat.mul_assoc, Nat.mul_comm, Nat.mul_left_comm]
  have hZP : 0 < Z * 2^(d-2) := Nat.mul_pos hZ (Nat.two_pow_pos _)
  have hBP : 0 < B * 2^e := Nat.mul_pos hB (Nat.two_pow_pos _)
  have c1 := div_cross hZP hBP hcr
  have c2 := mod_cross hZP hBP hcr
  apply rndQ_of_half _ _ hb1 hb2
  · rw [← c1, hm.1, Nat.div_div_eq_div_mul]
  · rw [← c2, hm.2, Bool.eq_iff_iff]
    simp only [beq_iff_eq, Bool.and_eq_true, Bool.not_eq_true', bne_eq_false_iff_eq]
    rw [Nat.mod_mul]
    constructor
    · rintro ⟨h1, h2⟩; rw [h1, h2]; omega
    · intro h
      have h1 : Y % Z = 0 := by omega
      have h2 : Z * (Y / Z % 2^(d-2)) = 0 := by omega
      rcases Nat.mul_eq_zero.mp h2 with h3 | h3
      · omega
      · exact ⟨h1, h3⟩

/-- the quotient of two finite words -/
def divW (a b : Nat) : Nat := rndW (sgn a ^^ sgn b) (rv (rung a) * U) (rv (rung b))
theorem rv_pos {k : Nat} (h : k ≠ 0) : 0 < rv k := by
  have := rv_lt (show 0 < k by omega); omega
theorem div_finite {a b : Nat} (ha : rung a < infR) (hb : rung b < infR) (h0 : rung b ≠ 0) : double.div a b = some (divW a b) := by
  obtain ⟨m, i, hra, hi, hma, hm53, hm0⟩ := read_finite ha
  obtain ⟨n, j, hrb, hj, hnb, hn53, hn0⟩ := read_finite hb
  have hn : n ≠ 0 := fun h => h0 (hn0 h)
  unfold Format.div divW
  rw [hra, hrb]
  simp only [Datum.quotient, if_neg hn, Option.map_some, Format.write]
  congr 1
  rw [show double.fractionBits + 2 = 54 from rfl]
  by_cases hm : m = 0
  · subst hm
    rw [Nat.zero_shiftLeft, Nat.zero_div, Nat.zero_mod, Nat.zero_mul] at *
    rw [← hma]
    rw [nearest_W _ _ _ 0 1 (by omega) (by simp)]
    unfold rndW; rw [rndQ_zero, Nat.zero_mul, rndQ_zero]
  · obtain ⟨more, hmore⟩ : ∃ more, more = 54 + n.log2 - m.log2 := ⟨_, rfl⟩
    rw [← hmore]
    have hlm : m.log2 < 53 := (Nat.log2_lt hm).mpr hm53
    rw [Nat.shiftLeft_eq]
    have hq : 2^53 ≤ m * 2^more / n := by
      rw [Nat.le_div_iff_mul_le (by omega)]
      have h1 : 2^m.log2 ≤ m := Nat.log2_self_le hm
      have h2 : n < 2^(n.log2+1) := Nat.lt_log2_self
      calc 2^53 * n ≤ 2^53 * 2^(n.log2+1) := Nat.mul_le_mul_left _ (by omega)
        _ = 2^m.log2 * 2^more := by rw [← Nat.pow_add, ← Nat.pow_add]; congr 1; omega
        _ ≤ m * 2^more := Nat.mul_le_mul_right _ h1
    apply nearest_mark _ (m * 2^more) n _ _ _ (by omega) (rv_pos h0) hq
    rw [← hma, ← hnb]
    have hee : 2^(i+1074).toNat * U * 2^(-(i - j - more - 1 + 1075)).toNat = 2^more * 2^(i - j - more - 1 + 1075).toNat * 2^(j+1074).toNat := by
      unfold U
      rw [← Nat.pow_add, ← Nat.pow_add, ← Nat.pow_add, ← Nat.pow_add]; congr 1; rw [uE_is]; omega
    calc m * 2^(i+1074).toNat * U * n * 2^(-(i - j - more - 1 + 1075)).toNat = m * n * (2^(i+1074).toNat * U * 2^(-(i - j - more - 1 + 1075)).toNat) := by simp only [Nat.mul_assoc, Nat.mul_comm, Nat.mul_left_comm]
      _ = _ := by rw [hee]; simp only [Nat.mul_assoc, Nat.mul_comm, Nat.mul_left_comm]
end Go.Proofs.Ytapgnackoclbeaa.Fl
