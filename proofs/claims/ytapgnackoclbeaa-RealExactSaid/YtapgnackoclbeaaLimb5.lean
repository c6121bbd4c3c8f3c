import Derived.Test.YtapgnackoclbeaaLimb4
set_option linter.unusedSimpArgs false
set_option linter.unusedVariables false
namespace Go.Proofs.Ytapgnackoclbeaa.PReal
open Go.RowKit Go.Proofs.Ytapgnackoclbeaa.Fl Go.Proofs.YtapgnackoclbeaaW.PrintWords Go.Proofs.YtapgnackoclbeaaW.PrintLast Go.Proofs.YtapgnackoclbeaaW.PrintMore

theorem signed_eq (neg : Bool) (k : Nat) (h : k < 2^63) : portageref03_signed.f neg (k : Int) = some ((word neg k : Nat) : Int) := by
  unfold portageref03_signed.f word
  cases neg
  · rw [if_neg (by simp), if_neg (by simp)]
  · rw [if_pos rfl, if_pos rfl, or_sign k h]
    congr 1; omega
theorem negative_eq (a : Nat) (h : a < 2^64) : portageref03_negative.f (a : Int) = some (sgn a) := by
  unfold portageref03_negative.f
  rw [and_sgn a h]
  cases sgn a <;> rfl

/-- a pair laid -/
theorem laid_pair (m E : Nat) (hm : m ≤ 2^53) (hE : E = 0 ∨ 2^52 ≤ m) (hE2 : E ≤ 3000) (k : Nat) :
    (if (pairOf m ((E : Int) - 1074)).2 > 971 then some (9218868437227405312 : Int) else portageref03_laid.f (k + 1) (pairOf m ((E : Int) - 1074)).1 (pairOf m ((E : Int) - 1074)).2) = some ((min (E * 2^52 + m) infR : Nat) : Int) := by
  have hinf : infR = 2047 * 2^52 := by decide
  unfold pairOf
  by_cases c : m = 2^53
  · rw [if_pos c]
    simp only
    by_cases c2 : E ≤ 2044
    · rw [if_neg (by omega)]
      unfold portageref03_laid.f
      rw [if_neg (by omega)]
      simp only [portageref03_laid.l0]
      rw [if_neg (by omega), w64 (by omega) (by omega), u64_w (x := (E : Int) - 1074 + 1 + 1075) (by omega) (by omega), u64_w (x := ((E : Int) - 1074 + 1 + 1075) * 4503599627370496) (by omega) (by omega), u64_w (x := ((E : Int) - 1074 + 1 + 1075) * 4503599627370496 + 4503599627370496) (by omega) (by omega), u64_w (by omega) (by omega)]
      congr 1; omega
    · rw [if_pos (by omega)]; congr 1; omega
  · rw [if_neg c]
    simp only
    by_cases c2 : E ≤ 2045
    · rw [if_neg (by omega)]
      unfold portageref03_laid.f
      by_cases c3 : m = 0
      · rw [if_pos (by omega)]; congr 1; omega
      · rw [if_neg (by omega)]
        simp only [portageref03_laid.l0]
        by_cases c4 : m < 2^52
        · rw [if_pos (by omega), if_neg (by omega)]; congr 1; omega
        · rw [if_neg (by omega), w64 (by omega) (by omega), u64_w (x := (E : Int) - 1074 + 1075) (by omega) (by omega), u64_w (x := ((E : Int) - 1074 + 1075) * 4503599627370496) (by omega) (by omega), u64_w (x := ((E : Int) - 1074 + 1075) * 4503599627370496 + (m : Int)) (by omega) (by omega), u64_w (by omega) (by omega)]
          congr 1; omega
    · rw [if_pos (by omega)]; congr 1; omega

def roundN (neg : Bool) (n : Nat) (e : Int) (more : Bool) : Nat := if more then Ieee.double.nearest neg (2*n+1) (e-1) else Ieee.double.nearest neg n e

theorem rneH_even (M : Nat) (x : Bool) : rneH (2*M) x = M := by
  unfold rneH
  rw [if_neg (by omega)]; omega

/-- how a number with a mark is kept: the pair of E and m -/
theorem roundN_core (neg : Bool) (n : Nat) (e : Int) (more : Bool) (hn : n ≠ 0) (hmore : more = true → 1 ≤ e + 1074 + n.log2 - 52 - (e + 1074) ∨ 1 ≤ -(e + 1074)) :
    ∃ E d g m : Nat, E = (e + 1074 + n.log2 - 52).toNat ∧ (d : Int) - g = E - (e + 1074) ∧ (g = 0 ∨ d = 0) ∧ (more = true → 0 < d) ∧ m = (if d = 0 then n * 2^g else rneH (n / 2^(d-1)) (!more && n % 2^(d-1) == 0)) ∧ m ≤ 2^53 ∧ (E = 0 ∨ 2^52 ≤ m) ∧
    roundN neg n e more = word neg (min (E * 2^52 + m) infR) := by
  cases hmr : more
  · obtain ⟨E, g, d, h1, h2, h3, h4, h5, h6⟩ := nearest_core neg n e (by omega)
    have hkey : (if d = 0 then n * 2^g else rneH (n / 2^(d-1)) (!false && n % 2^(d-1) == 0)) = rneH (2 * (n * 2^g) / 2^d) (2 * (n * 2^g) % 2^d == 0) := by
      by_cases hd : d = 0
      · rw [if_pos hd, hd, Nat.pow_zero, Nat.div_one, rneH_even]
      · have hg : g = 0 := by omega
        rw [if_neg hd, hg, Nat.pow_zero, Nat.mul_one]
        have hp : 2^d = 2 * 2^(d-1) := by rw [← Nat.pow_succ']; congr 1; omega
        rw [hp, Nat.mul_div_mul_left _ _ (by omega), Nat.mul_mod_mul_left]
        congr 1
        rw [Bool.not_false, Bool.true_and, Bool.eq_iff_iff, beq_iff_eq, beq_iff_eq]; omega
    refine ⟨E, d, g, _, h1, h2, h3, by simp, rfl, ?_, ?_, ?_⟩
    · rw [hkey]; have := rneH_le (2 * (n * 2^g) / 2^d) (2 * (n * 2^g) % 2^d == 0); omega
    · rcases h4 with h4 | h4
      · left; exact h4
      · right; rw [hkey]; unfold rneH; split <;> omega
    · unfold roundN; rw [if_neg (by simp), h6, hkey]
  · obtain ⟨E, g, d, h1, h2, h3, h4, h5, h6⟩ := nearest_core neg (2*n+1) (e-1) (by omega)
    have hlog : (2*n+1).log2 = n.log2 + 1 := by
      rw [Nat.log2_def, if_pos (by omega), show (2*n+1)/2 = n by omega]
    have hm2 := hmore hmr
    have hE : E = (e + 1074 + n.log2 - 52).toNat := by rw [h1, hlog]; omega
    have hg : g = 0 := by omega
    subst hg
    have hd2 : 2 ≤ d := by omega
    have hmk := mark_div n true d hd2
    simp only [Bool.toNat_true] at hmk
    rw [Nat.pow_zero, Nat.mul_one] at *
    have hkey : rneH (n / 2^(d-1-1)) (!true && n % 2^(d-1-1) == 0) = rneH (2 * (2*n+1) / 2^d) (2 * (2*n+1) % 2^d == 0) := by
      rw [hmk.1, hmk.2, show d - 1 - 1 = d - 2 by omega]
    refine ⟨E, d-1, 0, _, hE, by omega, by omega, by omega, rfl, ?_, ?_, ?_⟩
    · rw [if_neg (by omega), hkey]; have := rneH_le (2 * (2*n+1) / 2^d) (2 * (2*n+1) % 2^d == 0); omega
    · rcases h4 with h4 | h4
      · left; exact h4
      · right; rw [if_neg (by omega), hkey]; unfold rneH; split <;> omega
    · unfold roundN; rw [if_pos rfl, h6, if_neg (by omega), hkey]

theorem min_lt63 (x : Nat) : min x infR < 2^63 := Nat.lt_of_le_of_lt (Nat.min_le_right _ _) Fl.infR_lt
theorem min_inf {E m : Nat} (h : 3000 < E) : min (E * 2^52 + m) infR = infR := by
  apply Nat.min_eq_right
  have hinf : infR ≤ 2047 * 2^52 := by decide
  omega

theorem round_ev (neg : Bool) (n : Nat) (e : Int) (more : Bool) (hn : n ≠ 0) (hsh : Sh n) (he : -100000 ≤ e ∧ e ≤ 100000) (hbl : bl n ≤ 100000) (hmore : more = true → 1 ≤ e + 1074 + n.log2 - 52 - (e + 1074) ∨ 1 ≤ -(e + 1074)) :
    Ev (fun k => portageref03_Round.f k neg (big n) e more) ((roundN neg n e more : Nat) : Int) := by
  obtain ⟨E, d, g, m, hE, hdg, hg0, hm0, hm, hm53, hE0, hval⟩ := roundN_core neg n e more hn hmore
  have hnear := near_ev n e more hn hsh he hbl E hE d g hdg hg0 hm0 m hm hm53
  have hinf : infR = 2047 * 2^52 := by decide
  by_cases hEb : E ≤ 3000
  · obtain ⟨K1, h1⟩ := hnear
    refine ⟨K1 + 1, fun k hk => ?_⟩
    obtain ⟨k, rfl⟩ : ∃ m, k = m + 1 := ⟨k-1, by omega⟩
    have hl := laid_pair m E hm53 hE0 hEb k
    simp only [portageref03_Round.f]
    rw [show portageref03_near.f (k+1) (big n) e more 53 (-1074) = some _ from h1 (k+1) (by omega)]
    simp only [Option.bind_some]
    have hs := signed_eq neg (min (E * 2^52 + m) infR) (min_lt63 _)
    rw [hval]
    split at hl
    · rename_i c
      rw [if_pos c, Option.some.inj hl, hs]; rfl
    · rename_i c
      rw [if_neg c, hl]
      simp only [Option.bind_some]
      rw [hs]; rfl
  · obtain ⟨K1, h1⟩ := hnear
    refine ⟨K1 + 1, fun k hk => ?_⟩
    simp only [portageref03_Round.f]
    rw [show portageref03_near.f k (big n) e more 53 (-1074) = some _ from h1 k (by omega)]
    simp only [Option.bind_some]
    have hp : (pairOf m ((E : Int) - 1074)).2 > 971 := by unfold pairOf; split <;> simp only <;> omega
    have hs := signed_eq neg infR Fl.infR_lt
    rw [min_inf (by omega)] at hval
    rw [if_pos hp, show (9218868437227405312 : Int) = (infR : Nat) from rfl, hs, hval]
    rfl
end Go.Proofs.Ytapgnackoclbeaa.PReal
