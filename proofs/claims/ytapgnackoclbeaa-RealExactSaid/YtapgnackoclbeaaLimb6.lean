import Derived.Test.YtapgnackoclbeaaLimb5
set_option linter.unusedSimpArgs false
set_option linter.unusedVariables false
namespace Go.Proofs.Ytapgnackoclbeaa.PReal
open Go.RowKit Go.Proofs.Ytapgnackoclbeaa.Fl Go.Proofs.YtapgnackoclbeaaW.PrintWords Go.Proofs.YtapgnackoclbeaaW.PrintLast Go.Proofs.YtapgnackoclbeaaW.PrintMore

def clsI (a : Nat) : Int := if infR < rung a then 0 else if rung a = infR then 1 else if rung a = 0 then 2 else if rung a < 2^52 then 3 else 4
theorem rung_split (a : Nat) : rung a = (a / 2^52 % 2048) * 2^52 + a % 2^52 := by unfold rung; omega
theorem infR_num : infR = 2047 * 2^52 := by decide
theorem class_eq (a : Nat) (h : a < 2^64) (k : Nat) : portageref03_Class.f (k + 1) (a : Int) = some (clsI a) := by
  have hs := rung_split a
  have hi := infR_num
  unfold portageref03_Class.f clsI
  rw [and_exp a h, and_frac a h]
  have he : a / 2^52 % 2048 < 2048 := Nat.mod_lt _ (by omega)
  have hf : a % 2^52 < 2^52 := Nat.mod_lt _ (by omega)
  generalize a / 2^52 % 2048 = e at *
  generalize a % 2^52 = f at *
  generalize rung a = r at *
  simp only [portageref03_Class.j0]
  by_cases c1 : e = 2047
  · subst c1
    rw [if_pos (by omega)]
    by_cases c2 : f = 0
    · subst c2
      rw [if_neg (by simp), if_pos (by omega), if_neg (by omega), if_pos (by omega)]
    · rw [if_pos (by simp; omega), if_pos (by omega)]
  · rw [if_neg (by omega), if_neg (by simp), if_neg (by omega)]
    by_cases c2 : e = 0
    · rw [if_pos (by omega)]
      by_cases c3 : f = 0
      · rw [if_pos (by omega), if_neg (by omega), if_neg (by omega), if_pos (by omega)]
      · rw [if_neg (by omega), if_neg (by omega), if_neg (by omega), if_neg (by omega), if_pos (by omega)]
    · rw [if_neg (by omega), if_neg (by omega), if_neg (by omega), if_neg (by omega), if_neg (by omega)]
theorem neg_ref (a : Nat) (h : a < 2^64) (k : Nat) : portageref03_Neg.f (k + 1) (a : Int) = some ((fneg a : Nat) : Int) := by
  unfold portageref03_Neg.f
  rw [class_eq a h]
  simp only [Option.bind_some]
  by_cases c : infR < rung a
  · rw [if_pos (by unfold clsI; rw [if_pos c]), fneg_nan c]; rfl
  · have hne : clsI a ≠ 0 := by unfold clsI; rw [if_neg c]; split <;> (try split) <;> (try split) <;> omega
    rw [if_neg hne, negative_eq a h, and_rung a h]
    simp only [Option.bind_some]
    rw [signed_eq _ _ (rung_lt a), fneg_real (by omega)]; rfl

def pm (a : Nat) : Nat := if rung a < 4503599627370496 then rung a else 4503599627370496 + rung a % 4503599627370496
def pe (a : Nat) : Int := if rung a < 4503599627370496 then -1074 else ((rung a / 4503599627370496 : Nat) : Int) - 1075
theorem pe_ge (a : Nat) : -1074 ≤ pe a ∧ pe a ≤ 1000 := by
  have := rung_lt a
  unfold pe; split <;> omega
theorem pm_lt (a : Nat) : pm a < 9007199254740992 := by unfold pm; split <;> omega
theorem pm_val (a : Nat) : pm a * 2^(pe a + 1074).toNat = rv (rung a) := by
  unfold pm pe rv
  rw [show (2:Nat)^52 = 4503599627370496 from rfl]
  by_cases c : rung a < 4503599627370496
  · rw [if_pos c, if_pos c, if_pos c]; simp
  · rw [if_neg c, if_neg c, if_neg c]
    rw [show (((rung a / 4503599627370496 : Nat) : Int) - 1075 + 1074).toNat = rung a / 4503599627370496 - 1 by omega]
theorem pm_zero {a : Nat} : pm a = 0 ↔ rung a = 0 := by unfold pm; split <;> omega
theorem parts_eq (a : Nat) (h : a < 2^64) : portageref03_Parts.f (a : Int) = some (sgn a, (pm a : Int), pe a) := by
  have hs : rung a = (a / 2^52 % 2048) * 4503599627370496 + a % 2^52 := rung_split a
  have he : a / 2^52 % 2048 < 2048 := Nat.mod_lt _ (by omega)
  have hf : a % 2^52 < 4503599627370496 := Nat.mod_lt _ (by omega)
  have h1 := and_exp a h
  have h2 := and_frac a h
  generalize a / 2^52 % 2048 = e at *
  generalize a % 2^52 = f at *
  unfold portageref03_Parts.f pm pe
  rw [negative_eq a h, h1, h2]
  clear h1 h2
  generalize rung a = r at *
  rw [Option.bind_some]
  rw [w64 (by omega) (by omega)]
  by_cases c : e = 0
  · have e0 : r = f := by omega
    rw [if_pos (by omega), if_pos (by omega), if_pos (by omega), e0]
  · have e1 : r % 4503599627370496 = f := by omega
    have e2 : r / 4503599627370496 = e := by omega
    have e3 : (f : Int) + 4503599627370496 = ((4503599627370496 + f : Nat) : Int) := by omega
    rw [if_neg (by omega), if_neg (by omega), if_neg (by omega), u64_w (by omega) (by omega), w64 (by omega) (by omega), e1, e2, e3]

/-! sums -/
def eX : Nat := 3000
theorem eX_is : eX = 3000 := rfl
theorem sh_of {n : Nat} (h : n < 2^(32 * eX)) : Sh n := Nat.le_trans (len_le (L := eX) h) (by rw [eX_is]; omega)
def sumE (a b : Nat) : Int := min (pe a) (pe b)
def sumX (a b : Nat) : Nat := pm a * 2^(pe a - sumE a b).toNat
def sumNeg (a b : Nat) : Bool := if sgn a = sgn b then sgn a else if sumX a b < sumX b a then sgn b else sgn a
def sumN (a b : Nat) : Nat := if sgn a = sgn b then sumX a b + sumX b a else if sumX a b < sumX b a then sumX b a - sumX a b else sumX a b - sumX b a
theorem sumE_comm (a b : Nat) : sumE a b = sumE b a := by unfold sumE; omega
theorem sumX_lt (a b : Nat) : sumX a b < 2^eX := by
  unfold sumX
  have h1 := pm_lt a
  have h2 := pe_ge a
  have h3 := pe_ge b
  have : (pe a - sumE a b).toNat ≤ 2900 := by unfold sumE; omega
  calc pm a * 2^(pe a - sumE a b).toNat < 9007199254740992 * 2^(pe a - sumE a b).toNat := Nat.mul_lt_mul_of_pos_right h1 (Nat.two_pow_pos _)
    _ = 2^(53 + (pe a - sumE a b).toNat) := by rw [Nat.pow_add]
    _ ≤ 2^eX := Nat.pow_le_pow_right (by omega) (by rw [eX_is]; omega)
theorem pow_big : (2:Nat)^eX + 2^eX ≤ 2^(32 * eX) := by
  have : (2:Nat)^eX + 2^eX = 2^(eX + 1) := by rw [Nat.pow_succ]; omega
  rw [this]; exact Nat.pow_le_pow_right (by omega) (by rw [eX_is]; omega)
theorem sumX_val (a b : Nat) : sumX a b * 2^(sumE a b + 1074).toNat = rv (rung a) := by
  unfold sumX
  have h2 := pe_ge a
  have h3 := pe_ge b
  rw [Nat.mul_assoc, ← Nat.pow_add, ← pm_val a]
  congr 2; unfold sumE; omega
theorem sum_ev (a b : Nat) (ha : a < 2^64) (hb : b < 2^64) : Ev (fun k => portageref03_Sum.f k (a : Int) (b : Int)) (sumNeg a b, big (sumN a b), sumE a b) := by
  have h1 := sumX_lt a b
  have h2 := sumX_lt b a
  have hpa := pe_ge a
  have hpb := pe_ge b
  have hma := pm_lt a
  have hmb := pm_lt b
  have hpw := pow_big
  have hsa : Sh (sumX a b) := sh_of (by omega)
  have hsb : Sh (sumX b a) := sh_of (by omega)
  have shs : ∀ z : Nat, z < 2^64 → Sh z := fun z hz => Nat.le_trans (len_le (L := 2) hz) (by omega)
  obtain ⟨K1, l1⟩ := list_ev (pm a) (by omega)
  obtain ⟨K2, l2⟩ := list_ev (pm b) (by omega)
  obtain ⟨K3, l3⟩ := up_ev (pm a) (pe a - sumE a b).toNat (shs _ (by omega)) (by unfold sumE; omega)
  obtain ⟨K4, l4⟩ := up_ev (pm b) (pe b - sumE b a).toNat (shs _ (by omega)) (by unfold sumE; omega)
  obtain ⟨K5, l5⟩ := plus_ev (sumX a b) (sumX b a) hsa hsb
  obtain ⟨K6, l6⟩ := cmp_ev (sumX a b) (sumX b a) hsa hsb
  have hj : Ev (fun k => portageref03_Sum.j0 k (sgn a) (pm a : Int) (pe a) (sgn b) (pm b : Int) (pe b) (sumE a b)) (sumNeg a b, big (sumN a b), sumE a b) := by
    have hpre : ∀ k, max (max K1 K2) (max K3 K4) ≤ k → portageref03_Sum.j0 (k+1) (sgn a) (pm a : Int) (pe a) (sgn b) (pm b : Int) (pe b) (sumE a b) =
        (if (sgn a == sgn b) = true then ((portageref03_Plus.f k (big (sumX a b)) (big (sumX b a))).bind fun t => some (sgn a, t, sumE a b)) else ((portageref03_Cmp.f k (big (sumX a b)) (big (sumX b a))).bind fun t => if t < 0 then ((portageref03_Minus.f k (big (sumX b a)) (big (sumX a b))).bind fun t => some (sgn b, t, sumE a b)) else ((portageref03_Minus.f k (big (sumX a b)) (big (sumX b a))).bind fun t => some (sgn a, t, sumE a b)))) := by
      intro k hk
      simp only [portageref03_Sum.j0]
      rw [show portageref03_List.f k (pm a : Int) = some _ from l1 k (by omega), show portageref03_List.f k (pm b : Int) = some _ from l2 k (by omega)]
      simp only [Option.bind_some]
      rw [w64 (x := pe a - sumE a b) (by unfold sumE; omega) (by unfold sumE; omega), w64 (x := pe b - sumE a b) (by unfold sumE; omega) (by unfold sumE; omega)]
      rw [show pe a - sumE a b = (((pe a - sumE a b).toNat : Nat) : Int) by unfold sumE; omega, show pe b - sumE a b = (((pe b - sumE b a).toNat : Nat) : Int) by unfold sumE; omega]
      rw [show portageref03_Up.f k (big (pm a)) (((pe a - sumE a b).toNat : Nat) : Int) = some (big (sumX a b)) from l3 k (by omega), show portageref03_Up.f k (big (pm b)) (((pe b - sumE b a).toNat : Nat) : Int) = some (big (sumX b a)) from l4 k (by omega)]
      rfl
    by_cases c : sgn a = sgn b
    · refine ⟨max (max (max K1 K2) (max K3 K4)) K5 + 1, fun k hk => ?_⟩
      obtain ⟨k, rfl⟩ : ∃ m, k = m + 1 := ⟨k-1, by omega⟩
      simp only [hpre k (by omega)]
      rw [if_pos (by simpa using c), show portageref03_Plus.f k (big (sumX a b)) (big (sumX b a)) = some _ from l5 k (by omega)]
      unfold sumNeg sumN; rw [if_pos c, if_pos c]; rfl
    · by_cases c2 : sumX a b < sumX b a
      · obtain ⟨K7, l7⟩ := minus_ev (sumX b a) (sumX a b) hsb (by omega)
        refine ⟨max (max (max (max K1 K2) (max K3 K4)) K6) K7 + 1, fun k hk => ?_⟩
        obtain ⟨k, rfl⟩ : ∃ m, k = m + 1 := ⟨k-1, by omega⟩
        simp only [hpre k (by omega)]
        rw [if_neg (by simpa using c), show portageref03_Cmp.f k (big (sumX a b)) (big (sumX b a)) = some _ from l6 k (by omega)]
        simp only [Option.bind_some]
        rw [if_pos (by unfold cmpI; rw [if_pos c2]; omega), show portageref03_Minus.f k (big (sumX b a)) (big (sumX a b)) = some _ from l7 k (by omega)]
        unfold sumNeg sumN; rw [if_neg c, if_neg c, if_pos c2, if_pos c2]; rfl
      · obtain ⟨K7, l7⟩ := minus_ev (sumX a b) (sumX b a) hsa (by omega)
        refine ⟨max (max (max (max K1 K2) (max K3 K4)) K6) K7 + 1, fun k hk => ?_⟩
        obtain ⟨k, rfl⟩ : ∃ m, k = m + 1 := ⟨k-1, by omega⟩
        simp only [hpre k (by omega)]
        rw [if_neg (by simpa using c), show portageref03_Cmp.f k (big (sumX a b)) (big (sumX b a)) = some _ from l6 k (by omega)]
        simp only [Option.bind_some]
        rw [if_neg (by unfold cmpI; rw [if_neg c2]; split <;> omega), show portageref03_Minus.f k (big (sumX a b)) (big (sumX b a)) = some _ from l7 k (by omega)]
        unfold sumNeg sumN; rw [if_neg c, if_neg c, if_neg c2, if_neg c2]; rfl
  obtain ⟨K, hK⟩ := hj
  refine ⟨K, fun k hk => ?_⟩
  have := hK k hk
  unfold portageref03_Sum.f
  simp only
  rw [parts_eq a ha, parts_eq b hb]
  simp only [Option.bind_some]
  by_cases c : pe b < pe a
  · rw [if_pos c]
    rw [show sumE a b = pe b by unfold sumE; omega] at this ⊢; exact this
  · rw [if_neg c]
    rw [show sumE a b = pe a by unfold sumE; omega] at this ⊢; exact this
theorem sum_val (a b : Nat) : val a + val b = if sumNeg a b then -((sumN a b * 2^(sumE a b + 1074).toNat : Nat) : Int) else ((sumN a b * 2^(sumE a b + 1074).toNat : Nat) : Int) := by
  have h1 := sumX_val a b
  have h2 := sumX_val b a
  rw [sumE_comm b a] at h2
  have hP := Nat.two_pow_pos (sumE a b + 1074).toNat
  unfold val sumNeg sumN
  rw [← h1, ← h2]
  generalize (2:Nat)^(sumE a b + 1074).toNat = P at *
  generalize sumX a b = x at *
  generalize sumX b a = y at *
  by_cases c : sgn a = sgn b
  · rw [if_pos c, if_pos c, ← c, Nat.add_mul]
    cases sgn a <;> simp <;> omega
  · rw [if_neg c, if_neg c]
    by_cases c2 : x < y
    · rw [if_pos c2, if_pos c2, Nat.sub_mul]
      have := Nat.mul_le_mul_right P (Nat.le_of_lt c2)
      cases hsa : sgn a <;> cases hsb : sgn b <;> simp [hsa, hsb] at c ⊢ <;> omega
    · rw [if_neg c2, if_neg c2, Nat.sub_mul]
      have := Nat.mul_le_mul_right P (show y ≤ x by omega)
      cases hsa : sgn a <;> cases hsb : sgn b <;> simp [hsa, hsb] at c ⊢ <;> omega
theorem sumN_lt (a b : Nat) : sumN a b < 2^(eX + 1) := by
  have h1 := sumX_lt a b
  have h2 := sumX_lt b a
  have : (2:Nat)^(eX+1) = 2^eX + 2^eX := by rw [Nat.pow_succ]; omega
  unfold sumN; split
  · omega
  · split <;> omega
end Go.Proofs.Ytapgnackoclbeaa.PReal
