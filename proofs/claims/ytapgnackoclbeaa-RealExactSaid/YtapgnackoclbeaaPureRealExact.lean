/- RealExact: the sum and what it lost are exactly the two numbers' sum. For every input. -/
import Derived.Test.YtapgnackoclbeaaPRealx8
import Derived.Test.YtapgnackoclbeaaLimb6
import Derived.Test.YtapgnackoclbeaaFlL
import Derived.Test.YtapgnackoclbeaaFlE
set_option linter.unusedSimpArgs false
set_option linter.unusedVariables false
namespace Go.Proofs.Ytapgnackoclbeaa.Pure
open Go.RowKit Go.Proofs.Ytapgnackoclbeaa.PReal Go.Proofs.Ytapgnackoclbeaa.Fl Go.Proofs.YtapgnackoclbeaaW.PrintWords Go.Proofs.YtapgnackoclbeaaW.PrintLast

theorem rndQ_near (n j : Nat) : ((rv (rndQ n 1) : Int) - n).natAbs ≤ ((rv j : Int) - n).natAbs := by
  have h := isR_rndQ n 1 (by omega)
  generalize rndQ n 1 = r at *
  have h1 : 2 * n ≤ rv r + rv (r+1) := by
    have := h.hi; unfold mid at this; omega
  have h2 : r = 0 ∨ rv (r-1) + rv r ≤ 2 * n := by
    rcases h.lo with h | h
    · exact Or.inl h
    · by_cases c : r = 0
      · exact Or.inl c
      · right; unfold mid at h; rw [show r - 1 + 1 = r by omega] at h; omega
  rcases Nat.lt_or_ge r j with c | c
  · have := rv_le (show r + 1 ≤ j by omega)
    have := rv_lt_succ r
    omega
  · by_cases c2 : j = r
    · rw [c2]; omega
    · have := rv_le (show j ≤ r - 1 by omega)
      have := rv_lt (show r - 1 < r by omega)
      omega

def vE : Nat := 2044
theorem vE_is : vE = 2044 := rfl
theorem rv_topV : rv infR = 4 * (2^52 * 2^vE) := by
  rw [rv_inf, topE_is, show (2046 : Nat) = vE + 2 by rw [vE_is], Nat.pow_add]; omega

/-- a sum of finite words that stays small -/
theorem fadd_Rn (x y : Nat) (hx : rung x < infR) (hy : rung y < infR) (hl : (val x + val y).natAbs ≤ 3 * (2^52 * 2^vE)) :
    rung (fadd x y) < infR ∧ Rn (val x + val y) (val (fadd x y)) := by
  have h63 := Fl.infR_lt
  unfold fadd
  rw [if_neg (by omega), if_neg (by omega), if_neg (by omega)]
  unfold addW
  by_cases c : val x + val y = 0
  · rw [if_pos c, c]
    refine ⟨by rw [rung_word (by omega)]; have := infR_ge; omega, ?_⟩
    have : val (word (sgn x && sgn y) 0) = 0 := by rw [val_zero_iff, rung_word (by omega)]
    rw [this]; exact Rn.self F_zero
  · rw [if_neg c]
    generalize val x + val y = X at *
    have hr : rndQ X.natAbs 1 < infR := by
      obtain ⟨K, hK⟩ := rep (vE + 1) (3 * 2^51) (by omega)
      have hK2 : rv K = 3 * (2^52 * 2^vE) := by rw [hK, Nat.pow_succ]; omega
      have hP := Nat.two_pow_pos vE
      have hKi : K < infR := by rw [← rv_lt_iff, hK2, rv_topV]; omega
      have := rndQ_mono (A := X.natAbs) (B := 1) (C := rv K) (D := 1) (by omega) (by omega) (by omega)
      rw [rndQ_exact] at this
      omega
    have hn := rndQ_near X.natAbs
    unfold rndW
    rw [Nat.min_eq_left (Nat.le_of_lt hr)]
    generalize rndQ X.natAbs 1 = r at *
    have hv : val (word (decide (X < 0)) r) = if X < 0 then -(rv r : Int) else (rv r : Int) := by
      unfold val
      rw [sgn_word (by omega), rung_word (by omega)]
      by_cases c2 : X < 0
      · rw [decide_eq_true c2, if_pos rfl, if_pos c2]
      · rw [decide_eq_false c2, if_neg (by simp), if_neg c2]
    refine ⟨by rw [rung_word (by omega)]; exact hr, ⟨r, by rw [hv]; split <;> omega⟩, ?_⟩
    rintro y ⟨j, hj⟩
    have := hn j
    rw [hv, hj] at *
    split <;> omega

theorem rung_e (a : Nat) : rung a = a / 2^52 % 2048 * 2^52 + a % 2^52 := by unfold rung; omega
theorem exp_fin {s : Nat} (h : rung s < infR) : s / 2^52 % 2048 < 2047 := by
  have := rung_e s
  have hinf : infR = 2047 * 2^52 := by decide
  omega

theorem same_sum (a b s e : Nat) (ha : a < 2^64) (hb : b < 2^64) (hs : s < 2^64) (he : e < 2^64) (h : val s + val e = val a + val b) :
    Ev (fun k => portageref03_SameSum.f k (a : Int) (b : Int) (s : Int) (e : Int)) true := by
  have key : ∀ x y : Nat, x < 2^64 → y < 2^64 → ∃ (A : Nat) (t : Nat), A = (val x + val y).natAbs ∧ sumN x y * 2^t = A ∧ ((t : Int) = sumE x y + 1074) ∧ Sh (sumN x y) ∧ Sh A ∧ t ≤ 1000000 ∧ (sumNeg x y = decide (val x + val y < 0) ∨ A = 0) := by
    intro x y hx hy
    have hv := sum_val x y
    have hlt := sumN_lt x y
    have hpe : -1074 ≤ sumE x y ∧ sumE x y ≤ 1000 := by
      have := pe_ge x; have := pe_ge y; unfold sumE; omega
    refine ⟨_, (sumE x y + 1074).toNat, rfl, ?_, by omega, ?_, ?_, by omega, ?_⟩
    · rw [hv]; split <;> omega
    · exact sh_of (Nat.lt_of_lt_of_le hlt (Nat.pow_le_pow_right (by omega) (by have := eX_is; omega)))
    · have e1 : (val x + val y).natAbs = sumN x y * 2^(sumE x y + 1074).toNat := by rw [hv]; split <;> omega
      rw [e1]
      apply sh_of
      have h1 : sumN x y * 2^(sumE x y + 1074).toNat < 2^(eX+1) * 2^(sumE x y + 1074).toNat := Nat.mul_lt_mul_of_pos_right hlt (Nat.two_pow_pos _)
      rw [← Nat.pow_add] at h1
      exact Nat.lt_of_lt_of_le h1 (Nat.pow_le_pow_right (by omega) (by have := eX_is; omega))
    · rw [hv]
      cases sumNeg x y
      · left; rw [if_neg (by simp), decide_eq_false (by omega)]
      · rw [if_pos rfl]
        by_cases c : sumN x y * 2^(sumE x y + 1074).toNat = 0
        · right; rw [c]; rfl
        · left; rw [decide_eq_true (by omega)]
  obtain ⟨A, t, hA, hmul, ht, hsh, hshA, htl, hneg⟩ := key a b ha hb
  obtain ⟨A2, t2, hA2, hmul2, ht2, hsh2, hshA2, htl2, hneg2⟩ := key s e hs he
  rw [h] at hA2 hneg2
  have hAA : A2 = A := by rw [hA2, hA]
  subst hAA
  obtain ⟨K1, l1⟩ := sum_ev a b ha hb
  obtain ⟨K2, l2⟩ := sum_ev s e hs he
  obtain ⟨K3, l3⟩ := up_ev (sumN a b) t hsh htl
  obtain ⟨K4, l4⟩ := up_ev (sumN s e) t2 hsh2 htl2
  obtain ⟨K5, l5⟩ := cmp_ev A2 A2 hshA2 hshA2
  rw [hmul] at l3
  rw [hmul2] at l4
  refine ⟨max (max K1 K2) (max K3 (max K4 K5)), fun k hk => ?_⟩
  simp only [portageref03_SameSum.f]
  rw [show portageref03_Sum.f k (a : Int) (b : Int) = some _ from l1 k (by omega), Option.bind_some, show portageref03_Sum.f k (s : Int) (e : Int) = some _ from l2 k (by omega), Option.bind_some]
  simp only
  rw [w64 (x := sumE a b + 1074) (by omega) (by omega), w64 (x := sumE s e + 1074) (by omega) (by omega), ← ht, ← ht2]
  rw [show portageref03_Up.f k (big (sumN a b)) (t : Int) = some _ from l3 k (by omega), Option.bind_some, show portageref03_Up.f k (big (sumN s e)) (t2 : Int) = some _ from l4 k (by omega), Option.bind_some]
  rw [show portageref03_Cmp.f k (big A2) (big A2) = some _ from l5 k (by omega), Option.bind_some, if_pos (by unfold cmpI; rw [if_neg (by omega), if_neg (by omega)])]
  by_cases c : A2 = 0
  · rw [if_pos (by rw [c, big_zero]; rfl)]
  · have : ¬ ((big A2).length : Int) = 0 := by intro h; exact c (len_pos.mp (by omega))
    rw [if_neg this, hneg.resolve_right c, hneg2.resolve_right c, beq_self_eq_true]

theorem RealExact : portagelaw03_RealExact.Pure := by
  intro a0 b0 wa wb
  obtain ⟨a, rfl, ha⟩ := u64_nat wa
  obtain ⟨b, rfl, hb⟩ := u64_nat wb
  have hinf : infR = 2047 * 2^52 := by decide
  unfold portagelaw03_RealExact.f
  have hj : ∃ k, portagelaw03_RealExact.j0 k (a : Int) (b : Int) true = some true := ⟨1, by simp only [portagelaw03_RealExact.j0, if_true]⟩
  have ea := and_exp a ha
  have eb := and_exp b hb
  have hra := rung_e a
  have hrb := rung_e b
  have hfa : a % 2^52 < 2^52 := Nat.mod_lt _ (by omega)
  have hfb : b % 2^52 < 2^52 := Nat.mod_lt _ (by omega)
  by_cases c1 : a / 2^52 % 2048 ≥ 2045
  · refine Exists.imp (fun k hk => ?_) hj
    rw [ea, if_pos (by omega)]; exact hk
  by_cases c2 : b / 2^52 % 2048 ≥ 2045
  · refine Exists.imp (fun k hk => ?_) hj
    rw [ea, if_neg (by omega), eb, decide_eq_true (by omega)]; exact hk
  have hgo : ∀ k, portagelaw03_RealExact.j0 k (a : Int) (b : Int) false = some true → (if (Go.bits .and .u64 ((a : Int) / 4503599627370496) 2047) ≥ 2045 then (portagelaw03_RealExact.j0 k (a : Int) (b : Int) true) else (portagelaw03_RealExact.j0 k (a : Int) (b : Int) (decide ((Go.bits .and .u64 ((b : Int) / 4503599627370496) 2047) ≥ 2045)))) = some true := by
    intro k hk
    rw [ea, if_neg (by omega), eb, decide_eq_false (by omega)]; exact hk
  refine (fun ⟨k, hk⟩ => ⟨k, hgo k hk⟩ : (∃ k, portagelaw03_RealExact.j0 k (a : Int) (b : Int) false = some true) → _) ?_
  clear hgo ea eb hj
  have hra2 : rung a ≤ vE * 2^52 + 2^52 := by rw [vE_is]; omega
  have hrb2 : rung b ≤ vE * 2^52 + 2^52 := by rw [vE_is]; omega
  have hra3 : rung a < infR := by rw [vE_is] at hra2; omega
  have hrb3 : rung b < infR := by rw [vE_is] at hrb2; omega
  clear hra hrb hfa hfb c1 c2
  have hV : rv (vE * 2^52 + 2^52) = 2^52 * 2^vE := rv_norm vE (2^52) (Or.inr (by omega)) (by omega)
  have ha4 := rv_le hra2
  have hb4 := rv_le hrb2
  rw [hV] at ha4 hb4
  have hva : (val a).natAbs ≤ 2^52 * 2^vE := by unfold val; split <;> omega
  have hvb : (val b).natAbs ≤ 2^52 * 2^vE := by unfold val; split <;> omega
  have Fa : F (val a) := ⟨rung a, by unfold val; split <;> omega⟩
  have Fb : F (val b) := ⟨rung b, by unfold val; split <;> omega⟩
  have hPp := Nat.two_pow_pos vE
  -- the six steps
  have el : ∀ {x s : Int}, x.natAbs ≤ 2^54 * 2^vE → Rn x s → (s - x).natAbs ≤ 2^vE := fun h1 h2 => err_le 0 vE h1 h2
  have fr := fadd_Rn
  obtain ⟨P, hP⟩ : ∃ P : Nat, P = 2^vE := ⟨_, rfl⟩
  rw [← hP] at fr hva hvb hPp
  have el' : ∀ {x s : Int}, x.natAbs ≤ 2^54 * P → Rn x s → (s - x).natAbs ≤ P := by intro x s h1 h2; rw [hP] at h1 ⊢; exact el h1 h2
  clear el hV ha4 hb4 hra2 hrb2
  clear hP
  obtain ⟨fs, rs⟩ := fr a b hra3 hrb3 (by omega)
  have ds := el' (by omega) rs
  have hs64 := fadd_lt a b
  generalize h1 : fadd a b = s at *
  obtain ⟨fbb, rbb⟩ := fr s (negW a) fs (by rw [rung_neg]; exact hra3) (by rw [val_neg]; omega)
  rw [val_neg, ← Int.sub_eq_add_neg] at rbb
  have dbb := el' (by omega) rbb
  generalize h2 : fadd s (negW a) = bb at *
  obtain ⟨faa, raa⟩ := fr s (negW bb) fs (by rw [rung_neg]; exact fbb) (by rw [val_neg]; omega)
  rw [val_neg, ← Int.sub_eq_add_neg] at raa
  have daa := el' (by omega) raa
  generalize h3 : fadd s (negW bb) = aa at *
  obtain ⟨fda, rda⟩ := fr a (negW aa) hra3 (by rw [rung_neg]; exact faa) (by rw [val_neg]; omega)
  rw [val_neg, ← Int.sub_eq_add_neg] at rda
  have dda := el' (by omega) rda
  generalize h4 : fadd a (negW aa) = da at *
  obtain ⟨fdb, rdb⟩ := fr b (negW bb) hrb3 (by rw [rung_neg]; exact fbb) (by rw [val_neg]; omega)
  rw [val_neg, ← Int.sub_eq_add_neg] at rdb
  have ddb := el' (by omega) rdb
  generalize h5 : fadd b (negW bb) = db at *
  obtain ⟨fer, rer⟩ := fr da db fda fdb (by omega)
  have her64 := fadd_lt da db
  generalize h6 : fadd da db = er at *
  obtain ⟨K, hK⟩ := same_sum a b s er ha hb hs64 her64 (two_sum Fa Fb rs rbb raa rda rdb rer)
  refine ⟨K + 1, ?_⟩
  simp only [portagelaw03_RealExact.j0, Bool.false_eq_true, if_false]
  rw [Add_eq, Option.bind_some, h1, Sub_eq, Option.bind_some, h2, Sub_eq, Option.bind_some, h3, Sub_eq, Option.bind_some, h4, Sub_eq, Option.bind_some, h5, Add_eq, Option.bind_some, h6, and_exp s hs64, and_exp er her64]
  have x1 := exp_fin fs
  have x2 := exp_fin fer
  rw [if_neg (by omega), if_neg (by omega), show portageref03_SameSum.f K (a : Int) (b : Int) (s : Int) (er : Int) = some _ from hK K (by omega)]
  rfl
end Go.Proofs.Ytapgnackoclbeaa.Pure
