import Derived.Test.YtapgnackoclbeaaFlI
set_option linter.unusedSimpArgs false
set_option linter.unusedVariables false
namespace Go.Proofs.Ytapgnackoclbeaa.Fl
open Ieee

/-- each m times 2^e is a rung's value -/
theorem rep (e : Nat) : ∀ m : Nat, m ≤ 2^53 → ∃ k, rv k = m * 2^e := by
  induction e with
  | zero =>
    intro m hm
    refine ⟨m, ?_⟩
    by_cases c : m < 2^53
    · rw [rv_small c, Nat.pow_zero, Nat.mul_one]
    · have := rv_norm 0 m (Or.inl rfl) hm
      rw [Nat.zero_mul, Nat.zero_add] at this; exact this
  | succ e ih =>
    intro m hm
    by_cases c : m < 2^52
    · obtain ⟨k, hk⟩ := ih (2*m) (by omega)
      refine ⟨k, ?_⟩
      rw [hk, Nat.pow_succ]; simp only [Nat.mul_assoc, Nat.mul_comm, Nat.mul_left_comm]
    · exact ⟨(e+1) * 2^52 + m, rv_norm (e+1) m (Or.inr (by omega)) hm⟩
theorem rep_U (n : Nat) (h : n ≤ 2^53) : ∃ k, rv k = n * U := rep uE n h
/-- a value is a multiple of its place; what has fewer digits is one anyway -/
theorem rv_shape (k : Nat) : ∃ m e, rv k = m * 2^e ∧ m < 2^53 ∧ (e = 0 ∨ 2^52 ≤ m) := by
  obtain ⟨e, m, rfl, h, hm⟩ := split_rung k
  exact ⟨m, e, rv_norm e m h (by omega), hm, h⟩
theorem rv_whole (k : Nat) (h : 2^53 * U ≤ rv k) : rv k % U = 0 := by
  obtain ⟨m, e, hv, hm, he⟩ := rv_shape k
  rw [hv] at h ⊢
  have : uE ≤ e := by
    by_cases c : uE ≤ e
    · exact c
    · exfalso
      have h1 : m * 2^e < 2^53 * 2^e := Nat.mul_lt_mul_of_pos_right hm (Nat.two_pow_pos e)
      have h2 : (2:Nat)^e ≤ U := Nat.pow_le_pow_right (by omega) (by omega)
      have h3 := Nat.mul_le_mul_left (2^53) h2
      omega
  unfold U
  rw [show e = (e - uE) + uE by omega, Nat.pow_add, ← Nat.mul_assoc]
  exact Nat.mul_mod_left _ _
/-- the whole part of a value is a value, and so is the next whole number where it is none -/
theorem floor_rep (k : Nat) : ∃ j, rv j = rv k / U * U := by
  by_cases c : 2^53 * U ≤ rv k
  · refine ⟨k, ?_⟩
    have := rv_whole k c
    have h2 := Nat.div_add_mod (rv k) U
    rw [this, Nat.add_zero, Nat.mul_comm] at h2; exact h2.symm
  · apply rep_U
    have : rv k / U < 2^53 := (Nat.div_lt_iff_lt_mul U_pos).mpr (by omega)
    omega
theorem ceil_rep (k : Nat) : ∃ j, rv j = (rv k / U + (rv k % U != 0).toNat) * U := by
  by_cases c : 2^53 * U ≤ rv k
  · refine ⟨k, ?_⟩
    have := rv_whole k c
    have h2 := Nat.div_add_mod (rv k) U
    rw [this, Nat.add_zero, Nat.mul_comm] at h2
    rw [this]; simp; exact h2.symm
  · apply rep_U
    have : rv k / U < 2^53 := (Nat.div_lt_iff_lt_mul U_pos).mpr (by omega)
    have : (rv k % U != 0).toNat ≤ 1 := by cases (rv k % U != 0) <;> decide
    omega

/-! cuts -/
theorem cut_num (way : Toward) (neg : Bool) (n d : Nat) (hw : way = .zero ∨ way = .down) :
    way.cut neg n d = n / 2^d + (match way with | .down => neg && (n % 2^d != 0) | _ => false).toNat := by
  have hlow : n / 1 <<< min d (n.log2 + 2) = n / 2^d ∧ (n % 1 <<< min d (n.log2 + 2) != 0) = (n % 2^d != 0) := by
    rw [Nat.one_shiftLeft]
    by_cases hd : d ≤ n.log2 + 2
    · rw [Nat.min_eq_left hd]; exact ⟨rfl, rfl⟩
    · rw [Nat.min_eq_right (by omega)]
      have hlt : n < 2^(n.log2+1) := Nat.lt_log2_self
      have h2 : n < 2^(n.log2+2) := by rw [Nat.pow_succ]; omega
      have h3 : (2:Nat)^(n.log2+2) ≤ 2^d := Nat.pow_le_pow_right (by omega) (by omega)
      rw [Nat.div_eq_of_lt h2, Nat.div_eq_of_lt (by omega : n < 2^d), Nat.mod_eq_of_lt h2, Nat.mod_eq_of_lt (by omega : n < 2^d)]
      exact ⟨rfl, rfl⟩
  unfold Toward.cut
  rcases hw with rfl | rfl
  · simp only [hlow.1]
  · simp only [hlow.1, hlow.2]
/-- how many whole ones a finite word's size has, cut -/
def wholeN (way : Toward) (b : Nat) : Nat := rv (rung b) / U + (match way with | .down => sgn b && (rv (rung b) % U != 0) | _ => false).toNat
theorem integral_finite (way : Toward) (hw : way = .zero ∨ way = .down) {b : Nat} (h : rung b < infR) : (double.read b).integral way = .number (sgn b) (wholeN way b) 0 := by
  obtain ⟨m, i, hr, hi, hv, _⟩ := read_finite h
  rw [hr]
  simp only [Datum.integral]
  congr 1
  rw [cut_num way _ _ _ hw, Nat.shiftLeft_eq]
  unfold wholeN
  have e : m * 2^i.toNat / 2^(-i).toNat = rv (rung b) / U ∧ ((m * 2^i.toNat % 2^(-i).toNat != 0) = (rv (rung b) % U != 0)) := by
    have hcr : m * 2^i.toNat * U = rv (rung b) * 2^(-i).toNat := by
      rw [← hv]
      unfold U
      rw [Nat.mul_assoc, Nat.mul_assoc, ← Nat.pow_add, ← Nat.pow_add]
      congr 2; rw [uE_is]; omega
    refine ⟨div_cross (Nat.two_pow_pos _) U_pos hcr, ?_⟩
    have := mod_cross (Nat.two_pow_pos _) U_pos hcr
    simp only [bne, this]
  rw [e.1, e.2]
theorem write_number (s : Bool) (n : Nat) : double.write (.number s n 0) = rndW s (n * U) 1 := by
  unfold Format.write
  simp only
  apply nearest_W _ _ _ _ _ (by omega)
  unfold U
  rw [show (-((0:Int)+1074)).toNat = 0 by omega, show ((0:Int)+1074).toNat = uE by rw [uE_is]; omega]

/-- whole numbers -/
def fromN (n : Int) : Nat := rndW (n < 0) (n.natAbs * U) 1
theorem rndW_exact {s : Bool} {A k : Nat} (h : rv k = A) (hk : k ≤ infR) : rndW s A 1 = word s k := by
  unfold rndW; rw [← h, rndQ_exact, Nat.min_eq_left hk]
theorem two53U : 2^53 * U < rv infR := by
  rw [rv_inf]; unfold U
  rw [← Nat.pow_add, ← Nat.pow_add]
  exact Nat.pow_lt_pow_right (by omega) (by rw [uE_is, topE_is]; omega)
theorem rv_lt_iff {a b : Nat} : rv a < rv b ↔ a < b := by
  constructor
  · intro h
    by_cases c : a < b
    · exact c
    · have := rv_le (show b ≤ a by omega); omega
  · exact rv_lt
theorem fromN_spec (n : Int) (h : n.natAbs ≤ 2^53) : ∃ k, k < infR ∧ rv k = n.natAbs * U ∧ fromN n = word (n < 0) k := by
  obtain ⟨k, hk⟩ := rep_U n.natAbs h
  have hlt : k < infR := by
    apply rv_lt_iff.mp
    rw [hk]
    exact Nat.lt_of_le_of_lt (Nat.mul_le_mul_right _ h) two53U
  exact ⟨k, hlt, hk, rndW_exact hk (by omega)⟩
theorem fromN_val (n : Int) (h : n.natAbs ≤ 2^53) : rung (fromN n) < infR ∧ rv (rung (fromN n)) = n.natAbs * U ∧ sgn (fromN n) = decide (n < 0) ∧ val (fromN n) = n * U := by
  obtain ⟨k, hk, hv, hw⟩ := fromN_spec n h
  have h63 := infR_lt
  have hr : rung (fromN n) = k := by rw [hw]; exact rung_word (by omega)
  have hs : sgn (fromN n) = decide (n < 0) := by rw [hw]; exact sgn_word (by omega)
  refine ⟨by omega, by rw [hr, hv], hs, ?_⟩
  unfold val
  rw [hs, hr, hv]
  by_cases c : n < 0
  · rw [decide_eq_true c, if_pos rfl]
    push_cast
    have : (n.natAbs : Int) = -n := by omega
    rw [this, Int.neg_mul, Int.neg_neg]
  · rw [decide_eq_false c, if_neg (by simp)]
    push_cast
    have : (n.natAbs : Int) = n := by omega
    rw [this]
theorem val_zero_iff (a : Nat) : val a = 0 ↔ rung a = 0 := by
  unfold val
  constructor
  · intro h
    by_cases c : rung a = 0
    · exact c
    · have := rv_pos c; split at h <;> omega
  · intro h; rw [h]; simp [rv]
theorem U_posI : (0:Int) < (U : Int) := by have := U_pos; omega
theorem mulU_neg (n : Int) : n * (U:Int) < 0 ↔ n < 0 := by
  have := U_posI
  constructor
  · intro h
    by_cases c : n < 0
    · exact c
    · have := Int.mul_nonneg (show 0 ≤ n by omega) (Int.le_of_lt U_posI); omega
  · intro h; exact Int.mul_neg_of_neg_of_pos h U_posI
theorem mulU_zero (n : Int) : n * (U:Int) = 0 ↔ n = 0 := by
  have := U_posI
  constructor
  · intro h
    rcases Int.mul_eq_zero.mp h with h | h
    · exact h
    · omega
  · intro h; rw [h, Int.zero_mul]
theorem natAbs_mulU (n : Int) : (n * (U:Int)).natAbs = n.natAbs * U := by rw [Int.natAbs_mul, Int.natAbs_natCast]

theorem add_whole (i j : Int) (hi : i.natAbs ≤ 2^53) (hj : j.natAbs ≤ 2^53) : fadd (fromN i) (fromN j) = fromN (i+j) := by
  obtain ⟨a1, a2, a3, a4⟩ := fromN_val i hi
  obtain ⟨b1, b2, b3, b4⟩ := fromN_val j hj
  unfold fadd
  rw [if_neg (by omega), if_neg (by omega), if_neg (by omega)]
  unfold addW
  rw [a4, b4, ← Int.add_mul]
  by_cases c : i + j = 0
  · rw [if_pos ((mulU_zero _).mpr c), a3, b3]
    have hf : (decide (i < 0) && decide (j < 0)) = false := by
      by_cases c2 : i < 0
      · rw [decide_eq_false (show ¬ j < 0 by omega), Bool.and_false]
      · rw [decide_eq_false c2]; rfl
    rw [hf, c]
    unfold fromN
    rw [show (0:Int).natAbs = 0 from rfl, Nat.zero_mul]
    unfold rndW
    rw [rndQ_zero]; rfl
  · rw [if_neg (fun h => c ((mulU_zero _).mp h)), natAbs_mulU]
    unfold fromN
    congr 1
    rw [decide_eq_decide]; exact mulU_neg _
theorem neg_whole (j : Int) (hj : j.natAbs ≤ 2^53) : val (negW (fromN j)) = (-j) * U := by
  rw [val_neg, (fromN_val j hj).2.2.2, Int.neg_mul]
theorem sub_whole (i j : Int) (hi : i.natAbs ≤ 2^53) (hj : j.natAbs ≤ 2^53) : fadd (fromN i) (negW (fromN j)) = fromN (i-j) := by
  obtain ⟨a1, a2, a3, a4⟩ := fromN_val i hi
  obtain ⟨b1, b2, b3, b4⟩ := fromN_val j hj
  have hr := rung_neg (fromN j)
  have hs := sgn_neg (fromN j)
  unfold fadd
  rw [if_neg (by omega), if_neg (by omega), if_neg (by omega)]
  unfold addW
  rw [a4, neg_whole j hj, ← Int.add_mul, hs, a3, b3, show i + -j = i - j by omega]
  by_cases c : i - j = 0
  · rw [if_pos ((mulU_zero _).mpr c)]
    have hf : (decide (i < 0) && !decide (j < 0)) = false := by
      by_cases c2 : i < 0
      · rw [decide_eq_true (show j < 0 by omega)]; simp
      · rw [decide_eq_false c2]; rfl
    rw [hf, c]
    unfold fromN
    rw [show (0:Int).natAbs = 0 from rfl, Nat.zero_mul]
    unfold rndW
    rw [rndQ_zero]; rfl
  · rw [if_neg (fun h => c ((mulU_zero _).mp h)), natAbs_mulU]
    unfold fromN
    congr 1
    rw [decide_eq_decide]; exact mulU_neg _
theorem mul_whole (i j : Int) (hi : i.natAbs ≤ 2^53) (hj : j.natAbs ≤ 2^53) : (i * j = 0 → rung (fmul (fromN i) (fromN j)) = 0) ∧ (i * j ≠ 0 → fmul (fromN i) (fromN j) = fromN (i*j)) := by
  obtain ⟨a1, a2, a3, a4⟩ := fromN_val i hi
  obtain ⟨b1, b2, b3, b4⟩ := fromN_val j hj
  have he : fmul (fromN i) (fromN j) = rndW (decide (i < 0) ^^ decide (j < 0)) ((i*j).natAbs * U) 1 := by
    unfold fmul
    rw [if_neg (by omega), if_neg (by omega), if_neg (by omega)]
    unfold mulW
    rw [a2, b2, a3, b3]
    unfold rndW
    rw [rndQ_cross (C := (i*j).natAbs * U) (D := 1) U_pos (by omega)]
    rw [Int.natAbs_mul]; simp only [Nat.mul_one, Nat.mul_assoc, Nat.mul_comm, Nat.mul_left_comm]
  rw [he]
  constructor
  · intro h
    rw [rung_W, h, show (0:Int).natAbs = 0 from rfl, Nat.zero_mul, rndQ_zero]; rfl
  · intro h
    unfold fromN
    congr 1
    have hi0 : i ≠ 0 := by intro hi0; rw [hi0, Int.zero_mul] at h; exact h rfl
    have hj0 : j ≠ 0 := by intro hj0; rw [hj0, Int.mul_zero] at h; exact h rfl
    rcases Int.lt_or_gt_of_ne hi0 with c | c <;> rcases Int.lt_or_gt_of_ne hj0 with d | d
    · have := Int.mul_pos_of_neg_of_neg c d
      rw [decide_eq_true c, decide_eq_true d, decide_eq_false (by omega)]; rfl
    · have := Int.mul_neg_of_neg_of_pos c d
      rw [decide_eq_true c, decide_eq_false (by omega), decide_eq_true (by omega)]; rfl
    · have := Int.mul_neg_of_pos_of_neg c d
      rw [decide_eq_false (by omega), decide_eq_true d, decide_eq_true (by omega)]; rfl
    · have := Int.mul_pos c d
      rw [decide_eq_false (by omega), decide_eq_false (by omega), decide_eq_false (by omega)]; rfl

/-! the rounded quotient's floor -/
theorem U_ge : (2:Nat)^60 ≤ U := by
  unfold U
  exact Nat.pow_le_pow_right (by omega) (by rw [uE_is]; omega)
theorem gap_le (k : Nat) (hk : 0 < k) : rv k - rv (k-1) = 1 ∨ (rv k - rv (k-1)) * 2^52 ≤ rv (k-1) := by
  obtain ⟨e, m, he, h, hm⟩ := split_rung (k-1)
  have h1 := rv_norm e m h (by omega)
  have h2 := rv_succ e m h hm
  rw [← he] at h1
  rw [← he, show k - 1 + 1 = k by omega] at h2
  rw [h1, h2]
  have h3 : (m+1) * 2^e - m * 2^e = 2^e := by rw [Nat.add_mul, Nat.one_mul, Nat.add_sub_cancel_left]
  rw [h3]
  rcases h with h | h
  · left; rw [h, Nat.pow_zero]
  · right; rw [Nat.mul_comm]; exact Nat.mul_le_mul_right _ h
theorem quo_floor (i j : Nat) (hi : 1 ≤ i) (hi2 : i ≤ 2^52) (hj : 1 ≤ j) (hj2 : j ≤ 2^52) : rv (rndQ (i * U) j) / U = i / j ∧ rndQ (i * U) j < infR := by
  obtain ⟨Q, hQ⟩ : ∃ Q, Q = i / j := ⟨_, rfl⟩
  have h0 := Nat.div_add_mod i j
  have h1 := Nat.mod_lt i (show j > 0 by omega)
  rw [← hQ] at h0 ⊢
  have hQi : Q ≤ i := by rw [hQ]; exact Nat.div_le_self _ _
  obtain ⟨k0, hk0⟩ := rep_U Q (by omega)
  obtain ⟨k1, hk1⟩ := rep_U (Q+1) (by omega)
  have hUp := U_pos
  have hk1p : 0 < k1 := by
    by_cases c : k1 = 0
    · rw [c, Nat.add_mul] at hk1
      have : rv 0 = 0 := rfl
      omega
    · omega
  have hlow : k0 ≤ rndQ (i * U) j := by
    have : rndQ (rv k0) 1 ≤ rndQ (i * U) j := by
      apply rndQ_mono (by omega) (by omega)
      rw [hk0, Nat.mul_one, Nat.mul_right_comm]
      apply Nat.mul_le_mul_right
      rw [Nat.mul_comm]; omega
    rw [rndQ_exact] at this; exact this
  have hhigh : rndQ (i * U) j < k1 := by
    by_cases c : i % j = 0
    · -- exact
      have : rndQ (i * U) j = k0 := by
        rw [← rndQ_exact k0]
        apply rndQ_cross (by omega) (by omega)
        rw [hk0, Nat.mul_one]
        rw [c, Nat.add_zero] at h0
        rw [← h0]; simp only [Nat.mul_assoc, Nat.mul_comm, Nat.mul_left_comm]
      rw [this]
      apply rv_lt_iff.mp
      rw [hk0, hk1, Nat.add_mul]; omega
    · by_cases c2 : rndQ (i * U) j < k1
      · exact c2
      · exfalso
        have hR := isR_rndQ (i * U) j (by omega)
        have hge : mid (k1 - 1) * j ≤ 2 * (i * U) := by
          have hm : mid (k1-1) ≤ mid (rndQ (i * U) j - 1) := by
            by_cases c3 : k1 - 1 = rndQ (i * U) j - 1
            · rw [c3]; exact Nat.le_refl _
            · exact Nat.le_of_lt (mid_lt (by omega))
          have := Nat.mul_le_mul_right j hm
          rcases hR.lo with h | h | ⟨h, _⟩ <;> omega
        have hmid : mid (k1-1) + (rv k1 - rv (k1-1)) = 2 * rv k1 := by
          unfold mid
          have := rv_lt (show k1 - 1 < k1 by omega)
          rw [show k1 - 1 + 1 = k1 by omega]; omega
        obtain ⟨g, hg⟩ : ∃ g, g = rv k1 - rv (k1-1) := ⟨_, rfl⟩
        have hgap := gap_le k1 hk1p
        rw [← hg] at hgap hmid
        have hlt := rv_lt (show k1 - 1 < k1 by omega)
        -- 2 U ≤ j g
        have h5 : (mid (k1-1) + g) * j = 2 * rv k1 * j := by rw [hmid]
        rw [Nat.add_mul, hk1] at h5
        have h6 : 2 * ((Q+1) * U) * j = 2 * U * (j * Q) + 2 * U * j := by
          have e : 2 * ((Q+1) * U) * j = 2 * U * (j * (Q+1)) := by simp only [Nat.mul_assoc, Nat.mul_comm, Nat.mul_left_comm]
          rw [e, Nat.mul_succ, Nat.mul_add]
        have h7 : 2 * (i * U) = 2 * U * (j * Q) + 2 * U * (i % j) := by
          rw [← Nat.mul_add, h0]; simp only [Nat.mul_assoc, Nat.mul_comm, Nat.mul_left_comm]
        have h8 : 2 * U * (i % j) + 2 * U ≤ 2 * U * j := by
          rw [← Nat.mul_succ]; exact Nat.mul_le_mul_left _ h1
        have h9 : 2 * U ≤ g * j := by omega
        have hjQ : j * Q + 1 ≤ 2^52 := by omega
        rcases hgap with hgap | hgap
        · rw [hgap, Nat.one_mul] at h9
          have := U_ge
          omega
        · have h10 : g * j * 2^52 < rv k1 * j := by
            rw [Nat.mul_right_comm]
            exact Nat.mul_lt_mul_of_pos_right (by omega) (by omega)
          have h11 : rv k1 * j ≤ (2^53 - 1) * U := by
            rw [hk1, Nat.mul_right_comm]
            apply Nat.mul_le_mul_right
            rw [Nat.add_mul, Nat.one_mul, Nat.mul_comm]; omega
          have h12 := Nat.mul_le_mul_right (2^52) h9
          have h13 : (2^53 - 1) * U < 2 * U * 2^52 := by
            rw [Nat.mul_comm 2 U, Nat.mul_assoc, Nat.mul_comm]
            exact Nat.mul_lt_mul_of_pos_left (by omega) hUp
          omega
  have l1 := rv_le hlow
  have l2 := rv_lt hhigh
  rw [hk0] at l1
  rw [hk1] at l2
  refine ⟨?_, ?_⟩
  · have e1 : Q ≤ rv (rndQ (i * U) j) / U := (Nat.le_div_iff_mul_le hUp).mpr l1
    have e2 : rv (rndQ (i * U) j) / U < Q + 1 := (Nat.div_lt_iff_lt_mul hUp).mpr l2
    omega
  · apply rv_lt_iff.mp
    have : (Q+1) * U ≤ 2^53 * U := Nat.mul_le_mul_right _ (by omega)
    have := two53U
    omega
end Go.Proofs.Ytapgnackoclbeaa.Fl
