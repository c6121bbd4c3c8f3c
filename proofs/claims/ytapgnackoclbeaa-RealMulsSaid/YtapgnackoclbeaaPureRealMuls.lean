/- RealMuls: of every two 64 bits: the program's product and quotient are the document's (whole numbers, rounded once). For every input. -/
import Derived.Test.YtapgnackoclbeaaPRealx7
import Derived.Test.YtapgnackoclbeaaLimb7
set_option linter.unusedSimpArgs false
set_option linter.unusedVariables false
namespace Go.Proofs.Ytapgnackoclbeaa.Pure
open Go.RowKit Go.Proofs.Ytapgnackoclbeaa.PReal Go.Proofs.Ytapgnackoclbeaa.Fl Go.Proofs.YtapgnackoclbeaaW.PrintWords Go.Proofs.YtapgnackoclbeaaW.PrintLast

theorem m_zero (a : Nat) : clsI a = 0 ↔ infR < rung a := by
  unfold clsI
  constructor
  · intro h
    by_cases c : infR < rung a
    · exact c
    · rw [if_neg c] at h; split at h <;> (try split at h) <;> (try split at h) <;> omega
  · intro h; rw [if_pos h]
theorem m_one (a : Nat) : clsI a = 1 ↔ rung a = infR := by
  unfold clsI
  constructor
  · intro h
    by_cases c : infR < rung a
    · rw [if_pos c] at h; omega
    · rw [if_neg c] at h
      by_cases c2 : rung a = infR
      · exact c2
      · rw [if_neg c2] at h; split at h <;> (try split at h) <;> omega
  · intro h; rw [if_neg (by omega), if_pos h]
theorem m_two (a : Nat) : clsI a = 2 ↔ rung a = 0 := by
  have h0 := infR_num
  unfold clsI
  constructor
  · intro h
    by_cases c : infR < rung a
    · rw [if_pos c] at h; omega
    · rw [if_neg c] at h
      by_cases c2 : rung a = infR
      · rw [if_pos c2] at h; omega
      · rw [if_neg c2] at h
        by_cases c3 : rung a = 0
        · exact c3
        · rw [if_neg c3] at h; split at h <;> omega
  · intro h; rw [if_neg (by omega), if_neg (by omega), if_pos h]

theorem sh64 {z : Nat} (L : Nat) (h : z < 2^(32*L)) (hL : L ≤ 1000000) : Sh z := Nat.le_trans (len_le (L := L) h) hL
theorem xor_bne (s t : Bool) : (s != t) = (s ^^ t) := by cases s <;> cases t <;> rfl

/-- the product of the parts, rounded -/
theorem mul_round (s : Bool) (a b : Nat) : roundN s (pm a * pm b) (pe a + pe b) false = rndW s (rv (rung a) * rv (rung b)) U := by
  have h1 := pe_ge a
  have h2 := pe_ge b
  unfold roundN
  rw [if_neg (by simp)]
  apply nearest_W _ _ _ _ _ U_pos
  rw [← pm_val a, ← pm_val b]
  generalize pe a = i at *
  generalize pe b = j at *
  generalize pm a = m
  generalize pm b = n
  have e1 : 2^(i+1074).toNat * 2^(j+1074).toNat * 2^(-(i+j+1074)).toNat = 2^(i+j+1074).toNat * U := by
    unfold U
    rw [← Nat.pow_add, ← Nat.pow_add, ← Nat.pow_add, uE_is, show (i+1074).toNat + (j+1074).toNat + (-(i+j+1074)).toNat = (i+j+1074).toNat + 1074 by omega]
  calc m * 2^(i+1074).toNat * (n * 2^(j+1074).toNat) * 2^(-(i+j+1074)).toNat
      = m * n * (2^(i+1074).toNat * 2^(j+1074).toNat * 2^(-(i+j+1074)).toNat) := by simp only [Nat.mul_assoc, Nat.mul_left_comm]
    _ = _ := by rw [e1, ← Nat.mul_assoc]

/-- the quotient of the parts, rounded -/
theorem div_round (s : Bool) (a b : Nat) (ha : pm a ≠ 0) (hb : pm b ≠ 0) (hb0 : rung b ≠ 0) (Y q : Nat) (hY : Y = pm a * 2^110) (hq : q = Y / pm b) (hq2 : 2^57 ≤ q) (e : Int) (he : e = pe a - pe b - 110) :
    roundN s q e (Y % pm b != 0) = rndW s (rv (rung a) * U) (rv (rung b)) := by
  have h1 := pe_ge a
  have h2 := pe_ge b
  have hB : 0 < rv (rung b) := rv_pos hb0
  have hee : 2^(pe a+1074).toNat * U * 2^(-(e + 1074)).toNat = 2^110 * 2^(e + 1074).toNat * 2^(pe b+1074).toNat := by
    unfold U
    rw [← Nat.pow_add, ← Nat.pow_add, ← Nat.pow_add, ← Nat.pow_add, uE_is, show (pe a + 1074).toNat + 1074 + (-(e + 1074)).toNat = 110 + (e + 1074).toNat + (pe b + 1074).toNat by omega]
  have hAB : rv (rung a) * U * pm b * 2^(-(e + 1074)).toNat = Y * 2^(e + 1074).toNat * rv (rung b) := by
    rw [← pm_val a, ← pm_val b, hY]
    calc pm a * 2^(pe a+1074).toNat * U * pm b * 2^(-(e+1074)).toNat = pm a * pm b * (2^(pe a+1074).toNat * U * 2^(-(e + 1074)).toNat) := by simp only [Nat.mul_assoc, Nat.mul_comm, Nat.mul_left_comm]
      _ = _ := by rw [hee]; simp only [Nat.mul_assoc, Nat.mul_comm, Nat.mul_left_comm]
  clear hee
  unfold roundN
  by_cases c : Y % pm b = 0
  · have hc : (Y % pm b != 0) = false := by simpa using c
    rw [hc, if_neg (by simp)]
    have hqZ : q * pm b = Y := by rw [hq]; have := Nat.div_add_mod Y (pm b); rw [c] at this; rw [Nat.mul_comm]; omega
    apply nearest_W _ _ _ _ _ hB
    have hz : 0 < pm b := by omega
    apply Nat.eq_of_mul_eq_mul_right hz
    calc rv (rung a) * U * 2^(-(e + 1074)).toNat * pm b = rv (rung a) * U * pm b * 2^(-(e + 1074)).toNat := by simp only [Nat.mul_assoc, Nat.mul_comm, Nat.mul_left_comm]
      _ = (q * pm b) * 2^(e + 1074).toNat * rv (rung b) := by rw [hAB, hqZ]
      _ = _ := by simp only [Nat.mul_assoc, Nat.mul_comm, Nat.mul_left_comm]
  · have hc : (Y % pm b != 0) = true := by simpa using c
    rw [hc, if_pos rfl]
    have := nearest_mark s Y (pm b) (e - 1) (rv (rung a) * U) (rv (rung b)) (by omega) hB (by omega) (by rw [show e - 1 + 1075 = e + 1074 by omega]; exact hAB)
    rw [hc, ← hq] at this
    exact this

theorem mul_j2 (s : Bool) (a b : Nat) (ha : a < 2^64) (hb : b < 2^64) (h0 : rung a ≠ 0) (h1 : rung b ≠ 0) :
    Ev (fun k => portageref03_Mul.j2 k (a : Int) (b : Int) s false) ((rndW s (rv (rung a) * rv (rung b)) U : Nat) : Int) := by
  have hma := pm_lt a
  have hmb := pm_lt b
  have hpa := pe_ge a
  have hpb := pe_ge b
  have hna : pm a ≠ 0 := fun h => h0 (pm_zero.mp h)
  have hnb : pm b ≠ 0 := fun h => h1 (pm_zero.mp h)
  have hlt : pm a * pm b < 2^(32*4) := by
    calc pm a * pm b < 9007199254740992 * 9007199254740992 := Nat.mul_lt_mul_of_lt_of_le hma (Nat.le_of_lt hmb) (by omega)
      _ ≤ _ := by decide
  have hpos : pm a * pm b ≠ 0 := fun h => (Nat.mul_eq_zero.mp h).elim hna hnb
  obtain ⟨K1, l1⟩ := list_ev (pm a) (by omega)
  obtain ⟨K2, l2⟩ := list_ev (pm b) (by omega)
  obtain ⟨K3, l3⟩ := times_ev (pm a) (pm b) (sh64 2 (by omega) (by omega)) (sh64 2 (by omega) (by omega))
  obtain ⟨K4, l4⟩ := round_ev s (pm a * pm b) (pe a + pe b) false hpos (sh64 4 hlt (by omega)) ⟨by omega, by omega⟩ (Nat.le_trans (bl_lt hlt) (by omega)) (by simp)
  rw [mul_round] at l4
  refine ⟨max (max K1 K2) (max K3 K4) + 1, fun k hk => ?_⟩
  obtain ⟨k, rfl⟩ : ∃ m, k = m + 1 := ⟨k-1, by omega⟩
  simp only [portageref03_Mul.j2, Bool.false_eq_true, if_false]
  rw [parts_eq a ha, parts_eq b hb]
  simp only [Option.bind_some]
  rw [show portageref03_List.f k (pm a : Int) = some _ from l1 k (by omega), show portageref03_List.f k (pm b : Int) = some _ from l2 k (by omega)]
  simp only [Option.bind_some]
  rw [show portageref03_Times.f k (big (pm a)) (big (pm b)) = some _ from l3 k (by omega), w64 (x := pe a + pe b) (by omega) (by omega)]
  simp only [Option.bind_some]
  rw [show portageref03_Round.f k s (big (pm a * pm b)) (pe a + pe b) false = some _ from l4 k (by omega)]
  rfl

theorem div_j2 (s : Bool) (a b : Nat) (ha : a < 2^64) (hb : b < 2^64) (h0 : rung a ≠ 0) (h1 : rung b ≠ 0) :
    Ev (fun k => portageref03_Div.j2 k (a : Int) (b : Int) s false) ((rndW s (rv (rung a) * U) (rv (rung b)) : Nat) : Int) := by
  have hma := pm_lt a
  have hmb := pm_lt b
  have hpa := pe_ge a
  have hpb := pe_ge b
  have hna : pm a ≠ 0 := fun h => h0 (pm_zero.mp h)
  have hnb : pm b ≠ 0 := fun h => h1 (pm_zero.mp h)
  obtain ⟨Y, hY⟩ : ∃ Y, Y = pm a * 2^110 := ⟨_, rfl⟩
  obtain ⟨q, hq⟩ : ∃ q, q = Y / pm b := ⟨_, rfl⟩
  have hYlt : Y < 2^163 := by
    rw [hY]
    calc pm a * 2^110 < 9007199254740992 * 2^110 := Nat.mul_lt_mul_of_pos_right hma (Nat.two_pow_pos _)
      _ ≤ _ := by decide
  have hYge : 2^110 ≤ Y := by rw [hY]; exact Nat.le_mul_of_pos_left _ (by omega)
  have hq57 : 2^57 ≤ q := by
    rw [hq, Nat.le_div_iff_mul_le (by omega)]
    have : 2^57 * pm b ≤ 2^57 * 9007199254740992 := Nat.mul_le_mul_left _ (by omega)
    omega
  have hqY : q ≤ Y := by rw [hq]; exact Nat.div_le_self _ _
  have hq0 : q ≠ 0 := by omega
  have hqlt : q < 2^163 := by omega
  obtain ⟨K1, l1⟩ := list_ev (pm a) (by omega)
  obtain ⟨K2, l2⟩ := list_ev (pm b) (by omega)
  obtain ⟨K5, l5⟩ := up_ev (pm a) 110 (sh64 2 (by omega) (by omega)) (by omega)
  rw [← hY] at l5
  obtain ⟨K3, l3⟩ := over_ev Y (pm b) (sh64 6 (by omega) (by omega)) hnb (sh64 2 (by omega) (by omega)) (Nat.le_trans (bl_lt hYlt) (by omega))
  rw [← hq] at l3
  obtain ⟨K4, l4⟩ := round_ev s q (pe a - pe b - 110) (Y % pm b != 0) hq0 (sh64 6 (by omega) (by omega)) ⟨by omega, by omega⟩ (Nat.le_trans (bl_lt hqlt) (by omega)) (by
    intro _; left
    have : 57 ≤ q.log2 := (Nat.le_log2 hq0).mpr hq57
    omega)
  rw [div_round s a b hna hnb h1 Y q hY hq hq57 _ rfl] at l4
  have hmore : (decide (((big (Y % pm b)).length : Int) > 0)) = (Y % pm b != 0) := by
    rw [Bool.eq_iff_iff, decide_eq_true_iff, bne_iff_ne]
    have := len_pos (n := Y % pm b)
    generalize Y % pm b = r at *
    constructor
    · intro h h2; have := this.mpr h2; omega
    · intro h
      have : (big r).length ≠ 0 := fun h2 => h (this.mp h2)
      omega
  refine ⟨max (max K1 K2) (max K5 (max K3 K4)) + 1, fun k hk => ?_⟩
  obtain ⟨k, rfl⟩ : ∃ m, k = m + 1 := ⟨k-1, by omega⟩
  simp only [portageref03_Div.j2, Bool.false_eq_true, if_false]
  rw [parts_eq a ha, parts_eq b hb]
  simp only [Option.bind_some]
  rw [show portageref03_List.f k (pm a : Int) = some _ from l1 k (by omega), show portageref03_List.f k (pm b : Int) = some _ from l2 k (by omega)]
  simp only [Option.bind_some]
  rw [show portageref03_Up.f k (big (pm a)) 110 = some _ from l5 k (by omega)]
  simp only [Option.bind_some]
  rw [show portageref03_Over.f k (big Y) (big (pm b)) = some _ from l3 k (by omega), w64 (x := pe a - pe b) (by omega) (by omega), w64 (x := pe a - pe b - 110) (by omega) (by omega)]
  simp only [Option.bind_some]
  rw [hmore, show portageref03_Round.f k s (big q) (pe a - pe b - 110) (Y % pm b != 0) = some _ from l4 k (by omega)]
  rfl

theorem signed_inf (s : Bool) : portageref03_signed.f s 9218868437227405312 = some ((word s infR : Nat) : Int) := signed_eq s infR Fl.infR_lt
theorem signed_zero (s : Bool) : portageref03_signed.f s 0 = some ((word s 0 : Nat) : Int) := signed_eq s 0 (by omega)

theorem mul_ref (a b : Nat) (ha : a < 2^64) (hb : b < 2^64) : Ev (fun k => portageref03_Mul.f k (a : Int) (b : Int)) ((fmul a b : Nat) : Int) := by
  have hinf := infR_num
  -- which way is taken
  have hnan : ∀ x : Bool, x = true → Ev (fun k => portageref03_Mul.j0 k (a : Int) (b : Int) (clsI a) (clsI b) x) ((nanN : Nat) : Int) := by
    intro x hx
    refine ⟨1, fun k hk => ?_⟩
    obtain ⟨k, rfl⟩ : ∃ m, k = m + 1 := ⟨k-1, by omega⟩
    rw [hx]
    simp only [portageref03_Mul.j0, if_true]; rfl
  have hf : ∀ (r : Int) (x : Bool), x = (decide (infR < rung a) || decide (infR < rung b) || (decide (rung a = infR) && decide (rung b = 0)) || (decide (rung a = 0) && decide (rung b = infR))) →
      Ev (fun k => portageref03_Mul.j0 k (a : Int) (b : Int) (clsI a) (clsI b) x) r → Ev (fun k => portageref03_Mul.f k (a : Int) (b : Int)) r := by
    intro r x hx h
    obtain ⟨K, h⟩ := h
    refine ⟨K + 1, fun k hk => ?_⟩
    obtain ⟨k, rfl⟩ : ∃ m, k = m + 1 := ⟨k-1, by omega⟩
    simp only [portageref03_Mul.f]
    rw [class_eq a ha, class_eq b hb, Option.bind_some, Option.bind_some]
    have h' := h (k+1) (by omega)
    simp only at h'
    by_cases c0 : infR < rung a
    · rw [if_pos ((m_zero a).mpr c0)]
      rw [hx, decide_eq_true c0] at h'; simpa using h'
    rw [if_neg (fun h => c0 ((m_zero a).mp h))]
    by_cases c1 : infR < rung b
    · rw [if_pos ((m_zero b).mpr c1)]
      rw [hx, decide_eq_true c1] at h'; simpa using h'
    rw [if_neg (fun h => c1 ((m_zero b).mp h))]
    rw [decide_eq_false c0, decide_eq_false c1] at hx
    by_cases c2 : rung a = infR
    · rw [if_pos ((m_one a).mpr c2)]
      have n2 : ¬ rung a = 0 := by omega
      rw [decide_eq_true c2, decide_eq_false n2] at hx
      by_cases c3 : rung b = 0
      · rw [if_pos ((m_two b).mpr c3)]
        rw [decide_eq_true c3] at hx
        rw [hx] at h'; exact h'
      · rw [if_neg (fun h => c3 ((m_two b).mp h)), if_neg (fun h => n2 ((m_two a).mp h))]
        rw [decide_eq_false c3] at hx
        rw [hx] at h'; exact h'
    · rw [if_neg (fun h => c2 ((m_one a).mp h))]
      rw [decide_eq_false c2] at hx
      by_cases c3 : rung a = 0
      · rw [if_pos ((m_two a).mpr c3)]
        have : (clsI b == 1) = decide (rung b = infR) := by
          rw [Bool.eq_iff_iff, beq_iff_eq, decide_eq_true_iff]; exact m_one b
        rw [decide_eq_true c3] at hx
        rw [this]
        rw [hx] at h'; simpa using h'
      · rw [if_neg (fun h => c3 ((m_two a).mp h))]
        rw [decide_eq_false c3] at hx
        rw [hx] at h'; simpa using h'
  have h1 : ∀ (r : Int), Ev (fun k => portageref03_Mul.j1 k (a : Int) (b : Int) (clsI a) (clsI b) (sgn a ^^ sgn b) (decide (rung a = infR) || decide (rung b = infR))) r → Ev (fun k => portageref03_Mul.j0 k (a : Int) (b : Int) (clsI a) (clsI b) false) r := by
    intro r h
    refine ev_next (fun k => ?_) h
    simp only [portageref03_Mul.j0, Bool.false_eq_true, if_false]
    rw [negative_eq a ha, negative_eq b hb, Option.bind_some, Option.bind_some, xor_bne]
    by_cases c : rung a = infR
    · rw [if_pos ((m_one a).mpr c), decide_eq_true c, Bool.true_or]
    · have : (clsI b == 1) = decide (rung b = infR) := by
        rw [Bool.eq_iff_iff, beq_iff_eq, decide_eq_true_iff]; exact m_one b
      rw [if_neg (fun h => c ((m_one a).mp h)), decide_eq_false c, Bool.false_or, this]
  have h2 : ∀ (r : Int), Ev (fun k => portageref03_Mul.j2 k (a : Int) (b : Int) (sgn a ^^ sgn b) (decide (rung a = 0) || decide (rung b = 0))) r → Ev (fun k => portageref03_Mul.j1 k (a : Int) (b : Int) (clsI a) (clsI b) (sgn a ^^ sgn b) false) r := by
    intro r h
    refine ev_next (fun k => ?_) h
    simp only [portageref03_Mul.j1, Bool.false_eq_true, if_false]
    by_cases c : rung a = 0
    · rw [if_pos ((m_two a).mpr c), decide_eq_true c, Bool.true_or]
    · have : (clsI b == 2) = decide (rung b = 0) := by
        rw [Bool.eq_iff_iff, beq_iff_eq, decide_eq_true_iff]; exact m_two b
      rw [if_neg (fun h => c ((m_two a).mp h)), decide_eq_false c, Bool.false_or, this]
  have hinfEv : Ev (fun k => portageref03_Mul.j1 k (a : Int) (b : Int) (clsI a) (clsI b) (sgn a ^^ sgn b) true) ((word (sgn a ^^ sgn b) infR : Nat) : Int) := by
    refine ⟨1, fun k hk => ?_⟩
    obtain ⟨k, rfl⟩ : ∃ m, k = m + 1 := ⟨k-1, by omega⟩
    simp only [portageref03_Mul.j1, if_true]
    rw [signed_inf]; rfl
  unfold fmul
  by_cases d1 : infR < rung a ∨ infR < rung b
  · rw [if_pos d1]
    apply hf _ true _ (hnan true rfl)
    rcases d1 with d | d <;> rw [decide_eq_true d] <;> simp
  rw [if_neg d1]
  have na : ¬ infR < rung a := fun h => d1 (Or.inl h)
  have nb : ¬ infR < rung b := fun h => d1 (Or.inr h)
  rw [decide_eq_false na, decide_eq_false nb] at hf
  by_cases c1 : rung a = infR
  · rw [if_pos c1]
    have n0 : ¬ rung a = 0 := by omega
    rw [decide_eq_true c1, decide_eq_false n0] at hf
    rw [decide_eq_true c1] at h1
    by_cases c2 : rung b = 0
    · rw [if_pos c2]
      rw [decide_eq_true c2] at hf
      exact hf _ true rfl (hnan true rfl)
    · rw [if_neg c2]
      rw [decide_eq_false c2] at hf
      exact hf _ false rfl (h1 _ hinfEv)
  · rw [if_neg c1]
    rw [decide_eq_false c1] at hf h1
    by_cases c2 : rung b = infR
    · rw [if_pos c2]
      have n0 : ¬ rung b = 0 := by omega
      rw [decide_eq_true c2, decide_eq_false n0] at hf
      rw [decide_eq_true c2] at h1
      by_cases c3 : rung a = 0
      · rw [if_pos c3]
        rw [decide_eq_true c3] at hf
        exact hf _ true rfl (hnan true rfl)
      · rw [if_neg c3]
        rw [decide_eq_false c3] at hf
        exact hf _ false rfl (h1 _ hinfEv)
    · rw [if_neg c2]
      rw [decide_eq_false c2] at hf h1
      apply hf _ false (by simp)
      apply h1
      apply h2
      by_cases c3 : rung a = 0 ∨ rung b = 0
      · have e1 : (decide (rung a = 0) || decide (rung b = 0)) = true := by simpa using c3
        have e2 : mulW a b = word (sgn a ^^ sgn b) 0 := by
          have h00 : rv 0 = 0 := rfl
          unfold mulW rndW
          rcases c3 with c | c
          · rw [c, h00, Nat.zero_mul, rndQ_zero]; rfl
          · rw [c, h00, Nat.mul_zero, rndQ_zero]; rfl
        rw [e1, e2]
        refine ⟨1, fun k hk => ?_⟩
        obtain ⟨k, rfl⟩ : ∃ m, k = m + 1 := ⟨k-1, by omega⟩
        simp only [portageref03_Mul.j2, if_true]
        rw [signed_zero]; rfl
      · have e1 : (decide (rung a = 0) || decide (rung b = 0)) = false := by simpa using c3
        rw [e1]
        exact mul_j2 _ a b ha hb (fun h => c3 (Or.inl h)) (fun h => c3 (Or.inr h))

theorem div_ref (a b : Nat) (ha : a < 2^64) (hb : b < 2^64) : Ev (fun k => portageref03_Div.f k (a : Int) (b : Int)) ((fdiv a b : Nat) : Int) := by
  have hinf := infR_num
  have hnan : ∀ x : Bool, x = true → Ev (fun k => portageref03_Div.j0 k (a : Int) (b : Int) (clsI a) (clsI b) x) ((nanN : Nat) : Int) := by
    intro x hx
    refine ⟨1, fun k hk => ?_⟩
    obtain ⟨k, rfl⟩ : ∃ m, k = m + 1 := ⟨k-1, by omega⟩
    rw [hx]
    simp only [portageref03_Div.j0, if_true]; rfl
  have hf : ∀ (r : Int) (x : Bool), x = (decide (infR < rung a) || decide (infR < rung b) || (decide (rung a = infR) && decide (rung b = infR)) || (decide (rung a = 0) && decide (rung b = 0))) →
      Ev (fun k => portageref03_Div.j0 k (a : Int) (b : Int) (clsI a) (clsI b) x) r → Ev (fun k => portageref03_Div.f k (a : Int) (b : Int)) r := by
    intro r x hx h
    obtain ⟨K, h⟩ := h
    refine ⟨K + 1, fun k hk => ?_⟩
    obtain ⟨k, rfl⟩ : ∃ m, k = m + 1 := ⟨k-1, by omega⟩
    simp only [portageref03_Div.f]
    rw [class_eq a ha, class_eq b hb, Option.bind_some, Option.bind_some]
    have h' := h (k+1) (by omega)
    simp only at h'
    by_cases c0 : infR < rung a
    · rw [if_pos ((m_zero a).mpr c0)]
      rw [hx, decide_eq_true c0] at h'; simpa using h'
    rw [if_neg (fun h => c0 ((m_zero a).mp h))]
    by_cases c1 : infR < rung b
    · rw [if_pos ((m_zero b).mpr c1)]
      rw [hx, decide_eq_true c1] at h'; simpa using h'
    rw [if_neg (fun h => c1 ((m_zero b).mp h))]
    rw [decide_eq_false c0, decide_eq_false c1] at hx
    by_cases c2 : rung a = infR
    · rw [if_pos ((m_one a).mpr c2)]
      have n2 : ¬ rung a = 0 := by omega
      rw [decide_eq_true c2, decide_eq_false n2] at hx
      by_cases c3 : rung b = infR
      · rw [if_pos ((m_one b).mpr c3)]
        rw [decide_eq_true c3] at hx
        rw [hx] at h'; exact h'
      · rw [if_neg (fun h => c3 ((m_one b).mp h)), if_neg (fun h => n2 ((m_two a).mp h))]
        rw [decide_eq_false c3] at hx
        rw [hx] at h'; exact h'
    · rw [if_neg (fun h => c2 ((m_one a).mp h))]
      rw [decide_eq_false c2] at hx
      by_cases c3 : rung a = 0
      · rw [if_pos ((m_two a).mpr c3)]
        have : (clsI b == 2) = decide (rung b = 0) := by
          rw [Bool.eq_iff_iff, beq_iff_eq, decide_eq_true_iff]; exact m_two b
        rw [decide_eq_true c3] at hx
        rw [this]
        rw [hx] at h'; simpa using h'
      · rw [if_neg (fun h => c3 ((m_two a).mp h))]
        rw [decide_eq_false c3] at hx
        rw [hx] at h'; simpa using h'
  have h1 : ∀ (r : Int), Ev (fun k => portageref03_Div.j1 k (a : Int) (b : Int) (clsI a) (clsI b) (sgn a ^^ sgn b) (decide (rung a = infR) || decide (rung b = 0))) r → Ev (fun k => portageref03_Div.j0 k (a : Int) (b : Int) (clsI a) (clsI b) false) r := by
    intro r h
    refine ev_next (fun k => ?_) h
    simp only [portageref03_Div.j0, Bool.false_eq_true, if_false]
    rw [negative_eq a ha, negative_eq b hb, Option.bind_some, Option.bind_some, xor_bne]
    by_cases c : rung a = infR
    · rw [if_pos ((m_one a).mpr c), decide_eq_true c, Bool.true_or]
    · have : (clsI b == 2) = decide (rung b = 0) := by
        rw [Bool.eq_iff_iff, beq_iff_eq, decide_eq_true_iff]; exact m_two b
      rw [if_neg (fun h => c ((m_one a).mp h)), decide_eq_false c, Bool.false_or, this]
  have h2 : ∀ (r : Int), Ev (fun k => portageref03_Div.j2 k (a : Int) (b : Int) (sgn a ^^ sgn b) (decide (rung a = 0) || decide (rung b = infR))) r → Ev (fun k => portageref03_Div.j1 k (a : Int) (b : Int) (clsI a) (clsI b) (sgn a ^^ sgn b) false) r := by
    intro r h
    refine ev_next (fun k => ?_) h
    simp only [portageref03_Div.j1, Bool.false_eq_true, if_false]
    by_cases c : rung a = 0
    · rw [if_pos ((m_two a).mpr c), decide_eq_true c, Bool.true_or]
    · have : (clsI b == 1) = decide (rung b = infR) := by
        rw [Bool.eq_iff_iff, beq_iff_eq, decide_eq_true_iff]; exact m_one b
      rw [if_neg (fun h => c ((m_two a).mp h)), decide_eq_false c, Bool.false_or, this]
  have hinfEv : Ev (fun k => portageref03_Div.j1 k (a : Int) (b : Int) (clsI a) (clsI b) (sgn a ^^ sgn b) true) ((word (sgn a ^^ sgn b) infR : Nat) : Int) := by
    refine ⟨1, fun k hk => ?_⟩
    obtain ⟨k, rfl⟩ : ∃ m, k = m + 1 := ⟨k-1, by omega⟩
    simp only [portageref03_Div.j1, if_true]
    rw [signed_inf]; rfl
  have hzEv : Ev (fun k => portageref03_Div.j2 k (a : Int) (b : Int) (sgn a ^^ sgn b) true) ((word (sgn a ^^ sgn b) 0 : Nat) : Int) := by
    refine ⟨1, fun k hk => ?_⟩
    obtain ⟨k, rfl⟩ : ∃ m, k = m + 1 := ⟨k-1, by omega⟩
    simp only [portageref03_Div.j2, if_true]
    rw [signed_zero]; rfl
  unfold fdiv
  by_cases d1 : infR < rung a ∨ infR < rung b
  · rw [if_pos d1]
    apply hf _ true _ (hnan true rfl)
    rcases d1 with d | d <;> rw [decide_eq_true d] <;> simp
  rw [if_neg d1]
  have na : ¬ infR < rung a := fun h => d1 (Or.inl h)
  have nb : ¬ infR < rung b := fun h => d1 (Or.inr h)
  rw [decide_eq_false na, decide_eq_false nb] at hf
  by_cases c1 : rung a = infR
  · rw [if_pos c1]
    have n0 : ¬ rung a = 0 := by omega
    rw [decide_eq_true c1, decide_eq_false n0] at hf
    rw [decide_eq_true c1] at h1
    by_cases c2 : rung b = infR
    · rw [if_pos c2]
      rw [decide_eq_true c2] at hf
      exact hf _ true rfl (hnan true rfl)
    · rw [if_neg c2]
      rw [decide_eq_false c2] at hf
      exact hf _ false rfl (h1 _ hinfEv)
  · rw [if_neg c1]
    rw [decide_eq_false c1] at hf h1
    by_cases c2 : rung b = infR
    · rw [if_pos c2]
      have n0 : ¬ rung b = 0 := by omega
      rw [decide_eq_true c2, decide_eq_false n0] at hf
      rw [decide_eq_false n0] at h1
      rw [decide_eq_true c2, Bool.or_true] at h2
      exact hf _ false (by simp) (h1 _ (h2 _ hzEv))
    · rw [if_neg c2]
      rw [decide_eq_false c2] at hf h2
      by_cases c3 : rung b = 0
      · rw [if_pos c3]
        rw [decide_eq_true c3] at hf h1
        by_cases c4 : rung a = 0
        · rw [if_pos c4]
          rw [decide_eq_true c4] at hf
          exact hf _ true rfl (hnan true rfl)
        · rw [if_neg c4]
          rw [decide_eq_false c4] at hf
          exact hf _ false rfl (h1 _ hinfEv)
      · rw [if_neg c3]
        rw [decide_eq_false c3] at hf h1
        apply hf _ false (by simp)
        apply h1
        apply h2
        by_cases c4 : rung a = 0
        · rw [decide_eq_true c4]
          have e2 : divW a b = word (sgn a ^^ sgn b) 0 := by
            have h00 : rv 0 = 0 := rfl
            unfold divW rndW
            rw [c4, h00, Nat.zero_mul, rndQ_zero]; rfl
          rw [e2]
          exact hzEv
        · rw [decide_eq_false c4]
          exact div_j2 _ a b ha hb c4 c3

theorem RealMuls : portagelaw03_RealMuls.Pure := by
  intro a0 b0 wa wb
  obtain ⟨a, rfl, ha⟩ := u64_nat wa
  obtain ⟨b, rfl, hb⟩ := u64_nat wb
  obtain ⟨K1, h1⟩ := mul_ref a b ha hb
  obtain ⟨K2, h2⟩ := div_ref a b ha hb
  refine ⟨max K1 K2, ?_⟩
  unfold portagelaw03_RealMuls.f
  rw [Mul_eq, Option.bind_some, show portageref03_Mul.f (max K1 K2) (a : Int) (b : Int) = some _ from h1 _ (by omega), Option.bind_some, if_pos rfl, Div_eq, Option.bind_some, show portageref03_Div.f (max K1 K2) (a : Int) (b : Int) = some _ from h2 _ (by omega), Option.bind_some, beq_self_eq_true]
end Go.Proofs.Ytapgnackoclbeaa.Pure
