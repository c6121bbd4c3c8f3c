/- RealFloors: of every 64 bits: where the floor of a finite number lies, and what is a whole number. For every input. -/
import Derived.Test.YtapgnackoclbeaaPRealx12
import Derived.Test.YtapgnackoclbeaaFlK
set_option linter.unusedSimpArgs false
set_option linter.unusedVariables false
namespace Go.Proofs.Ytapgnackoclbeaa.Pure
open Go.RowKit Go.Proofs.Ytapgnackoclbeaa.PReal Go.Proofs.Ytapgnackoclbeaa.Fl Go.Proofs.YtapgnackoclbeaaW.PrintWords Go.Proofs.YtapgnackoclbeaaW.PrintLast

/-- the floor of a finite word -/
theorem floor_word (a : Nat) (h : rung a < infR) : ∃ k, k < infR ∧ rv k = wholeN .down a * U ∧ ffloor a = word (sgn a) k := by
  have hw : ∃ k, rv k = wholeN .down a * U ∧ (k ≤ rung a ∨ rv k ≤ 2^53 * U) := by
    unfold wholeN
    by_cases c : 2^53 * U ≤ rv (rung a)
    · refine ⟨rung a, ?_, Or.inl (Nat.le_refl _)⟩
      have h1 := rv_whole (rung a) c
      have h2 := Nat.div_add_mod (rv (rung a)) U
      rw [h1, Nat.add_zero, Nat.mul_comm] at h2
      have h3 : (rv (rung a) % U != 0) = false := by rw [h1]; rfl
      rw [h3, Bool.and_false]
      exact h2.symm
    · have hd : rv (rung a) / U < 2^53 := (Nat.div_lt_iff_lt_mul U_pos).mpr (Nat.lt_of_not_le c)
      have hb : (sgn a && (rv (rung a) % U != 0)).toNat ≤ 1 := by cases (sgn a && (rv (rung a) % U != 0)) <;> decide
      obtain ⟨k, hk⟩ := rep_U (rv (rung a) / U + (sgn a && (rv (rung a) % U != 0)).toNat) (by omega)
      exact ⟨k, hk, Or.inr (by rw [hk]; exact Nat.mul_le_mul_right _ (by omega))⟩
  obtain ⟨k, hk, hle⟩ := hw
  have hlt : k < infR := by
    rcases hle with h1 | h1
    · omega
    · exact rv_lt_iff.mp (Nat.lt_of_le_of_lt h1 two53U)
  refine ⟨k, hlt, hk, ?_⟩
  unfold ffloor
  rw [if_neg (by omega), if_neg (by omega), rndW_exact hk (Nat.le_of_lt hlt)]

theorem top_val : rv (1075 * 2^52) = 2^52 * U := by
  have h := rv_norm uE (2^52) (Or.inr (Nat.le_refl _)) (by decide)
  rw [show uE * 2^52 + 2^52 = 1075 * 2^52 from by decide] at h
  unfold U; exact h
/-- the whole part, its sizes -/
structure Flo (a k F : Nat) : Prop where
  lt : k < infR
  eq : rv k = F * U
  is : ffloor a = word (sgn a) k
  whole : rv (rung a) % U = 0 → F * U = rv (rung a)
  pos : sgn a = false → F = rv (rung a) / U
  neg : sgn a = true → rv (rung a) % U ≠ 0 → F = rv (rung a) / U + 1
  negw : rv (rung a) % U = 0 → F = rv (rung a) / U
theorem flo (a : Nat) (h : rung a < infR) : ∃ k F, Flo a k F := by
  obtain ⟨k, h1, h2, h3⟩ := floor_word a h
  refine ⟨k, wholeN .down a, h1, h2, h3, ?_, ?_, ?_, ?_⟩
  · intro h0
    unfold wholeN
    have h3 : (rv (rung a) % U != 0) = false := by rw [h0]; rfl
    simp only [h3, Bool.and_false]
    have h4 := Nat.div_add_mod (rv (rung a)) U
    rw [h0, Nat.add_zero, Nat.mul_comm] at h4; exact h4
  · intro hs; unfold wholeN; rw [hs]; exact Nat.add_zero _
  · intro hs h0
    unfold wholeN
    have h3 : (rv (rung a) % U != 0) = true := by simpa using h0
    rw [hs]
    simp only [h3, Bool.and_true]; rfl
  · intro h0
    unfold wholeN
    have h3 : (rv (rung a) % U != 0) = false := by rw [h0]; rfl
    simp only [h3, Bool.and_false]
    exact Nat.add_zero _

theorem floor_again (a : Nat) : ffloor (ffloor a) = ffloor a := by
  have h63 := Fl.infR_lt
  rcases Nat.lt_trichotomy (rung a) infR with h | h | h
  · obtain ⟨k, F, hF⟩ := flo a h
    have hr : rung (ffloor a) = k := by rw [hF.is]; exact rung_word (by have := hF.lt; omega)
    have hs : sgn (ffloor a) = sgn a := by rw [hF.is]; exact sgn_word (by have := hF.lt; omega)
    obtain ⟨k2, F2, hF2⟩ := flo (ffloor a) (by rw [hr]; exact hF.lt)
    have hw := hF2.whole (by rw [hr, hF.eq]; exact Nat.mul_mod_left _ _)
    rw [hr] at hw
    have hk : k2 = k := rv_inj (by rw [hF2.eq, hw])
    rw [hF2.is, hk, hs, hF.is]
  · have : ffloor a = word (sgn a) infR := by unfold ffloor; rw [if_neg (by omega), if_pos h]
    rw [this]
    unfold ffloor
    rw [rung_word h63, sgn_word h63, if_neg (by omega), if_pos rfl]
  · have : ffloor a = nanN := by unfold ffloor; rw [if_pos h]
    rw [this]
    unfold ffloor
    rw [if_pos nanN_nan]
theorem floor_lt (a : Nat) (ha : a < 2^64) : ffloor a < 2^64 := by
  unfold ffloor
  split
  · exact nanN_lt
  · split
    · exact word_lt64 (Nat.le_refl _)
    · exact W_lt _ _ _

theorem one_is : (4607182418800017408 : Nat) = fromN 1 := by decide +kernel

/-- one more than a whole word -/
theorem val_add_one (f F : Nat) (hf : rung f < infR) (hF : rv (rung f) = F * U) (hb : F ≤ 2^52) : val (fadd f (fromN 1)) = val f + (U : Int) := by
  obtain ⟨b1, b2, b3, b4⟩ := fromN_val 1 (by decide)
  have h63 := Fl.infR_lt
  unfold fadd
  rw [if_neg (by omega), if_neg (by omega), if_neg (by omega)]
  unfold addW
  rw [b4, Int.one_mul]
  have hv : ∃ n : Int, val f = n * U ∧ n.natAbs ≤ 2^52 := by
    unfold val
    rw [hF]
    split
    · exact ⟨-(F : Int), by push_cast; rw [Int.neg_mul], by omega⟩
    · exact ⟨(F : Int), by push_cast; rfl, by omega⟩
  obtain ⟨n, hn, hnb⟩ := hv
  rw [hn, show n * (U : Int) + (U : Int) = (n+1) * (U : Int) by rw [Int.add_mul, Int.one_mul]]
  by_cases c : (n+1) * (U : Int) = 0
  · rw [if_pos c, c]
    rw [val_zero_iff, rung_word (by omega)]
  · rw [if_neg c, natAbs_mulU]
    have h := fromN_val (n+1) (by omega)
    have e : rndW (decide ((n+1) * (U : Int) < 0)) ((n+1).natAbs * U) 1 = fromN (n+1) := by
      unfold fromN
      rw [show decide ((n+1) * (U : Int) < 0) = decide (n + 1 < 0) from decide_eq_decide.mpr (mulU_neg _)]
    rw [e, h.2.2.2]

theorem RealFloors : portagelaw03_RealFloors.Pure := by
  intro a0 wa
  obtain ⟨a, rfl, ha⟩ := u64_nat wa
  refine ⟨3, ?_⟩
  have hUp := U_pos
  have h63 := Fl.infR_lt
  unfold portagelaw03_RealFloors.f
  rw [Floor_eq, Option.bind_some, Floor_eq, Option.bind_some, floor_again, if_pos rfl, and_rung a ha]
  by_cases h1 : infR ≤ rung a
  · rw [if_pos (by rw [show (9218868437227405312 : Int) = (infR : Nat) from rfl]; omega), Canon_eq, Option.bind_some]
    have he : ffloor a = canon a := by
      unfold ffloor canon
      by_cases c : infR < rung a
      · rw [if_pos c, if_pos c]
      · rw [if_neg c, if_neg c, if_pos (by omega)]
        have := word_of a ha
        rw [show rung a = infR by omega] at this
        exact this
    rw [he, if_pos rfl, awake_at]; rfl
  · have hfin : rung a < infR := by omega
    rw [if_neg (by rw [show (9218868437227405312 : Int) = (infR : Nat) from rfl]; omega)]
    obtain ⟨k, F, hF⟩ := flo a hfin
    have hkl := hF.lt
    by_cases h2 : 1075 * 2^52 ≤ rung a
    · rw [if_pos (by omega)]
      have hwh : rv (rung a) % U = 0 := by
        obtain ⟨e, m, hr, h3, h4⟩ := split_rung (rung a)
        have he : uE ≤ e := by rw [uE_is]; omega
        rw [hr, rv_norm e m h3 (by omega)]
        unfold U
        rw [show e = (e - uE) + uE by omega, Nat.pow_add, ← Nat.mul_assoc]
        exact Nat.mul_mod_left _ _
      have hk : k = rung a := rv_inj (by rw [hF.eq, hF.whole hwh])
      have he : ffloor a = a := by rw [hF.is, hk]; exact word_of a ha
      rw [he, if_pos rfl, awake_at]; rfl
    · rw [if_neg (by omega)]
      -- the sizes
      have hsz : rv (rung a) < 2^52 * U := by
        rw [← top_val]; exact rv_lt (by omega)
      obtain ⟨F0, hF0⟩ : ∃ F0, F0 = rv (rung a) / U := ⟨_, rfl⟩
      have hF0b : F0 < 2^52 := by rw [hF0]; exact (Nat.div_lt_iff_lt_mul hUp).mpr hsz
      have hdm := Nat.div_add_mod (rv (rung a)) U
      have hml := Nat.mod_lt (rv (rung a)) hUp
      rw [← hF0] at hdm
      have hFb : F ≤ 2^52 ∧ (F = F0 ∨ F = F0 + 1) := by
        have h5 := hF.negw
        have h6 := hF.neg
        have h7 := hF.pos
        rw [← hF0] at h5 h6 h7
        by_cases c : rv (rung a) % U = 0
        · have := h5 c; omega
        · cases hs : sgn a
          · have := h7 hs; omega
          · have := h6 hs c; omega
      have hr : rung (ffloor a) = k := by rw [hF.is]; exact rung_word (by omega)
      have hs : sgn (ffloor a) = sgn a := by rw [hF.is]; exact sgn_word (by omega)
      have hq : rv (rung (ffloor a)) / U = F := by rw [hr, hF.eq]; exact Nat.mul_div_cancel _ hUp
      obtain ⟨n, hn⟩ : ∃ n : Int, n = if sgn a then -(F : Int) else (F : Int) := ⟨_, rfl⟩
      have hnabs : n.natAbs = F := by rw [hn]; split <;> omega
      have hok : toIntOk (ffloor a) = true := by
        unfold toIntOk
        rw [hq, hs, hr, decide_eq_true hkl, Bool.true_and]
        cases sgn a
        · rw [if_neg (by simp)]; exact decide_eq_true (by omega)
        · rw [if_pos rfl]; exact decide_eq_true (by omega)
      have htv : toIntV (ffloor a) = n := by
        unfold toIntV
        rw [if_pos hok, hq, hs, hn]
      have hfr : rung (fromN n) = k := by
        have := (fromN_val n (by omega)).2.1
        apply rv_inj
        rw [this, hnabs, hF.eq]
      have hflt := floor_lt a ha
      have hvf : val (ffloor a) = n * U := by
        unfold val
        rw [hs, hr, hF.eq, hn]
        cases sgn a
        · simp
        · simp only [if_true]; push_cast; rw [Int.neg_mul]
      rw [ToInt_eq, Option.bind_some, hok, htv, if_pos rfl, FromInt_eq, Option.bind_some, and_rung _ (by unfold fromN; exact W_lt _ _ _), and_rung _ hflt, hfr, hr, if_pos rfl]
      -- not below
      have hva : val a = if sgn a then -(rv (rung a) : Int) else (rv (rung a) : Int) := rfl
      have hFU : ((F * U : Nat) : Int) = (F : Int) * U := by push_cast; rfl
      have hnb : val (ffloor a) ≤ val a ∧ val a < val (ffloor a) + U := by
        rw [hvf, hva, hn]
        have h5 := hF.whole
        have h6 := hF.neg
        have h7 := hF.pos
        rw [← hF0] at h6 h7
        have hc : U * F0 = F0 * U := Nat.mul_comm _ _
        cases hsa : sgn a
        · have := h7 hsa
          subst this
          simp only [Bool.false_eq_true, if_false]
          rw [← hFU]; omega
        · simp only [if_true]
          rw [Int.neg_mul, ← hFU]
          by_cases c : rv (rung a) % U = 0
          · have := h5 c; omega
          · have := h6 hsa c
            rw [this, Nat.add_mul, Nat.one_mul]; omega
      have hkey : ∀ x y : Nat, ¬ val y < val x → key x ≤ key y := fun x y h => by
        have := val_lt_iff y x; omega
      have hnotb : portagelaw03_notBelow.f ((ffloor a : Nat) : Int) (a : Int) = some true := by
        unfold portagelaw03_notBelow.f
        rw [isNaN_eq _ hflt, Option.bind_some, decide_eq_false (by rw [hr]; omega), if_neg (by simp), isNaN_eq a ha, Option.bind_some, decide_eq_false (by omega), if_neg (by simp), key_eq _ hflt, Option.bind_some, key_eq a ha, Option.bind_some]
        rw [decide_eq_true (hkey (ffloor a) a (Int.not_lt.mpr hnb.1))]
      have hone := val_add_one (ffloor a) F (by rw [hr]; exact hkl) (by rw [hr, hF.eq]) hFb.1
      rw [hnotb, Option.bind_some, if_pos rfl, key_eq a ha, Option.bind_some, show (4607182418800017408 : Int) = ((fromN 1 : Nat) : Int) from by rw [← one_is]; rfl, Add_eq, Option.bind_some, key_eq _ (fadd_lt _ _), Option.bind_some]
      have hlt2 : key a < key (fadd (ffloor a) (fromN 1)) := (val_lt_iff _ _).mp (by rw [hone]; exact hnb.2)
      rw [decide_eq_false (show ¬ (key a ≥ key (fadd (ffloor a) (fromN 1))) by omega)]
      simp only [portagelaw03_RealFloors.j0, Bool.false_eq_true, if_false]
      have hoka : toIntOk a = true := by
        unfold toIntOk
        rw [← hF0, decide_eq_true hfin, Bool.true_and]
        cases sgn a
        · rw [if_neg (by simp)]; exact decide_eq_true (by omega)
        · rw [if_pos rfl]; exact decide_eq_true (by omega)
      have hta : toIntV a = if sgn a then -(F0 : Int) else (F0 : Int) := by
        unfold toIntV
        rw [if_pos hoka, ← hF0]
      rw [ToInt_eq, Option.bind_some, hoka, hta, and_sgn a ha]
      cases hsa : sgn a
      · have := hF.pos hsa
        rw [← hF0] at this
        rw [if_pos (by simp)]
        simp only [if_true, Bool.false_eq_true, if_false]
        rw [hn, hsa, this]; simp
      · rw [if_neg (by simp)]
        simp only [if_true]
        by_cases c : rv (rung a) % U = 0
        · have h5 := hF.whole c
          have h6 := hF.negw c
          rw [← hF0] at h6
          have hk : k = rung a := rv_inj (by rw [hF.eq, h5])
          have he : ffloor a = a := by rw [hF.is, hk]; exact word_of a ha
          rw [if_pos (by rw [he]), if_pos (by rw [hn, hsa, h6]; rfl)]
        · have h6 := hF.neg hsa c
          rw [← hF0] at h6
          have hne : ffloor a ≠ a := by
            intro he
            rw [he] at hr
            rw [← hr] at hF
            have h8 := hF.eq
            rw [h8] at c
            exact c (Nat.mul_mod_left _ _)
          rw [if_neg (by omega), hn, hsa, if_pos rfl, h6]
          have : wrap64 (-((F0 + 1 : Nat) : Int) + 1) = -(F0 : Int) := by unfold wrap64; omega
          rw [this]; simp
end Go.Proofs.Ytapgnackoclbeaa.Pure
