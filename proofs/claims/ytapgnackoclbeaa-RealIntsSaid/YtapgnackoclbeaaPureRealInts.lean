/- RealInts: every whole number as a real one, every 64 bits as a whole number: the program answers what the document does. For every input. -/
import Derived.Test.YtapgnackoclbeaaPRealx9
import Derived.Test.YtapgnackoclbeaaLimb6
import Derived.Test.YtapgnackoclbeaaFlK
set_option linter.unusedSimpArgs false
set_option linter.unusedVariables false
namespace Go.Proofs.Ytapgnackoclbeaa.Pure
open Go.RowKit Go.Proofs.Ytapgnackoclbeaa.PReal Go.Proofs.Ytapgnackoclbeaa.Fl Go.Proofs.YtapgnackoclbeaaW.PrintWords Go.Proofs.YtapgnackoclbeaaW.PrintLast

theorem icls_zero (a : Nat) : clsI a = 0 ↔ infR < rung a := by
  unfold clsI
  constructor
  · intro h
    by_cases c : infR < rung a
    · exact c
    · rw [if_neg c] at h; split at h <;> (try split at h) <;> (try split at h) <;> omega
  · intro h; rw [if_pos h]
theorem icls_one (a : Nat) : clsI a = 1 ↔ rung a = infR := by
  unfold clsI
  constructor
  · intro h
    by_cases c : infR < rung a
    · rw [if_pos c] at h; omega
    · rw [if_neg c] at h
      by_cases c2 : rung a = infR
      · exact c2
      · rw [if_neg c2] at h; split at h <;> (try split at h) <;> omega
  · intro h; rw [if_neg (by omega), if_pos h]

/-- the whole part by the parts -/
theorem whole_parts (a : Nat) : (pe a < 0 → pm a / 2^(-pe a).toNat = rv (rung a) / U) ∧ (0 ≤ pe a → pm a * 2^(pe a).toNat = rv (rung a) / U) := by
  have hpe := pe_ge a
  have hv := pm_val a
  constructor
  · intro h
    apply div_cross (Nat.two_pow_pos _) U_pos
    rw [← hv, Nat.mul_assoc]
    unfold U
    rw [← Nat.pow_add]
    rw [show (pe a + 1074).toNat + (-pe a).toNat = uE by rw [uE_is]; omega]
  · intro h
    have e : 2^(pe a + 1074).toNat = 2^(pe a).toNat * U := by
      unfold U
      rw [← Nat.pow_add, show (pe a + 1074).toNat = (pe a).toNat + uE by rw [uE_is]; omega]
    rw [← hv, e, ← Nat.mul_assoc]
    exact (Nat.mul_div_cancel _ U_pos).symm

theorem toInt_j1 (s : Bool) (W : Nat) (hsh : Sh W) (V : Int) (ok : Bool) (hok : ok = if s then decide (W ≤ 9223372036854775808) else decide (W < 9223372036854775808)) (hV : V = if ok then (if s then -(W : Int) else (W : Int)) else 0) :
    Ev (fun k => portageref03_ToInt.j1 k s (big W)) (V, ok) := by
  obtain ⟨K1, h1⟩ := bits_ev W hsh
  refine ⟨K1 + 2, fun k hk => ?_⟩
  obtain ⟨k, rfl⟩ : ∃ m, k = m + 2 := ⟨k-2, by omega⟩
  simp only [portageref03_ToInt.j1]
  rw [show portageref03_Bits.f (k+1) (big W) = some _ from h1 (k+1) (by omega), Option.bind_some]
  have hlt := lt_bl W
  by_cases c : bl W > 64
  · rw [if_pos (by omega)]
    have hge : 2^64 ≤ W := by
      by_cases c2 : 2^64 ≤ W
      · exact c2
      · have := bl_lt (show W < 2^64 by omega); omega
    have hokf : ok = false := by
      rw [hok]
      cases s
      · rw [if_neg (by simp)]; exact decide_eq_false (by omega)
      · rw [if_pos rfl]; exact decide_eq_false (by omega)
    rw [hokf] at hV ⊢
    rw [hV, if_neg (by simp)]
  · have hW : W < 2^64 := Nat.lt_of_lt_of_le hlt (Nat.pow_le_pow_right (by omega) (by omega))
    rw [if_neg (by omega), small_eq W hW, Option.bind_some]
    have hu : IntKind.u64.wrap (-(W : Int)) = (-(W : Int)) % 18446744073709551616 := by simp [IntKind.wrap, IntKind.bits, IntKind.signed]
    cases s
    · rw [if_neg (by simp)]
      rw [if_neg (by simp)] at hok
      simp only [portageref03_ToInt.j2, Bool.false_eq_true, if_false]
      by_cases c2 : W < 9223372036854775808
      · rw [decide_eq_true c2] at hok
        rw [hok, if_pos rfl, if_neg (by simp)] at hV
        rw [if_pos (by omega), hok, hV]
        have : wrap64 (W : Int) = W := by unfold wrap64; omega
        rw [this]
      · rw [decide_eq_false c2] at hok
        rw [hok, if_neg (by simp)] at hV
        rw [if_neg (by omega), hok, hV]
    · rw [if_pos rfl]
      rw [if_pos rfl] at hok
      by_cases c2 : W ≤ 9223372036854775808
      · rw [decide_eq_true c2] at hok
        rw [hok, if_pos rfl, if_pos rfl] at hV
        rw [decide_eq_true (by omega)]
        simp only [portageref03_ToInt.j2, if_true]
        rw [hok, hV, hu]
        have : wrap64 ((-(W : Int)) % 18446744073709551616) = -(W : Int) := by unfold wrap64; omega
        rw [this]
      · rw [decide_eq_false c2] at hok
        rw [hok, if_neg (by simp)] at hV
        rw [decide_eq_false (by omega)]
        simp only [portageref03_ToInt.j2, Bool.false_eq_true, if_false, if_true]
        rw [hok, hV]

theorem toInt_ref (a : Nat) (ha : a < 2^64) : Ev (fun k => portageref03_ToInt.f k (a : Int)) (toIntV a, toIntOk a) := by
  have hcore : Ev (fun k => portageref03_ToInt.j0 k (a : Int) (decide (infR ≤ rung a))) (toIntV a, toIntOk a) → Ev (fun k => portageref03_ToInt.f k (a : Int)) (toIntV a, toIntOk a) := by
    rintro ⟨K, h⟩
    refine ⟨K + 1, fun k hk => ?_⟩
    obtain ⟨k, rfl⟩ : ∃ m, k = m + 1 := ⟨k-1, by omega⟩
    have h' := h (k+1) (by omega)
    simp only at h'
    simp only [portageref03_ToInt.f]
    rw [class_eq a ha, Option.bind_some]
    by_cases c : infR < rung a
    · rw [if_pos ((icls_zero a).mpr c)]
      rw [decide_eq_true (by omega)] at h'; exact h'
    · rw [if_neg (fun h => c ((icls_zero a).mp h))]
      have : (clsI a == 1) = decide (infR ≤ rung a) := by
        rw [Bool.eq_iff_iff, beq_iff_eq, decide_eq_true_iff, icls_one a]; omega
      rw [this]; exact h'
  apply hcore
  by_cases c : infR ≤ rung a
  · have e : toIntOk a = false := by unfold toIntOk; rw [decide_eq_false (by omega), Bool.false_and]
    have eV : toIntV a = 0 := by unfold toIntV; rw [e, if_neg (by simp)]
    rw [e, eV, decide_eq_true c]
    refine ⟨1, fun k hk => ?_⟩
    obtain ⟨k, rfl⟩ : ∃ m, k = m + 1 := ⟨k-1, by omega⟩
    simp only [portageref03_ToInt.j0, if_true]
  · rw [decide_eq_false c]
    have hpe := pe_ge a
    have hpm := pm_lt a
    obtain ⟨w1, w2⟩ := whole_parts a
    have shp : Sh (pm a) := Nat.le_trans (len_le (L := 2) (show pm a < 2^(32*2) by omega)) (by omega)
    have hfin : rung a < infR := by omega
    obtain ⟨K1, h1⟩ := list_ev (pm a) (by omega)
    have hok : toIntOk a = if sgn a then decide (rv (rung a) / U ≤ 9223372036854775808) else decide (rv (rung a) / U < 9223372036854775808) := by
      unfold toIntOk; rw [decide_eq_true hfin, Bool.true_and]
    by_cases c2 : pe a < 0
    · have e := w1 c2
      have hshW : Sh (pm a / 2^(-pe a).toNat) := shp.le (Nat.div_le_self _ _)
      obtain ⟨K2, h2⟩ := down_ev (pm a) (-pe a).toNat shp (by omega)
      have hj := toInt_j1 (sgn a) (pm a / 2^(-pe a).toNat) hshW (toIntV a) (toIntOk a) (by rw [e]; exact hok) (by rw [e]; rfl)
      obtain ⟨K3, h3⟩ := hj
      refine ⟨max K1 (max K2 K3) + 1, fun k hk => ?_⟩
      obtain ⟨k, rfl⟩ : ∃ m, k = m + 1 := ⟨k-1, by omega⟩
      simp only [portageref03_ToInt.j0, Bool.false_eq_true, if_false]
      rw [parts_eq a ha, Option.bind_some]
      simp only
      have hwn : wrap64 (-pe a) = ((-pe a).toNat : Nat) := by unfold wrap64; omega
      rw [show portageref03_List.f k (pm a : Int) = some _ from h1 k (by omega), Option.bind_some, if_pos c2, hwn]
      rw [show portageref03_Down.f k (big (pm a)) (((-pe a).toNat : Nat) : Int) = some _ from h2 k (by omega), Option.bind_some]
      exact h3 k (by omega)
    · have e := w2 (by omega)
      obtain ⟨K2, h2⟩ := up_ev (pm a) (pe a).toNat shp (by omega)
      have hshW : Sh (pm a * 2^(pe a).toNat) := by
        apply sh_of
        have h4 : pm a * 2^(pe a).toNat < 9007199254740992 * 2^(pe a).toNat := Nat.mul_lt_mul_of_pos_right hpm (Nat.two_pow_pos _)
        refine Nat.lt_of_lt_of_le h4 ?_
        rw [show (9007199254740992 : Nat) = 2^53 from rfl, ← Nat.pow_add]
        exact Nat.pow_le_pow_right (by omega) (by rw [eX_is]; omega)
      have hj := toInt_j1 (sgn a) (pm a * 2^(pe a).toNat) hshW (toIntV a) (toIntOk a) (by rw [e]; exact hok) (by rw [e]; rfl)
      obtain ⟨K3, h3⟩ := hj
      refine ⟨max K1 (max K2 K3) + 1, fun k hk => ?_⟩
      obtain ⟨k, rfl⟩ : ∃ m, k = m + 1 := ⟨k-1, by omega⟩
      simp only [portageref03_ToInt.j0, Bool.false_eq_true, if_false]
      rw [parts_eq a ha, Option.bind_some]
      simp only
      rw [show portageref03_List.f k (pm a : Int) = some _ from h1 k (by omega), Option.bind_some, if_neg c2]
      rw [show portageref03_Up.f k (big (pm a)) (pe a) = some _ from by have := h2 k (by omega); rw [show (((pe a).toNat : Nat) : Int) = pe a by omega] at this; exact this, Option.bind_some]
      exact h3 k (by omega)

theorem round_whole (neg : Bool) (n : Nat) (h0 : n ≠ 0) (h : n < 2^64) : Ev (fun k => portageref03_Round.f k neg (big n) 0 false) ((rndW neg (n * U) 1 : Nat) : Int) := by
  have hbl := bl_lt h
  have := round_ev neg n 0 false h0 (Nat.le_trans (len_le (L := 2) h) (by omega)) ⟨by omega, by omega⟩ (by omega) (by simp)
  unfold roundN at this
  rw [if_neg (by simp)] at this
  rw [show Ieee.double.nearest neg n 0 = rndW neg (n * U) 1 from write_number neg n] at this
  exact this
theorem fromInt_ref (n : Int) (hn : -9223372036854775808 ≤ n ∧ n ≤ 9223372036854775807) : Ev (fun k => portageref03_FromInt.f k n) ((fromN n : Nat) : Int) := by
  have hu : ∀ z : Int, IntKind.u64.wrap z = z % 18446744073709551616 := fun z => by simp [IntKind.wrap, IntKind.bits, IntKind.signed]
  by_cases c : n = 0
  · subst c
    refine ⟨0, fun k _ => ?_⟩
    simp only [portageref03_FromInt.f]
    rw [if_pos trivial]
    unfold fromN
    rw [show (0:Int).natAbs = 0 from rfl, Nat.zero_mul]
    unfold rndW
    rw [rndQ_zero]; rfl
  · obtain ⟨N, hN⟩ : ∃ N, N = n.natAbs := ⟨_, rfl⟩
    have hN64 : N < 2^64 := by omega
    obtain ⟨K1, h1⟩ := list_ev N hN64
    by_cases c2 : n < 0
    · obtain ⟨K2, h2⟩ := round_whole true N (by omega) hN64
      refine ⟨max K1 K2, fun k hk => ?_⟩
      simp only [portageref03_FromInt.f]
      rw [if_neg c, if_pos c2, hu, hu, show (-(n % 18446744073709551616)) % 18446744073709551616 = (N : Int) by omega]
      rw [show portageref03_List.f k (N : Int) = some _ from h1 k (by omega), Option.bind_some, show portageref03_Round.f k true (big N) 0 false = some _ from h2 k (by omega), Option.bind_some]
      unfold fromN
      rw [decide_eq_true c2, ← hN]
    · obtain ⟨K2, h2⟩ := round_whole false N (by omega) hN64
      refine ⟨max K1 K2, fun k hk => ?_⟩
      simp only [portageref03_FromInt.f]
      rw [if_neg c, if_neg c2, hu, show n % 18446744073709551616 = (N : Int) by omega]
      rw [show portageref03_List.f k (N : Int) = some _ from h1 k (by omega), Option.bind_some, show portageref03_Round.f k false (big N) 0 false = some _ from h2 k (by omega), Option.bind_some]
      unfold fromN
      rw [decide_eq_false c2, ← hN]

theorem RealInts : portagelaw03_RealInts.Pure := by
  intro n a0 wn wa
  obtain ⟨a, rfl, ha⟩ := u64_nat wa
  have rn := i64_range wn
  have hf64 : fromN n < 2^64 := by unfold fromN; exact W_lt _ _ _
  obtain ⟨K1, h1⟩ := toInt_ref a ha
  obtain ⟨K2, h2⟩ := fromInt_ref n rn
  obtain ⟨K3, h3⟩ := toInt_ref (fromN n) hf64
  refine ⟨max K1 (max K2 K3) + 1, ?_⟩
  unfold portagelaw03_RealInts.f
  rw [show portageref03_ToInt.f (max K1 (max K2 K3) + 1) (a : Int) = some _ from h1 _ (by omega), Option.bind_some, ToInt_eq, Option.bind_some, FromInt_eq, Option.bind_some, ToInt_eq, Option.bind_some, show portageref03_FromInt.f (max K1 (max K2 K3) + 1) n = some _ from h2 _ (by omega), Option.bind_some, show portageref03_ToInt.f (max K1 (max K2 K3) + 1) ((fromN n : Nat) : Int) = some _ from h3 _ (by omega), Option.bind_some]
  rw [if_pos rfl, bne_self_eq_false, if_neg (by simp), if_pos rfl, bne_self_eq_false]
  simp only [portagelaw03_RealInts.j0, Bool.false_eq_true, if_false]
  rw [FromInt_eq, Option.bind_some, show portageref03_FromInt.f (max K1 (max K2 K3)) n = some _ from h2 _ (by omega), Option.bind_some, beq_self_eq_true]
end Go.Proofs.Ytapgnackoclbeaa.Pure
