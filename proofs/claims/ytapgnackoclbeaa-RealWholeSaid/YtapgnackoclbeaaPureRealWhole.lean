/- RealWhole: whole numbers of at most 2^52 in size are added and subtracted exactly, of at most 2^26 multiplied exactly, and the rounded quotient's floor is the whole quotient. For every input. -/
import Derived.Test.YtapgnackoclbeaaPRealx12
import Derived.Test.YtapgnackoclbeaaFlK
set_option linter.unusedSimpArgs false
set_option linter.unusedVariables false
namespace Go.Proofs.Ytapgnackoclbeaa.Pure
open Go.RowKit Go.Proofs.Ytapgnackoclbeaa.PReal Go.Proofs.Ytapgnackoclbeaa.Fl Go.Proofs.YtapgnackoclbeaaW.PrintWords Go.Proofs.YtapgnackoclbeaaW.PrintLast

theorem w64' {x : Int} (h0 : -9223372036854775808 ≤ x) (h1 : x < 9223372036854775808) : wrap64 x = x := by
  unfold wrap64; omega

theorem nat_w64 (n : Nat) (h : n ≤ 4611686018427387904) : wrap64 (n : Int) = n := w64' (by omega) (by omega)
theorem quo_whole (i j : Nat) (hi : 1 ≤ i) (hi2 : i ≤ 2^52) (hj : 1 ≤ j) (hj2 : j ≤ 2^52) : ffloor (fdiv (fromN i) (fromN j)) = fromN ((i / j : Nat) : Int) := by
  obtain ⟨a1, a2, a3, a4⟩ := fromN_val (i : Int) (by omega)
  obtain ⟨b1, b2, b3, b4⟩ := fromN_val (j : Int) (by omega)
  rw [Int.natAbs_natCast] at a2 b2
  obtain ⟨q1, q2⟩ := quo_floor i j hi hi2 hj hj2
  have hUp := U_pos
  have hb0 : rung (fromN (j : Int)) ≠ 0 := by
    intro h
    rw [h] at b2
    have h0 : rv 0 = 0 := rfl
    rw [h0] at b2
    have := Nat.mul_pos (show 0 < j by omega) hUp
    omega
  have hd : fdiv (fromN i) (fromN j) = rndW false (i * U) j := by
    unfold fdiv
    rw [if_neg (by omega), if_neg (by omega), if_neg (by omega), if_neg hb0]
    unfold divW
    rw [a2, b2, a3, b3, decide_eq_false (by omega), decide_eq_false (by omega)]
    unfold rndW
    rw [rndQ_cross (C := i * U) (D := j) (Nat.mul_pos (by omega) hUp) (by omega)]
    · rfl
    · simp only [Nat.mul_assoc, Nat.mul_comm, Nat.mul_left_comm]
  have hr : rung (rndW false (i * U) j) = rndQ (i * U) j := by rw [rung_W, Nat.min_eq_left (Nat.le_of_lt q2)]
  rw [hd]
  unfold ffloor
  rw [if_neg (by omega), if_neg (by omega), sgn_W]
  have hw : wholeN .down (rndW false (i * U) j) = i / j := by
    unfold wholeN
    rw [hr, q1, sgn_W]
    exact Nat.add_zero _
  rw [hw]
  unfold fromN
  rw [Int.natAbs_natCast, decide_eq_false (by omega)]

theorem quotients_true (x y : Int) (hx : 0 ≤ x ∧ x < 18446744073709551616) (hy : 0 ≤ y ∧ y < 18446744073709551616) (k : Nat) : portagelaw03_quotients.f (k + 1) x y = some true := by
  obtain ⟨X, rfl⟩ := Int.eq_ofNat_of_zero_le hx.1
  obtain ⟨Y, rfl⟩ := Int.eq_ofNat_of_zero_le hy.1
  obtain ⟨i, hi⟩ : ∃ i, i = X % 4503599627370496 + 1 := ⟨_, rfl⟩
  obtain ⟨j, hj⟩ : ∃ j, j = Y % 4503599627370496 + 1 := ⟨_, rfl⟩
  have tx : Int.tmod (X : Int) 4503599627370496 = ((X % 4503599627370496 : Nat) : Int) := rfl
  have ty : Int.tmod (Y : Int) 4503599627370496 = ((Y % 4503599627370496 : Nat) : Int) := rfl
  have ei : wrap64 (wrap64 (Int.tmod (X : Int) 4503599627370496) + 1) = (i : Nat) := by
    rw [tx, w64' (x := ((X % 4503599627370496 : Nat) : Int)) (by omega) (by omega), w64' (by omega) (by omega)]; omega
  have ej : wrap64 (wrap64 (Int.tmod (Y : Int) 4503599627370496) + 1) = (j : Nat) := by
    rw [ty, w64' (x := ((Y % 4503599627370496 : Nat) : Int)) (by omega) (by omega), w64' (by omega) (by omega)]; omega
  have hi1 : 1 ≤ i := by omega
  have hi2 : i ≤ 2^52 := by omega
  have hj1 : 1 ≤ j := by omega
  have hj2 : j ≤ 2^52 := by omega
  have hqle : i / j ≤ i := Nat.div_le_self _ _
  have hq := quo_whole i j hi1 hi2 hj1 hj2
  have etd0 : Int.tdiv (i : Int) (j : Int) = ((i / j : Nat) : Int) := rfl
  generalize i / j = Q at *
  have ht := toInt_from (Q : Int) (by rw [Int.natAbs_natCast]; exact Nat.le_trans hqle (Nat.le_trans hi2 (by decide)))
  have etd : wrap64 (Int.tdiv (i : Int) (j : Int)) = (Q : Int) := by
    rw [etd0, nat_w64 Q (Nat.le_trans hqle (Nat.le_trans hi2 (by decide)))]
  unfold portagelaw03_quotients.f
  rw [ei, ej, FromInt_eq, Option.bind_some, FromInt_eq, Option.bind_some, Div_eq, Option.bind_some, Floor_eq, Option.bind_some, hq, ToInt_eq, Option.bind_some, ht.1, ht.2, if_pos rfl, if_neg (by omega), etd, if_pos rfl, FromInt_eq, Option.bind_some, if_pos rfl, awake_at]
  rfl

theorem RealWhole : portagelaw03_RealWhole.Pure := by
  intro x y wx wy
  have rx := i64_range wx
  have ry := i64_range wy
  refine ⟨4, ?_⟩
  have uw : ∀ z : Int, 0 ≤ IntKind.u64.wrap z ∧ IntKind.u64.wrap z < 18446744073709551616 := by
    intro z
    rw [show IntKind.u64.wrap z = z % 18446744073709551616 from by simp [IntKind.wrap, IntKind.bits, IntKind.signed]]
    omega
  have hqq := quotients_true (IntKind.u64.wrap x) (IntKind.u64.wrap y) (uw x) (uw y) 3
  obtain ⟨i, hi⟩ : ∃ i, i = x / 2048 := ⟨_, rfl⟩
  obtain ⟨j, hj⟩ : ∃ j, j = y / 2048 := ⟨_, rfl⟩
  obtain ⟨p, hp⟩ : ∃ p, p = x / 137438953472 := ⟨_, rfl⟩
  obtain ⟨q, hq⟩ : ∃ q, q = y / 137438953472 := ⟨_, rfl⟩
  have bi : i.natAbs ≤ 2^52 := by omega
  have bj : j.natAbs ≤ 2^52 := by omega
  have bp : p.natAbs ≤ 2^26 := by omega
  have bq : q.natAbs ≤ 2^26 := by omega
  have hti := toInt_from i (by omega)
  have ha := add_whole i j (by omega) (by omega)
  have hs := sub_whole i j (by omega) (by omega)
  have hm := mul_whole p q (by omega) (by omega)
  have hpq : (p * q).natAbs ≤ 2^52 := by
    rw [Int.natAbs_mul]
    exact Nat.le_trans (Nat.mul_le_mul bp bq) (by decide)
  unfold portagelaw03_RealWhole.f
  rw [← hi, ← hj, hqq, Option.bind_some, if_pos rfl, FromInt_eq, Option.bind_some, FromInt_eq, Option.bind_some, ToInt_eq, Option.bind_some, hti.1, hti.2, if_pos rfl, if_pos rfl, Add_eq, Option.bind_some, ha, w64' (x := i + j) (by omega) (by omega), FromInt_eq, Option.bind_some, if_pos rfl, Sub_eq, Option.bind_some, hs, w64' (x := i - j) (by omega) (by omega), FromInt_eq, Option.bind_some, bne_self_eq_false]
  simp only [portagelaw03_RealWhole.j0, Bool.false_eq_true, if_false]
  rw [← hp, ← hq, FromInt_eq, Option.bind_some, FromInt_eq, Option.bind_some, Mul_eq, Option.bind_some, w64' (x := p * q) (by omega) (by omega)]
  by_cases c : p * q = 0
  · rw [if_pos c, and_rung _ (fmul_lt _ _), hm.1 c, if_pos (show ((0 : Nat) : Int) = 0 from rfl), awake_at]; rfl
  · rw [if_neg c, hm.2 c, FromInt_eq, Option.bind_some, if_pos rfl, awake_at]; rfl
end Go.Proofs.Ytapgnackoclbeaa.Pure
