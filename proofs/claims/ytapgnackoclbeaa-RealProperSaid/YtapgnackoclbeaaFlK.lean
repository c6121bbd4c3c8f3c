import Derived.Test.YtapgnackoclbeaaFlJ
import Derived.Test.YtapgnackoclbeaaFlE
set_option linter.unusedSimpArgs false
set_option linter.unusedVariables false
namespace Go.Proofs.Ytapgnackoclbeaa.PReal
open Go.RowKit Go.Proofs.Ytapgnackoclbeaa.Fl

theorem FromInt_eq (n : Int) : real_FromInt.f n = some ((fromN n : Nat) : Int) := by
  unfold real_FromInt.f
  have h : floatOfInt .f64 n = fromN n := write_number (decide (n < 0)) n.natAbs
  rw [h, laidB_canon]
  unfold fromN
  rw [canon_W]

theorem isNaN_read (b : Nat) : (Ieee.double.read b).isNaN = decide (infR < rung b) := by
  rcases Nat.lt_trichotomy (rung b) infR with h | h | h
  · obtain ⟨m, i, hr, _⟩ := read_finite h
    rw [hr, decide_eq_false (by omega)]; rfl
  · rw [read_inf h, decide_eq_false (by omega)]; rfl
  · rw [Fl.read_nan h, decide_eq_true h]; rfl
theorem wholeB_finite (way : Ieee.Toward) (hw : way = .zero ∨ way = .down) {b : Nat} (h : rung b < infR) : wholeB way b = rndW (sgn b) (wholeN way b * U) 1 := by
  unfold wholeB
  rw [integral_finite way hw h, write_number]
theorem wholeB_inf (way : Ieee.Toward) {b : Nat} (h : rung b = infR) : wholeB way b = word (sgn b) infR := by
  unfold wholeB
  rw [read_inf h]
  show Ieee.double.word (sgn b) Ieee.double.infRung = _
  rw [word_is, infR_is]
/-- Floor -/
def ffloor (b : Nat) : Nat := if infR < rung b then nanN else if rung b = infR then word (sgn b) infR else rndW (sgn b) (wholeN .down b * U) 1
theorem Floor_eq (b : Nat) : real_Floor.f (b : Int) = some ((ffloor b : Nat) : Int) := by
  unfold real_Floor.f ffloor
  rw [Int.toNat_natCast, isNaN_read]
  by_cases h : infR < rung b
  · rw [if_pos (by simpa using h), if_pos h]; rfl
  · rw [if_neg (by simpa using h), if_neg h, laidB_canon]
    by_cases h2 : rung b = infR
    · rw [if_pos h2, wholeB_inf _ h2, canon_word (Nat.le_refl _)]
    · rw [if_neg h2, wholeB_finite _ (Or.inr rfl) (by omega), canon_W]
/-- ToInt -/
def toIntOk (b : Nat) : Bool := decide (rung b < infR) && (if sgn b then decide (rv (rung b) / U ≤ 9223372036854775808) else decide (rv (rung b) / U < 9223372036854775808))
def toIntV (b : Nat) : Int := if toIntOk b then (if sgn b then -((rv (rung b) / U : Nat) : Int) else ((rv (rung b) / U : Nat) : Int)) else 0
def hE : Nat := 1085
theorem hE_is : hE = 1085 := rfl
theorem high_rung : rung 4890909195324358656 = hE * 2^52 + 2^52 := by decide
theorem pow63 : 9223372036854775808 * U = 2^52 * 2^hE := by
  unfold U
  rw [show (9223372036854775808 : Nat) = 2^63 from rfl, ← Nat.pow_add, ← Nat.pow_add]
  congr 1
theorem high_rv : rv (rung 4890909195324358656) = 9223372036854775808 * U := by
  rw [high_rung, rv_norm _ _ (Or.inr (Nat.le_refl _)) (by omega), pow63]
theorem high_val : val 4890909195324358656 = ((9223372036854775808 * U : Nat) : Int) := by
  unfold val
  rw [show sgn 4890909195324358656 = false from rfl, if_neg (by simp), high_rv]
theorem low_val : val 14114281232179134464 = -((9223372036854775808 * U : Nat) : Int) := by
  unfold val
  rw [show sgn 14114281232179134464 = true from rfl, if_pos rfl, show rung 14114281232179134464 = rung 4890909195324358656 from rfl, high_rv]
theorem low_rung : rung 14114281232179134464 < infR ∧ rung 4890909195324358656 < infR := by decide

theorem inI64_eq {t : Nat} (h : rung t ≤ infR) : inI64 t = (decide (-((9223372036854775808 * U : Nat) : Int) ≤ val t) && decide (val t < ((9223372036854775808 * U : Nat) : Int))) := by
  unfold inI64
  rw [order_real h (by have := low_rung; omega), order_real h (by have := low_rung; omega), cmp_def, cmp_def, low_val, high_val]
  by_cases c : val t < -((9223372036854775808 * U : Nat) : Int)
  · rw [if_pos c, decide_eq_false (by omega)]; rfl
  · rw [if_neg c, decide_eq_true (by omega)]
    have e1 : ((some (if val t = -((9223372036854775808 * U : Nat) : Int) then Ordering.eq else Ordering.gt) == some .gt) || (some (if val t = -((9223372036854775808 * U : Nat) : Int) then Ordering.eq else Ordering.gt) == some .eq)) = true := by
      split <;> rfl
    rw [e1]
    by_cases c2 : val t < ((9223372036854775808 * U : Nat) : Int)
    · rw [if_pos c2, decide_eq_true c2]; rfl
    · rw [if_neg c2, decide_eq_false c2]
      split <;> rfl

theorem i64_mm : IntKind.i64.min = -9223372036854775808 ∧ IntKind.i64.max = 9223372036854775807 := by decide
theorem toIntV_range (b : Nat) : -9223372036854775808 ≤ toIntV b ∧ toIntV b ≤ 9223372036854775807 := by
  unfold toIntV
  by_cases hok : toIntOk b = true
  · rw [if_pos hok]
    unfold toIntOk at hok
    rw [Bool.and_eq_true] at hok
    have h2 := hok.2
    generalize rv (rung b) / U = F at *
    cases hs : sgn b
    · rw [hs, if_neg (by simp)] at h2
      have := of_decide_eq_true h2
      rw [if_neg (by simp)]; omega
    · rw [hs, if_pos rfl] at h2
      have := of_decide_eq_true h2
      rw [if_pos rfl]; omega
  · rw [if_neg hok]; omega
theorem wholeN_zero (b : Nat) : wholeN .zero b = rv (rung b) / U := Nat.add_zero _
/-- what a whole word is as an integer -/
theorem toInt_val (t F : Nat) (s : Bool) (hs : sgn t = s) (hr : rung t < infR) (hv : rv (rung t) = F * U) (V : Int) (hV : V = if s then -(F : Int) else (F : Int)) (hm : -9223372036854775808 ≤ V ∧ V ≤ 9223372036854775807) : floatToIntVal .f64 t .i64 = some V := by
  have hn2 : wholeN .zero t = F := by
    rw [wholeN_zero, hv]
    exact Nat.mul_div_cancel _ U_pos
  have hdec : (FloatKind.f64.decode t).toInt .zero = some V := by
    show (Ieee.double.read t).toInt .zero = _
    unfold Ieee.Datum.toInt
    rw [integral_finite .zero (Or.inl rfl) hr, hs, hn2]
    simp only
    rw [signed_val, hV]
    cases s
    · rw [if_neg (by simp), if_neg (by simp), Nat.pow_zero, Nat.mul_one]
    · rw [if_pos rfl, if_pos rfl, Nat.pow_zero, Nat.mul_one]
  have hmm := i64_mm
  unfold floatToIntVal
  split
  · rename_i n he
    have hnV : n = V := Option.some.inj (he.symm.trans hdec)
    rw [hnV, hmm.1, hmm.2, if_pos hm]
  · rename_i he
    rw [hdec] at he; cases he
theorem inI64_fin (t F : Nat) (s : Bool) (hs : sgn t = s) (hr : rung t ≤ infR) (hv : rv (rung t) = F * U) : inI64 t = if s then decide (F ≤ 9223372036854775808) else decide (F < 9223372036854775808) := by
  have hUp := U_pos
  have hv2 : val t = if s then -((F * U : Nat) : Int) else ((F * U : Nat) : Int) := by unfold val; rw [hs, hv]
  rw [inI64_eq hr, hv2]
  have m1 : F ≤ 9223372036854775808 ↔ F * U ≤ 9223372036854775808 * U := ⟨fun h => Nat.mul_le_mul_right _ h, fun h => Nat.le_of_mul_le_mul_right h hUp⟩
  have m2 : F < 9223372036854775808 ↔ F * U < 9223372036854775808 * U := ⟨fun h => Nat.mul_lt_mul_of_pos_right h hUp, fun h => Nat.lt_of_mul_lt_mul_right h⟩
  have hXp : 0 < 9223372036854775808 * U := Nat.mul_pos (by omega) hUp
  generalize 9223372036854775808 * U = X at *
  generalize F * U = Y at *
  clear hv hv2
  cases s
  · rw [if_neg (by simp), if_neg (by simp), decide_eq_true (show -(X : Int) ≤ (Y : Int) by omega), Bool.true_and, decide_eq_decide, m2]; omega
  · rw [if_pos rfl, if_pos rfl, decide_eq_true (show -(Y : Int) < (X : Int) by omega), Bool.and_true, decide_eq_decide, m1]; omega
theorem inI64_inf (s : Bool) : inI64 (word s infR) = false := by
  have h63 := Fl.infR_lt
  have hUp := U_pos
  have hbig : 9223372036854775808 * U < rv infR := by
    rw [pow63, rv_inf]
    apply Nat.mul_lt_mul_of_pos_left _ (by omega)
    exact Nat.pow_lt_pow_right (by omega) (by rw [topE_is, hE_is]; omega)
  rw [inI64_eq (by rw [rung_word h63]; omega)]
  unfold val
  rw [sgn_word h63, rung_word h63]
  generalize 9223372036854775808 * U = X at *
  generalize rv infR = Y at *
  cases s
  · rw [if_neg (by simp), decide_eq_false (show ¬ (Y : Int) < (X : Int) by omega), Bool.and_false]
  · rw [if_pos rfl, decide_eq_false (show ¬ -(X : Int) ≤ -(Y : Int) by omega), Bool.false_and]
theorem ToInt_eq (b : Nat) : real_ToInt.f (b : Int) = some (toIntV b, toIntOk b) := by
  have hV : toIntOk b = false → toIntV b = 0 := fun e => by unfold toIntV; rw [e, if_neg (by simp)]
  unfold real_ToInt.f
  rw [Int.toNat_natCast, isNaN_read]
  by_cases h : infR < rung b
  · rw [if_pos (by simpa using h)]
    have e : toIntOk b = false := by unfold toIntOk; rw [decide_eq_false (by omega), Bool.false_and]
    rw [hV e, e]
  · rw [if_neg (by simpa using h)]
    by_cases h2 : rung b = infR
    · have e : toIntOk b = false := by unfold toIntOk; rw [decide_eq_false (by omega), Bool.false_and]
      rw [wholeB_inf .zero h2, inI64_inf, if_neg (by simp), hV e, e]
    · have hb : rung b < infR := by omega
      have hw := wholeB_finite .zero (Or.inl rfl) hb
      have hF := wholeN_zero b
      rw [hF] at hw
      obtain ⟨k, hk⟩ := floor_rep (rung b)
      have hkle : k ≤ rung b := by
        by_cases c : k ≤ rung b
        · exact c
        · have h1 := rv_lt (show rung b < k by omega)
          have h3 := Nat.div_mul_le_self (rv (rung b)) U
          rw [hk] at h1
          exact absurd h1 (Nat.not_lt.mpr h3)
      have h63 := Fl.infR_lt
      rw [rndW_exact hk (by omega)] at hw
      have hst : sgn (wholeB .zero b) = sgn b := by rw [hw]; exact sgn_word (by omega)
      have hrt : rung (wholeB .zero b) = k := by rw [hw]; exact rung_word (by omega)
      have hvt : rv (rung (wholeB .zero b)) = rv (rung b) / U * U := by rw [hrt, hk]
      have hI : inI64 (wholeB .zero b) = toIntOk b := by
        rw [inI64_fin _ _ (sgn b) hst (by omega) hvt]
        unfold toIntOk
        rw [decide_eq_true hb, Bool.true_and]
      rw [hI]
      by_cases hok : toIntOk b = true
      · have hti : floatToIntVal .f64 (wholeB .zero b) .i64 = some (toIntV b) :=
          toInt_val _ _ (sgn b) hst (by omega) hvt _ (by unfold toIntV; rw [if_pos hok]) (toIntV_range b)
        rw [if_pos hok, hti, hok, Option.map_some]
      · have hokf : toIntOk b = false := by simpa using hok
        rw [if_neg hok, hV hokf, hokf]

theorem toInt_from (n : Int) (h : n.natAbs ≤ 2^53) : toIntOk (fromN n) = true ∧ toIntV (fromN n) = n := by
  obtain ⟨h1, h2, h3, h4⟩ := fromN_val n h
  have hq : rv (rung (fromN n)) / U = n.natAbs := by rw [h2]; exact Nat.mul_div_cancel _ U_pos
  have hok : toIntOk (fromN n) = true := by
    unfold toIntOk
    rw [hq, h3, decide_eq_true h1, Bool.true_and]
    have : n.natAbs < 9223372036854775808 := by omega
    by_cases c : n < 0
    · rw [decide_eq_true c, if_pos rfl]; simp; omega
    · rw [decide_eq_false c, if_neg (by simp)]; simp; omega
  refine ⟨hok, ?_⟩
  unfold toIntV
  rw [if_pos hok, hq, h3]
  by_cases c : n < 0
  · rw [decide_eq_true c, if_pos rfl]; omega
  · rw [decide_eq_false c, if_neg (by simp)]; omega
end Go.Proofs.Ytapgnackoclbeaa.PReal
