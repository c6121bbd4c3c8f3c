/- The plain values of the printed helpers. For every list that memory can hold. -/
import Derived.Test.YtplppefpohjkbaaIter
namespace Go.Proofs.Ytplppefpohjkbaa.PGr
open Go.RowKit Go.Shelf Go.Proofs.YtplppefpohjkbaaW.PrintWords Go.Proofs.YtplppefpohjkbaaW.PrintLast Go.Proofs.YtplppefpohjkbaaW.PrintMore
set_option linter.unusedVariables false
set_option linter.unusedSimpArgs false
theorem wrap_up {n : Nat} (h : n < 9223372036854775807) : wrap64 ((n : Int) + 1) = ((n + 1 : Nat) : Int) := by unfold wrap64; omega
theorem rd_nat (l : List Int) (i : Nat) (h : i < l.length) : rd l (i : Int) = l[i] := by simp [rd, h]
theorem want_l0 (l a0 : List Int) (a1 : List (List Int)) (a2 a4 : List Int) (hl : l.length < 17592186044416) : ∀ (m : Nat) (b : Int) (xs : List Int), xs.length + m = l.length → portageref09_Doms.l0 (m + 1) b xs a0 a1 a2 l a4 = some (xs ++ doms l m b)
  | 0, b, xs, h => by
    unfold portageref09_Doms.l0
    rw [if_neg (by omega), doms, List.append_nil]
  | m + 1, b, xs, h => by
    unfold portageref09_Doms.l0
    rw [if_pos (by omega), doms]
    by_cases h0 : 0 ≤ b
    · by_cases h1 : b < (l.length : Int)
      · rw [if_pos h0, if_pos h1, if_pos (by omega), if_pos h0, if_pos ⟨h0, h1⟩, want_l0 l a0 a1 a2 a4 hl m (rd l b) (xs ++ [b]) (by simp; omega)]
        simp
      · rw [if_pos h0, if_neg h1, if_neg (by omega), List.append_nil]
    · rw [if_neg h0, if_neg (by omega), List.append_nil]
theorem want_f (l a0 : List Int) (a1 : List (List Int)) (a2 a4 : List Int) (b : Int) (hl : l.length < 17592186044416) : portageref09_Doms.f (l.length + 1) a0 a1 a2 l a4 b = some (doms l l.length b) := by
  unfold portageref09_Doms.f
  rw [want_l0 l a0 a1 a2 a4 hl l.length b [] (by simp), List.nil_append]
theorem copy_l0 (l : List Int) (hl : l.length ≤ 17592186044416) : ∀ (m i : Nat) (xs : List Int), i + m = l.length → xs = l.take i → portageref0_CopyInts.l0 (m + 1) l xs (i : Int) = some l
  | 0, i, xs, h, hx => by
    unfold portageref0_CopyInts.l0
    rw [if_neg (by omega), hx, List.take_of_length_le (by omega)]
  | m + 1, i, xs, h, hx => by
    unfold portageref0_CopyInts.l0
    rw [if_pos (by omega), if_pos (by omega), if_pos (by rw [hx, List.length_take]; omega), wrap_up (by omega)]
    refine copy_l0 l hl m (i + 1) _ (by omega) ?_
    rw [hx, rd_nat l i (by omega), List.take_succ_eq_append_getElem (by omega)]
theorem copy_f (l : List Int) (hl : l.length ≤ 17592186044416) : portageref0_CopyInts.f (l.length + 1) l = some l :=
  copy_l0 l hl l.length 0 [] (by omega) (by simp)
theorem same_l0 (l1 l2 : List Int) (hl : l1.length < 9223372036854775807) (h2 : l1.length = l2.length) : ∀ (m i : Nat), i + m = l1.length → portageref0_SameInts.l0 (m + 1) l1 l2 (i : Int) = some (decide (l1.drop i = l2.drop i))
  | 0, i, h => by
    unfold portageref0_SameInts.l0
    rw [if_neg (by omega), List.drop_of_length_le (by omega), List.drop_of_length_le (by omega)]
    simp
  | m + 1, i, h => by
    unfold portageref0_SameInts.l0
    rw [if_pos (by omega), if_pos (by omega), if_pos (by omega), rd_nat l1 i (by omega), rd_nat l2 i (by omega), wrap_up (by omega)]
    have d1 := List.drop_eq_getElem_cons (l := l1) (by omega : i < l1.length)
    have d2 := List.drop_eq_getElem_cons (l := l2) (by omega : i < l2.length)
    have hd : (l1.drop i = l2.drop i) ↔ (l1[i] = l2[i] ∧ l1.drop (i + 1) = l2.drop (i + 1)) := by rw [d1, d2, List.cons.injEq]
    by_cases he : l1[i] = l2[i]
    · rw [if_pos he, same_l0 l1 l2 hl h2 m (i + 1) (by omega)]
      exact congrArg some (decide_eq_decide.2 ⟨fun h => hd.2 ⟨he, h⟩, fun h => (hd.1 h).2⟩)
    · rw [if_neg he]
      exact congrArg some (decide_eq_false fun h => he (hd.1 h).1).symm
theorem same_f (l1 l2 : List Int) (hl : l1.length < 9223372036854775807) : portageref0_SameInts.f (l1.length + 1) l1 l2 = some (decide (l1 = l2)) := by
  unfold portageref0_SameInts.f
  by_cases h : l1.length = l2.length
  · rw [if_pos (by omega)]
    have := same_l0 l1 l2 hl h l1.length 0 (by omega)
    simpa using this
  · rw [if_neg (by omega)]
    simp
    intro he
    exact h (by rw [he])
end Go.Proofs.Ytplppefpohjkbaa.PGr
