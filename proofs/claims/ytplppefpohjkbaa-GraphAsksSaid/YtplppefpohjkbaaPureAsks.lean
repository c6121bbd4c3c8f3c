/- The plain values of the printed helpers of GraphAsks. For every list that memory can hold. -/
import Derived.Test.YtplppefpohjkbaaBlock
import Derived.Test.YtplppefpohjkbaaPureWalks
namespace Go.Proofs.Ytplppefpohjkbaa.Ask
open Go.RowKit Go.Shelf Go.Proofs.Ytplppefpohjkbaa.PGr Go.Proofs.Ytplppefpohjkbaa.Lit Go.Proofs.Ytplppefpohjkbaa.OwnCells Go.Proofs.YtplppefpohjkbaaW.PrintWords Go.Proofs.YtplppefpohjkbaaW.PrintLast Go.Proofs.YtplppefpohjkbaaW.PrintMore
attribute [local go_sem] Oper.semAt_some
attribute [local go_sem] run_store_fn
attribute [local go_sem] run_eql_fn
set_option linter.unusedVariables false
set_option linter.unusedSimpArgs false
theorem ref_block_l0 (pc : Int) (l : List Int) (l1 : List (List Int)) (l2 l3 l4 : List Int) (hl : l.length < 9223372036854775807) : ∀ (m : Nat), m ≤ l.length → portageref09_Block.l0 (m + 1) pc ((m : Int) - 1) l l1 l2 l3 l4 = some (blockAt pc (back l m))
  | 0, h => by
    unfold portageref09_Block.l0
    rw [if_neg (by omega)]; rfl
  | m + 1, h => by
    unfold portageref09_Block.l0
    have e : ((m + 1 : Nat) : Int) - 1 = (m : Int) := by omega
    rw [e, if_pos (by omega), if_pos (by omega), if_pos (by omega), back, blockAt]
    by_cases hx : rd l (m : Int) ≤ pc
    · rw [if_pos hx, if_pos hx]
    · rw [if_neg hx, if_neg hx]
      have e2 : wrap64 ((m : Int) - 1) = (m : Int) - 1 := by unfold wrap64; omega
      rw [e2]
      exact ref_block_l0 pc l l1 l2 l3 l4 hl m (by omega)
theorem ref_block (pc : Int) (l : List Int) (l1 : List (List Int)) (l2 l3 l4 : List Int) (hl : l.length < 9223372036854775807) : portageref09_Block.f (l.length + 1) l l1 l2 l3 l4 pc = some (blockAt pc (back l l.length)) := by
  unfold portageref09_Block.f
  have e2 : wrap64 ((l.length : Int) - 1) = (l.length : Int) - 1 := by unfold wrap64; omega
  rw [e2]
  exact ref_block_l0 pc l l1 l2 l3 l4 hl l.length (Nat.le_refl _)
theorem ref_domin_l0 (a : Int) (x : List Int) (hl : x.length < 9223372036854775807) : ∀ (m i : Nat), x.length ≤ i + m → portageref09_Dominates.l0 (m + 1) a x (i : Int) = some (decide (a ∈ x.drop i))
  | 0, i, h => by
    unfold portageref09_Dominates.l0
    rw [if_neg (by omega), List.drop_eq_nil_of_le (by omega)]; simp
  | m + 1, i, h => by
    unfold portageref09_Dominates.l0
    by_cases hi : i < x.length
    · rw [if_pos (by omega), if_pos (by omega), rd_nat x i hi, wrap_up (by omega), List.drop_eq_getElem_cons hi]
      by_cases he : x[i] = a
      · rw [if_pos he, decide_eq_true (by rw [he]; exact List.mem_cons_self)]
      · rw [if_neg he, ref_domin_l0 a x hl m (i + 1) (by omega)]
        exact congrArg some (decide_eq_decide.2 ⟨fun h => List.mem_cons_of_mem _ h, fun h => (List.mem_cons.1 h).resolve_left (fun e => he e.symm)⟩)
    · rw [if_neg (by omega), List.drop_eq_nil_of_le (by omega)]; simp
theorem ref_domin (a b : Int) (l0 : List Int) (l1 : List (List Int)) (l2 l l4 : List Int) (hl : l.length < 17592186044416) : portageref09_Dominates.f (l.length + 1) l0 l1 l2 l l4 a b = some (decide (a ∈ doms l l.length b)) := by
  unfold portageref09_Dominates.f
  rw [want_f l l0 l1 l2 l4 b hl, Option.bind_some]
  have := ref_domin_l0 a (doms l l.length b) (by have := doms_len l l.length b; omega) l.length 0 (by have := doms_len l l.length b; omega)
  rw [List.drop_zero] at this
  exact this
def marks (n : Nat) : List Int := (List.range n).map fun (i : Nat) => (-900 : Int) - (i : Int)
theorem marks_len (n : Nat) : (marks n).length = n := by simp [marks]
theorem marked_l0 (l : List Int) (hl : l.length < 17592186044416 - 64) : ∀ (m i : Nat), i + m = 64 → portagelaw09_marked.l0 (m + 1) (l ++ marks i) (i : Int) = some (l ++ marks 64)
  | 0, i, h => by
    unfold portagelaw09_marked.l0
    rw [if_neg (by omega), show i = 64 by omega]
  | m + 1, i, h => by
    unfold portagelaw09_marked.l0
    rw [if_pos (by omega), if_pos (by rw [List.length_append, marks_len]; omega), wrap_up (by omega)]
    have e : wrap64 ((-900 : Int) - (i : Int)) = (-900 : Int) - (i : Int) := by unfold wrap64; omega
    have e2 : (l ++ marks i) ++ [wrap64 ((-900 : Int) - (i : Int))] = l ++ marks (i + 1) := by
      rw [e, List.append_assoc]; simp [marks, List.range_succ]
    rw [e2]
    exact marked_l0 l hl m (i + 1) (by omega)
theorem marked_mono (l : List Int) {k j : Nat} {r : List Int} (h : portagelaw09_marked.f k l = some r) (hj : k ≤ j) : portagelaw09_marked.f j l = some r := by
  induction j with
  | zero => obtain rfl : k = 0 := by omega
            exact h
  | succ j ih =>
    by_cases hk : k = j + 1
    · rw [← hk]; exact h
    · exact portagelaw09_marked.mono l j r (ih (by omega))
theorem marked_f (l : List Int) (hl : l.length < 17592186044416 - 64) : portagelaw09_marked.f (l.length + 65) l = some (l ++ marks 64) := by
  have h1 : portageref0_CopyInts.f (l.length + 65) l = some l := by
    have hc := copy_f l (by omega)
    have : ∀ j, portageref0_CopyInts.f (l.length + 1 + j) l = some l := by
      intro j
      induction j with
      | zero => exact hc
      | succ j ih => exact portageref0_CopyInts.mono l (l.length + 1 + j) l ih
    have := this 64
    rwa [show l.length + 1 + 64 = l.length + 65 by omega] at this
  unfold portagelaw09_marked.f
  rw [h1, Option.bind_some]
  have h2 := marked_l0 l hl 64 0 (by omega)
  have e0 : l ++ marks 0 = l := by simp [marks]
  rw [e0] at h2
  have : ∀ j, portagelaw09_marked.l0 (64 + 1 + j) l 0 = some (l ++ marks 64) := by
    intro j
    induction j with
    | zero => exact h2
    | succ j ih => exact portagelaw09_marked.mono_l (64 + 1 + j) l 0 _ ih
  have := this l.length
  rwa [show 64 + 1 + l.length = l.length + 65 by omega] at this
end Go.Proofs.Ytplppefpohjkbaa.Ask
