/- What LentValues gives: the list and 64 marks behind it. For every input of a length that memory can hold. -/
import Derived.Test.YtgbbcjooieggpaaPRegsx4
import Derived.Test.YtgbbcjooieggpaaPureRegs
set_option linter.unusedSimpArgs false
set_option linter.unusedVariables false
namespace Go.Proofs.Ytgbbcjooieggpaa.PureR
open Go.RowKit Go.Proofs.Ytgbbcjooieggpaa.PRegs Go.Proofs.YtgbbcjooieggpaaW.PrintWords Go.Proofs.YtgbbcjooieggpaaW.PrintLast
theorem ev_at {α : Type} {g : Nat → Option α} {f : Nat → Option α} {r : α} (hs : ∀ k, g (k + 1) = f k) (h : Ev f r) : Ev g r := Ev.step hs h

/-! the lists that are lent -/
def sp (i : Nat) : List S35 := (List.range i).map fun (j : Nat) => (⟨-9, (j : Int)⟩ : S35)
theorem sp_succ (i : Nat) : sp (i+1) = sp i ++ [(⟨-9, (i : Int)⟩ : S35)] := by unfold sp; rw [List.range_succ, List.map_append]; rfl
theorem sp_len (i : Nat) : (sp i).length = i := by unfold sp; simp
theorem rd_get (l : List S35) (i : Nat) (h : i < l.length) : rd_T35 l (i : Int) = l[i] := by
  unfold rd_T35; rw [Int.toNat_natCast, List.getD_eq_getElem?_getD, List.getElem?_eq_getElem h]; rfl
theorem lent_l1 (r : List S35) (hr : r.length ≤ 8796093021952) : ∀ d i : Nat, i + d = 64 → Ev (fun k => portagekit_LentValues.l1 k (r ++ sp i) (i : Int)) (r ++ sp 64) := by
  intro d
  induction d with
  | zero =>
    intro i hi
    obtain rfl : i = 64 := by omega
    refine ⟨1, fun k hk => ?_⟩
    obtain ⟨k, rfl⟩ : ∃ m, k = m + 1 := ⟨k-1, by omega⟩
    simp only [portagekit_LentValues.l1]
    rw [if_neg (by omega)]
  | succ d ih =>
    intro i hi
    refine ev_at (fun k => ?_) (ih (i+1) (by omega))
    simp only [portagekit_LentValues.l1]
    rw [if_pos (by omega), if_pos (by rw [List.length_append, sp_len]; omega), wr (i : Int) (by omega), List.append_assoc, ← sp_succ]
    rfl
theorem lent_l0 (r : List S35) (hr : r.length ≤ 8796093021952) : ∀ d i : Nat, i + d = r.length → Ev (fun k => portagekit_LentValues.l0 k r (r.take i) (i : Int)) (r ++ sp 64) := by
  intro d
  induction d with
  | zero =>
    intro i hi
    obtain rfl : i = r.length := by omega
    refine ev_at (fun k => ?_) (by have := lent_l1 r hr 64 0 rfl; rw [show sp 0 = [] from rfl, List.append_nil] at this; exact this)
    simp only [portagekit_LentValues.l0]
    rw [if_neg (by omega), List.take_length]; rfl
  | succ d ih =>
    intro i hi
    have hlt : i < r.length := by omega
    refine ev_at (fun k => ?_) (ih (i+1) (by omega))
    simp only [portagekit_LentValues.l0]
    rw [if_pos (by omega), if_pos (by omega), if_pos (by rw [List.length_take]; omega), wr (i : Int) (by omega)]
    have : (⟨(rd_T35 r (i : Int)).f0, (rd_T35 r (i : Int)).f1⟩ : S35) = r[i] := rd_get r i hlt
    rw [this, List.take_succ_eq_append_getElem hlt]
    rfl
theorem lent_ev (r : List S35) (hr : r.length ≤ 8796093021952) : Ev (fun k => portagekit_LentValues.f k r) (r ++ sp 64) := by
  have := lent_l0 r hr r.length 0 (by omega)
  rw [List.take_zero] at this
  exact this
end Go.Proofs.Ytgbbcjooieggpaa.PureR
