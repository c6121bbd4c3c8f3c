/- Copies of values, operands and shapes are what they are copies of. For every input of a length that memory can hold. -/
import Derived.Test.YtgbbcjooieggpaaPFramesx3
import Derived.Test.YtgbbcjooieggpaaPFramesx7
set_option linter.unusedSimpArgs false
set_option linter.unusedVariables false
namespace Go.Proofs.Ytgbbcjooieggpaa.PureF
open Go.RowKit Go.Proofs.Ytgbbcjooieggpaa.PFrames Go.Proofs.YtgbbcjooieggpaaW.PrintWords Go.Proofs.YtgbbcjooieggpaaW.PrintLast

theorem wr (i : Int) (h : -9223372036854775808 ≤ i ∧ i < 9223372036854775807) : wrap64 (i + 1) = i + 1 := by unfold wrap64; omega
theorem rd35 (l : List S35) (i : Nat) (h : i < l.length) : rd_T35 l (i : Int) = l[i] := by
  unfold rd_T35; rw [Int.toNat_natCast, List.getD_eq_getElem?_getD, List.getElem?_eq_getElem h]; rfl
theorem rd44 (l : List S44) (i : Nat) (h : i < l.length) : rd_T44 l (i : Int) = l[i] := by
  unfold rd_T44; rw [Int.toNat_natCast, List.getD_eq_getElem?_getD, List.getElem?_eq_getElem h]; rfl
theorem rd67 (l : List S67) (i : Nat) (h : i < l.length) : rd_T67 l (i : Int) = l[i] := by
  unfold rd_T67; rw [Int.toNat_natCast, List.getD_eq_getElem?_getD, List.getElem?_eq_getElem h]; rfl
theorem copyV_l0 (r : List S35) (hr : r.length ≤ 8796093021952) : ∀ d i : Nat, i + d = r.length → Ev (fun k => portageref0_CopyValues.l0 k r (r.take i) (i : Int)) r := by
  intro d
  induction d with
  | zero =>
    intro i hi
    obtain rfl : i = r.length := by omega
    refine ⟨1, fun k hk => ?_⟩
    obtain ⟨k, rfl⟩ : ∃ m, k = m + 1 := ⟨k-1, by omega⟩
    simp only [portageref0_CopyValues.l0]
    rw [if_neg (by omega), List.take_length]
  | succ d ih =>
    intro i hi
    have hlt : i < r.length := by omega
    refine Ev.step (fun k => ?_) (ih (i+1) (by omega))
    simp only [portageref0_CopyValues.l0]
    rw [if_pos (by omega), if_pos (by omega), if_pos (by rw [List.length_take]; omega), wr (i : Int) (by omega)]
    have : (⟨(rd_T35 r (i : Int)).f0, (rd_T35 r (i : Int)).f1⟩ : S35) = r[i] := rd35 r i hlt
    rw [this, List.take_succ_eq_append_getElem hlt]
    rfl
theorem copyV (r : List S35) (hr : r.length ≤ 8796093021952) : Ev (fun k => portageref0_CopyValues.f k r) r := by
  have := copyV_l0 r hr r.length 0 (by omega)
  rw [List.take_zero] at this; exact this
theorem copyO_l0 (r : List S44) (hr : r.length ≤ 8796093021952) : ∀ d i : Nat, i + d = r.length → Ev (fun k => portageref0_CopyOpnds.l0 k r (r.take i) (i : Int)) r := by
  intro d
  induction d with
  | zero =>
    intro i hi
    obtain rfl : i = r.length := by omega
    refine ⟨1, fun k hk => ?_⟩
    obtain ⟨k, rfl⟩ : ∃ m, k = m + 1 := ⟨k-1, by omega⟩
    simp only [portageref0_CopyOpnds.l0]
    rw [if_neg (by omega), List.take_length]
  | succ d ih =>
    intro i hi
    have hlt : i < r.length := by omega
    refine Ev.step (fun k => ?_) (ih (i+1) (by omega))
    simp only [portageref0_CopyOpnds.l0]
    rw [if_pos (by omega), if_pos (by omega), if_pos (by rw [List.length_take]; omega), wr (i : Int) (by omega)]
    have : (⟨(rd_T44 r (i : Int)).f0, (rd_T44 r (i : Int)).f1⟩ : S44) = r[i] := rd44 r i hlt
    rw [this, List.take_succ_eq_append_getElem hlt]
    rfl
theorem copyO (r : List S44) (hr : r.length ≤ 8796093021952) : Ev (fun k => portageref0_CopyOpnds.f k r) r := by
  have := copyO_l0 r hr r.length 0 (by omega)
  rw [List.take_zero] at this; exact this
theorem copyS_l0 (r : List S67) (hr : r.length ≤ 3518437208780) (hs : ∀ x ∈ r, x.f2.length ≤ 8796093021952) : ∀ d i : Nat, i + d = r.length → Ev (fun k => portageref0_CopyShapes.l0 k r (r.take i) (i : Int)) r := by
  intro d
  induction d with
  | zero =>
    intro i hi
    obtain rfl : i = r.length := by omega
    refine ⟨1, fun k hk => ?_⟩
    obtain ⟨k, rfl⟩ : ∃ m, k = m + 1 := ⟨k-1, by omega⟩
    simp only [portageref0_CopyShapes.l0]
    rw [if_neg (by omega), List.take_length]
  | succ d ih =>
    intro i hi
    have hlt : i < r.length := by omega
    obtain ⟨K1, h1⟩ := ih (i+1) (by omega)
    obtain ⟨K2, h2⟩ := copyO r[i].f2 (hs _ (List.getElem_mem hlt))
    refine ⟨max K1 K2 + 1, fun k hk => ?_⟩
    obtain ⟨k, rfl⟩ : ∃ m, k = m + 1 := ⟨k-1, by omega⟩
    simp only [portageref0_CopyShapes.l0]
    rw [if_pos (by omega), if_pos (by omega), rd67 r i hlt, show portageref0_CopyOpnds.f k r[i].f2 = some _ from h2 k (by omega), Option.bind_some, if_pos (by rw [List.length_take]; omega), wr (i : Int) (by omega)]
    have := h1 k (by omega)
    rw [List.take_succ_eq_append_getElem hlt] at this
    exact this
theorem copyS (r : List S67) (hr : r.length ≤ 3518437208780) (hs : ∀ x ∈ r, x.f2.length ≤ 8796093021952) : Ev (fun k => portageref0_CopyShapes.f k r) r := by
  have := copyS_l0 r hr hs r.length 0 (by omega)
  rw [List.take_zero] at this; exact this
end Go.Proofs.Ytgbbcjooieggpaa.PureF
