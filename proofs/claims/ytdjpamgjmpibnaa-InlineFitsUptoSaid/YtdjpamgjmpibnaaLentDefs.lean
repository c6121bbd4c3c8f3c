/- LentProgram's lists, marks and all. -/
import Derived.Test.YtdjpamgjmpibnaaPFitx3
namespace Go.Proofs.Ytdjpamgjmpibnaa.PFit
open Go.RowKit Go.Proofs.YtdjpamgjmpibnaaW.PrintWords
set_option linter.unusedVariables false
set_option linter.unusedSimpArgs false
def markI (i : Nat) : S64 := ⟨-7, (i : Int)⟩
def markH (i : Nat) : S75 := ⟨-7, (i : Int), 0, 0⟩
def markC (i : Nat) : S56 := ⟨-7, (i : Int), ⟨#[]⟩⟩
def markF (n i : Nat) : S60 := ⟨⟨#[]⟩, -7, ((n + i : Nat) : Int), [], []⟩
def fullI (l : List S64) : List S64 := l ++ (List.range' 0 64).map markI
def fullH (l : List S75) : List S75 := l ++ (List.range' 0 64).map markH
def fullC (l : List S56) : List S56 := l ++ (List.range' 0 64).map markC
def fullF (f : List S60) (k : Nat) : S60 := ⟨⟨#[]⟩, -7, (k : Int), fullI (f.getD k z60).f3, fullH (f.getD k z60).f4⟩
def fullP (f : List S60) : List S60 := f ++ (List.range' 0 f.length).map (fullF f) ++ (List.range' 0 64).map (markF f.length)
structure SmallF (f : List S60) : Prop where
  len : f.length ≤ 1048576
  code : ∀ x ∈ f, x.f3.length ≤ 1048576
  hand : ∀ x ∈ f, x.f4.length ≤ 1048576
theorem wrapN {n : Nat} (h : n < 9223372036854775807) : wrap64 ((n : Int) + 1) = ((n + 1 : Nat) : Int) := by
  unfold wrap64
  omega
theorem range_cons (p n : Nat) : List.range' p (n + 1) = p :: List.range' (p + 1) n := rfl
theorem rd60_getD (l : List S60) (p : Nat) : rd_T60 l (p : Int) = l.getD p z60 := by unfold rd_T60; rw [Int.toNat_natCast]
theorem rd60_at {l : List S60} {p : Nat} (h : p < l.length) : rd_T60 l (p : Int) = l[p] := by
  rw [rd60_getD, List.getD_eq_getElem?_getD, List.getElem?_eq_getElem h]; rfl
theorem rd56_at {l : List S56} {p : Nat} (h : p < l.length) : rd_T56 l (p : Int) = l[p] := by
  unfold rd_T56
  rw [Int.toNat_natCast, List.getD_eq_getElem?_getD, List.getElem?_eq_getElem h]; rfl
theorem fullP_len (f : List S60) : (fullP f).length = 2 * f.length + 64 := by simp [fullP]; omega
theorem fullP_low {f : List S60} {p : Nat} (h : p < f.length) : (fullP f)[p]? = some f[p] := by
  unfold fullP
  rw [List.append_assoc, List.getElem?_append_left h, List.getElem?_eq_getElem h]
theorem fullP_mid {f : List S60} {p : Nat} (h : p < f.length) : (fullP f)[f.length + p]? = some (fullF f p) := by
  unfold fullP
  rw [List.append_assoc, List.getElem?_append_right (by omega), Nat.add_sub_cancel_left, List.getElem?_append_left (by simp; omega)]
  simp [h]
theorem fullP_high {f : List S60} {p : Nat} (h : p < 64) : (fullP f)[2 * f.length + p]? = some (markF f.length p) := by
  unfold fullP
  rw [List.getElem?_append_right (by simp; omega)]
  have e : 2 * f.length + p - (f ++ (List.range' 0 f.length).map (fullF f)).length = p := by simp; omega
  rw [e]
  simp [h]
end Go.Proofs.Ytdjpamgjmpibnaa.PFit
