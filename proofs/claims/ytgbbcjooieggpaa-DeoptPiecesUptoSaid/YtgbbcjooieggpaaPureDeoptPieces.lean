/- DeoptPieces: shapes one behind the other are frames one behind the other. For every input of a bulk of at most 1048576. -/
import Derived.Test.YtgbbcjooieggpaaPFramesx8
import Derived.Test.YtgbbcjooieggpaaPureFrames
set_option linter.unusedSimpArgs false
set_option linter.unusedVariables false
namespace Go.Proofs.Ytgbbcjooieggpaa.PureF
open Go.RowKit Go.Proofs.Ytgbbcjooieggpaa.PFrames Go.Proofs.YtgbbcjooieggpaaW.PrintWords Go.Proofs.YtgbbcjooieggpaaW.PrintLast
/-- THE ONE PURE STATEMENT -/
theorem DeoptPieces (a b : List S67) (r c : List S35) (ha : a.length ≤ 1048576) (hb : b.length ≤ 1048576) (hr : r.length ≤ 1048576) (hc : c.length ≤ 1048576) (hsa : ∀ s ∈ a, s.f2.length ≤ 1048576) (hsb : ∀ s ∈ b, s.f2.length ≤ 1048576) :
    ∃ k, portagelaw26_DeoptPieces.f k a b r c = some true := by
  have hsa' : ∀ s ∈ a, s.f2.length ≤ 8796093021952 := fun s hs => Nat.le_trans (hsa s hs) (by omega)
  have hsb' : ∀ s ∈ b, s.f2.length ≤ 8796093021952 := fun s hs => Nat.le_trans (hsb s hs) (by omega)
  have hsab : ∀ s ∈ a ++ b, s.f2.length ≤ 8796093021952 := fun s hs => (List.mem_append.1 hs).elim (hsa' s) (hsb' s)
  obtain ⟨K1, h1⟩ := copyS a (by omega) hsa'
  obtain ⟨K2, h2⟩ := copyS b (by omega) hsb'
  obtain ⟨K3, h3⟩ := copyV r (by omega)
  obtain ⟨K4, h4⟩ := copyV c (by omega)
  obtain ⟨K5, h5⟩ := frames_ev r c a (by omega) hsa'
  obtain ⟨K6, h6⟩ := frames_ev r c b (by omega) hsb'
  obtain ⟨K7, h7⟩ := frames_ev r c (a ++ b) (by rw [List.length_append]; omega) hsab
  have hfs := fsOf_append r c a b
  have key : ∃ K8, ∀ k, K8 ≤ k → (if (resOf r c [] a).2 = true then (if ((resOf r c [] (a ++ b)).2 != (resOf r c [] b).2) = true then (portagelaw26_DeoptPieces.j0 k (resOf r c [] a).1 (resOf r c [] b).1 (resOf r c [] (a ++ b)).1 (resOf r c [] (a ++ b)).2 true) else ((portagelaw26_shown.f).bind fun t226 => (portagelaw26_DeoptPieces.j0 k (resOf r c [] a).1 (resOf r c [] b).1 (resOf r c [] (a ++ b)).1 (resOf r c [] (a ++ b)).2 (!t226)))) else (if ((resOf r c [] (a ++ b)).2 != false) = true then (portagelaw26_DeoptPieces.j0 k (resOf r c [] a).1 (resOf r c [] b).1 (resOf r c [] (a ++ b)).1 (resOf r c [] (a ++ b)).2 true) else ((portagelaw26_shown.f).bind fun t227 => (portagelaw26_DeoptPieces.j0 k (resOf r c [] a).1 (resOf r c [] b).1 (resOf r c [] (a ++ b)).1 (resOf r c [] (a ++ b)).2 (!t227))))) = some true := by
    cases hx : fsOf r c a with
    | none =>
      have ea : resOf r c [] a = ([], false) := by unfold resOf; rw [hx]
      have eab : resOf r c [] (a ++ b) = ([], false) := by unfold resOf; rw [hfs, hx]
      refine ⟨1, fun k hk => ?_⟩
      obtain ⟨k, rfl⟩ : ∃ m, k = m + 1 := ⟨k-1, by omega⟩
      rw [ea, eab]
      rfl
    | some x =>
      have ea : resOf r c [] a = (x, true) := by unfold resOf; rw [hx]; rfl
      cases hy : fsOf r c b with
      | none =>
        have eb : resOf r c [] b = ([], false) := by unfold resOf; rw [hy]
        have eab : resOf r c [] (a ++ b) = ([], false) := by unfold resOf; rw [hfs, hx, hy]
        refine ⟨1, fun k hk => ?_⟩
        obtain ⟨k, rfl⟩ : ∃ m, k = m + 1 := ⟨k-1, by omega⟩
        rw [ea, eb, eab]
        rfl
      | some y =>
        have eb : resOf r c [] b = (y, true) := by unfold resOf; rw [hy]; rfl
        have eab : resOf r c [] (a ++ b) = (x ++ y, true) := by unfold resOf; rw [hfs, hx, hy]; rfl
        have lx := fsOf_len r c a x hx
        have ly := fsOf_len r c b y hy
        have sx := fsOf_small r c a x hx hsa'
        have sy := fsOf_small r c b y hy hsb'
        obtain ⟨K9, h9⟩ := sameFs (x ++ y) (by rw [List.length_append]; omega) (fun s hs => (List.mem_append.1 hs).elim (fun h => Nat.le_trans (sx s h) (by omega)) (fun h => Nat.le_trans (sy s h) (by omega)))
        refine ⟨K9 + 1, fun k hk => ?_⟩
        obtain ⟨k, rfl⟩ : ∃ m, k = m + 1 := ⟨k-1, by omega⟩
        rw [ea, eb, eab]
        show portagelaw26_DeoptPieces.j0 (k+1) x y (x ++ y) true false = some true
        simp only [portagelaw26_DeoptPieces.j0]
        rw [if_neg (by decide), if_pos trivial, if_pos (by omega), show portageref0_SameFrames.f k (x ++ y) (x ++ y) = some true from h9 k (by omega)]
        rfl
  obtain ⟨K8, h8⟩ := key
  refine ⟨K1 + K2 + K3 + K4 + K5 + K6 + K7 + K8, ?_⟩
  generalize hk : K1 + K2 + K3 + K4 + K5 + K6 + K7 + K8 = k
  unfold portagelaw26_DeoptPieces.f
  rw [show portageref0_CopyShapes.f k a = some a from h1 k (by omega), Option.bind_some, show portageref0_CopyValues.f k r = some r from h3 k (by omega), Option.bind_some, show portageref0_CopyValues.f k c = some c from h4 k (by omega), Option.bind_some,
    show deopt_Frames.f k a r c = some (resOf r c [] a) from h5 k (by omega), Option.bind_some, show portageref0_CopyShapes.f k b = some b from h2 k (by omega), Option.bind_some, Option.bind_some, Option.bind_some, show deopt_Frames.f k b r c = some (resOf r c [] b) from h6 k (by omega), Option.bind_some, Option.bind_some, Option.bind_some,
    if_pos (by omega), Option.bind_some, Option.bind_some, show deopt_Frames.f k (a ++ b) r c = some (resOf r c [] (a ++ b)) from h7 k (by omega), Option.bind_some]
  exact h8 k (by omega)
end Go.Proofs.Ytgbbcjooieggpaa.PureF
