/- DeoptFrames: of all shapes over every registers and constants the frames are the document's; what was handed in is as it was; changed in its place and asked again it is answered as what it is now; answers are new memory. For every input of a bulk of at most 1048576. -/
import Derived.Test.YtgbbcjooieggpaaPureFr2
import Derived.Test.YtgbbcjooieggpaaPFrx10
set_option linter.unusedSimpArgs false
set_option linter.unusedVariables false
namespace Go.Proofs.Ytgbbcjooieggpaa.PureFr
open Go.RowKit Go.Proofs.Ytgbbcjooieggpaa.PFr Go.Proofs.YtgbbcjooieggpaaW.PrintWords Go.Proofs.YtgbbcjooieggpaaW.PrintLast
theorem small_two {x y : List S27} (h1 : x.length ≤ 1048576 ∧ ∀ f ∈ x, f.f2.length ≤ 1048576) (h2 : y.length ≤ 1048576 ∧ ∀ f ∈ y, f.f2.length ≤ 1048576) : SmallF [x, y] := by
  intro z hz
  rcases List.mem_cons.1 hz with rfl | hz
  · exact ⟨by omega, fun f hf => Nat.le_trans (h1.2 f hf) (by decide)⟩
  · obtain rfl := List.mem_singleton.1 hz
    exact ⟨by omega, fun f hf => Nat.le_trans (h2.2 f hf) (by decide)⟩
theorem j1_ev (l : List S67) (r c x7 : List S35) (hl : l.length ≤ 1048576) (hs : ∀ s ∈ l, s.f2.length ≤ 1048576) (hr : r.length ≤ 1048576) (hc : c.length ≤ 1048576) (h7 : x7.length = r.length + 64) :
    Ev (fun k => portagelaw26_DeoptFrames.j1 k l l x7 (c ++ sp 64) (r.length : Int) (resOf r c [] l).1 (resOf r c [] l).1 r c) true := by
  have hs' : ∀ s ∈ l, s.f2.length ≤ 8796093021952 := fun s h => Nat.le_trans (hs s h) (by decide)
  obtain ⟨K1, h1⟩ := copyV x7 (by omega)
  obtain ⟨K2, h2⟩ := ref_ev (x7.take r.length) c l (by omega) hs'
  obtain ⟨K3, h3⟩ := frames_ev (x7.take r.length) c l (by omega) hs'
  have s1 := res_small r c l hl hs
  have s2 := res_small (x7.take r.length) c l hl hs
  obtain ⟨K4, h4⟩ := sameFs (resOf (x7.take r.length) c [] l).1 (by omega) (fun f hf => Nat.le_trans (s2.2 f hf) (by decide))
  obtain ⟨K5, h5⟩ := sameFs (resOf r c [] l).1 (by omega) (fun f hf => Nat.le_trans (s1.2 f hf) (by decide))
  obtain ⟨K6, h6⟩ := sameV x7 (by omega)
  obtain ⟨K7, h7'⟩ := kept_ev c (by omega)
  have hcl : (c ++ sp 64).length = c.length + 64 := by rw [List.length_append, sp_len]
  have hct : (c ++ sp 64).take c.length = c := by rw [List.take_left']; rfl
  refine ⟨K1 + K2 + K3 + K4 + K5 + K6 + K7 + 2, fun k hk => ?_⟩
  obtain ⟨k, rfl⟩ : ∃ m, k = m + 2 := ⟨k-2, by omega⟩
  show portagelaw26_DeoptFrames.j1 (k + 1 + 1) l l x7 (c ++ sp 64) (r.length : Int) (resOf r c [] l).1 (resOf r c [] l).1 r c = some true
  simp only [portagelaw26_DeoptFrames.j1]
  rw [show portageref0_CopyValues.f (k + 1) x7 = some x7 from h1 _ (by omega), Option.bind_some, if_pos (by omega), if_pos (by omega), Int.toNat_natCast, Int.toNat_natCast, show portageref26_Frames.f (k + 1) l (x7.take r.length) c = some (resOf (x7.take r.length) c [] l) from h2 _ (by omega), Option.bind_some, if_pos (by omega), if_pos (by omega), if_pos (by omega), hct,
    show deopt_Frames.f (k + 1) l (x7.take r.length) c = some (resOf (x7.take r.length) c [] l) from h3 _ (by omega), Option.bind_some, if_neg (by simp), show portageref0_SameFrames.f (k + 1) _ _ = some true from h4 _ (by omega), Option.bind_some, if_pos rfl, show portageref0_SameFrames.f (k + 1) _ _ = some true from h5 _ (by omega), Option.bind_some]
  simp only [portagelaw26_DeoptFrames.j2]
  rw [if_neg (by simp), show portagekit_ApartFrames.f [(resOf r c [] l).1, (resOf (x7.take r.length) c [] l).1] = some true by unfold portagekit_ApartFrames.f; rw [if_pos (small_two s1 s2)], Option.bind_some, if_pos rfl, show portageref0_SameValues.f k x7 x7 = some true from h6 _ (by omega), Option.bind_some, if_pos rfl, show portagekit_KeptValues.f k (c ++ sp 64) c = some true from h7' _ (by omega), Option.bind_some]
/-- THE ONE PURE STATEMENT -/
theorem DeoptFrames (l : List S67) (r c : List S35) (hl : l.length ≤ 1048576) (hs : ∀ s ∈ l, s.f2.length ≤ 1048576) (hr : r.length ≤ 1048576) (hc : c.length ≤ 1048576) :
    ∃ k, portagelaw26_DeoptFrames.f k l r c = some true := by
  have hs' : ∀ s ∈ l, s.f2.length ≤ 8796093021952 := fun s h => Nat.le_trans (hs s h) (by decide)
  have hrl : (r ++ sp 64).length = r.length + 64 := by rw [List.length_append, sp_len]
  have hcl : (c ++ sp 64).length = c.length + 64 := by rw [List.length_append, sp_len]
  have hrt : (r ++ sp 64).take r.length = r := by rw [List.take_left']; rfl
  have hct : (c ++ sp 64).take c.length = c := by rw [List.take_left']; rfl
  obtain ⟨K1, h1⟩ := lent_ev r (by omega)
  obtain ⟨K2, h2⟩ := lent_ev c (by omega)
  obtain ⟨K3, h3⟩ := ref_ev r c l (by omega) hs'
  obtain ⟨K4, h4⟩ := frames_ev r c l (by omega) hs'
  have s1 := res_small r c l hl hs
  obtain ⟨K5, h5⟩ := sameFs (resOf r c [] l).1 (by omega) (fun f hf => Nat.le_trans (s1.2 f hf) (by decide))
  obtain ⟨K6, h6⟩ := keptS l hl hs
  obtain ⟨K7, h7⟩ := kept_ev r (by omega)
  obtain ⟨K8, h8⟩ := kept_ev c (by omega)
  obtain ⟨K9, h9⟩ := j1_ev l r c (r ++ sp 64) hl hs hr hc hrl
  obtain ⟨K10, h10⟩ := j1_ev l r c (((r ++ sp 64).set 0 ⟨1, 1⟩).set (r.length - 1) ⟨2, 5⟩) hl hs hr hc (by rw [List.length_set, List.length_set, hrl])
  have hls : portagelaw26_lentShapes.f l = some (l, fulls l) := by unfold portagelaw26_lentShapes.f; rw [if_pos ⟨hl, hs⟩]
  refine ⟨K1 + K2 + K3 + K4 + K5 + K6 + K7 + K8 + K9 + K10 + 1, ?_⟩
  generalize hkk : K1 + K2 + K3 + K4 + K5 + K6 + K7 + K8 + K9 + K10 = k
  unfold portagelaw26_DeoptFrames.f
  rw [hls, Option.bind_some, show portagekit_LentValues.f (k + 1) r = _ from h1 _ (by omega), Option.bind_some, show portagekit_LentValues.f (k + 1) c = _ from h2 _ (by omega), Option.bind_some, show portageref26_Frames.f (k + 1) l r c = _ from h3 _ (by omega), Option.bind_some, if_pos (by omega), if_pos (by omega), if_pos (by omega), if_pos (by omega), Int.toNat_natCast, Int.toNat_natCast, hrt, hct,
    show deopt_Frames.f (k + 1) l r c = _ from h4 _ (by omega), Option.bind_some, if_neg (by simp), show portageref0_SameFrames.f (k + 1) _ _ = some true from h5 _ (by omega), Option.bind_some, if_pos rfl, show portagelaw26_keptShapes.f (k + 1) l (fulls l) l = some true from h6 _ (by omega), Option.bind_some, if_pos rfl, show portagekit_KeptValues.f (k + 1) (r ++ sp 64) r = some true from h7 _ (by omega), Option.bind_some, if_pos rfl, show portagekit_KeptValues.f (k + 1) (c ++ sp 64) c = some true from h8 _ (by omega), Option.bind_some]
  simp only [portagelaw26_DeoptFrames.j0]
  rw [if_neg (by simp)]
  by_cases hn : (r.length : Int) > 0
  · have hw : wrap64 ((r.length : Int) - 1) = ((r.length - 1 : Nat) : Int) := by unfold wrap64; omega
    rw [if_pos hn, if_pos (by omega), hw, if_pos (by omega), if_pos (by omega), Int.toNat_natCast]
    exact h10 k (by omega)
  · rw [if_neg hn]
    exact h9 k (by omega)
end Go.Proofs.Ytgbbcjooieggpaa.PureFr
