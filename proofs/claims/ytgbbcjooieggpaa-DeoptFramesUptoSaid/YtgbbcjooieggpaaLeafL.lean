/- ApartFrames over two answers of Frames; lentShapes and ApartFrames, as the law's walk takes them. -/
import Derived.Test.YtgbbcjooieggpaaApartF
import Derived.Test.YtgbbcjooieggpaaLentS
namespace Go.Proofs.Ytgbbcjooieggpaa.PFr
open Go.RowKit Go.Proofs.Ytgbbcjooieggpaa.Lit Go.Proofs.Ytgbbcjooieggpaa.OwnCells Go.Proofs.YtgbbcjooieggpaaW.PrintWords Go.Proofs.YtgbbcjooieggpaaW.PrintLast Go.Proofs.YtgbbcjooieggpaaW.PrintMore
set_option linter.unusedVariables false
set_option linter.unusedSimpArgs false
def portagelaw26_lentShapes.f (l : List S67) : Option (List S67 × List (List S44)) := if l.length ≤ 1048576 ∧ ∀ s ∈ l, s.f2.length ≤ 1048576 then some (l, fulls l) else none
theorem portagelaw26_lentShapes.calls (A0 : Option Addr) (c0 : Nat) (l0 : List S67) (r1 : List S67) (r2 : List (List S44)) (w : World) (hr0 : Kd.C k67 w A0 l0.length l0) (hc0 : l0.length ≤ c0) (h : portagelaw26_lentShapes.f l0 = some (r1, r2)) :
    Calls Try.prog 21 #[.slice A0 l0.length c0] w fun e w' => ∃ v0_ v1_ : Value, e = .returned (.tuple #[v0_, v1_]) ∧ Kd.R k67 67 w' w.heap.size (fun _ => True) v0_ r1 ∧ Kd.R (Kd.slice 44 k44) 39 w' w.heap.size (fun _ => True) v1_ r2 ∧ Below w.heap.size w w' := by
  unfold portagelaw26_lentShapes.f at h
  split at h
  · rename_i hs
    simp only [Option.some.injEq, Prod.mk.injEq] at h
    obtain ⟨rfl, rfl⟩ := h
    exact lent_shapes A0 c0 _ w hr0 hc0 ⟨hs.1, hs.2⟩
  · cases h
def SmallF (l : List (List S27)) : Prop := ∀ x ∈ l, x.length ≤ 1048640 ∧ ∀ y ∈ x, y.f2.length ≤ 1048640
instance (l : List (List S27)) : Decidable (SmallF l) := by unfold SmallF; infer_instance
def portagekit_ApartFrames.f (l : List (List S27)) : Option Bool := if SmallF l then some true else none
theorem af_true {l : List (List S27)} {t : Bool} (h : portagekit_ApartFrames.f l = some t) : t = true ∧ SmallF l := by
  unfold portagekit_ApartFrames.f at h
  split at h
  · exact ⟨(Option.some.inj h).symm, by assumption⟩
  · cases h
/-- two lists of frames, the first one elder -/
def AG (w : World) (b : Nat) (okX : Nat → Prop) (v u : Value) (x y : List S27) : Prop := ∃ N, Kd.S k27 27 w b (fun k => okX k ∧ k < N) v x ∧ Kd.S k27 27 w b (fun k => okX k ∧ N ≤ k) u y
section
variable {w w1 : World} {b : Nat} {okX : Nat → Prop} {v u : Value} {x y : List S27}
theorem AG.below (h : AG w b okX v u x y) (hb : Below w.heap.size w w1) : AG w1 b okX v u x y := let ⟨N, h1, h2⟩ := h; ⟨N, Kd.S_below h1 hb, Kd.S_below h2 hb⟩
theorem AG.alloc (h : AG w b okX v u x y) (o : Obj) : AG (w.alloc o) b okX v u x y := h.below (below_alloc (Below.refl _ _) o)
theorem AG.drew (h : AG w b okX v u x y) : AG w.drew b okX v u x y := h.below (below_drew (Below.refl _ _))
theorem AG.drewN (h : AG w b okX v u x y) (m : Nat) : AG (w.drewN m) b okX v u x y := h.below (pw_below_drewN (Below.refl _ _) m)
end
namespace AF
open Grow (OwnOf)
def two {α : Type} (a b : α) : Nat → α
  | 0 => a
  | _ => b
theorem frames_two {w : World} {b : Nat} {okX : Nat → Prop} {A1 A2 : Option Addr} {c1 c2 : Nat} {x y : List S27} (h : AG w b okX (.slice A1 x.length c1) (.slice A2 y.length c2) x y) (hs : SmallF [x, y]) (hw : b ≤ w.heap.size) :
    Calls Try.prog 26 #[.slice (some ⟨w.heap.size, 0, none⟩) 2 2] (w.alloc (.cells #[.slice A1 x.length c1, .slice A2 y.length c2] 50)) fun e w' => e = .returned (.bool true) ∧ But (fun k => okX k ∧ b ≤ k) (w.alloc (.cells #[.slice A1 x.length c1, .slice A2 y.length c2] 50)) w' := by
  obtain ⟨N, h1, h2⟩ := h
  have hb := below_alloc (Below.refl _ w) (.cells #[.slice A1 x.length c1, .slice A2 y.length c2] 50)
  obtain ⟨O1, S1, o1, l1, k1, a1, p1⟩ := S27_open h1
  obtain ⟨O2, S2, o2, l2, k2, a2, p2⟩ := S27_open h2
  have hfl : Flat (two S1 S2) 2 = S1 ++ S2 := by unfold Flat; simp [List.range, List.range.loop, two]
  have hsx := hs x (by simp)
  have hsy := hs y (by simp)
  have hrow : ∀ p ∈ S1 ++ S2, w.ownsRow b 35 2 p.1 p.2.1 p.2.2 ∧ (p.2.1 + 64) * 16 ≤ 140737488355328 ∧ ∀ k, p.1.ownBlock = some k → okX k := by
    intro p hp
    rcases List.mem_append.1 hp with hp | hp
    · obtain ⟨i, hi⟩ := List.getElem?_of_mem hp
      obtain ⟨_, h3, ⟨z, hz, h4⟩, h5⟩ := p1 i p hi
      have := hsx.2 z hz
      exact ⟨h3, by omega, fun k hk => (h5 k hk).1⟩
    · obtain ⟨i, hi⟩ := List.getElem?_of_mem hp
      obtain ⟨_, h3, ⟨z, hz, h4⟩, h5⟩ := p2 i p hi
      have := hsy.2 z hz
      exact ⟨h3, by omega, fun k hk => (h5 k hk).1⟩
  have hlt : ∀ p ∈ S1 ++ S2, ∀ k, p.1.ownBlock = some k → k < w.heap.size := fun p hp k hk => own_lt (hrow p hp).1 k hk
  refine (apart_frames (two (.slice A1 x.length c1) (.slice A2 y.length c2)) (two x.length y.length) (two O1 O2) (two S1 S2) 2 b (some ⟨w.heap.size, 0, none⟩) 2 _ ⟨?_, ?_, ?_, ?_, ?_, ?_, ?_, ?_, ?_, by decide, ?_, ?_, ?_⟩).mono ?_
  · intro j hj
    match j, hj with
    | 0, _ => exact (But.of_below hb).own o1 (fun _ _ h => h)
    | 1, _ => exact (But.of_below hb).own o2 (fun _ _ h => h)
  · intro j hj
    match j, hj with
    | 0, _ => exact l1
    | 1, _ => exact l2
  · intro j hj i p hp
    match j, hj with
    | 0, _ => exact (p1 i p hp).1
    | 1, _ => exact (p2 i p hp).1
  · intro p hp
    rw [hfl] at hp
    exact ⟨(But.of_below hb).own (hrow p hp).1 (fun _ _ h => h), (hrow p hp).2.1⟩
  · intro i j q hi hj hij e1 e2
    match i, j, hi, hj with
    | 0, 0, _, _ => exact hij rfl
    | 0, 1, _, _ => have h3 := (k1 q e1).2; have h4 := (k2 q e2).2; omega
    | 1, 0, _, _ => have h3 := (k2 q e1).2; have h4 := (k1 q e2).2; omega
    | 1, 1, _, _ => exact hij rfl
  · rw [RowsApart, hfl, List.pairwise_append]
    refine ⟨a1, a2, fun p hp q hq k e1 e2 => ?_⟩
    obtain ⟨i, hi⟩ := List.getElem?_of_mem hp
    obtain ⟨i', hi'⟩ := List.getElem?_of_mem hq
    have h3 := ((p1 i p hi).2.2.2 k e1).2
    have h4 := ((p2 i' q hi').2.2.2 k e2).2
    omega
  · intro j hj
    refine ⟨_, rfl, ?_⟩
    match j, hj with
    | 0, _ => exact Grow.cells_new w [.slice A1 x.length c1, .slice A2 y.length c2] 50 0 _ rfl
    | 1, _ => exact Grow.cells_new w [.slice A1 x.length c1, .slice A2 y.length c2] 50 1 _ rfl
  · intro a q ha hq e
    cases ha
    obtain ⟨j, hj, hq⟩ := hq
    match j, hj with
    | 0, _ => have := own_lt o1 q hq; have e' : w.heap.size = q := e; omega
    | 1, _ => have := own_lt o2 q hq; have e' : w.heap.size = q := e; omega
  · intro a p q ha hp hq e
    cases ha
    rw [hfl] at hp
    have := hlt p hp q hq
    have e' : w.heap.size = q := e
    omega
  · intro j hj
    match j, hj with
    | 0, _ => have := hsx.1; show (x.length + 64) * 40 ≤ 140737488355328; omega
    | 1, _ => have := hsy.1; show (y.length + 64) * 40 ≤ 140737488355328; omega
  · rw [hfl, List.length_append, l1, l2]
    have := hsx.1; have := hsy.1
    omega
  · rw [World.size_alloc]; omega
  · rintro e w' ⟨he, hB⟩
    refine ⟨he, hB.mono fun k h => ?_⟩
    rcases h with ⟨j, hj, h⟩ | ⟨p, hp, h⟩
    · match j, hj with
      | 0, _ => exact ⟨(k1 k h).1, own_base o1 k h⟩
      | 1, _ => exact ⟨(k2 k h).1, own_base o2 k h⟩
    · rw [hfl] at hp
      exact ⟨(hrow p hp).2.2 k h, own_base (hrow p hp).1 k h⟩
theorem frames_below {w wc w1 : World} {okX : Nat → Prop} {v u : Value} {o : Obj} {x y : List S27} {A1 A2 : Option Addr} {c1 c2 : Nat} (h : AG wc w.heap.size okX (.slice A1 x.length c1) (.slice A2 y.length c2) x y) (hb : Below w.heap.size w wc) (hB : But (fun k => okX k ∧ w.heap.size ≤ k) (wc.alloc o) w1) : Below w.heap.size w w1 := by
  have h1 := below_alloc hb o
  exact h1.trans (hB.to_below h1.size (fun k hk => hk.2))
end AF
theorem R_butS {α : Type} {d : Kd α} {e base : Nat} {ok okX : Nat → Prop} {w w1 : World} {v : Value} {xs : List α} (h : d.R e w base ok v xs) (hb : But okX w w1) (hne : ∀ k, okX k → some k ≠ v.ownBlock) (hE : d.E = []) : d.R e w1 base ok v xs := by
  have h1 := Kd.R_tight hE h
  have h2 : d.R e w1 base (fun k => some k = v.ownBlock) v xs := Kd.R_step h1 (fun k hk hlt => hb.block k hlt (fun ho => hne k ho hk))
  exact Kd.R_mono h2 (fun k hk => h.1 k hk.symm)
theorem blk_butS {w w1 : World} {g : Nat} {o : Obj} {okX : Nat → Prop} (h : w.heap[g]? = some o) (hb : But okX w w1) (hne : ¬ okX g) : w1.heap[g]? = some o := (hb.block g (blk_lt h) hne).trans h
end Go.Proofs.Ytgbbcjooieggpaa.PFr
