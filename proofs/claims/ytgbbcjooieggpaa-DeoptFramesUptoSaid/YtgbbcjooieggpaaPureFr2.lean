/- The document's Frames, and what is kept of the shapes, as plain lists. For every input of a length that memory can hold. -/
import Derived.Test.YtgbbcjooieggpaaPureFr
set_option linter.unusedSimpArgs false
set_option linter.unusedVariables false
namespace Go.Proofs.Ytgbbcjooieggpaa.PureFr
open Go.RowKit Go.Proofs.Ytgbbcjooieggpaa.PFr Go.Proofs.YtgbbcjooieggpaaW.PrintWords Go.Proofs.YtgbbcjooieggpaaW.PrintLast
theorem ref_l1 (r c : List S35) (l : List S67) (x : List S27) (i : Nat) (hi : i < l.length) (hx : x.length = i) (hl : l.length ≤ 3518437208780) (hs : l[i].f2.length ≤ 8796093021952)
    (next : ∀ y : S27, Ev (fun k => portageref26_Frames.l0 k l r c (x ++ [y]) ((i + 1 : Nat) : Int)) (resOf r c (x ++ [y]) (l.drop (i+1)))) : ∀ d j : Nat, j + d = l[i].f2.length → ∀ acc : List S35, acc.length = j →
    Ev (fun k => portageref26_Frames.l1 k l r c x (i : Int) (j : Int) l[i].f0 l[i].f1 acc)
      (match valsOf r c (l[i].f2.drop j) with | some us => resOf r c (x ++ [⟨l[i].f0, l[i].f1, acc ++ us⟩]) (l.drop (i+1)) | none => ([], false)) := by
  intro d
  induction d with
  | zero =>
    intro j hj acc ha
    obtain rfl : j = l[i].f2.length := by omega
    rw [List.drop_length]
    simp only [valsOf]
    rw [List.append_nil]
    refine Ev.step (fun k => ?_) (next ⟨l[i].f0, l[i].f1, acc⟩)
    simp only [portageref26_Frames.l1]
    rw [if_pos (by omega), if_pos (by omega), rd67 _ i hi, if_neg (by omega), if_pos (by omega), wr (i : Int) (by omega)]
    rfl
  | succ d ih =>
    intro j hj acc ha
    have hlt : j < l[i].f2.length := by omega
    rw [drop_cons _ j hlt]
    simp only [valsOf]
    obtain ⟨v, hv, hv2⟩ := val_ref l[i].f2[j].f0 l[i].f2[j].f1 r c
    have hval : valOf l[i].f2[j] r c = if v.2.2 = true then some ⟨v.1, v.2.1⟩ else none := by unfold valOf; rw [hv2]; rfl
    cases hb : v.2.2 with
    | false =>
      rw [hval, hb]
      simp only [Bool.false_eq_true, if_false]
      refine ⟨7, fun k hk => ?_⟩
      obtain ⟨k, rfl⟩ : ∃ m, k = m + 7 := ⟨k-7, by omega⟩
      simp only [portageref26_Frames.l1]
      rw [if_pos (by omega), if_pos (by omega), rd67 _ i hi, if_pos (by omega), if_pos (by omega), rd44 _ j hlt, hv k, Option.bind_some, hb, if_neg (by decide)]
    | true =>
      rw [hval, hb]
      simp only [if_true]
      have h := ih (j+1) (by omega) (acc ++ [(⟨v.1, v.2.1⟩ : S35)]) (by rw [List.length_append]; simp; omega)
      have hres : (match (valsOf r c (l[i].f2.drop (j+1))).map (fun us => (⟨v.1, v.2.1⟩ : S35) :: us) with | some us => resOf r c (x ++ [(⟨l[i].f0, l[i].f1, acc ++ us⟩ : S27)]) (l.drop (i+1)) | none => (([] : List S27), false))
          = (match valsOf r c (l[i].f2.drop (j+1)) with | some us => resOf r c (x ++ [⟨l[i].f0, l[i].f1, (acc ++ [(⟨v.1, v.2.1⟩ : S35)]) ++ us⟩]) (l.drop (i+1)) | none => ([], false)) := by
        cases valsOf r c (l[i].f2.drop (j+1)) with
        | none => rfl
        | some us => simp only [Option.map_some, List.append_assoc, List.cons_append, List.nil_append]
      rw [hres]
      obtain ⟨K, h⟩ := h
      refine ⟨K + 7, fun k hk => ?_⟩
      obtain ⟨k, rfl⟩ : ∃ m, k = m + 1 := ⟨k-1, by omega⟩
      have hvk := hv (k - 6)
      rw [show k - 6 + 6 = k by omega] at hvk
      simp only [portageref26_Frames.l1]
      rw [if_pos (by omega), if_pos (by omega), rd67 _ i hi, if_pos (by omega), if_pos (by omega), rd44 _ j hlt, hvk, Option.bind_some, hb, if_pos rfl, if_pos (by omega), wr (j : Int) (by omega)]
      exact h k (by omega)
theorem ref_l0 (r c : List S35) (l : List S67) (hl : l.length ≤ 3518437208780) (hs : ∀ s ∈ l, s.f2.length ≤ 8796093021952) : ∀ d i : Nat, i + d = l.length → ∀ x : List S27, x.length = i →
    Ev (fun k => portageref26_Frames.l0 k l r c x (i : Int)) (resOf r c x (l.drop i)) := by
  intro d
  induction d with
  | zero =>
    intro i hi x hx
    obtain rfl : i = l.length := by omega
    refine ⟨1, fun k hk => ?_⟩
    obtain ⟨k, rfl⟩ : ∃ m, k = m + 1 := ⟨k-1, by omega⟩
    simp only [portageref26_Frames.l0]
    rw [if_neg (by omega), List.drop_length]
    show some (x, true) = some (x ++ [], true)
    rw [List.append_nil]
  | succ d ih =>
    intro i hi x hx
    have hlt : i < l.length := by omega
    have hsl := hs _ (List.getElem_mem hlt)
    have h := ref_l1 r c l x i hlt hx hl hsl (fun y => ih (i+1) (by omega) (x ++ [y]) (by simp [hx])) l[i].f2.length 0 (by omega) [] rfl
    have hres : resOf r c x (l.drop i) = (match valsOf r c (l[i].f2.drop 0) with | some us => resOf r c (x ++ [⟨l[i].f0, l[i].f1, [] ++ us⟩]) (l.drop (i+1)) | none => ([], false)) := by
      rw [drop_cons l i hlt, List.drop_zero]
      unfold resOf
      rw [fsOf]
      unfold fOf
      cases valsOf r c l[i].f2 with
      | none => rfl
      | some us =>
        simp only [Option.map_some, List.nil_append]
        cases fsOf r c (l.drop (i+1)) with
        | none => rfl
        | some fs => simp only [Option.map_some, List.append_assoc, List.cons_append, List.nil_append]
    rw [hres]
    refine Ev.step (fun k => ?_) h
    simp only [portageref26_Frames.l0]
    rw [if_pos (by omega), if_pos (by omega), rd67 _ i hlt]
    rfl
theorem ref_ev (r c : List S35) (l : List S67) (hl : l.length ≤ 3518437208780) (hs : ∀ s ∈ l, s.f2.length ≤ 8796093021952) : Ev (fun k => portageref26_Frames.f k l r c) (resOf r c [] l) := by
  have h := ref_l0 r c l hl hs l.length 0 (by omega) [] rfl
  rw [List.drop_zero] at h
  exact h
theorem keptS (l : List S67) (hl : l.length ≤ 1048576) (hs : ∀ s ∈ l, s.f2.length ≤ 1048576) : Ev (fun k => portagelaw26_keptShapes.f k l (fulls l) l) true := ⟨0, fun k _ => by unfold portagelaw26_keptShapes.f; rw [if_pos ⟨rfl, rfl, hl, hs⟩]⟩
/-- how great the frames are -/
theorem res_small (r c : List S35) (l : List S67) (hl : l.length ≤ 1048576) (hs : ∀ s ∈ l, s.f2.length ≤ 1048576) : (resOf r c [] l).1.length ≤ 1048576 ∧ ∀ f ∈ (resOf r c [] l).1, f.f2.length ≤ 1048576 := by
  unfold resOf
  cases h : fsOf r c l with
  | none => exact ⟨by simp, fun f hf => by cases hf⟩
  | some fs =>
    simp only [List.nil_append]
    refine ⟨by rw [fsOf_len r c l fs h]; exact hl, ?_⟩
    have key : ∀ (a : List S67) (x : List S27), fsOf r c a = some x → (∀ s ∈ a, s.f2.length ≤ 1048576) → ∀ f ∈ x, f.f2.length ≤ 1048576 := by
      intro a
      induction a with
      | nil => intro x h _; cases h; intro f hf; cases hf
      | cons s t ih =>
        intro x h hs
        unfold fsOf at h
        cases h1 : fOf r c s with
        | none => rw [h1] at h; cases h
        | some v =>
          rw [h1] at h
          simp only at h
          cases h2 : fsOf r c t with
          | none => rw [h2] at h; cases h
          | some y =>
            rw [h2] at h
            cases h
            intro f hf
            rcases List.mem_cons.1 hf with rfl | hf
            · unfold fOf at h1
              cases h3 : valsOf r c s.f2 with
              | none => rw [h3] at h1; cases h1
              | some us =>
                rw [h3] at h1
                cases h1
                show us.length ≤ _
                rw [valsOf_len r c _ _ h3]
                exact hs s List.mem_cons_self
            · exact ih y h2 (fun s hs' => hs s (List.mem_cons_of_mem _ hs')) f hf
    exact key l fs h hs
end Go.Proofs.Ytgbbcjooieggpaa.PureFr
