/- The order of the blocks, plainly. -/
import Derived.Test.YtmeaepmimnmjlaaKf
namespace Go.Proofs.Ytmeaepmimnmjlaa.Ask
open Go.Proofs.Ytmeaepmimnmjlaa.Dfs Go.Proofs.Ytmeaepmimnmjlaa.Dom Go.Proofs.Ytmeaepmimnmjlaa.DomT Go.RowKit Go.Shelf Go.Proofs.Ytmeaepmimnmjlaa.PGb Go.Proofs.YtmeaepmimnmjlaaW.PrintWords
set_option linter.unusedVariables false
set_option linter.unusedSimpArgs false
/-- where each block stands, as far as it is written -/
structure PL (n : Nat) (ord : List Int) (i : Nat) (pl : List Int) : Prop where
  len : pl.length = n
  at_ : ∀ j : Nat, j < i → rd pl (rd ord (j : Int)) = (j : Int)
  off : ∀ x : Nat, x < n → (∀ j : Nat, j < i → rd ord (j : Int) ≠ (x : Int)) → rd pl (x : Int) = -1
section
variable {code : List S40} {hs : List S49} {n m : Nat} {st : List Int} {nx : List (List Int)} {ord l hd : List Int}
theorem rd_left {a b : List Int} {j : Nat} (h : j < a.length) : rd (a ++ b) (j : Int) = rd a (j : Int) := by
  unfold rd
  rw [Int.toNat_natCast, List.getD_eq_getElem?_getD, List.getD_eq_getElem?_getD, List.getElem?_append_left h]
theorem rd_right {a b : List Int} {j : Nat} (h : a.length ≤ j) : rd (a ++ b) (j : Int) = rd b ((j - a.length : Nat) : Int) := by
  unfold rd
  rw [Int.toNat_natCast, Int.toNat_natCast, List.getD_eq_getElem?_getD, List.getD_eq_getElem?_getD, List.getElem?_append_right h]
theorem GF.in_post (g : GF code hs n m st nx ord l hd) {i : Nat} (hi : i < n) : rd ord (i : Int) ∈ post nx ↔ i < (post nx).length := by
  have hl := g.lord
  have e := g.orde
  by_cases h : i < (post nx).length
  · rw [e, rd_left (by rw [List.length_reverse]; exact h)]
    exact ⟨fun _ => h, fun _ => List.mem_reverse.1 (rd_mem (by rw [List.length_reverse]; exact h))⟩
  · have hl2 : (unr nx n).length + (post nx).length = n := by
      have h9 := hl
      rw [e, List.length_append, List.length_reverse] at h9
      omega
    rw [e, rd_right (by rw [List.length_reverse]; omega), List.length_reverse]
    have := (unr_mem nx n _).1 (rd_mem (l := unr nx n) (i := i - (post nx).length) (by omega))
    exact ⟨fun h2 => absurd h2 this.2.2, fun h2 => absurd h2 h⟩
theorem GF.rise_off (g : GF code hs n m st nx ord l hd) {i : Nat} (hi : i + 1 < n) (h : ¬ rd ord (i : Int) ∈ post nx) : rd ord (i : Int) < rd ord ((i + 1 : Nat) : Int) := by
  have hl := g.lord
  have e := g.orde
  rw [g.in_post (by omega)] at h
  have hl2 : (unr nx n).length + (post nx).length = n := by
    have h9 := hl
    rw [e, List.length_append, List.length_reverse] at h9
    omega
  rw [e, rd_right (by rw [List.length_reverse]; omega), rd_right (by rw [List.length_reverse]; omega), List.length_reverse]
  exact rise_rd (unr_rise nx n) (by omega) (by omega)
theorem GF.ord_nodup (g : GF code hs n m st nx ord l hd) : ord.Nodup := by
  rw [g.orde, List.nodup_append]
  refine ⟨((post nx).reverse_perm.nodup_iff).2 (post_nodup nx g.wf), (unr_rise nx n).imp (fun h => by omega), fun a ha b hb e => ?_⟩
  subst e
  exact ((unr_mem nx n a).1 hb).2.2 (List.mem_reverse.1 ha)
theorem GF.ord_ne (g : GF code hs n m st nx ord l hd) {i j : Nat} (hi : i < n) (hj : j < i) : rd ord (j : Int) ≠ rd ord (i : Int) := by
  have hl := g.lord
  have h1 : rd ord (i : Int) = ord[i]'(by omega) := by simp [rd, show i < ord.length by omega]
  have h2 : rd ord (j : Int) = ord[j]'(by omega) := by simp [rd, show j < ord.length by omega]
  rw [h1, h2]
  intro e
  have := (List.getElem_inj g.ord_nodup).1 e
  omega
theorem GF.ord_zero (g : GF code hs n m st nx ord l hd) : rd ord (0 : Int) = 0 := by
  obtain ⟨r, hr⟩ := post_last nx g.wf
  rw [g.orde, hr]
  simp [rd]
theorem PL.start (n : Nat) (ord : List Int) : PL n ord 0 (List.replicate n (-1)) := ⟨List.length_replicate, fun j hj => by omega, fun x hx _ => by simp [rd, List.getD_eq_getElem?_getD, List.getElem?_replicate, hx]⟩
theorem PL.fresh (g : GF code hs n m st nx ord l hd) {i : Nat} {pl : List Int} (h : PL n ord i pl) (hi : i < n) : rd pl (rd ord (i : Int)) = -1 := by
  have hb := g.ord_in hi
  have e : ((rd ord (i : Int)).toNat : Int) = rd ord (i : Int) := by omega
  rw [← e]
  exact h.off _ (by omega) (fun j hj => by rw [e]; exact g.ord_ne hi hj)
theorem rd_set2 {l : List Int} {b : Nat} {v : Int} (hb : b < l.length) (x : Nat) : rd (l.set b v) (x : Int) = if b = x then v else rd l (x : Int) := by
  unfold rd
  rw [Int.toNat_natCast, List.getD_eq_getElem?_getD, List.getD_eq_getElem?_getD, List.getElem?_set]
  by_cases h : b = x
  · rw [if_pos h, if_pos hb, if_pos h]; rfl
  · rw [if_neg h, if_neg h]
theorem PL.put (g : GF code hs n m st nx ord l hd) {i : Nat} {pl : List Int} (h : PL n ord i pl) (hi : i < n) : PL n ord (i + 1) (pl.set (rd ord (i : Int)).toNat (i : Int)) := by
  have hb := g.ord_in hi
  have hl := h.len
  refine ⟨by rw [List.length_set]; exact hl, fun j hj => ?_, fun x hx hne => ?_⟩
  · have hbj := g.ord_in (b := j) (by omega)
    rw [show rd ord (j : Int) = ((rd ord (j : Int)).toNat : Int) by omega, rd_set2 (by omega)]
    by_cases e : j = i
    · subst e; rw [if_pos rfl]
    · have hn := g.ord_ne hi (show j < i by omega)
      rw [if_neg (by omega), show ((rd ord (j : Int)).toNat : Int) = rd ord (j : Int) by omega]
      exact h.at_ j (by omega)
  · rw [rd_set2 (by omega)]
    have := hne i (by omega)
    rw [if_neg (by omega)]
    exact h.off x hx (fun j hj => hne j (by omega))
/-- where a reached block stands -/
theorem PL.post (g : GF code hs n m st nx ord l hd) {pl : List Int} (h : PL n ord n pl) {x : Int} (hx : x ∈ Dfs.post nx) : rd pl x = (posx nx x : Int) := by
  have h1 : (Dfs.post nx).reverse.idxOf x < (Dfs.post nx).reverse.length := List.idxOf_lt_length_iff.2 (List.mem_reverse.2 hx)
  have hlt : posx nx x < n := by have := pos_lt g.wf hx; rw [g.lnx] at this; exact this
  have e : rd ord ((posx nx x : Nat) : Int) = x := by
    have h2 : posx nx x < (Dfs.post nx).reverse.length := h1
    rw [g.orde, rd_left h2]
    have := List.getElem_idxOf h1
    unfold rd
    rw [Int.toNat_natCast, List.getD_eq_getElem?_getD, List.getElem?_eq_getElem h2]
    exact this
  have := h.at_ (posx nx x) hlt
  rw [e] at this
  exact this
/-- what may come behind a block stands behind it, unless a way leads back -/
theorem edge_pos (hw : Wf nx) {b c : Int} (hb : b ∈ post nx) (hc : c ∈ nb nx b) : c ∈ post nx ∧ (posx nx b < posx nx c ∨ Dfs.Reach nx c b) := by
  have hn := post_nodup nx hw
  obtain ⟨pre, r, he⟩ := List.append_of_mem hb
  obtain ⟨h1, h2⟩ := post_edge nx hw he hc
  refine ⟨h2, ?_⟩
  rcases h1 with h1 | h1
  · left
    obtain ⟨p1, p2, e⟩ := List.append_of_mem h1
    have e2 : post nx = p1 ++ c :: (p2 ++ b :: r) := by rw [he, e]; simp
    have q1 : posx nx b = r.length := by unfold posx; rw [he]; exact idx_split (he ▸ hn)
    have q2 : posx nx c = (p2 ++ b :: r).length := by unfold posx; rw [e2]; exact idx_split (e2 ▸ hn)
    rw [q1, q2]; simp; omega
  · exact .inr h1
end
end Go.Proofs.Ytmeaepmimnmjlaa.Ask
