/- What may come behind what, and the heads, plainly. -/
import Derived.Test.YtmeaepmimnmjlaaMay
namespace Go.Proofs.Ytmeaepmimnmjlaa.Ask
open Go.Proofs.Ytmeaepmimnmjlaa.Dfs Go.Proofs.Ytmeaepmimnmjlaa.Dom Go.Proofs.Ytmeaepmimnmjlaa.DomT Go.RowKit Go.Shelf Go.Proofs.Ytmeaepmimnmjlaa.PGb Go.Proofs.YtmeaepmimnmjlaaW.PrintWords
set_option linter.unusedVariables false
set_option linter.unusedSimpArgs false
section
variable {code : List S40} {hs : List S49} {n m : Nat} {st : List Int} {nx : List (List Int)} {ord l hd : List Int}
theorem GF.block_eq (g : GF code hs n m st nx ord l hd) {x : Int} (hx : x ∈ st) {c : Nat} (hc : c < n) : blockOf st x = (c : Int) ↔ x = rd st (c : Int) := by
  obtain ⟨j, hj, e⟩ := List.getElem_of_mem hx
  have e2 : rd st (j : Int) = x := by simp [rd, hj, e]
  have hb := g.sts.block_start hj
  rw [e2] at hb
  constructor
  · intro h
    have : (j : Int) = (c : Int) := hb.symm.trans h
    rw [← this, e2]
  · intro h
    rw [h]
    exact g.sts.block_start (by rw [g.ln]; exact hc)
theorem GF.may_iff (g : GF code hs n m st nx ord l hd) {b c : Nat} (hb : b < n) (hc : c < n) : (c : Int) ∈ rd_L3 nx (b : Int) ↔ MayBe code hs st b c := by
  have hen := g.end_in hb
  have hin := g.st_in hb
  rw [g.row hb, (tidy_facts _).2, raw_mem]
  unfold MayBe
  rw [or_assoc]
  refine or_congr ?_ (or_congr ?_ ?_)
  · constructor
    · rintro ⟨h1, h2⟩
      exact ⟨h1, (g.block_eq (g.jump_in (g.sts.last (by rw [g.ln]; exact hb)) h1) hc).1 h2.symm⟩
    · rintro ⟨h1, h2⟩
      exact ⟨h1, ((g.block_eq (g.jump_in (g.sts.last (by rw [g.ln]; exact hb)) h1) hc).2 h2).symm⟩
  · constructor
    · rintro ⟨h1, h2, h3⟩
      exact ⟨h1, by omega⟩
    · rintro ⟨h1, h2⟩
      exact ⟨h1, by rw [g.ln]; omega, by omega⟩
  · constructor
    · rintro ⟨h, hh, h1, h2, h3⟩
      obtain ⟨q, hq, e⟩ := List.getElem_of_mem hh
      have hf := g.fit.hnd h hh
      have hf2 := (g.block_eq (g.target_in hh) hc).1 h3.symm
      by_cases hm : rd st (b : Int) ≤ h.f0
      · exact ⟨q, h, h.f0.toNat, hq, by rw [List.getElem?_eq_getElem hq, e], by omega, by omega, by omega, by omega, hf2⟩
      · exact ⟨q, h, (rd st (b : Int)).toNat, hq, by rw [List.getElem?_eq_getElem hq, e], by omega, by omega, by omega, by omega, hf2⟩
    · rintro ⟨q, h, p, hq, hg, h0, h1, h2, h3, h4⟩
      have hh := List.mem_of_getElem? hg
      exact ⟨h, hh, by omega, by omega, ((g.block_eq (g.target_in hh) hc).2 h4).symm⟩
/-- how far a row has been gone through -/
structure AtP (row : List Int) (c k : Nat) : Prop where
  le : k ≤ row.length
  lo : ∀ j : Nat, j < k → rd row (j : Int) < (c : Int)
  hi : ∀ j : Nat, k ≤ j → j < row.length → (c : Int) ≤ rd row (j : Int)
theorem AtP.start (g : GF code hs n m st nx ord l hd) {b : Nat} : AtP (rd_L3 nx (b : Int)) 0 0 := ⟨Nat.zero_le _, fun j hj => by omega, fun j _ hj => (g.nx_in hj).1⟩
theorem AtP.yes {row : List Int} {c k : Nat} (h : AtP row c k) (hr : row.Pairwise (· < ·)) (hk : k < row.length) (e : rd row (k : Int) = (c : Int)) : AtP row (c + 1) (k + 1) := ⟨hk, fun j hj => by
  by_cases e2 : j = k
  · subst e2; omega
  · have := h.lo j (by omega); omega, fun j h1 h2 => by
  have := rise_rd hr (i := k) (j := j) (by omega) h2
  omega⟩
theorem AtP.mem {row : List Int} {c k : Nat} (h : AtP row c k) (hr : row.Pairwise (· < ·)) : (c : Int) ∈ row ↔ (k < row.length ∧ rd row (k : Int) = (c : Int)) := by
  constructor
  · intro hm
    obtain ⟨j, hj, e⟩ := List.getElem_of_mem hm
    have e2 : rd row (j : Int) = (c : Int) := by simp [rd, hj, e]
    have hkj : k ≤ j := by
      refine Classical.byContradiction fun hc => ?_
      have := h.lo j (by omega); omega
    refine ⟨by omega, ?_⟩
    by_cases e3 : j = k
    · subst e3; exact e2
    · have h1 := rise_rd hr (i := k) (j := j) (by omega) hj
      have h2 := h.hi k (Nat.le_refl _) (by omega)
      omega
  · rintro ⟨h1, h2⟩
    rw [← h2]; exact rd_mem h1
theorem AtP.no {row : List Int} {c k : Nat} (h : AtP row c k) (hr : row.Pairwise (· < ·)) (hn : ¬ (k < row.length ∧ rd row (k : Int) = (c : Int))) : AtP row (c + 1) k := ⟨h.le, fun j hj => by have := h.lo j hj; omega, fun j h1 h2 => by
  have h3 := h.hi j h1 h2
  have h4 : rd row (j : Int) ≠ (c : Int) := fun e => hn ((h.mem hr).1 (by rw [← e]; exact rd_mem h2))
  omega⟩
/-- a head for a jump back -/
theorem GF.head_in (g : GF code hs n m st nx ord l hd) {b c : Nat} (hb : b < n) (hc : c < n) (hle : c ≤ b) (hm : MayBe code hs st b c) (hno : ¬ CaughtTo code hs st hs.length b c) : rd st (c : Int) ∈ hd := by
  have hen := g.end_in hb
  have hin := g.st_in hb
  have hic := g.st_in hc
  obtain ⟨h, e, hmk⟩ := g.hde
  rcases hm with (⟨h1, h2⟩ | ⟨_, h2⟩) | h3
  · rw [e]
    have hlt : (endOf code st b - 1).toNat < code.length := by omega
    have hsc : rd st (c : Int) ≤ rd st (b : Int) := by
      by_cases e2 : c = b
      · rw [e2]; exact Int.le_refl _
      · exact Int.le_of_lt (rise_rd g.sts.rise (by omega) (by rw [g.ln]; exact hb))
    refine (idxs_mk hmk _).2 ⟨(rd st (c : Int)).toNat, by omega, by omega, (endOf code st b - 1).toNat, _, hlt, get40 hlt, ?_, ?_, by omega⟩
    · rw [show (((endOf code st b - 1).toNat : Nat) : Int) = endOf code st b - 1 by omega]; exact h1
    · rw [show (((endOf code st b - 1).toNat : Nat) : Int) = endOf code st b - 1 by omega, h2]; omega
  · omega
  · exact absurd h3 hno
/-- a jump back leads to it -/
def LedTo (code : List S40) (k : Nat) (p : Int) : Prop := ∃ (q : Nat) (i : S40), q < k ∧ code[q]? = some i ∧ jumpsP i.f0 = true ∧ i.f1 = p ∧ p ≤ (q : Int)
theorem LedTo_step {code : List S40} {k : Nat} (hk : k < code.length) (p : Int) : LedTo code (k + 1) p ↔ LedTo code k p ∨ (jumpsP (rd_T40 code (k : Int)).f0 = true ∧ (rd_T40 code (k : Int)).f1 = p ∧ p ≤ (k : Int)) := by
  constructor
  · rintro ⟨q, i, hq, hi, hj, e⟩
    by_cases h : q = k
    · subst h
      rw [get40 hk] at hi
      cases hi
      exact .inr ⟨hj, e⟩
    · exact .inl ⟨q, i, by omega, hi, hj, e⟩
  · rintro (⟨q, i, hq, hi, hj, e⟩ | ⟨hj, e⟩)
    · exact ⟨q, i, by omega, hi, hj, e⟩
    · exact ⟨k, _, by omega, get40 hk, hj, e⟩
theorem GF.head_led (g : GF code hs n m st nx ord l hd) {i : Nat} (hi : i < m) : LedTo code code.length (rd hd (i : Int)) := by
  obtain ⟨h, e, hmk⟩ := g.hde
  have hm : rd hd (i : Int) ∈ hd := rd_mem (by rw [g.lm]; exact hi)
  rw [e] at hm
  obtain ⟨p, hp, e2, q, x, hq, hx, hj, h1, h2⟩ := (idxs_mk hmk _).1 hm
  rw [e]
  exact ⟨q, x, hq, hx, hj, by rw [h1, e2], by omega⟩
theorem GF.head_up (g : GF code hs n m st nx ord l hd) {i : Nat} (hi : i + 1 < m) : rd hd (i : Int) < rd hd ((i + 1 : Nat) : Int) := by
  obtain ⟨h, e, _⟩ := g.hde
  have hl := g.lm
  rw [e] at hl ⊢
  exact rise_rd (idxs_rise h) (by omega) (by omega)
end
end Go.Proofs.Ytmeaepmimnmjlaa.Ask
