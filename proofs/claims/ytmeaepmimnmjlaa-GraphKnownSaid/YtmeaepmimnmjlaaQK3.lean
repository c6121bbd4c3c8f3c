/- Proved: GraphKnown (closed): the examples of the chapter, handlers at the ends of the code, a row of 100 blocks: the law returns true. -/
import Derived.Test.YtmeaepmimnmjlaaQK2
import Derived.Test.YtmeaepmimnmjlaaRows
/- Two graphs, plainly: the chapter's example, and a row of blocks. -/
namespace Go.Proofs.Ytmeaepmimnmjlaa.Ask
open Go.Proofs.Ytmeaepmimnmjlaa.Dfs Go.Proofs.Ytmeaepmimnmjlaa.Dom Go.Proofs.Ytmeaepmimnmjlaa.DomT Go.RowKit Go.Shelf Go.Proofs.Ytmeaepmimnmjlaa.PGb Go.Proofs.YtmeaepmimnmjlaaW.PrintWords
set_option linter.unusedVariables false
set_option linter.unusedSimpArgs false
def code6 : List S40 := [⟨2, 0⟩, ⟨41, 4⟩, ⟨0, 0⟩, ⟨40, 0⟩, ⟨1, 0⟩, ⟨44, 0⟩]
theorem fits6 : FitsP code6 [] := by
  refine ⟨by decide, fun i hi hj => ?_, fun h hh => by cases hh⟩
  simp only [code6, List.mem_cons, List.not_mem_nil, or_false] at hi
  rcases hi with rfl | rfl | rfl | rfl | rfl | rfl <;> first | (exact absurd hj (by decide)) | decide
theorem why6 (p : Nat) : StP code6 [] p ↔ p = 0 ∨ p = 2 ∨ p = 4 ∨ p = 6 := by
  constructor
  · rintro (h | ⟨x, hx, _⟩)
    · rcases h with h | ⟨q, i, hq, hi, hw⟩
      · exact .inl h
      · match q, hi with
        | 0, hi => cases hi; rcases hw with ⟨h1, _⟩ | ⟨h1, _⟩ <;> exact absurd h1 (by decide)
        | 1, hi => cases hi; rcases hw with ⟨_, h2⟩ | ⟨_, h2⟩ <;> simp at h2 <;> omega
        | 2, hi => cases hi; rcases hw with ⟨h1, _⟩ | ⟨h1, _⟩ <;> exact absurd h1 (by decide)
        | 3, hi => cases hi; rcases hw with ⟨_, h2⟩ | ⟨_, h2⟩ <;> simp at h2 <;> omega
        | 4, hi => cases hi; rcases hw with ⟨h1, _⟩ | ⟨h1, _⟩ <;> exact absurd h1 (by decide)
        | 5, hi => cases hi; rcases hw with ⟨_, h2⟩ | ⟨h1, _⟩
                   · omega
                   · exact absurd h1 (by decide)
        | n + 6, hi => simp [code6] at hi
    · cases hx
  · rintro (rfl | rfl | rfl | rfl)
    · exact .inl (.inl rfl)
    · exact .inl (.inr ⟨1, ⟨41, 4⟩, by decide, rfl, .inl ⟨by decide, rfl⟩⟩)
    · exact .inl (.inr ⟨3, ⟨40, 0⟩, by decide, rfl, .inl ⟨by decide, rfl⟩⟩)
    · exact .inl (.inr ⟨5, ⟨44, 0⟩, by decide, rfl, .inl ⟨by decide, rfl⟩⟩)
section
variable {n m : Nat} {st : List Int} {nx : List (List Int)} {ord l hd : List Int}
theorem known6 (g : GF code6 [] n m st nx ord l hd) : st = [0, 2, 4] ∧ nx = [[1, 2], [0], []] ∧ ord = [0, 2, 1] ∧ l = [-1, 0, 0] ∧ hd = [0] := by
  have hst : st = [0, 2, 4] := by
    have h := g.starts_upTo
    rw [← h]
    show upTo (StP code6 []) 6 = _
    have w := why6
    rw [upTo_no (k := 5) (by rw [w]; omega), upTo_yes (k := 4) (by rw [w]; omega), upTo_no (k := 3) (by rw [w]; omega), upTo_yes (k := 2) (by rw [w]; omega), upTo_no (k := 1) (by rw [w]; omega), upTo_yes (k := 0) (by rw [w]; omega)]
    rfl
  subst hst
  have hn : n = 3 := by have := g.ln; simpa using this.symm
  subst hn
  have row : ∀ b : Nat, b < 3 → ∀ c : Nat, c < 3 → ((c : Int) ∈ rd_L3 nx (b : Int) ↔ (((jumpsP (rd_T40 code6 (endOf code6 [0, 2, 4] b - 1)).f0 = true ∧ (rd_T40 code6 (endOf code6 [0, 2, 4] b - 1)).f1 = rd [0, 2, 4] (c : Int)) ∨ (c = b + 1 ∧ stopsP (rd_T40 code6 (endOf code6 [0, 2, 4] b - 1)).f0 = false)))) := fun b hb c hc => by
    rw [g.row_iff hb hc]
    constructor
    · rintro (h | ⟨q, x, hq, _⟩)
      · exact h
      · exact absurd hq (Nat.not_lt_zero _)
    · exact .inl
  have r0 : rd_L3 nx ((0 : Nat) : Int) = [1, 2] := by
    rw [← g.row_upTo (b := 0) (by decide)]
    rw [upTo_yes (k := 2) ((row 0 (by decide) 2 (by decide)).2 (.inl ⟨by decide, by decide⟩)), upTo_yes (k := 1) ((row 0 (by decide) 1 (by decide)).2 (.inr ⟨by decide, by decide⟩)), upTo_no (k := 0) (fun h => by
      rcases (row 0 (by decide) 0 (by decide)).1 h with ⟨_, h⟩ | ⟨h, _⟩
      · exact absurd h (by decide)
      · exact absurd h (by decide))]
    rfl
  have r1 : rd_L3 nx ((1 : Nat) : Int) = [0] := by
    rw [← g.row_upTo (b := 1) (by decide)]
    rw [upTo_no (k := 2) (fun h => by
      rcases (row 1 (by decide) 2 (by decide)).1 h with ⟨_, h⟩ | ⟨_, h⟩ <;> exact absurd h (by decide)), upTo_no (k := 1) (fun h => by
      rcases (row 1 (by decide) 1 (by decide)).1 h with ⟨_, h⟩ | ⟨h, _⟩ <;> exact absurd h (by decide)), upTo_yes (k := 0) ((row 1 (by decide) 0 (by decide)).2 (.inl ⟨by decide, by decide⟩))]
    rfl
  have r2 : rd_L3 nx ((2 : Nat) : Int) = [] := by
    rw [← g.row_upTo (b := 2) (by decide)]
    rw [upTo_no (k := 2) (fun h => by
      rcases (row 2 (by decide) 2 (by decide)).1 h with ⟨h, _⟩ | ⟨h, _⟩ <;> exact absurd h (by decide)), upTo_no (k := 1) (fun h => by
      rcases (row 2 (by decide) 1 (by decide)).1 h with ⟨h, _⟩ | ⟨h, _⟩ <;> exact absurd h (by decide)), upTo_no (k := 0) (fun h => by
      rcases (row 2 (by decide) 0 (by decide)).1 h with ⟨h, _⟩ | ⟨h, _⟩ <;> exact absurd h (by decide))]
    rfl
  have hnx : nx = [[1, 2], [0], []] := by
    have hl := g.lnx
    match nx, hl, r0, r1, r2 with
    | [a, b, c], _, r0, r1, r2 =>
      have e0 : a = [1, 2] := r0
      have e1 : b = [0] := r1
      have e2 : c = [] := r2
      rw [e0, e1, e2]
  subst hnx
  have hpost : post [[1, 2], [0], []] = [1, 2, 0] := by decide
  have hord : ord = [0, 2, 1] := by
    have := g.orde
    rw [hpost] at this
    rw [this]
    have hu : unr [[1, 2], [0], []] 3 = [] := by
      unfold unr
      rw [hpost]
      decide
    rw [hu]; rfl
  have hw := g.wf
  have e01 : AR (Ex [[1, 2], [0], []]) 2 1 := .step (.zero (by decide)) ⟨by rw [hpost]; decide, by decide⟩ (by decide)
  have hu1 := g.dom.up 1 (by rw [hpost]; decide) (by decide)
  have hu2 := g.dom.up 2 (by rw [hpost]; decide) (by decide)
  have hz := g.dom.zero
  have hl3 : l.length = 3 := g.ll
  have d2 : rd l 2 = 0 := by
    obtain ⟨h1, h2⟩ := hu2
    unfold posx at h2
    rw [hpost] at h1 h2
    simp only [List.mem_cons, List.not_mem_nil, or_false] at h1
    rcases h1 with h | h | h
    · rw [h] at h2; exact absurd h2 (by decide)
    · rw [h] at h2; exact absurd h2 (by decide)
    · exact h
  have d1 : rd l 1 = 0 := by
    obtain ⟨h1, h2⟩ := hu1
    unfold posx at h2
    have ha := g.dom.anc 1 (by rw [hpost]; decide) 2
    rw [hpost] at h1 h2
    simp only [List.mem_cons, List.not_mem_nil, or_false] at h1
    rcases h1 with h | h | h
    · rw [h] at h2; exact absurd h2 (by decide)
    · exact absurd e01 (ha.1 (.step (by rw [h]; decide) (by rw [h]; exact .refl 2)))
    · exact h
  have hll : l = [-1, 0, 0] := by
    match l, hl3, hz, d1, d2 with
    | [a, b, c], _, hz, d1, d2 =>
      have e0 : a = -1 := hz
      have e1 : b = 0 := d1
      have e2 : c = 0 := d2
      rw [e0, e1, e2]
  have hhd : hd = [0] := by
    obtain ⟨h, e, hm⟩ := g.hde
    have hr := idxs_rise h
    rw [← e] at hr
    refine rise_ext _ _ hr (List.pairwise_singleton _ _) (fun x => ?_)
    rw [e, idxs_mk hm, List.mem_singleton]
    constructor
    · rintro ⟨p, hp, rfl, q, i, hq, hi, hj, h1, h2⟩
      match q, hi with
      | 0, hi => cases hi; exact absurd hj (by decide)
      | 1, hi => cases hi; simp at h1; omega
      | 2, hi => cases hi; exact absurd hj (by decide)
      | 3, hi => cases hi; simp at h1; omega
      | 4, hi => cases hi; exact absurd hj (by decide)
      | 5, hi => cases hi; exact absurd hj (by decide)
      | n + 6, hi => simp [code6] at hi
    · rintro rfl
      exact ⟨0, by decide, rfl, 3, ⟨40, 0⟩, by decide, rfl, by decide, rfl, by decide⟩
  exact ⟨rfl, rfl, hord, hll, hhd⟩
end
/-! a row of blocks -/
def rowC (k : Nat) : List S40 := List.replicate k ⟨61, 0⟩
theorem rowC_at {k q : Nat} {i : S40} (h : (rowC k)[q]? = some i) : q < k ∧ i = ⟨61, 0⟩ := by
  unfold rowC at h
  rw [List.getElem?_replicate] at h
  split at h
  · cases h; exact ⟨by assumption, rfl⟩
  · cases h
theorem rowC_get {k q : Nat} (h : q < k) : (rowC k)[q]? = some ⟨61, 0⟩ := by unfold rowC; rw [List.getElem?_replicate, if_pos h]
theorem rowC_len (k : Nat) : (rowC k).length = k := List.length_replicate
theorem fitsR {k : Nat} (hk : 0 < k) : FitsP (rowC k) [] := by
  refine ⟨by rw [rowC_len]; exact hk, fun i hi hj => ?_, fun h hh => by cases hh⟩
  obtain ⟨q, hq, e⟩ := List.getElem_of_mem hi
  obtain ⟨_, e2⟩ := rowC_at (k := k) (q := q) (i := i) (by rw [List.getElem?_eq_getElem hq, e])
  subst e2
  exact absurd hj (by decide)
theorem whyR {k p : Nat} (hp : p < k) : StP (rowC k) [] p := by
  refine .inl ?_
  by_cases h0 : p = 0
  · exact .inl h0
  · exact .inr ⟨p - 1, ⟨61, 0⟩, by rw [rowC_len]; omega, rowC_get (by omega), .inl ⟨by decide, by omega⟩⟩
def down : Nat → List Int
  | 0 => []
  | j + 1 => (j : Int) :: down j
theorem down_len : ∀ j, (down j).length = j
  | 0 => rfl
  | j + 1 => by rw [down, List.length_cons, down_len j]
section
variable {n m k : Nat} {st : List Int} {nx : List (List Int)} {ord l hd : List Int}
theorem knownR (hk : 0 < k) (g : GF (rowC k) [] n m st nx ord l hd) : n = k ∧ ∀ b : Nat, b < k → rd l (b : Int) = (b : Int) - 1 := by
  have hst : st = (List.range k).map fun (p : Nat) => (p : Int) := by
    have h := g.starts_upTo
    rw [← h, rowC_len]
    unfold upTo
    congr 1
    rw [List.filter_eq_self]
    intro p hp
    simpa using whyR (List.mem_range.1 hp)
  have hn : n = k := by rw [← g.ln, hst]; simp
  subst hn
  refine ⟨rfl, ?_⟩
  have hrd : ∀ c : Nat, c < n → rd st (c : Int) = (c : Int) := fun c hc => by
    rw [hst]; simp [rd, hc]
  have hend : ∀ b : Nat, b < n → endOf (rowC n) st b = (b : Int) + 1 := fun b hb => by
    unfold endOf
    rw [g.ln, rowC_len]
    split
    · rename_i h; rw [hrd _ h]; omega
    · omega
  have hget : ∀ b : Nat, b < n → rd_T40 (rowC n) (endOf (rowC n) st b - 1) = ⟨61, 0⟩ := fun b hb => by
    rw [hend b hb, show (b : Int) + 1 - 1 = (b : Int) by omega]
    unfold rd_T40
    rw [Int.toNat_natCast, List.getD_eq_getElem?_getD, rowC_get hb]; rfl
  have row : ∀ b : Nat, b < n → ∀ c : Nat, c < n → ((c : Int) ∈ rd_L3 nx (b : Int) ↔ c = b + 1) := fun b hb c hc => by
    rw [g.row_iff hb hc, hget b hb]
    constructor
    · rintro ((⟨h, _⟩ | ⟨h, _⟩) | ⟨q, x, hq, _⟩)
      · exact absurd h (by decide)
      · exact h
      · exact absurd hq (Nat.not_lt_zero _)
    · rintro rfl
      exact .inl (.inr ⟨rfl, by decide⟩)
  have hw := g.wf
  have nbr : ∀ (b : Nat), b < n → ∀ x : Int, x ∈ nb nx (b : Int) → x = (b : Int) + 1 := fun b hb x hx => by
    have hin := hw.in_ _ _ hx
    rw [g.lnx] at hin
    have := (row b hb x.toNat (by omega)).1 (by rw [show ((x.toNat : Nat) : Int) = x by omega]; exact hx)
    omega
  have nbs : ∀ (b : Nat), b + 1 < n → ((b + 1 : Nat) : Int) ∈ nb nx (b : Int) := fun b hb => (row b (by omega) (b + 1) hb).2 rfl
  have inp : ∀ b : Nat, b < n → (b : Int) ∈ post nx := by
    intro b
    induction b with
    | zero => exact fun _ => post_zero nx hw
    | succ b ih => exact fun hb => (post_mem nx hw _).2 (.step ((post_mem nx hw _).1 (ih (by omega))) (nbs b hb))
  have inR : ∀ x : Int, x ∈ post nx → 0 ≤ x ∧ x < (n : Int) := fun x hx => by
    have := post_bound nx hw hx
    rw [g.lnx] at this; exact this
  have arl : ∀ d x : Int, AR (Ex nx) d x → d < 0 ∨ x < d := by
    intro d x h
    induction h with
    | zero h => omega
    | step h1 he hne ih =>
      rename_i a b
      have ha := inR a he.1
      have := nbr a.toNat (by omega) b (by rw [show ((a.toNat : Nat) : Int) = a by omega]; exact he.2)
      omega
  have arr : ∀ (d : Int) (x : Nat), x < n → (x : Int) < d → AR (Ex nx) d (x : Int) := by
    intro d x
    induction x with
    | zero => exact fun _ h => .zero (by omega)
    | succ x ih => exact fun hx h => .step (ih (by omega) (by omega)) ⟨inp x (by omega), nbs x hx⟩ (by omega)
  intro b hb
  by_cases h0 : b = 0
  · subst h0
    exact g.dom.zero
  · obtain ⟨h1, h2⟩ := g.dom.up (b : Int) (inp b hb) (by omega)
    have hd0 := inR _ h1
    have hne : rd l (b : Int) ≠ (b : Int) := fun e => by rw [e] at h2; omega
    have h3 : ¬ AR (Ex nx) (rd l (b : Int)) (b : Int) := (g.dom.anc (b : Int) (inp b hb) _).1 (.step hd0.1 (.refl _))
    have h4 : ¬ ((b : Int) < rd l (b : Int)) := fun h => h3 (arr _ b hb h)
    have h5 : Anc (rd l) (b : Int) ((b : Int) - 1) := (g.dom.anc (b : Int) (inp b hb) _).2 (fun h => by have := arl _ _ h; omega)
    have h6 : Anc (rd l) (rd l (b : Int)) ((b : Int) - 1) := by
      generalize hy : (b : Int) - 1 = y at h5
      cases h5 with
      | refl => omega
      | step _ h => exact h
    have h7 := (g.dom.anc _ h1 _).1 h6
    refine Classical.byContradiction fun hx => h7 ?_
    have := arr ((b : Int) - 1) (rd l (b : Int)).toNat (by omega) (by omega)
    rwa [show (((rd l (b : Int)).toNat : Nat) : Int) = rd l (b : Int) by omega] at this
theorem doms_down (hl : l.length = k) (hr : ∀ b : Nat, b < k → rd l (b : Int) = (b : Int) - 1) : ∀ (b f : Nat), b < k → b + 1 ≤ f → doms l f (b : Int) = down (b + 1) := by
  intro b
  induction b with
  | zero =>
    intro f hb hf
    obtain ⟨f, rfl⟩ : ∃ f', f = f' + 1 := ⟨f - 1, by omega⟩
    rw [doms, if_pos (by omega), hr 0 hb]
    cases f with
    | zero => rfl
    | succ f => rw [doms, if_neg (by omega)]; rfl
  | succ b ih =>
    intro f hb hf
    obtain ⟨f, rfl⟩ : ∃ f', f = f' + 1 := ⟨f - 1, by omega⟩
    rw [doms, if_pos (by omega), hr _ hb, show ((b + 1 : Nat) : Int) - 1 = (b : Int) by omega, ih f (by omega) (by omega)]
    rfl
end
end Go.Proofs.Ytmeaepmimnmjlaa.Ask
-- written by a program of this session (leafprint.py, cutsec.py) over the translation; Lean checks it
namespace Go.Proofs.Ytmeaepmimnmjlaa.PGb
open Go.RowKit Go.Proofs.YtmeaepmimnmjlaaW.PrintWords Go.Proofs.YtmeaepmimnmjlaaW.PrintLast Go.Proofs.YtmeaepmimnmjlaaW.PrintMore
attribute [local go_sem] max2_int min2_int max_two min_two max_three min_three max_four min_four   -- for this text's walks alone
set_option linter.unusedVariables false
set_option linter.unusedSimpArgs false

/-! ### portagelaw09_code: function 30 -/
def portagelaw09_code.l0 : Nat → List Int → List Int → Int → ByteArray → Int → Int → List (S40) → Option (ByteArray × Int × Int × (List (S40)) × (List (S49)))
  | 0, _, _, _, _, _, _, _ => none
  | k + 1, x0, x1, x6, x890000, x890001, x890002, x890003 => if x6 < (x0.length : Int) then (if 0 ≤ x6 then (if x6 < (x1.length : Int) then (if x890003.length < 8796093022208 then (portagelaw09_code.l0 k x0 x1 (wrap64 (x6 + 1)) x890000 x890001 x890002 (x890003 ++ [(⟨rd x0 x6, rd x1 x6⟩ : S40)])) else (none)) else (none)) else (none)) else (some (x890000, x890001, x890002, x890003, ([] : List (S49))))
def portagelaw09_code.f (k : Nat) (l0 : List Int) (l1 : List Int) : Option (ByteArray × Int × Int × (List (S40)) × (List (S49))) := portagelaw09_code.l0 k l0 l1 0 (⟨#[102]⟩ : ByteArray) 0 0 ([] : List (S40))
theorem portagelaw09_code.mono_l : ∀ k, (∀ y0 y1 y2 y3 y4 y5 y6, LeO (portagelaw09_code.l0 k y0 y1 y2 y3 y4 y5 y6) (portagelaw09_code.l0 (k + 1) y0 y1 y2 y3 y4 y5 y6))
  | 0 => fun _ _ _ _ _ _ _ r h => by simp [portagelaw09_code.l0] at h
  | k + 1 => by
    have ih0 := portagelaw09_code.mono_l k
    · intro y0 y1 y2 y3 y4 y5 y6
      unfold portagelaw09_code.l0
      repeat' first
      | (with_reducible exact ih0 _ _ _ _ _ _ _)
      | (with_reducible exact LeO.refl _)
      | (with_reducible exact LeO.none _)
      | (with_reducible refine LeO.ite ?_ ?_)
      | (with_reducible refine LeO.bind ?_ (fun _ => ?_))
      | exact ih0 _ _ _ _ _ _ _
      | exact LeO.none _
      | refine LeO.ite ?_ ?_
      | refine LeO.bind ?_ (fun _ => ?_)
theorem portagelaw09_code.mono : ∀ a0 a1 k, LeO (portagelaw09_code.f k a0 a1) (portagelaw09_code.f (k + 1) a0 a1) := by
 intro a0 a1 k; have ih0 := portagelaw09_code.mono_l k; unfold portagelaw09_code.f; repeat' first
  | (with_reducible exact ih0 _ _ _ _ _ _ _)
  | (with_reducible exact LeO.refl _)
  | (with_reducible exact LeO.none _)
  | (with_reducible refine LeO.ite ?_ ?_)
  | (with_reducible refine LeO.bind ?_ (fun _ => ?_))
  | exact ih0 _ _ _ _ _ _ _
  | exact LeO.none _
  | refine LeO.ite ?_ ?_
  | refine LeO.bind ?_ (fun _ => ?_)
def portagelaw09_code.T5 : Bool × List (List Nat × List Nat) := (true, [([], []), ([0], [0]), ([], []), ([], []), ([2, 3], [2, 3]), ([4], [4]), ([], []), ([], []), ([6, 7], [6, 7]), ([8], [8]), ([5, 9], [5, 9]), ([10], [10]), ([1, 11], [1, 11]), ([0, 1, 2, 3, 4, 5, 6, 7, 8, 9, 10, 11, 12], []), ([13, 12, 12, 0, 1, 2, 3, 4, 5, 6, 7, 8, 9, 10, 11, 12], [12, 13])])
def portagelaw09_code.B5 : List Nat := [0, 1, 0, 0, 12, 28, 0, 0, 192, 448, 1020, 2044, 4095, 8191, 16383]
theorem portagelaw09_code.tab5 : rtab .any (opsOf Try.f30 5) = portagelaw09_code.T5 := by kernel_rfl
theorem portagelaw09_code.bits5 : waitsOk portagelaw09_code.T5.2 portagelaw09_code.B5 = true := by kernel_rfl
set_option maxHeartbeats 8000000 in
set_option maxRecDepth 100000 in
theorem portagelaw09_code.calls (k : Nat) (A0 : Option Addr) (c0 : Nat) (l0 : List Int) (A1 : Option Addr) (c1 : Nat) (l1 : List Int) (r1 : ByteArray) (r2 : Int) (r3 : Int) (r4 : List (S40)) (r5 : List (S49)) (w : World) (hr0 : Kd.C (Kd.int .i64) w A0 l0.length l0) (hc0 : l0.length ≤ c0) (hr1 : Kd.C (Kd.int .i64) w A1 l1.length l1) (hc1 : l1.length ≤ c1) (h : portagelaw09_code.f k l0 l1 = some (r1, r2, r3, r4, r5)) :
    Calls Try.prog 30 #[.slice A0 l0.length c0, .slice A1 l1.length c1] w fun e w' => ∃ v3_ v4_ : Value, e = .returned (.agg #[.string r1, .int .i64 r2, .int .i64 r3, v3_, v4_]) ∧ Kd.R k40 40 w' w.heap.size (fun _ => True) v3_ r4 ∧ Kd.R k49 49 w' w.heap.size (fun _ => True) v4_ r5 ∧ Below w.heap.size w w' := by
 have hu25 := Try.underlying25; have hu40 := Try.underlying40; have HR0 := Aside0.mk hr0; have HC0 := Aside0.mk hc0; clear hr0 hc0; have HR1 := Aside0.mk hr1; have HC1 := Aside0.mk hc1; clear hr1 hc1; have HB := Aside0.mk (Below.refl w.heap.size w); have H : (portagelaw09_code.l0 k l0 l1 0 (⟨#[102]⟩ : ByteArray) 0 0 ([] : List (S40))) = some (r1, r2, r3, r4, r5) := h; clear h; have H' := Aside0.mk H; clear H; go_enter Try.func30, Try.ntmps30; go_wp2_with (first | ((with_reducible refine gate_dst (N := 4) rfl ?_); refine box_event ?hg (N := 4) ?hd (cs := #[.string (⟨#[]⟩ : ByteArray), .int .i64 0, .int .i64 0, .slice none 0 0, .slice none 0 0]) (t := 25) ?hr ?_; (case hd => rfl); (case hg => rfl); (case hr => first | (go_simp; done) | (go_simp; rfl)); intro gb888 hg w3 hbox hb; have n0_ := Aside0.mk (below_step (by repeat (first | (with_reducible first | exact HB.out | apply below_alloc | apply pw_below_drewN | apply below_drew1) | exact HB.out)) hb); have n1_ := Aside0.mk (hbox); have n2_ := Aside0.mk ((by rw [hg]; exact (below_size (by repeat (first | (with_reducible first | exact HB.out | apply below_alloc | apply pw_below_drewN | apply below_drew1) | exact HB.out))) : w.heap.size ≤ gb888)); have n3_ := Aside0.mk ((by rw [hg]; exact (below_size (by repeat (first | (with_reducible first | exact HB.out | apply below_alloc | apply pw_below_drewN | apply below_drew1) | exact HB.out))) : w.heap.size ≤ gb888)); clear HB; have HB := n0_; have BK888 := n1_; have GW888 := n2_; have GE888 := n3_; clear n0_ n1_ n2_ n3_; clear hb hbox hg) | ((with_reducible refine gate_dst (N := 5) rfl ?_); refine box_event ?hg (N := 5) ?hd (cs := #[.string (⟨#[]⟩ : ByteArray), .int .i64 0, .int .i64 0, .slice none 0 0, .slice none 0 0]) (t := 25) ?hr ?_; (case hd => rfl); (case hg => rfl); (case hr => first | (go_simp; done) | (go_simp; rfl)); intro gb889 hg w4 hbox hb; have n0_ := Aside0.mk (blk_below (g := gb888) (o := .cells #[.string (⟨#[]⟩ : ByteArray), .int .i64 0, .int .i64 0, .slice none 0 0, .slice none 0 0] 25 (0, 0)) (by (with_reducible repeat (first | refine blk_drewN ?_ _ | refine blk_drew ?_ | refine blk_alloc ?_ _)); exact BK888.out) hb); have n1_ := Aside0.mk (below_step (by repeat (first | (with_reducible first | exact HB.out | apply below_alloc | apply pw_below_drewN | apply below_drew1 | refine below_set ?_ GE888.out) | exact HB.out)) hb); have n2_ := Aside0.mk (hbox); have n3_ := Aside0.mk ((by rw [hg]; exact (below_size (by repeat (first | (with_reducible first | exact HB.out | apply below_alloc | apply pw_below_drewN | apply below_drew1 | refine below_set ?_ GE888.out) | exact HB.out))) : w.heap.size ≤ gb889)); have n4_ := Aside0.mk ((by rw [hg]; exact (below_size (by repeat (first | (with_reducible first | exact HB.out | apply below_alloc | apply pw_below_drewN | apply below_drew1 | refine below_set ?_ GE888.out) | exact HB.out))) : w.heap.size ≤ gb889)); have n5_ := Aside0.mk ((by rw [hg]; exact Nat.ne_of_lt (blk_lt (g := gb888) (o := .cells #[.string (⟨#[]⟩ : ByteArray), .int .i64 0, .int .i64 0, .slice none 0 0, .slice none 0 0] 25 (0, 0)) (by (with_reducible repeat (first | refine blk_drewN ?_ _ | refine blk_drew ?_ | refine blk_alloc ?_ _)); exact BK888.out)) : gb888 ≠ gb889)); have n6_ := Aside0.mk ((by rw [hg]; exact Nat.ne_of_gt (blk_lt (g := gb888) (o := .cells #[.string (⟨#[]⟩ : ByteArray), .int .i64 0, .int .i64 0, .slice none 0 0, .slice none 0 0] 25 (0, 0)) (by (with_reducible repeat (first | refine blk_drewN ?_ _ | refine blk_drew ?_ | refine blk_alloc ?_ _)); exact BK888.out)) : gb889 ≠ gb888)); clear BK888; clear HB; have BK888 := n0_; have HB := n1_; have BK889 := n2_; have GW889 := n3_; have GE889 := n4_; have NB888_889 := n5_; have NB889_888 := n6_; clear n0_ n1_ n2_ n3_ n4_ n5_ n6_; clear hb hbox hg; have hnb5 := NB889_888.out; have hnc5 := NB888_889.out; have hcz6_0 : w4.cell? ⟨gb889, 0, none⟩ = some (.string (⟨#[]⟩ : ByteArray)) := (blk_cell BK889.out 0).trans rfl; have hcz6_1 : w4.cell? ⟨gb889, 1, none⟩ = some (.int .i64 0) := (blk_cell BK889.out 1).trans rfl; have hcz6_2 : w4.cell? ⟨gb889, 2, none⟩ = some (.int .i64 0) := (blk_cell BK889.out 2).trans rfl; have hcz6_3 : w4.cell? ⟨gb889, 3, none⟩ = some (.slice none 0 0) := (blk_cell BK889.out 3).trans rfl; have hcz6_4 : w4.cell? ⟨gb889, 4, none⟩ = some (.slice none 0 0) := (blk_cell BK889.out 4).trans rfl; have hfz6_0 := blk_frozen BK889.out 0; have hfz6_1 := blk_frozen BK889.out 1; have hfz6_2 := blk_frozen BK889.out 2; have hfz6_3 := blk_frozen BK889.out 3; have hfz6_4 := blk_frozen BK889.out 4))
 go_loopg [6] k (fun kq v6 w' => ∃ (x6_1 : Int) (x890003_1 : List (S40)) (u890003 : Value), v6 = .int .i64 x6_1 ∧ Aside0 (portagelaw09_code.l0 kq l0 l1 x6_1 (⟨#[102]⟩ : ByteArray) 0 0 x890003_1 = some (r1, r2, r3, r4, r5)) ∧ Aside0 (kq ≤ k) ∧ Aside0 (Kd.R k40 40 w' w.heap.size (fun _ => True) u890003 x890003_1) ∧ Aside0 (w'.heap[gb888]? = some (.cells #[.string (⟨#[]⟩ : ByteArray), .int .i64 0, .int .i64 0, (.slice none 0 0), (.slice none 0 0)] 25 (0, 0))) ∧ Aside0 (w'.heap[gb889]? = some (.cells #[.string (⟨#[102]⟩ : ByteArray), .int .i64 0, .int .i64 0, u890003, (.slice none 0 0)] 25 (0, 0))) ∧ Aside0 (Below w.heap.size w w'))
 case atStart => exact ⟨(0), (([] : List (S40))), (.slice none 0 0), (by first | rfl | (simp; done) | (simp [*]; done)), H', ⟨Nat.le_refl _⟩, ⟨by first | exact Kd.R_nil _ _ _ _ _ | exact Kd.N_nil _ _ _ _ _ | exact Kd.V_nil _ _ _ _ _ | exact Kd.Q_nil _ _ _ _ _ | exact Kd.S_nil _ _ _ _ _⟩, ⟨by (with_reducible repeat (first | refine blk_drewN ?_ _ | refine blk_drew ?_ | refine blk_alloc ?_ _)); refine blk_far ?_ NB888_889.out _; (with_reducible repeat (first | refine blk_drewN ?_ _ | refine blk_drew ?_ | refine blk_alloc ?_ _)); refine blk_far ?_ NB888_889.out _; (with_reducible repeat (first | refine blk_drewN ?_ _ | refine blk_drew ?_ | refine blk_alloc ?_ _)); refine blk_far ?_ NB888_889.out _; (with_reducible repeat (first | refine blk_drewN ?_ _ | refine blk_drew ?_ | refine blk_alloc ?_ _)); refine blk_far ?_ NB888_889.out _; (with_reducible repeat (first | refine blk_drewN ?_ _ | refine blk_drew ?_ | refine blk_alloc ?_ _)); refine blk_far ?_ NB888_889.out _; (with_reducible repeat (first | refine blk_drewN ?_ _ | refine blk_drew ?_ | refine blk_alloc ?_ _)); exact BK888.out⟩, ⟨by (with_reducible repeat (first | refine blk_drewN ?_ _ | refine blk_drew ?_ | refine blk_alloc ?_ _)); refine blk_put (cs := #[.string (⟨#[102]⟩ : ByteArray), .int .i64 0, .int .i64 0, .slice none 0 0, .slice none 0 0]) ?_ 4 _ rfl; (with_reducible repeat (first | refine blk_drewN ?_ _ | refine blk_drew ?_ | refine blk_alloc ?_ _)); refine blk_put (cs := #[.string (⟨#[102]⟩ : ByteArray), .int .i64 0, .int .i64 0, .slice none 0 0, .slice none 0 0]) ?_ 3 _ rfl; (with_reducible repeat (first | refine blk_drewN ?_ _ | refine blk_drew ?_ | refine blk_alloc ?_ _)); refine blk_put (cs := #[.string (⟨#[102]⟩ : ByteArray), .int .i64 0, .int .i64 0, .slice none 0 0, .slice none 0 0]) ?_ 2 _ rfl; (with_reducible repeat (first | refine blk_drewN ?_ _ | refine blk_drew ?_ | refine blk_alloc ?_ _)); refine blk_put (cs := #[.string (⟨#[102]⟩ : ByteArray), .int .i64 0, .int .i64 0, .slice none 0 0, .slice none 0 0]) ?_ 1 _ rfl; (with_reducible repeat (first | refine blk_drewN ?_ _ | refine blk_drew ?_ | refine blk_alloc ?_ _)); refine blk_put (cs := #[.string (⟨#[]⟩ : ByteArray), .int .i64 0, .int .i64 0, .slice none 0 0, .slice none 0 0]) ?_ 0 _ rfl; (with_reducible repeat (first | refine blk_drewN ?_ _ | refine blk_drew ?_ | refine blk_alloc ?_ _)); exact BK889.out⟩, ⟨by repeat (first | (with_reducible first | exact HB.out | apply below_alloc | apply pw_below_drewN | apply below_drew1 | refine below_set ?_ GE888.out | refine below_set ?_ GE889.out) | exact HB.out)⟩⟩
 case round =>
  clear H'; (try clear c1); (try clear p2); (try clear c3); (try clear c5); (try clear hcz6_0); (try clear hcz6_1); (try clear hcz6_2); (try clear hcz6_3); (try clear hcz6_4); (try clear hfz6_0); (try clear hfz6_1); (try clear hfz6_2); (try clear hfz6_3); (try clear hfz6_4); obtain ⟨x6_1, x890003_1, u890003, rfl, HA, HK1, HO_890003, BK888, BK889, HB⟩ := hrel
  cases gk with
  | zero => exact absurd HA.out (by simp [portagelaw09_code.l0])
  | succ k1 =>
   have H := HA.out; clear HA; simp only [portagelaw09_code.l0] at H
   by_cases c7 : x6_1 < (l0.length : Int)
   ·rw [if_pos c7] at H; have c7b0 : decide (x6_1 < (l0.length : Int)) = true := decide_eq_true c7; clear c7
    by_cases c8 : 0 ≤ x6_1
    ·rw [if_pos c8] at H; have c8b0 : decide (0 ≤ x6_1) = true := decide_eq_true c8; clear c8
     by_cases c9 : x6_1 < (l1.length : Int)
     ·rw [if_pos c9] at H; have c9b0 : decide (x6_1 < (l1.length : Int)) = true := decide_eq_true c9; clear c9
      by_cases c10 : x890003_1.length < 8796093022208
      ·rw [if_pos c10] at H; have LMc10 := Aside0.mk c10; clear c10; obtain ⟨y892, hy892⟩ : ∃ y_ : List (S40), y_ = (x890003_1 ++ [(⟨rd l0 x6_1, rd l1 x6_1⟩ : S40)]) := ⟨_, rfl⟩; replace H : (portagelaw09_code.l0 k1 l0 l1 (wrap64 (x6_1 + 1)) (⟨#[102]⟩ : ByteArray) 0 0 y892) = some (r1, r2, r3, r4, r5) := by first | (rw [hy892]; with_reducible exact H) | (have H2_ := (Option.bind_some _ _).symm.trans H; rw [hy892]; with_reducible exact H2_) | (have H2_ := (Option.bind_some _ _).symm.trans H; with_reducible exact H2_) | with_reducible exact H | (rw [hy892]; exact H) | exact H
       have Ny892 := Aside0.mk hy892; clear hy892; have H' := Aside0.mk H; clear H; try go_wp2
       have n0_ := Aside0.mk (Kd.R_drew HO_890003.out); have n1_ := Aside0.mk (blk_drew BK888.out); have n2_ := Aside0.mk (blk_drew BK889.out); have n3_ := Aside0.mk (below_drew1 HB.out); clear HO_890003; clear BK888; clear BK889; clear HB; have HO_890003 := n0_; have BK888 := n1_; have BK889 := n2_; have HB := n3_; clear n0_ n1_ n2_ n3_; have p890 : 0 ≤ (x6_1 : Int) := of_decide_eq_true (by first | (with_reducible assumption) | assumption); have q890 : x6_1 < (l0.length : Int) := of_decide_eq_true (by first | (with_reducible assumption) | assumption); obtain ⟨ad890, e890, hx890_0⟩ := Kd.at_int HR0.out x6_1 p890 q890; have hw890_0 := hx890_0
       cases e890; replace hx890_0 := (HB.out.cell (World.block_lt_of_cell? w _ hx890_0)).trans hx890_0; replace p890 := eq_true p890; replace q890 := eq_true q890; have p891 : 0 ≤ (x6_1 : Int) := of_decide_eq_true (by first | (with_reducible assumption) | assumption); have q891 : x6_1 < (l1.length : Int) := of_decide_eq_true (by first | (with_reducible assumption) | assumption); obtain ⟨ad891, e891, hx891_0⟩ := Kd.at_int HR1.out x6_1 p891 q891; have hw891_0 := hx891_0
       cases e891; replace hx891_0 := (HB.out.cell (World.block_lt_of_cell? w _ hx891_0)).trans hx891_0; replace p891 := eq_true p891; replace q891 := eq_true q891; refine start_ (n := 15) (S := fun w' => w'.cell? ⟨gb889, 0, none⟩ = some (.string (⟨#[102]⟩ : ByteArray)) ∧ w'.cell? ⟨gb889, 1, none⟩ = some (.int .i64 0) ∧ w'.cell? ⟨gb889, 2, none⟩ = some (.int .i64 0) ∧ w'.cell? ⟨gb889, 3, none⟩ = some (u890003) ∧ w'.cell? ⟨gb889, 4, none⟩ = some (.slice none 0 0) ∧ w'.cell? (ad890.add (x6_1).toNat) = some (.int .i64 (rd l0 x6_1)) ∧ w'.cell? (ad891.add (x6_1).toNat) = some (.int .i64 (rd l1 x6_1))) (ds := [14]) #[false, false, false, false, false, false, false, false, false, false, false, false, false, false, false] (by kernel_rfl) rfl rfl ⟨(blk_cell BK889.out 0).trans rfl, (blk_cell BK889.out 1).trans rfl, (blk_cell BK889.out 2).trans rfl, (blk_cell BK889.out 3).trans rfl, (blk_cell BK889.out 4).trans rfl, ((HB.out.cell (World.block_lt_of_cell? w _ hw890_0)).trans hw890_0), ((HB.out.cell (World.block_lt_of_cell? w _ hw891_0)).trans hw891_0)⟩ (fun hHeld => ?_); refine with_tabW portagelaw09_code.tab5 portagelaw09_code.bits5 (fun HT_ HW_ => ?_)
       generalize wr.drew = w11 at HO_890003 BK888 BK889 HB hx890_0 hx891_0 hHeld ⊢
       refine pure_ (i := 0) (N := some 14) (v := ?_) (a' := ?_) #[true, false, false, false, false, false, false, false, false, false, false, false, false, false, false] rfl rfl (any_of HT_.out (by kernel_rfl)) (fun _ _ _ h => h) (Or.inl ⟨by rfl, ?_⟩) ?_ ?_
       rotate_left
       ·intro w'; go_simp
        with_reducible rfl
       rotate_left
       ·simp only [Act.put, List.setIfInBounds_toArray, List.set_cons_zero, List.set_cons_succ, i64_w, i32_w]
        rfl
       refine pure_ (i := 2) (N := some 16) (v := ?_) (a' := ?_) #[true, false, true, false, false, false, false, false, false, false, false, false, false, false, false] rfl rfl (any_of HT_.out (by kernel_rfl)) (fun _ _ _ h => h) (Or.inl ⟨by rfl, ?_⟩) ?_ ?_
       rotate_left
       ·intro w'; go_simp
        with_reducible rfl
       rotate_left
       ·simp only [Act.put, List.setIfInBounds_toArray, List.set_cons_zero, List.set_cons_succ, i64_w, i32_w]
        rfl
       refine pure_ (i := 3) (N := some 17) (v := ?_) (a' := ?_) #[true, false, true, true, false, false, false, false, false, false, false, false, false, false, false] rfl rfl (any_of HT_.out (by kernel_rfl)) (fun _ _ _ h => h) (Or.inl ⟨by rfl, ?_⟩) ?_ ?_
       rotate_left
       ·intro w'; go_simp
        with_reducible rfl
       rotate_left
       ·simp only [Act.put, List.setIfInBounds_toArray, List.set_cons_zero, List.set_cons_succ, i64_w, i32_w]
        rfl
       refine pure_ (i := 4) (N := some 18) (v := ?_) (a' := ?_) #[true, false, true, true, true, false, false, false, false, false, false, false, false, false, false] rfl rfl (any_of HT_.out (by kernel_rfl)) (fun _ _ _ h => h) (Or.inl ⟨by rfl, ?_⟩) ?_ ?_
       rotate_left
       ·intro w'; go_simp
        with_reducible rfl
       rotate_left
       ·simp only [Act.put, List.setIfInBounds_toArray, List.set_cons_zero, List.set_cons_succ, i64_w, i32_w]
        rfl
       refine pure_ (i := 6) (N := some 20) (v := ?_) (a' := ?_) #[true, false, true, true, true, false, true, false, false, false, false, false, false, false, false] rfl rfl (any_of HT_.out (by kernel_rfl)) (fun _ _ _ h => h) (Or.inl ⟨by rfl, ?_⟩) ?_ ?_
       rotate_left
       ·intro w'; go_simp
        with_reducible rfl
       rotate_left
       ·simp only [Act.put, List.setIfInBounds_toArray, List.set_cons_zero, List.set_cons_succ, i64_w, i32_w]
        rfl
       refine pure_ (i := 7) (N := some 21) (v := ?_) (a' := ?_) #[true, false, true, true, true, false, true, true, false, false, false, false, false, false, false] rfl rfl (any_of HT_.out (by kernel_rfl)) (fun _ _ _ h => h) (Or.inl ⟨by rfl, ?_⟩) ?_ ?_
       rotate_left
       ·intro w'; go_simp
        with_reducible rfl
       rotate_left
       ·simp only [Act.put, List.setIfInBounds_toArray, List.set_cons_zero, List.set_cons_succ, i64_w, i32_w]
        rfl
       refine pure_ (i := 8) (N := some 22) (v := ?_) (a' := ?_) #[true, false, true, true, true, false, true, true, true, false, false, false, false, false, false] rfl rfl (any_of HT_.out (by kernel_rfl)) (fun _ _ _ h => h) (Or.inl ⟨by rfl, ?_⟩) ?_ ?_
       rotate_left
       ·intro w'; go_simp
        with_reducible rfl
       rotate_left
       ·simp only [Act.put, List.setIfInBounds_toArray, List.set_cons_zero, List.set_cons_succ, i64_w, i32_w]
        rfl
       refine take_ (i := 1) (N := some 15) (v := ?_) (a' := ?_) #[true, true, true, true, true, false, true, true, true, false, false, false, false, false, false] rfl rfl (take_ofW HT_.out HW_.out (by kernel_rfl)) (fun _ _ _ h => h) (Or.inl ⟨by rfl, ?_⟩) hHeld ?_ ?_
       rotate_left
       ·rintro w' ⟨s0, s1, s2, s3, s4, s5, s6⟩; go_simp
        with_reducible rfl
       rotate_left
       ·simp only [Act.put, List.setIfInBounds_toArray, List.set_cons_zero, List.set_cons_succ, i64_w, i32_w]
        rfl
       refine take_ (i := 5) (N := some 19) (v := ?_) (a' := ?_) #[true, true, true, true, true, true, true, true, true, false, false, false, false, false, false] rfl rfl (take_ofW HT_.out HW_.out (by kernel_rfl)) (fun _ _ _ h => h) (Or.inl ⟨by rfl, ?_⟩) hHeld ?_ ?_
       rotate_left
       ·rintro w' ⟨s0, s1, s2, s3, s4, s5, s6⟩; go_simp
        with_reducible rfl
       rotate_left
       ·simp only [Act.put, List.setIfInBounds_toArray, List.set_cons_zero, List.set_cons_succ, i64_w, i32_w]
        rfl
       refine take_ (i := 9) (N := some 23) (v := ?_) (a' := ?_) #[true, true, true, true, true, true, true, true, true, true, false, false, false, false, false] rfl rfl (take_ofW HT_.out HW_.out (by kernel_rfl)) (fun _ _ _ h => h) (Or.inl ⟨by rfl, ?_⟩) hHeld ?_ ?_
       rotate_left
       ·rintro w' ⟨s0, s1, s2, s3, s4, s5, s6⟩; go_simp
        with_reducible rfl
       rotate_left
       ·simp only [Act.put, List.setIfInBounds_toArray, List.set_cons_zero, List.set_cons_succ, i64_w, i32_w]
        rfl
       refine pure_ (i := 10) (N := some 24) (v := ?_) (a' := ?_) #[true, true, true, true, true, true, true, true, true, true, true, false, false, false, false] rfl rfl (any_of HT_.out (by kernel_rfl)) (fun _ _ _ h => h) (Or.inl ⟨by rfl, ?_⟩) ?_ ?_
       rotate_left
       ·intro w'; go_simp
        with_reducible rfl
       rotate_left
       ·simp only [Act.put, List.setIfInBounds_toArray, List.set_cons_zero, List.set_cons_succ, i64_w, i32_w]
        rfl
       refine one_ (i := 11) (N := some 25) #[true, true, true, true, true, true, true, true, true, true, true, true, false, false, false] rfl rfl (one_of HT_.out (by kernel_rfl)) (by decide) (fun K hK => ?_); refine value_ (w1 := ?_) (v := ?_) (by rfl) rfl ?_ ?_
       rotate_left 2
       ·go_simp
        constructor
        ·rfl
        ·rfl
       refine hK.out _ _ ⟨(blk_cell (blk_alloc BK889.out _) 0).trans rfl, (blk_cell (blk_alloc BK889.out _) 1).trans rfl, (blk_cell (blk_alloc BK889.out _) 2).trans rfl, (blk_cell (blk_alloc BK889.out _) 3).trans rfl, (blk_cell (blk_alloc BK889.out _) 4).trans rfl, (World.cell?_alloc_lt _ _ _ (World.block_lt_of_cell? _ _ (((HB.out.cell (World.block_lt_of_cell? w _ hw890_0)).trans hw890_0)))).trans (((HB.out.cell (World.block_lt_of_cell? w _ hw890_0)).trans hw890_0)), (World.cell?_alloc_lt _ _ _ (World.block_lt_of_cell? _ _ (((HB.out.cell (World.block_lt_of_cell? w _ hw891_0)).trans hw891_0)))).trans (((HB.out.cell (World.block_lt_of_cell? w _ hw891_0)).trans hw891_0))⟩ (fun hHeld => ?_); clear hK K; refine norm_ (a' := ?_) ?_ ?_
       rotate_left
       ·show Act.put _ (some 25) _ = _; simp only [Act.put, List.setIfInBounds_toArray, List.set_cons_zero, List.set_cons_succ, i64_w, i32_w]
        rfl
       refine one_ (i := 12) (N := some 26) #[true, true, true, true, true, true, true, true, true, true, true, true, true, false, false] rfl rfl (one_of HT_.out (by kernel_rfl)) (by decide) (fun K hK => ?_); refine Kd.R_append_step k40 (w0 := w) w.heap.size (by rfl) (.tmp 15) (.tmp 25) 22 40 (.agg #[(.int .i64 0), (.int .i64 0)]) 16 rfl Try.underlying22 info40 rfl (by decide) (by omega) u890003 x890003_1 (⟨rd l0 x6_1, rd l1 x6_1⟩ : S40) [.int .i64 (rd l0 x6_1), .int .i64 (rd l1 x6_1)] (fun _ => True) (fun _ => False) rfl rfl ?aP (fun _ hk => hk.elim) ?aF ?aO ?aB ?aS ?aL ?_; (case aP => exact k40_mkM _ _ _ (⟨rd l0 x6_1, rd l1 x6_1⟩ : S40)); (case aB => exact (by repeat (first | (with_reducible first | exact HB.out | apply below_alloc | apply pw_below_drewN | apply below_drew1 | refine below_set ?_ GE888.out | refine below_set ?_ GE889.out) | exact HB.out))); (case aF => exact (fun _ _ => trivial)); (case aO => exact (by (with_reducible repeat (first | apply Kd.R_alloc | apply Kd.R_drewN | apply Kd.R_drew)); exact HO_890003.out)); (case aS => exact (below_size (by repeat (first | (with_reducible first | exact HB.out | apply below_alloc | apply pw_below_drewN | apply below_drew1 | refine below_set ?_ GE888.out | refine below_set ?_ GE889.out) | exact HB.out)))); (case aL => have := LMc10.out; omega)
       intro v893 w12 ho hb hg hat; rw [← Ny892.out] at ho; have n0_ := Aside0.mk (blk_grown (g := gb888) (o := .cells #[.string (⟨#[]⟩ : ByteArray), .int .i64 0, .int .i64 0, .slice none 0 0, .slice none 0 0] 25 (0, 0)) (by (with_reducible repeat (first | refine blk_drewN ?_ _ | refine blk_drew ?_ | refine blk_alloc ?_ _)); exact BK888.out) hg (Kd.R_ne HO_890003.out BK888.out (by decide))); have n1_ := Aside0.mk (blk_grown (g := gb889) (o := .cells #[.string (⟨#[102]⟩ : ByteArray), .int .i64 0, .int .i64 0, u890003, .slice none 0 0] 25 (0, 0)) (by (with_reducible repeat (first | refine blk_drewN ?_ _ | refine blk_drew ?_ | refine blk_alloc ?_ _)); exact BK889.out) hg (Kd.R_ne HO_890003.out BK889.out (by decide))); have n2_ := Aside0.mk (hb); have n3_ := Aside0.mk (ho); clear BK888; clear BK889; clear HB; clear HO_890003; have BK888 := n0_; have BK889 := n1_; have HB := n2_; have HO894 := n3_; clear n0_ n1_ n2_ n3_; clear ho hb hg hat; obtain ⟨Ao13, co13, eo13⟩ := Kd.R_slice HO894.out; (first | subst eo13 | (injection eo13 with f1_ f2_ f3_; have f4_ := f1_.symm; have f5_ := f3_.symm; clear f1_ f2_ f3_; subst f4_; subst f5_)); refine hK.out _ _ ⟨(blk_cell BK889.out 0).trans rfl, (blk_cell BK889.out 1).trans rfl, (blk_cell BK889.out 2).trans rfl, (blk_cell BK889.out 3).trans rfl, (blk_cell BK889.out 4).trans rfl, ((HB.out.cell (World.block_lt_of_cell? w _ hw890_0)).trans hw890_0), ((HB.out.cell (World.block_lt_of_cell? w _ hw891_0)).trans hw891_0)⟩ (fun hHeld => ?_); clear hK K; refine norm_ (a' := ?_) ?_ ?_
       rotate_left
       ·show Act.put _ (some 26) _ = _; simp only [Act.put, List.setIfInBounds_toArray, List.set_cons_zero, List.set_cons_succ, i64_w, i32_w]
        rfl
       refine pure_ (i := 13) (N := some 27) (v := ?_) (a' := ?_) #[true, true, true, true, true, true, true, true, true, true, true, true, true, true, false] rfl rfl (any_of HT_.out (by kernel_rfl)) (fun _ _ _ h => h) (Or.inl ⟨by rfl, ?_⟩) ?_ ?_
       rotate_left
       ·intro w'; go_simp
        with_reducible rfl
       rotate_left
       ·simp only [Act.put, List.setIfInBounds_toArray, List.set_cons_zero, List.set_cons_succ, i64_w, i32_w]
        rfl
       refine last_ (i := 14) (N := none) #[true, true, true, true, true, true, true, true, true, true, true, true, true, true, true] rfl rfl (one_of HT_.out (by kernel_rfl)) (by decide) (fun K hK => ?_); have hs14 : w12.cell? ⟨gb889, 3, none⟩ = some (u890003) := (blk_cell BK889.out 3).trans rfl; have hfs14 := blk_frozen BK889.out 3; have hns14_0 := NB888_889.out; have hms14_0 := NB889_888.out; refine skip_ (w1 := ?_) (by rfl) rfl ?_ ?_
       rotate_left
       ·go_simp
        rfl
       refine hK.out _ _ ?_; clear hK K; refine done_ (done_of HT_.out (by kernel_rfl)) ?_; try go_wp2
       go_roundg k1
       case measure => have := HK1.out; omega
       case rel => exact ⟨(wrap64 (x6_1 + 1)), (y892), (.slice Ao13 y892.length co13), (by first | rfl | (simp; done) | (simp [*]; done)), H', ⟨by have := HK1.out; omega⟩, ⟨by (with_reducible repeat (first | apply Kd.R_alloc | apply Kd.R_drewN | apply Kd.R_drew)); exact Kd.R_mono (Kd.R_far (p := ⟨gb889, 3, none⟩) (Kd.R_types HO894.out BK889.out (by decide)) (fun _ hk => hk.2) (.slice Ao13 y892.length co13)) (fun _ hk => trivial)⟩, ⟨by (with_reducible repeat (first | refine blk_drewN ?_ _ | refine blk_drew ?_ | refine blk_alloc ?_ _)); refine blk_far ?_ NB888_889.out _; (with_reducible repeat (first | refine blk_drewN ?_ _ | refine blk_drew ?_ | refine blk_alloc ?_ _)); exact BK888.out⟩, ⟨by (with_reducible repeat (first | refine blk_drewN ?_ _ | refine blk_drew ?_ | refine blk_alloc ?_ _)); refine blk_put (cs := #[.string (⟨#[102]⟩ : ByteArray), .int .i64 0, .int .i64 0, u890003, .slice none 0 0]) ?_ 3 _ rfl; (with_reducible repeat (first | refine blk_drewN ?_ _ | refine blk_drew ?_ | refine blk_alloc ?_ _)); exact BK889.out⟩, ⟨by repeat (first | (with_reducible first | exact HB.out | apply below_alloc | apply pw_below_drewN | apply below_drew1 | refine below_set ?_ GE888.out | refine below_set ?_ GE889.out) | exact HB.out)⟩⟩
      ·rw [if_neg c10] at H
       exact absurd H (by simp)
     ·rw [if_neg c9] at H
      exact absurd H (by simp)
    ·rw [if_neg c8] at H
     exact absurd H (by simp)
   ·rw [if_neg c7] at H; have c7b0 : decide (x6_1 < (l0.length : Int)) = false := decide_eq_false c7; clear c7; simp only [Option.some.injEq, Prod.mk.injEq] at H; obtain ⟨rfl, rfl, rfl, rfl, rfl⟩ := H; have hnb15 := NB889_888.out; have hnc15 := NB888_889.out; have hcz16_0 : wr.cell? ⟨gb889, 0, none⟩ = some (.string (⟨#[102]⟩ : ByteArray)) := (blk_cell BK889.out 0).trans rfl; have hcz16_1 : wr.cell? ⟨gb889, 1, none⟩ = some (.int .i64 0) := (blk_cell BK889.out 1).trans rfl; have hcz16_2 : wr.cell? ⟨gb889, 2, none⟩ = some (.int .i64 0) := (blk_cell BK889.out 2).trans rfl; have hcz16_3 : wr.cell? ⟨gb889, 3, none⟩ = some (u890003) := (blk_cell BK889.out 3).trans rfl; have hcz16_4 : wr.cell? ⟨gb889, 4, none⟩ = some (.slice none 0 0) := (blk_cell BK889.out 4).trans rfl; have hfz16_0 := blk_frozen BK889.out 0; have hfz16_1 := blk_frozen BK889.out 1; have hfz16_2 := blk_frozen BK889.out 2; have hfz16_3 := blk_frozen BK889.out 3; have hfz16_4 := blk_frozen BK889.out 4; have hcz17_0 : wr.cell? ⟨gb888, 0, none⟩ = some (.string (⟨#[]⟩ : ByteArray)) := (blk_cell BK888.out 0).trans rfl; have hcz17_1 : wr.cell? ⟨gb888, 1, none⟩ = some (.int .i64 0) := (blk_cell BK888.out 1).trans rfl; have hcz17_2 : wr.cell? ⟨gb888, 2, none⟩ = some (.int .i64 0) := (blk_cell BK888.out 2).trans rfl; have hcz17_3 : wr.cell? ⟨gb888, 3, none⟩ = some (.slice none 0 0) := (blk_cell BK888.out 3).trans rfl; have hcz17_4 : wr.cell? ⟨gb888, 4, none⟩ = some (.slice none 0 0) := (blk_cell BK888.out 4).trans rfl; have hfz17_0 := blk_frozen BK888.out 0; have hfz17_1 := blk_frozen BK888.out 1; have hfz17_2 := blk_frozen BK888.out 2; have hfz17_3 := blk_frozen BK888.out 3; have hfz17_4 := blk_frozen BK888.out 4; obtain ⟨Ao18, co18, eo18⟩ := Kd.R_slice HO_890003.out; subst eo18; go_wp2; refine bodyPost_ret (results_cell_row rfl _ _ gb888 25 #[.string (⟨#[102]⟩ : ByteArray), .int .i64 0, .int .i64 0, .slice Ao18 x890003_1.length co18, .slice none 0 0] (0, 0) _ rfl (by (with_reducible repeat (first | refine blk_drewN ?_ _ | refine blk_drew ?_ | refine blk_alloc ?_ _)); refine blk_put (cs := #[.string (⟨#[102]⟩ : ByteArray), .int .i64 0, .int .i64 0, .slice Ao18 x890003_1.length co18, .slice none 0 0]) ?_ 4 _ rfl; (with_reducible repeat (first | refine blk_drewN ?_ _ | refine blk_drew ?_ | refine blk_alloc ?_ _)); refine blk_put (cs := #[.string (⟨#[102]⟩ : ByteArray), .int .i64 0, .int .i64 0, .slice none 0 0, .slice none 0 0]) ?_ 3 _ rfl; (with_reducible repeat (first | refine blk_drewN ?_ _ | refine blk_drew ?_ | refine blk_alloc ?_ _)); refine blk_put (cs := #[.string (⟨#[102]⟩ : ByteArray), .int .i64 0, .int .i64 0, .slice none 0 0, .slice none 0 0]) ?_ 2 _ rfl; (with_reducible repeat (first | refine blk_drewN ?_ _ | refine blk_drew ?_ | refine blk_alloc ?_ _)); refine blk_put (cs := #[.string (⟨#[102]⟩ : ByteArray), .int .i64 0, .int .i64 0, .slice none 0 0, .slice none 0 0]) ?_ 1 _ rfl; (with_reducible repeat (first | refine blk_drewN ?_ _ | refine blk_drew ?_ | refine blk_alloc ?_ _)); refine blk_put (cs := #[.string (⟨#[]⟩ : ByteArray), .int .i64 0, .int .i64 0, .slice none 0 0, .slice none 0 0]) ?_ 0 _ rfl; (with_reducible repeat (first | refine blk_drewN ?_ _ | refine blk_drew ?_ | refine blk_alloc ?_ _)); exact BK888.out) Try.underlying25 rfl (by kernel_rfl)) rfl ?_; exact ⟨_, _, by first | rfl | (simp [errW_none, errW_some] <;> rfl) | (simp [*, errW_none, errW_some] <;> rfl), by (with_reducible repeat (first | apply Kd.R_alloc | apply Kd.R_drewN | apply Kd.R_drew)); exact Kd.R_mono (Kd.R_far (p := ⟨gb888, 4, none⟩) (Kd.R_far (p := ⟨gb888, 3, none⟩) (Kd.R_far (p := ⟨gb888, 2, none⟩) (Kd.R_far (p := ⟨gb888, 1, none⟩) (Kd.R_far (p := ⟨gb888, 0, none⟩) (Kd.R_types HO_890003.out BK888.out (by decide)) (fun _ hk => hk.2) (.string (⟨#[102]⟩ : ByteArray))) (fun _ hk => hk.2) (.int .i64 0)) (fun _ hk => hk.2) (.int .i64 0)) (fun _ hk => hk.2) (.slice Ao18 x890003_1.length co18)) (fun _ hk => hk.2) (.slice none 0 0)) (fun _ hk => trivial), by first | exact Kd.R_nil _ _ _ _ _ | exact Kd.N_nil _ _ _ _ _ | exact Kd.V_nil _ _ _ _ _ | exact Kd.Q_nil _ _ _ _ _ | exact Kd.S_nil _ _ _ _ _, by repeat (first | (with_reducible first | exact HB.out | apply below_alloc | apply pw_below_drewN | apply below_drew1 | refine below_set ?_ GE888.out | refine below_set ?_ GE889.out) | exact HB.out)⟩
end Go.Proofs.Ytmeaepmimnmjlaa.PGb
/- GraphKnown's helpers, by their meaning. -/
namespace Go.Proofs.Ytmeaepmimnmjlaa.Ask
open Go.Proofs.Ytmeaepmimnmjlaa.Dfs Go.Proofs.Ytmeaepmimnmjlaa.Dom Go.Proofs.Ytmeaepmimnmjlaa.DomT Go.RowKit Go.Shelf Go.Proofs.Ytmeaepmimnmjlaa.PGb Go.Proofs.Ytmeaepmimnmjlaa.Lit Go.Proofs.Ytmeaepmimnmjlaa.OwnCells Go.Proofs.YtmeaepmimnmjlaaW.PrintWords Go.Proofs.YtmeaepmimnmjlaaW.PrintLast Go.Proofs.YtmeaepmimnmjlaaW.PrintMore
attribute [local go_sem] Oper.semAt_some
attribute [local go_sem] run_store_fn
attribute [local go_sem] run_eql_fn
set_option linter.unusedVariables false
set_option linter.unusedSimpArgs false
theorem own_new (W : World) (e : TypeId) (xs : List Value) (h : xs.length ≤ 1048576) : (W.alloc (.cells xs.toArray e)).ownsRow W.heap.size e 1 (.slice (some ⟨W.heap.size, 0, none⟩) xs.length xs.length) xs.length xs :=
  ⟨by omega, .inr ⟨W.heap.size, xs.length, xs.toArray, rfl, Nat.le_refl _, World.alloc_heap_new W _, Nat.le_refl _, by unfold maxLen; omega, by simp, by simp⟩⟩
theorem ints_new (W : World) (xs : List Int) (h : xs.length ≤ 1048576) : (Kd.int .i64).C (W.alloc (.cells (xs.map (Value.int .i64)).toArray 3)) (some ⟨W.heap.size, 0, none⟩) xs.length xs := by
  have h1 := own_new W 3 (xs.map (Value.int .i64)) (by rw [List.length_map]; exact h)
  rw [List.length_map] at h1
  exact (row_C h1).1
theorem code_own {w : World} {A0 A1 : Option Addr} {c0 c1 : Nat} {os as9 : List Int} {c : List S40} (hf : portagelaw09_code.f 10 os as9 = some (⟨#[102]⟩, 0, 0, c, [])) (h0 : (Kd.int .i64).C w A0 os.length os) (k0 : os.length ≤ c0) (h1 : (Kd.int .i64).C w A1 as9.length as9) (k1 : as9.length ≤ c1) :
    Calls Try.prog 30 #[.slice A0 os.length c0, .slice A1 as9.length c1] w fun e w' => ∃ B3 B4 d3 d4, e = .returned (.agg #[.string ⟨#[102]⟩, .int .i64 0, .int .i64 0, .slice B3 c.length d3, .slice B4 0 d4]) ∧ k40.R 40 w' w.heap.size (fun _ => True) (.slice B3 c.length d3) c ∧ c.length ≤ d3 ∧ k49.C w' B4 0 [] ∧ Below w.heap.size w w' := by
  refine (portagelaw09_code.calls 10 A0 c0 os A1 c1 as9 _ _ _ _ _ w h0 k0 h1 k1 hf).mono ?_
  rintro e w' ⟨v3, v4, rfl, h3, h4, hb⟩
  obtain ⟨B3, d3, rfl⟩ := Kd.R_slice h3
  obtain ⟨B4, d4, rfl⟩ := Kd.R_slice h4
  exact ⟨B3, B4, d3, d4, rfl, h3, (Kd.R_reads' h3).2.1, (Kd.R_reads' h4).2.2, hb⟩
theorem blk_C49 {W : World} {G : Nat} {h0 h1 h2 h3 : Int} (hb : W.heap[G]? = some (.cells #[.int .i64 h0, .int .i64 h1, .int .i64 h2, .int .i64 h3] 49 (0, 0))) : k49.C W (some ⟨G, 0, none⟩) 1 [⟨h0, h1, h2, h3⟩] := by
  refine ⟨rfl, by simp, fun _ => ⟨_, rfl, fun j p hj => ?_⟩⟩
  match j, hj with
  | 0, hj =>
    simp at hj
    subst hj
    refine ⟨[.int .i64 h0, .int .i64 h1, .int .i64 h2, .int .i64 h3], rfl, k49_mk W ⟨h0, h1, h2, h3⟩, fun i u hu => ?_⟩
    rw [add_plain]
    have h4 : k49.sz = 4 := rfl
    match i, hu with
    | 0, hu => simp at hu; subst hu; simpa using cell_blk hb (i := 0) rfl
    | 1, hu => simp at hu; subst hu; simpa using cell_blk hb (i := 1) rfl
    | 2, hu => simp at hu; subst hu; simpa using cell_blk hb (i := 2) rfl
    | 3, hu => simp at hu; subst hu; simpa using cell_blk hb (i := 3) rfl
def code3 : List S40 := [⟨1, 0⟩, ⟨1, 0⟩, ⟨44, 0⟩]
theorem code3_f : portagelaw09_code.f 10 [1, 1, 44] [0, 0, 0] = some (⟨#[102]⟩, 0, 0, code3, []) := by kernel_rfl
theorem code6_f : portagelaw09_code.f 10 [2, 41, 0, 40, 1, 44] [0, 4, 0, 0, 0, 0] = some (⟨#[102]⟩, 0, 0, code6, []) := by kernel_rfl
theorem code1_f : portagelaw09_code.f 10 [40] [1] = some (⟨#[102]⟩, 0, 0, [⟨40, 1⟩], []) := by kernel_rfl
set_option maxHeartbeats 2000000 in
set_option maxRecDepth 100000 in
theorem same_next (A B : Option Addr) (c d : Nat) (l : List (List Int)) (w : World) (hA : (Kd.slice 3 (Kd.int .i64)).C w A l.length l) (hB : (Kd.slice 3 (Kd.int .i64)).C w B l.length l) (hl : l.length ≤ 17592186044416) (hs : ∀ i : Int, (rd_L3 l i).length ≤ 17592186044416) :
    Calls Try.prog 32 #[.slice A l.length c, .slice B l.length d] w fun e w' => e = .returned (.bool true) ∧ ∃ m, w' = w.drewN m := by
  have HA := Aside0.mk hA
  have HB := Aside0.mk hB
  have HS := Aside0.mk hs
  clear hA hB hs
  go_enter Try.func32, Try.ntmps32
  go_wp2
  go_loopw [5] (fun t wr => ∃ k : Nat, k ≤ l.length ∧ t = .int .i64 k ∧ ∃ m, wr = w.drewN m) (fun t _ => l.length - (intOf t).toNat)
  case atStart => exact ⟨0, Nat.zero_le _, rfl, 0, rfl⟩
  case round =>
    obtain ⟨k, hk, rfl, m, hm⟩ := hrel
    have HM := Aside0.mk hm
    have HA1 := Aside0.mk (show (Kd.slice 3 (Kd.int .i64)).C wr A l.length l from hm ▸ C_drewN' HA.out m)
    have HB1 := Aside0.mk (show (Kd.slice 3 (Kd.int .i64)).C wr B l.length l from hm ▸ C_drewN' HB.out m)
    clear hm
    by_cases hlt : k < l.length
    · obtain ⟨a, A2, c2, rfl, q0, _, g0⟩ := at_L3 HA1.out (k : Int) (by omega) (by omega)
      obtain ⟨b, B2, d2, rfl, r0, _, g1⟩ := at_L3 HB1.out (k : Int) (by omega) (by omega)
      have hx := HS.out (k : Int)
      rw [Int.toNat_natCast] at q0 r0
      generalize rd_L3 l (k : Int) = x at q0 r0 g0 g1 hx
      have G0 := Aside0.mk g0
      have G1 := Aside0.mk g1
      have HX := Aside0.mk hx
      clear g0 g1 hx
      go_wp2
      go_quiet ((go_at_call 31; exact Calls.quiet_of (same_ints _ _ _ _ x _ (C_drewN' G0.out _) (C_drewN' G1.out _) HX.out)))
      go_wp2
      go_roundw
      case rel => exact ⟨k + 1, by omega, by go_num, _, by rw [HM.out]; exact World.drewN_drewN _ _ _⟩
      case measure => simp [intOf]; omega
    · go_wp2
      go_ret
      exact ⟨rfl, m, HM.out⟩
set_option maxHeartbeats 4000000 in
set_option maxRecDepth 100000 in
theorem errs_own (h0 h1 h2 h3 : Int) (w : World) :
    Calls Try.prog 33 #[.agg #[.int .i64 h0, .int .i64 h1, .int .i64 h2, .int .i64 h3]] w fun e w' => e = .returned (.int .i64 (errOf code3 [⟨h0, h1, h2, h3⟩])) ∧ Below w.heap.size w w' := by
  have hu25 := Try.underlying25
  have hu29 := Try.underlying29
  have hu49 := Try.underlying49
  go_enter Try.func33, Try.ntmps33
  go_upto_region 1 with (fail)
  have hb1 := below_alloc (Below.refl _ w) (.cells #[.int .i64 h0, .int .i64 h1, .int .i64 h2, .int .i64 h3] 49)
  have HH := Aside0.mk (World.alloc_heap_new w (.cells #[.int .i64 h0, .int .i64 h1, .int .i64 h2, .int .i64 h3] 49))
  have HB1 := Aside0.mk hb1
  clear hb1
  revert HH
  revert HB1
  generalize w.alloc (.cells #[.int .i64 h0, .int .i64 h1, .int .i64 h2, .int .i64 h3] 49) = W1
  generalize hG : w.heap.size = G1
  intro HB1 HH
  have HG := Aside0.mk hG
  clear hG
  go_wp2_with (fail)
  have i0 := ints_new W1 [1, 1, 44] (by decide)
  have i1 := ints_new (W1.alloc (.cells #[.int .i64 1, .int .i64 1, .int .i64 44] 3)) [0, 0, 0] (by decide)
  have hb2 := below_alloc (Below.refl _ (W1.alloc (.cells #[.int .i64 1, .int .i64 1, .int .i64 44] 3))) (.cells #[.int .i64 0, .int .i64 0, .int .i64 0] 3)
  have HB2 : Aside0 (Below G1 w ((W1.alloc (.cells #[.int .i64 1, .int .i64 1, .int .i64 44] 3)).alloc (.cells #[.int .i64 0, .int .i64 0, .int .i64 0] 3))) := ⟨HB1.out.trans ((below_alloc (below_alloc (Below.refl _ W1) (.cells #[.int .i64 1, .int .i64 1, .int .i64 44] 3)) (.cells #[.int .i64 0, .int .i64 0, .int .i64 0] 3)).mono (by have := HB1.out.size; have := HG.out; omega))⟩
  have HH2 := Aside0.mk (blk_below HH.out (below_alloc (below_alloc (Below.refl _ W1) (.cells #[.int .i64 1, .int .i64 1, .int .i64 44] 3)) (.cells #[.int .i64 0, .int .i64 0, .int .i64 0] 3)))
  have HI0 := Aside0.mk (Kd.C_below i0 hb2)
  have HI1 := Aside0.mk i1
  clear i0 i1 hb2
  refine (code_own (c0 := 3) (c1 := 3) code3_f HI0.out (by decide) (by simpa using HI1.out) (by decide)).mono ?_
  rintro e w3 ⟨B3, B4, d3, d4, rfl, hC3, hk3, hC4, hb3⟩
  have HC3 := Aside0.mk hC3
  have HK3 := Aside0.mk hk3
  have HH3 := Aside0.mk (blk_below HH2.out hb3)
  have HB3 : Aside0 (Below G1 w w3) := ⟨HB2.out.trans (hb3.mono (by have := HB2.out.size; have := HG.out; omega))⟩
  clear hC3 hk3 hC4 hb3 HI0 HI1 HH2 HB2 HH HB1
  go_upto_region 2 with (fail)
  have hb4 := below_alloc (Below.refl _ w3) (.cells #[.string ⟨#[102]⟩, .int .i64 0, .int .i64 0, .slice B3 code3.length d3, .slice B4 0 d4] 25)
  have HX := Aside0.mk (World.alloc_heap_new w3 (.cells #[.string ⟨#[102]⟩, .int .i64 0, .int .i64 0, .slice B3 code3.length d3, .slice B4 0 d4] 25))
  have HH4 := Aside0.mk (blk_below HH3.out hb4)
  have HC4 := Aside0.mk (Kd.R_below HC3.out hb4)
  have HB4 : Aside0 (Below G1 w (w3.alloc (.cells #[.string ⟨#[102]⟩, .int .i64 0, .int .i64 0, .slice B3 code3.length d3, .slice B4 0 d4] 25))) := ⟨HB3.out.trans (hb4.mono (by have := HB3.out.size; have := HG.out; omega))⟩
  have HSZ : Aside0 ((w3.alloc (.cells #[.string ⟨#[102]⟩, .int .i64 0, .int .i64 0, .slice B3 code3.length d3, .slice B4 0 d4] 25)).heap.size = w3.heap.size + 1) := ⟨by simp⟩
  have HLT : Aside0 (G1 < w3.heap.size) := ⟨blk_lt HH3.out⟩
  clear hb4 HH3 HC3 HB3
  revert HX
  revert HH4
  revert HC4
  revert HB4
  revert HSZ
  generalize w3.alloc (.cells #[.string ⟨#[102]⟩, .int .i64 0, .int .i64 0, .slice B3 code3.length d3, .slice B4 0 d4] 25) = W4
  generalize w3.heap.size = G3 at HLT ⊢
  intro HSZ HB4 HC4 HH4 HX
  have y0 := cell_blk HH4.out (i := 0) rfl
  have y1 := cell_blk HH4.out (i := 1) rfl
  have y2 := cell_blk HH4.out (i := 2) rfl
  have y3 := cell_blk HH4.out (i := 3) rfl
  have hb5 := below_alloc (Below.refl _ W4) (.cells #[.int .i64 h0, .int .i64 h1, .int .i64 h2, .int .i64 h3] 49)
  have hx5 := blk_below HX.out hb5
  have x4 := cell_blk hx5 (i := 4) rfl
  have z4 : (W4.alloc (.cells #[.int .i64 h0, .int .i64 h1, .int .i64 h2, .int .i64 h3] 49)).frozen? ⟨G3, 4, none⟩ = false := by simp [World.frozen?, hx5]
  have HG5 := Aside0.mk (World.alloc_heap_new W4 (.cells #[.int .i64 h0, .int .i64 h1, .int .i64 h2, .int .i64 h3] 49))
  have HC5 := Aside0.mk (Kd.R_below HC4.out hb5)
  have HX5 := Aside0.mk hx5
  have HB5 : Aside0 (Below G1 w (W4.alloc (.cells #[.int .i64 h0, .int .i64 h1, .int .i64 h2, .int .i64 h3] 49))) := ⟨HB4.out.trans (hb5.mono (by have := HB4.out.size; have := HG.out; omega))⟩
  have HG4 : Aside0 (G3 < W4.heap.size) := ⟨blk_lt HX.out⟩
  clear hb5 hx5
  go_upto_region 3 with (fail)
  clear y0 y1 y2 y3 x4 z4 HH4 HX HB4 HC4
  revert HG5
  revert HC5
  revert HX5
  revert HB5
  generalize W4.alloc (.cells #[.int .i64 h0, .int .i64 h1, .int .i64 h2, .int .i64 h3] 49) = W5
  generalize W4.heap.size = G4 at HG4 HSZ ⊢
  intro HB5 HX5 HC5 HG5
  have hx6 := blk_set (j := 4) (v := .slice (some ⟨G4, 0, none⟩) 1 1) HX5.out
  have x0 := cell_blk hx6 (i := 0) rfl
  have x1 := cell_blk hx6 (i := 1) rfl
  have x2 := cell_blk hx6 (i := 2) rfl
  have x3 := cell_blk hx6 (i := 3) rfl
  have x4 := cell_blk hx6 (i := 4) rfl
  have hb6 : Below G1 w (W5.setCell ⟨G3, 4, none⟩ (.slice (some ⟨G4, 0, none⟩) 1 1)) := HB5.out.setCell (p := ⟨G3, 4, none⟩) (by show G1 ≤ G3; have := HLT.out; omega) _
  have hC6 : k40.C (W5.setCell ⟨G3, 4, none⟩ (.slice (some ⟨G4, 0, none⟩) 1 1)) B3 code3.length code3 := (Kd.R_reads' (Kd.R_set HC5.out HX5.out (by decide) 4 _)).2.2
  have hH6 : k49.C (W5.setCell ⟨G3, 4, none⟩ (.slice (some ⟨G4, 0, none⟩) 1 1)) (some ⟨G4, 0, none⟩) 1 [⟨h0, h1, h2, h3⟩] := blk_C49 ((Below.heap_setCell W5 ⟨G3, 4, none⟩ _ G4 (by have := HG4.out; show G4 ≠ G3; omega)).trans HG5.out)
  have HB6 := Aside0.mk hb6
  have hgb := graph_build (nm := ⟨#[102]⟩) (pa := 0) (lo := 0) (code := code3) (hs := [⟨h0, h1, h2, h3⟩]) (c4 := 1) (by decide) (by simp) hC6 HK3.out hH6 (by simp)
  clear hx6 hb6 hC6 hH6
  go_wp2_with (fail)
  refine hgb.mono ?_
  rintro e w7 ⟨v, st, nx, ord, l, hd, rfl, hz, hh, hb⟩
  obtain ⟨a0, a1, a2, a3, a4, k0, k1, k2, k3, k4, ev, _⟩ := id (hh w7 (Nat.le_refl _) fun _ _ _ h _ => h)
  subst ev
  have HBF : Aside0 (Below G1 w w7) := ⟨HB6.out.trans (hb.mono (by have := HB6.out.size; have := HG.out; omega))⟩
  clear hz hh hb hgb x0 x1 x2 x3 x4
  go_wp2_with (fail)
  go_ret
  refine ⟨rfl, ?_⟩
  have := HBF.out
  rw [← HG.out] at this
  exact below_alloc this _
end Go.Proofs.Ytmeaepmimnmjlaa.Ask
/- row (f34): so many blocks, each behind the one ahead: by its meaning. -/
namespace Go.Proofs.Ytmeaepmimnmjlaa.Ask
open Go.Proofs.Ytmeaepmimnmjlaa.Dfs Go.Proofs.Ytmeaepmimnmjlaa.Dom Go.Proofs.Ytmeaepmimnmjlaa.DomT Go.RowKit Go.Shelf Go.Proofs.Ytmeaepmimnmjlaa.PGb Go.Proofs.Ytmeaepmimnmjlaa.Lit Go.Proofs.Ytmeaepmimnmjlaa.OwnCells Go.Proofs.YtmeaepmimnmjlaaW.PrintWords Go.Proofs.YtmeaepmimnmjlaaW.PrintLast Go.Proofs.YtmeaepmimnmjlaaW.PrintMore
attribute [local go_sem] Oper.semAt_some
attribute [local go_sem] run_store_fn
attribute [local go_sem] run_eql_fn
set_option linter.unusedVariables false
set_option linter.unusedSimpArgs false
def fl : Nat → List Value
  | 0 => []
  | k + 1 => fl k ++ [.int .i64 61, .int .i64 0]
theorem fl_len : ∀ k, (fl k).length = k * 2
  | 0 => rfl
  | k + 1 => by rw [fl, List.length_append, fl_len k]; simp; omega
theorem fl_get : ∀ (k i : Nat), i < k → (fl k)[i * 2]? = some (.int .i64 61) ∧ (fl k)[i * 2 + 1]? = some (.int .i64 0)
  | 0, i, h => absurd h (Nat.not_lt_zero _)
  | k + 1, i, h => by
    have hl := fl_len k
    by_cases hi : i < k
    · obtain ⟨h1, h2⟩ := fl_get k i hi
      rw [fl, List.getElem?_append_left (by omega), List.getElem?_append_left (by omega)]
      exact ⟨h1, h2⟩
    · have e : i = k := by omega
      subst e
      rw [fl, List.getElem?_append_right (by omega), List.getElem?_append_right (by omega), hl]
      simp
theorem own_rowC {W : World} {b n c : Nat} {A : Option Addr} (h : W.ownsRow b 40 2 (.slice A n c) n (fl n)) (hn : n ≤ 1048576) : k40.C W A (rowC n).length (rowC n) := by
  rw [rowC_len]
  refine ⟨by rw [rowC_len], by omega, fun hp => ?_⟩
  obtain ⟨g, cap, e, _, _⟩ := h.form hp
  injection e with e1 _ e3
  subst e1 e3
  refine ⟨_, rfl, fun i p hi => ?_⟩
  obtain ⟨hin, rfl⟩ := rowC_at hi
  obtain ⟨h1, h2⟩ := fl_get n i hin
  refine ⟨[.int .i64 61, .int .i64 0], rfl, k40_mk W ⟨61, 0⟩, fun j u hj => ?_⟩
  rw [add_plain]
  have hz : k40.sz = 2 := rfl
  rw [hz]
  match j, hj with
  | 0, hj =>
    simp at hj
    subst hj
    simpa using (own_cell h (i * 2) _ h1).1
  | 1, hj =>
    simp at hj
    subst hj
    simpa using (own_cell h (i * 2 + 1) _ h2).1
theorem down_mem (x : Int) : ∀ k, x ∈ down k ↔ 0 ≤ x ∧ x < (k : Int)
  | 0 => by simp [down] <;> omega
  | k + 1 => by
    rw [down, List.mem_cons, down_mem x k]
    omega
theorem down_get : ∀ (k i : Nat), i < k → (down k)[i]? = some ((k : Int) - 1 - (i : Int))
  | 0, i, h => absurd h (Nat.not_lt_zero _)
  | k + 1, 0, h => by simp [down] <;> omega
  | k + 1, i + 1, h => by rw [down, List.getElem?_cons_succ, down_get k i (by omega)]; congr 1; omega
/-- the two boxes -/
structure RW2 (w W : World) (v : Value) : Prop where
  rb : W.heap[w.heap.size]? = some (.cells #[.bool false] 4 (0, 0))
  fb : W.heap[w.heap.size + 1]? = some (.cells #[.string ⟨#[102]⟩, .int .i64 0, .int .i64 0, v, .slice none 0 0] 25 (0, 0))
  below : Below w.heap.size w W
theorem RW2.from_ {w W W' : World} {v : Value} (h : RW2 w W v) (hb : Below W.heap.size W W') : RW2 w W' v := ⟨blk_below h.rb hb, blk_below h.fb hb, h.below.trans (hb.mono h.below.size)⟩
set_option maxHeartbeats 8000000 in
set_option maxRecDepth 100000 in
theorem row_own (N : Nat) (hN1 : 2 ≤ N) (hN2 : N ≤ 1000) (w : World) :
    Calls Try.prog 34 #[.int .i64 (N : Int)] w fun e w' => e = .returned (.bool true) ∧ Below w.heap.size w w' := by
  have HN1 := Aside0.mk hN1
  have HN2 := Aside0.mk hN2
  clear hN1 hN2
  have hu25 := Try.underlying25
  have hu29 := Try.underlying29
  have hu40 := Try.underlying40
  refine (callsIn_wide (n := 10)).1 ?_
  refine callsIn_of_wp_marks Try.func34 rfl trivial ?_ rfl
  refine wpIn_wide.2 ?_
  simp only [Try.ntmps34, List.size_toArray, List.length_cons, List.length_nil, Nat.reduceAdd, Nat.reduceSub, Array.replicate_succ, Array.replicate_zero, List.push_toArray, List.append_toArray, List.nil_append, List.cons_append]
  go_upto_region 2 with (fail)
  have HR : Aside0 (RW2 w ((w.alloc (.cells #[.bool false] 4)).alloc (.cells #[.string ⟨#[102]⟩, .int .i64 0, .int .i64 0, .slice none 0 0, .slice none 0 0] 25)) (.slice none 0 0)) := ⟨by
    refine ⟨((World.grownBy_alloc (w.alloc _) _ none).block _ (by simp) (by simp)).trans (World.alloc_heap_new w _), ?_, below_alloc (below_alloc (Below.refl _ _) _) _⟩
    have := World.alloc_heap_new (w.alloc (.cells #[.bool false] 4)) (.cells #[.string ⟨#[102]⟩, .int .i64 0, .int .i64 0, .slice none 0 0, .slice none 0 0] 25)
    rw [World.size_alloc] at this
    exact this⟩
  have HSZ : Aside0 (((w.alloc (.cells #[.bool false] 4)).alloc (.cells #[.string ⟨#[102]⟩, .int .i64 0, .int .i64 0, .slice none 0 0, .slice none 0 0] 25)).heap.size = w.heap.size + 2) := ⟨by simp⟩
  revert HR
  revert HSZ
  generalize (w.alloc (.cells #[.bool false] 4)).alloc (.cells #[.string ⟨#[102]⟩, .int .i64 0, .int .i64 0, .slice none 0 0, .slice none 0 0] 25) = W0
  intro HSZ HR
  obtain ⟨i40, hi40, hz400, hz401, hz402⟩ := info_parts info40
  have HI := Aside0.mk hi40
  have HZ0 := Aside0.mk hz400
  have HZ1 := Aside0.mk hz401
  have HZ2 := Aside0.mk hz402
  clear hi40 hz400 hz401 hz402
  go_wp2_with (fail)
  go_loopw [4] (fun v wr => ∃ (k : Nat) (v3 : Value), k ≤ N ∧ v = .int .i64 (k : Int) ∧ RW2 w wr v3 ∧ wr.ownsRow (w.heap.size + 2) 40 2 v3 k (fl k) ∧ w.heap.size + 2 ≤ wr.heap.size) (fun v _ => ((N : Int) - intOf v).toNat)
  case atStart => exact ⟨0, _, Nat.zero_le _, rfl, HR.out, World.ownsRow_nil _ _ _ _, by have := HSZ.out; omega⟩
  case round =>
    obtain ⟨k, v3, hk, rfl, hR, hO, hs⟩ := hrel
    have HRR := Aside0.mk hR
    have HO := Aside0.mk hO
    have HS := Aside0.mk hs
    have hkm : k < 9223372036854775807 := by have := HN2.out; omega
    by_cases hkn : k < N
    · have hkn' : (k : Int) < (N : Int) := by omega
      have HK := Aside0.mk hkn
      obtain ⟨A3, c3, rfl⟩ := row_slice hO
      have f3 := cell_blk hR.fb (i := 3) rfl
      clear hk hkn hR hO hs
      go_wp2_with (first | ((with_reducible refine gate_builtin (b := .append) rfl ?_); at_builtin; refine wpList_append_own _ rfl _ _ 22 rfl (w.heap.size + 2) 40 i40 (.agg #[.int .i64 0, .int .i64 0]) 2 16 Try.underlying22 HI.out HZ0.out HZ1.out HZ2.out rfl (by decide) _ _ _ rfl (World.ownsRow.alloc HO.out _) ⟨wr.heap.size, 0, none⟩ 1 1 [.int .i64 61, .int .i64 0] rfl rfl ?hn1 (by simp [Value.oneCell']) ?hn2 ?hn3 ?hn4 ?_; (case hn1 => exact fun j u hj => by rw [add_plain]; unfold World.cell? World.alloc; (match j, hj with | 0, hj => (simp at hj; subst hj; simp) | 1, hj => (simp at hj; subst hj; simp))); (case hn2 => have := HK.out; have := HN2.out; unfold maxLen; omega); (case hn3 => have := HK.out; have := HN2.out; omega); (case hn4 => rw [World.size_alloc]; have := HS.out; omega); intro v9 w9 hown9 hgrow9 _; refine Classical.byContradiction (fun hcon => ?hst)) | go_in)
      refine hcon ?_
      have hg9 := (World.grownBy_alloc wr (.cells #[.int .i64 61, .int .i64 0] 40) (Value.slice A3 k c3).ownBlock).trans hgrow9
      obtain ⟨gv, cv, rfl⟩ := ownsRow_succ hown9
      have hgv : w.heap.size + 2 ≤ gv := own_base hown9 gv rfl
      have hfb9 := (hg9.block _ (blk_lt HRR.out.fb) (own_ne_box HO.out HRR.out.fb (by decide))).trans HRR.out.fb
      have hrb9 := (hg9.block _ (blk_lt HRR.out.rb) (own_ne_box HO.out HRR.out.rb (by decide))).trans HRR.out.rb
      have f3 := cell_blk hfb9 (i := 3) rfl
      have fz3 : w9.frozen? ⟨w.heap.size + 1, 3, none⟩ = false := by simp [World.frozen?, hfb9]
      have HR9 : Aside0 (RW2 w (w9.setCell ⟨w.heap.size + 1, 3, none⟩ (.slice (some ⟨gv, 0, none⟩) (k + 1) cv)) (.slice (some ⟨gv, 0, none⟩) (k + 1) cv)) := ⟨(Below.heap_setCell w9 ⟨w.heap.size + 1, 3, none⟩ _ w.heap.size (by simp)).trans hrb9, blk_set hfb9, (HRR.out.below.grown hg9 HRR.out.below.size (fun j e => by have := own_base HO.out j e; omega)).setCell (p := ⟨w.heap.size + 1, 3, none⟩) (by show w.heap.size ≤ w.heap.size + 1; omega) _⟩
      have HO9 : Aside0 ((w9.setCell ⟨w.heap.size + 1, 3, none⟩ (.slice (some ⟨gv, 0, none⟩) (k + 1) cv)).ownsRow (w.heap.size + 2) 40 2 (.slice (some ⟨gv, 0, none⟩) (k + 1) cv) (k + 1) (fl (k + 1))) := ⟨own_setLow hown9 (by omega)⟩
      have HS9 : Aside0 (w.heap.size + 2 ≤ (w9.setCell ⟨w.heap.size + 1, 3, none⟩ (.slice (some ⟨gv, 0, none⟩) (k + 1) cv)).heap.size) := ⟨by have := hg9.size; have := HS.out; simp; omega⟩
      clear hown9 hgrow9 hcon hg9 hgv hfb9 hrb9 HRR HO HS
      go_wp2_with (fail)
      clear f3 fz3
      go_roundw
      case measure => simp [intOf]; omega
      case rel => exact ⟨k + 1, _, HK.out, by first | rfl | go_num, HR9.out, HO9.out, HS9.out⟩
    · have hkk : N = k := by omega
      subst hkk
      have hkn' : (N : Int) ≤ (N : Int) := by omega
      obtain ⟨A3, c3, rfl⟩ := row_slice hO
      have f0 := cell_blk hR.fb (i := 0) rfl
      have f1 := cell_blk hR.fb (i := 1) rfl
      have f2 := cell_blk hR.fb (i := 2) rfl
      have f3 := cell_blk hR.fb (i := 3) rfl
      have f4 := cell_blk hR.fb (i := 4) rfl
      have hgb := graph_build (w := wr) (nm := ⟨#[102]⟩) (pa := 0) (lo := 0) (code := rowC N) (hs := []) (c3 := c3) (c4 := 0) (by rw [rowC_len]; have := HN2.out; omega) (by simp) (own_rowC hO (by have := HN2.out; omega)) (by rw [rowC_len]; exact own_cap hO) (nil_C wr) (by simp)
      rw [rowC_len] at hgb
      have he : errOf (rowC N) [] = 0 := (errOf_fits _ _).2 (fitsR (by have := HN1.out; omega))
      rw [he] at hgb
      clear hk hkn hR hO hs HO he HI HZ0 HZ1 HZ2
      go_wp2_with (fail)
      (try rw [show decide (N < N) = false from decide_eq_false (by omega)])
      refine hgb.mono ?_
      rintro e w1 ⟨v, st, nx, ord, l, hd, rfl, hz, hh, hb⟩
      rcases hz with ⟨_, n, m, hg⟩ | ⟨hf, _⟩
      case inr => exact absurd (fitsR (by have := HN1.out; omega)) hf
      obtain ⟨rfl, hrl⟩ := knownR (by have := HN1.out; omega) hg
      obtain ⟨a0, a1, a2, a3, a4, k0, k1, k2, k3, k4, ev, r0, r1, r2, r3, r4⟩ := hh w1 (Nat.le_refl _) fun _ _ _ h _ => h
      rw [hg.ln, hg.lnx, hg.lord, hg.ll, hg.lm] at ev
      subst ev
      have hll := hg.ll
      have HLL := Aside0.mk hll
      have HR3 := Aside0.mk r3
      have HR1 := Aside0.mk (HRR.out.from_ hb)
      have HN9 := HN1.out
      have hdm : doms l n ((n : Int) - 1) = down n := by
        have := doms_down hll hrl (n - 1) n (by omega) (by omega)
        rw [show ((n - 1 : Nat) : Int) = (n : Int) - 1 by omega, show n - 1 + 1 = n by omega] at this
        exact this
      have hd0 : doms l n 0 = down 1 := doms_down hll hrl 0 n (by omega) (by omega)
      have HDM := Aside0.mk hdm
      have HD0 := Aside0.mk hd0
      have HS1 : Aside0 (w.heap.size + 2 ≤ w1.heap.size) := ⟨Nat.le_trans HS.out hb.size⟩
      clear hh hb hg hrl r0 r1 r2 r3 r4 hgb f0 f1 f2 f3 f4 hll hdm hd0 HN9 HRR HS
      go_upto_region 7 with (fail)
      have hb5 := below_alloc (Below.refl _ w1) (.cells #[.slice a0 n k0, .slice a1 n k1, .slice a2 n k2, .slice a3 n k3, .slice a4 m k4] 29)
      have HX := Aside0.mk (World.alloc_heap_new w1 (.cells #[.slice a0 n k0, .slice a1 n k1, .slice a2 n k2, .slice a3 n k3, .slice a4 m k4] 29))
      have HR5 := Aside0.mk (HR1.out.from_ hb5)
      have HC5 := Aside0.mk (Kd.C_below HR3.out hb5)
      have HS5 : Aside0 (w.heap.size + 2 ≤ (w1.alloc (.cells #[.slice a0 n k0, .slice a1 n k1, .slice a2 n k2, .slice a3 n k3, .slice a4 m k4] 29)).heap.size) := ⟨by have := HS1.out; simp; omega⟩
      clear hb5 HR1 HR3
      revert HX
      revert HR5
      revert HC5
      revert HS5
      generalize w1.alloc (.cells #[.slice a0 n k0, .slice a1 n k1, .slice a2 n k2, .slice a3 n k3, .slice a4 m k4] 29) = W2
      generalize w1.heap.size = G5 at HS1 ⊢
      intro HS5 HC5 HR5 HX
      have y0 := cell_blk HX.out (i := 0) rfl
      have y1 := cell_blk HX.out (i := 1) rfl
      have y2 := cell_blk HX.out (i := 2) rfl
      have y3 := cell_blk HX.out (i := 3) rfl
      have y4 := cell_blk HX.out (i := 4) rfl
      have hE : ((n : Int) != (n : Int)) = false := by simp
      have hn1 : (1 : Int) ≤ (n : Int) := by have := HN1.out; omega
      have hn2 : (n : Int) ≤ 1000 := by have := HN2.out; omega
      have hd1 := dominates_calls a0 a1 a2 a3 a4 k0 k1 k2 k3 k4 n n n m l 0 ((n : Int) - 1) W2 HC5.out (by rw [HLL.out]; have := HN2.out; omega)
      rw [HLL.out, HDM.out, decide_eq_true ((down_mem 0 n).2 (by omega))] at hd1
      go_wp2_with (fail)
      refine hd1.mono ?_
      rintro e w3 ⟨rfl, hb⟩
      have HX3 := Aside0.mk (blk_below HX.out hb)
      have HR6 := Aside0.mk (HR5.out.from_ hb)
      have HC6 := Aside0.mk (Kd.C_below HC5.out hb)
      have HS6 : Aside0 (w.heap.size + 2 ≤ w3.heap.size) := ⟨Nat.le_trans HS5.out hb.size⟩
      clear hd1 hb y0 y1 y2 y3 y4 HX HR5 HC5 HS5
      have y0 := cell_blk HX3.out (i := 0) rfl
      have y1 := cell_blk HX3.out (i := 1) rfl
      have y2 := cell_blk HX3.out (i := 2) rfl
      have y3 := cell_blk HX3.out (i := 3) rfl
      have y4 := cell_blk HX3.out (i := 4) rfl
      have hd1 := dominates_calls a0 a1 a2 a3 a4 k0 k1 k2 k3 k4 n n n m l 1 0 w3 HC6.out (by rw [HLL.out]; have := HN2.out; omega)
      rw [HLL.out, HD0.out, show decide ((1 : Int) ∈ down 1) = false from by decide] at hd1
      go_wp2_with (fail)
      refine hd1.mono ?_
      rintro e w4 ⟨rfl, hb⟩
      have HX4 := Aside0.mk (blk_below HX3.out hb)
      have HR7 := Aside0.mk (HR6.out.from_ hb)
      have HC7 := Aside0.mk (Kd.C_below HC6.out hb)
      have HS7 : Aside0 (w.heap.size + 2 ≤ w4.heap.size) := ⟨Nat.le_trans HS6.out hb.size⟩
      clear hd1 hb y0 y1 y2 y3 y4 HX3 HR6 HC6 HS6
      go_upto_region 10 with (fail)
      have hb5 := below_alloc (Below.refl _ w4) (.cells #[.int .i64 ((n : Int) - 1)] 3)
      have HA := Aside0.mk (World.alloc_heap_new w4 (.cells #[.int .i64 ((n : Int) - 1)] 3))
      have HX8 := Aside0.mk (blk_below HX4.out hb5)
      have HR8 := Aside0.mk (HR7.out.from_ hb5)
      have HC8 := Aside0.mk (Kd.C_below HC7.out hb5)
      have HSA : Aside0 ((w4.alloc (.cells #[.int .i64 ((n : Int) - 1)] 3)).heap.size = w4.heap.size + 1) := ⟨by simp⟩
      clear hb5 HX4 HR7 HC7
      revert HA
      revert HX8
      revert HR8
      revert HC8
      revert HSA
      generalize w4.alloc (.cells #[.int .i64 ((n : Int) - 1)] 3) = W8
      generalize w4.heap.size = GA at HS7 ⊢
      intro HSA HC8 HR8 HX8 HA
      have y0 := cell_blk HX8.out (i := 0) rfl
      have y1 := cell_blk HX8.out (i := 1) rfl
      have y2 := cell_blk HX8.out (i := 2) rfl
      have y3 := cell_blk HX8.out (i := 3) rfl
      have y4 := cell_blk HX8.out (i := 4) rfl
      have hd1 := doms_calls a0 a1 a2 a3 a4 k0 k1 k2 k3 k4 n n n m l ((n : Int) - 1) W8 HC8.out (by rw [HLL.out]; have := HN2.out; omega)
      rw [HLL.out] at hd1
      go_wp2_with (fail)
      refine hd1.mono ?_
      rintro e W9 ⟨B1, B2, P, d, rfl, hS, hb⟩
      have HA9 := Aside0.mk (blk_below HA.out hb)
      have HR9 := Aside0.mk (HR8.out.from_ hb)
      have HS9 := Aside0.mk hS
      have HSZ9 : Aside0 (GA < W9.heap.size ∧ W8.heap.size ≤ W9.heap.size) := ⟨by have := hb.size; have := HSA.out; omega⟩
      clear hd1 hb hS y0 y1 y2 y3 y4 HX8 HR8 HC8 HA hE
      go_wp2_with (fail)
      refine (wpIn_wide (n := 10)).1 ?_
      obtain ⟨n5, hn5⟩ : ∃ n5, W9.heap.size = n5 := ⟨_, rfl⟩
      have hSS := HS9.out
      have hsz := HSZ9.out
      have hlow := HS7.out
      have hsa := HSA.out
      have hBB : B1 < n5 ∧ B2 < n5 := ⟨by rw [← hn5]; exact blk_lt hSS.b1, by rw [← hn5]; exact blk_lt hSS.b2⟩
      have hlo1 := hSS.lo1
      have hlo2 := hSS.lo2
      have hbel := HR9.out.below
      have hSK : ∀ W', Range.KBut n5 GA W9 W' → Seq W' W8.heap.size B1 B2 P d l ((n : Int) - 1) := fun W' h =>
        ⟨h.blk hSS.b1 hBB.1 (by omega), h.blk hSS.b2 hBB.2 (by omega), Kd.C_keep 0 hSS.row (g := GA) ⟨h.1, fun i hi hne _ => h.2 i (by omega) hne⟩ (fun ad e _ => by have := hSS.lo ad e; omega), hlo1, hlo2, hSS.lo⟩
      refine Range.rangeHK (Range.KBut n5 GA) (fun h k => h.trans k) (Range.KBut.refl _ _) rfl (by decide) rfl trivial (enters_of Try.func68 (by kernel_rfl) rfl) (by simp)
        (above_stopsK (Range.KBut n5 GA) (fun h k => h.trans k) Fence.wide 9 trivial rfl (by decide) B1 B2 W8.heap.size P d l ((n : Int) - 1) (by rw [HLL.out]; omega) W9 hSK W9 (fun W hW => Range.KBut.of_below (hn5 ▸ hW))) (Range.KBut.put (by omega)) (Below.refl _ _)
        (fun pre W => Boxed W GA 3 (.int .i64 ((n : Int) - 1 - (pre.length : Int))) ∧ (Below w.heap.size w W ∧ Range.KBut n5 GA W9 W))
        (fun c (pre : List Int) W => ∃ (pre' : List Int) (x : Int), pre = pre' ++ [x] ∧ x ≠ (n : Int) - 1 - (pre'.length : Int))
        (OwnFrom.and (Own.from (boxed_own _ _ (fun (pre : List Int) => Value.int .i64 ((n : Int) - 1 - (pre.length : Int)))) _) (OwnFrom.and (ownFrom_below (by omega) (by omega)) (Range.KBut.own (by omega) (by omega))))
        (fun _ _ _ _ _ hs _ _ => hs)
        ⟨by simpa [Boxed] using HA9.out, hbel, Range.KBut.refl _ _ _⟩ ?body ?done ?stop
      case stop =>
        rintro D c pre W hD hpx ⟨pre', x, rfl, hne⟩ hK
        exfalso
        rw [HLL.out, HDM.out] at hpx
        obtain ⟨t, ht⟩ := hpx
        have h1 : (down n)[pre'.length]? = some x := by rw [← ht]; simp
        have h2 : pre'.length < n := by
          have h3 := (List.getElem?_eq_some_iff.1 h1).1
          rw [down_len] at h3
          exact h3
        rw [down_get n _ h2] at h1
        exact hne (Option.some.inj h1).symm
      case body =>
        rintro lp pre x W hlp - ⟨hA, hB, hKB⟩ hlt
        rw [HLL.out, HDM.out, down_len] at hlt
        simp only [List.setIfInBounds_toArray, List.set_cons_succ, List.set_cons_zero]
        have kA := Boxed.cell hA
        have fA := Boxed.frozen hA
        have hlt' : (pre.length : Int) < (n : Int) := by omega
        obtain ⟨y, hy⟩ : ∃ y, (n : Int) - 1 - (pre.length : Int) = y := ⟨_, rfl⟩
        rw [hy] at kA
        have hy0 : -1 ≤ y - 1 := by omega
        have hy1 : y ≤ 1000 := by omega
        have HY := Aside0.mk hy
        have HAA := Aside0.mk hA
        have HBB := Aside0.mk hB
        have HKK := Aside0.mk hKB
        have HGW : Aside0 (w.heap.size ≤ GA) := ⟨by omega⟩
        have hrb := hKB.blk HR9.out.rb (by have := blk_lt HR9.out.rb; omega) (by omega)
        have kR := cell_blk hrb (i := 0) rfl
        have fR : W.frozen? ⟨w.heap.size, 0, none⟩ = false := by simp [World.frozen?, hrb]
        clear hy hA hB hKB hrb hlt hlt' hSS hsz hlow hsa hBB hlo1 hlo2 hbel hSK hn5 hlp hn1 hn2
        by_cases hx : x = y
        · subst hx
          have hE : (x != x) = false := by simp
          gi_wp2_with (fail)
          refine ⟨(KeepsOthers.setCell _ _ _).from _, (Range.KBut.refl _ _ _).set 0 _, ?_, HBB.out.setCell (p := ⟨GA, 0, none⟩) HGW.out _, HKK.out.set 0 _⟩
          have h9 := Boxed.set (W := W) (.int .i64 (x - 1)) HAA.out
          rw [List.length_append, List.length_singleton, show (n : Int) - 1 - ((pre.length + 1 : Nat) : Int) = x - 1 by have := HY.out; omega]
          exact h9
        · have hE : (x != y) = true := by simpa using hx
          gi_wp2_with (fail)
          exact ⟨(KeepsOthers.setCell _ _ _).from _, pre, x, rfl, by rw [HY.out]; exact hx⟩
      case done =>
        rintro D xs W hD e ⟨hA, hB, hKB⟩ hK
        rw [HLL.out, HDM.out] at e
        subst e
        rw [down_len, show (n : Int) - 1 - (n : Int) = -1 by omega] at hA
        have kA := Boxed.cell hA
        have hrb := hKB.blk HR9.out.rb (by have := blk_lt HR9.out.rb; omega) (by omega)
        have kR := cell_blk hrb (i := 0) rfl
        have fR : W.frozen? ⟨w.heap.size, 0, none⟩ = false := by simp [World.frozen?, hrb]
        have HRB := Aside0.mk hrb
        have HBB := Aside0.mk hB
        have HK := Aside0.mk hK
        have HDW : Aside0 (w.heap.size < D) := ⟨by have := blk_lt HR9.out.rb; omega⟩
        clear hA hB hKB hK hrb hSS hsz hlow hsa hBB hlo1 hlo2 hbel hSK hD hn5
        go_wp2_with (fail)
        have hR9 := blk_set (j := 0) (v := .bool true) HRB.out
        have hB9 : Below w.heap.size w (W.setCell ⟨w.heap.size, 0, none⟩ (.bool true)) := HBB.out.setCell (p := ⟨w.heap.size, 0, none⟩) (Nat.le_refl _) _
        have hK9 : (W.setCell ⟨w.heap.size, 0, none⟩ (.bool true)).heap[D]? = some (.deferred (some [])) := (Below.heap_setCell W ⟨w.heap.size, 0, none⟩ (.bool true) D (by have := HDW.out; show D ≠ w.heap.size; omega)).trans HK.out
        refine leaves_marks (base := w.heap.size) [D] _ ⟨⟨by have := HDW.out; omega, hK9, fun D' h => by cases h⟩, trivial⟩ fun W' hB' hc => ?_
        exact ⟨_, results_cell1 rfl _ _ ⟨w.heap.size, 0, none⟩ true rfl (cell_blk (hc _ _ hR9 rfl) (i := 0) rfl), rfl, hB9.trans hB'⟩
end Go.Proofs.Ytmeaepmimnmjlaa.Ask
-- written by a program of this session (leafprint.py, cutsec.py) over the translation; Lean checks it
namespace Go.Proofs.Ytmeaepmimnmjlaa.PGb
open Go.RowKit Go.Proofs.YtmeaepmimnmjlaaW.PrintWords Go.Proofs.YtmeaepmimnmjlaaW.PrintLast Go.Proofs.YtmeaepmimnmjlaaW.PrintMore
attribute [local go_sem] max2_int min2_int max_two min_two max_three min_three max_four min_four   -- for this text's walks alone
set_option linter.unusedVariables false
set_option linter.unusedSimpArgs false

/-! ### portageref0_CopyInstrs: function 54 -/
def portageref0_CopyInstrs.l0 : Nat → List (S40) → List (S40) → Int → Option ((List (S40)))
  | 0, _, _, _ => none
  | k + 1, x0, x3, x4 => if x4 < (x0.length : Int) then (if 0 ≤ x4 then (if x3.length < 8796093022208 then (portageref0_CopyInstrs.l0 k x0 (x3 ++ [(⟨(rd_T40 x0 x4).f0, (rd_T40 x0 x4).f1⟩ : S40)]) (wrap64 (x4 + 1))) else (none)) else (none)) else (some x3)
def portageref0_CopyInstrs.f (k : Nat) (l0 : List (S40)) : Option ((List (S40))) := portageref0_CopyInstrs.l0 k l0 ([] : List (S40)) 0
theorem portageref0_CopyInstrs.mono_l : ∀ k, (∀ y0 y1 y2, LeO (portageref0_CopyInstrs.l0 k y0 y1 y2) (portageref0_CopyInstrs.l0 (k + 1) y0 y1 y2))
  | 0 => fun _ _ _ r h => by simp [portageref0_CopyInstrs.l0] at h
  | k + 1 => by
    have ih0 := portageref0_CopyInstrs.mono_l k
    · intro y0 y1 y2
      unfold portageref0_CopyInstrs.l0
      repeat' first
      | (with_reducible exact ih0 _ _ _)
      | (with_reducible exact LeO.refl _)
      | (with_reducible exact LeO.none _)
      | (with_reducible refine LeO.ite ?_ ?_)
      | (with_reducible refine LeO.bind ?_ (fun _ => ?_))
      | exact ih0 _ _ _
      | exact LeO.none _
      | refine LeO.ite ?_ ?_
      | refine LeO.bind ?_ (fun _ => ?_)
theorem portageref0_CopyInstrs.mono : ∀ a0 k, LeO (portageref0_CopyInstrs.f k a0) (portageref0_CopyInstrs.f (k + 1) a0) := by
 intro a0 k; have ih0 := portageref0_CopyInstrs.mono_l k; unfold portageref0_CopyInstrs.f; repeat' first
  | (with_reducible exact ih0 _ _ _)
  | (with_reducible exact LeO.refl _)
  | (with_reducible exact LeO.none _)
  | (with_reducible refine LeO.ite ?_ ?_)
  | (with_reducible refine LeO.bind ?_ (fun _ => ?_))
  | exact ih0 _ _ _
  | exact LeO.none _
  | refine LeO.ite ?_ ?_
  | refine LeO.bind ?_ (fun _ => ?_)
set_option maxHeartbeats 8000000 in
set_option maxRecDepth 100000 in
theorem portageref0_CopyInstrs.calls (k : Nat) (A0 : Option Addr) (c0 : Nat) (l0 : List (S40)) (r : List (S40)) (w : World) (hr0 : Kd.C k40 w A0 l0.length l0) (hc0 : l0.length ≤ c0) (h : portageref0_CopyInstrs.f k l0 = some r) :
    Calls Try.prog 54 #[.slice A0 l0.length c0] w fun e w' => ∃ v0_ : Value, e = .returned (v0_) ∧ Kd.R k40 40 w' w.heap.size (fun _ => True) v0_ r ∧ Below w.heap.size w w' := by
 have hu40 := Try.underlying40; have HR0 := Aside0.mk hr0; have HC0 := Aside0.mk hc0; clear hr0 hc0; have HB := Aside0.mk (Below.refl w.heap.size w); have H : (portageref0_CopyInstrs.l0 k l0 ([] : List (S40)) 0) = some r := h; clear h; have H' := Aside0.mk H; clear H; go_enter Try.func54, Try.ntmps54; go_wp2; go_loopg [3, 4] k (fun kq v3 v4 w' => ∃ (x3_1 : List (S40)) (x4_1 : Int), v4 = .int .i64 x4_1 ∧ Aside0 (portageref0_CopyInstrs.l0 kq l0 x3_1 x4_1 = some r) ∧ Aside0 (kq ≤ k) ∧ Aside0 (Kd.R k40 40 w' w.heap.size (fun _ => True) v3 x3_1) ∧ Aside0 (Below w.heap.size w w'))
 case atStart => exact ⟨(([] : List (S40))), (0), (by first | rfl | (simp; done) | (simp [*]; done)), H', ⟨Nat.le_refl _⟩, ⟨by first | exact Kd.R_nil _ _ _ _ _ | exact Kd.N_nil _ _ _ _ _ | exact Kd.V_nil _ _ _ _ _ | exact Kd.Q_nil _ _ _ _ _ | exact Kd.S_nil _ _ _ _ _⟩, ⟨by repeat (first | (with_reducible first | exact HB.out | apply below_alloc | apply pw_below_drewN | apply below_drew1) | exact HB.out)⟩⟩
 case round =>
  clear H'; obtain ⟨x3_1, x4_1, rfl, HA, HK1, HO_3, HB⟩ := hrel
  cases gk with
  | zero => exact absurd HA.out (by simp [portageref0_CopyInstrs.l0])
  | succ k1 =>
   have H := HA.out; clear HA; simp only [portageref0_CopyInstrs.l0] at H
   by_cases c2 : x4_1 < (l0.length : Int)
   ·rw [if_pos c2] at H; have c2b0 : decide (x4_1 < (l0.length : Int)) = true := decide_eq_true c2; clear c2
    by_cases c3 : 0 ≤ x4_1
    ·rw [if_pos c3] at H; have c3b0 : decide (0 ≤ x4_1) = true := decide_eq_true c3; clear c3
     by_cases c4 : x3_1.length < 8796093022208
     ·rw [if_pos c4] at H; have LMc4 := Aside0.mk c4; clear c4; obtain ⟨y234, hy234⟩ : ∃ y_ : List (S40), y_ = (x3_1 ++ [(⟨(rd_T40 l0 x4_1).f0, (rd_T40 l0 x4_1).f1⟩ : S40)]) := ⟨_, rfl⟩; replace H : (portageref0_CopyInstrs.l0 k1 l0 y234 (wrap64 (x4_1 + 1))) = some r := by first | (rw [hy234]; with_reducible exact H) | (have H2_ := (Option.bind_some _ _).symm.trans H; rw [hy234]; with_reducible exact H2_) | (have H2_ := (Option.bind_some _ _).symm.trans H; with_reducible exact H2_) | with_reducible exact H | (rw [hy234]; exact H) | exact H
      have Ny234 := Aside0.mk hy234; clear hy234; have H' := Aside0.mk H; clear H; have p233 : 0 ≤ (x4_1 : Int) := of_decide_eq_true (by first | (with_reducible assumption) | assumption); have q233 : x4_1 < (l0.length : Int) := of_decide_eq_true (by first | (with_reducible assumption) | assumption); obtain ⟨ad233, e233, hx233_0, hx233_1⟩ := at_T40 HR0.out x4_1 p233 q233
      cases e233; replace hx233_0 := (HB.out.cell (World.block_lt_of_cell? w _ hx233_0)).trans hx233_0; replace hx233_1 := (HB.out.cell (World.block_lt_of_cell? w _ hx233_1)).trans hx233_1; replace p233 := eq_true p233; replace q233 := eq_true q233; go_wp2_with (first | ((with_reducible refine gate_builtin (b := .append) (xs := #[.tmp 11, .tmp 16]) rfl ?_); at_builtin; refine Kd.R_append k40 (w0 := w) w.heap.size rfl (.tmp 11) (.tmp 16) 22 40 (.agg #[(.int .i64 0), (.int .i64 0)]) 16 rfl Try.underlying22 info40 rfl (by decide) (by omega) u3 x3_1 (⟨(rd_T40 l0 x4_1).f0, (rd_T40 l0 x4_1).f1⟩ : S40) [.int .i64 ((rd_T40 l0 x4_1).f0), .int .i64 ((rd_T40 l0 x4_1).f1)] (fun _ => True) (fun _ => False) rfl rfl ?aP (fun _ hk => hk.elim) ?aF ?aO ?aB ?aS ?aL ?_; (case aP => exact k40_mkM _ _ _ (⟨(rd_T40 l0 x4_1).f0, (rd_T40 l0 x4_1).f1⟩ : S40)); (case aB => exact (by repeat (first | (with_reducible first | exact HB.out | apply below_alloc | apply pw_below_drewN | apply below_drew1) | exact HB.out))); (case aF => exact (fun _ _ => trivial)); (case aO => exact (by (with_reducible repeat (first | apply Kd.R_alloc | apply Kd.R_drewN | apply Kd.R_drew)); exact HO_3.out)); (case aS => exact (below_size (by repeat (first | (with_reducible first | exact HB.out | apply below_alloc | apply pw_below_drewN | apply below_drew1) | exact HB.out)))); (case aL => have := LMc4.out; omega); intro v235 w5 ho hb hg hat; rw [← Ny234.out] at ho; have n0_ := Aside0.mk (hb); have n1_ := Aside0.mk (ho); clear HB; clear HO_3; have HB := n0_; have HO236 := n1_; clear n0_ n1_; clear ho hb hg hat))
      go_roundg k1
      case measure => have := HK1.out; omega
      case rel => exact ⟨(y234), (wrap64 (x4_1 + 1)), (by first | rfl | (simp; done) | (simp [*]; done)), H', ⟨by have := HK1.out; omega⟩, ⟨by (with_reducible repeat (first | apply Kd.R_alloc | apply Kd.R_drewN | apply Kd.R_drew)); exact HO236.out⟩, ⟨by repeat (first | (with_reducible first | exact HB.out | apply below_alloc | apply pw_below_drewN | apply below_drew1) | exact HB.out)⟩⟩
     ·rw [if_neg c4] at H
      exact absurd H (by simp)
    ·rw [if_neg c3] at H
     exact absurd H (by simp)
   ·rw [if_neg c2] at H; have c2b0 : decide (x4_1 < (l0.length : Int)) = false := decide_eq_false c2; clear c2; obtain rfl := Option.some.inj H; go_wp2; go_ret; exact ⟨_, by first | rfl | (simp [errW_none, errW_some] <;> rfl) | (simp [*, errW_none, errW_some] <;> rfl), by (with_reducible repeat (first | apply Kd.R_alloc | apply Kd.R_drewN | apply Kd.R_drew)); exact HO_3.out, by repeat (first | (with_reducible first | exact HB.out | apply below_alloc | apply pw_below_drewN | apply below_drew1) | exact HB.out)⟩
/-! ### portageref0_CopyFunction: function 17 -/
def portageref0_CopyFunction.l0 : Nat → List (S49) → Int → ByteArray → Int → Int → List (S40) → List (S49) → ByteArray → Int → Int → List (S40) → List (S49) → Option (ByteArray × Int × Int × (List (S40)) × (List (S49)))
  | 0, _, _, _, _, _, _, _, _, _, _, _, _ => none
  | k + 1, x4, x5, x238000, x238001, x238002, x238003, x238004, x240000, x240001, x240002, x240003, x240004 => if x5 < (x238004.length : Int) then (if 0 ≤ x5 then (if x4.length < 4398046511104 then (portageref0_CopyFunction.l0 k (x4 ++ [(⟨(rd_T49 x238004 x5).f0, (rd_T49 x238004 x5).f1, (rd_T49 x238004 x5).f2, (rd_T49 x238004 x5).f3⟩ : S49)]) (wrap64 (x5 + 1)) x238000 x238001 x238002 x238003 x238004 x240000 x240001 x240002 x240003 x240004) else (none)) else (none)) else (some (x240000, x240001, x240002, x240003, x4))
def portageref0_CopyFunction.f (k : Nat) (a0_0 : ByteArray) (a0_1 : Int) (a0_2 : Int) (l0_3 : List (S40)) (l0_4 : List (S49)) : Option (ByteArray × Int × Int × (List (S40)) × (List (S49))) := (portageref0_CopyInstrs.f k l0_3).bind fun t240 => (portageref0_CopyFunction.l0 k ([] : List (S49)) 0 a0_0 a0_1 a0_2 l0_3 l0_4 a0_0 a0_1 a0_2 t240 l0_4)
theorem portageref0_CopyFunction.mono_l : ∀ k, (∀ y0 y1 y2 y3 y4 y5 y6 y7 y8 y9 y10 y11, LeO (portageref0_CopyFunction.l0 k y0 y1 y2 y3 y4 y5 y6 y7 y8 y9 y10 y11) (portageref0_CopyFunction.l0 (k + 1) y0 y1 y2 y3 y4 y5 y6 y7 y8 y9 y10 y11))
  | 0 => fun _ _ _ _ _ _ _ _ _ _ _ _ r h => by simp [portageref0_CopyFunction.l0] at h
  | k + 1 => by
    have ih0 := portageref0_CopyFunction.mono_l k
    · intro y0 y1 y2 y3 y4 y5 y6 y7 y8 y9 y10 y11
      unfold portageref0_CopyFunction.l0
      repeat' first
      | (with_reducible exact ih0 _ _ _ _ _ _ _ _ _ _ _ _)
      | (with_reducible exact portageref0_CopyInstrs.mono _ _)
      | (with_reducible exact LeO.refl _)
      | (with_reducible exact LeO.none _)
      | (with_reducible refine LeO.ite ?_ ?_)
      | (with_reducible refine LeO.bind ?_ (fun _ => ?_))
      | exact ih0 _ _ _ _ _ _ _ _ _ _ _ _
      | exact portageref0_CopyInstrs.mono _ _
      | exact LeO.none _
      | refine LeO.ite ?_ ?_
      | refine LeO.bind ?_ (fun _ => ?_)
theorem portageref0_CopyFunction.mono : ∀ a0 a1 a2 a3 a4 k, LeO (portageref0_CopyFunction.f k a0 a1 a2 a3 a4) (portageref0_CopyFunction.f (k + 1) a0 a1 a2 a3 a4) := by
 intro a0 a1 a2 a3 a4 k; have ih0 := portageref0_CopyFunction.mono_l k; unfold portageref0_CopyFunction.f; repeat' first
  | (with_reducible exact ih0 _ _ _ _ _ _ _ _ _ _ _ _)
  | (with_reducible exact portageref0_CopyInstrs.mono _ _)
  | (with_reducible exact LeO.refl _)
  | (with_reducible exact LeO.none _)
  | (with_reducible refine LeO.ite ?_ ?_)
  | (with_reducible refine LeO.bind ?_ (fun _ => ?_))
  | exact ih0 _ _ _ _ _ _ _ _ _ _ _ _
  | exact portageref0_CopyInstrs.mono _ _
  | exact LeO.none _
  | refine LeO.ite ?_ ?_
  | refine LeO.bind ?_ (fun _ => ?_)
set_option maxHeartbeats 8000000 in
set_option maxRecDepth 100000 in
theorem portageref0_CopyFunction.calls (k : Nat) (a0_0 : ByteArray) (a0_1 : Int) (a0_2 : Int) (A0_3 : Option Addr) (c0_3 : Nat) (l0_3 : List (S40)) (A0_4 : Option Addr) (c0_4 : Nat) (l0_4 : List (S49)) (r1 : ByteArray) (r2 : Int) (r3 : Int) (r4 : List (S40)) (r5 : List (S49)) (w : World) (hr0_3 : Kd.C k40 w A0_3 l0_3.length l0_3) (hc0_3 : l0_3.length ≤ c0_3) (hr0_4 : Kd.C k49 w A0_4 l0_4.length l0_4) (hc0_4 : l0_4.length ≤ c0_4) (h : portageref0_CopyFunction.f k a0_0 a0_1 a0_2 l0_3 l0_4 = some (r1, r2, r3, r4, r5)) :
    Calls Try.prog 17 #[.agg #[.string a0_0, .int .i64 a0_1, .int .i64 a0_2, .slice A0_3 l0_3.length c0_3, .slice A0_4 l0_4.length c0_4]] w fun e w' => ∃ v3_ v4_ : Value, e = .returned (.agg #[.string r1, .int .i64 r2, .int .i64 r3, v3_, v4_]) ∧ Kd.R k40 40 w' w.heap.size (fun _ => True) v3_ r4 ∧ Kd.R k49 49 w' w.heap.size (fun _ => True) v4_ r5 ∧ Below w.heap.size w w' := by
 have hu25 := Try.underlying25; have hu49 := Try.underlying49; have HR0_3 := Aside0.mk hr0_3; have HC0_3 := Aside0.mk hc0_3; clear hr0_3 hc0_3; have HR0_4 := Aside0.mk hr0_4; have HC0_4 := Aside0.mk hc0_4; clear hr0_4 hc0_4; have HB := Aside0.mk (Below.refl w.heap.size w); have H : ((portageref0_CopyInstrs.f k l0_3).bind fun t240 => (portageref0_CopyFunction.l0 k ([] : List (S49)) 0 a0_0 a0_1 a0_2 l0_3 l0_4 a0_0 a0_1 a0_2 t240 l0_4)) = some (r1, r2, r3, r4, r5) := h; clear h; replace H := Option.bind_eq_some_iff.mp H; obtain ⟨t240, A20, H⟩ := H; replace H : (portageref0_CopyFunction.l0 k ([] : List (S49)) 0 a0_0 a0_1 a0_2 l0_3 l0_4 a0_0 a0_1 a0_2 t240 l0_4) = some (r1, r2, r3, r4, r5) := H; have A2 := Aside0.mk A20; clear A20; have H' := Aside0.mk H; clear H; go_enter Try.func17, Try.ntmps17
 go_wp2_with (first | ((with_reducible refine gate_dst (N := 1) rfl ?_); refine box_event ?hg (N := 1) ?hd (cs := #[.string a0_0, .int .i64 a0_1, .int .i64 a0_2, .slice A0_3 l0_3.length c0_3, .slice A0_4 l0_4.length c0_4]) (t := 25) ?hr ?_; (case hd => rfl); (case hg => rfl); (case hr => first | (go_simp; done) | (go_simp; rfl)); intro gb237 hg w3 hbox hb; have n0_ := Aside0.mk (below_step (by repeat (first | (with_reducible first | exact HB.out | apply below_alloc | apply pw_below_drewN | apply below_drew1) | exact HB.out)) hb); have n1_ := Aside0.mk (hbox); have n2_ := Aside0.mk ((by rw [hg]; exact (below_size (by repeat (first | (with_reducible first | exact HB.out | apply below_alloc | apply pw_below_drewN | apply below_drew1) | exact HB.out))) : w.heap.size ≤ gb237)); have n3_ := Aside0.mk ((by rw [hg]; exact (below_size (by repeat (first | (with_reducible first | exact HB.out | apply below_alloc | apply pw_below_drewN | apply below_drew1) | exact HB.out))) : w.heap.size ≤ gb237)); clear HB; have HB := n0_; have BK237 := n1_; have GW237 := n2_; have GE237 := n3_; clear n0_ n1_ n2_ n3_; clear hb hbox hg) | ((with_reducible refine gate_dst (N := 2) rfl ?_); refine box_event ?hg (N := 2) ?hd (cs := #[.string (⟨#[]⟩ : ByteArray), .int .i64 0, .int .i64 0, .slice none 0 0, .slice none 0 0]) (t := 25) ?hr ?_; (case hd => rfl); (case hg => rfl); (case hr => first | (go_simp; done) | (go_simp; rfl)); intro gb238 hg w4 hbox hb; have n0_ := Aside0.mk (blk_below (g := gb237) (o := .cells #[.string a0_0, .int .i64 a0_1, .int .i64 a0_2, .slice A0_3 l0_3.length c0_3, .slice A0_4 l0_4.length c0_4] 25 (0, 0)) (by (with_reducible repeat (first | refine blk_drewN ?_ _ | refine blk_drew ?_ | refine blk_alloc ?_ _)); exact BK237.out) hb); have n1_ := Aside0.mk (below_step (by repeat (first | (with_reducible first | exact HB.out | apply below_alloc | apply pw_below_drewN | apply below_drew1 | refine below_set ?_ GE237.out) | exact HB.out)) hb); have n2_ := Aside0.mk (hbox); have n3_ := Aside0.mk ((by rw [hg]; exact (below_size (by repeat (first | (with_reducible first | exact HB.out | apply below_alloc | apply pw_below_drewN | apply below_drew1 | refine below_set ?_ GE237.out) | exact HB.out))) : w.heap.size ≤ gb238)); have n4_ := Aside0.mk ((by rw [hg]; exact (below_size (by repeat (first | (with_reducible first | exact HB.out | apply below_alloc | apply pw_below_drewN | apply below_drew1 | refine below_set ?_ GE237.out) | exact HB.out))) : w.heap.size ≤ gb238)); have n5_ := Aside0.mk ((by rw [hg]; exact Nat.ne_of_lt (blk_lt (g := gb237) (o := .cells #[.string a0_0, .int .i64 a0_1, .int .i64 a0_2, .slice A0_3 l0_3.length c0_3, .slice A0_4 l0_4.length c0_4] 25 (0, 0)) (by (with_reducible repeat (first | refine blk_drewN ?_ _ | refine blk_drew ?_ | refine blk_alloc ?_ _)); exact BK237.out)) : gb237 ≠ gb238)); have n6_ := Aside0.mk ((by rw [hg]; exact Nat.ne_of_gt (blk_lt (g := gb237) (o := .cells #[.string a0_0, .int .i64 a0_1, .int .i64 a0_2, .slice A0_3 l0_3.length c0_3, .slice A0_4 l0_4.length c0_4] 25 (0, 0)) (by (with_reducible repeat (first | refine blk_drewN ?_ _ | refine blk_drew ?_ | refine blk_alloc ?_ _)); exact BK237.out)) : gb238 ≠ gb237)); clear BK237; clear HB; have BK237 := n0_; have HB := n1_; have BK238 := n2_; have GW238 := n3_; have GE238 := n4_; have NB237_238 := n5_; have NB238_237 := n6_; clear n0_ n1_ n2_ n3_ n4_ n5_ n6_; clear hb hbox hg; have hnb5 := NB237_238.out; have hnc5 := NB238_237.out; have hcz6_0 : w4.cell? ⟨gb237, 0, none⟩ = some (.string a0_0) := (blk_cell BK237.out 0).trans rfl; have hcz6_1 : w4.cell? ⟨gb237, 1, none⟩ = some (.int .i64 a0_1) := (blk_cell BK237.out 1).trans rfl; have hcz6_2 : w4.cell? ⟨gb237, 2, none⟩ = some (.int .i64 a0_2) := (blk_cell BK237.out 2).trans rfl; have hcz6_3 : w4.cell? ⟨gb237, 3, none⟩ = some (.slice A0_3 l0_3.length c0_3) := (blk_cell BK237.out 3).trans rfl; have hcz6_4 : w4.cell? ⟨gb237, 4, none⟩ = some (.slice A0_4 l0_4.length c0_4) := (blk_cell BK237.out 4).trans rfl; have hfz6_0 := blk_frozen BK237.out 0; have hfz6_1 := blk_frozen BK237.out 1; have hfz6_2 := blk_frozen BK237.out 2; have hfz6_3 := blk_frozen BK237.out 3; have hfz6_4 := blk_frozen BK237.out 4) | ((with_reducible refine gate_dst (N := 3) rfl ?_); refine box_event ?hg (N := 3) ?hd (cs := #[.string (⟨#[]⟩ : ByteArray), .int .i64 0, .int .i64 0, .slice none 0 0, .slice none 0 0]) (t := 25) ?hr ?_; (case hd => rfl); (case hg => rfl); (case hr => first | (go_simp; done) | (go_simp; rfl)); intro gb239 hg w7 hbox hb; have n0_ := Aside0.mk (blk_below (g := gb237) (o := .cells #[.string a0_0, .int .i64 a0_1, .int .i64 a0_2, .slice A0_3 l0_3.length c0_3, .slice A0_4 l0_4.length c0_4] 25 (0, 0)) (by (with_reducible repeat (first | refine blk_drewN ?_ _ | refine blk_drew ?_ | refine blk_alloc ?_ _)); exact BK237.out) hb); have n1_ := Aside0.mk (blk_below (g := gb238) (o := .cells #[.string (⟨#[]⟩ : ByteArray), .int .i64 0, .int .i64 0, .slice none 0 0, .slice none 0 0] 25 (0, 0)) (by (with_reducible repeat (first | refine blk_drewN ?_ _ | refine blk_drew ?_ | refine blk_alloc ?_ _)); exact BK238.out) hb); have n2_ := Aside0.mk (below_step (by repeat (first | (with_reducible first | exact HB.out | apply below_alloc | apply pw_below_drewN | apply below_drew1 | refine below_set ?_ GE237.out | refine below_set ?_ GE238.out) | exact HB.out)) hb); have n3_ := Aside0.mk (hbox); have n4_ := Aside0.mk ((by rw [hg]; exact (below_size (by repeat (first | (with_reducible first | exact HB.out | apply below_alloc | apply pw_below_drewN | apply below_drew1 | refine below_set ?_ GE237.out | refine below_set ?_ GE238.out) | exact HB.out))) : w.heap.size ≤ gb239)); have n5_ := Aside0.mk ((by rw [hg]; exact (below_size (by repeat (first | (with_reducible first | exact HB.out | apply below_alloc | apply pw_below_drewN | apply below_drew1 | refine below_set ?_ GE237.out | refine below_set ?_ GE238.out) | exact HB.out))) : w.heap.size ≤ gb239)); have n6_ := Aside0.mk ((by rw [hg]; exact Nat.ne_of_lt (blk_lt (g := gb237) (o := .cells #[.string a0_0, .int .i64 a0_1, .int .i64 a0_2, .slice A0_3 l0_3.length c0_3, .slice A0_4 l0_4.length c0_4] 25 (0, 0)) (by (with_reducible repeat (first | refine blk_drewN ?_ _ | refine blk_drew ?_ | refine blk_alloc ?_ _)); exact BK237.out)) : gb237 ≠ gb239)); have n7_ := Aside0.mk ((by rw [hg]; exact Nat.ne_of_gt (blk_lt (g := gb237) (o := .cells #[.string a0_0, .int .i64 a0_1, .int .i64 a0_2, .slice A0_3 l0_3.length c0_3, .slice A0_4 l0_4.length c0_4] 25 (0, 0)) (by (with_reducible repeat (first | refine blk_drewN ?_ _ | refine blk_drew ?_ | refine blk_alloc ?_ _)); exact BK237.out)) : gb239 ≠ gb237)); have n8_ := Aside0.mk ((by rw [hg]; exact Nat.ne_of_lt (blk_lt (g := gb238) (o := .cells #[.string (⟨#[]⟩ : ByteArray), .int .i64 0, .int .i64 0, .slice none 0 0, .slice none 0 0] 25 (0, 0)) (by (with_reducible repeat (first | refine blk_drewN ?_ _ | refine blk_drew ?_ | refine blk_alloc ?_ _)); exact BK238.out)) : gb238 ≠ gb239)); have n9_ := Aside0.mk ((by rw [hg]; exact Nat.ne_of_gt (blk_lt (g := gb238) (o := .cells #[.string (⟨#[]⟩ : ByteArray), .int .i64 0, .int .i64 0, .slice none 0 0, .slice none 0 0] 25 (0, 0)) (by (with_reducible repeat (first | refine blk_drewN ?_ _ | refine blk_drew ?_ | refine blk_alloc ?_ _)); exact BK238.out)) : gb239 ≠ gb238)); clear BK237; clear BK238; clear HB; have BK237 := n0_; have BK238 := n1_; have HB := n2_; have BK239 := n3_; have GW239 := n4_; have GE239 := n5_; have NB237_239 := n6_; have NB239_237 := n7_; have NB238_239 := n8_; have NB239_238 := n9_; clear n0_ n1_ n2_ n3_ n4_ n5_ n6_ n7_ n8_ n9_; clear hb hbox hg; have hnb8 := NB239_237.out; have hnc8 := NB237_239.out; have hnb9 := NB239_238.out; have hnc9 := NB238_239.out; have hcz10_0 : w7.cell? ⟨gb239, 0, none⟩ = some (.string (⟨#[]⟩ : ByteArray)) := (blk_cell BK239.out 0).trans rfl; have hcz10_1 : w7.cell? ⟨gb239, 1, none⟩ = some (.int .i64 0) := (blk_cell BK239.out 1).trans rfl; have hcz10_2 : w7.cell? ⟨gb239, 2, none⟩ = some (.int .i64 0) := (blk_cell BK239.out 2).trans rfl; have hcz10_3 : w7.cell? ⟨gb239, 3, none⟩ = some (.slice none 0 0) := (blk_cell BK239.out 3).trans rfl; have hcz10_4 : w7.cell? ⟨gb239, 4, none⟩ = some (.slice none 0 0) := (blk_cell BK239.out 4).trans rfl; have hfz10_0 := blk_frozen BK239.out 0; have hfz10_1 := blk_frozen BK239.out 1; have hfz10_2 := blk_frozen BK239.out 2; have hfz10_3 := blk_frozen BK239.out 3; have hfz10_4 := blk_frozen BK239.out 4; have hcz11_0 : w7.cell? ⟨gb237, 0, none⟩ = some (.string a0_0) := (blk_cell BK237.out 0).trans rfl; have hcz11_1 : w7.cell? ⟨gb237, 1, none⟩ = some (.int .i64 a0_1) := (blk_cell BK237.out 1).trans rfl; have hcz11_2 : w7.cell? ⟨gb237, 2, none⟩ = some (.int .i64 a0_2) := (blk_cell BK237.out 2).trans rfl; have hcz11_3 : w7.cell? ⟨gb237, 3, none⟩ = some (.slice A0_3 l0_3.length c0_3) := (blk_cell BK237.out 3).trans rfl; have hcz11_4 : w7.cell? ⟨gb237, 4, none⟩ = some (.slice A0_4 l0_4.length c0_4) := (blk_cell BK237.out 4).trans rfl; have hfz11_0 := blk_frozen BK237.out 0; have hfz11_1 := blk_frozen BK237.out 1; have hfz11_2 := blk_frozen BK237.out 2; have hfz11_3 := blk_frozen BK237.out 3; have hfz11_4 := blk_frozen BK237.out 4) | ((with_reducible refine gate_callee (f := 54) rfl ?_); refine goesL_ (some 9) rfl rfl Try.func54 (by kernel_rfl) rfl #[.slice A0_3 l0_3.length c0_3] rfl (by (try simp only [List.map_toArray, List.map_cons, List.map_nil]); first | done | rfl | (simp only [List.length_drop, List.length_take]; rfl)) ?_; (with_reducible refine (portageref0_CopyInstrs.calls k _ _ l0_3 t240 _ ?side1 ?side2 A2.out).mono ?_); (case side1 => exact Kd.C_below HR0_3.out (by repeat (first | (with_reducible first | exact HB.out | apply below_alloc | apply pw_below_drewN | apply below_drew1 | refine below_set ?_ GE237.out | refine below_set ?_ GE238.out | refine below_set ?_ GE239.out) | exact HB.out))); (case side2 => exact HC0_3.out); rintro e w12 ⟨v241, rfl, ho0, hb⟩; refine ⟨_, rfl, ?_⟩; have n0_ := Aside0.mk (Kd.R_lower ho0 (below_size (by repeat (first | (with_reducible first | exact HB.out | apply below_alloc | apply pw_below_drewN | apply below_drew1 | refine below_set ?_ GE237.out | refine below_set ?_ GE238.out | refine below_set ?_ GE239.out) | exact HB.out)))); have n1_ := Aside0.mk (blk_below (g := gb237) (o := .cells #[.string a0_0, .int .i64 a0_1, .int .i64 a0_2, .slice A0_3 l0_3.length c0_3, .slice A0_4 l0_4.length c0_4] 25 (0, 0)) (by (with_reducible repeat (first | refine blk_drewN ?_ _ | refine blk_drew ?_ | refine blk_alloc ?_ _)); refine blk_far ?_ NB237_239.out _; (with_reducible repeat (first | refine blk_drewN ?_ _ | refine blk_drew ?_ | refine blk_alloc ?_ _)); refine blk_far ?_ NB237_239.out _; (with_reducible repeat (first | refine blk_drewN ?_ _ | refine blk_drew ?_ | refine blk_alloc ?_ _)); refine blk_far ?_ NB237_239.out _; (with_reducible repeat (first | refine blk_drewN ?_ _ | refine blk_drew ?_ | refine blk_alloc ?_ _)); refine blk_far ?_ NB237_239.out _; (with_reducible repeat (first | refine blk_drewN ?_ _ | refine blk_drew ?_ | refine blk_alloc ?_ _)); refine blk_far ?_ NB237_239.out _; (with_reducible repeat (first | refine blk_drewN ?_ _ | refine blk_drew ?_ | refine blk_alloc ?_ _)); exact BK237.out) hb); have n2_ := Aside0.mk (blk_below (g := gb238) (o := .cells #[.string (⟨#[]⟩ : ByteArray), .int .i64 0, .int .i64 0, .slice none 0 0, .slice none 0 0] 25 (0, 0)) (by (with_reducible repeat (first | refine blk_drewN ?_ _ | refine blk_drew ?_ | refine blk_alloc ?_ _)); refine blk_far ?_ NB238_239.out _; (with_reducible repeat (first | refine blk_drewN ?_ _ | refine blk_drew ?_ | refine blk_alloc ?_ _)); refine blk_far ?_ NB238_239.out _; (with_reducible repeat (first | refine blk_drewN ?_ _ | refine blk_drew ?_ | refine blk_alloc ?_ _)); refine blk_far ?_ NB238_239.out _; (with_reducible repeat (first | refine blk_drewN ?_ _ | refine blk_drew ?_ | refine blk_alloc ?_ _)); refine blk_far ?_ NB238_239.out _; (with_reducible repeat (first | refine blk_drewN ?_ _ | refine blk_drew ?_ | refine blk_alloc ?_ _)); refine blk_far ?_ NB238_239.out _; (with_reducible repeat (first | refine blk_drewN ?_ _ | refine blk_drew ?_ | refine blk_alloc ?_ _)); exact BK238.out) hb); have n3_ := Aside0.mk (blk_below (g := gb239) (o := .cells #[.string a0_0, .int .i64 a0_1, .int .i64 a0_2, .slice A0_3 l0_3.length c0_3, .slice A0_4 l0_4.length c0_4] 25 (0, 0)) (by (with_reducible repeat (first | refine blk_drewN ?_ _ | refine blk_drew ?_ | refine blk_alloc ?_ _)); refine blk_put (cs := #[.string a0_0, .int .i64 a0_1, .int .i64 a0_2, .slice A0_3 l0_3.length c0_3, .slice none 0 0]) ?_ 4 _ rfl; (with_reducible repeat (first | refine blk_drewN ?_ _ | refine blk_drew ?_ | refine blk_alloc ?_ _)); refine blk_put (cs := #[.string a0_0, .int .i64 a0_1, .int .i64 a0_2, .slice none 0 0, .slice none 0 0]) ?_ 3 _ rfl; (with_reducible repeat (first | refine blk_drewN ?_ _ | refine blk_drew ?_ | refine blk_alloc ?_ _)); refine blk_put (cs := #[.string a0_0, .int .i64 a0_1, .int .i64 0, .slice none 0 0, .slice none 0 0]) ?_ 2 _ rfl; (with_reducible repeat (first | refine blk_drewN ?_ _ | refine blk_drew ?_ | refine blk_alloc ?_ _)); refine blk_put (cs := #[.string a0_0, .int .i64 0, .int .i64 0, .slice none 0 0, .slice none 0 0]) ?_ 1 _ rfl; (with_reducible repeat (first | refine blk_drewN ?_ _ | refine blk_drew ?_ | refine blk_alloc ?_ _)); refine blk_put (cs := #[.string (⟨#[]⟩ : ByteArray), .int .i64 0, .int .i64 0, .slice none 0 0, .slice none 0 0]) ?_ 0 _ rfl; (with_reducible repeat (first | refine blk_drewN ?_ _ | refine blk_drew ?_ | refine blk_alloc ?_ _)); exact BK239.out) hb); have n4_ := Aside0.mk (below_step (by repeat (first | (with_reducible first | exact HB.out | apply below_alloc | apply pw_below_drewN | apply below_drew1 | refine below_set ?_ GE237.out | refine below_set ?_ GE238.out | refine below_set ?_ GE239.out) | exact HB.out)) hb); clear BK237; clear BK238; clear BK239; clear HB; have HO242 := n0_; have BK237 := n1_; have BK238 := n2_; have BK239 := n3_; have HB := n4_; clear n0_ n1_ n2_ n3_ n4_; (try clear hb); (try clear hb2); (try clear hk); (try clear hi); (try clear ho0); obtain ⟨Ao13, co13, eo13⟩ := Kd.R_slice HO242.out; subst eo13; have hcz14_0 : w12.cell? ⟨gb239, 0, none⟩ = some (.string a0_0) := (blk_cell BK239.out 0).trans rfl; have hcz14_1 : w12.cell? ⟨gb239, 1, none⟩ = some (.int .i64 a0_1) := (blk_cell BK239.out 1).trans rfl; have hcz14_2 : w12.cell? ⟨gb239, 2, none⟩ = some (.int .i64 a0_2) := (blk_cell BK239.out 2).trans rfl; have hcz14_3 : w12.cell? ⟨gb239, 3, none⟩ = some (.slice A0_3 l0_3.length c0_3) := (blk_cell BK239.out 3).trans rfl; have hcz14_4 : w12.cell? ⟨gb239, 4, none⟩ = some (.slice A0_4 l0_4.length c0_4) := (blk_cell BK239.out 4).trans rfl; have hfz14_0 := blk_frozen BK239.out 0; have hfz14_1 := blk_frozen BK239.out 1; have hfz14_2 := blk_frozen BK239.out 2; have hfz14_3 := blk_frozen BK239.out 3; have hfz14_4 := blk_frozen BK239.out 4))
 go_loopg [4, 5] k (fun kq v4 v5 w' => ∃ (x4_1 : List (S49)) (x5_1 : Int), v5 = .int .i64 x5_1 ∧ Aside0 (portageref0_CopyFunction.l0 kq x4_1 x5_1 a0_0 a0_1 a0_2 l0_3 l0_4 a0_0 a0_1 a0_2 t240 l0_4 = some (r1, r2, r3, r4, r5)) ∧ Aside0 (kq ≤ k) ∧ Aside0 (Kd.R k49 49 w' w.heap.size (fun _ => True) v4 x4_1) ∧ Aside0 (Kd.R k40 40 w' w.heap.size (fun _ => True) (.slice Ao13 t240.length co13) t240) ∧ Aside0 (w'.heap[gb237]? = some (.cells #[.string a0_0, .int .i64 a0_1, .int .i64 a0_2, (.slice A0_3 l0_3.length c0_3), (.slice A0_4 l0_4.length c0_4)] 25 (0, 0))) ∧ Aside0 (w'.heap[gb238]? = some (.cells #[.string (⟨#[]⟩ : ByteArray), .int .i64 0, .int .i64 0, (.slice none 0 0), (.slice none 0 0)] 25 (0, 0))) ∧ Aside0 (w'.heap[gb239]? = some (.cells #[.string a0_0, .int .i64 a0_1, .int .i64 a0_2, (.slice Ao13 t240.length co13), (.slice A0_4 l0_4.length c0_4)] 25 (0, 0))) ∧ Aside0 (Below w.heap.size w w'))
 case atStart => exact ⟨(([] : List (S49))), (0), (by first | rfl | (simp; done) | (simp [*]; done)), H', ⟨Nat.le_refl _⟩, ⟨by first | exact Kd.R_nil _ _ _ _ _ | exact Kd.N_nil _ _ _ _ _ | exact Kd.V_nil _ _ _ _ _ | exact Kd.Q_nil _ _ _ _ _ | exact Kd.S_nil _ _ _ _ _⟩, ⟨by (with_reducible repeat (first | apply Kd.R_alloc | apply Kd.R_drewN | apply Kd.R_drew)); exact Kd.R_mono (Kd.R_far (p := ⟨gb239, 3, none⟩) (Kd.R_types HO242.out BK239.out (by decide)) (fun _ hk => hk.2) (.slice Ao13 t240.length co13)) (fun _ hk => trivial)⟩, ⟨by (with_reducible repeat (first | refine blk_drewN ?_ _ | refine blk_drew ?_ | refine blk_alloc ?_ _)); refine blk_far ?_ NB237_239.out _; (with_reducible repeat (first | refine blk_drewN ?_ _ | refine blk_drew ?_ | refine blk_alloc ?_ _)); exact BK237.out⟩, ⟨by (with_reducible repeat (first | refine blk_drewN ?_ _ | refine blk_drew ?_ | refine blk_alloc ?_ _)); refine blk_far ?_ NB238_239.out _; (with_reducible repeat (first | refine blk_drewN ?_ _ | refine blk_drew ?_ | refine blk_alloc ?_ _)); exact BK238.out⟩, ⟨by (with_reducible repeat (first | refine blk_drewN ?_ _ | refine blk_drew ?_ | refine blk_alloc ?_ _)); refine blk_put (cs := #[.string a0_0, .int .i64 a0_1, .int .i64 a0_2, .slice A0_3 l0_3.length c0_3, .slice A0_4 l0_4.length c0_4]) ?_ 3 _ rfl; (with_reducible repeat (first | refine blk_drewN ?_ _ | refine blk_drew ?_ | refine blk_alloc ?_ _)); exact BK239.out⟩, ⟨by repeat (first | (with_reducible first | exact HB.out | apply below_alloc | apply pw_below_drewN | apply below_drew1 | refine below_set ?_ GE237.out | refine below_set ?_ GE238.out | refine below_set ?_ GE239.out) | exact HB.out)⟩⟩
 case round =>
  clear H'; (try clear c1); (try clear p2); (try clear c5); (try clear c8); (try clear c9); (try clear hcz10_0); (try clear hcz10_1); (try clear hcz10_2); (try clear hcz10_3); (try clear hcz10_4); (try clear hcz11_0); (try clear hcz11_1); (try clear hcz11_2); (try clear hcz11_3); (try clear hcz11_4); (try clear hcz14_0); (try clear hcz14_1); (try clear hcz14_2); (try clear hcz14_3); (try clear hcz14_4); (try clear hcz6_0); (try clear hcz6_1); (try clear hcz6_2); (try clear hcz6_3); (try clear hcz6_4); (try clear hfz10_0); (try clear hfz10_1); (try clear hfz10_2); (try clear hfz10_3); (try clear hfz10_4); (try clear hfz11_0); (try clear hfz11_1); (try clear hfz11_2); (try clear hfz11_3); (try clear hfz11_4); (try clear hfz14_0); (try clear hfz14_1); (try clear hfz14_2); (try clear hfz14_3); (try clear hfz14_4); (try clear hfz6_0); (try clear hfz6_1); (try clear hfz6_2); (try clear hfz6_3); (try clear hfz6_4); obtain ⟨x4_1, x5_1, rfl, HA, HK1, HO_4, HO_240003, BK237, BK238, BK239, HB⟩ := hrel
  cases gk with
  | zero => exact absurd HA.out (by simp [portageref0_CopyFunction.l0])
  | succ k1 =>
   have H := HA.out; clear HA; simp only [portageref0_CopyFunction.l0] at H
   by_cases c15 : x5_1 < (l0_4.length : Int)
   ·rw [if_pos c15] at H; have c15b0 : decide (x5_1 < (l0_4.length : Int)) = true := decide_eq_true c15; clear c15
    by_cases c16 : 0 ≤ x5_1
    ·rw [if_pos c16] at H; have c16b0 : decide (0 ≤ x5_1) = true := decide_eq_true c16; clear c16
     by_cases c17 : x4_1.length < 4398046511104
     ·rw [if_pos c17] at H; have LMc17 := Aside0.mk c17; clear c17; obtain ⟨y244, hy244⟩ : ∃ y_ : List (S49), y_ = (x4_1 ++ [(⟨(rd_T49 l0_4 x5_1).f0, (rd_T49 l0_4 x5_1).f1, (rd_T49 l0_4 x5_1).f2, (rd_T49 l0_4 x5_1).f3⟩ : S49)]) := ⟨_, rfl⟩; replace H : (portageref0_CopyFunction.l0 k1 y244 (wrap64 (x5_1 + 1)) a0_0 a0_1 a0_2 l0_3 l0_4 a0_0 a0_1 a0_2 t240 l0_4) = some (r1, r2, r3, r4, r5) := by first | (rw [hy244]; with_reducible exact H) | (have H2_ := (Option.bind_some _ _).symm.trans H; rw [hy244]; with_reducible exact H2_) | (have H2_ := (Option.bind_some _ _).symm.trans H; with_reducible exact H2_) | with_reducible exact H | (rw [hy244]; exact H) | exact H
      have Ny244 := Aside0.mk hy244; clear hy244; have H' := Aside0.mk H; clear H; have hnb18 := NB237_238.out; have hnc18 := NB238_237.out; have hnb19 := NB237_239.out; have hnc19 := NB239_237.out; have hcz20_0 : wr.cell? ⟨gb237, 0, none⟩ = some (.string a0_0) := (blk_cell BK237.out 0).trans rfl; have hcz20_1 : wr.cell? ⟨gb237, 1, none⟩ = some (.int .i64 a0_1) := (blk_cell BK237.out 1).trans rfl; have hcz20_2 : wr.cell? ⟨gb237, 2, none⟩ = some (.int .i64 a0_2) := (blk_cell BK237.out 2).trans rfl; have hcz20_3 : wr.cell? ⟨gb237, 3, none⟩ = some (.slice A0_3 l0_3.length c0_3) := (blk_cell BK237.out 3).trans rfl; have hcz20_4 : wr.cell? ⟨gb237, 4, none⟩ = some (.slice A0_4 l0_4.length c0_4) := (blk_cell BK237.out 4).trans rfl; have hfz20_0 := blk_frozen BK237.out 0; have hfz20_1 := blk_frozen BK237.out 1; have hfz20_2 := blk_frozen BK237.out 2; have hfz20_3 := blk_frozen BK237.out 3; have hfz20_4 := blk_frozen BK237.out 4; have p243 : 0 ≤ (x5_1 : Int) := of_decide_eq_true (by first | (with_reducible assumption) | assumption); have q243 : x5_1 < (l0_4.length : Int) := of_decide_eq_true (by first | (with_reducible assumption) | assumption); obtain ⟨ad243, e243, hx243_0, hx243_1, hx243_2, hx243_3⟩ := at_T49 HR0_4.out x5_1 p243 q243
      cases e243; replace hx243_0 := (HB.out.cell (World.block_lt_of_cell? w _ hx243_0)).trans hx243_0; replace hx243_1 := (HB.out.cell (World.block_lt_of_cell? w _ hx243_1)).trans hx243_1; replace hx243_2 := (HB.out.cell (World.block_lt_of_cell? w _ hx243_2)).trans hx243_2; replace hx243_3 := (HB.out.cell (World.block_lt_of_cell? w _ hx243_3)).trans hx243_3; replace p243 := eq_true p243; replace q243 := eq_true q243; go_wp2_with (first | ((with_reducible refine gate_builtin (b := .append) (xs := #[.tmp 18, .tmp 24]) rfl ?_); at_builtin; refine Kd.R_append k49 (w0 := w) w.heap.size rfl (.tmp 18) (.tmp 24) 23 49 (.agg #[(.int .i64 0), (.int .i64 0), (.int .i64 0), (.int .i64 0)]) 32 rfl Try.underlying23 info49 rfl (by decide) (by omega) u4 x4_1 (⟨(rd_T49 l0_4 x5_1).f0, (rd_T49 l0_4 x5_1).f1, (rd_T49 l0_4 x5_1).f2, (rd_T49 l0_4 x5_1).f3⟩ : S49) [.int .i64 ((rd_T49 l0_4 x5_1).f0), .int .i64 ((rd_T49 l0_4 x5_1).f1), .int .i64 ((rd_T49 l0_4 x5_1).f2), .int .i64 ((rd_T49 l0_4 x5_1).f3)] (fun _ => True) (fun _ => False) rfl rfl ?aP (fun _ hk => hk.elim) ?aF ?aO ?aB ?aS ?aL ?_; (case aP => exact k49_mkM _ _ _ (⟨(rd_T49 l0_4 x5_1).f0, (rd_T49 l0_4 x5_1).f1, (rd_T49 l0_4 x5_1).f2, (rd_T49 l0_4 x5_1).f3⟩ : S49)); (case aB => exact (by repeat (first | (with_reducible first | exact HB.out | apply below_alloc | apply pw_below_drewN | apply below_drew1 | refine below_set ?_ GE237.out | refine below_set ?_ GE238.out | refine below_set ?_ GE239.out) | exact HB.out))); (case aF => exact (fun _ _ => trivial)); (case aO => exact (by (with_reducible repeat (first | apply Kd.R_alloc | apply Kd.R_drewN | apply Kd.R_drew)); exact HO_4.out)); (case aS => exact (below_size (by repeat (first | (with_reducible first | exact HB.out | apply below_alloc | apply pw_below_drewN | apply below_drew1 | refine below_set ?_ GE237.out | refine below_set ?_ GE238.out | refine below_set ?_ GE239.out) | exact HB.out)))); (case aL => have := LMc17.out; omega); intro v245 w21 ho hb hg hat; rw [← Ny244.out] at ho; have n0_ := Aside0.mk (Kd.R_over' (by (with_reducible repeat (first | apply Kd.R_alloc | apply Kd.R_drewN | apply Kd.R_drew)); exact HO_240003.out) (Kd.R_typed (by (with_reducible repeat (first | apply Kd.R_alloc | apply Kd.R_drewN | apply Kd.R_drew)); exact HO_4.out)) (by decide) hg); have n1_ := Aside0.mk (blk_grown (g := gb237) (o := .cells #[.string a0_0, .int .i64 a0_1, .int .i64 a0_2, .slice A0_3 l0_3.length c0_3, .slice (some ad243) l0_4.length c0_4] 25 (0, 0)) (by (with_reducible repeat (first | refine blk_drewN ?_ _ | refine blk_drew ?_ | refine blk_alloc ?_ _)); exact BK237.out) hg (Kd.R_ne HO_4.out BK237.out (by decide))); have n2_ := Aside0.mk (blk_grown (g := gb238) (o := .cells #[.string (⟨#[]⟩ : ByteArray), .int .i64 0, .int .i64 0, .slice none 0 0, .slice none 0 0] 25 (0, 0)) (by (with_reducible repeat (first | refine blk_drewN ?_ _ | refine blk_drew ?_ | refine blk_alloc ?_ _)); exact BK238.out) hg (Kd.R_ne HO_4.out BK238.out (by decide))); have n3_ := Aside0.mk (blk_grown (g := gb239) (o := .cells #[.string a0_0, .int .i64 a0_1, .int .i64 a0_2, .slice Ao13 t240.length co13, .slice (some ad243) l0_4.length c0_4] 25 (0, 0)) (by (with_reducible repeat (first | refine blk_drewN ?_ _ | refine blk_drew ?_ | refine blk_alloc ?_ _)); exact BK239.out) hg (Kd.R_ne HO_4.out BK239.out (by decide))); have n4_ := Aside0.mk (hb); have n5_ := Aside0.mk (ho); clear HO_240003; clear BK237; clear BK238; clear BK239; clear HB; clear HO_4; have HO_240003 := n0_; have BK237 := n1_; have BK238 := n2_; have BK239 := n3_; have HB := n4_; have HO246 := n5_; clear n0_ n1_ n2_ n3_ n4_ n5_; clear ho hb hg hat))
      go_roundg k1
      case measure => have := HK1.out; omega
      case rel => exact ⟨(y244), (wrap64 (x5_1 + 1)), (by first | rfl | (simp; done) | (simp [*]; done)), H', ⟨by have := HK1.out; omega⟩, ⟨by (with_reducible repeat (first | apply Kd.R_alloc | apply Kd.R_drewN | apply Kd.R_drew)); exact HO246.out⟩, ⟨by (with_reducible repeat (first | apply Kd.R_alloc | apply Kd.R_drewN | apply Kd.R_drew)); exact HO_240003.out⟩, ⟨by (with_reducible repeat (first | refine blk_drewN ?_ _ | refine blk_drew ?_ | refine blk_alloc ?_ _)); exact BK237.out⟩, ⟨by (with_reducible repeat (first | refine blk_drewN ?_ _ | refine blk_drew ?_ | refine blk_alloc ?_ _)); exact BK238.out⟩, ⟨by (with_reducible repeat (first | refine blk_drewN ?_ _ | refine blk_drew ?_ | refine blk_alloc ?_ _)); exact BK239.out⟩, ⟨by repeat (first | (with_reducible first | exact HB.out | apply below_alloc | apply pw_below_drewN | apply below_drew1 | refine below_set ?_ GE237.out | refine below_set ?_ GE238.out | refine below_set ?_ GE239.out) | exact HB.out)⟩⟩
     ·rw [if_neg c17] at H
      exact absurd H (by simp)
    ·rw [if_neg c16] at H
     exact absurd H (by simp)
   ·rw [if_neg c15] at H; have c15b0 : decide (x5_1 < (l0_4.length : Int)) = false := decide_eq_false c15; clear c15; simp only [Option.some.injEq, Prod.mk.injEq] at H; obtain ⟨rfl, rfl, rfl, rfl, rfl⟩ := H; have hnb22 := NB237_238.out; have hnc22 := NB238_237.out; have hnb23 := NB237_239.out; have hnc23 := NB239_237.out; have hcz24_0 : wr.cell? ⟨gb237, 0, none⟩ = some (.string a0_0) := (blk_cell BK237.out 0).trans rfl; have hcz24_1 : wr.cell? ⟨gb237, 1, none⟩ = some (.int .i64 a0_1) := (blk_cell BK237.out 1).trans rfl; have hcz24_2 : wr.cell? ⟨gb237, 2, none⟩ = some (.int .i64 a0_2) := (blk_cell BK237.out 2).trans rfl; have hcz24_3 : wr.cell? ⟨gb237, 3, none⟩ = some (.slice A0_3 l0_3.length c0_3) := (blk_cell BK237.out 3).trans rfl; have hcz24_4 : wr.cell? ⟨gb237, 4, none⟩ = some (.slice A0_4 l0_4.length c0_4) := (blk_cell BK237.out 4).trans rfl; have hfz24_0 := blk_frozen BK237.out 0; have hfz24_1 := blk_frozen BK237.out 1; have hfz24_2 := blk_frozen BK237.out 2; have hfz24_3 := blk_frozen BK237.out 3; have hfz24_4 := blk_frozen BK237.out 4; obtain ⟨Ao25, co25, eo25⟩ := Kd.R_slice HO_4.out; subst eo25; have hnb26 := NB239_238.out; have hnc26 := NB238_239.out; have hcz27_0 : wr.cell? ⟨gb239, 0, none⟩ = some (.string a0_0) := (blk_cell BK239.out 0).trans rfl; have hcz27_1 : wr.cell? ⟨gb239, 1, none⟩ = some (.int .i64 a0_1) := (blk_cell BK239.out 1).trans rfl; have hcz27_2 : wr.cell? ⟨gb239, 2, none⟩ = some (.int .i64 a0_2) := (blk_cell BK239.out 2).trans rfl; have hcz27_3 : wr.cell? ⟨gb239, 3, none⟩ = some (.slice Ao13 t240.length co13) := (blk_cell BK239.out 3).trans rfl; have hcz27_4 : wr.cell? ⟨gb239, 4, none⟩ = some (.slice A0_4 l0_4.length c0_4) := (blk_cell BK239.out 4).trans rfl; have hfz27_0 := blk_frozen BK239.out 0; have hfz27_1 := blk_frozen BK239.out 1; have hfz27_2 := blk_frozen BK239.out 2; have hfz27_3 := blk_frozen BK239.out 3; have hfz27_4 := blk_frozen BK239.out 4; have hcz28_0 : wr.cell? ⟨gb238, 0, none⟩ = some (.string (⟨#[]⟩ : ByteArray)) := (blk_cell BK238.out 0).trans rfl; have hcz28_1 : wr.cell? ⟨gb238, 1, none⟩ = some (.int .i64 0) := (blk_cell BK238.out 1).trans rfl; have hcz28_2 : wr.cell? ⟨gb238, 2, none⟩ = some (.int .i64 0) := (blk_cell BK238.out 2).trans rfl; have hcz28_3 : wr.cell? ⟨gb238, 3, none⟩ = some (.slice none 0 0) := (blk_cell BK238.out 3).trans rfl; have hcz28_4 : wr.cell? ⟨gb238, 4, none⟩ = some (.slice none 0 0) := (blk_cell BK238.out 4).trans rfl; have hfz28_0 := blk_frozen BK238.out 0; have hfz28_1 := blk_frozen BK238.out 1; have hfz28_2 := blk_frozen BK238.out 2; have hfz28_3 := blk_frozen BK238.out 3; have hfz28_4 := blk_frozen BK238.out 4; go_wp2; refine bodyPost_ret (results_cell_row rfl _ _ gb238 25 #[.string a0_0, .int .i64 a0_1, .int .i64 a0_2, .slice Ao13 t240.length co13, .slice Ao25 x4_1.length co25] (0, 0) _ rfl (by (with_reducible repeat (first | refine blk_drewN ?_ _ | refine blk_drew ?_ | refine blk_alloc ?_ _)); refine blk_put (cs := #[.string a0_0, .int .i64 a0_1, .int .i64 a0_2, .slice Ao13 t240.length co13, .slice none 0 0]) ?_ 4 _ rfl; (with_reducible repeat (first | refine blk_drewN ?_ _ | refine blk_drew ?_ | refine blk_alloc ?_ _)); refine blk_put (cs := #[.string a0_0, .int .i64 a0_1, .int .i64 a0_2, .slice none 0 0, .slice none 0 0]) ?_ 3 _ rfl; (with_reducible repeat (first | refine blk_drewN ?_ _ | refine blk_drew ?_ | refine blk_alloc ?_ _)); refine blk_put (cs := #[.string a0_0, .int .i64 a0_1, .int .i64 0, .slice none 0 0, .slice none 0 0]) ?_ 2 _ rfl; (with_reducible repeat (first | refine blk_drewN ?_ _ | refine blk_drew ?_ | refine blk_alloc ?_ _)); refine blk_put (cs := #[.string a0_0, .int .i64 0, .int .i64 0, .slice none 0 0, .slice none 0 0]) ?_ 1 _ rfl; (with_reducible repeat (first | refine blk_drewN ?_ _ | refine blk_drew ?_ | refine blk_alloc ?_ _)); refine blk_put (cs := #[.string (⟨#[]⟩ : ByteArray), .int .i64 0, .int .i64 0, .slice none 0 0, .slice none 0 0]) ?_ 0 _ rfl; (with_reducible repeat (first | refine blk_drewN ?_ _ | refine blk_drew ?_ | refine blk_alloc ?_ _)); refine blk_far ?_ NB238_239.out _; (with_reducible repeat (first | refine blk_drewN ?_ _ | refine blk_drew ?_ | refine blk_alloc ?_ _)); exact BK238.out) Try.underlying25 rfl (by kernel_rfl)) rfl ?_; exact ⟨_, _, by first | rfl | (simp [errW_none, errW_some] <;> rfl) | (simp [*, errW_none, errW_some] <;> rfl), by (with_reducible repeat (first | apply Kd.R_alloc | apply Kd.R_drewN | apply Kd.R_drew)); exact Kd.R_mono (Kd.R_far (p := ⟨gb238, 4, none⟩) (Kd.R_far (p := ⟨gb238, 3, none⟩) (Kd.R_far (p := ⟨gb238, 2, none⟩) (Kd.R_far (p := ⟨gb238, 1, none⟩) (Kd.R_far (p := ⟨gb238, 0, none⟩) (Kd.R_far (p := ⟨gb239, 4, none⟩) (Kd.R_types (Kd.R_types HO_240003.out BK239.out (by decide)) BK238.out (by decide)) (fun _ hk => hk.1.2) (.slice Ao25 x4_1.length co25)) (fun _ hk => hk.2) (.string a0_0)) (fun _ hk => hk.2) (.int .i64 a0_1)) (fun _ hk => hk.2) (.int .i64 a0_2)) (fun _ hk => hk.2) (.slice Ao13 t240.length co13)) (fun _ hk => hk.2) (.slice Ao25 x4_1.length co25)) (fun _ hk => trivial), by (with_reducible repeat (first | apply Kd.R_alloc | apply Kd.R_drewN | apply Kd.R_drew)); exact Kd.R_mono (Kd.R_far (p := ⟨gb238, 4, none⟩) (Kd.R_far (p := ⟨gb238, 3, none⟩) (Kd.R_far (p := ⟨gb238, 2, none⟩) (Kd.R_far (p := ⟨gb238, 1, none⟩) (Kd.R_far (p := ⟨gb238, 0, none⟩) (Kd.R_far (p := ⟨gb239, 4, none⟩) (Kd.R_types (Kd.R_types HO_4.out BK239.out (by decide)) BK238.out (by decide)) (fun _ hk => hk.1.2) (.slice Ao25 x4_1.length co25)) (fun _ hk => hk.2) (.string a0_0)) (fun _ hk => hk.2) (.int .i64 a0_1)) (fun _ hk => hk.2) (.int .i64 a0_2)) (fun _ hk => hk.2) (.slice Ao13 t240.length co13)) (fun _ hk => hk.2) (.slice Ao25 x4_1.length co25)) (fun _ hk => trivial), by repeat (first | (with_reducible first | exact HB.out | apply below_alloc | apply pw_below_drewN | apply below_drew1 | refine below_set ?_ GE237.out | refine below_set ?_ GE238.out | refine below_set ?_ GE239.out) | exact HB.out)⟩
/-! ### portagekit_fullInstrs: function 61 -/
mutual
def portagekit_fullInstrs.l0 : Nat → List (S40) → List (S40) → Int → Option ((List (S40)))
  | 0, _, _, _ => none
  | k + 1, x0, x3, x4 => if x4 < (x0.length : Int) then (if 0 ≤ x4 then (if x3.length < 8796093022208 then (portagekit_fullInstrs.l0 k x0 (x3 ++ [(⟨(rd_T40 x0 x4).f0, (rd_T40 x0 x4).f1⟩ : S40)]) (wrap64 (x4 + 1))) else (none)) else (none)) else (portagekit_fullInstrs.l1 k x3 0)
def portagekit_fullInstrs.l1 : Nat → List (S40) → Int → Option ((List (S40)))
  | 0, _, _ => none
  | k + 1, x3, x5 => if x5 < 64 then (if x3.length < 8796093022208 then (portagekit_fullInstrs.l1 k (x3 ++ [(⟨(-7), x5⟩ : S40)]) (wrap64 (x5 + 1))) else (none)) else (some x3)
end
def portagekit_fullInstrs.f (k : Nat) (l0 : List (S40)) : Option ((List (S40))) := portagekit_fullInstrs.l0 k l0 ([] : List (S40)) 0
theorem portagekit_fullInstrs.mono_l : ∀ k, (∀ y0 y1 y2, LeO (portagekit_fullInstrs.l0 k y0 y1 y2) (portagekit_fullInstrs.l0 (k + 1) y0 y1 y2)) ∧ (∀ y0 y1, LeO (portagekit_fullInstrs.l1 k y0 y1) (portagekit_fullInstrs.l1 (k + 1) y0 y1))
  | 0 => ⟨fun _ _ _ r h => by simp [portagekit_fullInstrs.l0] at h, fun _ _ r h => by simp [portagekit_fullInstrs.l1] at h⟩
  | k + 1 => by
    obtain ⟨ih0, ih1⟩ := portagekit_fullInstrs.mono_l k
    refine ⟨?_, ?_⟩
    · intro y0 y1 y2
      unfold portagekit_fullInstrs.l0
      repeat' first
      | (with_reducible exact ih0 _ _ _)
      | (with_reducible exact ih1 _ _)
      | (with_reducible exact LeO.refl _)
      | (with_reducible exact LeO.none _)
      | (with_reducible refine LeO.ite ?_ ?_)
      | (with_reducible refine LeO.bind ?_ (fun _ => ?_))
      | exact ih0 _ _ _
      | exact ih1 _ _
      | exact LeO.none _
      | refine LeO.ite ?_ ?_
      | refine LeO.bind ?_ (fun _ => ?_)
    · intro y0 y1
      unfold portagekit_fullInstrs.l1
      repeat' first
      | (with_reducible exact ih0 _ _ _)
      | (with_reducible exact ih1 _ _)
      | (with_reducible exact LeO.refl _)
      | (with_reducible exact LeO.none _)
      | (with_reducible refine LeO.ite ?_ ?_)
      | (with_reducible refine LeO.bind ?_ (fun _ => ?_))
      | exact ih0 _ _ _
      | exact ih1 _ _
      | exact LeO.none _
      | refine LeO.ite ?_ ?_
      | refine LeO.bind ?_ (fun _ => ?_)
theorem portagekit_fullInstrs.mono : ∀ a0 k, LeO (portagekit_fullInstrs.f k a0) (portagekit_fullInstrs.f (k + 1) a0) := by
 intro a0 k; obtain ⟨ih0, ih1⟩ := portagekit_fullInstrs.mono_l k; unfold portagekit_fullInstrs.f; repeat' first
  | (with_reducible exact ih0 _ _ _)
  | (with_reducible exact ih1 _ _)
  | (with_reducible exact LeO.refl _)
  | (with_reducible exact LeO.none _)
  | (with_reducible refine LeO.ite ?_ ?_)
  | (with_reducible refine LeO.bind ?_ (fun _ => ?_))
  | exact ih0 _ _ _
  | exact ih1 _ _
  | exact LeO.none _
  | refine LeO.ite ?_ ?_
  | refine LeO.bind ?_ (fun _ => ?_)
set_option maxHeartbeats 8000000 in
set_option maxRecDepth 100000 in
theorem portagekit_fullInstrs.calls (k : Nat) (A0 : Option Addr) (c0 : Nat) (l0 : List (S40)) (r : List (S40)) (w : World) (hr0 : Kd.C k40 w A0 l0.length l0) (hc0 : l0.length ≤ c0) (h : portagekit_fullInstrs.f k l0 = some r) :
    Calls Try.prog 61 #[.slice A0 l0.length c0] w fun e w' => ∃ v0_ : Value, e = .returned (v0_) ∧ Kd.R k40 40 w' w.heap.size (fun _ => True) v0_ r ∧ Below w.heap.size w w' := by
 have hu40 := Try.underlying40; have HR0 := Aside0.mk hr0; have HC0 := Aside0.mk hc0; clear hr0 hc0; have HB := Aside0.mk (Below.refl w.heap.size w); have H : (portagekit_fullInstrs.l0 k l0 ([] : List (S40)) 0) = some r := h; clear h; have H' := Aside0.mk H; clear H; go_enter Try.func61, Try.ntmps61; go_wp2; go_loopg [3, 4] k (fun kq v3 v4 w' => ∃ (x3_1 : List (S40)) (x4_1 : Int), v4 = .int .i64 x4_1 ∧ Aside0 (portagekit_fullInstrs.l0 kq l0 x3_1 x4_1 = some r) ∧ Aside0 (kq ≤ k) ∧ Aside0 (Kd.R k40 40 w' w.heap.size (fun _ => True) v3 x3_1) ∧ Aside0 (Below w.heap.size w w'))
 case atStart => exact ⟨(([] : List (S40))), (0), (by first | rfl | (simp; done) | (simp [*]; done)), H', ⟨Nat.le_refl _⟩, ⟨by first | exact Kd.R_nil _ _ _ _ _ | exact Kd.N_nil _ _ _ _ _ | exact Kd.V_nil _ _ _ _ _ | exact Kd.Q_nil _ _ _ _ _ | exact Kd.S_nil _ _ _ _ _⟩, ⟨by repeat (first | (with_reducible first | exact HB.out | apply below_alloc | apply pw_below_drewN | apply below_drew1) | exact HB.out)⟩⟩
 case round =>
  clear H'; obtain ⟨x3_1, x4_1, rfl, HA, HK1, HO_3, HB⟩ := hrel
  cases gk with
  | zero => exact absurd HA.out (by simp [portagekit_fullInstrs.l0])
  | succ k1 =>
   have H := HA.out; clear HA; simp only [portagekit_fullInstrs.l0] at H
   by_cases c2 : x4_1 < (l0.length : Int)
   ·rw [if_pos c2] at H; have c2b0 : decide (x4_1 < (l0.length : Int)) = true := decide_eq_true c2; clear c2
    by_cases c3 : 0 ≤ x4_1
    ·rw [if_pos c3] at H; have c3b0 : decide (0 ≤ x4_1) = true := decide_eq_true c3; clear c3
     by_cases c4 : x3_1.length < 8796093022208
     ·rw [if_pos c4] at H; have LMc4 := Aside0.mk c4; clear c4; obtain ⟨y248, hy248⟩ : ∃ y_ : List (S40), y_ = (x3_1 ++ [(⟨(rd_T40 l0 x4_1).f0, (rd_T40 l0 x4_1).f1⟩ : S40)]) := ⟨_, rfl⟩; replace H : (portagekit_fullInstrs.l0 k1 l0 y248 (wrap64 (x4_1 + 1))) = some r := by first | (rw [hy248]; with_reducible exact H) | (have H2_ := (Option.bind_some _ _).symm.trans H; rw [hy248]; with_reducible exact H2_) | (have H2_ := (Option.bind_some _ _).symm.trans H; with_reducible exact H2_) | with_reducible exact H | (rw [hy248]; exact H) | exact H
      have Ny248 := Aside0.mk hy248; clear hy248; have H' := Aside0.mk H; clear H; have p247 : 0 ≤ (x4_1 : Int) := of_decide_eq_true (by first | (with_reducible assumption) | assumption); have q247 : x4_1 < (l0.length : Int) := of_decide_eq_true (by first | (with_reducible assumption) | assumption); obtain ⟨ad247, e247, hx247_0, hx247_1⟩ := at_T40 HR0.out x4_1 p247 q247
      cases e247; replace hx247_0 := (HB.out.cell (World.block_lt_of_cell? w _ hx247_0)).trans hx247_0; replace hx247_1 := (HB.out.cell (World.block_lt_of_cell? w _ hx247_1)).trans hx247_1; replace p247 := eq_true p247; replace q247 := eq_true q247; go_wp2_with (first | ((with_reducible refine gate_builtin (b := .append) (xs := #[.tmp 12, .tmp 17]) rfl ?_); at_builtin; refine Kd.R_append k40 (w0 := w) w.heap.size rfl (.tmp 12) (.tmp 17) 22 40 (.agg #[(.int .i64 0), (.int .i64 0)]) 16 rfl Try.underlying22 info40 rfl (by decide) (by omega) u3 x3_1 (⟨(rd_T40 l0 x4_1).f0, (rd_T40 l0 x4_1).f1⟩ : S40) [.int .i64 ((rd_T40 l0 x4_1).f0), .int .i64 ((rd_T40 l0 x4_1).f1)] (fun _ => True) (fun _ => False) rfl rfl ?aP (fun _ hk => hk.elim) ?aF ?aO ?aB ?aS ?aL ?_; (case aP => exact k40_mkM _ _ _ (⟨(rd_T40 l0 x4_1).f0, (rd_T40 l0 x4_1).f1⟩ : S40)); (case aB => exact (by repeat (first | (with_reducible first | exact HB.out | apply below_alloc | apply pw_below_drewN | apply below_drew1) | exact HB.out))); (case aF => exact (fun _ _ => trivial)); (case aO => exact (by (with_reducible repeat (first | apply Kd.R_alloc | apply Kd.R_drewN | apply Kd.R_drew)); exact HO_3.out)); (case aS => exact (below_size (by repeat (first | (with_reducible first | exact HB.out | apply below_alloc | apply pw_below_drewN | apply below_drew1) | exact HB.out)))); (case aL => have := LMc4.out; omega); intro v249 w5 ho hb hg hat; rw [← Ny248.out] at ho; have n0_ := Aside0.mk (hb); have n1_ := Aside0.mk (ho); clear HB; clear HO_3; have HB := n0_; have HO250 := n1_; clear n0_ n1_; clear ho hb hg hat))
      go_roundg k1
      case measure => have := HK1.out; omega
      case rel => exact ⟨(y248), (wrap64 (x4_1 + 1)), (by first | rfl | (simp; done) | (simp [*]; done)), H', ⟨by have := HK1.out; omega⟩, ⟨by (with_reducible repeat (first | apply Kd.R_alloc | apply Kd.R_drewN | apply Kd.R_drew)); exact HO250.out⟩, ⟨by repeat (first | (with_reducible first | exact HB.out | apply below_alloc | apply pw_below_drewN | apply below_drew1) | exact HB.out)⟩⟩
     ·rw [if_neg c4] at H
      exact absurd H (by simp)
    ·rw [if_neg c3] at H
     exact absurd H (by simp)
   ·rw [if_neg c2] at H; have c2b0 : decide (x4_1 < (l0.length : Int)) = false := decide_eq_false c2; clear c2; have H' := Aside0.mk H; clear H; go_wp2; go_loopg [3, 5] k1 (fun kq v3 v5 w' => ∃ (x3_2 : List (S40)) (x5_2 : Int), v5 = .int .i64 x5_2 ∧ Aside0 (portagekit_fullInstrs.l1 kq x3_2 x5_2 = some r) ∧ Aside0 (kq ≤ k1) ∧ Aside0 (Kd.R k40 40 w' w.heap.size (fun _ => True) v3 x3_2) ∧ Aside0 (Below w.heap.size w w'))
    case atStart => exact ⟨(x3_1), (0), (by first | rfl | (simp; done) | (simp [*]; done)), H', ⟨Nat.le_refl _⟩, ⟨by (with_reducible repeat (first | apply Kd.R_alloc | apply Kd.R_drewN | apply Kd.R_drew)); exact HO_3.out⟩, ⟨by repeat (first | (with_reducible first | exact HB.out | apply below_alloc | apply pw_below_drewN | apply below_drew1) | exact HB.out)⟩⟩
    case round =>
     clear H'; (try clear c2); (try clear c2b0); (try clear p2); (try clear q2); (try clear hx2); (try clear c3); (try clear c3b0); (try clear c4); (try clear hx247_0); (try clear hx247_1); (try clear p247); (try clear q247); obtain ⟨x3_2, x5_2, rfl, HA, HK2, HO_3, HB⟩ := hrel
     cases gk with
     | zero => exact absurd HA.out (by simp [portagekit_fullInstrs.l1])
     | succ k2 =>
      have H := HA.out; clear HA; simp only [portagekit_fullInstrs.l1] at H
      by_cases c6 : x5_2 < 64
      ·rw [if_pos c6] at H; have c6b0 : decide (x5_2 < 64) = true := decide_eq_true c6; clear c6
       by_cases c7 : x3_2.length < 8796093022208
       ·rw [if_pos c7] at H; have LMc7 := Aside0.mk c7; clear c7; obtain ⟨y251, hy251⟩ : ∃ y_ : List (S40), y_ = (x3_2 ++ [(⟨(-7), x5_2⟩ : S40)]) := ⟨_, rfl⟩; replace H : (portagekit_fullInstrs.l1 k2 y251 (wrap64 (x5_2 + 1))) = some r := by first | (rw [hy251]; with_reducible exact H) | (have H2_ := (Option.bind_some _ _).symm.trans H; rw [hy251]; with_reducible exact H2_) | (have H2_ := (Option.bind_some _ _).symm.trans H; with_reducible exact H2_) | with_reducible exact H | (rw [hy251]; exact H) | exact H
        have Ny251 := Aside0.mk hy251; clear hy251; have H' := Aside0.mk H; clear H; go_wp2_with (first | ((with_reducible refine gate_builtin (b := .append) (xs := #[.tmp 23, .tmp 26]) rfl ?_); at_builtin; refine Kd.R_append k40 (w0 := w) w.heap.size rfl (.tmp 23) (.tmp 26) 22 40 (.agg #[(.int .i64 0), (.int .i64 0)]) 16 rfl Try.underlying22 info40 rfl (by decide) (by omega) u3 x3_2 (⟨(-7), x5_2⟩ : S40) [.int .i64 (-7), .int .i64 x5_2] (fun _ => True) (fun _ => False) rfl rfl ?aP (fun _ hk => hk.elim) ?aF ?aO ?aB ?aS ?aL ?_; (case aP => exact k40_mkM _ _ _ (⟨(-7), x5_2⟩ : S40)); (case aB => exact (by repeat (first | (with_reducible first | exact HB.out | apply below_alloc | apply pw_below_drewN | apply below_drew1) | exact HB.out))); (case aF => exact (fun _ _ => trivial)); (case aO => exact (by (with_reducible repeat (first | apply Kd.R_alloc | apply Kd.R_drewN | apply Kd.R_drew)); exact HO_3.out)); (case aS => exact (below_size (by repeat (first | (with_reducible first | exact HB.out | apply below_alloc | apply pw_below_drewN | apply below_drew1) | exact HB.out)))); (case aL => have := LMc7.out; omega); intro v252 w8 ho hb hg hat; rw [← Ny251.out] at ho; have n0_ := Aside0.mk (hb); have n1_ := Aside0.mk (ho); clear HB; clear HO_3; have HB := n0_; have HO253 := n1_; clear n0_ n1_; clear ho hb hg hat))
        go_roundg k2
        case measure => have := HK1.out; have := HK2.out; omega
        case rel => exact ⟨(y251), (wrap64 (x5_2 + 1)), (by first | rfl | (simp; done) | (simp [*]; done)), H', ⟨by have := HK1.out; have := HK2.out; omega⟩, ⟨by (with_reducible repeat (first | apply Kd.R_alloc | apply Kd.R_drewN | apply Kd.R_drew)); exact HO253.out⟩, ⟨by repeat (first | (with_reducible first | exact HB.out | apply below_alloc | apply pw_below_drewN | apply below_drew1) | exact HB.out)⟩⟩
       ·rw [if_neg c7] at H
        exact absurd H (by simp)
      ·rw [if_neg c6] at H; have c6b0 : decide (x5_2 < 64) = false := decide_eq_false c6; clear c6; obtain rfl := Option.some.inj H; go_wp2; go_ret; exact ⟨_, by first | rfl | (simp [errW_none, errW_some] <;> rfl) | (simp [*, errW_none, errW_some] <;> rfl), by (with_reducible repeat (first | apply Kd.R_alloc | apply Kd.R_drewN | apply Kd.R_drew)); exact HO_3.out, by repeat (first | (with_reducible first | exact HB.out | apply below_alloc | apply pw_below_drewN | apply below_drew1) | exact HB.out)⟩
/-! ### portagekit_LentInstrs: function 42 -/
def portagekit_LentInstrs.f (k : Nat) (l0 : List (S40)) : Option ((List (S40))) := (portagekit_fullInstrs.f k l0).bind fun t254 => (some t254)
theorem portagekit_LentInstrs.mono : ∀ a0 k, LeO (portagekit_LentInstrs.f k a0) (portagekit_LentInstrs.f (k + 1) a0) := by
 intro a0 k; unfold portagekit_LentInstrs.f; repeat' first
  | (with_reducible exact portagekit_fullInstrs.mono _ _)
  | (with_reducible exact LeO.refl _)
  | (with_reducible exact LeO.none _)
  | (with_reducible refine LeO.ite ?_ ?_)
  | (with_reducible refine LeO.bind ?_ (fun _ => ?_))
  | exact portagekit_fullInstrs.mono _ _
  | exact LeO.none _
  | refine LeO.ite ?_ ?_
  | refine LeO.bind ?_ (fun _ => ?_)
set_option maxHeartbeats 8000000 in
set_option maxRecDepth 100000 in
theorem portagekit_LentInstrs.calls (k : Nat) (A0 : Option Addr) (c0 : Nat) (l0 : List (S40)) (r : List (S40)) (w : World) (hr0 : Kd.C k40 w A0 l0.length l0) (hc0 : l0.length ≤ c0) (h : portagekit_LentInstrs.f k l0 = some r) :
    Calls Try.prog 42 #[.slice A0 l0.length c0] w fun e w' => ∃ v0_ : Value, e = .returned (v0_) ∧ Kd.R k40 40 w' w.heap.size (fun _ => True) v0_ r ∧ Below w.heap.size w w' := by
 have HR0 := Aside0.mk hr0; have HC0 := Aside0.mk hc0; clear hr0 hc0; have HB := Aside0.mk (Below.refl w.heap.size w); have H : ((portagekit_fullInstrs.f k l0).bind fun t254 => (some t254)) = some r := h; clear h; replace H := Option.bind_eq_some_iff.mp H; obtain ⟨t254, A20, H⟩ := H; replace H : (some t254) = some r := H; have A2 := Aside0.mk A20; clear A20; obtain rfl := Option.some.inj H; go_enter Try.func42, Try.ntmps42; go_wp2_with (first | ((with_reducible refine gate_callee (f := 61) rfl ?_); refine goesL_ (some 4) rfl rfl Try.func61 (by kernel_rfl) rfl #[.slice A0 l0.length c0] rfl (by (try simp only [List.map_toArray, List.map_cons, List.map_nil]); first | done | rfl | (simp only [List.length_drop, List.length_take]; rfl)) ?_; (with_reducible refine (portagekit_fullInstrs.calls k _ _ l0 t254 _ ?side1 ?side2 A2.out).mono ?_); (case side1 => repeat (first | exact HR0.out | (with_reducible refine Kd.C_alloc ?_ _) | (with_reducible refine Kd.C_drewN ?_ _) | (with_reducible refine Kd.C_drew ?_))); (case side2 => exact HC0.out); rintro e w3 ⟨v255, rfl, ho0, hb⟩; refine ⟨_, rfl, ?_⟩; have n0_ := Aside0.mk (Kd.R_lower ho0 (below_size (by repeat (first | (with_reducible first | exact HB.out | apply below_alloc | apply pw_below_drewN | apply below_drew1) | exact HB.out)))); have n1_ := Aside0.mk (below_step (by repeat (first | (with_reducible first | exact HB.out | apply below_alloc | apply pw_below_drewN | apply below_drew1) | exact HB.out)) hb); clear HB; have HO256 := n0_; have HB := n1_; clear n0_ n1_; (try clear hb); (try clear hb2); (try clear hk); (try clear hi); (try clear ho0)))
 go_ret; exact ⟨_, by first | rfl | (simp [errW_none, errW_some] <;> rfl) | (simp [*, errW_none, errW_some] <;> rfl), by (with_reducible repeat (first | apply Kd.R_alloc | apply Kd.R_drewN | apply Kd.R_drew)); exact HO256.out, by repeat (first | (with_reducible first | exact HB.out | apply below_alloc | apply pw_below_drewN | apply below_drew1) | exact HB.out)⟩
-- NOT PRINTED: function 12 (portagelaw09_lent)

/-! ### portagekit_Num: function 14 -/
def portagekit_Num.f (a0 : Int) : Option (Int) := some a0
set_option maxHeartbeats 8000000 in
set_option maxRecDepth 100000 in
theorem portagekit_Num.calls (a0 : Int) (r : Int) (w : World) (h : portagekit_Num.f a0 = some r) :
    Calls Try.prog 14 #[.int .i64 a0] w fun e w' => e = .returned (.int .i64 r) ∧ Drawn0 w w' := by
 have H : (some a0) = some r := h; clear h; obtain rfl := Option.some.inj H; go_enter Try.func14, Try.ntmps14; go_wp2; go_ret; exact ⟨by first | rfl | (simp; done) | (simp [*]; done), by repeat (first | exact Drawn0.refl _ | apply Drawn0.step)⟩
end Go.Proofs.Ytmeaepmimnmjlaa.PGb
/- Proved: GraphKnown (P9.1 to P9.7, closed): the examples of the chapter, handlers at the ends of the code, a row of 100 blocks. -/
namespace Go.Proofs.Ytmeaepmimnmjlaa.Ask
open Go.Proofs.Ytmeaepmimnmjlaa.Dfs Go.Proofs.Ytmeaepmimnmjlaa.Dom Go.Proofs.Ytmeaepmimnmjlaa.DomT Go.RowKit Go.Shelf Go.Proofs.Ytmeaepmimnmjlaa.PGb Go.Proofs.Ytmeaepmimnmjlaa.Lit Go.Proofs.Ytmeaepmimnmjlaa.OwnCells Go.Proofs.YtmeaepmimnmjlaaW.PrintWords Go.Proofs.YtmeaepmimnmjlaaW.PrintLast Go.Proofs.YtmeaepmimnmjlaaW.PrintMore
attribute [local go_sem] Oper.semAt_some
attribute [local go_sem] run_store_fn
attribute [local go_sem] run_eql_fn
set_option linter.unusedVariables false
set_option linter.unusedSimpArgs false
/-- the example's graph, in a box -/
structure K1 (w W : World) (G1 : Nat) (a0 a1 a2 a3 a4 : Option Addr) (k0 k1 k2 k3 k4 : Nat) : Prop where
  bx : W.heap[G1]? = some (.cells #[.slice a0 3 k0, .slice a1 3 k1, .slice a2 3 k2, .slice a3 3 k3, .slice a4 1 k4] 29 (0, 0))
  r0 : (Kd.int .i64).C W a0 3 [0, 2, 4]
  r1 : (Kd.slice 3 (Kd.int .i64)).C W a1 3 [[1, 2], [0], []]
  r2 : (Kd.int .i64).C W a2 3 [0, 2, 1]
  r3 : (Kd.int .i64).C W a3 3 [-1, 0, 0]
  r4 : (Kd.int .i64).C W a4 1 [0]
  below : Below w.heap.size w W
theorem K1.from_ {w W W' : World} {G1 : Nat} {a0 a1 a2 a3 a4 : Option Addr} {k0 k1 k2 k3 k4 : Nat} (h : K1 w W G1 a0 a1 a2 a3 a4 k0 k1 k2 k3 k4) (hb : Below W.heap.size W W') : K1 w W' G1 a0 a1 a2 a3 a4 k0 k1 k2 k3 k4 := ⟨blk_below h.bx hb, Kd.C_below h.r0 hb, Kd.C_below h.r1 hb, Kd.C_below h.r2 hb, Kd.C_below h.r3 hb, Kd.C_below h.r4 hb, h.below.trans (hb.mono h.below.size)⟩
theorem rows_new (W : World) : (Kd.slice 3 (Kd.int .i64)).C (((W.alloc (.cells #[.int .i64 1, .int .i64 2] 3)).alloc (.cells #[.int .i64 0] 3)).alloc (.cells #[.slice (some ⟨W.heap.size, 0, none⟩) 2 2, .slice (some ⟨W.heap.size + 1, 0, none⟩) 1 1, .slice none 0 0] 26)) (some ⟨W.heap.size + 2, 0, none⟩) 3 [[1, 2], [0], []] := by
  have o1 := own_new W 3 [.int .i64 1, .int .i64 2] (by decide)
  have o2 := own_new (W.alloc (.cells #[.int .i64 1, .int .i64 2] 3)) 3 [.int .i64 0] (by decide)
  have o3 := own_new ((W.alloc (.cells #[.int .i64 1, .int .i64 2] 3)).alloc (.cells #[.int .i64 0] 3)) 26 [.slice (some ⟨W.heap.size, 0, none⟩) 2 2, .slice (some ⟨W.heap.size + 1, 0, none⟩) 1 1, .slice none 0 0] (by simp)
  have e1 : (W.alloc (.cells #[.int .i64 1, .int .i64 2] 3)).heap.size = W.heap.size + 1 := by simp
  have e2 : ((W.alloc (.cells #[.int .i64 1, .int .i64 2] 3)).alloc (.cells #[.int .i64 0] 3)).heap.size = W.heap.size + 2 := by simp
  have o1' := World.ownsRow.alloc (World.ownsRow.alloc o1 (.cells #[.int .i64 0] 3)) (.cells #[.slice (some ⟨W.heap.size, 0, none⟩) 2 2, .slice (some ⟨W.heap.size + 1, 0, none⟩) 1 1, .slice none 0 0] 26)
  have o2' := World.ownsRow.alloc o2 (.cells #[.slice (some ⟨W.heap.size, 0, none⟩) 2 2, .slice (some ⟨W.heap.size + 1, 0, none⟩) 1 1, .slice none 0 0] 26)
  simp only [e1] at o2'
  simp only [e2] at o3
  have hr : RR (Value.int .i64) 3 (((W.alloc (.cells #[.int .i64 1, .int .i64 2] 3)).alloc (.cells #[.int .i64 0] 3)).alloc (.cells #[.slice (some ⟨W.heap.size, 0, none⟩) 2 2, .slice (some ⟨W.heap.size + 1, 0, none⟩) 1 1, .slice none 0 0] 26)) W.heap.size [.slice (some ⟨W.heap.size, 0, none⟩) 2 2, .slice (some ⟨W.heap.size + 1, 0, none⟩) 1 1, .slice none 0 0] [[1, 2], [0], []] := by
    refine ⟨rfl, fun j hj => ?_⟩
    match j, hj with
    | 0, _ => exact o1'
    | 1, _ => exact own_weaken o2' (Nat.le_succ _)
    | 2, _ => exact World.ownsRow_nil _ _ _ _
  exact hr.C_int o3 rfl (by decide) (by decide)
set_option maxHeartbeats 16000000 in
set_option maxRecDepth 100000 in
theorem portagelaw09_GraphKnown.calls (r : Bool) (w : World) (h : True ∧ r = true) : Calls Try.prog 10 #[] w fun e w' => e = .returned (.bool r) ∧ Below w.heap.size w w' := by
  obtain ⟨_, rfl⟩ := h
  have hu25 := Try.underlying25
  have hu29 := Try.underlying29
  have hu49 := Try.underlying49
  go_enter Try.func10, Try.ntmps10
  go_wp2_with (fail)
  have j0 := ints_new w [2, 41, 0, 40, 1, 44] (by decide)
  have j1 := ints_new (w.alloc (.cells #[.int .i64 2, .int .i64 41, .int .i64 0, .int .i64 40, .int .i64 1, .int .i64 44] 3)) [0, 4, 0, 0, 0, 0] (by decide)
  have j0' := Kd.C_below j0 (below_alloc (Below.refl _ (w.alloc (.cells #[.int .i64 2, .int .i64 41, .int .i64 0, .int .i64 40, .int .i64 1, .int .i64 44] 3))) (.cells #[.int .i64 0, .int .i64 4, .int .i64 0, .int .i64 0, .int .i64 0, .int .i64 0] 3))
  have hb := below_alloc (below_alloc (Below.refl _ w) (.cells #[.int .i64 2, .int .i64 41, .int .i64 0, .int .i64 40, .int .i64 1, .int .i64 44] 3)) (.cells #[.int .i64 0, .int .i64 4, .int .i64 0, .int .i64 0, .int .i64 0, .int .i64 0] 3)
  have J0 := Aside0.mk j0'
  have J1 := Aside0.mk j1
  have HB := Aside0.mk hb
  clear j0 j1 j0' hb
  refine (code_own (c0 := 6) (c1 := 6) code6_f J0.out (by decide) (by simpa using J1.out) (by decide)).mono ?_
  rintro e w1 ⟨B3, B4, d3, d4, rfl, hC3, hk3, hC4, hb1⟩
  have HB1 : Aside0 (Below w.heap.size w w1) := ⟨HB.out.trans (hb1.mono HB.out.size)⟩
  have hgb := graph_build (w := w1) (nm := ⟨#[102]⟩) (pa := 0) (lo := 0) (code := code6) (hs := []) (c4 := d4) (by decide) (by simp) (Kd.R_reads' hC3).2.2 hk3 hC4 (Nat.zero_le _)
  rw [show errOf code6 [] = 0 from (errOf_fits _ _).2 fits6] at hgb
  clear hC3 hk3 hC4 hb1 J0 J1 HB
  go_wp2_with (fail)
  refine hgb.mono ?_
  rintro e w2 ⟨v, st, nx, ord, l, hd, rfl, hz, hh, hb⟩
  rcases hz with ⟨_, n, m, hg⟩ | ⟨hf, _⟩
  case inr => exact absurd fits6 hf
  obtain ⟨rfl, rfl, rfl, rfl, rfl⟩ := known6 hg
  obtain ⟨a0, a1, a2, a3, a4, k0, k1, k2, k3, k4, ev, r0, r1, r2, r3, r4⟩ := hh w2 (Nat.le_refl _) fun _ _ _ h _ => h
  have ev' : v = .agg #[.slice a0 3 k0, .slice a1 3 k1, .slice a2 3 k2, .slice a3 3 k3, .slice a4 1 k4] := ev
  subst ev'
  have hb2 := below_alloc (Below.refl _ w2) (.cells #[.slice a0 3 k0, .slice a1 3 k1, .slice a2 3 k2, .slice a3 3 k3, .slice a4 1 k4] 29)
  have HK : Aside0 (K1 w (w2.alloc (.cells #[.slice a0 3 k0, .slice a1 3 k1, .slice a2 3 k2, .slice a3 3 k3, .slice a4 1 k4] 29)) w2.heap.size a0 a1 a2 a3 a4 k0 k1 k2 k3 k4) := ⟨⟨World.alloc_heap_new w2 _, Kd.C_below r0 hb2, Kd.C_below r1 hb2, Kd.C_below r2 hb2, Kd.C_below r3 hb2, Kd.C_below r4 hb2, HB1.out.trans ((hb.trans (hb2.mono hb.size)).mono HB1.out.size)⟩⟩
  clear hh hb hg hgb ev r0 r1 r2 r3 r4 hb2 HB1
  go_upto_region 2 with (fail)
  revert HK
  generalize w2.alloc (.cells #[.slice a0 3 k0, .slice a1 3 k1, .slice a2 3 k2, .slice a3 3 k3, .slice a4 1 k4] 29) = W
  generalize w2.heap.size = G1
  intro HK
  have x0 := cell_blk HK.out.bx (i := 0) rfl
  go_wp2_with (fail)
  have hi9 := ints_new W [0, 2, 4] (by decide)
  have hb9 := below_alloc (Below.refl _ W) (.cells #[.int .i64 0, .int .i64 2, .int .i64 4] 3)
  have HK' := Aside0.mk (HK.out.from_ hb9)
  refine (same_ints a0 (some ⟨W.heap.size, 0, none⟩) k0 3 [0, 2, 4] _ HK'.out.r0 hi9 (by decide)).mono ?_
  rintro e w9 ⟨rfl, m9, rfl⟩
  have HK'' := Aside0.mk (HK'.out.from_ (pw_below_drewN (Below.refl _ _) m9))
  clear x0 hi9 hb9 HK HK'
  revert HK''
  generalize (W.alloc (.cells #[.int .i64 0, .int .i64 2, .int .i64 4] 3)).drewN m9 = W
  intro HK
  have x2 := cell_blk HK.out.bx (i := 2) rfl
  go_wp2_with (fail)
  have hi9 := ints_new W [0, 2, 1] (by decide)
  have hb9 := below_alloc (Below.refl _ W) (.cells #[.int .i64 0, .int .i64 2, .int .i64 1] 3)
  have HK' := Aside0.mk (HK.out.from_ hb9)
  refine (same_ints a2 (some ⟨W.heap.size, 0, none⟩) k2 3 [0, 2, 1] _ HK'.out.r2 hi9 (by decide)).mono ?_
  rintro e w9 ⟨rfl, m9, rfl⟩
  have HK'' := Aside0.mk (HK'.out.from_ (pw_below_drewN (Below.refl _ _) m9))
  clear x2 hi9 hb9 HK HK'
  revert HK''
  generalize (W.alloc (.cells #[.int .i64 0, .int .i64 2, .int .i64 1] 3)).drewN m9 = W
  intro HK
  have x3 := cell_blk HK.out.bx (i := 3) rfl
  go_wp2_with (fail)
  have hi9 := ints_new W [-1, 0, 0] (by decide)
  have hb9 := below_alloc (Below.refl _ W) (.cells #[.int .i64 (-1), .int .i64 0, .int .i64 0] 3)
  have HK' := Aside0.mk (HK.out.from_ hb9)
  refine (same_ints a3 (some ⟨W.heap.size, 0, none⟩) k3 3 [-1, 0, 0] _ HK'.out.r3 hi9 (by decide)).mono ?_
  rintro e w9 ⟨rfl, m9, rfl⟩
  have HK'' := Aside0.mk (HK'.out.from_ (pw_below_drewN (Below.refl _ _) m9))
  clear x3 hi9 hb9 HK HK'
  revert HK''
  generalize (W.alloc (.cells #[.int .i64 (-1), .int .i64 0, .int .i64 0] 3)).drewN m9 = W
  intro HK
  have x4 := cell_blk HK.out.bx (i := 4) rfl
  go_wp2_with (fail)
  have hi9 := ints_new W [0] (by decide)
  have hb9 := below_alloc (Below.refl _ W) (.cells #[.int .i64 0] 3)
  have HK' := Aside0.mk (HK.out.from_ hb9)
  refine (same_ints a4 (some ⟨W.heap.size, 0, none⟩) k4 1 [0] _ HK'.out.r4 hi9 (by decide)).mono ?_
  rintro e w9 ⟨rfl, m9, rfl⟩
  have HK'' := Aside0.mk (HK'.out.from_ (pw_below_drewN (Below.refl _ _) m9))
  clear x4 hi9 hb9 HK HK'
  revert HK''
  generalize (W.alloc (.cells #[.int .i64 0] 3)).drewN m9 = W
  intro HK
  have x1 := cell_blk HK.out.bx (i := 1) rfl
  go_wp2_with (fail)
  have hi9 := rows_new W
  have hb9 := below_alloc (below_alloc (below_alloc (Below.refl _ W) (.cells #[.int .i64 1, .int .i64 2] 3)) (.cells #[.int .i64 0] 3)) (.cells #[.slice (some ⟨W.heap.size, 0, none⟩) 2 2, .slice (some ⟨W.heap.size + 1, 0, none⟩) 1 1, .slice none 0 0] 26)
  have HK' := Aside0.mk (HK.out.from_ hb9)
  refine (same_next a1 (some ⟨W.heap.size + 2, 0, none⟩) k1 3 [[1, 2], [0], []] _ HK'.out.r1 hi9 (by decide) (fun i => ?_)).mono ?_
  case refine_1 =>
    unfold rd_L3
    match i.toNat with
    | 0 => decide
    | 1 => decide
    | 2 => decide
    | n + 3 => simp
  rintro e w9 ⟨rfl, m9, rfl⟩
  have HK'' := Aside0.mk (HK'.out.from_ (pw_below_drewN (Below.refl _ _) m9))
  clear x1 hi9 hb9 HK HK'
  revert HK''
  generalize (((W.alloc (.cells #[.int .i64 1, .int .i64 2] 3)).alloc (.cells #[.int .i64 0] 3)).alloc (.cells #[.slice (some ⟨W.heap.size, 0, none⟩) 2 2, .slice (some ⟨W.heap.size + 1, 0, none⟩) 1 1, .slice none 0 0] 26)).drewN m9 = W
  intro HK
  have x0 := cell_blk HK.out.bx (i := 0) rfl
  have x1 := cell_blk HK.out.bx (i := 1) rfl
  have x2 := cell_blk HK.out.bx (i := 2) rfl
  have x3 := cell_blk HK.out.bx (i := 3) rfl
  have x4 := cell_blk HK.out.bx (i := 4) rfl
  have hbk := block_calls a0 a1 a2 a3 a4 k0 k1 k2 k3 k4 3 3 3 1 [0, 2, 4] (3) W HK.out.r0 (by decide)
  rw [show blockAt (3) (back [0, 2, 4] [(0 : Int), 2, 4].length) = 1 from by decide] at hbk
  go_wp2_with (fail)
  refine hbk.mono ?_
  rintro e w9 ⟨rfl, hb9⟩
  have HK' := Aside0.mk (HK.out.from_ hb9)
  clear x0 x1 x2 x3 x4 hbk hb9 HK
  revert HK'
  generalize w9 = W
  intro HK
  have x0 := cell_blk HK.out.bx (i := 0) rfl
  have x1 := cell_blk HK.out.bx (i := 1) rfl
  have x2 := cell_blk HK.out.bx (i := 2) rfl
  have x3 := cell_blk HK.out.bx (i := 3) rfl
  have x4 := cell_blk HK.out.bx (i := 4) rfl
  have hbk := block_calls a0 a1 a2 a3 a4 k0 k1 k2 k3 k4 3 3 3 1 [0, 2, 4] (-1) W HK.out.r0 (by decide)
  rw [show blockAt (-1) (back [0, 2, 4] [(0 : Int), 2, 4].length) = -1 from by decide] at hbk
  go_wp2_with (fail)
  refine hbk.mono ?_
  rintro e w9 ⟨rfl, hb9⟩
  have HK' := Aside0.mk (HK.out.from_ hb9)
  clear x0 x1 x2 x3 x4 hbk hb9 HK
  revert HK'
  generalize w9 = W
  intro HK
  have x0 := cell_blk HK.out.bx (i := 0) rfl
  have x1 := cell_blk HK.out.bx (i := 1) rfl
  have x2 := cell_blk HK.out.bx (i := 2) rfl
  have x3 := cell_blk HK.out.bx (i := 3) rfl
  have x4 := cell_blk HK.out.bx (i := 4) rfl
  have hbk := block_calls a0 a1 a2 a3 a4 k0 k1 k2 k3 k4 3 3 3 1 [0, 2, 4] (99) W HK.out.r0 (by decide)
  rw [show blockAt (99) (back [0, 2, 4] [(0 : Int), 2, 4].length) = 2 from by decide] at hbk
  go_wp2_with (fail)
  refine hbk.mono ?_
  rintro e w9 ⟨rfl, hb9⟩
  have HK' := Aside0.mk (HK.out.from_ hb9)
  clear x0 x1 x2 x3 x4 hbk hb9 HK
  revert HK'
  generalize w9 = W
  intro HK
  have HB := Aside0.mk HK.out.below
  clear HK
  have hgb := graph_build (w := W) (nm := ⟨#[]⟩) (pa := 0) (lo := 0) (code := []) (hs := []) (c3 := 0) (c4 := 0) (by decide) (by simp) (nil_C W) (by decide) (nil_C W) (by decide)
  rw [show errOf ([] : List S40) [] = 2 from rfl] at hgb
  go_wp2_with (fail)
  refine hgb.mono ?_
  rintro e w3 ⟨v, st, nx, ord, l, hd, rfl, _, hh, hb⟩
  obtain ⟨b0, b1, b2, b3, b4, m0, m1, m2, m3, m4, ev, _⟩ := hh w3 (Nat.le_refl _) fun _ _ _ h _ => h
  subst ev
  have HB3 : Aside0 (Below w.heap.size w (w3.alloc (.cells #[.slice b0 st.length m0, .slice b1 nx.length m1, .slice b2 ord.length m2, .slice b3 l.length m3, .slice b4 hd.length m4] 29))) := ⟨HB.out.trans ((hb.trans ((below_alloc (Below.refl _ w3) _).mono hb.size)).mono HB.out.size)⟩
  clear hh hb hgb HB
  go_upto_region 7 with (fail)
  revert HB3
  generalize w3.alloc (.cells #[.slice b0 st.length m0, .slice b1 nx.length m1, .slice b2 ord.length m2, .slice b3 l.length m3, .slice b4 hd.length m4] 29) = W3
  intro HB3
  go_wp2_with (fail)
  have j0 := ints_new W3 [40] (by decide)
  have j1 := ints_new (W3.alloc (.cells #[.int .i64 40] 3)) [1] (by decide)
  have j0' := Kd.C_below j0 (below_alloc (Below.refl _ (W3.alloc (.cells #[.int .i64 40] 3))) (.cells #[.int .i64 1] 3))
  have HB4 : Aside0 (Below w.heap.size w ((W3.alloc (.cells #[.int .i64 40] 3)).alloc (.cells #[.int .i64 1] 3))) := ⟨HB3.out.trans ((below_alloc (below_alloc (Below.refl _ W3) _) _).mono HB3.out.size)⟩
  refine (code_own (c0 := 1) (c1 := 1) code1_f j0' (by decide) (by simpa using j1) (by decide)).mono ?_
  rintro e w4 ⟨B3, B4, d3, d4, rfl, hC3, hk3, hC4, hb4⟩
  have HB5 : Aside0 (Below w.heap.size w w4) := ⟨HB4.out.trans (hb4.mono HB4.out.size)⟩
  have hgb := graph_build (w := w4) (nm := ⟨#[102]⟩) (pa := 0) (lo := 0) (code := [⟨40, 1⟩]) (hs := []) (c4 := d4) (by decide) (by simp) (Kd.R_reads' hC3).2.2 hk3 hC4 (Nat.zero_le _)
  rw [show errOf ([⟨40, 1⟩] : List S40) [] = 8 from rfl] at hgb
  clear j0 j1 j0' HB3 HB4 hC3 hk3 hC4 hb4
  go_wp2_with (fail)
  refine hgb.mono ?_
  rintro e w5 ⟨v, st5, nx5, ord5, l5, hd5, rfl, _, hh, hb⟩
  obtain ⟨e0, e1, e2, e3, e4, n0, n1, n2, n3, n4, ev, _⟩ := hh w5 (Nat.le_refl _) fun _ _ _ h _ => h
  subst ev
  have HB6 : Aside0 (Below w.heap.size w (w5.alloc (.cells #[.slice e0 st5.length n0, .slice e1 nx5.length n1, .slice e2 ord5.length n2, .slice e3 l5.length n3, .slice e4 hd5.length n4] 29))) := ⟨HB5.out.trans ((hb.trans ((below_alloc (Below.refl _ w5) _).mono hb.size)).mono HB5.out.size)⟩
  clear hh hb hgb HB5
  go_upto_region 8 with (fail)
  revert HB6
  generalize w5.alloc (.cells #[.slice e0 st5.length n0, .slice e1 nx5.length n1, .slice e2 ord5.length n2, .slice e3 l5.length n3, .slice e4 hd5.length n4] 29) = W
  intro HB
  have her := errs_own (0) (3) (2) (0) W
  rw [show errOf code3 [⟨0, 3, 2, 0⟩] = 0 from rfl] at her
  go_wp2_with (fail)
  refine her.mono ?_
  rintro e w9 ⟨rfl, hb9⟩
  have HB' := Aside0.mk (HB.out.trans (hb9.mono HB.out.size))
  clear her hb9 HB
  revert HB'
  generalize w9 = W
  intro HB
  have her := errs_own (2) (3) (0) (-5) W
  rw [show errOf code3 [⟨2, 3, 0, -5⟩] = 0 from rfl] at her
  go_wp2_with (fail)
  refine her.mono ?_
  rintro e w9 ⟨rfl, hb9⟩
  have HB' := Aside0.mk (HB.out.trans (hb9.mono HB.out.size))
  clear her hb9 HB
  revert HB'
  generalize w9 = W
  intro HB
  have her := errs_own (1) (1) (0) (0) W
  rw [show errOf code3 [⟨1, 1, 0, 0⟩] = 8 from rfl] at her
  go_wp2_with (fail)
  refine her.mono ?_
  rintro e w9 ⟨rfl, hb9⟩
  have HB' := Aside0.mk (HB.out.trans (hb9.mono HB.out.size))
  clear her hb9 HB
  revert HB'
  generalize w9 = W
  intro HB
  have her := errs_own (2) (1) (0) (0) W
  rw [show errOf code3 [⟨2, 1, 0, 0⟩] = 8 from rfl] at her
  go_wp2_with (fail)
  refine her.mono ?_
  rintro e w9 ⟨rfl, hb9⟩
  have HB' := Aside0.mk (HB.out.trans (hb9.mono HB.out.size))
  clear her hb9 HB
  revert HB'
  generalize w9 = W
  intro HB
  have her := errs_own (-1) (1) (0) (0) W
  rw [show errOf code3 [⟨-1, 1, 0, 0⟩] = 8 from rfl] at her
  go_wp2_with (fail)
  refine her.mono ?_
  rintro e w9 ⟨rfl, hb9⟩
  have HB' := Aside0.mk (HB.out.trans (hb9.mono HB.out.size))
  clear her hb9 HB
  revert HB'
  generalize w9 = W
  intro HB
  have her := errs_own (0) (4) (0) (0) W
  rw [show errOf code3 [⟨0, 4, 0, 0⟩] = 8 from rfl] at her
  go_wp2_with (fail)
  refine her.mono ?_
  rintro e w9 ⟨rfl, hb9⟩
  have HB' := Aside0.mk (HB.out.trans (hb9.mono HB.out.size))
  clear her hb9 HB
  revert HB'
  generalize w9 = W
  intro HB
  have her := errs_own (0) (1) (3) (0) W
  rw [show errOf code3 [⟨0, 1, 3, 0⟩] = 8 from rfl] at her
  go_wp2_with (fail)
  refine her.mono ?_
  rintro e w9 ⟨rfl, hb9⟩
  have HB' := Aside0.mk (HB.out.trans (hb9.mono HB.out.size))
  clear her hb9 HB
  revert HB'
  generalize w9 = W
  intro HB
  have her := errs_own (0) (1) (-1) (0) W
  rw [show errOf code3 [⟨0, 1, -1, 0⟩] = 8 from rfl] at her
  go_wp2_with (fail)
  refine her.mono ?_
  rintro e w9 ⟨rfl, hb9⟩
  have HB' := Aside0.mk (HB.out.trans (hb9.mono HB.out.size))
  clear her hb9 HB
  revert HB'
  generalize w9 = W
  intro HB
  have hrow := row_own 100 (by decide) (by decide) W
  go_wp2_with (fail)
  refine hrow.mono ?_
  rintro e w9 ⟨rfl, hb9⟩
  have HF := Aside0.mk (HB.out.trans (hb9.mono HB.out.size))
  clear hrow hb9 HB
  go_wp2_with (fail)
  go_ret
  exact ⟨rfl, HF.out⟩
end Go.Proofs.Ytmeaepmimnmjlaa.Ask
/- How an argument that reads as data is opened into a kind's value: whole numbers, bools, texts, structs, slices, nested as deep as one likes. -/
namespace Go.Proofs.Ytmeaepmimnmjlaa.Open
open Go.RowKit Go.Proofs.YtmeaepmimnmjlaaW.PrintWords
set_option linter.unusedVariables false
set_option linter.unusedSimpArgs false

def small (l : List Nat) : Prop := l.all (· ≤ reachBytes) = true
/-- What reads as data of type t is a value of kind d of which Q holds. -/
def Opens {α : Type} (d : Kd α) (P : Program) (t : TypeId) (Q : α → Prop) : Prop :=
  ∀ (H : Type) (enc : TypeId × Value → H) (W : World) (fuel : Nat) (cs : List Value) (x : DataW H × List MemPlace), DataW.trod enc P W 0 (fun _ => true) true fuel t cs = some x → small (x.1.weights P t) → ∃ a, d.K W a cs ∧ Q a
/-- .. of a struct's fields from one on. -/
def OpensF {α : Type} (d : Kd α) (P : Program) (fs : List Field) (off : Nat) (Q : α → Prop) : Prop :=
  ∀ (H : Type) (enc : TypeId × Value → H) (W : World) (fuel : Nat) (cs : List Value) (xs : List (DataW H × List MemPlace)), cs.length = d.sz → xs.length = fs.length →
    (∀ (i : Nat) (f : Field), fs[i]? = some f → DataW.trod enc P W 0 (fun _ => true) true fuel f.type ((cs.drop (f.offset - off)).take (P.cellsOf f.type)) = xs[i]?) →
    (∀ (i : Nat) (f : Field), fs[i]? = some f → off ≤ f.offset) →
    small (DataW.weightsEach P (fs.map (·.type)) (xs.map (·.1))) → ∃ a, d.K W a cs ∧ Q a

theorem Opens.mono {α : Type} {d : Kd α} {P : Program} {t : TypeId} {Q Q' : α → Prop} (h : Opens d P t Q) (hq : ∀ a, Q a → Q' a) : Opens d P t Q' := fun H enc W fuel cs x h1 h2 =>
  let ⟨a, h3, h4⟩ := h H enc W fuel cs x h1 h2; ⟨a, h3, hq a h4⟩

end Go.Proofs.Ytmeaepmimnmjlaa.Open
/- Proved: GraphKnown (closed): the examples of the chapter, handlers at the ends of the code, a row of 100 blocks: the law returns true. -/
namespace Go.Proofs.Ytmeaepmimnmjlaa.graphKnown
open Go.ChangeShapes Go.WideShapes Go.ChangeAt Go.RowKit
open Go.Proofs.Ytmeaepmimnmjlaa.Open Go.Proofs.Ytmeaepmimnmjlaa.PGb Go.Proofs.Ytmeaepmimnmjlaa.Ask Go.Proofs.YtmeaepmimnmjlaaW.PrintWords
open Go.ChangeMaps (open_string shut_string)
set_option linter.unusedVariables false
set_option linter.unusedSimpArgs false
theorem own : ownKnob Try.prog.godebug = none := by kernel_rfl
set_option maxRecDepth 100000 in
set_option maxHeartbeats 1000000 in
theorem contract (H : Type) (enc : TypeId × Value → H) (W : World) (base : Nat) (args : Array Value) (ds gs : List (DataW H)) (before : List MemPlace)
  (hval0 : ∀ (j : Nat) t v, Try.f10.params[j]? = some t → args[j]? = some v → Value.okWide Try.prog W .any base t v)
  (hW : DataW.Whole enc Try.prog Try.f10.params.toList Rows.graphKnownSpec.vars false W args.toList ds gs before) (hsz0 : (DataW.weightsEach Try.prog (Try.f10.params.toList ++ Rows.graphKnownSpec.plain.varTypes Try.prog) (ds ++ gs)).all (· ≤ reachBytes) = true) :
    Calls Try.prog 10 args W fun e W' => ∃ v, e = .returned v ∧ Rows.graphKnownSpec.post enc Try.prog Try.f10 false true false false W args v W' := by
  have hsz := hsz0
  have hval := hval0
  have hW' := hW
  obtain ⟨p, q, hA0, hV, rfl, hfz, hnd⟩ := hW
  have hA : DataW.TrodAll enc Try.prog W 0 (fun _ => true) true Try.f10.params.toList args.toList ds p := hA0
  rw [Try.params10] at hA hval hsz
  obtain ⟨hargs, rfl, rfl⟩ := trodAll_nil hA
  obtain rfl : args = #[] := by cases args; simp_all
  obtain ⟨rfl, rfl⟩ := trodVars_none hV
  obtain hk := show True ∧ true = true from ⟨trivial, rfl⟩
  refine (portagelaw09_GraphKnown.calls  true W  hk).mono fun e W' ⟨he, bel⟩ => ?_
  subst he
  exact ⟨_, rfl, _, _, _, [], _, [], hW', trodAll_mk1 (shut_bool Try.underlying4 _), trodAll_mk0, rfl, bel.frame _, fun h => by cases h⟩
set_option maxRecDepth 100000 in
theorem lifted (os : Os) (started : os.Started) (H : Type) (enc : TypeId × Value → H) :
    ReturnsInHanded {} Try.checked os 10 .any (Rows.graphKnownSpec.pre6 enc Try.prog Try.f10 Rows.graphKnownRow.domain false) (Rows.graphKnownSpec.post enc Try.prog Try.f10 false true false false) := by
  refine returnsInHanded_of_change_sized (C := Try.checked) own started (by kernel_rfl) Try.func10
    (ChangeSpec.witness6 (enc := enc) (C := Try.checked) false ⟨#[], #[], []⟩ 8 (by kernel_rfl) (by kernel_rfl) (by kernel_rfl) (by kernel_rfl)) ?_
  intro W base args ds gs before hval0 hW hcnd hsz0 _
  exact contract H enc W base args ds gs before hval0 hW hsz0
theorem proved : Rows.GraphKnownSaid :=
  OpenClaim.holds_of_wide 10 Try.f10 rfl rfl rfl rfl rfl rfl rfl ⟨rfl, rfl, rfl, rfl, rfl⟩ rfl rfl rfl rfl rfl (by kernel_rfl) Try.func10 (by kernel_rfl)
    (of_decide_eq_true (by kernel_rfl)) (by unfold Func.isWrapper; first | (rw [if_pos (by decide +kernel)]; kernel_rfl) | (rw [if_neg (by decide +kernel)]; exact ⟨rfl, rfl⟩))
    (fun os started H enc _ => lifted os started H enc)
#print axioms proved
end Go.Proofs.Ytmeaepmimnmjlaa.graphKnown
namespace Go.Proofs.Ytmeaepmimnmjlaa
/-- The row, under a short name, for the claim. -/
theorem graphKnown_holds : Rows.GraphKnownSaid := graphKnown.proved
end Go.Proofs.Ytmeaepmimnmjlaa
