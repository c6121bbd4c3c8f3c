/- copies.Run, plainly: once is enough; what it keeps; nobody asks for a copy. -/
import Derived.Test.YtjekpkpmoanadaaRun2
namespace Go.Proofs.Ytjekpkpmoanadaa.PCop
set_option linter.unusedVariables false
set_option linter.unusedSimpArgs false
/-- what is known of registers is not itself known to be something else -/
def Flat (M : Map49) : Prop := ∀ r o, M r = some o → o.f0 = 0 → M o.f1 = none ∧ o.f1 ≠ r
theorem flat_none : Flat noMap := fun r o h => by cases h
theorem ask_idem {M : Map49} (h : Flat M) (o : S49) : ask M (ask M o) = ask M o := by
  unfold ask
  by_cases h0 : o.f0 = 0
  · rw [if_pos h0]
    cases hm : M o.f1 with
    | none => simp only [Option.getD_none]; rw [if_pos h0, hm]; rfl
    | some y =>
      simp only [Option.getD_some]
      by_cases hy : y.f0 = 0
      · rw [if_pos hy, (h _ _ hm hy).1]; rfl
      · rw [if_neg hy]
  · rw [if_neg h0, if_neg h0]
/-- an operand at its source is no register that is known -/
theorem ask_none {M : Map49} (h : Flat M) (o : S49) (h0 : (ask M o).f0 = 0) : M (ask M o).f1 = none := by
  unfold ask at h0 ⊢
  by_cases h1 : o.f0 = 0
  · rw [if_pos h1] at h0 ⊢
    cases hm : M o.f1 with
    | none => rw [hm] at h0; simp only [Option.getD_none]; exact hm
    | some y => rw [hm] at h0; simp only [Option.getD_some] at h0 ⊢; exact (h _ _ hm h0).1
  · rw [if_neg h1] at h0; exact absurd h0 h1
theorem turn65_idem {M : Map49} (h : Flat M) (s : S65) : turn65 M (turn65 M s) = turn65 M s := by
  unfold turn65
  simp only [List.map_map, S65.mk.injEq, true_and]
  exact List.map_congr_left (fun o _ => ask_idem h o)
theorem turn47_idem {M : Map49} (h : Flat M) (x : S47) : turn47 M (turn47 M x) = turn47 M x := by
  unfold turn47
  simp only [List.map_map, S47.mk.injEq, true_and]
  exact ⟨List.map_congr_left (fun o _ => ask_idem h o), List.map_congr_left (fun s _ => turn65_idem h s)⟩
theorem writ_some {M : Map49} {r a : Int} {o : S49} (h : writ M r a = some o) : a ≠ r ∧ M a = some o ∧ ¬ (o.f0 = 0 ∧ o.f1 = r) := by
  unfold writ at h
  split at h
  · cases h
  · rename_i har
    cases hm : M a with
    | none => rw [hm] at h; cases h
    | some y =>
      rw [hm] at h
      simp only at h
      split at h
      · cases h
      · rename_i hn
        cases h
        exact ⟨har, rfl, hn⟩
theorem writ_none {M : Map49} {r a : Int} (h : M a = none) : writ M r a = none := by
  unfold writ
  split
  · rfl
  · rw [h]
theorem flat_writ {M : Map49} (h : Flat M) (r : Int) : Flat (writ M r) := fun a o ha h0 => by
  obtain ⟨h1, h2, h3⟩ := writ_some ha
  obtain ⟨h4, h5⟩ := h a o h2 h0
  exact ⟨writ_none h4, h5⟩
theorem flat_put {M : Map49} (h : Flat M) (r : Int) (y : S49) (hne : y ≠ ⟨0, r⟩) (hy : y.f0 = 0 → M y.f1 = none) : Flat (putM (writ M r) r (some y)) := fun a o ha h0 => by
  unfold putM at ha ⊢
  simp only at ha ⊢
  have hyr : y.f0 = 0 → y.f1 ≠ r := fun h0 h1 => hne (by cases y; simp at h0 h1; rw [h0, h1])
  by_cases har : a = r
  · rw [if_pos har] at ha
    cases ha
    exact ⟨by rw [if_neg (hyr h0)]; exact writ_none (hy h0), fun he => hyr h0 (by rw [he, har])⟩
  · rw [if_neg har] at ha
    obtain ⟨h1, h2, h3⟩ := writ_some ha
    obtain ⟨h4, h5⟩ := h a o h2 h0
    exact ⟨by rw [if_neg (fun he => h3 ⟨h0, he⟩)]; exact writ_none h4, h5⟩
theorem moves_some {M : Map49} {x : S47} {y : S49} (h : movesOf (turn47 M x) = some y) : ∃ o, x.f3 = [o] ∧ y = ask M o := by
  unfold movesOf turn47 at h
  split at h
  · rcases hx : x.f3 with _ | ⟨o, _ | ⟨o2, r⟩⟩
    · simp [hx] at h
    · simp [hx] at h; exact ⟨o, rfl, h.symm⟩
    · simp [hx] at h
  · cases h
theorem flat_step {st : Map49 × List S47} (h : Flat st.1) (x : S47) : Flat (stepS st x).1 := by
  unfold stepS
  split
  · exact h
  · split
    · exact h
    · rename_i hne
      cases hm : movesOf (turn47 st.1 x) with
      | none => exact flat_writ h _
      | some y =>
        obtain ⟨o, _, rfl⟩ := moves_some hm
        exact flat_put h _ _ (fun he => hne (by rw [hm, he])) (fun h0 => ask_none h o h0)
theorem stepS_neg {st : Map49 × List S47} {x : S47} (h : x.f2 = -1) : stepS st x = (st.1, st.2 ++ [turn47 st.1 x]) := by unfold stepS; rw [if_pos h]
theorem stepS_skip {st : Map49 × List S47} {x : S47} (h : x.f2 ≠ -1) (hm : movesOf (turn47 st.1 x) = some ⟨0, x.f2⟩) : stepS st x = st := by unfold stepS; rw [if_neg h, if_pos hm]
theorem stepS_put {st : Map49 × List S47} {x : S47} (h : x.f2 ≠ -1) (hm : movesOf (turn47 st.1 x) ≠ some ⟨0, x.f2⟩) : stepS st x = (putM (writ st.1 x.f2) x.f2 (movesOf (turn47 st.1 x)), st.2 ++ [turn47 st.1 x]) := by unfold stepS; rw [if_neg h, if_neg hm]
/-- the second time the same comes out, the map is the same -/
theorem stepS_again {st : Map49 × List S47} (hf : Flat st.1) (h : st.2.foldl stepS (noMap, []) = st) (x : S47) : (stepS st x).2.foldl stepS (noMap, []) = stepS st x := by
  obtain ⟨M, out⟩ := st
  simp only at hf h
  have hi := turn47_idem hf x
  by_cases hd : x.f2 = -1
  · rw [stepS_neg hd]
    show (out ++ [turn47 M x]).foldl stepS (noMap, []) = _
    rw [List.foldl_append, h]
    show stepS (M, out) (turn47 M x) = _
    rw [stepS_neg (x := turn47 M x) hd]
    show (M, out ++ [turn47 M (turn47 M x)]) = _
    rw [hi]
  · by_cases hm : movesOf (turn47 M x) = some ⟨0, x.f2⟩
    · rw [stepS_skip (st := (M, out)) hd hm]; exact h
    · rw [stepS_put (st := (M, out)) hd hm]
      show (out ++ [turn47 M x]).foldl stepS (noMap, []) = _
      rw [List.foldl_append, h]
      show stepS (M, out) (turn47 M x) = _
      rw [stepS_put (st := (M, out)) (x := turn47 M x) hd (by show movesOf (turn47 M (turn47 M x)) ≠ some ⟨0, x.f2⟩; rw [hi]; exact hm)]
      show (putM (writ M x.f2) x.f2 (movesOf (turn47 M (turn47 M x))), out ++ [turn47 M (turn47 M x)]) = _
      rw [hi]
theorem fold_again (l : List S47) : ∀ st : Map49 × List S47, Flat st.1 → st.2.foldl stepS (noMap, []) = st → Flat (l.foldl stepS st).1 ∧ (l.foldl stepS st).2.foldl stepS (noMap, []) = l.foldl stepS st := by
  induction l with
  | nil => exact fun st h1 h2 => ⟨h1, h2⟩
  | cons x r ih => exact fun st h1 h2 => ih _ (flat_step h1 x) (stepS_again h1 h2 x)
theorem block_again (b : S43) : blockS (blockS b) = blockS b := by
  have := (fold_again b.f1 (noMap, []) flat_none rfl).2
  unfold blockS
  simp only [this]
theorem run_again (l : List S43) : runS (runS l) = runS l := by
  unfold runS
  rw [List.map_map]
  exact List.map_congr_left (fun b _ => block_again b)
/-! what comes out is as small as what went in -/
def Good (M : Map49) : Prop := ∀ a o, M a = some o → WF o.f1
theorem good_ask {M : Map49} (h : Good M) {o : S49} (ho : WF o.f1) : WF (ask M o).f1 := by
  unfold ask
  split
  · cases hm : M o.f1 with
    | none => exact ho
    | some y => exact h _ _ hm
  · exact ho
theorem good_writ {M : Map49} (h : Good M) (r : Int) : Good (writ M r) := fun a o ha => h a o (writ_some ha).2.1
theorem ok_turn {M : Map49} (h : Good M) {x : S47} (hx : OkX x) : OkX (turn47 M x) where
  dst := hx.dst
  args := by show (x.f3.map (ask M)).length * 16 ≤ _; rw [List.length_map]; exact hx.args
  exit := by show (x.f7.map (turn65 M)).length * 40 ≤ _; rw [List.length_map]; exact hx.exit
  slots := fun s hs => by
    obtain ⟨s0, h0, rfl⟩ := List.mem_map.1 hs
    show (s0.f2.map (ask M)).length * 16 ≤ _
    rw [List.length_map]; exact hx.slots s0 h0
  wfa := fun o ho => by
    obtain ⟨o0, h0, rfl⟩ := List.mem_map.1 ho
    exact good_ask h (hx.wfa o0 h0)
  wfs := fun s hs o ho => by
    obtain ⟨s0, h0, rfl⟩ := List.mem_map.1 hs
    obtain ⟨o0, h1, rfl⟩ := List.mem_map.1 ho
    exact good_ask h (hx.wfs s0 h0 o0 h1)
theorem ok_step {st : Map49 × List S47} (hg : Good st.1) (ho : ∀ y ∈ st.2, OkX y) {x : S47} (hx : OkX x) : Good (stepS st x).1 ∧ (∀ y ∈ (stepS st x).2, OkX y) ∧ (stepS st x).2.length ≤ st.2.length + 1 := by
  have hmem : ∀ y ∈ st.2 ++ [turn47 st.1 x], OkX y := fun y hy => by
    rcases List.mem_append.1 hy with h | h
    · exact ho y h
    · rw [List.mem_singleton.1 h]; exact ok_turn hg hx
  refine ⟨?_, ?_, stepS_len st x⟩
  · unfold stepS
    split
    · exact hg
    · split
      · exact hg
      · cases hm : movesOf (turn47 st.1 x) with
        | none => exact good_writ hg _
        | some y =>
          obtain ⟨o, ho1, rfl⟩ := moves_some hm
          intro a z ha
          unfold putM at ha
          simp only at ha
          split at ha
          · cases ha; exact good_ask hg (hx.wfa o (by rw [ho1]; simp))
          · exact good_writ hg _ a z ha
  · unfold stepS
    split
    · exact hmem
    · split
      · exact ho
      · exact hmem
theorem ok_fold (l : List S47) : ∀ st : Map49 × List S47, Good st.1 → (∀ y ∈ st.2, OkX y) → (∀ x ∈ l, OkX x) → (∀ y ∈ (l.foldl stepS st).2, OkX y) ∧ (l.foldl stepS st).2.length ≤ st.2.length + l.length := by
  induction l with
  | nil => exact fun st _ h _ => ⟨h, Nat.le_refl _⟩
  | cons x r ih =>
    intro st hg ho hx
    obtain ⟨h1, h2, h3⟩ := ok_step hg ho (hx x List.mem_cons_self)
    obtain ⟨h4, h5⟩ := ih _ h1 h2 (fun y hy => hx y (List.mem_cons_of_mem _ hy))
    exact ⟨h4, by simp only [List.foldl_cons, List.length_cons]; omega⟩
theorem block_ok {b : S43} (h : ∀ x ∈ b.f1, OkX x) : (∀ y ∈ (blockS b).f1, OkX y) ∧ (blockS b).f1.length ≤ b.f1.length := by
  have := ok_fold b.f1 (noMap, []) (fun a o ha => by cases ha) (fun y hy => by cases hy) h
  simpa [blockS] using this
theorem run_ok {l : List S43} (h : OkL l) : OkL (runS l) where
  len := by show (l.map blockS).length * 56 ≤ _; rw [List.length_map]; exact h.len
  ins := fun b hb => by
    obtain ⟨b0, h0, rfl⟩ := List.mem_map.1 hb
    have h1 := (block_ok (h.each b0 h0)).2
    have h2 := h.ins b0 h0
    omega
  next := fun b hb => by
    obtain ⟨b0, h0, rfl⟩ := List.mem_map.1 hb
    exact h.next b0 h0
  each := fun b hb x hx => by
    obtain ⟨b0, h0, rfl⟩ := List.mem_map.1 hb
    exact (block_ok (h.each b0 h0)).1 x hx
end Go.Proofs.Ytjekpkpmoanadaa.PCop
