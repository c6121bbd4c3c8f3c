/- CopiesSource, plainly: behind a move nobody asks for the register it went to. -/
import Derived.Test.YtjekpkpmoanadaaPure
namespace Go.Proofs.Ytjekpkpmoanadaa.PCop
set_option linter.unusedVariables false
set_option linter.unusedSimpArgs false
def Asks (y : S47) (r : Int) : Prop := (⟨0, r⟩ : S49) ∈ y.f3 ∨ ∃ s ∈ y.f7, (⟨0, r⟩ : S49) ∈ s.f2
def Brk (d : Int) (o : S49) (y : S47) : Prop := y.f2 = d ∨ (y.f2 ≠ -1 ∧ o = ⟨0, y.f2⟩)
/-- each instruction is at its sources already, none is left out -/
def Fixed (out : List S47) : Prop := ∀ j y, out[j]? = some y → turn47 (stAt out j).1 y = y ∧ (y.f2 ≠ -1 → movesOf y ≠ some ⟨0, y.f2⟩)
theorem fixed_append {out : List S47} {M : Map49} (h : Fixed out) (hf : out.foldl stepS (noMap, []) = (M, out)) {y : S47} (h1 : turn47 M y = y) (h2 : y.f2 ≠ -1 → movesOf y ≠ some ⟨0, y.f2⟩) : Fixed (out ++ [y]) := fun j z hz => by
  rcases Nat.lt_or_ge j out.length with hlt | hge
  · rw [List.getElem?_append_left hlt] at hz
    have e : stAt (out ++ [y]) j = stAt out j := by unfold stAt; rw [List.take_append_of_le_length (Nat.le_of_lt hlt)]
    rw [e]; exact h j z hz
  · have hj : j = out.length := by
      have := (List.getElem?_eq_some_iff.1 hz).1
      simp at this; omega
    subst hj
    rw [List.getElem?_append_right (Nat.le_refl _), Nat.sub_self] at hz
    cases hz
    have e : stAt (out ++ [y]) out.length = (M, out) := by unfold stAt; rw [List.take_append_of_le_length (Nat.le_refl _), List.take_length]; exact hf
    rw [e]; exact ⟨h1, h2⟩
theorem fixed_step {st : Map49 × List S47} (hf : Flat st.1) (h : st.2.foldl stepS (noMap, []) = st) (hx : Fixed st.2) (x : S47) : Fixed (stepS st x).2 := by
  obtain ⟨M, out⟩ := st
  simp only at hf h hx
  by_cases hd : x.f2 = -1
  · rw [stepS_neg hd]
    exact fixed_append hx h (turn47_idem hf x) (fun hn => absurd hd hn)
  · by_cases hm : movesOf (turn47 M x) = some ⟨0, x.f2⟩
    · rw [stepS_skip (st := (M, out)) hd hm]; exact hx
    · rw [stepS_put (st := (M, out)) hd hm]
      exact fixed_append hx h (turn47_idem hf x) (fun _ => hm)
theorem fixed_fold (l : List S47) : ∀ st : Map49 × List S47, Flat st.1 → st.2.foldl stepS (noMap, []) = st → Fixed st.2 → Fixed (l.foldl stepS st).2 := by
  induction l with
  | nil => exact fun st _ _ h => h
  | cons x r ih => exact fun st h1 h2 h3 => ih _ (flat_step h1 x) (stepS_again h1 h2 x) (fixed_step h1 h2 h3 x)
theorem flat_fold (l : List S47) : ∀ st : Map49 × List S47, Flat st.1 → Flat (l.foldl stepS st).1 := by
  induction l with
  | nil => exact fun st h => h
  | cons x r ih => exact fun st h => ih _ (flat_step h x)
theorem block_fixed (b : S43) : Fixed (blockS b).f1 := fixed_fold b.f1 (noMap, []) flat_none rfl (fun j y h => by simp at h)
/-- the map behind an instruction that is at its sources -/
theorem map_succ {out : List S47} (h : Fixed out) {j : Nat} {y : S47} (hy : out[j]? = some y) : (stAt out (j + 1)).1 = if y.f2 = -1 then (stAt out j).1 else putM (writ (stAt out j).1 y.f2) y.f2 (movesOf y) := by
  obtain ⟨h1, h2⟩ := h j y hy
  rw [stAt_succ hy]
  by_cases hd : y.f2 = -1
  · rw [stepS_neg hd, if_pos hd]
  · rw [if_neg hd, stepS_put hd (by rw [h1]; exact h2 hd), h1]
theorem src {out : List S47} (h : Fixed out) {k : Nat} {x : S47} {o : S49} (hx : out[k]? = some x) (h0 : x.f0 = 1) (h3 : x.f3 = [o]) (hd : x.f2 ≠ -1) :
    o ≠ ⟨0, x.f2⟩ ∧ ∀ j y, k < j → out[j]? = some y → (∀ i z, k < i → i < j → out[i]? = some z → ¬ Brk x.f2 o z) → ¬ Asks y x.f2 := by
  have hmv : movesOf x = some o := by unfold movesOf; rw [if_pos h0, h3]
  have hne : o ≠ ⟨0, x.f2⟩ := fun he => (h k x hx).2 hd (by rw [hmv, he])
  refine ⟨hne, fun j y hkj hy hnb => ?_⟩
  have hm : ∀ n, k + 1 + n ≤ j → (stAt out (k + 1 + n)).1 x.f2 = some o := by
    intro n
    induction n with
    | zero =>
      intro _
      show (stAt out (k + 1)).1 x.f2 = some o
      rw [map_succ h hx, if_neg hd, hmv]
      unfold putM
      simp
    | succ n ih =>
      intro hn
      have hlt : k + 1 + n < out.length := by
        have := (List.getElem?_eq_some_iff.1 hy).1; omega
      have hz := List.getElem?_eq_getElem hlt
      have hb := hnb (k + 1 + n) _ (by omega) (by omega) hz
      have h1 := ih (by omega)
      show (stAt out (k + 1 + n + 1)).1 x.f2 = some o
      rw [map_succ h hz]
      generalize out[k + 1 + n] = z at *
      split
      · exact h1
      · rename_i hzd
        have hz1 : x.f2 ≠ z.f2 := fun he => hb (.inl he.symm)
        have hz2 : ¬ (o.f0 = 0 ∧ o.f1 = z.f2) := fun he => hb (.inr ⟨hzd, by cases o; simp at he; rw [he.1, he.2]⟩)
        have hw : writ (stAt out (k + 1 + n)).1 z.f2 x.f2 = some o := by
          unfold writ
          rw [if_neg hz1, h1]
          simp only
          rw [if_neg hz2]
        unfold putM
        cases movesOf z with
        | none => exact hw
        | some q => simp only; rw [if_neg hz1]; exact hw
  have hmj := hm (j - (k + 1)) (by omega)
  rw [show k + 1 + (j - (k + 1)) = j by omega] at hmj
  have hfl : Flat (stAt out j).1 := flat_fold (out.take j) (noMap, []) flat_none
  have ht := (h j y hy).1
  have key : ∀ l : List S49, (⟨0, x.f2⟩ : S49) ∈ l.map (ask (stAt out j).1) → False := fun l hl => by
    obtain ⟨z, _, hz⟩ := List.mem_map.1 hl
    have := ask_none hfl z (by rw [hz])
    rw [hz] at this
    simp only at this
    rw [hmj] at this
    cases this
  rintro (ha | ⟨s, hs, ha⟩)
  · rw [← ht] at ha
    exact key _ ha
  · rw [← ht] at hs
    obtain ⟨s0, _, rfl⟩ := List.mem_map.1 hs
    exact key _ ha
end Go.Proofs.Ytjekpkpmoanadaa.PCop
