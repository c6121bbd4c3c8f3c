/- More of what Registers gives: whether and where does not hang on the values. For every input of a length that memory can hold. -/
import Derived.Test.YtgbbcjooieggpaaPureLent
set_option linter.unusedSimpArgs false
set_option linter.unusedVariables false
namespace Go.Proofs.Ytgbbcjooieggpaa.PureR
open Go.RowKit Go.Proofs.Ytgbbcjooieggpaa.PRegs Go.Proofs.YtgbbcjooieggpaaW.PrintWords Go.Proofs.YtgbbcjooieggpaaW.PrintLast
theorem fillAll_some (n : Int) : ∀ (os : List S44) (vs vs' acc acc' : List S35), vs.length = vs'.length → (fillAll n os vs acc).isSome = (fillAll n os vs' acc').isSome
  | [], [], [], _, _, _ => rfl
  | [], _ :: _, _ :: _, _, _, _ => rfl
  | _ :: _, [], [], _, _, _ => rfl
  | o :: os, v :: vs, v' :: vs', acc, acc', h => by
    simp only [fillAll]
    split
    · exact fillAll_some n os vs vs' _ _ (by simpa using h)
    · rfl
  | _, [], _ :: _, _, _, h => by simp at h
  | _, _ :: _, [], _, _, h => by simp at h
theorem fillAll_len' (n : Int) : ∀ (os : List S44) (vs acc r : List S35), fillAll n os vs acc = some r → r.length = acc.length
  | [], _, _, _, h => by simp only [fillAll] at h; cases h; rfl
  | _ :: _, [], _, _, h => by simp only [fillAll] at h; cases h; rfl
  | o :: os, v :: vs, acc, r, h => by
    simp only [fillAll] at h
    split at h
    · rw [fillAll_len' n os vs _ r h, List.length_set]
    · cases h
theorem fillOf_some (n : Int) (b : S63) (vs vs' : List S35) (h : vs.length = vs'.length) : (fillOf n b vs).isSome = (fillOf n b vs').isSome := by
  unfold fillOf
  cases b.f1 with
  | nil => rfl
  | cons x t =>
    simp only
    split
    · rcases x.f7 with _ | ⟨s, _ | ⟨s2, r⟩⟩
      · rfl
      · simp only [h]
        split
        · exact fillAll_some n _ _ _ _ _ h
        · rfl
      · rfl
    · rfl
theorem fillOf_len (n : Int) (b : S63) (vs r : List S35) (h : fillOf n b vs = some r) : r.length = n.toNat := by
  unfold fillOf at h
  cases hb : b.f1 with
  | nil => rw [hb] at h; cases h
  | cons x t =>
    rw [hb] at h
    simp only at h
    split at h
    · rcases h7 : x.f7 with _ | ⟨s, _ | ⟨s2, q⟩⟩
      · rw [h7] at h; cases h
      · rw [h7] at h
        simp only at h
        split at h
        · have := fillAll_len' n _ _ _ _ h
          rw [List.length_replicate] at this
          exact this
        · cases h
      · rw [h7] at h; cases h
    · cases h
theorem regFrom_same (n pc : Int) (vs vs' : List S35) (h : vs.length = vs'.length) : ∀ (l : List S63) (i : Nat), (regFrom n pc vs i l).2 = (regFrom n pc vs' i l).2
  | [], _ => rfl
  | b :: t, i => by
    simp only [regFrom]
    split
    · have := fillOf_some n b vs vs' h
      cases h1 : fillOf n b vs <;> cases h2 : fillOf n b vs' <;> rw [h1, h2] at this <;> first | rfl | cases this
    · exact regFrom_same n pc vs vs' h t (i + 1)
theorem regFrom_len (n pc : Int) (vs : List S35) (hn : n ≤ 512) : ∀ (l : List S63) (i : Nat), (regFrom n pc vs i l).1.length ≤ 512
  | [], _ => by simp [regFrom]
  | b :: t, i => by
    simp only [regFrom]
    split
    · cases h1 : fillOf n b vs with
      | none => simp
      | some r => simp only; rw [fillOf_len n b vs r h1]; omega
    · exact regFrom_len n pc vs hn t (i + 1)
theorem regOf_same (c0 c1 f0 f1 : Int) (l : List S63) (vs vs' : List S35) (h : vs.length = vs'.length) : (regOf c0 c1 l f0 f1 vs).2 = (regOf c0 c1 l f0 f1 vs').2 := by
  unfold regOf
  split
  · rfl
  · exact regFrom_same c1 f1 vs vs' h l 0
theorem regOf_len (c0 c1 f0 f1 : Int) (l : List S63) (vs : List S35) : (regOf c0 c1 l f0 f1 vs).1.length ≤ 512 := by
  unfold regOf
  split
  · simp
  · exact regFrom_len c1 f1 vs (by omega) l 0
theorem sameV_l0 (a : List S35) (ha : a.length ≤ 9223372036854775806) : ∀ d i : Nat, i + d = a.length → Ev (fun k => portageref0_SameValues.l0 k a a (i : Int)) true := by
  intro d
  induction d with
  | zero =>
    intro i hi
    refine ⟨1, fun k hk => ?_⟩
    obtain ⟨k, rfl⟩ : ∃ m, k = m + 1 := ⟨k-1, by omega⟩
    simp only [portageref0_SameValues.l0]
    rw [if_neg (by omega)]
  | succ d ih =>
    intro i hi
    refine Ev.step (fun k => ?_) (ih (i+1) (by omega))
    simp only [portageref0_SameValues.l0]
    rw [if_pos (by omega), if_pos (by omega), if_pos (by omega), if_neg (by simp), wr (i : Int) (by omega)]
    rfl
theorem sameV (a : List S35) (ha : a.length ≤ 9223372036854775806) : ∃ k, portageref0_SameValues.f k a a = some true := by
  obtain ⟨K, h⟩ := sameV_l0 a ha a.length 0 (by omega)
  refine ⟨K, ?_⟩
  simp only [portageref0_SameValues.f]
  rw [if_pos trivial]
  exact h K (Nat.le_refl _)
end Go.Proofs.Ytgbbcjooieggpaa.PureR
