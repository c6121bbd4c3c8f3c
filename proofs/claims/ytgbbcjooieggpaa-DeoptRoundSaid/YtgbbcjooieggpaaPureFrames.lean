/- What deopt.Frames gives, as plain lists. For every input of a length that memory can hold. -/
import Derived.Test.YtgbbcjooieggpaaPFramesx4
import Derived.Test.YtgbbcjooieggpaaPureCopies
import Derived.Test.YtgbbcjooieggpaaPFramesx5
set_option linter.unusedSimpArgs false
set_option linter.unusedVariables false
namespace Go.Proofs.Ytgbbcjooieggpaa.PureF
open Go.RowKit Go.Proofs.Ytgbbcjooieggpaa.PFrames Go.Proofs.YtgbbcjooieggpaaW.PrintWords Go.Proofs.YtgbbcjooieggpaaW.PrintLast

theorem at_some (l : List S35) (n : Int) : ∃ v, deopt_at.f l n = some v := by
  unfold deopt_at.f
  by_cases c1 : n < 0
  · exact ⟨_, by rw [if_pos c1]⟩
  · by_cases c2 : n ≥ (l.length : Int)
    · exact ⟨_, by rw [if_neg c1, if_pos c2]⟩
    · exact ⟨_, by rw [if_neg c1, if_neg c2, if_pos (by omega), if_pos (by omega)]⟩
theorem value_some (a b : Int) (r c : List S35) : ∃ v, deopt_Value.f a b r c = some v := by
  unfold deopt_Value.f
  obtain ⟨v1, h1⟩ := at_some r b
  obtain ⟨v2, h2⟩ := at_some c b
  rw [h1, h2, show real_Canon.f (IntKind.u64.wrap b) = some ((laidB (IntKind.u64.wrap b).toNat : Nat) : Int) from rfl, Option.bind_some, Option.bind_some, Option.bind_some]
  repeat' split
  all_goals exact ⟨_, rfl⟩
/-- an operand's value, or none -/
def valOf (o : S44) (r c : List S35) : Option S35 := (deopt_Value.f o.f0 o.f1 r c).bind fun v => if v.2.2 = true then some ⟨v.1, v.2.1⟩ else none
theorem at_eq (l : List S35) (n : Int) : deopt_at.f l n = some (if n < 0 ∨ (l.length : Int) ≤ n then (0, 0, false) else ((rd_T35 l n).f0, (rd_T35 l n).f1, true)) := by
  unfold deopt_at.f
  by_cases c1 : n < 0
  · rw [if_pos c1, if_pos (.inl c1)]
  · by_cases c2 : (l.length : Int) ≤ n
    · rw [if_neg c1, if_pos c2, if_pos (.inr c2)]
    · rw [if_neg c1, if_neg c2, if_pos (by omega), if_pos (by omega), if_neg (by omega)]
def valsOf (r c : List S35) : List S44 → Option (List S35)
  | [] => some []
  | o :: t => match valOf o r c with
    | none => none
    | some v => (valsOf r c t).map (v :: ·)
def fOf (r c : List S35) (s : S67) : Option S27 := (valsOf r c s.f2).map fun l => ⟨s.f0, s.f1, l⟩
def fsOf (r c : List S35) : List S67 → Option (List S27)
  | [] => some []
  | s :: t => match fOf r c s with
    | none => none
    | some v => (fsOf r c t).map (v :: ·)
/-- what the loop comes to -/
def resOf (r c : List S35) (x : List S27) (t : List S67) : List S27 × Bool := match fsOf r c t with
  | some fs => (x ++ fs, true)
  | none => ([], false)
theorem fsOf_append (r c : List S35) (a b : List S67) : fsOf r c (a ++ b) = match fsOf r c a, fsOf r c b with
  | some x, some y => some (x ++ y)
  | _, _ => none := by
  induction a with
  | nil => cases h : fsOf r c b <;> simp [fsOf, h]
  | cons s t ih =>
    simp only [List.cons_append, fsOf, ih]
    cases fOf r c s with
    | none => rfl
    | some v => cases fsOf r c t <;> cases fsOf r c b <;> rfl
theorem fsOf_len (r c : List S35) : ∀ (a : List S67) (x : List S27), fsOf r c a = some x → x.length = a.length
  | [], x, h => by cases h; rfl
  | s :: t, x, h => by
    unfold fsOf at h
    cases h1 : fOf r c s with
    | none => rw [h1] at h; cases h
    | some v =>
      rw [h1] at h
      simp only at h
      cases h2 : fsOf r c t with
      | none => rw [h2] at h; cases h
      | some y =>
        rw [h2] at h
        cases h
        rw [List.length_cons, List.length_cons, fsOf_len r c t y h2]
theorem drop_cons {α : Type} (l : List α) (i : Nat) (h : i < l.length) : l.drop i = l[i] :: l.drop (i+1) := List.drop_eq_getElem_cons h
set_option maxRecDepth 10000 in
theorem frames_l1 (r c : List S35) (l : List S67) (x : List S27) (i : Nat) (hi : i < l.length) (hx : x.length = i) (hl : l.length ≤ 3518437208780) (hs : l[i].f2.length ≤ 8796093021952)
    (next : ∀ y : S27, Ev (fun k => deopt_Frames.l0 k r c (x ++ [y]) l (l.length : Int) ((i + 1 : Nat) : Int)) (resOf r c (x ++ [y]) (l.drop (i+1)))) : ∀ d j : Nat, j + d = l[i].f2.length → ∀ acc : List S35, acc.length = l[i].f2.length →
    Ev (fun k => deopt_Frames.l1 k r c x l (l.length : Int) (i : Int) l[i].f2 (l[i].f2.length : Int) (j : Int) l[i].f0 l[i].f1 acc)
      (match valsOf r c (l[i].f2.drop j) with | some us => resOf r c (x ++ [⟨l[i].f0, l[i].f1, acc.take j ++ us⟩]) (l.drop (i+1)) | none => ([], false)) := by
  intro d
  induction d with
  | zero =>
    intro j hj acc ha
    obtain rfl : j = l[i].f2.length := by omega
    rw [List.drop_length]
    simp only [valsOf]
    rw [← ha, List.take_length, List.append_nil]
    refine Ev.step (fun k => ?_) (next ⟨l[i].f0, l[i].f1, acc⟩)
    simp only [deopt_Frames.l1]
    rw [if_neg (by omega)]
    unfold deopt_gather.f
    rw [if_pos (by simp only [List.length_cons, List.length_nil]; omega), Option.bind_some, wr (i : Int) (by omega)]
    rfl
  | succ d ih =>
    intro j hj acc ha
    have hlt : j < l[i].f2.length := by omega
    rw [drop_cons _ j hlt]
    simp only [valsOf]
    obtain ⟨v, hv⟩ := value_some l[i].f2[j].f0 l[i].f2[j].f1 r c
    have hval : valOf l[i].f2[j] r c = if v.2.2 = true then some ⟨v.1, v.2.1⟩ else none := by unfold valOf; rw [hv]; rfl
    cases hb : v.2.2 with
    | false =>
      rw [hval, hb]
      simp only [Bool.false_eq_true, if_false]
      refine ⟨1, fun k hk => ?_⟩
      obtain ⟨k, rfl⟩ : ∃ m, k = m + 1 := ⟨k-1, by omega⟩
      simp only [deopt_Frames.l1]
      rw [if_pos (by omega), if_pos (by omega), if_pos (by omega), rd44 _ j hlt, hv, Option.bind_some, hb, if_neg (by decide)]
    | true =>
      rw [hval, hb]
      simp only [if_true]
      have h := ih (j+1) (by omega) (acc.set j (⟨v.1, v.2.1⟩ : S35)) (by rw [List.length_set]; exact ha)
      have htk : (acc.set j (⟨v.1, v.2.1⟩ : S35)).take (j+1) = acc.take j ++ [(⟨v.1, v.2.1⟩ : S35)] := by
        rw [List.take_succ_eq_append_getElem (by rw [List.length_set]; omega), List.getElem_set_self, List.take_set_of_le (Nat.le_refl _)]
      rw [htk] at h
      have hres : (match (valsOf r c (l[i].f2.drop (j+1))).map (fun us => (⟨v.1, v.2.1⟩ : S35) :: us) with | some us => resOf r c (x ++ [(⟨l[i].f0, l[i].f1, acc.take j ++ us⟩ : S27)]) (l.drop (i+1)) | none => (([] : List S27), false))
          = (match valsOf r c (l[i].f2.drop (j+1)) with | some us => resOf r c (x ++ [⟨l[i].f0, l[i].f1, (acc.take j ++ [(⟨v.1, v.2.1⟩ : S35)]) ++ us⟩]) (l.drop (i+1)) | none => ([], false)) := by
        cases valsOf r c (l[i].f2.drop (j+1)) with
        | none => rfl
        | some us => simp only [Option.map_some, List.append_assoc, List.cons_append, List.nil_append]
      rw [hres]
      refine Ev.step (fun k => ?_) h
      simp only [deopt_Frames.l1]
      rw [if_pos (by omega), if_pos (by omega), if_pos (by omega), rd44 _ j hlt, hv, Option.bind_some, hb, if_pos rfl, if_pos (by omega), wr (j : Int) (by omega)]
      rfl
theorem frames_l0 (r c : List S35) (l : List S67) (hl : l.length ≤ 3518437208780) (hs : ∀ s ∈ l, s.f2.length ≤ 8796093021952) : ∀ d i : Nat, i + d = l.length → ∀ x : List S27, x.length = i →
    Ev (fun k => deopt_Frames.l0 k r c x l (l.length : Int) (i : Int)) (resOf r c x (l.drop i)) := by
  intro d
  induction d with
  | zero =>
    intro i hi x hx
    obtain rfl : i = l.length := by omega
    refine ⟨1, fun k hk => ?_⟩
    obtain ⟨k, rfl⟩ : ∃ m, k = m + 1 := ⟨k-1, by omega⟩
    simp only [deopt_Frames.l0]
    rw [if_neg (by omega), List.drop_length]
    show some (x, true) = some (x ++ [], true)
    rw [List.append_nil]
  | succ d ih =>
    intro i hi x hx
    have hlt : i < l.length := by omega
    have hsl := hs _ (List.getElem_mem hlt)
    have h := frames_l1 r c l x i hlt hx hl hsl (fun y => ih (i+1) (by omega) (x ++ [y]) (by simp [hx])) l[i].f2.length 0 (by omega) (List.replicate l[i].f2.length z35) (by simp)
    have hres : resOf r c x (l.drop i) = (match valsOf r c (l[i].f2.drop 0) with | some us => resOf r c (x ++ [⟨l[i].f0, l[i].f1, (List.replicate l[i].f2.length z35).take 0 ++ us⟩]) (l.drop (i+1)) | none => ([], false)) := by
      rw [drop_cons l i hlt, List.drop_zero]
      unfold resOf
      rw [fsOf]
      unfold fOf
      cases valsOf r c l[i].f2 with
      | none => rfl
      | some us =>
        simp only [Option.map_some, List.take_zero, List.nil_append]
        cases fsOf r c (l.drop (i+1)) with
        | none => rfl
        | some fs => simp only [Option.map_some, List.append_assoc, List.cons_append, List.nil_append]
    rw [hres]
    refine Ev.step (fun k => ?_) h
    simp only [deopt_Frames.l0]
    rw [if_pos (by omega), if_pos (by omega), if_pos (by omega), rd67 _ i hlt, if_pos (by omega), Int.toNat_natCast, if_pos (by omega)]
    rfl
theorem frames_ev (r c : List S35) (l : List S67) (hl : l.length ≤ 3518437208780) (hs : ∀ s ∈ l, s.f2.length ≤ 8796093021952) : Ev (fun k => deopt_Frames.f k l r c) (resOf r c [] l) := by
  have h := frames_l0 r c l hl hs l.length 0 (by omega) [] rfl
  rw [List.drop_zero] at h
  exact h
/-! a list of frames is itself -/
theorem sameV_l0 (a : List S35) (ha : a.length ≤ 9223372036854775806) : ∀ d i : Nat, i + d = a.length → Ev (fun k => portageref0_SameValues.l0 k a a (i : Int)) true := by
  intro d
  induction d with
  | zero =>
    intro i hi
    refine ⟨1, fun k hk => ?_⟩
    obtain ⟨k, rfl⟩ : ∃ m, k = m + 1 := ⟨k-1, by omega⟩
    simp only [portageref0_SameValues.l0]
    rw [if_neg (by omega)]
  | succ d ih =>
    intro i hi
    refine Ev.step (fun k => ?_) (ih (i+1) (by omega))
    simp only [portageref0_SameValues.l0]
    rw [if_pos (by omega), if_pos (by omega), if_pos (by omega), if_neg (by simp), wr (i : Int) (by omega)]
    rfl
theorem sameV (a : List S35) (ha : a.length ≤ 9223372036854775806) : Ev (fun k => portageref0_SameValues.f k a a) true := by
  obtain ⟨K, h⟩ := sameV_l0 a ha a.length 0 (by omega)
  refine ⟨K, fun k hk => ?_⟩
  simp only [portageref0_SameValues.f]
  rw [if_pos trivial]
  exact h k hk
theorem rd27 (l : List S27) (i : Nat) (h : i < l.length) : rd_T27 l (i : Int) = l[i] := by
  unfold rd_T27; rw [Int.toNat_natCast, List.getD_eq_getElem?_getD, List.getElem?_eq_getElem h]; rfl
theorem sameF (a : S27) (ha : a.f2.length ≤ 9223372036854775806) : Ev (fun k => portageref0_SameFrame.f k a.f0 a.f1 a.f2 a.f0 a.f1 a.f2) true := by
  obtain ⟨K, h⟩ := sameV a.f2 ha
  refine ⟨K, fun k hk => ?_⟩
  simp only [portageref0_SameFrame.f]
  rw [if_pos trivial, if_pos trivial, show portageref0_SameValues.f k a.f2 a.f2 = some true from h k hk]
  rfl
theorem sameFs_l0 (a : List S27) (ha : a.length ≤ 9223372036854775806) (hs : ∀ s ∈ a, s.f2.length ≤ 9223372036854775806) : ∀ d i : Nat, i + d = a.length → Ev (fun k => portageref0_SameFrames.l0 k a a (i : Int)) true := by
  intro d
  induction d with
  | zero =>
    intro i hi
    refine ⟨1, fun k hk => ?_⟩
    obtain ⟨k, rfl⟩ : ∃ m, k = m + 1 := ⟨k-1, by omega⟩
    simp only [portageref0_SameFrames.l0]
    rw [if_neg (by omega)]
  | succ d ih =>
    intro i hi
    have hlt : i < a.length := by omega
    obtain ⟨K1, h1⟩ := ih (i+1) (by omega)
    obtain ⟨K2, h2⟩ := sameF a[i] (hs _ (List.getElem_mem hlt))
    refine ⟨max K1 K2 + 1, fun k hk => ?_⟩
    obtain ⟨k, rfl⟩ : ∃ m, k = m + 1 := ⟨k-1, by omega⟩
    simp only [portageref0_SameFrames.l0]
    rw [if_pos (by omega), if_pos (by omega), if_pos (by omega), rd27 a i hlt, show portageref0_SameFrame.f k a[i].f0 a[i].f1 a[i].f2 a[i].f0 a[i].f1 a[i].f2 = some true from h2 k (by omega), Option.bind_some, if_pos rfl, wr (i : Int) (by omega)]
    exact h1 k (by omega)
theorem sameFs (a : List S27) (ha : a.length ≤ 9223372036854775806) (hs : ∀ s ∈ a, s.f2.length ≤ 9223372036854775806) : Ev (fun k => portageref0_SameFrames.f k a a) true := by
  obtain ⟨K, h⟩ := sameFs_l0 a ha hs a.length 0 (by omega)
  refine ⟨K, fun k hk => ?_⟩
  simp only [portageref0_SameFrames.f]
  rw [if_pos trivial]
  exact h k hk
theorem valsOf_len (r c : List S35) : ∀ (a : List S44) (x : List S35), valsOf r c a = some x → x.length = a.length
  | [], x, h => by cases h; rfl
  | s :: t, x, h => by
    unfold valsOf at h
    cases h1 : valOf s r c with
    | none => rw [h1] at h; cases h
    | some v =>
      rw [h1] at h
      simp only at h
      cases h2 : valsOf r c t with
      | none => rw [h2] at h; cases h
      | some y =>
        rw [h2] at h
        cases h
        rw [List.length_cons, List.length_cons, valsOf_len r c t y h2]
theorem fsOf_small (r c : List S35) : ∀ (a : List S67) (x : List S27), fsOf r c a = some x → (∀ s ∈ a, s.f2.length ≤ 8796093021952) → ∀ f ∈ x, f.f2.length ≤ 8796093021952
  | [], x, h, _ => by cases h; intro f hf; cases hf
  | s :: t, x, h, hs => by
    unfold fsOf at h
    cases h1 : fOf r c s with
    | none => rw [h1] at h; cases h
    | some v =>
      rw [h1] at h
      simp only at h
      cases h2 : fsOf r c t with
      | none => rw [h2] at h; cases h
      | some y =>
        rw [h2] at h
        cases h
        intro f hf
        rcases List.mem_cons.1 hf with rfl | hf
        · unfold fOf at h1
          cases h3 : valsOf r c s.f2 with
          | none => rw [h3] at h1; cases h1
          | some us =>
            rw [h3] at h1
            cases h1
            show us.length ≤ _
            rw [valsOf_len r c _ _ h3]
            exact hs s List.mem_cons_self
        · exact fsOf_small r c t y h2 (fun s hs' => hs s (List.mem_cons_of_mem _ hs')) f hf
end Go.Proofs.Ytgbbcjooieggpaa.PureF
