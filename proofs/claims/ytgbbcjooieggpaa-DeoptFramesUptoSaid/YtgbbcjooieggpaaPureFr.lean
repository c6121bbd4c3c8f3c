/- What the functions that DeoptFrames calls give, as plain lists. For every input of a length that memory can hold. -/
import Derived.Test.YtgbbcjooieggpaaKeptSh
import Derived.Test.YtgbbcjooieggpaaPFrx6
import Derived.Test.YtgbbcjooieggpaaLeafL
set_option linter.unusedSimpArgs false
set_option linter.unusedVariables false
namespace Go.Proofs.Ytgbbcjooieggpaa.PureFr
open Go.RowKit Go.Proofs.Ytgbbcjooieggpaa.PFr Go.Proofs.YtgbbcjooieggpaaW.PrintWords Go.Proofs.YtgbbcjooieggpaaW.PrintLast
theorem wr (i : Int) (h : -9223372036854775808 ≤ i ∧ i < 9223372036854775807) : wrap64 (i + 1) = i + 1 := by unfold wrap64; omega
theorem ev_at {α : Type} {g : Nat → Option α} {f : Nat → Option α} {r : α} (hs : ∀ k, g (k + 1) = f k) (h : Ev f r) : Ev g r := Ev.step hs h

/-! the lists that are lent -/
def sp (i : Nat) : List S35 := (List.range i).map fun (j : Nat) => (⟨-9, (j : Int)⟩ : S35)
theorem sp_succ (i : Nat) : sp (i+1) = sp i ++ [(⟨-9, (i : Int)⟩ : S35)] := by unfold sp; rw [List.range_succ, List.map_append]; rfl
theorem sp_len (i : Nat) : (sp i).length = i := by unfold sp; simp
theorem rd_get (l : List S35) (i : Nat) (h : i < l.length) : rd_T35 l (i : Int) = l[i] := by
  unfold rd_T35; rw [Int.toNat_natCast, List.getD_eq_getElem?_getD, List.getElem?_eq_getElem h]; rfl
theorem lent_l1 (r : List S35) (hr : r.length ≤ 8796093021952) : ∀ d i : Nat, i + d = 64 → Ev (fun k => portagekit_LentValues.l1 k (r ++ sp i) (i : Int)) (r ++ sp 64) := by
  intro d
  induction d with
  | zero =>
    intro i hi
    obtain rfl : i = 64 := by omega
    refine ⟨1, fun k hk => ?_⟩
    obtain ⟨k, rfl⟩ : ∃ m, k = m + 1 := ⟨k-1, by omega⟩
    simp only [portagekit_LentValues.l1]
    rw [if_neg (by omega)]
  | succ d ih =>
    intro i hi
    refine ev_at (fun k => ?_) (ih (i+1) (by omega))
    simp only [portagekit_LentValues.l1]
    rw [if_pos (by omega), if_pos (by rw [List.length_append, sp_len]; omega), wr (i : Int) (by omega), List.append_assoc, ← sp_succ]
    rfl
theorem lent_l0 (r : List S35) (hr : r.length ≤ 8796093021952) : ∀ d i : Nat, i + d = r.length → Ev (fun k => portagekit_LentValues.l0 k r (r.take i) (i : Int)) (r ++ sp 64) := by
  intro d
  induction d with
  | zero =>
    intro i hi
    obtain rfl : i = r.length := by omega
    refine ev_at (fun k => ?_) (by have := lent_l1 r hr 64 0 rfl; rw [show sp 0 = [] from rfl, List.append_nil] at this; exact this)
    simp only [portagekit_LentValues.l0]
    rw [if_neg (by omega), List.take_length]; rfl
  | succ d ih =>
    intro i hi
    have hlt : i < r.length := by omega
    refine ev_at (fun k => ?_) (ih (i+1) (by omega))
    simp only [portagekit_LentValues.l0]
    rw [if_pos (by omega), if_pos (by omega), if_pos (by rw [List.length_take]; omega), wr (i : Int) (by omega)]
    have : (⟨(rd_T35 r (i : Int)).f0, (rd_T35 r (i : Int)).f1⟩ : S35) = r[i] := rd_get r i hlt
    rw [this, List.take_succ_eq_append_getElem hlt]
    rfl
theorem lent_ev (r : List S35) (hr : r.length ≤ 8796093021952) : Ev (fun k => portagekit_LentValues.f k r) (r ++ sp 64) := by
  have := lent_l0 r hr r.length 0 (by omega)
  rw [List.take_zero] at this
  exact this
theorem kept_l0 (r : List S35) (hr : r.length ≤ 8796093021952) : ∀ d i : Nat, i + d = r.length + 64 → Ev (fun k => portagekit_KeptValues.l0 k (r ++ sp 64) r (i : Int)) true := by
  have hlen : (r ++ sp 64).length = r.length + 64 := by rw [List.length_append, sp_len]
  intro d
  induction d with
  | zero =>
    intro i hi
    refine ⟨1, fun k hk => ?_⟩
    obtain ⟨k, rfl⟩ : ∃ m, k = m + 1 := ⟨k-1, by omega⟩
    simp only [portagekit_KeptValues.l0]
    rw [if_neg (by omega)]
  | succ d ih =>
    intro i hi
    refine ev_at (fun k => ?_) (ih (i+1) (by omega))
    simp only [portagekit_KeptValues.l0]
    rw [if_pos (by omega), wr (i : Int) (by omega), rd_get (r ++ sp 64) i (by omega)]
    by_cases c : i < r.length
    · rw [if_pos (by omega), if_pos (by omega), rd_get r i c, List.getElem_append_left c, if_neg (by simp)]
      rfl
    · have hg : (r ++ sp 64)[i]'(by omega) = (⟨-9, ((i - r.length : Nat) : Int)⟩ : S35) := by
        rw [List.getElem_append_right (by omega)]
        simp [sp]
      have hw : wrap64 ((i : Int) - (r.length : Int)) = ((i - r.length : Nat) : Int) := by unfold wrap64; omega
      rw [if_neg (by omega), if_pos (by omega), hg, hw, if_neg (by simp)]
      rfl
theorem kept_ev (r : List S35) (hr : r.length ≤ 8796093021952) : Ev (fun k => portagekit_KeptValues.f k (r ++ sp 64) r) true := by
  have := kept_l0 r hr (r.length + 64) 0 (by omega)
  obtain ⟨K, h⟩ := this
  refine ⟨K, fun k hk => ?_⟩
  simp only [portagekit_KeptValues.f]
  rw [if_pos (by rw [List.length_append, sp_len]; unfold wrap64; omega)]
  exact h k hk

/-! what an operand is -/
theorem order_self {b : Nat} (h : b % Ieee.double.signWeight ≤ Ieee.double.infRung) : Ieee.double.order b b = some .eq := by
  have hcmp : ∀ x : Int, compare x x = .eq := fun x => by simp [compare, compareOfLessAndEq]
  have hcmpN : ∀ x : Nat, compare x x = .eq := fun x => by simp [compare, compareOfLessAndEq]
  unfold Ieee.Format.order Ieee.Format.read
  simp only
  by_cases c1 : b % Ieee.double.signWeight < Ieee.double.binade
  · rw [if_pos c1]; simp only [Ieee.Datum.order, hcmp]
  · rw [if_neg c1]
    by_cases c2 : b % Ieee.double.signWeight < Ieee.double.infRung
    · rw [if_pos c2]; simp only [Ieee.Datum.order, hcmp]
    · rw [if_neg c2, if_pos (by omega)]; simp only [Ieee.Datum.order, hcmpN]
theorem laid_iff (u : Nat) (h : u < 18446744073709551616) : laidB u = u ↔ (IntKind.u64.wrap ((u : Int) * 2) ≤ 18437736874454810624 ∨ u = 9221120237041090560) := by
  have hw : IntKind.u64.wrap ((u : Int) * 2) = (u : Int) * 2 % 18446744073709551616 := by simp [IntKind.wrap, IntKind.bits, IntKind.signed]
  have h1 := infRung_is
  have h2 := signWeight_is
  rw [hw]
  unfold laidB
  by_cases c : u % Ieee.double.signWeight ≤ Ieee.double.infRung
  · rw [show FloatKind.f64.format.order u u = some .eq from order_self c, if_pos (by rfl)]
    refine ⟨fun _ => Or.inl ?_, fun _ => rfl⟩
    rw [h1, h2] at c
    omega
  · rw [show FloatKind.f64.format.order u u = none from order_nan (by omega) u, if_neg (by simp)]
    rw [h1, h2] at c
    constructor
    · intro h; right; exact h.symm
    · rintro (h | h)
      · omega
      · exact h.symm
theorem val_ref (a b : Int) (r c : List S35) : ∃ v : Int × Int × Bool, (∀ k, portageref26_Value.f (k+6) a b r c = some v) ∧ deopt_Value.f a b r c = some v := by
  unfold portageref26_Value.f deopt_Value.f deopt_at.f portageref26_in.f
  by_cases a0 : a = 0
  · subst a0
    by_cases i1 : 0 ≤ b
    · by_cases i2 : b < (r.length : Int)
      · have n1 : ¬ b < 0 := by omega
        have n2 : ¬ b ≥ (r.length : Int) := by omega
        refine ⟨((rd_T35 r b).f0, (rd_T35 r b).f1, true), fun k => ?_, ?_⟩
        · simp [i1, i2, portageref26_Value.j0]
        · simp [i1, i2, n1, n2]
      · refine ⟨(0, 0, false), fun k => ?_, ?_⟩
        · simp [i1, i2, portageref26_Value.j0, portageref26_Value.j1, portageref26_Value.j2, portageref26_Value.j3, portageref26_Value.j4]
        · have n1 : ¬ b < 0 := by omega
          simp [n1, show b ≥ (r.length : Int) by omega]
    · refine ⟨(0, 0, false), fun k => ?_, ?_⟩
      · simp [i1, portageref26_Value.j0, portageref26_Value.j1, portageref26_Value.j2, portageref26_Value.j3, portageref26_Value.j4]
      · simp [show b < 0 by omega]
  by_cases a5 : a = 5
  · subst a5
    by_cases i1 : 0 ≤ b
    · by_cases i2 : b < (c.length : Int)
      · have n1 : ¬ b < 0 := by omega
        have n2 : ¬ b ≥ (c.length : Int) := by omega
        refine ⟨((rd_T35 c b).f0, (rd_T35 c b).f1, true), fun k => ?_, ?_⟩
        · simp [i1, i2, portageref26_in.f, portageref26_Value.j0, portageref26_Value.j1, portageref26_Value.j2, portageref26_Value.j3, portageref26_Value.j4]
        · simp [i1, i2, n1, n2]
      · refine ⟨(0, 0, false), fun k => ?_, ?_⟩
        · simp [i1, i2, portageref26_in.f, portageref26_Value.j0, portageref26_Value.j1, portageref26_Value.j2, portageref26_Value.j3, portageref26_Value.j4]
        · have n1 : ¬ b < 0 := by omega
          simp [n1, show b ≥ (c.length : Int) by omega]
    · refine ⟨(0, 0, false), fun k => ?_, ?_⟩
      · simp [i1, portageref26_in.f, portageref26_Value.j0, portageref26_Value.j1, portageref26_Value.j2, portageref26_Value.j3, portageref26_Value.j4]
      · simp [show b < 0 by omega]
  by_cases a1 : a = 1
  · subst a1
    by_cases i1 : b = 0
    · subst i1
      exact ⟨(0, 0, true), fun k => by simp [portageref26_Value.j0, portageref26_Value.j1], by simp⟩
    · exact ⟨(0, 0, false), fun k => by simp [i1, portageref26_Value.j0, portageref26_Value.j1, portageref26_Value.j2, portageref26_Value.j3, portageref26_Value.j4], by simp [i1]⟩
  by_cases a2 : a = 2
  · subst a2
    by_cases i1 : b = 0
    · subst i1
      exact ⟨(1, 0, true), fun k => by simp [portageref26_Value.j0, portageref26_Value.j1, portageref26_Value.j2], by simp⟩
    · by_cases i2 : b = 1
      · subst i2
        exact ⟨(1, 1, true), fun k => by simp [portageref26_Value.j0, portageref26_Value.j1, portageref26_Value.j2], by simp⟩
      · exact ⟨(0, 0, false), fun k => by simp [i1, i2, portageref26_Value.j0, portageref26_Value.j1, portageref26_Value.j2, portageref26_Value.j3, portageref26_Value.j4], by simp [i1, i2]⟩
  by_cases a3 : a = 3
  · subst a3
    exact ⟨(2, b, true), fun k => by simp [portageref26_Value.j0, portageref26_Value.j1, portageref26_Value.j2], by simp⟩
  by_cases a4 : a = 4
  · subst a4
    obtain ⟨u, hu, hlt⟩ : ∃ u : Nat, IntKind.u64.wrap b = (u : Int) ∧ u < 18446744073709551616 := by
      have hw : IntKind.u64.wrap b = b % 18446744073709551616 := by simp [IntKind.wrap, IntKind.bits, IntKind.signed]
      rw [hw]
      exact ⟨(b % 18446744073709551616).toNat, by omega, by omega⟩
    have hi := laid_iff u hlt
    have hcan : real_Canon.f ((u : Nat) : Int) = some ((laidB u : Nat) : Int) := rfl
    rw [hu, hcan]
    by_cases hl : laidB u = u
    · refine ⟨(3, b, true), fun k => ?_, by rw [hl]; simp⟩
      rcases hi.mp hl with h | h
      · simp only [portageref26_Value.j0, portageref26_Value.j1, portageref26_Value.j2, portageref26_Value.j3]
        rw [hu]
        simp [h, portageref26_Value.j0, portageref26_Value.j1, portageref26_Value.j2, portageref26_Value.j3]
      · have h' : ((u : Int) == 9221120237041090560) = true := by rw [h]; rfl
        simp only [portageref26_Value.j0, portageref26_Value.j1, portageref26_Value.j2, portageref26_Value.j3]
        rw [hu, h']
        simp [portageref26_Value.j0, portageref26_Value.j1, portageref26_Value.j2, portageref26_Value.j3]
    · have hn1 : ¬ IntKind.u64.wrap ((u : Int) * 2) ≤ 18437736874454810624 := fun h => hl (hi.mpr (Or.inl h))
      have hn2 : ((u : Int) == 9221120237041090560) = false := by
        rw [beq_eq_false_iff_ne]; intro h; exact hl (hi.mpr (Or.inr (by omega)))
      have hne : ¬ ((laidB u : Nat) : Int) = (u : Int) := by omega
      refine ⟨(0, 0, false), fun k => ?_, ?_⟩
      · simp only [portageref26_Value.j0, portageref26_Value.j1, portageref26_Value.j2, portageref26_Value.j3]
        rw [hu, hn2, if_neg hn1]
        simp [portageref26_Value.j0, portageref26_Value.j1, portageref26_Value.j2, portageref26_Value.j3, portageref26_Value.j4]
      · simp [hne]
  by_cases a6 : a = 6
  · subst a6
    by_cases i1 : 0 ≤ b
    · exact ⟨(5, b, true), fun k => by simp [i1, portageref26_Value.j0, portageref26_Value.j1, portageref26_Value.j2, portageref26_Value.j3, portageref26_Value.j4], by simp [i1]⟩
    · exact ⟨(0, 0, false), fun k => by simp [i1, portageref26_Value.j0, portageref26_Value.j1, portageref26_Value.j2, portageref26_Value.j3, portageref26_Value.j4], by simp [i1]⟩
  · exact ⟨(0, 0, false), fun k => by simp [a0, a1, a2, a3, a4, a5, a6, portageref26_Value.j0, portageref26_Value.j1, portageref26_Value.j2, portageref26_Value.j3, portageref26_Value.j4], by simp [a0, a1, a2, a3, a4, a5, a6]⟩

theorem rd44 (l : List S44) (i : Nat) (h : i < l.length) : rd_T44 l (i : Int) = l[i] := by
  unfold rd_T44; rw [Int.toNat_natCast, List.getD_eq_getElem?_getD, List.getElem?_eq_getElem h]; rfl
theorem rd67 (l : List S67) (i : Nat) (h : i < l.length) : rd_T67 l (i : Int) = l[i] := by
  unfold rd_T67; rw [Int.toNat_natCast, List.getD_eq_getElem?_getD, List.getElem?_eq_getElem h]; rfl
theorem rd35 (l : List S35) (i : Nat) (h : i < l.length) : rd_T35 l (i : Int) = l[i] := by
  unfold rd_T35; rw [Int.toNat_natCast, List.getD_eq_getElem?_getD, List.getElem?_eq_getElem h]; rfl
theorem copyV_l0 (r : List S35) (hr : r.length ≤ 8796093021952) : ∀ d i : Nat, i + d = r.length → Ev (fun k => portageref0_CopyValues.l0 k r (r.take i) (i : Int)) r := by
  intro d
  induction d with
  | zero =>
    intro i hi
    obtain rfl : i = r.length := by omega
    refine ⟨1, fun k hk => ?_⟩
    obtain ⟨k, rfl⟩ : ∃ m, k = m + 1 := ⟨k-1, by omega⟩
    simp only [portageref0_CopyValues.l0]
    rw [if_neg (by omega), List.take_length]
  | succ d ih =>
    intro i hi
    have hlt : i < r.length := by omega
    refine Ev.step (fun k => ?_) (ih (i+1) (by omega))
    simp only [portageref0_CopyValues.l0]
    rw [if_pos (by omega), if_pos (by omega), if_pos (by rw [List.length_take]; omega), wr (i : Int) (by omega)]
    have : (⟨(rd_T35 r (i : Int)).f0, (rd_T35 r (i : Int)).f1⟩ : S35) = r[i] := rd35 r i hlt
    rw [this, List.take_succ_eq_append_getElem hlt]
    rfl
theorem copyV (r : List S35) (hr : r.length ≤ 8796093021952) : Ev (fun k => portageref0_CopyValues.f k r) r := by
  have := copyV_l0 r hr r.length 0 (by omega)
  rw [List.take_zero] at this; exact this
theorem at_some (l : List S35) (n : Int) : ∃ v, deopt_at.f l n = some v := by
  unfold deopt_at.f
  by_cases c1 : n < 0
  · exact ⟨_, by rw [if_pos c1]⟩
  · by_cases c2 : n ≥ (l.length : Int)
    · exact ⟨_, by rw [if_neg c1, if_pos c2]⟩
    · exact ⟨_, by rw [if_neg c1, if_neg c2, if_pos (by omega), if_pos (by omega)]⟩
theorem value_some (a b : Int) (r c : List S35) : ∃ v, deopt_Value.f a b r c = some v := by
  unfold deopt_Value.f
  obtain ⟨v1, h1⟩ := at_some r b
  obtain ⟨v2, h2⟩ := at_some c b
  rw [h1, h2, show real_Canon.f (IntKind.u64.wrap b) = some ((laidB (IntKind.u64.wrap b).toNat : Nat) : Int) from rfl, Option.bind_some, Option.bind_some, Option.bind_some]
  repeat' split
  all_goals exact ⟨_, rfl⟩
/-- an operand's value, or none -/
def valOf (o : S44) (r c : List S35) : Option S35 := (deopt_Value.f o.f0 o.f1 r c).bind fun v => if v.2.2 = true then some ⟨v.1, v.2.1⟩ else none
theorem at_eq (l : List S35) (n : Int) : deopt_at.f l n = some (if n < 0 ∨ (l.length : Int) ≤ n then (0, 0, false) else ((rd_T35 l n).f0, (rd_T35 l n).f1, true)) := by
  unfold deopt_at.f
  by_cases c1 : n < 0
  · rw [if_pos c1, if_pos (.inl c1)]
  · by_cases c2 : (l.length : Int) ≤ n
    · rw [if_neg c1, if_pos c2, if_pos (.inr c2)]
    · rw [if_neg c1, if_neg c2, if_pos (by omega), if_pos (by omega), if_neg (by omega)]
def valsOf (r c : List S35) : List S44 → Option (List S35)
  | [] => some []
  | o :: t => match valOf o r c with
    | none => none
    | some v => (valsOf r c t).map (v :: ·)
def fOf (r c : List S35) (s : S67) : Option S27 := (valsOf r c s.f2).map fun l => ⟨s.f0, s.f1, l⟩
def fsOf (r c : List S35) : List S67 → Option (List S27)
  | [] => some []
  | s :: t => match fOf r c s with
    | none => none
    | some v => (fsOf r c t).map (v :: ·)
/-- what the loop comes to -/
def resOf (r c : List S35) (x : List S27) (t : List S67) : List S27 × Bool := match fsOf r c t with
  | some fs => (x ++ fs, true)
  | none => ([], false)
theorem fsOf_append (r c : List S35) (a b : List S67) : fsOf r c (a ++ b) = match fsOf r c a, fsOf r c b with
  | some x, some y => some (x ++ y)
  | _, _ => none := by
  induction a with
  | nil => cases h : fsOf r c b <;> simp [fsOf, h]
  | cons s t ih =>
    simp only [List.cons_append, fsOf, ih]
    cases fOf r c s with
    | none => rfl
    | some v => cases fsOf r c t <;> cases fsOf r c b <;> rfl
theorem fsOf_len (r c : List S35) : ∀ (a : List S67) (x : List S27), fsOf r c a = some x → x.length = a.length
  | [], x, h => by cases h; rfl
  | s :: t, x, h => by
    unfold fsOf at h
    cases h1 : fOf r c s with
    | none => rw [h1] at h; cases h
    | some v =>
      rw [h1] at h
      simp only at h
      cases h2 : fsOf r c t with
      | none => rw [h2] at h; cases h
      | some y =>
        rw [h2] at h
        cases h
        rw [List.length_cons, List.length_cons, fsOf_len r c t y h2]
theorem drop_cons {α : Type} (l : List α) (i : Nat) (h : i < l.length) : l.drop i = l[i] :: l.drop (i+1) := List.drop_eq_getElem_cons h
set_option maxRecDepth 10000 in
theorem frames_l1 (r c : List S35) (l : List S67) (x : List S27) (i : Nat) (hi : i < l.length) (hx : x.length = i) (hl : l.length ≤ 3518437208780) (hs : l[i].f2.length ≤ 8796093021952)
    (next : ∀ y : S27, Ev (fun k => deopt_Frames.l0 k r c (x ++ [y]) l (l.length : Int) ((i + 1 : Nat) : Int)) (resOf r c (x ++ [y]) (l.drop (i+1)))) : ∀ d j : Nat, j + d = l[i].f2.length → ∀ acc : List S35, acc.length = l[i].f2.length →
    Ev (fun k => deopt_Frames.l1 k r c x l (l.length : Int) (i : Int) l[i].f2 (l[i].f2.length : Int) (j : Int) l[i].f0 l[i].f1 acc)
      (match valsOf r c (l[i].f2.drop j) with | some us => resOf r c (x ++ [⟨l[i].f0, l[i].f1, acc.take j ++ us⟩]) (l.drop (i+1)) | none => ([], false)) := by
  intro d
  induction d with
  | zero =>
    intro j hj acc ha
    obtain rfl : j = l[i].f2.length := by omega
    rw [List.drop_length]
    simp only [valsOf]
    rw [← ha, List.take_length, List.append_nil]
    refine Ev.step (fun k => ?_) (next ⟨l[i].f0, l[i].f1, acc⟩)
    simp only [deopt_Frames.l1]
    rw [if_neg (by omega)]
    unfold deopt_gather.f
    rw [if_pos (by simp only [List.length_cons, List.length_nil]; omega), Option.bind_some, wr (i : Int) (by omega)]
    rfl
  | succ d ih =>
    intro j hj acc ha
    have hlt : j < l[i].f2.length := by omega
    rw [drop_cons _ j hlt]
    simp only [valsOf]
    obtain ⟨v, hv⟩ := value_some l[i].f2[j].f0 l[i].f2[j].f1 r c
    have hval : valOf l[i].f2[j] r c = if v.2.2 = true then some ⟨v.1, v.2.1⟩ else none := by unfold valOf; rw [hv]; rfl
    cases hb : v.2.2 with
    | false =>
      rw [hval, hb]
      simp only [Bool.false_eq_true, if_false]
      refine ⟨1, fun k hk => ?_⟩
      obtain ⟨k, rfl⟩ : ∃ m, k = m + 1 := ⟨k-1, by omega⟩
      simp only [deopt_Frames.l1]
      rw [if_pos (by omega), if_pos (by omega), if_pos (by omega), rd44 _ j hlt, hv, Option.bind_some, hb, if_neg (by decide)]
    | true =>
      rw [hval, hb]
      simp only [if_true]
      have h := ih (j+1) (by omega) (acc.set j (⟨v.1, v.2.1⟩ : S35)) (by rw [List.length_set]; exact ha)
      have htk : (acc.set j (⟨v.1, v.2.1⟩ : S35)).take (j+1) = acc.take j ++ [(⟨v.1, v.2.1⟩ : S35)] := by
        rw [List.take_succ_eq_append_getElem (by rw [List.length_set]; omega), List.getElem_set_self, List.take_set_of_le (Nat.le_refl _)]
      rw [htk] at h
      have hres : (match (valsOf r c (l[i].f2.drop (j+1))).map (fun us => (⟨v.1, v.2.1⟩ : S35) :: us) with | some us => resOf r c (x ++ [(⟨l[i].f0, l[i].f1, acc.take j ++ us⟩ : S27)]) (l.drop (i+1)) | none => (([] : List S27), false))
          = (match valsOf r c (l[i].f2.drop (j+1)) with | some us => resOf r c (x ++ [⟨l[i].f0, l[i].f1, (acc.take j ++ [(⟨v.1, v.2.1⟩ : S35)]) ++ us⟩]) (l.drop (i+1)) | none => ([], false)) := by
        cases valsOf r c (l[i].f2.drop (j+1)) with
        | none => rfl
        | some us => simp only [Option.map_some, List.append_assoc, List.cons_append, List.nil_append]
      rw [hres]
      refine Ev.step (fun k => ?_) h
      simp only [deopt_Frames.l1]
      rw [if_pos (by omega), if_pos (by omega), if_pos (by omega), rd44 _ j hlt, hv, Option.bind_some, hb, if_pos rfl, if_pos (by omega), wr (j : Int) (by omega)]
      rfl
theorem frames_l0 (r c : List S35) (l : List S67) (hl : l.length ≤ 3518437208780) (hs : ∀ s ∈ l, s.f2.length ≤ 8796093021952) : ∀ d i : Nat, i + d = l.length → ∀ x : List S27, x.length = i →
    Ev (fun k => deopt_Frames.l0 k r c x l (l.length : Int) (i : Int)) (resOf r c x (l.drop i)) := by
  intro d
  induction d with
  | zero =>
    intro i hi x hx
    obtain rfl : i = l.length := by omega
    refine ⟨1, fun k hk => ?_⟩
    obtain ⟨k, rfl⟩ : ∃ m, k = m + 1 := ⟨k-1, by omega⟩
    simp only [deopt_Frames.l0]
    rw [if_neg (by omega), List.drop_length]
    show some (x, true) = some (x ++ [], true)
    rw [List.append_nil]
  | succ d ih =>
    intro i hi x hx
    have hlt : i < l.length := by omega
    have hsl := hs _ (List.getElem_mem hlt)
    have h := frames_l1 r c l x i hlt hx hl hsl (fun y => ih (i+1) (by omega) (x ++ [y]) (by simp [hx])) l[i].f2.length 0 (by omega) (List.replicate l[i].f2.length z35) (by simp)
    have hres : resOf r c x (l.drop i) = (match valsOf r c (l[i].f2.drop 0) with | some us => resOf r c (x ++ [⟨l[i].f0, l[i].f1, (List.replicate l[i].f2.length z35).take 0 ++ us⟩]) (l.drop (i+1)) | none => ([], false)) := by
      rw [drop_cons l i hlt, List.drop_zero]
      unfold resOf
      rw [fsOf]
      unfold fOf
      cases valsOf r c l[i].f2 with
      | none => rfl
      | some us =>
        simp only [Option.map_some, List.take_zero, List.nil_append]
        cases fsOf r c (l.drop (i+1)) with
        | none => rfl
        | some fs => simp only [Option.map_some, List.append_assoc, List.cons_append, List.nil_append]
    rw [hres]
    refine Ev.step (fun k => ?_) h
    simp only [deopt_Frames.l0]
    rw [if_pos (by omega), if_pos (by omega), if_pos (by omega), rd67 _ i hlt, if_pos (by omega), Int.toNat_natCast, if_pos (by omega)]
    rfl
theorem frames_ev (r c : List S35) (l : List S67) (hl : l.length ≤ 3518437208780) (hs : ∀ s ∈ l, s.f2.length ≤ 8796093021952) : Ev (fun k => deopt_Frames.f k l r c) (resOf r c [] l) := by
  have h := frames_l0 r c l hl hs l.length 0 (by omega) [] rfl
  rw [List.drop_zero] at h
  exact h
/-! a list of frames is itself -/
theorem sameV (a : List S35) (ha : a.length ≤ 17592186044416) : Ev (fun k => portageref0_SameValues.f k a a) true := ⟨0, fun k _ => by unfold portageref0_SameValues.f; rw [if_pos ⟨rfl, ha⟩]⟩
theorem rd27 (l : List S27) (i : Nat) (h : i < l.length) : rd_T27 l (i : Int) = l[i] := by
  unfold rd_T27; rw [Int.toNat_natCast, List.getD_eq_getElem?_getD, List.getElem?_eq_getElem h]; rfl
theorem sameFs (a : List S27) (ha : a.length ≤ 17592186044416) (hs : ∀ s ∈ a, s.f2.length ≤ 17592186044416) : Ev (fun k => portageref0_SameFrames.f k a a) true := ⟨0, fun k _ => by unfold portageref0_SameFrames.f; rw [if_pos ⟨rfl, ha, hs⟩]⟩
theorem valsOf_len (r c : List S35) : ∀ (a : List S44) (x : List S35), valsOf r c a = some x → x.length = a.length
  | [], x, h => by cases h; rfl
  | s :: t, x, h => by
    unfold valsOf at h
    cases h1 : valOf s r c with
    | none => rw [h1] at h; cases h
    | some v =>
      rw [h1] at h
      simp only at h
      cases h2 : valsOf r c t with
      | none => rw [h2] at h; cases h
      | some y =>
        rw [h2] at h
        cases h
        rw [List.length_cons, List.length_cons, valsOf_len r c t y h2]
theorem fsOf_small (r c : List S35) : ∀ (a : List S67) (x : List S27), fsOf r c a = some x → (∀ s ∈ a, s.f2.length ≤ 8796093021952) → ∀ f ∈ x, f.f2.length ≤ 8796093021952
  | [], x, h, _ => by cases h; intro f hf; cases hf
  | s :: t, x, h, hs => by
    unfold fsOf at h
    cases h1 : fOf r c s with
    | none => rw [h1] at h; cases h
    | some v =>
      rw [h1] at h
      simp only at h
      cases h2 : fsOf r c t with
      | none => rw [h2] at h; cases h
      | some y =>
        rw [h2] at h
        cases h
        intro f hf
        rcases List.mem_cons.1 hf with rfl | hf
        · unfold fOf at h1
          cases h3 : valsOf r c s.f2 with
          | none => rw [h3] at h1; cases h1
          | some us =>
            rw [h3] at h1
            cases h1
            show us.length ≤ _
            rw [valsOf_len r c _ _ h3]
            exact hs s List.mem_cons_self
        · exact fsOf_small r c t y h2 (fun s hs' => hs s (List.mem_cons_of_mem _ hs')) f hf
end Go.Proofs.Ytgbbcjooieggpaa.PureFr
