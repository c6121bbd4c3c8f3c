/- DeoptValues: of every operand over every registers and constants: the program's value is the document's; what was handed in is as it was. For every input. -/
import Derived.Test.YtgbbcjooieggpaaPDeoptx5
set_option linter.unusedSimpArgs false
set_option linter.unusedVariables false
namespace Go.Proofs.Ytgbbcjooieggpaa.Pure
open Go.RowKit Go.Proofs.Ytgbbcjooieggpaa.PDeopt Go.Proofs.YtgbbcjooieggpaaW.PrintWords Go.Proofs.YtgbbcjooieggpaaW.PrintLast

theorem wr (i : Int) (h : -9223372036854775808 ≤ i ∧ i < 9223372036854775807) : wrap64 (i + 1) = i + 1 := by unfold wrap64; omega
theorem ev_at {α : Type} {g : Nat → Option α} {f : Nat → Option α} {r : α} (hs : ∀ k, g (k + 1) = f k) (h : Ev f r) : Ev g r := Ev.step hs h

/-! the lists that are lent -/
def sp (i : Nat) : List S35 := (List.range i).map fun (j : Nat) => (⟨-9, (j : Int)⟩ : S35)
theorem sp_succ (i : Nat) : sp (i+1) = sp i ++ [(⟨-9, (i : Int)⟩ : S35)] := by unfold sp; rw [List.range_succ, List.map_append]; rfl
theorem sp_len (i : Nat) : (sp i).length = i := by unfold sp; simp
theorem rd_get (l : List S35) (i : Nat) (h : i < l.length) : rd_T35 l (i : Int) = l[i] := by
  unfold rd_T35; rw [Int.toNat_natCast, List.getD_eq_getElem?_getD, List.getElem?_eq_getElem h]; rfl
theorem lent_l1 (r : List S35) (hr : r.length ≤ 8796093021952) : ∀ d i : Nat, i + d = 64 → Ev (fun k => portagekit_LentValues.l1 k (r ++ sp i) (i : Int)) (r ++ sp 64) := by
  intro d
  induction d with
  | zero =>
    intro i hi
    obtain rfl : i = 64 := by omega
    refine ⟨1, fun k hk => ?_⟩
    obtain ⟨k, rfl⟩ : ∃ m, k = m + 1 := ⟨k-1, by omega⟩
    simp only [portagekit_LentValues.l1]
    rw [if_neg (by omega)]
  | succ d ih =>
    intro i hi
    refine ev_at (fun k => ?_) (ih (i+1) (by omega))
    simp only [portagekit_LentValues.l1]
    rw [if_pos (by omega), if_pos (by rw [List.length_append, sp_len]; omega), wr (i : Int) (by omega), List.append_assoc, ← sp_succ]
    rfl
theorem lent_l0 (r : List S35) (hr : r.length ≤ 8796093021952) : ∀ d i : Nat, i + d = r.length → Ev (fun k => portagekit_LentValues.l0 k r (r.take i) (i : Int)) (r ++ sp 64) := by
  intro d
  induction d with
  | zero =>
    intro i hi
    obtain rfl : i = r.length := by omega
    refine ev_at (fun k => ?_) (by have := lent_l1 r hr 64 0 rfl; rw [show sp 0 = [] from rfl, List.append_nil] at this; exact this)
    simp only [portagekit_LentValues.l0]
    rw [if_neg (by omega), List.take_length]; rfl
  | succ d ih =>
    intro i hi
    have hlt : i < r.length := by omega
    refine ev_at (fun k => ?_) (ih (i+1) (by omega))
    simp only [portagekit_LentValues.l0]
    rw [if_pos (by omega), if_pos (by omega), if_pos (by rw [List.length_take]; omega), wr (i : Int) (by omega)]
    have : (⟨(rd_T35 r (i : Int)).f0, (rd_T35 r (i : Int)).f1⟩ : S35) = r[i] := rd_get r i hlt
    rw [this, List.take_succ_eq_append_getElem hlt]
    rfl
theorem lent_ev (r : List S35) (hr : r.length ≤ 8796093021952) : Ev (fun k => portagekit_LentValues.f k r) (r ++ sp 64) := by
  have := lent_l0 r hr r.length 0 (by omega)
  rw [List.take_zero] at this
  exact this
theorem kept_l0 (r : List S35) (hr : r.length ≤ 8796093021952) : ∀ d i : Nat, i + d = r.length + 64 → Ev (fun k => portagekit_KeptValues.l0 k (r ++ sp 64) r (i : Int)) true := by
  have hlen : (r ++ sp 64).length = r.length + 64 := by rw [List.length_append, sp_len]
  intro d
  induction d with
  | zero =>
    intro i hi
    refine ⟨1, fun k hk => ?_⟩
    obtain ⟨k, rfl⟩ : ∃ m, k = m + 1 := ⟨k-1, by omega⟩
    simp only [portagekit_KeptValues.l0]
    rw [if_neg (by omega)]
  | succ d ih =>
    intro i hi
    refine ev_at (fun k => ?_) (ih (i+1) (by omega))
    simp only [portagekit_KeptValues.l0]
    rw [if_pos (by omega), wr (i : Int) (by omega), rd_get (r ++ sp 64) i (by omega)]
    by_cases c : i < r.length
    · rw [if_pos (by omega), if_pos (by omega), rd_get r i c, List.getElem_append_left c, if_neg (by simp)]
      rfl
    · have hg : (r ++ sp 64)[i]'(by omega) = (⟨-9, ((i - r.length : Nat) : Int)⟩ : S35) := by
        rw [List.getElem_append_right (by omega)]
        simp [sp]
      have hw : wrap64 ((i : Int) - (r.length : Int)) = ((i - r.length : Nat) : Int) := by unfold wrap64; omega
      rw [if_neg (by omega), if_pos (by omega), hg, hw, if_neg (by simp)]
      rfl
theorem kept_ev (r : List S35) (hr : r.length ≤ 8796093021952) : Ev (fun k => portagekit_KeptValues.f k (r ++ sp 64) r) true := by
  have := kept_l0 r hr (r.length + 64) 0 (by omega)
  obtain ⟨K, h⟩ := this
  refine ⟨K, fun k hk => ?_⟩
  simp only [portagekit_KeptValues.f]
  rw [if_pos (by rw [List.length_append, sp_len]; unfold wrap64; omega)]
  exact h k hk

/-! what an operand is -/
theorem order_self {b : Nat} (h : b % Ieee.double.signWeight ≤ Ieee.double.infRung) : Ieee.double.order b b = some .eq := by
  have hcmp : ∀ x : Int, compare x x = .eq := fun x => by simp [compare, compareOfLessAndEq]
  have hcmpN : ∀ x : Nat, compare x x = .eq := fun x => by simp [compare, compareOfLessAndEq]
  unfold Ieee.Format.order Ieee.Format.read
  simp only
  by_cases c1 : b % Ieee.double.signWeight < Ieee.double.binade
  · rw [if_pos c1]; simp only [Ieee.Datum.order, hcmp]
  · rw [if_neg c1]
    by_cases c2 : b % Ieee.double.signWeight < Ieee.double.infRung
    · rw [if_pos c2]; simp only [Ieee.Datum.order, hcmp]
    · rw [if_neg c2, if_pos (by omega)]; simp only [Ieee.Datum.order, hcmpN]
theorem laid_iff (u : Nat) (h : u < 18446744073709551616) : laidB u = u ↔ (IntKind.u64.wrap ((u : Int) * 2) ≤ 18437736874454810624 ∨ u = 9221120237041090560) := by
  have hw : IntKind.u64.wrap ((u : Int) * 2) = (u : Int) * 2 % 18446744073709551616 := by simp [IntKind.wrap, IntKind.bits, IntKind.signed]
  have h1 := infRung_is
  have h2 := signWeight_is
  rw [hw]
  unfold laidB
  by_cases c : u % Ieee.double.signWeight ≤ Ieee.double.infRung
  · rw [show FloatKind.f64.format.order u u = some .eq from order_self c, if_pos (by rfl)]
    refine ⟨fun _ => Or.inl ?_, fun _ => rfl⟩
    rw [h1, h2] at c
    omega
  · rw [show FloatKind.f64.format.order u u = none from order_nan (by omega) u, if_neg (by simp)]
    rw [h1, h2] at c
    constructor
    · intro h; right; exact h.symm
    · rintro (h | h)
      · omega
      · exact h.symm
theorem val_ref (a b : Int) (r c : List S35) : ∃ v : Int × Int × Bool, (∀ k, portageref26_Value.f (k+6) a b r c = some v) ∧ deopt_Value.f a b r c = some v := by
  unfold portageref26_Value.f deopt_Value.f deopt_at.f portageref26_in.f
  by_cases a0 : a = 0
  · subst a0
    by_cases i1 : 0 ≤ b
    · by_cases i2 : b < (r.length : Int)
      · have n1 : ¬ b < 0 := by omega
        have n2 : ¬ b ≥ (r.length : Int) := by omega
        refine ⟨((rd_T35 r b).f0, (rd_T35 r b).f1, true), fun k => ?_, ?_⟩
        · simp [i1, i2, portageref26_Value.j0]
        · simp [i1, i2, n1, n2]
      · refine ⟨(0, 0, false), fun k => ?_, ?_⟩
        · simp [i1, i2, portageref26_Value.j0, portageref26_Value.j1, portageref26_Value.j2, portageref26_Value.j3, portageref26_Value.j4]
        · have n1 : ¬ b < 0 := by omega
          simp [n1, show b ≥ (r.length : Int) by omega]
    · refine ⟨(0, 0, false), fun k => ?_, ?_⟩
      · simp [i1, portageref26_Value.j0, portageref26_Value.j1, portageref26_Value.j2, portageref26_Value.j3, portageref26_Value.j4]
      · simp [show b < 0 by omega]
  by_cases a5 : a = 5
  · subst a5
    by_cases i1 : 0 ≤ b
    · by_cases i2 : b < (c.length : Int)
      · have n1 : ¬ b < 0 := by omega
        have n2 : ¬ b ≥ (c.length : Int) := by omega
        refine ⟨((rd_T35 c b).f0, (rd_T35 c b).f1, true), fun k => ?_, ?_⟩
        · simp [i1, i2, portageref26_in.f, portageref26_Value.j0, portageref26_Value.j1, portageref26_Value.j2, portageref26_Value.j3, portageref26_Value.j4]
        · simp [i1, i2, n1, n2]
      · refine ⟨(0, 0, false), fun k => ?_, ?_⟩
        · simp [i1, i2, portageref26_in.f, portageref26_Value.j0, portageref26_Value.j1, portageref26_Value.j2, portageref26_Value.j3, portageref26_Value.j4]
        · have n1 : ¬ b < 0 := by omega
          simp [n1, show b ≥ (c.length : Int) by omega]
    · refine ⟨(0, 0, false), fun k => ?_, ?_⟩
      · simp [i1, portageref26_in.f, portageref26_Value.j0, portageref26_Value.j1, portageref26_Value.j2, portageref26_Value.j3, portageref26_Value.j4]
      · simp [show b < 0 by omega]
  by_cases a1 : a = 1
  · subst a1
    by_cases i1 : b = 0
    · subst i1
      exact ⟨(0, 0, true), fun k => by simp [portageref26_Value.j0, portageref26_Value.j1], by simp⟩
    · exact ⟨(0, 0, false), fun k => by simp [i1, portageref26_Value.j0, portageref26_Value.j1, portageref26_Value.j2, portageref26_Value.j3, portageref26_Value.j4], by simp [i1]⟩
  by_cases a2 : a = 2
  · subst a2
    by_cases i1 : b = 0
    · subst i1
      exact ⟨(1, 0, true), fun k => by simp [portageref26_Value.j0, portageref26_Value.j1, portageref26_Value.j2], by simp⟩
    · by_cases i2 : b = 1
      · subst i2
        exact ⟨(1, 1, true), fun k => by simp [portageref26_Value.j0, portageref26_Value.j1, portageref26_Value.j2], by simp⟩
      · exact ⟨(0, 0, false), fun k => by simp [i1, i2, portageref26_Value.j0, portageref26_Value.j1, portageref26_Value.j2, portageref26_Value.j3, portageref26_Value.j4], by simp [i1, i2]⟩
  by_cases a3 : a = 3
  · subst a3
    exact ⟨(2, b, true), fun k => by simp [portageref26_Value.j0, portageref26_Value.j1, portageref26_Value.j2], by simp⟩
  by_cases a4 : a = 4
  · subst a4
    obtain ⟨u, hu, hlt⟩ : ∃ u : Nat, IntKind.u64.wrap b = (u : Int) ∧ u < 18446744073709551616 := by
      have hw : IntKind.u64.wrap b = b % 18446744073709551616 := by simp [IntKind.wrap, IntKind.bits, IntKind.signed]
      rw [hw]
      exact ⟨(b % 18446744073709551616).toNat, by omega, by omega⟩
    have hi := laid_iff u hlt
    have hcan : real_Canon.f ((u : Nat) : Int) = some ((laidB u : Nat) : Int) := rfl
    rw [hu, hcan]
    by_cases hl : laidB u = u
    · refine ⟨(3, b, true), fun k => ?_, by rw [hl]; simp⟩
      rcases hi.mp hl with h | h
      · simp only [portageref26_Value.j0, portageref26_Value.j1, portageref26_Value.j2, portageref26_Value.j3]
        rw [hu]
        simp [h, portageref26_Value.j0, portageref26_Value.j1, portageref26_Value.j2, portageref26_Value.j3]
      · have h' : ((u : Int) == 9221120237041090560) = true := by rw [h]; rfl
        simp only [portageref26_Value.j0, portageref26_Value.j1, portageref26_Value.j2, portageref26_Value.j3]
        rw [hu, h']
        simp [portageref26_Value.j0, portageref26_Value.j1, portageref26_Value.j2, portageref26_Value.j3]
    · have hn1 : ¬ IntKind.u64.wrap ((u : Int) * 2) ≤ 18437736874454810624 := fun h => hl (hi.mpr (Or.inl h))
      have hn2 : ((u : Int) == 9221120237041090560) = false := by
        rw [beq_eq_false_iff_ne]; intro h; exact hl (hi.mpr (Or.inr (by omega)))
      have hne : ¬ ((laidB u : Nat) : Int) = (u : Int) := by omega
      refine ⟨(0, 0, false), fun k => ?_, ?_⟩
      · simp only [portageref26_Value.j0, portageref26_Value.j1, portageref26_Value.j2, portageref26_Value.j3]
        rw [hu, hn2, if_neg hn1]
        simp [portageref26_Value.j0, portageref26_Value.j1, portageref26_Value.j2, portageref26_Value.j3, portageref26_Value.j4]
      · simp [hne]
  by_cases a6 : a = 6
  · subst a6
    by_cases i1 : 0 ≤ b
    · exact ⟨(5, b, true), fun k => by simp [i1, portageref26_Value.j0, portageref26_Value.j1, portageref26_Value.j2, portageref26_Value.j3, portageref26_Value.j4], by simp [i1]⟩
    · exact ⟨(0, 0, false), fun k => by simp [i1, portageref26_Value.j0, portageref26_Value.j1, portageref26_Value.j2, portageref26_Value.j3, portageref26_Value.j4], by simp [i1]⟩
  · exact ⟨(0, 0, false), fun k => by simp [a0, a1, a2, a3, a4, a5, a6, portageref26_Value.j0, portageref26_Value.j1, portageref26_Value.j2, portageref26_Value.j3, portageref26_Value.j4], by simp [a0, a1, a2, a3, a4, a5, a6]⟩

theorem val_no : deopt_Value.f (-1) 0 ([] : List S35) ([] : List S35) = some (0, 0, false) := by
  unfold deopt_Value.f
  rw [if_neg (by decide), if_neg (by decide), if_neg (by decide), if_neg (by decide), if_neg (by decide), if_neg (by decide), if_neg (by decide)]
theorem val_seven : deopt_Value.f 3 7 ([] : List S35) ([] : List S35) = some (2, 7, true) := by
  unfold deopt_Value.f
  rw [if_neg (by decide), if_neg (by decide), if_neg (by decide), if_neg (by decide), if_pos rfl]
theorem j1_ev (k : Nat) (x y r c : List S35) (h1 : portagekit_KeptValues.f k x r = some true) (h2 : portagekit_KeptValues.f k y c = some true) : portagelaw26_DeoptValues.j1 (k+1) x y (!((2 : Int) == 2) || (!((7 : Int) == 7))) r c = some true := by
  have e : (!((2 : Int) == 2) || (!((7 : Int) == 7))) = false := by decide
  rw [e]
  simp only [portagelaw26_DeoptValues.j1, Bool.false_eq_true, if_false]
  rw [h1, Option.bind_some, if_pos rfl, h2, Option.bind_some]
theorem law_l0 (l : List S44) (hl : l.length ≤ 8796093021952) (r c : List S35) (hr : r.length ≤ 8796093021952) (hc : c.length ≤ 8796093021952) : ∀ d i : Nat, i + d = l.length → Ev (fun k => portagelaw26_DeoptValues.l0 k l (r ++ sp 64) (c ++ sp 64) (i : Int) r c) true := by
  intro d
  induction d with
  | zero =>
    intro i hi
    obtain ⟨K1, h1⟩ := kept_ev r hr
    obtain ⟨K2, h2⟩ := kept_ev c hc
    refine ⟨max K1 K2 + 2, fun k hk => ?_⟩
    obtain ⟨k, rfl⟩ : ∃ m, k = m + 2 := ⟨k-2, by omega⟩
    simp only [portagelaw26_DeoptValues.l0]
    rw [if_neg (by omega), val_no, Option.bind_some, val_seven, Option.bind_some, if_neg Bool.false_ne_true, if_pos rfl]
    exact j1_ev k _ _ r c (h1 k (by omega)) (h2 k (by omega))
  | succ d ih =>
    intro i hi
    obtain ⟨K, h⟩ := ih (i+1) (by omega)
    refine ⟨max K 6 + 1, fun k hk => ?_⟩
    obtain ⟨k, rfl⟩ : ∃ m, k = m + 1 := ⟨k-1, by omega⟩
    obtain ⟨v, hv1, hv2⟩ := val_ref (rd_T44 l (i : Int)).f0 (rd_T44 l (i : Int)).f1 r c
    have hv1' := hv1 (k - 6)
    rw [show k - 6 + 6 = k by omega] at hv1'
    simp only [portagelaw26_DeoptValues.l0]
    have t1 : (r ++ sp 64).take ((r.length : Int)).toNat = r := by rw [Int.toNat_natCast, List.take_left']; rfl
    have t2 : (c ++ sp 64).take ((c.length : Int)).toNat = c := by rw [Int.toNat_natCast, List.take_left']; rfl
    rw [if_pos (by omega), if_pos (by omega), hv1', Option.bind_some, if_pos (by omega), if_pos (by rw [List.length_append]; omega), if_pos (by omega), if_pos (by rw [List.length_append]; omega), t1, t2, hv2, Option.bind_some, wr (i : Int) (by omega)]
    rw [if_neg (by simp), if_neg (by simp)]
    exact h k (by omega)

/-- THE ONE PURE STATEMENT -/
theorem DeoptValues (l : List S44) (hl : l.length * 16 ≤ 140737488351232) (r : List S35) (hr : r.length * 16 ≤ 140737488351232) (c : List S35) (hc : c.length * 16 ≤ 140737488351232) : ∃ k, portagelaw26_DeoptValues.f k l r c = some true := by
  have hr' : r.length ≤ 8796093021952 := by omega
  have hc' : c.length ≤ 8796093021952 := by omega
  obtain ⟨K1, h1⟩ := lent_ev r hr'
  obtain ⟨K2, h2⟩ := lent_ev c hc'
  obtain ⟨K3, h3⟩ := law_l0 l (by omega) r c hr' hc' l.length 0 (by omega)
  refine ⟨max K1 (max K2 K3), ?_⟩
  unfold portagelaw26_DeoptValues.f
  rw [show portagekit_LentValues.f _ r = some _ from h1 _ (by omega), Option.bind_some, show portagekit_LentValues.f _ c = some _ from h2 _ (by omega), Option.bind_some]
  exact h3 _ (by omega)
end Go.Proofs.Ytgbbcjooieggpaa.Pure
