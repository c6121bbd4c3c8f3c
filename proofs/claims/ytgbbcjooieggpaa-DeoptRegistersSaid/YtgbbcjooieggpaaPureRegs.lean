/- Copies of codes are what they are copies of; what Registers gives, as plain lists. For every input of a length that memory can hold. -/
import Derived.Test.YtgbbcjooieggpaaPRegsx3
import Derived.Test.YtgbbcjooieggpaaPRegsx6
set_option linter.unusedSimpArgs false
set_option linter.unusedVariables false
namespace Go.Proofs.Ytgbbcjooieggpaa.PureR
open Go.RowKit Go.Proofs.Ytgbbcjooieggpaa.PRegs Go.Proofs.YtgbbcjooieggpaaW.PrintWords Go.Proofs.YtgbbcjooieggpaaW.PrintLast

theorem wr (i : Int) (h : -9223372036854775808 ≤ i ∧ i < 9223372036854775807) : wrap64 (i + 1) = i + 1 := by unfold wrap64; omega
theorem rd35 (l : List S35) (i : Nat) (h : i < l.length) : rd_T35 l (i : Int) = l[i] := by
  unfold rd_T35; rw [Int.toNat_natCast, List.getD_eq_getElem?_getD, List.getElem?_eq_getElem h]; rfl
theorem rd44 (l : List S44) (i : Nat) (h : i < l.length) : rd_T44 l (i : Int) = l[i] := by
  unfold rd_T44; rw [Int.toNat_natCast, List.getD_eq_getElem?_getD, List.getElem?_eq_getElem h]; rfl
theorem rd67 (l : List S67) (i : Nat) (h : i < l.length) : rd_T67 l (i : Int) = l[i] := by
  unfold rd_T67; rw [Int.toNat_natCast, List.getD_eq_getElem?_getD, List.getElem?_eq_getElem h]; rfl
theorem copyV_l0 (r : List S35) (hr : r.length ≤ 8796093022208) : ∀ d i : Nat, i + d = r.length → Ev (fun k => portageref0_CopyValues.l0 k r (r.take i) (i : Int)) r := by
  intro d
  induction d with
  | zero =>
    intro i hi
    obtain rfl : i = r.length := by omega
    refine ⟨1, fun k hk => ?_⟩
    obtain ⟨k, rfl⟩ : ∃ m, k = m + 1 := ⟨k-1, by omega⟩
    simp only [portageref0_CopyValues.l0]
    rw [if_neg (by omega), List.take_length]
  | succ d ih =>
    intro i hi
    have hlt : i < r.length := by omega
    refine Ev.step (fun k => ?_) (ih (i+1) (by omega))
    simp only [portageref0_CopyValues.l0]
    rw [if_pos (by omega), if_pos (by omega), if_pos (by rw [List.length_take]; omega), wr (i : Int) (by omega)]
    have : (⟨(rd_T35 r (i : Int)).f0, (rd_T35 r (i : Int)).f1⟩ : S35) = r[i] := rd35 r i hlt
    rw [this, List.take_succ_eq_append_getElem hlt]
    rfl
theorem copyV (r : List S35) (hr : r.length ≤ 8796093022208) : Ev (fun k => portageref0_CopyValues.f k r) r := by
  have := copyV_l0 r hr r.length 0 (by omega)
  rw [List.take_zero] at this; exact this
theorem copyO_l0 (r : List S44) (hr : r.length ≤ 8796093021952) : ∀ d i : Nat, i + d = r.length → Ev (fun k => portageref0_CopyOpnds.l0 k r (r.take i) (i : Int)) r := by
  intro d
  induction d with
  | zero =>
    intro i hi
    obtain rfl : i = r.length := by omega
    refine ⟨1, fun k hk => ?_⟩
    obtain ⟨k, rfl⟩ : ∃ m, k = m + 1 := ⟨k-1, by omega⟩
    simp only [portageref0_CopyOpnds.l0]
    rw [if_neg (by omega), List.take_length]
  | succ d ih =>
    intro i hi
    have hlt : i < r.length := by omega
    refine Ev.step (fun k => ?_) (ih (i+1) (by omega))
    simp only [portageref0_CopyOpnds.l0]
    rw [if_pos (by omega), if_pos (by omega), if_pos (by rw [List.length_take]; omega), wr (i : Int) (by omega)]
    have : (⟨(rd_T44 r (i : Int)).f0, (rd_T44 r (i : Int)).f1⟩ : S44) = r[i] := rd44 r i hlt
    rw [this, List.take_succ_eq_append_getElem hlt]
    rfl
theorem copyO (r : List S44) (hr : r.length ≤ 8796093021952) : Ev (fun k => portageref0_CopyOpnds.f k r) r := by
  have := copyO_l0 r hr r.length 0 (by omega)
  rw [List.take_zero] at this; exact this
theorem copyS_l0 (r : List S67) (hr : r.length ≤ 3518437208780) (hs : ∀ x ∈ r, x.f2.length ≤ 8796093021952) : ∀ d i : Nat, i + d = r.length → Ev (fun k => portageref0_CopyShapes.l0 k r (r.take i) (i : Int)) r := by
  intro d
  induction d with
  | zero =>
    intro i hi
    obtain rfl : i = r.length := by omega
    refine ⟨1, fun k hk => ?_⟩
    obtain ⟨k, rfl⟩ : ∃ m, k = m + 1 := ⟨k-1, by omega⟩
    simp only [portageref0_CopyShapes.l0]
    rw [if_neg (by omega), List.take_length]
  | succ d ih =>
    intro i hi
    have hlt : i < r.length := by omega
    obtain ⟨K1, h1⟩ := ih (i+1) (by omega)
    obtain ⟨K2, h2⟩ := copyO r[i].f2 (hs _ (List.getElem_mem hlt))
    refine ⟨max K1 K2 + 1, fun k hk => ?_⟩
    obtain ⟨k, rfl⟩ : ∃ m, k = m + 1 := ⟨k-1, by omega⟩
    simp only [portageref0_CopyShapes.l0]
    rw [if_pos (by omega), if_pos (by omega), rd67 r i hlt, show portageref0_CopyOpnds.f k r[i].f2 = some _ from h2 k (by omega), Option.bind_some, if_pos (by rw [List.length_take]; omega), wr (i : Int) (by omega)]
    have := h1 k (by omega)
    rw [List.take_succ_eq_append_getElem hlt] at this
    exact this
theorem copyS (r : List S67) (hr : r.length ≤ 3518437208780) (hs : ∀ x ∈ r, x.f2.length ≤ 8796093021952) : Ev (fun k => portageref0_CopyShapes.f k r) r := by
  have := copyS_l0 r hr hs r.length 0 (by omega)
  rw [List.take_zero] at this; exact this
theorem drop_cons {α : Type} (l : List α) (i : Nat) (h : i < l.length) : l.drop i = l[i] :: l.drop (i+1) := List.drop_eq_getElem_cons h
theorem rd63 (l : List S63) (i : Nat) (h : i < l.length) : rd_T63 l (i : Int) = l[i] := by
  unfold rd_T63; rw [Int.toNat_natCast, List.getD_eq_getElem?_getD, List.getElem?_eq_getElem h]; rfl
theorem rd65 (l : List S65) (i : Nat) (h : i < l.length) : rd_T65 l (i : Int) = l[i] := by
  unfold rd_T65; rw [Int.toNat_natCast, List.getD_eq_getElem?_getD, List.getElem?_eq_getElem h]; rfl
/-! fill -/
def fillAll (n : Int) : List S44 → List S35 → List S35 → Option (List S35)
  | o :: os, v :: vs, acc => if o.f0 = 0 ∧ 0 ≤ o.f1 ∧ o.f1 < n then fillAll n os vs (acc.set o.f1.toNat v) else none
  | _, _, acc => some acc
def fillRes (x : Option (List S35)) : List S35 × Bool := match x with
  | some a => (a, true)
  | none => ([], false)
theorem fill_l0 (n : Int) (os : List S44) (vs : List S35) (hl : os.length = vs.length) (ho : os.length ≤ 8796093021952) : ∀ d i : Nat, i + d = os.length → ∀ acc : List S35, (acc.length : Int) = n →
    Ev (fun k => deopt_fill.l0 k n vs os acc (os.length : Int) (i : Int)) (fillRes (fillAll n (os.drop i) (vs.drop i) acc)) := by
  intro d
  induction d with
  | zero =>
    intro i hi acc ha
    obtain rfl : i = os.length := by omega
    refine ⟨1, fun k hk => ?_⟩
    obtain ⟨k, rfl⟩ : ∃ m, k = m + 1 := ⟨k-1, by omega⟩
    simp only [deopt_fill.l0]
    rw [if_neg (by omega), List.drop_length]
    simp only [fillAll, fillRes]
  | succ d ih =>
    intro i hi acc ha
    have h1 : i < os.length := by omega
    have h2 : i < vs.length := by omega
    rw [drop_cons os i h1, drop_cons vs i h2]
    by_cases hc : os[i].f0 = 0 ∧ 0 ≤ os[i].f1 ∧ os[i].f1 < n
    · obtain ⟨c0, c1, c2⟩ := hc
      simp only [fillAll]
      rw [if_pos ⟨c0, c1, c2⟩]
      refine Ev.step (fun k => ?_) (ih (i+1) (by omega) (acc.set os[i].f1.toNat vs[i]) (by rw [List.length_set]; exact ha))
      simp only [deopt_fill.l0]
      rw [if_pos (by omega), if_pos (by omega), if_pos (by omega), rd44 os i h1, if_pos c0, if_neg (by omega), if_neg (by omega), if_pos (by omega), if_pos c1, if_pos (by omega), rd35 vs i h2, wr (i : Int) (by omega)]
      rfl
    · simp only [fillAll]
      rw [if_neg hc]
      refine ⟨1, fun k hk => ?_⟩
      obtain ⟨k, rfl⟩ : ∃ m, k = m + 1 := ⟨k-1, by omega⟩
      simp only [deopt_fill.l0]
      rw [if_pos (by omega), if_pos (by omega), if_pos (by omega), rd44 os i h1]
      by_cases c0 : os[i].f0 = 0
      · rw [if_pos c0]
        by_cases c1 : os[i].f1 < 0
        · rw [if_pos c1]; rfl
        · rw [if_neg c1, if_pos (by omega)]; rfl
      · rw [if_neg c0]; rfl
/-- the registers that a block's beginning tells -/
def fillOf (n : Int) (b : S63) (vs : List S35) : Option (List S35) := match b.f1 with
  | x :: _ => if x.f0 = 6 then (match x.f7 with
    | [s] => if s.f2.length = vs.length then fillAll n s.f2 vs (List.replicate n.toNat z35) else none
    | _ => none) else none
  | [] => none
theorem fill_ev (n : Int) (hn : 0 ≤ n ∧ n ≤ 512) (b : S63) (vs : List S35) (hv : vs.length ≤ 8796093021952) (hb : b.f1.length ≤ 8796093021952) (hx : ∀ x ∈ b.f1, x.f7.length ≤ 8796093021952) :
    Ev (fun k => deopt_fill.f k n b.f0 b.f1 b.f2 vs) (fillRes (fillOf n b vs)) := by
  unfold fillOf
  cases hb1 : b.f1 with
  | nil =>
    refine ⟨1, fun k hk => ?_⟩
    obtain ⟨k, rfl⟩ : ∃ m, k = m + 1 := ⟨k-1, by omega⟩
    simp only [deopt_fill.f]
    rw [if_pos (by rfl)]
    rfl
  | cons x t =>
    have e0 : rd_T65 (x :: t) 0 = x := rfl
    have hx' := hx x (by rw [hb1]; exact List.mem_cons_self)
    rw [hb1] at hb
    simp only
    by_cases c6 : x.f0 = 6
    · rw [if_pos c6]
      have hf : ∀ k, deopt_fill.f k n b.f0 (x :: t) b.f2 vs = deopt_fill.j0 k n vs ((x.f7.length : Int) != 1) b.f0 (x :: t) b.f2 := fun k => by
        simp only [deopt_fill.f, e0]
        rw [if_neg (by simp only [List.length_cons]; omega), if_pos (by simp only [List.length_cons]; omega), if_pos c6]
      refine Ev.congr hf ?_
      match h7 : x.f7 with
      | [] =>
        refine ⟨1, fun k hk => ?_⟩
        obtain ⟨k, rfl⟩ : ∃ m, k = m + 1 := ⟨k-1, by omega⟩
        rfl
      | a :: c :: r =>
        refine ⟨1, fun k hk => ?_⟩
        obtain ⟨k, rfl⟩ : ∃ m, k = m + 1 := ⟨k-1, by omega⟩
        rw [h7] at hx'
        have hne : (((a :: c :: r).length : Int) != 1) = true := by
          rw [bne_iff_ne]; simp only [List.length_cons]; omega
        rw [hne]
        rfl
      | [s] =>
        have e1 : rd_T67 x.f7 0 = s := by rw [h7]; rfl
        by_cases cl : s.f2.length = vs.length
        · simp only
          rw [if_pos cl]
          refine Ev.step (fun k => ?_) (fill_l0 n s.f2 vs cl (by omega) s.f2.length 0 (by omega) (List.replicate n.toNat z35) (by simp; omega))
          simp only [deopt_fill.j0, e0, e1]
          rw [if_neg (by simp), if_pos (by simp only [List.length_cons]; omega), if_pos (by rw [h7]; simp), if_pos (by omega), if_pos (by omega), if_pos (by omega)]
          rfl
        · simp only
          rw [if_neg cl]
          refine ⟨1, fun k hk => ?_⟩
          obtain ⟨k, rfl⟩ : ∃ m, k = m + 1 := ⟨k-1, by omega⟩
          simp only [deopt_fill.j0, e0, e1]
          rw [if_neg (by simp), if_pos (by simp only [List.length_cons]; omega), if_pos (by rw [h7]; simp), if_neg (by omega)]
          rfl
    · rw [if_neg c6]
      refine ⟨1, fun k hk => ?_⟩
      obtain ⟨k, rfl⟩ : ∃ m, k = m + 1 := ⟨k-1, by omega⟩
      simp only [deopt_fill.f, e0]
      rw [if_neg (by simp only [List.length_cons]; omega), if_pos (by simp only [List.length_cons]; omega), if_neg c6]
      rfl
/-! Registers -/
def regFrom (n : Int) (pc : Int) (vs : List S35) : Nat → List S63 → List S35 × Int × Bool
  | _, [] => ([], 0, false)
  | i, b :: t => if b.f0 = pc then (match fillOf n b vs with | some r => (r, (i : Int), true) | none => ([], 0, false)) else regFrom n pc vs (i+1) t
def regOf (c0 c1 : Int) (l : List S63) (f0 f1 : Int) (vs : List S35) : List S35 × Int × Bool := if c1 < 0 ∨ c1 > 512 ∨ c0 ≠ f0 then ([], 0, false) else regFrom c1 f1 vs 0 l
def SmallX (x : S65) : Prop := x.f3.length * 16 ≤ 140737488351232 ∧ (x.f7.length * 40 ≤ 140737488351232 ∧ ∀ s ∈ x.f7, s.f2.length * 16 ≤ 140737488351232)
def SmallB (l : List S63) : Prop := l.length * 56 ≤ 140737488351232 ∧ ∀ b ∈ l, (b.f1.length * 96 ≤ 140737488351232 ∧ ∀ x ∈ b.f1, SmallX x) ∧ b.f2.length * 8 ≤ 140737488351232
theorem reg_l0 (c0 c1 f0 f1 : Int) (l : List S63) (vs : List S35) (h1 : 0 ≤ c1 ∧ c1 ≤ 512) (hs : SmallB l) (hv : vs.length ≤ 8796093021952) : ∀ d i : Nat, i + d = l.length →
    Ev (fun k => deopt_Registers.l0 k l (l.length : Int) (i : Int) c0 c1 l f0 f1 vs) (regFrom c1 f1 vs i (l.drop i)) := by
  have hl := hs.1
  intro d
  induction d with
  | zero =>
    intro i hi
    obtain rfl : i = l.length := by omega
    refine ⟨1, fun k hk => ?_⟩
    obtain ⟨k, rfl⟩ : ∃ m, k = m + 1 := ⟨k-1, by omega⟩
    simp only [deopt_Registers.l0]
    rw [if_neg (by omega), List.drop_length]
    rfl
  | succ d ih =>
    intro i hi
    have hlt : i < l.length := by omega
    rw [drop_cons l i hlt]
    simp only [regFrom]
    by_cases hp : l[i].f0 = f1
    · rw [if_pos hp]
      have hb := hs.2 l[i] (List.getElem_mem hlt)
      obtain ⟨K, h⟩ := fill_ev c1 h1 l[i] vs hv (by have := hb.1.1; omega) (fun x hx => by have := (hb.1.2 x hx).2.1; omega)
      refine ⟨K + 1, fun k hk => ?_⟩
      obtain ⟨k, rfl⟩ : ∃ m, k = m + 1 := ⟨k-1, by omega⟩
      simp only [deopt_Registers.l0]
      rw [if_pos (by omega), if_pos (by omega), if_pos (by omega), rd63 l i hlt, if_pos hp, show deopt_fill.f k c1 l[i].f0 l[i].f1 l[i].f2 vs = some _ from h k (by omega), Option.bind_some]
      cases fillOf c1 l[i] vs with
      | none => rfl
      | some r => rfl
    · rw [if_neg hp]
      refine Ev.step (fun k => ?_) (ih (i+1) (by omega))
      simp only [deopt_Registers.l0]
      rw [if_pos (by omega), if_pos (by omega), if_pos (by omega), rd63 l i hlt, if_neg hp, wr (i : Int) (by omega)]
      rfl
theorem reg_ev (c0 c1 f0 f1 : Int) (l : List S63) (vs : List S35) (hs : SmallB l) (hv : vs.length ≤ 8796093021952) : Ev (fun k => deopt_Registers.f k c0 c1 l f0 f1 vs) (regOf c0 c1 l f0 f1 vs) := by
  have no : Ev (fun k => deopt_Registers.j0 k true c0 c1 l f0 f1 vs) (([], 0, false) : List S35 × Int × Bool) := by
    refine ⟨1, fun k hk => ?_⟩
    obtain ⟨k, rfl⟩ : ∃ m, k = m + 1 := ⟨k-1, by omega⟩
    rfl
  unfold regOf
  by_cases a1 : c1 < 0
  · rw [if_pos (.inl a1)]
    exact Ev.congr (fun k => by simp only [deopt_Registers.f]; rw [if_pos a1]) no
  by_cases a2 : c1 > 512
  · rw [if_pos (.inr (.inl a2))]
    exact Ev.congr (fun k => by simp only [deopt_Registers.f]; rw [if_neg a1, if_pos a2]) no
  by_cases a3 : c0 = f0
  · rw [if_neg (by rintro (h | h | h); exact a1 h; exact a2 h; exact h a3)]
    have h := reg_l0 c0 c1 f0 f1 l vs (by omega) hs hv l.length 0 (by omega)
    rw [List.drop_zero] at h
    refine Ev.congr (fun k => by simp only [deopt_Registers.f]; rw [if_neg a1, if_neg a2, show (c0 != f0) = false from by rw [bne_eq_false_iff_eq]; exact a3]) (Ev.step (fun k => ?_) h)
    simp only [deopt_Registers.j0]
    rw [if_neg (by decide)]
    rfl
  · rw [if_pos (.inr (.inr a3))]
    exact Ev.congr (fun k => by simp only [deopt_Registers.f]; rw [if_neg a1, if_neg a2, show (c0 != f0) = true from by rw [bne_iff_ne]; exact a3]) no
theorem rdI (l : List Int) (i : Nat) (h : i < l.length) : rd l (i : Int) = l[i] := by
  unfold rd; rw [Int.toNat_natCast, List.getD_eq_getElem?_getD, List.getElem?_eq_getElem h]; rfl
theorem copyI_l0 (r : List Int) (hr : r.length ≤ 17592186044000) : ∀ d i : Nat, i + d = r.length → Ev (fun k => portageref0_CopyInts.l0 k r (r.take i) (i : Int)) r := by
  intro d
  induction d with
  | zero =>
    intro i hi
    obtain rfl : i = r.length := by omega
    refine ⟨1, fun k hk => ?_⟩
    obtain ⟨k, rfl⟩ : ∃ m, k = m + 1 := ⟨k-1, by omega⟩
    simp only [portageref0_CopyInts.l0]
    rw [if_neg (by omega), List.take_length]
  | succ d ih =>
    intro i hi
    have hlt : i < r.length := by omega
    refine Ev.step (fun k => ?_) (ih (i+1) (by omega))
    simp only [portageref0_CopyInts.l0]
    rw [if_pos (by omega), if_pos (by omega), if_pos (by rw [List.length_take]; omega), wr (i : Int) (by omega), rdI r i hlt, List.take_succ_eq_append_getElem hlt]
    rfl
theorem copyI (r : List Int) (hr : r.length ≤ 17592186044000) : Ev (fun k => portageref0_CopyInts.f k r) r := by
  have := copyI_l0 r hr r.length 0 (by omega)
  rw [List.take_zero] at this; exact this
theorem copyX (x : S65) (h : SmallX x) : Ev (fun k => portageref0_CopyIns.f k x.f0 x.f1 x.f2 x.f3 x.f4 x.f5 x.f6 x.f7) (x.f0, x.f1, x.f2, x.f3, x.f4, x.f5, x.f6, x.f7) := by
  obtain ⟨h1, h2, h3⟩ := h
  obtain ⟨K1, e1⟩ := copyO x.f3 (by omega)
  obtain ⟨K2, e2⟩ := copyS x.f7 (by omega) (fun s hs => by have := h3 s hs; omega)
  refine ⟨K1 + K2, fun k hk => ?_⟩
  simp only [portageref0_CopyIns.f]
  rw [show portageref0_CopyOpnds.f k x.f3 = some x.f3 from e1 k (by omega), Option.bind_some, show portageref0_CopyShapes.f k x.f7 = some x.f7 from e2 k (by omega), Option.bind_some]
theorem copyB_l1 (c0 c1 e0 e1 : Int) (l : List S63) (acc : List S63) (i : Nat) (hi : i < l.length) (hl : l.length ≤ 2513169434843) (ha : acc.length = i) (hb : l[i].f1.length * 96 ≤ 140737488351232) (hx : ∀ x ∈ l[i].f1, SmallX x)
    {R : Int × Int × List S63} (next : Ev (fun k => portageref0_CopyRegs.l0 k ((i + 1 : Nat) : Int) c0 c1 l e0 e1 (acc ++ [l[i]])) R) : ∀ d q : Nat, q + d = l[i].f1.length →
    Ev (fun k => portageref0_CopyRegs.l1 k (i : Int) (q : Int) c0 c1 l e0 e1 acc l[i].f0 (l[i].f1.take q) l[i].f2) R := by
  intro d
  induction d with
  | zero =>
    intro q hq
    obtain rfl : q = l[i].f1.length := by omega
    refine Ev.step (fun k => ?_) next
    simp only [portageref0_CopyRegs.l1]
    rw [if_pos (by omega), if_pos (by omega), rd63 l i hi, if_neg (by omega), List.take_length, if_pos (by omega), wr (i : Int) (by omega)]
    rfl
  | succ d ih =>
    intro q hq
    have hlt : q < l[i].f1.length := by omega
    obtain ⟨K1, h1⟩ := ih (q+1) (by omega)
    obtain ⟨K2, h2⟩ := copyX l[i].f1[q] (hx _ (List.getElem_mem hlt))
    refine ⟨K1 + K2 + 1, fun k hk => ?_⟩
    obtain ⟨k, rfl⟩ : ∃ m, k = m + 1 := ⟨k-1, by omega⟩
    have := h1 k (by omega)
    rw [List.take_succ_eq_append_getElem hlt] at this
    simp only [portageref0_CopyRegs.l1]
    rw [if_pos (by omega), if_pos (by omega), rd63 l i hi, if_pos (by omega), if_pos (by omega), rd65 _ q hlt, show portageref0_CopyIns.f k _ _ _ _ _ _ _ _ = some _ from h2 k (by omega), Option.bind_some, if_pos (by rw [List.length_take]; omega), wr (q : Int) (by omega)]
    exact this
theorem copyB_l0 (c0 c1 e0 e1 : Int) (l : List S63) (hs : SmallB l) : ∀ d i : Nat, i + d = l.length → Ev (fun k => portageref0_CopyRegs.l0 k (i : Int) c0 c1 l e0 e1 (l.take i)) (e0, e1, l) := by
  have hl := hs.1
  intro d
  induction d with
  | zero =>
    intro i hi
    obtain rfl : i = l.length := by omega
    refine ⟨1, fun k hk => ?_⟩
    obtain ⟨k, rfl⟩ : ∃ m, k = m + 1 := ⟨k-1, by omega⟩
    simp only [portageref0_CopyRegs.l0]
    rw [if_neg (by omega), List.take_length]
  | succ d ih =>
    intro i hi
    have hlt : i < l.length := by omega
    have hb := hs.2 l[i] (List.getElem_mem hlt)
    have hn := ih (i+1) (by omega)
    rw [List.take_succ_eq_append_getElem hlt] at hn
    obtain ⟨K1, h1⟩ := copyB_l1 c0 c1 e0 e1 l (l.take i) i hlt (by omega) (by rw [List.length_take]; omega) hb.1.1 hb.1.2 hn l[i].f1.length 0 (by omega)
    obtain ⟨K2, h2⟩ := copyI l[i].f2 (by have := hb.2; omega)
    refine ⟨K1 + K2 + 1, fun k hk => ?_⟩
    obtain ⟨k, rfl⟩ : ∃ m, k = m + 1 := ⟨k-1, by omega⟩
    have := h1 k (by omega)
    rw [List.take_zero] at this
    simp only [portageref0_CopyRegs.l0]
    rw [if_pos (by omega), if_pos (by omega), rd63 l i hlt, show portageref0_CopyInts.f k l[i].f2 = some l[i].f2 from h2 k (by omega), Option.bind_some]
    exact this
theorem copyB (c0 c1 : Int) (l : List S63) (hs : SmallB l) : Ev (fun k => portageref0_CopyRegs.f k c0 c1 l) (c0, c1, l) := by
  have := copyB_l0 c0 c1 c0 c1 l hs l.length 0 (by omega)
  rw [List.take_zero] at this; exact this
end Go.Proofs.Ytgbbcjooieggpaa.PureR
