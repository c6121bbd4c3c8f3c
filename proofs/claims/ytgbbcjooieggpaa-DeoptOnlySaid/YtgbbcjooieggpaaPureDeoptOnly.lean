/- DeoptOnly: of the registers only those that are named count. For every input. -/
import Derived.Test.YtgbbcjooieggpaaPFramesx10
import Derived.Test.YtgbbcjooieggpaaPureFrames
set_option linter.unusedSimpArgs false
set_option linter.unusedVariables false
namespace Go.Proofs.Ytgbbcjooieggpaa.PureF
open Go.RowKit Go.Proofs.Ytgbbcjooieggpaa.PFrames Go.Proofs.YtgbbcjooieggpaaW.PrintWords Go.Proofs.YtgbbcjooieggpaaW.PrintLast
/-- does an operand name the register n? -/
def isReg (n : Int) (o : S44) : Bool := o.f0 == 0 && o.f1 == n
def namesOf (l : List S67) (n : Int) : Bool := l.any fun s => s.f2.any (isReg n)
theorem names_l1 (l : List S67) (n : Int) (i : Nat) (hi : i < l.length) (hs : l[i].f2.length ≤ 8796093021952) (hl : l.length ≤ 3518437208780)
    (next : Ev (fun k => portagelaw26_names.l0 k l n ((i + 1 : Nat) : Int)) (namesOf (l.drop (i+1)) n)) : ∀ d j : Nat, j + d = l[i].f2.length →
    Ev (fun k => portagelaw26_names.l1 k l n (i : Int) (j : Int)) ((l[i].f2.drop j).any (isReg n) || namesOf (l.drop (i+1)) n) := by
  intro d
  induction d with
  | zero =>
    intro j hj
    obtain rfl : j = l[i].f2.length := by omega
    rw [List.drop_length, List.any_nil, Bool.false_or]
    refine Ev.step (fun k => ?_) next
    simp only [portagelaw26_names.l1]
    rw [if_pos (by omega), if_pos (by omega), rd67 _ i hi, if_neg (by omega), wr (i : Int) (by omega)]
    rfl
  | succ d ih =>
    intro j hj
    have hlt : j < l[i].f2.length := by omega
    rw [drop_cons _ j hlt, List.any_cons]
    cases hc : isReg n l[i].f2[j] with
    | true =>
      refine ⟨1, fun k hk => ?_⟩
      obtain ⟨k, rfl⟩ : ∃ m, k = m + 1 := ⟨k-1, by omega⟩
      simp only [portagelaw26_names.l1]
      rw [if_pos (by omega), if_pos (by omega), rd67 _ i hi, if_pos (by omega), if_pos (by omega), show portagelaw26_opnd.f 0 n = some (0, n) from rfl, Option.bind_some, rd44 _ j hlt, if_pos (show (l[i].f2[j].f0 == 0 && l[i].f2[j].f1 == n) = true from hc)]
      rfl
    | false =>
      rw [Bool.false_or]
      refine Ev.step (fun k => ?_) (ih (j+1) (by omega))
      simp only [portagelaw26_names.l1]
      rw [if_pos (by omega), if_pos (by omega), rd67 _ i hi, if_pos (by omega), if_pos (by omega), show portagelaw26_opnd.f 0 n = some (0, n) from rfl, Option.bind_some, rd44 _ j hlt, if_neg (by intro h; rw [show isReg n l[i].f2[j] = true from h] at hc; cases hc), wr (j : Int) (by omega)]
      rfl
theorem names_l0 (l : List S67) (n : Int) (hl : l.length ≤ 3518437208780) (hs : ∀ s ∈ l, s.f2.length ≤ 8796093021952) : ∀ d i : Nat, i + d = l.length → Ev (fun k => portagelaw26_names.l0 k l n (i : Int)) (namesOf (l.drop i) n) := by
  intro d
  induction d with
  | zero =>
    intro i hi
    obtain rfl : i = l.length := by omega
    refine ⟨1, fun k hk => ?_⟩
    obtain ⟨k, rfl⟩ : ∃ m, k = m + 1 := ⟨k-1, by omega⟩
    simp only [portagelaw26_names.l0]
    rw [if_neg (by omega), List.drop_length]
    rfl
  | succ d ih =>
    intro i hi
    have hlt : i < l.length := by omega
    have h := names_l1 l n i hlt (hs _ (List.getElem_mem hlt)) hl (ih (i+1) (by omega)) l[i].f2.length 0 (by omega)
    have e : namesOf (l.drop i) n = ((l[i].f2.drop 0).any (isReg n) || namesOf (l.drop (i+1)) n) := by
      rw [drop_cons l i hlt]; rfl
    rw [e]
    refine Ev.step (fun k => ?_) h
    simp only [portagelaw26_names.l0]
    rw [if_pos (by omega)]
    rfl
theorem names_ev (l : List S67) (n : Int) (hl : l.length ≤ 3518437208780) (hs : ∀ s ∈ l, s.f2.length ≤ 8796093021952) : Ev (fun k => portagelaw26_names.f k l n) (namesOf l n) := by
  have h := names_l0 l n hl hs l.length 0 (by omega)
  rw [List.drop_zero] at h
  exact h
/-- registers that are the same where they are named -/
def Agree (l : List S67) (r x : List S35) : Prop := x.length = r.length ∧ ∀ j : Nat, namesOf l (j : Int) = true → x[j]? = r[j]?
theorem val_agree (o : S44) (r x c : List S35) (hlen : x.length = r.length) (h : o.f0 = 0 → ∀ j : Nat, (j : Int) = o.f1 → x[j]? = r[j]?) : valOf o x c = valOf o r c := by
  unfold valOf
  congr 1
  unfold deopt_Value.f
  by_cases h0 : o.f0 = 0
  · rw [if_pos h0, if_pos h0, at_eq, at_eq, hlen]
    by_cases hc : o.f1 < 0 ∨ (r.length : Int) ≤ o.f1
    · rw [if_pos hc, if_pos hc]
    · rw [if_neg hc, if_neg hc]
      obtain ⟨j, hj⟩ : ∃ j : Nat, (j : Int) = o.f1 := ⟨o.f1.toNat, by omega⟩
      have hx := h h0 j hj
      rw [← hj]
      have e : rd_T35 x (j : Int) = rd_T35 r (j : Int) := by
        unfold rd_T35
        rw [Int.toNat_natCast, List.getD_eq_getElem?_getD, List.getD_eq_getElem?_getD, hx]
      rw [e]
  · rw [if_neg h0, if_neg h0]
theorem vals_agree (r x c : List S35) (hlen : x.length = r.length) : ∀ (t : List S44), (∀ o ∈ t, o.f0 = 0 → ∀ j : Nat, (j : Int) = o.f1 → x[j]? = r[j]?) → valsOf x c t = valsOf r c t
  | [], _ => rfl
  | o :: t, h => by
    unfold valsOf
    rw [val_agree o r x c hlen (h o List.mem_cons_self), vals_agree r x c hlen t (fun q hq => h q (List.mem_cons_of_mem _ hq))]
theorem fs_agree (r x c : List S35) (hlen : x.length = r.length) : ∀ (l : List S67), (∀ s ∈ l, ∀ o ∈ s.f2, o.f0 = 0 → ∀ j : Nat, (j : Int) = o.f1 → x[j]? = r[j]?) → fsOf x c l = fsOf r c l
  | [], _ => rfl
  | s :: t, h => by
    unfold fsOf fOf
    rw [vals_agree r x c hlen s.f2 (h s List.mem_cons_self), fs_agree r x c hlen t (fun q hq => h q (List.mem_cons_of_mem _ hq))]
theorem res_agree (l : List S67) (r x c : List S35) (h : Agree l r x) : resOf x c [] l = resOf r c [] l := by
  unfold resOf
  rw [fs_agree r x c h.1 l (fun s hs o ho h0 j hj => h.2 j (by
    unfold namesOf
    rw [List.any_eq_true]
    refine ⟨s, hs, ?_⟩
    rw [List.any_eq_true]
    refine ⟨o, ho, ?_⟩
    unfold isReg
    rw [h0, ← hj]
    simp))]
set_option maxRecDepth 10000 in
theorem only_l0 (l : List S67) (r c : List S35) (u v : Int) (hl : l.length ≤ 3518437208780) (hs : ∀ s ∈ l, s.f2.length ≤ 8796093021952) (hr : r.length ≤ 8796093021952) (hc : c.length ≤ 8796093021952) : ∀ d i : Nat, i + d = r.length → ∀ x : List S35, Agree l r x →
    Ev (fun k => portagelaw26_DeoptOnly.l0 k l x (i : Int) r c u v) true := by
  intro d
  induction d with
  | zero =>
    intro i hi x hx
    obtain ⟨K1, h1⟩ := copyS l hl hs
    obtain ⟨K2, h2⟩ := copyV r hr
    obtain ⟨K3, h3⟩ := copyV c hc
    obtain ⟨K4, h4⟩ := frames_ev r c l hl hs
    obtain ⟨K5, h5⟩ := frames_ev x c l hl hs
    have hlen : (resOf r c [] l).1.length ≤ 9223372036854775806 ∧ ∀ s ∈ (resOf r c [] l).1, s.f2.length ≤ 9223372036854775806 := by
      unfold resOf
      cases hf : fsOf r c l with
      | none => exact ⟨by simp, fun s hs => by cases hs⟩
      | some fs =>
        have e1 := fsOf_len r c l fs hf
        have e2 := fsOf_small r c l fs hf hs
        exact ⟨by simp only [List.nil_append]; omega, fun s hs => Nat.le_trans (e2 s hs) (by omega)⟩
    obtain ⟨K6, h6⟩ := sameFs (resOf r c [] l).1 hlen.1 hlen.2
    refine ⟨K1 + K2 + K3 + K4 + K5 + K6 + 1, fun k hk => ?_⟩
    obtain ⟨k, rfl⟩ : ∃ m, k = m + 1 := ⟨k-1, by omega⟩
    have hxl := hx.1
    simp only [portagelaw26_DeoptOnly.l0]
    rw [if_neg (by omega), show portageref0_CopyShapes.f k l = some l from h1 k (by omega), Option.bind_some, show portageref0_CopyValues.f k r = some r from h2 k (by omega), Option.bind_some, show portageref0_CopyValues.f k c = some c from h3 k (by omega), Option.bind_some,
      show deopt_Frames.f k l r c = some (resOf r c [] l) from h4 k (by omega), Option.bind_some, Option.bind_some, Option.bind_some, show deopt_Frames.f k l x c = some (resOf x c [] l) from h5 k (by omega), Option.bind_some, res_agree l r x c hx, if_pos (by simp),
      show portageref0_SameFrames.f k (resOf r c [] l).1 (resOf r c [] l).1 = some true from h6 k (by omega), Option.bind_some, if_pos rfl]
    rfl
  | succ d ih =>
    intro i hi x hx
    have hxl := hx.1
    obtain ⟨K1, h1⟩ := names_ev l (i : Int) hl hs
    cases hn : namesOf l (i : Int) with
    | true =>
      obtain ⟨K2, h2⟩ := ih (i+1) (by omega) x hx
      refine ⟨K1 + K2 + 1, fun k hk => ?_⟩
      obtain ⟨k, rfl⟩ : ∃ m, k = m + 1 := ⟨k-1, by omega⟩
      simp only [portagelaw26_DeoptOnly.l0]
      rw [if_pos (by omega), show portagelaw26_names.f k l (i : Int) = some (namesOf l (i : Int)) from h1 k (by omega), Option.bind_some, hn, if_pos rfl, wr (i : Int) (by omega)]
      exact h2 k (by omega)
    | false =>
      obtain ⟨K2, h2⟩ := ih (i+1) (by omega) (x.set i ⟨u, v⟩) ⟨by rw [List.length_set]; exact hxl, fun j hj => by
        have hji : i ≠ j := fun e => by rw [← e, hn] at hj; cases hj
        rw [List.getElem?_set_ne hji]
        exact hx.2 j hj⟩
      refine ⟨K1 + K2 + 1, fun k hk => ?_⟩
      obtain ⟨k, rfl⟩ : ∃ m, k = m + 1 := ⟨k-1, by omega⟩
      simp only [portagelaw26_DeoptOnly.l0]
      rw [if_pos (by omega), show portagelaw26_names.f k l (i : Int) = some (namesOf l (i : Int)) from h1 k (by omega), Option.bind_some, hn, if_neg (by decide), if_pos (by omega), wr (i : Int) (by omega), Int.toNat_natCast]
      exact h2 k (by omega)
/-- THE ONE PURE STATEMENT -/
theorem DeoptOnly (l : List S67) (hl : l.length * 40 ≤ 140737488351232) (hs : ∀ s ∈ l, s.f2.length * 16 ≤ 140737488351232) (r c : List S35) (hr : r.length * 16 ≤ 140737488351232) (hc : c.length * 16 ≤ 140737488351232) (u v : Int) :
    ∃ k, portagelaw26_DeoptOnly.f k l r c u v = some true := by
  obtain ⟨K1, h1⟩ := copyV r (by omega)
  obtain ⟨K2, h2⟩ := only_l0 l r c u v (by omega) (fun s h => by have := hs s h; omega) (by omega) (by omega) r.length 0 (by omega) r ⟨rfl, fun _ _ => rfl⟩
  refine ⟨K1 + K2, ?_⟩
  generalize hk : K1 + K2 = k
  unfold portagelaw26_DeoptOnly.f
  rw [show portageref0_CopyValues.f k r = some r from h1 k (by omega), Option.bind_some]
  exact h2 k (by omega)
end Go.Proofs.Ytgbbcjooieggpaa.PureF
