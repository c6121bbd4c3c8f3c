/- The texts of a claim, one behind the other: Ka PGbx0 PGbx2 Kb Kc. -/
import Derived.Shelf.Small.Bits
import Derived.Shelf.Strconv.Itoa0
import Derived.Shelf.Sort.Plain
import Derived.Ground.Names2Prog
import Derived.Shelf.Slices.Clone
import Derived.Shelf.Slices.CompactI
import Derived.Shelf.Slices.SearchI
import Derived.Shelf.Slices.Cells
import Derived.Shelf.Slices.In.SortNone
import Derived.Ground.SlgnProg
import Derived.Shelf.SlicesE.Clone
import Derived.Test.YtmeaepmimnmjlaaProg
import Derived.RangeFuncNested
import Derived.RangeFuncBox
import Derived.RangeFuncLeaves
import Derived.BigFrameIn
import Derived.Orders
import Derived.Tactics
import Derived.OrdersIn
import Derived.TacticsIn
import Derived.Maps.AppendAt
import Derived.Deep.AppendLies
import Derived.RangeFuncBound
import Derived.RangeFuncCalls
import Derived.Shelf.Abstract
import Derived.Shelf.RegionOpen
import Derived.WalkKit
import Derived.OwnWalkIn
import Derived.TacticsInMore
import Derived.LoopNIn
import Derived.LoopIn
import Derived.WalkSpells
import Derived.Below
import Derived.Deep.Draws
import Derived.OwnWalk
import Derived.Laws.BytesArg
import Derived.Laws.MakeOwn
import Derived.Laws.OwnMore
import Derived.Deep.OwnRows
import Derived.Lib.ConvBytes
import Derived.Laws.Slices
import Derived.KernelRfl
import Derived.RowKit3
import Derived.Deep.LoopGhost
import Derived.Deep.QuietTactic
import Derived.BigQuiet
import Derived.WideLaws
import Derived.Deep.DeepCutAuto
import Derived.Deep.CutBlock
import Derived.Deep.RegionHeld3
import Derived.Laws.Rows
import Derived.Lib.AppendStr
import Derived.ArgAppend
import Derived.Laws.IdiomCopy
import Derived.OrdersHeld
import Derived.Laws.BitsLemmas
import Derived.RowKit
import Derived.Sort.BigQuietIn
import Init.Data.List.Lemmas
import Derived.Scope
import Derived.WalkMore
import Derived.WalkSmall
import Derived.Sort.OwnSortedInts
import Derived.LoopTactic
import Derived.Deep.Slices
import Derived.SizedLaws
import Derived.ChangeArms
import Derived.ProofKit
import Derived.OpenShut
import Derived.ShutString
import Derived.ChangeOld
import Derived.Carry
import Derived.Laws.StructEq
import Derived.Test.YtmeaepmimnmjlaaWLast
import Derived.Test.YtmeaepmimnmjlaaWMore
import Derived.Test.YtmeaepmimnmjlaaWTab
import Derived.Test.YtmeaepmimnmjlaaWWords
/- RegInv RegInvIn RegInvP Lit OwnCells -/
/- A region that draws its order, by an invariant: whatever comes up next keeps it. -/
namespace Go.Proofs.Ytmeaepmimnmjlaa.RegInv
set_option linter.unusedVariables false
/-- what is asked behind one operation, in the place of what is asked behind the region -/
def After (K : Act → World → Prop) (Q : Exit → Act → World → Prop) : Exit → Act → World → Prop
  | .normal, a, w => K a w
  | e, a, w => Q e a w
def falses (l : Array Bool) : Nat := l.toList.countP (· == false)
theorem falses_set {l : Array Bool} {i : Nat} (h : l[i]? = some false) : falses (l.setIfInBounds i true) + 1 = falses l := by
  unfold falses
  obtain ⟨hi, he⟩ := Array.getElem?_eq_some_iff.1 h
  rw [Array.toList_setIfInBounds, List.countP_set (by simpa using hi)]
  have hm : l.toList[i] = false := by simpa using he
  have hp : 0 < l.toList.countP (· == false) := List.countP_pos_iff.2 ⟨false, by rw [← hm]; exact List.getElem_mem _, rfl⟩
  have e1 : (l.toList[i] == false) = true := by rw [hm]; rfl
  rw [if_pos e1, if_neg (by decide)]
  omega
/-- each operation waits for earlier ones alone -/
def early (md : Region.Mode) (ops : Array Oper) : Bool := (List.range ops.size).all fun i => match ops[i]? with
  | some o => o.after.all fun e => !Region.binds md e || decide (e.on < i)
  | none => true
theorem ready_spec {md : Region.Mode} {ops : Array Oper} {l : Array Bool} {i : Nat} (h : i ∈ Region.ready md ops l) : l[i]? = some false ∧ ∃ o, ops[i]? = some o ∧ (o.after.all fun e => !Region.binds md e || l.getD e.on false) = true := by
  unfold Region.ready at h
  rw [List.mem_filter, Bool.and_eq_true] at h
  obtain ⟨h0, h1, h2⟩ := h
  have hl : l[i]? = some false := by
    rw [Array.getD_eq_getD_getElem?] at h1
    cases hx : l[i]? with
    | none => rw [hx] at h1; simp at h1
    | some b => rw [hx] at h1; simp at h1; rw [h1]
  refine ⟨hl, ?_⟩
  cases ho : ops[i]? with
  | none => rw [ho] at h2; simp at h2
  | some o => rw [ho] at h2; exact ⟨o, rfl, h2⟩
theorem ready_all {md : Region.Mode} {ops : Array Oper} {l : Array Bool} (he : early md ops = true) (hs : l.size = ops.size) (h : Region.ready md ops l = []) : ∀ i, i < ops.size → l[i]? = some true := by
  intro i
  induction i using Nat.strongRecOn with
  | _ i ih =>
    intro hi
    cases hb : l[i]'(by omega) with
    | true => rw [Array.getElem?_eq_getElem (by omega), hb]
    | false =>
      exfalso
      have hm : i ∈ Region.ready md ops l := by
        unfold Region.ready
        rw [List.mem_filter]
        refine ⟨List.mem_range.2 hi, ?_⟩
        rw [Bool.and_eq_true]
        refine ⟨by simp [Array.getD_eq_getD_getElem?, Array.getElem?_eq_getElem (show i < l.size by omega), hb], ?_⟩
        have ho : ops[i]? = some ops[i] := Array.getElem?_eq_getElem hi
        have h1 := List.all_eq_true.1 he i (List.mem_range.2 hi)
        rw [ho] at h1 ⊢
        simp only [Option.map_some, Option.getD_some]
        rw [Array.all_eq_true'] at h1 ⊢
        intro e hem
        have h2 := h1 e hem
        rw [Bool.or_eq_true] at h2 ⊢
        rcases h2 with h2 | h2
        · exact .inl h2
        · have h3 : e.on < i := of_decide_eq_true h2
          refine .inr ?_
          rw [Array.getD_eq_getD_getElem?, ih e.on h3 (by omega)]; rfl
      rw [h] at hm; cases hm
/-- the same, an operation at a time -/
theorem region_inv_op {P : Program} {id : Nat} {ops : Array Oper} {Q : Exit → Act → World → Prop} {a : Act} {w : World} (hm : P.follows .mixedOrders = true) (he : early .any ops = true)
    (Inv : Array Bool → Act → World → Prop) (h0 : Inv (Array.replicate ops.size false) a { w with drawn := w.drawn + 1 })
    (hstep : ∀ l a w i o, l.size = ops.size → Inv l a w → ops[i]? = some o → l[i]? = some false → (o.after.all fun e => !Region.binds .any e || l.getD e.on false) = true → wpOp P ops Q i (fun a' w' => Inv (l.setIfInBounds i true) a' w') a w)
    (hend : ∀ a w, Inv (Array.replicate ops.size true) a w → Q .normal a w) : (Code.region id ops true).wp P Q a w := by
  refine wp_region_any hm ?_
  have go : ∀ (fuel : Nat) (l : Array Bool) (a : Act) (w : World), l.size = ops.size → falses l ≤ fuel → Inv l a w → wpAny P .any ops Q fuel l a w := by
    intro fuel
    have fin : ∀ (l : Array Bool) (a : Act) (w : World), l.size = ops.size → Inv l a w → Region.ready .any ops l = [] → Q .normal a w := by
      intro l a w hs hI hr
      have : l = Array.replicate ops.size true := by
        apply Array.ext
        · simp [hs]
        · intro i h1 h2
          have := ready_all he hs hr i (by omega)
          rw [Array.getElem?_eq_getElem h1] at this
          simpa using Option.some.inj this
      exact hend a w (this ▸ hI)
    induction fuel with
    | zero =>
      intro l a w hs hf hI
      have hr : Region.ready .any ops l = [] := by
        cases hx : Region.ready .any ops l with
        | nil => rfl
        | cons i r =>
          obtain ⟨h1, _⟩ := ready_spec (md := .any) (ops := ops) (l := l) (i := i) (by rw [hx]; exact List.mem_cons_self)
          have := falses_set h1
          omega
      exact ⟨hr, fin l a w hs hI hr⟩
    | succ n ih =>
      intro l a w hs hf hI
      refine ⟨fin l a w hs hI, fun i hi => ?_⟩
      obtain ⟨h1, o, ho, h2⟩ := ready_spec hi
      refine wpOp_mono (fun a' w' hI' => ih _ a' w' (by simpa using hs) (by have := falses_set h1; omega) hI') (hstep l a w i o hs hI ho h1 h2)
  exact go ops.size _ a _ (by simp) (by unfold falses; simp [List.countP_replicate]) h0

/-! one operation -/
theorem op_value {P : Program} {ops : Array Oper} {Q : Exit → Act → World → Prop} {i : Nat} {o : Oper} {K : Act → World → Prop} {a : Act} {w w' : World} {v : Value} (hi : ops[i]? = some o) (hg : o.guard = none) (hrun : (execOp a.eval o).run P w = .ok (.value v) w') (h : K (a.put o.dst v) w') : wpOp P ops Q i K a w := by
  unfold wpOp
  rw [hi]
  simp only
  rw [if_pos (by simp [Region.wanted, hg])]
  refine .inl ?_
  unfold Oper.wp
  rw [hrun]
  exact h
theorem op_skip {P : Program} {ops : Array Oper} {Q : Exit → Act → World → Prop} {i : Nat} {o : Oper} {K : Act → World → Prop} {a : Act} {w w' : World} (hi : ops[i]? = some o) (hg : o.guard = none) (hrun : (execOp a.eval o).run P w = .ok .skip w') (h : K (a.put o.dst undef) w') : wpOp P ops Q i K a w := by
  unfold wpOp
  rw [hi]
  simp only
  rw [if_pos (by simp [Region.wanted, hg])]
  refine .inl ?_
  unfold Oper.wp
  rw [hrun]
  exact h
/-! operations that are guarded ('&&', '||'), the guard known -/
/-! what comes up in any order, each with a fact of its own that the others leave -/
def waits (o : Oper) (j : Nat) : Bool := o.after.any fun e => Region.binds .any e && e.on == j
theorem dep_of {o : Oper} {l : Array Bool} {j : Nat} (h : (o.after.all fun e => !Region.binds .any e || l.getD e.on false) = true) (hw : waits o j = true) : l[j]? = some true := by
  unfold waits at hw
  rw [Array.any_eq_true'] at hw
  rw [Array.all_eq_true'] at h
  obtain ⟨e, he, h1⟩ := hw
  rw [Bool.and_eq_true, beq_iff_eq] at h1
  have h2 := h e he
  rw [h1.1] at h2
  rw [Array.getD_eq_getD_getElem?, h1.2] at h2
  cases hx : l[j]? with
  | none => rw [hx] at h2; simp at h2
  | some b => rw [hx] at h2; simp at h2; rw [h2]
def puts (dst : Nat → Option Tmp) (vs : Nat → Value) : List Nat → Act → Act
  | [], a => a
  | i :: r, a => puts dst vs r (a.put (dst i) (vs i))
def slotsOk (dst : Nat → Option Tmp) (n N : Nat) : Bool := (List.range n).all fun i => match dst i with
  | some t => decide (t < N) && (List.range n).all fun j => (i == j) || dst j != some t
  | none => true
def off (dst : Nat → Option Tmp) (n : Nat) (t : Tmp) : Bool := (List.range n).all fun i => dst i != some t
theorem getD_put {a : Act} {d t : Nat} {v : Value} (h : d ≠ t) : (a.put (some d) v).tmps.getD t undef = a.tmps.getD t undef := by
  simp [Act.put, Array.getD_eq_getD_getElem?, h]
theorem getD_put_self {a : Act} {d : Nat} {v : Value} (h : d < a.tmps.size) : (a.put (some d) v).tmps.getD d undef = v := by
  simp [Act.put, Array.getD_eq_getD_getElem?, h]
theorem puts_frame (dst : Nat → Option Tmp) (vs : Nat → Value) : ∀ (l : List Nat) (a : Act), (puts dst vs l a).tmps.size = a.tmps.size ∧ (puts dst vs l a).defers = a.defers ∧ ∀ t, (∀ i ∈ l, dst i ≠ some t) → (puts dst vs l a).tmps.getD t undef = a.tmps.getD t undef
  | [], a => ⟨rfl, rfl, fun _ _ => rfl⟩
  | i :: r, a => by
    obtain ⟨h1, h2, h3⟩ := puts_frame dst vs r (a.put (dst i) (vs i))
    refine ⟨?_, ?_, fun t ht => ?_⟩
    · show (puts dst vs r (a.put (dst i) (vs i))).tmps.size = _
      rw [h1]; cases dst i <;> simp [Act.put]
    · show (puts dst vs r (a.put (dst i) (vs i))).defers = _
      rw [h2]; cases dst i <;> rfl
    · show (puts dst vs r (a.put (dst i) (vs i))).tmps.getD t undef = _
      rw [h3 t (fun j hj => ht j (List.mem_cons_of_mem _ hj))]
      have := ht i List.mem_cons_self
      cases hd : dst i with
      | none => rfl
      | some d => rw [hd] at this; exact getD_put (fun e => this (by rw [e]))
theorem puts_at (dst : Nat → Option Tmp) (vs : Nat → Value) : ∀ (l : List Nat) (a : Act) (i : Nat) (t : Tmp), i ∈ l → dst i = some t → t < a.tmps.size → (∀ j ∈ l, j ≠ i → dst j ≠ some t) → (puts dst vs l a).tmps.getD t undef = vs i
  | [], _, _, _, h, _, _, _ => by cases h
  | j :: r, a, i, t, hm, hd, ht, hne => by
    show (puts dst vs r (a.put (dst j) (vs j))).tmps.getD t undef = _
    by_cases hir : i ∈ r
    · exact puts_at dst vs r _ i t hir hd (by cases dst j <;> simpa [Act.put] using ht) (fun q hq => hne q (List.mem_cons_of_mem _ hq))
    · obtain rfl : i = j := by
        rcases List.mem_cons.1 hm with h | h
        · exact h
        · exact absurd h hir
      rw [(puts_frame dst vs r _).2.2 t (fun q hq => hne q (List.mem_cons_of_mem _ hq) (fun e => hir (e ▸ hq))), hd, getD_put_self ht]
/-- What is known in the midst of the region. -/
structure Mid (Ext : World → World → Prop) (dst : Nat → Option Tmp) (n : Nat) (F : Nat → World → Value → Prop) (a0 : Act) (w0 : World) (D : Nat → Prop) (a : Act) (w : World) : Prop where
  defers : a.defers = a0.defers
  size : a.tmps.size = a0.tmps.size
  off : ∀ t, off dst n t = true → a.tmps.getD t undef = a0.tmps.getD t undef
  ext : Ext w0 w
  at_ : ∀ i, i < n → D i → F i w (match dst i with | some t => a.tmps.getD t undef | none => undef)
end Go.Proofs.Ytmeaepmimnmjlaa.RegInv
/- A region that draws its order inside a fence, a round of a range over a function too: RegInv.region_facts, operation by operation. -/
namespace Go.Proofs.Ytmeaepmimnmjlaa.RegInv
set_option linter.unusedVariables false
section
variable {F : Fence} {m : Nat} {P : Program} {ops : Array Oper} {Q : Exit → Act → World → Prop} {i : Nat} {o : Oper} {K : Act → World → Prop} {a : Act} {w w' : World} {v : Value}
end
end Go.Proofs.Ytmeaepmimnmjlaa.RegInv
/- A region that draws its order in which one operation (p) writes what the function owns and the last one, which waits for all, is shown by itself. -/
namespace Go.Proofs.Ytmeaepmimnmjlaa.RegInv
set_option linter.unusedVariables false
structure MidP (Ext ExtP : World → World → Prop) (dst : Nat → Option Tmp) (n : Nat) (F : Nat → World → Value → Prop) (a0 : Act) (w0 : World) (fresh : Prop) (D : Nat → Prop) (a : Act) (w : World) : Prop where
  defers : a.defers = a0.defers
  size : a.tmps.size = a0.tmps.size
  off : ∀ t, off dst n t = true → a.tmps.getD t undef = a0.tmps.getD t undef
  ext : ExtP w0 w
  exts : fresh → Ext w0 w
  at_ : ∀ i, i < n → D i → F i w (match dst i with | some t => a.tmps.getD t undef | none => undef)
theorem MidP.puts {Ext ExtP : World → World → Prop} {dst : Nat → Option Tmp} {n : Nat} {F : Nat → World → Value → Prop} {a0 a : Act} {w0 w : World} {fresh : Prop} {D : Nat → Prop} (hsl : slotsOk dst n a0.tmps.size = true) (hI : MidP Ext ExtP dst n F a0 w0 fresh D a w) :
    puts dst (fun i => match dst i with | some t => a.tmps.getD t undef | none => undef) (List.range n) a0 = a := by
  have hne : ∀ i t, i < n → dst i = some t → t < a0.tmps.size ∧ ∀ j, j < n → j ≠ i → dst j ≠ some t := fun i t hi hd => by
    have h1 := List.all_eq_true.1 hsl i (List.mem_range.2 hi)
    rw [hd] at h1
    simp only [Bool.and_eq_true, decide_eq_true_eq] at h1
    refine ⟨h1.1, fun j hj hji => ?_⟩
    have h2 := List.all_eq_true.1 h1.2 j (List.mem_range.2 hj)
    rw [Bool.or_eq_true, beq_iff_eq] at h2
    rcases h2 with h2 | h2
    · exact absurd h2.symm hji
    · simpa using h2
  obtain ⟨p1, p2, p3⟩ := puts_frame dst (fun i => match dst i with | some t => a.tmps.getD t undef | none => undef) (List.range n) a0
  have ht : (RegInv.puts dst (fun i => match dst i with | some t => a.tmps.getD t undef | none => undef) (List.range n) a0).tmps = a.tmps := by
    apply Array.ext
    · rw [p1, hI.size]
    · intro t h1 h2
      have hg : ∀ (x : Array Value) (hx : t < x.size), x[t] = x.getD t undef := fun x hx => by simp [Array.getD_eq_getD_getElem?, hx]
      rw [hg _ h1, hg _ h2]
      cases ho : RegInv.off dst n t with
      | true =>
        rw [hI.off t ho]
        refine p3 t (fun i hi => ?_)
        have := List.all_eq_true.1 ho i hi
        simpa using this
      | false =>
        have : ¬ (∀ i, i ∈ List.range n → (dst i != some t) = true) := fun h => by
          have : RegInv.off dst n t = true := List.all_eq_true.2 h
          rw [ho] at this; cases this
        have : ∃ i, i < n ∧ dst i = some t := by
          refine Classical.byContradiction fun hc => this (fun i hi => ?_)
          rw [bne_iff_ne]
          exact fun e => hc ⟨i, List.mem_range.1 hi, e⟩
        obtain ⟨i, hi, hd⟩ := this
        rw [puts_at dst _ (List.range n) a0 i t (List.mem_range.2 hi) hd (hne i t hi hd).1 (fun j hj hji => (hne i t hi hd).2 j (List.mem_range.1 hj) hji)]
        rw [hd]
  cases a with | mk at_ ad =>
  cases hp : RegInv.puts dst (fun i => match dst i with | some t => (Act.mk at_ ad).tmps.getD t undef | none => undef) (List.range n) a0 with | mk bt bd =>
  rw [hp] at ht p2
  have hd := hI.defers
  simp only at ht p2 hd
  rw [ht, p2, ← hd]
theorem region_facts_p {P : Program} {id : Nat} {ops : Array Oper} {Q : Exit → Act → World → Prop} {a0 : Act} {w0 : World} (hm : P.follows .mixedOrders = true) (he : early .any ops = true)
    (Ext ExtP : World → World → Prop) (htr : ∀ a b c, Ext a b → Ext b c → Ext a c) (hle : ∀ a b, Ext a b → ExtP a b) (htr' : ∀ a b c, ExtP a b → ExtP b c → ExtP a c) (hdrew : Ext w0 { w0 with drawn := w0.drawn + 1 }) (dst : Nat → Option Tmp) (n p : Nat) (hn : ops.size = n + 1) (hsl : slotsOk dst n a0.tmps.size = true)
    (hdst : ((List.range n).all fun i => match ops[i]? with | some o => o.dst == dst i | none => false) = true) (hlast : ((List.range n).all fun j => match ops[n]? with | some o => waits o j | none => false) = true) (F : Nat → World → Value → Prop) (hF : ∀ i w w1 v, F i w v → Ext w w1 → F i w1 v) (hFp : ∀ i w w1 v, i ≠ p → F i w v → ExtP w w1 → F i w1 v)
    (hstep : ∀ i o a w, i < n → ops[i]? = some o → MidP Ext ExtP dst n F a0 w0 (i = p) (fun j => waits o j = true) a w → wpOp P ops Q i (fun a' w' => ∃ v, a' = a.put (dst i) v ∧ F i w' (match dst i with | some _ => v | none => undef) ∧ ExtP w w' ∧ (i ≠ p → Ext w w')) a w)
    (hend : ∀ (vs : Nat → Value) w, ExtP w0 w → (∀ i, i < n → F i w (match dst i with | some _ => vs i | none => undef)) → wpOp P ops Q n (fun a' w' => Q .normal a' w') (puts dst vs (List.range n) a0) w) : (Code.region id ops true).wp P Q a0 w0 := by
  have hdi : ∀ i o, i < n → ops[i]? = some o → o.dst = dst i := fun i o hi ho => by
    have := List.all_eq_true.1 hdst i (List.mem_range.2 hi)
    rw [ho] at this
    exact beq_iff_eq.1 this
  have hne : ∀ i t, i < n → dst i = some t → t < a0.tmps.size ∧ ∀ j, j < n → j ≠ i → dst j ≠ some t := fun i t hi hd => by
    have h1 := List.all_eq_true.1 hsl i (List.mem_range.2 hi)
    rw [hd] at h1
    simp only [Bool.and_eq_true, decide_eq_true_eq] at h1
    refine ⟨h1.1, fun j hj hji => ?_⟩
    have h2 := List.all_eq_true.1 h1.2 j (List.mem_range.2 hj)
    rw [Bool.or_eq_true, beq_iff_eq] at h2
    rcases h2 with h2 | h2
    · exact absurd h2.symm hji
    · simpa using h2
  refine region_inv_op hm he (fun l a w => (l[n]? = some true ∧ (∀ j, j < n → l[j]? = some true) ∧ Q .normal a w) ∨ (l[n]? = some false ∧ MidP Ext ExtP dst n F a0 w0 (l[p]? ≠ some true) (fun j => l[j]? = some true) a w)) ?_ ?_ ?_
  · refine .inr ⟨by rw [Array.getElem?_replicate, if_pos (by omega)], rfl, rfl, fun _ _ => rfl, hle _ _ hdrew, fun _ => hdrew, fun i hi h => ?_⟩
    rw [Array.getElem?_replicate, if_pos (by omega)] at h; cases h
  · intro l a w i o hs hI ho hl hr
    have hi : i < ops.size := (Array.getElem?_eq_some_iff.1 ho).1
    rcases hI with ⟨h1, h2, _⟩ | ⟨hln, hI⟩
    · exfalso
      by_cases hin : i = n
      · subst hin; rw [h1] at hl; cases hl
      · rw [h2 i (by omega)] at hl; cases hl
    · by_cases hin : i = n
      · subst hin
        have hall : ∀ j, j < i → l[j]? = some true := fun j hj => by
          have := List.all_eq_true.1 hlast j (List.mem_range.2 hj)
          rw [ho] at this
          exact dep_of hr this
        have h := hend (fun i => match dst i with | some t => a.tmps.getD t undef | none => undef) w hI.ext (fun k hk => by
          have := hI.at_ k hk (hall k hk)
          cases hd : dst k with
          | none => rw [hd] at this; exact this
          | some t => rw [hd] at this; simpa [hd] using this)
        rw [hI.puts hsl] at h
        refine wpOp_mono ?_ h
        intro a' w' hq
        refine .inl ⟨?_, fun j hj => ?_, hq⟩
        · rw [Array.getElem?_setIfInBounds, if_pos rfl, if_pos (by omega)]
        · rw [Array.getElem?_setIfInBounds, if_neg (by omega)]; exact hall j hj
      · have hin' : i < n := by omega
        refine wpOp_mono ?_ (hstep i o a w hin' ho ⟨hI.defers, hI.size, hI.off, hI.ext, fun e => hI.exts (by subst e; rw [hl]; simp), fun j hj hw => hI.at_ j hj (dep_of hr hw)⟩)
        rintro a' w' ⟨v, rfl, hv, hxp, hx⟩
        refine .inr ⟨?_, ?_, ?_, fun t ht => ?_, htr' _ _ _ hI.ext hxp, fun hf => ?_, fun j hj hlj => ?_⟩
        · rw [Array.getElem?_setIfInBounds, if_neg (by omega)]; exact hln
        · rw [← hI.defers]; cases dst i <;> rfl
        · rw [← hI.size]; cases dst i <;> simp [Act.put]
        · rw [← hI.off t ht]
          have := List.all_eq_true.1 ht i (List.mem_range.2 hin')
          cases hd : dst i with
          | none => rfl
          | some d => rw [hd] at this; exact getD_put (fun e => by rw [e] at this; simp at this)
        · have hip : i ≠ p := fun e => by
            subst e
            rw [Array.getElem?_setIfInBounds, if_pos rfl, if_pos (by omega)] at hf
            exact hf rfl
          rw [Array.getElem?_setIfInBounds, if_neg hip] at hf
          exact htr _ _ _ (hI.exts hf) (hx hip)
        · by_cases hji : j = i
          · subst hji
            cases hd : dst j with
            | none => rw [hd] at hv; exact hv
            | some t =>
              rw [hd] at hv
              simp only
              rw [getD_put_self (by rw [hI.size]; exact (hne j t hj hd).1)]
              exact hv
          · have hlj' : l[j]? = some true := by
              rw [Array.getElem?_setIfInBounds] at hlj
              rw [if_neg (fun e => hji e.symm)] at hlj
              exact hlj
            have h1 : F j w' (match dst j with | some t => a.tmps.getD t undef | none => undef) := by
              by_cases hip : i = p
              · exact hFp j _ _ _ (fun e => hji (e.trans hip.symm)) (hI.at_ j hj hlj') hxp
              · exact hF j _ _ _ (hI.at_ j hj hlj') (hx hip)
            cases hd : dst j with
            | none => rw [hd] at h1; exact h1
            | some t =>
              rw [hd] at h1
              simp only at h1 ⊢
              cases hdi' : dst i with
              | none => exact h1
              | some d => rw [getD_put (fun e => (hne j t hj hd).2 i hin' (fun e => hji e.symm) (by rw [hdi', e]))]; exact h1
  · intro a w hI
    rcases hI with ⟨_, _, hq⟩ | ⟨h, _⟩
    · exact hq
    · rw [Array.getElem?_replicate, if_pos (by omega)] at h; cases h
end Go.Proofs.Ytmeaepmimnmjlaa.RegInv
/- Rows and boxes that a call makes, as9 facts that later steps leave: what a literal reads as9. -/
namespace Go.Proofs.Ytmeaepmimnmjlaa.Lit
open Go.RowKit Go.Proofs.YtmeaepmimnmjlaaW.PrintWords
set_option linter.unusedVariables false
def Sl {α : Type} (d : Kd α) (xs : List α) (w : World) (v : Value) : Prop := ∃ A c, v = .slice A xs.length c ∧ xs.length ≤ c ∧ d.C w A xs.length xs
theorem Sl.below {α : Type} {d : Kd α} {xs : List α} {w w1 : World} {v : Value} (h : Sl d xs w v) (hb : Below w.heap.size w w1) : Sl d xs w1 v := let ⟨A, c, h1, h2, h3⟩ := h; ⟨A, c, h1, h2, Kd.C_below h3 hb⟩
theorem gdq (x : Array Value) (t : Nat) (v : Value) (h : x.getD t undef = v) : x[t]?.getD undef = v := by rw [← h, Array.getD_eq_getD_getElem?]
theorem nil_C {α : Type} {d : Kd α} (w : World) : d.C w none 0 [] := ⟨rfl, by decide, fun h => absurd h (by decide)⟩
theorem e4 (W : World) (o o' : Obj) : Below W.heap.size W ((W.alloc o).alloc o') := below_alloc (below_alloc (Below.refl _ _) o) o'
theorem wB {a b c : World} (h : Below a.heap.size a b) (k : Below b.heap.size b c) : Below a.heap.size a c := below_then h h.size k
end Go.Proofs.Ytmeaepmimnmjlaa.Lit
/- Rows of the call's own, cell by cell: a cell is stored, an element is appended (in place, or in a new block: the old row stays). -/
namespace Go.Proofs.Ytmeaepmimnmjlaa.OwnCells
open Go.RowKit Go.Proofs.YtmeaepmimnmjlaaW.PrintWords
set_option linter.unusedVariables false
/-- the world but for blocks of which S holds, and new ones -/
structure But (S : Nat → Prop) (w w' : World) : Prop where
  os : w'.os = w.os
  tape : w'.tape = w.tape
  output : w'.output = w.output
  size : w.heap.size ≤ w'.heap.size
  block : ∀ k, k < w.heap.size → ¬ S k → w'.heap[k]? = w.heap[k]?
section
variable {S T : Nat → Prop} {w w1 w2 : World}
theorem But.refl (S : Nat → Prop) (w : World) : But S w w := ⟨rfl, rfl, rfl, Nat.le_refl _, fun _ _ _ => rfl⟩
theorem But.trans (h : But S w w1) (k : But T w1 w2) (hT : ∀ b, T b → S b ∨ w.heap.size ≤ b) : But S w w2 :=
  ⟨k.os.trans h.os, k.tape.trans h.tape, k.output.trans h.output, Nat.le_trans h.size k.size, fun b hb hS => (k.block b (Nat.lt_of_lt_of_le hb h.size) (fun ht => (hT b ht).elim hS (fun hle => absurd hb (by omega)))).trans (h.block b hb hS)⟩
theorem But.of_below (h : Below w.heap.size w w1) : But (fun _ => False) w w1 := ⟨h.os, h.tape, h.output, h.size, fun k hk _ => h.block k hk⟩
theorem But.mono (h : But S w w1) (hS : ∀ b, S b → T b) : But T w w1 := ⟨h.os, h.tape, h.output, h.size, fun k hk hn => h.block k hk (fun hs => hn (hS k hs))⟩
theorem But.cell (h : But S w w1) {a : Addr} {v : Value} (hc : w.cell? a = some v) (hn : ¬ S a.block) : w1.cell? a = some v := by
  have hlt := World.block_lt_of_cell? w a hc
  have e := h.block a.block hlt hn
  rw [← hc]
  unfold World.cell?
  rw [e]
theorem But.own {base n size : Nat} {e : TypeId} {v : Value} {xs : List Value} (h : But S w w1) (ho : w.ownsRow base e size v n xs) (hn : ∀ b, v.ownBlock = some b → ¬ S b) : w1.ownsRow base e size v n xs := by
  refine ⟨ho.1, ?_⟩
  rcases ho.2 with h0 | ⟨g, cap, cur, rfl, hb, hg, h1⟩
  · exact .inl h0
  · have hlt : g < w.heap.size := by
      rcases Nat.lt_or_ge g w.heap.size with hlt | hge
      · exact hlt
      · rw [Array.getElem?_eq_none hge] at hg; cases hg
    exact .inr ⟨g, cap, cur, rfl, hb, (h.block g hlt (hn g rfl)).trans hg, h1⟩
end
theorem own_cell {w : World} {base g n cap size : Nat} {e : TypeId} {xs : List Value} (h : w.ownsRow base e size (.slice (some ⟨g, 0, none⟩) n cap) n xs) (j : Nat) (u : Value) (hj : xs[j]? = some u) : w.cell? ⟨g, j, none⟩ = some u ∧ w.frozen? ⟨g, j, none⟩ = false := by
  rcases h.2 with ⟨h0, _⟩ | ⟨g', cap', cur, he, hb, hg, h1, h2, h3, h4⟩
  · cases h0
  · cases he
    refine ⟨?_, by simp [World.frozen?, hg]⟩
    unfold World.cell?
    rw [hg]
    simp only [Option.isSome_none, Bool.false_eq_true, if_false]
    rw [← h4] at hj
    have hlt := (List.getElem?_eq_some_iff.1 hj).1
    rw [List.length_take] at hlt
    rw [List.getElem?_take_of_lt (by omega)] at hj
    simpa using hj
end Go.Proofs.Ytmeaepmimnmjlaa.OwnCells
-- written by a program of this session (leafprint.py) over the translation; Lean checks it
namespace Go.Proofs.Ytmeaepmimnmjlaa.PGb
open Go.RowKit Go.Proofs.YtmeaepmimnmjlaaW.PrintWords Go.Proofs.YtmeaepmimnmjlaaW.PrintLast Go.Proofs.YtmeaepmimnmjlaaW.PrintMore
attribute [local go_sem] max2_int min2_int max_two min_two max_three min_three max_four min_four   -- for this text's walks alone
set_option linter.unusedVariables false
set_option linter.unusedSimpArgs false



def errW : Option Int → Value
  | none => .nilIface
  | some c => .iface 0 (.int .i64 c)
theorem errW_none : errW none = .nilIface := rfl
theorem errW_some (c : Int) : errW (some c) = .iface 0 (.int .i64 c) := rfl

theorem info3 : (Try.prog.info? 3).map (fun i => (i.zero, i.size, i.bytes)) = some (some (.int .i64 0), 1, 8) := by kernel_rfl
theorem info4 : (Try.prog.info? 4).map (fun i => (i.zero, i.size, i.bytes)) = some (some (.bool false), 1, 1) := by kernel_rfl
theorem info26 : (Try.prog.info? 26).map (fun i => (i.zero, i.size, i.bytes)) = some (some (.slice none 0 0), 1, 24) := by kernel_rfl
theorem info40 : (Try.prog.info? 40).map (fun i => (i.zero, i.size, i.bytes)) = some (some (.agg #[(.int .i64 0), (.int .i64 0)]), 2, 16) := by kernel_rfl
theorem info49 : (Try.prog.info? 49).map (fun i => (i.zero, i.size, i.bytes)) = some (some (.agg #[(.int .i64 0), (.int .i64 0), (.int .i64 0), (.int .i64 0)]), 4, 32) := by kernel_rfl
-- the values' own types
/-! #### struct type 40 -/
structure S40 where
  f0 : Int
  f1 : Int
def z40 : S40 := ⟨(0 : Int), (0 : Int)⟩
def k40 : Kd S40 := Kd.iso (Kd.pair (Kd.int .i64) (Kd.int .i64)) (fun x : S40 => (x.f0, x.f1))
theorem k40_open {w : World} {x : S40} {cs : List Value} (h : k40.K w x cs) : cs = [.int .i64 x.f0, .int .i64 x.f1] := by
  obtain ⟨_, _, rfl, rfl, rfl⟩ := h
  exact rfl
theorem k40_mk (w : World) (x : S40)  : k40.K w x [.int .i64 x.f0, .int .i64 x.f1] := ⟨[.int .i64 x.f0], [.int .i64 x.f1], rfl, rfl, rfl⟩
theorem k40_mkM (w : World) (base : Nat) (ok : Nat → Prop) (x : S40)  : k40.M w base ok x [.int .i64 x.f0, .int .i64 x.f1] := ⟨[.int .i64 x.f0], [.int .i64 x.f1], rfl, rfl, rfl⟩
def rd_T40 (xs : List S40) (i : Int) : S40 := xs.getD i.toNat z40
theorem at_T40 {w : World} {A : Option Addr} {n : Nat} {xs : List S40} (h : Kd.C k40 w A n xs) (i : Int) (h0 : 0 ≤ i) (h1 : i < n) : ∃ ad , A = some ad ∧ w.cell? (ad.add (i.toNat * 2)) = some (.int .i64 (rd_T40 xs i).f0) ∧ w.cell? ⟨(ad.add (i.toNat * 2)).block, (ad.add (i.toNat * 2)).off + 1, none⟩ = some (.int .i64 (rd_T40 xs i).f1) := by
  obtain ⟨ad, c, e, _, hK, hc0⟩ := Kd.C_get h z40 i h0 h1
  have hc : ∀ j u, c[j]? = some u → w.cell? (ad.add (i.toNat * 2 + j)) = some u := hc0
  obtain rfl := k40_open hK
  exact ⟨ad, e, hc 0 _ rfl, by rw [← add_field _ _ 1 (by omega)]; exact hc 1 _ rfl⟩

/-! #### struct type 49 -/
structure S49 where
  f0 : Int
  f1 : Int
  f2 : Int
  f3 : Int
def z49 : S49 := ⟨(0 : Int), (0 : Int), (0 : Int), (0 : Int)⟩
def k49 : Kd S49 := Kd.iso (Kd.pair (Kd.int .i64) (Kd.pair (Kd.int .i64) (Kd.pair (Kd.int .i64) (Kd.int .i64)))) (fun x : S49 => (x.f0, x.f1, x.f2, x.f3))
theorem k49_open {w : World} {x : S49} {cs : List Value} (h : k49.K w x cs) : cs = [.int .i64 x.f0, .int .i64 x.f1, .int .i64 x.f2, .int .i64 x.f3] := by
  obtain ⟨_, _, rfl, rfl, ⟨_, _, rfl, rfl, ⟨_, _, rfl, rfl, rfl⟩⟩⟩ := h
  exact rfl
theorem k49_mk (w : World) (x : S49)  : k49.K w x [.int .i64 x.f0, .int .i64 x.f1, .int .i64 x.f2, .int .i64 x.f3] := ⟨[.int .i64 x.f0], [.int .i64 x.f1, .int .i64 x.f2, .int .i64 x.f3], rfl, rfl, ⟨[.int .i64 x.f1], [.int .i64 x.f2, .int .i64 x.f3], rfl, rfl, ⟨[.int .i64 x.f2], [.int .i64 x.f3], rfl, rfl, rfl⟩⟩⟩
theorem k49_mkM (w : World) (base : Nat) (ok : Nat → Prop) (x : S49)  : k49.M w base ok x [.int .i64 x.f0, .int .i64 x.f1, .int .i64 x.f2, .int .i64 x.f3] := ⟨[.int .i64 x.f0], [.int .i64 x.f1, .int .i64 x.f2, .int .i64 x.f3], rfl, rfl, ⟨[.int .i64 x.f1], [.int .i64 x.f2, .int .i64 x.f3], rfl, rfl, ⟨[.int .i64 x.f2], [.int .i64 x.f3], rfl, rfl, rfl⟩⟩⟩
def rd_T49 (xs : List S49) (i : Int) : S49 := xs.getD i.toNat z49
theorem at_T49 {w : World} {A : Option Addr} {n : Nat} {xs : List S49} (h : Kd.C k49 w A n xs) (i : Int) (h0 : 0 ≤ i) (h1 : i < n) : ∃ ad , A = some ad ∧ w.cell? (ad.add (i.toNat * 4)) = some (.int .i64 (rd_T49 xs i).f0) ∧ w.cell? ⟨(ad.add (i.toNat * 4)).block, (ad.add (i.toNat * 4)).off + 1, none⟩ = some (.int .i64 (rd_T49 xs i).f1) ∧ w.cell? ⟨(ad.add (i.toNat * 4)).block, (ad.add (i.toNat * 4)).off + 2, none⟩ = some (.int .i64 (rd_T49 xs i).f2) ∧ w.cell? ⟨(ad.add (i.toNat * 4)).block, (ad.add (i.toNat * 4)).off + 3, none⟩ = some (.int .i64 (rd_T49 xs i).f3) := by
  obtain ⟨ad, c, e, _, hK, hc0⟩ := Kd.C_get h z49 i h0 h1
  have hc : ∀ j u, c[j]? = some u → w.cell? (ad.add (i.toNat * 4 + j)) = some u := hc0
  obtain rfl := k49_open hK
  exact ⟨ad, e, hc 0 _ rfl, by rw [← add_field _ _ 1 (by omega)]; exact hc 1 _ rfl, by rw [← add_field _ _ 2 (by omega)]; exact hc 2 _ rfl, by rw [← add_field _ _ 3 (by omega)]; exact hc 3 _ rfl⟩

def rd_L3 (xs : List (List Int)) (i : Int) : (List Int) := xs.getD i.toNat ([] : List Int)
theorem at_L3 {w : World} {A : Option Addr} {n : Nat} {xs : List (List Int)} (h : Kd.C (Kd.slice 3 (Kd.int .i64)) w A n xs) (i : Int) (h0 : 0 ≤ i) (h1 : i < n) : ∃ ad A0 c0, A = some ad ∧ w.cell? (ad.add i.toNat) = some (.slice A0 (rd_L3 xs i).length c0) ∧ (rd_L3 xs i).length ≤ c0 ∧ (Kd.int .i64).C w A0 (rd_L3 xs i).length (rd_L3 xs i) := by
  obtain ⟨ad, c, e, _, hK, hc0⟩ := Kd.C_get h ([] : List Int) i h0 h1
  have hc : ∀ j u, c[j]? = some u → w.cell? (ad.add (i.toNat * 1 + j)) = some u := hc0
  obtain ⟨A0, c0, rfl, l0, g0⟩ := hK
  exact ⟨ad, A0, c0, e, by have hq := hc 0 _ rfl; rwa [Nat.mul_one, Nat.add_zero] at hq, l0, g0⟩

def rd_L5 (xs : List (List Bool)) (i : Int) : (List Bool) := xs.getD i.toNat ([] : List Bool)
def rd_L6 (xs : List (List (List Int))) (i : Int) : (List (List Int)) := xs.getD i.toNat ([] : List (List Int))
/-! #### struct type 29 -/
structure S29 where
  f0 : (List Int)
  f1 : (List (List Int))
  f2 : (List Int)
  f3 : (List Int)
  f4 : (List Int)
def z29 : S29 := ⟨([] : List Int), ([] : List (List Int)), ([] : List Int), ([] : List Int), ([] : List Int)⟩
def k29 : Kd S29 := Kd.iso (Kd.pair (Kd.slice 3 (Kd.int .i64)) (Kd.pair (Kd.slice 26 (Kd.slice 3 (Kd.int .i64))) (Kd.pair (Kd.slice 3 (Kd.int .i64)) (Kd.pair (Kd.slice 3 (Kd.int .i64)) (Kd.slice 3 (Kd.int .i64)))))) (fun x : S29 => (x.f0, x.f1, x.f2, x.f3, x.f4))
def rd_T29 (xs : List S29) (i : Int) : S29 := xs.getD i.toNat z29
end Go.Proofs.Ytmeaepmimnmjlaa.PGb
-- written by a program of this session (leafprint.py) over the translation; Lean checks it
namespace Go.Proofs.Ytmeaepmimnmjlaa.PGb
open Go.RowKit Go.Proofs.YtmeaepmimnmjlaaW.PrintWords Go.Proofs.YtmeaepmimnmjlaaW.PrintLast Go.Proofs.YtmeaepmimnmjlaaW.PrintMore
attribute [local go_sem] max2_int min2_int max_two min_two max_three min_three max_four min_four   -- for this text's walks alone
set_option linter.unusedVariables false
set_option linter.unusedSimpArgs false

end Go.Proofs.Ytmeaepmimnmjlaa.PGb
/- Shelf Range Iter Iter2 Back Help Dfs DomT RangeX Meet Block Domin -/
/-
  DERIVED: THE SHELF's CONTRACTS AT THIS DUMP, IN PLAIN WORDS (tools/lay-plain.mjs out of 'TryShelf.lean', which tools/lay-shelf.mjs wrote): THE SAME DECLARATIONS UNDER THE SAME NAMES: 'import', 'namespace', 'open', 'def', 'theorem' AND NOTHING ELSE: no command of the shelf's: FOR A HAND-IN. Each laying: the table of numbers ('.._ren') and one theorem, a field a fact of the dump's own or the kernel's comparison; each contract: ONE APPLICATION.
-/
namespace Go.Proofs
open Go.Shelf
def Try.lays128_ren : Go.Shelf.Ren := ⟨fun | 128 => 80 | n => n, fun | 51 => 103 | 3 => 3 | 4 => 4 | 46 => 93 | 5 => 5 | 9 => 9 | n => n, fun | n => n⟩
def Try.lays125_ren : Go.Shelf.Ren := ⟨fun | 125 => 70 | 128 => 80 | 129 => 81 | n => n, fun | 46 => 93 | 3 => 3 | 51 => 103 | 53 => 105 | 4 => 4 | 5 => 5 | 9 => 9 | n => n, fun | n => n⟩
def Try.lays129_ren : Go.Shelf.Ren := ⟨fun | 129 => 81 | n => n, fun | 53 => 105 | 3 => 3 | 4 => 4 | 46 => 93 | 5 => 5 | 9 => 9 | n => n, fun | n => n⟩
def Try.lays189_ren : Go.Shelf.Ren := ⟨fun | 189 => 63 | 125 => 70 | 257 => 69 | 128 => 80 | 129 => 81 | 294 => 71 | 295 => 72 | 296 => 73 | 297 => 74 | 298 => 75 | 299 => 76 | 216 => 77 | 300 => 78 | 301 => 79 | 328 => 82 | 329 => 83 | 330 => 84 | 331 => 85 | 332 => 86 | 215 => 87 | 343 => 88 | n => n, fun | 28 => 26 | 3 => 3 | 46 => 93 | 0 => 0 | 51 => 103 | 53 => 105 | 4 => 4 | 183 => 96 | 182 => 95 | 131 => 100 | 5 => 5 | 9 => 9 | 218 => 106 | 222 => 110 | 228 => 112 | 229 => 113 | n => n, fun | n => n⟩
theorem Try.lays189 : Go.Proofs.Lays.n189 Try.prog Try.lays189_ren := {
  mixed := by kernel_rfl
  f125 := Try.func70.trans (congrArg some (by kernel_rfl))
  f128 := Try.func80.trans (congrArg some (by kernel_rfl))
  f129 := Try.func81.trans (congrArg some (by kernel_rfl))
  f189 := Try.func63.trans (congrArg some (by kernel_rfl))
  f215 := Try.func87.trans (congrArg some (by kernel_rfl))
  f216 := Try.func77.trans (congrArg some (by kernel_rfl))
  f257 := Try.func69.trans (congrArg some (by kernel_rfl))
  f294 := Try.func71.trans (congrArg some (by kernel_rfl))
  f295 := Try.func72.trans (congrArg some (by kernel_rfl))
  f296 := Try.func73.trans (congrArg some (by kernel_rfl))
  f297 := Try.func74.trans (congrArg some (by kernel_rfl))
  f298 := Try.func75.trans (congrArg some (by kernel_rfl))
  f299 := Try.func76.trans (congrArg some (by kernel_rfl))
  f300 := Try.func78.trans (congrArg some (by kernel_rfl))
  f301 := Try.func79.trans (congrArg some (by kernel_rfl))
  f328 := Try.func82.trans (congrArg some (by kernel_rfl))
  f329 := Try.func83.trans (congrArg some (by kernel_rfl))
  f330 := Try.func84.trans (congrArg some (by kernel_rfl))
  f331 := Try.func85.trans (congrArg some (by kernel_rfl))
  f332 := Try.func86.trans (congrArg some (by kernel_rfl))
  f343 := Try.func88.trans (congrArg some (by kernel_rfl))
  t0 := Try.underlying0
  a0 := Try.isAgg0
  z0 := Try.sizeOf0
  v0 := Try.zeroValue0
  t3 := Try.underlying3
  a3 := Try.isAgg3
  z3 := Try.sizeOf3
  v3 := Try.zeroValue3
  t4 := Try.underlying4
  a4 := Try.isAgg4
  z4 := Try.sizeOf4
  v4 := Try.zeroValue4
  t5 := Try.underlying5
  a5 := Try.isAgg5
  z5 := Try.sizeOf5
  v5 := Try.zeroValue5
  t9 := Try.underlying9
  a9 := Try.isAgg9
  z9 := Try.sizeOf9
  v9 := Try.zeroValue9
  t28 := Try.underlying26
  a28 := Try.isAgg26
  z28 := Try.sizeOf26
  v28 := Try.zeroValue26
  t46 := Try.underlying93
  a46 := Try.isAgg93
  z46 := Try.sizeOf93
  v46 := Try.zeroValue93
  t51 := Try.underlying103
  a51 := Try.isAgg103
  z51 := Try.sizeOf103
  v51 := Try.zeroValue103
  t53 := Try.underlying105
  a53 := Try.isAgg105
  z53 := Try.sizeOf105
  v53 := Try.zeroValue105
  t131 := Try.underlying100
  a131 := Try.isAgg100
  z131 := Try.sizeOf100
  v131 := Try.zeroValue100
  t182 := Try.underlying95
  a182 := Try.isAgg95
  z182 := Try.sizeOf95
  v182 := Try.zeroValue95
  t183 := Try.underlying96
  a183 := Try.isAgg96
  z183 := Try.sizeOf96
  v183 := Try.zeroValue96
  t218 := Try.underlying106
  a218 := Try.isAgg106
  z218 := Try.sizeOf106
  v218 := Try.zeroValue106
  t222 := Try.underlying110
  a222 := Try.isAgg110
  z222 := Try.sizeOf110
  v222 := Try.zeroValue110
  t228 := Try.underlying112
  a228 := Try.isAgg112
  z228 := Try.sizeOf112
  v228 := Try.zeroValue112
  t229 := Try.underlying113
  a229 := Try.isAgg113
  z229 := Try.sizeOf113
  v229 := Try.zeroValue113 }
open Go.Sort Go.RowKit in
theorem Try.slices_Sort_int (blk off cap : Nat) (zs : List Int) (w : World) (hH : Holds (Value.int .i64) w blk off zs.toArray) (hblk : blk < w.heap.size) (hsz : zs.length < 4611686018427387904) :
    Calls Try.prog 63 #[.slice (some ⟨blk, off, none⟩) zs.length cap] w fun e w' =>
      e = .returned (.tuple #[]) ∧ ∃ n os, w' = grow (putRow (Value.int .i64) (Sort.ahead w n) blk off (zs.mergeSort fun x y => decide (x ≤ y)).toArray) os := Any.slices_Sort_int Try.lays189 blk off cap zs w hH hblk hsz
def Try.laysNm215_ren : Go.Shelf.Ren := ⟨fun | 15 => 64 | n => n, fun | 22 => 26 | 3 => 3 | 4 => 4 | n => n, fun | n => n⟩
theorem Try.laysNm215 : Go.Proofs.Lays2.n15 Try.prog Try.laysNm215_ren := {
  mixed := by kernel_rfl
  f15 := Try.func64.trans (congrArg some (by kernel_rfl))
  t3 := Try.underlying3
  a3 := Try.isAgg3
  z3 := Try.sizeOf3
  v3 := Try.zeroValue3
  t4 := Try.underlying4
  a4 := Try.isAgg4
  z4 := Try.sizeOf4
  v4 := Try.zeroValue4
  t22 := Try.underlying26
  a22 := Try.isAgg26
  z22 := Try.sizeOf26
  v22 := Try.zeroValue26
  i3 := by kernel_rfl }
open Go.RowKit Go.Lib in
/-- slices.Clone at []int: "Clone returns a copy of the slice. The elements are copied using assignment, so this is a shallow clone. The result may have additional unused capacity. The result preserves the nilness of s.": OF A SLICE THAT IS NOT nil IT RETURNS A SLICE THAT IS NOT nil, OF THE SAME ELEMENTS, IN MEMORY OF THE CALL's OWN: in the how-to's words (6f): 'w'.ownsRow B e 1 v' n cells': v' begins at the head of a row among the blocks from B on (B: the heap's size at the call), not frozen, whose first cells are the elements · 'Below B w w'': below B all is as it was. The capacity is whatever the run-time gives. 'zs': what the cells behind the slice's address hold; 'zs.take n': its elements. (LAID: no walk: one application.) -/
theorem Try.slices_Clone_int (b off n c : Nat) (zs : List Int) (w : World) (hz : n ≤ zs.length) (hbig : n * 8 ≤ 140737488355328) (hc : ∀ j, j < zs.length → w.cell? ⟨b, off + j, none⟩ = some (.int .i64 (zs.getD j 0))) :
    Calls Try.prog 64 #[.slice (some ⟨b, off, none⟩) n c] w fun e w' => ∃ v', e = .returned v' ∧ w'.ownsRow w.heap.size 3 1 v' n ((zs.take n).map (Value.int .i64)) ∧ v' ≠ .slice none 0 0 ∧ Below w.heap.size w w' := Any.slices_Clone_int Try.laysNm215 b off n c zs w hz hbig hc
open Go.RowKit Go.Lib in
/-- The same at nil: nil comes back; the world is as it was. (LAID: no walk: one application.) -/
theorem Try.slices_Clone_int_nil (n c : Nat) (w : World) :
    Calls Try.prog 64 #[.slice none n c] w fun e w' => e = .returned (.slice none 0 0) ∧ w' = w := Any.slices_Clone_int_nil Try.laysNm215 n c w
def Try.laysNm220_ren : Go.Shelf.Ren := ⟨fun | 20 => 65 | n => n, fun | 22 => 26 | 3 => 3 | 4 => 4 | 0 => 0 | n => n, fun | n => n⟩
theorem Try.laysNm220 : Go.Proofs.Lays2.n20 Try.prog Try.laysNm220_ren := {
  mixed := by kernel_rfl
  f20 := Try.func65.trans (congrArg some (by kernel_rfl))
  t0 := Try.underlying0
  a0 := Try.isAgg0
  z0 := Try.sizeOf0
  v0 := Try.zeroValue0
  t3 := Try.underlying3
  a3 := Try.isAgg3
  z3 := Try.sizeOf3
  v3 := Try.zeroValue3
  t4 := Try.underlying4
  a4 := Try.isAgg4
  z4 := Try.sizeOf4
  v4 := Try.zeroValue4
  t22 := Try.underlying26
  a22 := Try.isAgg26
  z22 := Try.sizeOf26
  v22 := Try.zeroValue26
  i3 := by kernel_rfl }
open Go.RowKit Go.Lib Go.Sort in
/-- slices.Compact at []int: "Compact replaces consecutive runs of equal elements with a single copy. This is like the uniq command found on Unix. Compact modifies the contents of the slice s and returns the modified slice, which may have a smaller length. Compact zeroes the elements between the new length and the original length. The result preserves the nilness of s.": IT RETURNS THE SLICE CUT TO 'Lib.compact zs'; ITS CELLS HOLD 'Lib.compact zs', THEN ZERO VALUES up to the old length; all else is as it was, but for the count of draws. IN THE WORDS OF slices.Sort's CONTRACT ('Holds', 'putRow'): so the everyday 'slices.Sort(xs); xs = slices.Compact(xs)' goes from the one contract to the other. It asks 'zs.length ≤ cap' (every slice's: the reslicing 's[:k]' looks at it). Length 0, nil: '.._empty'. (LAID: no walk: one application.) -/
theorem Try.slices_Compact_int (blk off cap : Nat) (zs : List Int) (w : World) (hH : Holds (Value.int .i64) w blk off zs.toArray) (hsz : zs.length ≤ 9223372036854775807) (hcap : zs.length ≤ cap) :
    Calls Try.prog 65 #[.slice (some ⟨blk, off, none⟩) zs.length cap] w fun e w' => e = .returned (.slice (some ⟨blk, off, none⟩) (Lib.compact zs).length cap) ∧ ∃ q, w' = putRow (Value.int .i64) (Sort.ahead w q) blk off (Lib.compact zs ++ List.replicate (zs.length - (Lib.compact zs).length) 0).toArray := Any.slices_Compact_int Try.laysNm220 blk off cap zs w hH hsz hcap
open Go.RowKit Go.Lib Go.Sort in
/-- The same at a slice of length 0, a nil one too: it comes back as it is. (LAID: no walk: one application.) -/
theorem Try.slices_Compact_int_empty (a : Option Addr) (cap : Nat) (w : World) :
    Calls Try.prog 65 #[.slice a 0 cap] w fun e w' => e = .returned (.slice a 0 cap) ∧ w' = w := Any.slices_Compact_int_empty Try.laysNm220 a cap w
def Try.laysNm237_ren : Go.Shelf.Ren := ⟨fun | 37 => 87 | n => n, fun | 3 => 3 | 4 => 4 | n => n, fun | n => n⟩
def Try.laysNm231_ren : Go.Shelf.Ren := ⟨fun | 31 => 77 | 37 => 87 | n => n, fun | 3 => 3 | 4 => 4 | n => n, fun | n => n⟩
open Go.RowKit Go.Sort in
/-- .. and plain. (LAID: no walk: one application.) -/
theorem Try.slices_Sort_int_none (p : Option Addr) (cap : Nat) (w : World) :
    Calls Try.prog 63 #[.slice p 0 cap] w fun e w' => e = .returned (.tuple #[]) ∧ w' = w := Any.slices_Sort_int_none Try.lays189 p cap w
def Try.laysSlE041_f64_ren : Go.Shelf.Ren := ⟨fun | 41 => 64 | n => n, fun | 22 => 26 | 23 => 3 | 4 => 4 | n => n, fun | n => n⟩
end Go.Proofs
/- A range over a function of whole numbers whose variable is a slot: the round's frame is told outright. Outside of a round and within one. -/
namespace Go.Proofs.Ytmeaepmimnmjlaa.Range
open Go.RowKit
set_option linter.unusedVariables false
/-- the variable's slot is filled -/
theorem assign_in {F : Fence} {n : Nat} {P : Program} {id p q : Nat} {t : TypeId} {pos : String} {ts : Array Value} {v : Value} {W : World} {K : Act → World → Prop} (hp : p < ts.size) (h : K { tmps := (ts.setIfInBounds p v).setIfInBounds q v, defers := [] } W) :
    (Code.region id #[{ dst := some q, op := .assign (.tmp p), type := t, pos := pos, after := #[], guard := none }] false).wpIn F n P (Exit.then K (fun _ _ _ => False)) { tmps := (#[p].zip #[v]).foldl (fun t (p, v) => t.setIfInBounds p v) ts, defers := [] } W := by
  refine wpIn_region_list (wpListIn_plain rfl fun K' hK' => BigFrame.wpIn_assign (.tmp p) rfl (hK' _ _ (wpListIn_nil ?_)))
  have e : (Act.mk ((#[p].zip #[v]).foldl (fun t (p, v) => t.setIfInBounds p v) ts) []).eval (.tmp p) = v := by
    show ((#[p].zip #[v]).foldl (fun t (p, v) => t.setIfInBounds p v) ts).getD p undef = v
    simp [Array.getD_eq_getD_getElem?, hp]
  rw [e]
  show K _ W
  have e2 : (Act.mk ((#[p].zip #[v]).foldl (fun t (p, v) => t.setIfInBounds p v) ts) []).put (some q) v = { tmps := (ts.setIfInBounds p v).setIfInBounds q v, defers := [] } := by
    simp [Act.put]
  exact e2 ▸ h
/-- a range that is no part of a round -/
theorem rangeH {F : Fence} {n : Nat} {P : Program} {g : Operand} {p q id : Nat} {t : TypeId} {pos : String} {body : Code} {Q : Exit → Act → World → Prop} {a : Act} {w : World} (n₀ : Nat)
    (hro : F.round = none) (h1 : 1 ≤ n) {gf : Nat} {lb : Array Value} (hg : a.eval g = .func (.func gf) #[] lb) (hFg : F.fn gf) (eg : ∀ args w, (callFunc gf args).run P w = .ok (.enter gf args) w) (hp : p < a.tmps.size)
    {S Sp : List Int → Prop} {N : Nat} {w0 : World} (hseq : SeqStopsK F (n - 1) P gf lb (fun x : Int => #[Value.int .i64 x]) (Below n₀) S Sp N w0)
    (hn₀ : n₀ ≤ w.heap.size) (hb0 : Below w0.heap.size w0 w)
    (I : List Int → World → Prop) (Ix : Code → List Int → World → Prop) (hI : OwnFrom w.heap.size I) (hIx : ∀ c, OwnFrom w.heap.size (Ix c)) (h0 : I [] w)
    (hbody : ∀ (l : Nat) (pre : List Int) (x : Int) (W : World), w.heap.size ≤ l → (∃ r, W.heap[l]? = some (.loop r)) → I pre W → pre.length < N →
      body.wpIn (F.inRound l) (n - 1 - 1) P (ownPostG w.heap.size (Below n₀) I Ix (pre ++ [x]) W) { tmps := (a.tmps.setIfInBounds p (.int .i64 x)).setIfInBounds q (.int .i64 x), defers := [] } W)
    (hdone : ∀ (D : Nat) (xs : List Int) (W : World), w.heap.size ≤ D → S xs → I xs W → W.heap[D]? = some (.deferred (some [])) → Q .normal { a with defers := { target := .collected D, args := #[] } :: a.defers } W)
    (hstop : ∀ (D : Nat) (c : Code) (pre : List Int) (W : World), w.heap.size ≤ D → Sp pre → Ix c pre W → W.heap[D]? = some (.deferred (some [])) → c.wpIn F n P Q { a with defers := { target := .collected D, args := #[] } :: a.defers } W) :
    (Code.rangeFunc g #[p] (Code.region id #[{ dst := some q, op := .assign (.tmp p), type := t, pos := pos, after := #[], guard := none }] false) body).wpIn F n P Q a w :=
  wpIn_rangeFunc_ownH hro h1 hg hFg eg hseq belowK_t (belowK_b hn₀) hb0 (fun _ => rfl) I Ix hI hIx h0
    (fun x a' _ => a' = { tmps := (a.tmps.setIfInBounds p (.int .i64 x)).setIfInBounds q (.int .i64 x), defers := [] }) (fun _ _ _ _ _ _ hs _ _ => hs)
    (fun l pre x W K hi hK => assign_in hp (hK _ W (KeepsFrom.refl _ _) (Below.refl _ _) hi rfl))
    (fun l pre x a' W hl hr hi e hN => by subst e; exact hbody l pre x W hl hr hi hN) hdone hstop
/-- a range that is no part of a round; what its body keeps is the caller's choice -/
theorem rangeHK {F : Fence} {n : Nat} {P : Program} {g : Operand} {p q id : Nat} {t : TypeId} {pos : String} {body : Code} {Q : Exit → Act → World → Prop} {a : Act} {w : World} (Kp : World → World → Prop) (hKt : ∀ {A B C : World}, Kp A B → Kp B C → Kp A C) (hKr : ∀ W, Kp W W)
    (hro : F.round = none) (h1 : 1 ≤ n) {gf : Nat} {lb : Array Value} (hg : a.eval g = .func (.func gf) #[] lb) (hFg : F.fn gf) (eg : ∀ args w, (callFunc gf args).run P w = .ok (.enter gf args) w) (hp : p < a.tmps.size)
    {S Sp : List Int → Prop} {N : Nat} {w0 : World} (hseq : SeqStopsK F (n - 1) P gf lb (fun x : Int => #[Value.int .i64 x]) Kp S Sp N w0)
    (hKb : ∀ (W : World) (l : Nat) (o o' : Obj), w.heap.size ≤ l → W.heap[l]? = some o → o.isCells = false → o.isWalk = false → Kp W (W.putObj l o')) (hb0 : Below w0.heap.size w0 w)
    (I : List Int → World → Prop) (Ix : Code → List Int → World → Prop) (hI : OwnFrom w.heap.size I) (hIx : ∀ c, OwnFrom w.heap.size (Ix c)) (h0 : I [] w)
    (hbody : ∀ (l : Nat) (pre : List Int) (x : Int) (W : World), w.heap.size ≤ l → (∃ r, W.heap[l]? = some (.loop r)) → I pre W → pre.length < N →
      body.wpIn (F.inRound l) (n - 1 - 1) P (ownPostG w.heap.size Kp I Ix (pre ++ [x]) W) { tmps := (a.tmps.setIfInBounds p (.int .i64 x)).setIfInBounds q (.int .i64 x), defers := [] } W)
    (hdone : ∀ (D : Nat) (xs : List Int) (W : World), w.heap.size ≤ D → S xs → I xs W → W.heap[D]? = some (.deferred (some [])) → Q .normal { a with defers := { target := .collected D, args := #[] } :: a.defers } W)
    (hstop : ∀ (D : Nat) (c : Code) (pre : List Int) (W : World), w.heap.size ≤ D → Sp pre → Ix c pre W → W.heap[D]? = some (.deferred (some [])) → c.wpIn F n P Q { a with defers := { target := .collected D, args := #[] } :: a.defers } W) :
    (Code.rangeFunc g #[p] (Code.region id #[{ dst := some q, op := .assign (.tmp p), type := t, pos := pos, after := #[], guard := none }] false) body).wpIn F n P Q a w :=
  wpIn_rangeFunc_ownH hro h1 hg hFg eg hseq hKt hKb hb0 (fun _ => rfl) I Ix hI hIx h0
    (fun x a' _ => a' = { tmps := (a.tmps.setIfInBounds p (.int .i64 x)).setIfInBounds q (.int .i64 x), defers := [] }) (fun _ _ _ _ _ _ hs _ _ => hs)
    (fun l pre x W K hi hK => assign_in hp (hK _ W (KeepsFrom.refl _ _) (hKr _) hi rfl))
    (fun l pre x a' W hl hr hi e hN => by subst e; exact hbody l pre x W hl hr hi hN) hdone hstop
/-- a range within a round -/
theorem rangeN {F : Fence} {n : Nat} {P : Program} {g : Operand} {p q id : Nat} {t : TypeId} {pos : String} {body : Code} {Q : Exit → Act → World → Prop} {a : Act} {w : World} (n₀ : Nat)
    {l₀ : Nat} {r₀ : Loop} (hro : F.round = some l₀) (hl₀ : w.heap[l₀]? = some (.loop r₀)) (h1 : 1 ≤ n) {gf : Nat} {lb : Array Value} (hg : a.eval g = .func (.func gf) #[] lb) (hFg : F.fn gf) (eg : ∀ args w, (callFunc gf args).run P w = .ok (.enter gf args) w) (hp : p < a.tmps.size)
    {S Sp : List Int → Prop} {N : Nat} {w0 : World} (hseq : SeqStopsK F (n - 1) P gf lb (fun x : Int => #[Value.int .i64 x]) (Below n₀) S Sp N w0)
    (hn₀ : n₀ ≤ w.heap.size) (hb0 : Below w0.heap.size w0 w)
    (I : List Int → World → Prop) (Ix : Code → List Int → World → Prop) (hI : OwnFrom w.heap.size I) (hIx : ∀ c, OwnFrom w.heap.size (Ix c)) (h0 : I [] w)
    (hbody : ∀ (l : Nat) (pre : List Int) (x : Int) (W : World), w.heap.size ≤ l → (∃ r, W.heap[l]? = some (.loop r)) → I pre W → pre.length < N →
      body.wpIn (F.inRound l) (n - 1 - 1) P (ownPostG w.heap.size (Below n₀) I Ix (pre ++ [x]) W) { tmps := (a.tmps.setIfInBounds p (.int .i64 x)).setIfInBounds q (.int .i64 x), defers := [] } W)
    (hdone : ∀ (xs : List Int) (W : World), S xs → I xs W → Q .normal a W)
    (hstop : ∀ (c : Code) (pre : List Int) (W : World), Sp pre → Ix c pre W → c.wpIn F n P Q a W) :
    (Code.rangeFunc g #[p] (Code.region id #[{ dst := some q, op := .assign (.tmp p), type := t, pos := pos, after := #[], guard := none }] false) body).wpIn F n P Q a w :=
  wpIn_rangeFunc_ownN hro hl₀ h1 hg hFg eg hseq belowK_t (belowK_b hn₀) hb0 (fun _ => rfl) I Ix hI hIx h0
    (fun x a' _ => a' = { tmps := (a.tmps.setIfInBounds p (.int .i64 x)).setIfInBounds q (.int .i64 x), defers := [] }) (fun _ _ _ _ _ _ hs _ _ => hs)
    (fun l pre x W K hi hK => assign_in hp (hK _ W (KeepsFrom.refl _ _) (Below.refl _ _) hi rfl))
    (fun l pre x a' W hl hr hi e hN => by subst e; exact hbody l pre x W hl hr hi hN) hdone hstop
/-! ### two variables -/
theorem assign2_in {F : Fence} {n : Nat} {P : Program} {id id' p q p' q' : Nat} {t t' : TypeId} {pos pos' : String} {ts : Array Value} {v v' : Value} {W : World} {K : Act → World → Prop} (hp : p < ts.size) (hp' : p' < ts.size) (h1 : p ≠ p') (h2 : q ≠ p') (h : K { tmps := (((ts.setIfInBounds p v).setIfInBounds p' v').setIfInBounds q v).setIfInBounds q' v', defers := [] } W) :
    ((Code.region id #[{ dst := some q, op := .assign (.tmp p), type := t, pos := pos, after := #[], guard := none }] false).seq (Code.region id' #[{ dst := some q', op := .assign (.tmp p'), type := t', pos := pos', after := #[], guard := none }] false)).wpIn F n P (Exit.then K (fun _ _ _ => False)) { tmps := (#[p, p'].zip #[v, v']).foldl (fun t (p, v) => t.setIfInBounds p v) ts, defers := [] } W := by
  refine wpIn_seq (wpIn_region_list (wpListIn_plain rfl fun K' hK' => BigFrame.wpIn_assign (.tmp p) rfl (hK' _ _ (wpListIn_nil ?_))))
  show Code.wpIn F n P _ _ _ W
  refine wpIn_region_list (wpListIn_plain rfl fun K' hK' => BigFrame.wpIn_assign (.tmp p') rfl (hK' _ _ (wpListIn_nil ?_)))
  have e : (Act.mk ((#[p, p'].zip #[v, v']).foldl (fun t (p, v) => t.setIfInBounds p v) ts) []).eval (.tmp p) = v := by
    show ((#[p, p'].zip #[v, v']).foldl (fun t (p, v) => t.setIfInBounds p v) ts).getD p undef = v
    simp [Array.getD_eq_getD_getElem?, hp, Ne.symm h1]
  rw [e]
  have e2 : (Act.mk ((#[p, p'].zip #[v, v']).foldl (fun t (p, v) => t.setIfInBounds p v) ts) []).put (some q) v = { tmps := ((ts.setIfInBounds p v).setIfInBounds p' v').setIfInBounds q v, defers := [] } := by
    simp [Act.put]
  rw [e2]
  have e3 : (Act.mk (((ts.setIfInBounds p v).setIfInBounds p' v').setIfInBounds q v) []).eval (.tmp p') = v' := by
    show (((ts.setIfInBounds p v).setIfInBounds p' v').setIfInBounds q v).getD p' undef = v'
    simp [Array.getD_eq_getD_getElem?, hp', h2]
  rw [e3]
  show K _ W
  exact h
/-- a range over pairs of whole numbers that is no part of a round, within its block -/
theorem range2HB {F : Fence} {n : Nat} {P : Program} {g : Operand} {p q p' q' id id' : Nat} {t t' : TypeId} {pos pos' : String} {body : Code} {Q : Exit → Act → World → Prop} {a : Act} {w : World} (n₀ : Nat)
    (hro : F.round = none) (h1 : 1 ≤ n) {gf : Nat} {lb : Array Value} (hg : a.eval g = .func (.func gf) #[] lb) (hFg : F.fn gf) (eg : ∀ args w, (callFunc gf args).run P w = .ok (.enter gf args) w) (hp : p < a.tmps.size) (hp' : p' < a.tmps.size) (hpp : p ≠ p') (hqp : q ≠ p')
    {S Sp : List (Int × Int) → Prop} {N : Nat} {w0 : World} (hseq : SeqStopsK F (n - 1) P gf lb (fun x : Int × Int => #[Value.int .i64 x.1, Value.int .i64 x.2]) (Below n₀) S Sp N w0)
    (hn₀ : n₀ ≤ w.heap.size) (hb0 : Below w0.heap.size w0 w)
    (I : List (Int × Int) → World → Prop) (Ix : Code → List (Int × Int) → World → Prop) (hI : OwnFrom w.heap.size I) (hIx : ∀ c, OwnFrom w.heap.size (Ix c)) (h0 : I [] w)
    (hbody : ∀ (l : Nat) (pre : List (Int × Int)) (x : Int × Int) (W : World), w.heap.size ≤ l → (∃ r, W.heap[l]? = some (.loop r)) → I pre W → pre.length < N →
      body.wpIn (F.inRound l) (n - 1 - 1) P (ownPostG w.heap.size (Below n₀) I Ix (pre ++ [x]) W) { tmps := (((a.tmps.setIfInBounds p (.int .i64 x.1)).setIfInBounds p' (.int .i64 x.2)).setIfInBounds q (.int .i64 x.1)).setIfInBounds q' (.int .i64 x.2), defers := [] } W)
    (hdone : ∀ (D : Nat) (xs : List (Int × Int)) (W : World), w.heap.size ≤ D → S xs → I xs W → W.heap[D]? = some (.deferred (some [])) → Q .normal { a with defers := { target := .collected D, args := #[] } :: a.defers } W)
    (hstop : ∀ (D : Nat) (c : Code) (pre : List (Int × Int)) (W : World), w.heap.size ≤ D → Sp pre → Ix c pre W → W.heap[D]? = some (.deferred (some [])) → c.wpIn F n P Q { a with defers := { target := .collected D, args := #[] } :: a.defers } W) :
    (Code.rangeFunc g #[p, p'] ((Code.region id #[{ dst := some q, op := .assign (.tmp p), type := t, pos := pos, after := #[], guard := none }] false).seq (Code.region id' #[{ dst := some q', op := .assign (.tmp p'), type := t', pos := pos', after := #[], guard := none }] false)) body).wpIn F n P Q a w :=
  wpIn_rangeFunc_ownH hro h1 hg hFg eg hseq belowK_t (belowK_b hn₀) hb0 (fun _ => rfl) I Ix hI hIx h0
    (fun x a' _ => a' = { tmps := (((a.tmps.setIfInBounds p (.int .i64 x.1)).setIfInBounds p' (.int .i64 x.2)).setIfInBounds q (.int .i64 x.1)).setIfInBounds q' (.int .i64 x.2), defers := [] }) (fun _ _ _ _ _ _ hs _ _ => hs)
    (fun l pre x W K hi hK => assign2_in hp hp' hpp hqp (hK _ W (KeepsFrom.refl _ _) (Below.refl _ _) hi rfl))
    (fun l pre x a' W hl hr hi e hN => by subst e; exact hbody l pre x W hl hr hi hN) hdone hstop
/-! ### what lies below n is kept, but for one block -/
def KBut (n g : Nat) (W W' : World) : Prop := W.heap.size ≤ W'.heap.size ∧ ∀ k, k < n → k ≠ g → W'.heap[k]? = W.heap[k]?
theorem KBut.refl (n g : Nat) (W : World) : KBut n g W W := ⟨Nat.le_refl _, fun _ _ _ => rfl⟩
theorem KBut.trans {n g : Nat} {A B C : World} (h : KBut n g A B) (k : KBut n g B C) : KBut n g A C := ⟨Nat.le_trans h.1 k.1, fun i hi hg => (k.2 i hi hg).trans (h.2 i hi hg)⟩
theorem KBut.of_below {n g : Nat} {A B : World} (h : Below n A B) : KBut n g A B := ⟨h.size, fun i hi _ => h.block i hi⟩
theorem KBut.set {n g : Nat} {A B : World} (h : KBut n g A B) (j : Nat) (u : Value) : KBut n g A (B.setCell ⟨g, j, none⟩ u) := ⟨by simpa using h.1, fun i hi hg => (Below.heap_setCell B ⟨g, j, none⟩ u i (by simpa using hg)).trans (h.2 i hi hg)⟩
theorem KBut.put {n g : Nat} {w : World} (hn : n ≤ w.heap.size) (W : World) (l : Nat) (o o' : Obj) (hl : w.heap.size ≤ l) (h : W.heap[l]? = some o) (hc : o.isCells = false) (hw : o.isWalk = false) : KBut n g W (W.putObj l o') := KBut.of_below (belowK_b hn W l o o' hl h hc hw)
theorem KBut.blk {n g k : Nat} {W W' : World} {o : Obj} (h : KBut n g W W') (hb : W.heap[k]? = some o) (hk : k < n) (hg : k ≠ g) : W'.heap[k]? = some o := (h.2 k hk hg).trans hb
theorem KBut.own {β : Type} {n g B : Nat} {w₀ : World} (hn : n ≤ w₀.heap.size) (hB : n ≤ B) : OwnFrom B (fun (_ : β) W => KBut n g w₀ W) := fun _ X Y row hs hg hr => ⟨Nat.le_trans hs.1 hg.size, fun k hk hne =>
  (hg.block k (by have := hs.1; omega) (fun e => by have := (hr k e.symm).1; omega)).trans (hs.2 k hk hne)⟩
end Go.Proofs.Ytmeaepmimnmjlaa.Range
/- The iterator over what dominates: graph.Doms' value, and what a range over it goes over. For every world. -/
namespace Go.Proofs.Ytmeaepmimnmjlaa.PGb
open Go.RowKit Go.Shelf Go.Proofs.Ytmeaepmimnmjlaa.Lit Go.Proofs.Ytmeaepmimnmjlaa.OwnCells Go.Proofs.YtmeaepmimnmjlaaW.PrintWords Go.Proofs.YtmeaepmimnmjlaaW.PrintLast Go.Proofs.YtmeaepmimnmjlaaW.PrintMore
attribute [local go_sem] Oper.semAt_some
set_option linter.unusedVariables false
set_option linter.unusedSimpArgs false
/-- what is gone over: from b up, as long as there are numbers -/
def doms (l : List Int) : Nat → Int → List Int
  | 0, _ => []
  | k + 1, b => if 0 ≤ b ∧ b < (l.length : Int) then b :: doms l k (rd l b) else []
theorem R_empty {α : Type} (d : Kd α) (e : Nat) (w : World) : d.R e (w.alloc (.cells #[] e)) w.heap.size (fun _ => True) (.slice (some ⟨w.heap.size, 0, none⟩) 0 0) [] :=
  ⟨fun _ _ => trivial, [], ⟨by simp, .inr ⟨w.heap.size, 0, #[], rfl, Nat.le_refl _, heap_alloc_new w _, Nat.le_refl _, by decide, by simp, by simp⟩⟩, Reps.none _ _⟩
theorem R_lo {α : Type} {d : Kd α} {e n0 : Nat} {w : World} {P : Option Addr} {n c : Nat} {l : List α} (h : d.R e w n0 (fun _ => True) (.slice P n c) l) (ad : Addr) (hp : P = some ad) : n0 ≤ ad.block := by
  subst hp
  obtain ⟨_, rows, ⟨_, (h | ⟨b, c, segs, he, hb, _⟩)⟩, _⟩ := h
  · cases h.1
  · cases he
    exact hb
set_option maxHeartbeats 1000000 in
set_option maxRecDepth 100000 in
theorem clone_ints (A : Option Addr) (c : Nat) (l : List Int) (w : World) (hA : (Kd.int .i64).C w A l.length l) (hl : l.length * 8 ≤ 140737488355328) :
    Calls Try.prog 64 #[.slice A l.length c] w fun e w' => ∃ v, e = .returned v ∧ (Kd.int .i64).R 3 w' w.heap.size (fun _ => True) v l ∧ Below w.heap.size w w' := by
  cases A with
  | none =>
    have h0 : l = [] := by
      cases l with
      | nil => rfl
      | cons x r => obtain ⟨ad, he, _⟩ := hA.2.2 (by simp); cases he
    subst h0
    have he := fun w => Lib.run_eql_slice_nil (P := Try.prog) w 26 3 none 0 c 0 0 Try.underlying26
    go_enter Try.func64, Try.ntmps64
    go_wp2
    go_ret
    exact ⟨_, rfl, Kd.R_nil _ _ _ _ _, Below.refl _ _⟩
  | some ad =>
    have HA := Aside0.mk hA
    clear hA
    have he := fun w => Lib.run_eql_slice_nil (P := Try.prog) w 26 3 (some ad) l.length c 0 0 Try.underlying26
    go_enter Try.func64, Try.ntmps64
    have HR := Aside0.mk (R_empty (Kd.int .i64) 3 w)
    have HL := Aside0.mk hl
    clear hl
    go_wp2_with (first | (at_builtin; refine Kd.R_append_rows (Kd.int .i64) (Rr := (Kd.int .i64).K w) (w0 := w) w.heap.size rfl _ _ 26 3 (.int .i64 0) 8 rfl Try.underlying26 (by kernel_rfl) rfl (by decide) (by decide) _ [] l (some ad) l.length c (fun _ => True) (fun _ => False) rfl rfl HR.out ?hA (fun x cs h => h) (fun k hk => hk.elim) (fun _ _ => trivial) (below_alloc (Below.refl _ _) _) (by simp) (by have := HL.out; simp; omega) ?_; (case hA => exact Kd.C_below HA.out (below_alloc (Below.refl _ _) _)); intro v1 w1 h1 h2 _ _) | go_in)
    go_ret
    exact ⟨_, rfl, h1, h2⟩
/-- the function value: two boxes, the numbers in memory that nobody else has -/
structure Seq (w : World) (base B1 B2 : Nat) (P : Option Addr) (d : Nat) (l : List Int) (b : Int) : Prop where
  b1 : w.heap[B1]? = some (.cells #[.int .i64 b] 3 (0, 0))
  b2 : w.heap[B2]? = some (.cells #[.slice P l.length d] 26 (0, 0))
  row : (Kd.int .i64).C w P l.length l
  lo1 : base ≤ B1
  lo2 : base ≤ B2
  lo : ∀ ad, P = some ad → base ≤ ad.block
theorem Seq.below {w w1 : World} {base B1 B2 : Nat} {P : Option Addr} {d : Nat} {l : List Int} {b : Int} (h : Seq w base B1 B2 P d l b) (hb : Below w.heap.size w w1) : Seq w1 base B1 B2 P d l b := ⟨blk_below h.b1 hb, blk_below h.b2 hb, Kd.C_below h.row hb, h.lo1, h.lo2, h.lo⟩
set_option maxHeartbeats 1000000 in
set_option maxRecDepth 100000 in
theorem above_calls (base : Nat) (P : Option Addr) (d : Nat) (l : List Int) (b : Int) (w : World) (hP : (Kd.int .i64).C w P l.length l) (hbs : base ≤ w.heap.size) (hlo : ∀ ad, P = some ad → base ≤ ad.block) :
    Calls Try.prog 57 #[.slice P l.length d, .int .i64 b] w fun e w' => ∃ B1 B2, e = .returned (.func (.func 68) #[] #[.pointer (some ⟨B1, 0, none⟩), .pointer (some ⟨B2, 0, none⟩)]) ∧ Seq w' base B1 B2 P d l b ∧ Below w.heap.size w w' := by
  go_enter Try.func57, Try.ntmps57
  go_wp2_with (fail)
  go_ret
  refine ⟨w.heap.size + 1, w.heap.size, by simp, ⟨?_, ?_, Kd.C_below hP (e4 _ _ _), by omega, hbs, hlo⟩, e4 _ _ _⟩
  · have := blk_new (w.alloc (.cells #[.slice P l.length d] 26)) (.cells #[.int .i64 b] 3)
    rw [World.size_alloc] at this
    exact this
  · exact blk_alloc (blk_new w _) _
set_option maxHeartbeats 1000000 in
set_option maxRecDepth 100000 in
theorem doms_calls (A0 A1 A2 A3 A4 : Option Addr) (c0 c1 c2 c3 c4 n0 n1 n2 n4 : Nat) (l : List Int) (b : Int) (w : World) (hA : (Kd.int .i64).C w A3 l.length l) (hl : l.length * 8 ≤ 140737488355328) :
    Calls Try.prog 58 #[.agg #[.slice A0 n0 c0, .slice A1 n1 c1, .slice A2 n2 c2, .slice A3 l.length c3, .slice A4 n4 c4], .int .i64 b] w fun e w' => ∃ B1 B2 P d, e = .returned (.func (.func 68) #[] #[.pointer (some ⟨B1, 0, none⟩), .pointer (some ⟨B2, 0, none⟩)]) ∧ Seq w' w.heap.size B1 B2 P d l b ∧ Below w.heap.size w w' := by
  have HA := Aside0.mk hA
  have HL := Aside0.mk hl
  clear hA hl
  go_enter Try.func58, Try.ntmps58
  go_wp2_with (fail)
  have hb := below_alloc (Below.refl _ w) (.cells #[.slice A0 n0 c0, .slice A1 n1 c1, .slice A2 n2 c2, .slice A3 l.length c3, .slice A4 n4 c4] 29)
  refine (clone_ints A3 c3 l _ (Kd.C_below HA.out hb) HL.out).mono ?_
  rintro e w2 ⟨v, rfl, hR, hb2⟩
  obtain ⟨P, d, rfl, _, hC⟩ := Kd.R_reads hR
  have HC := Aside0.mk hC
  have hlo : ∀ ad, P = some ad → w.heap.size ≤ ad.block := fun ad hp => by
    have := R_lo hR ad hp
    rw [World.size_alloc] at this
    omega
  have HLo := Aside0.mk hlo
  clear hlo
  have HB := Aside0.mk (below_then hb hb.size hb2)
  clear hb hb2 hR hC
  go_wp2_with (fail)
  refine (above_calls w.heap.size P d l b w2 HC.out HB.out.size HLo.out).mono ?_
  rintro e w3 ⟨B1, B2, rfl, hS, hb3⟩
  go_wp2_with (fail)
  go_ret
  exact ⟨B1, B2, P, d, rfl, hS, HB.out.trans (hb3.mono HB.out.size)⟩
end Go.Proofs.Ytmeaepmimnmjlaa.PGb
/- What a range over the iterator goes over. For every world, for every loop body that keeps what lay below. -/
namespace Go.Proofs.Ytmeaepmimnmjlaa.PGb
open Go.RowKit Go.Shelf Go.Proofs.Ytmeaepmimnmjlaa.Lit Go.Proofs.Ytmeaepmimnmjlaa.OwnCells Go.Proofs.YtmeaepmimnmjlaaW.PrintWords Go.Proofs.YtmeaepmimnmjlaaW.PrintLast Go.Proofs.YtmeaepmimnmjlaaW.PrintMore
attribute [local go_sem] Oper.semAt_some
set_option linter.unusedVariables false
set_option linter.unusedSimpArgs false
set_option maxRecDepth 100000 in
set_option maxHeartbeats 4000000 in
theorem above1_inK (Kp : World → World → Prop) (hKt : ∀ {A B C : World}, Kp A B → Kp B C → Kp A C) (F : Fence) (n : Nat) (h19 : F.fn 68) (hro : F.round = none) (hn : 1 ≤ n) (lp B1 B2 base : Nat) (P : Option Addr) (d : Nat) (l : List Int) (b : Int) (hl : l.length < 9223372036854775807) (w3 : World) (hS : ∀ W', Kp w3 W' → Seq W' base B1 B2 P d l b) (J Jx : List Int → World → Prop)
    (hY : ∀ pre x W, J pre W → pre.length < (doms l l.length b).length → YieldAt F (n - 1) Try.prog lp #[.int .i64 x] W fun e W' =>
      (e = .returned (.bool true) ∧ J (pre ++ [x]) W' ∧ Kp W W') ∨ (e = .returned (.bool false) ∧ Jx (pre ++ [x]) W'))
    (W : World) (hW : Kp w3 W) (h0 : J [] W) :
    CallsIn F n Try.prog 68 #[.func (.yield lp) #[] #[], .pointer (some ⟨B1, 0, none⟩), .pointer (some ⟨B2, 0, none⟩)] W fun e W' => (∃ v, e = .returned v) ∧
      ((∃ ys, ys = doms l l.length b ∧ J ys W') ∨ (∃ pre, pre <+: doms l l.length b ∧ Jx pre W')) := by
  have c1 := blk_cell (hS W hW).b1 0
  have c2 := blk_cell (hS W hW).b2 0
  replace c1 : W.cell? ⟨B1, 0, none⟩ = some (.int .i64 b) := c1
  replace c2 : W.cell? ⟨B2, 0, none⟩ = some (.slice P l.length d) := c2
  refine callsIn_of_wp Try.func68 rfl h19 ?_ hro
  simp only [Try.ntmps68, List.size_toArray, List.length_cons, List.length_nil, Nat.reduceAdd, Nat.reduceSub, Array.replicate_succ, Array.replicate_zero, List.push_toArray, List.append_toArray, List.nil_append, List.cons_append]
  gi_wp2
  clear c1 c2
  gi_loopw [4, 8] (fun t i wr => ∃ (k : Nat) (a : Int) (pre : List Int), k ≤ l.length ∧ t = .int .i64 a ∧ i = .int .i64 k ∧ pre.length = k ∧ pre ++ doms l (l.length - k) a = doms l l.length b ∧ J pre wr ∧ Kp w3 wr) (fun _ i _ => l.length - (intOf i).toNat)
  case atStart => exact ⟨0, b, [], Nat.zero_le _, rfl, rfl, rfl, by simp, h0, hW⟩
  case round =>
    obtain ⟨k, a, pre, hk, rfl, rfl, hpl, hpd, hJ, hB⟩ := hrel
    have c2 : wr.cell? ⟨B2, 0, none⟩ = some (.slice P l.length d) := blk_cell (hS wr hB).b2 0
    by_cases hkl : k < l.length
    · by_cases ha0 : a < 0
      · have he : doms l (l.length - k) a = [] := by
          obtain ⟨m, hm⟩ : ∃ m, l.length - k = m + 1 := ⟨l.length - k - 1, by omega⟩
          rw [hm, doms, if_neg (by omega)]
        rw [he, List.append_nil] at hpd
        gi_wp2
        refine ⟨fun _ h => (by cases h), ?_⟩
        gi_wp2
        refine bodyPost_ret (results_none rfl _ _ _) rfl ?_
        exact ⟨⟨_, rfl⟩, .inl ⟨pre, hpd, hJ⟩⟩
      · by_cases hal : (l.length : Int) ≤ a
        · have he : doms l (l.length - k) a = [] := by
            obtain ⟨m, hm⟩ : ∃ m, l.length - k = m + 1 := ⟨l.length - k - 1, by omega⟩
            rw [hm, doms, if_neg (by omega)]
          rw [he, List.append_nil] at hpd
          gi_wp2
          refine ⟨fun _ h => (by cases h), ?_⟩
          gi_wp2
          refine bodyPost_ret (results_none rfl _ _ _) rfl ?_
          exact ⟨⟨_, rfl⟩, .inl ⟨pre, hpd, hJ⟩⟩
        · have he : doms l (l.length - k) a = a :: doms l (l.length - (k + 1)) (rd l a) := by
            obtain ⟨m, hm⟩ : ∃ m, l.length - k = m + 1 := ⟨l.length - k - 1, by omega⟩
            rw [hm, doms, if_pos (by omega), show l.length - (k + 1) = m by omega]
          rw [he] at hpd
          obtain ⟨fn, tmps, assign, body, hy, hR⟩ := hY pre a wr hJ (by rw [← hpd]; simp)
          gi_wp2
          refine hR.mono ?_
          rintro e W3 (⟨rfl, hJ3, hk3⟩ | ⟨rfl, hJx3⟩)
          · have hB3 := hKt hB hk3
            have c2' : W3.cell? ⟨B2, 0, none⟩ = some (.slice P l.length d) := blk_cell (hS W3 hB3).b2 0
            obtain ⟨ad, rfl, hc⟩ := Kd.at_int (hS W3 hB3).row a (by omega) (by omega)
            gi_wp2
            go_roundw
            case rel => exact ⟨k + 1, rd l a, pre ++ [a], by omega, rfl, by go_num, by simp [hpl], by rw [List.append_assoc]; exact hpd, hJ3, hB3⟩
            case measure => simp [intOf]; omega
          · gi_wp2
            refine bodyPost_ret (results_none rfl _ _ _) rfl ?_
            exact ⟨⟨_, rfl⟩, .inr ⟨pre ++ [a], ⟨doms l (l.length - (k + 1)) (rd l a), by rw [List.append_assoc]; exact hpd⟩, hJx3⟩⟩
    · obtain rfl : k = l.length := by omega
      rw [Nat.sub_self, doms, List.append_nil] at hpd
      gi_wp2
      go_end0
      exact ⟨⟨_, rfl⟩, .inl ⟨pre, hpd, hJ⟩⟩
theorem above_stopsK (Kp : World → World → Prop) (hKt : ∀ {A B C : World}, Kp A B → Kp B C → Kp A C) (F : Fence) (n : Nat) (h19 : F.fn 68) (hro : F.round = none) (hn : 1 ≤ n) (B1 B2 base : Nat) (P : Option Addr) (d : Nat) (l : List Int) (b : Int) (hl : l.length < 9223372036854775807) (w3 : World) (hS : ∀ W', Kp w3 W' → Seq W' base B1 B2 P d l b) (w : World) (hb : ∀ W, Below w.heap.size w W → Kp w3 W) :
    SeqStopsK F n Try.prog 68 #[.pointer (some ⟨B1, 0, none⟩), .pointer (some ⟨B2, 0, none⟩)] (fun x : Int => #[Value.int .i64 x]) Kp (fun ys => ys = doms l l.length b) (fun pre => pre <+: doms l l.length b) (doms l l.length b).length w := fun lp J Jx W hW _ _ hY h0 =>
  above1_inK Kp hKt F n h19 hro hn lp B1 B2 base P d l b hl w3 hS J Jx hY W (hb W hW) h0
/-- what a range over the function value goes over -/
theorem above_stops (F : Fence) (n : Nat) (h19 : F.fn 68) (hro : F.round = none) (hn : 1 ≤ n) (B1 B2 n₀ base : Nat) (P : Option Addr) (d : Nat) (l : List Int) (b : Int) (hl : l.length < 9223372036854775807) (w3 : World) (hS : ∀ W', Below n₀ w3 W' → Seq W' base B1 B2 P d l b) (w : World) (hb : Below n₀ w3 w) (hn₀ : n₀ ≤ w.heap.size) :
    SeqStopsK F n Try.prog 68 #[.pointer (some ⟨B1, 0, none⟩), .pointer (some ⟨B2, 0, none⟩)] (fun x : Int => #[Value.int .i64 x]) (Below n₀) (fun ys => ys = doms l l.length b) (fun pre => pre <+: doms l l.length b) (doms l l.length b).length w :=
  above_stopsK (Below n₀) (fun h k => h.trans k) F n h19 hro hn B1 B2 base P d l b hl w3 hS w (fun W hW => hb.trans (hW.mono hn₀))
end Go.Proofs.Ytmeaepmimnmjlaa.PGb
/- slices.Backward: what a range over its value goes over. For every world, for every loop body that keeps what lay below. -/
namespace Go.Proofs.Ytmeaepmimnmjlaa.PGb
open Go.RowKit Go.Shelf Go.Proofs.Ytmeaepmimnmjlaa.Lit Go.Proofs.Ytmeaepmimnmjlaa.OwnCells Go.Proofs.YtmeaepmimnmjlaaW.PrintWords Go.Proofs.YtmeaepmimnmjlaaW.PrintLast Go.Proofs.YtmeaepmimnmjlaaW.PrintMore
attribute [local go_sem] Oper.semAt_some
set_option linter.unusedVariables false
set_option linter.unusedSimpArgs false
/-- what is gone over: from the last place down -/
def back (l : List Int) : Nat → List (Int × Int)
  | 0 => []
  | k + 1 => ((k : Int), rd l (k : Int)) :: back l k
set_option maxHeartbeats 1000000 in
set_option maxRecDepth 100000 in
theorem backward_calls (A : Option Addr) (c : Nat) (l : List Int) (w : World) :
    Calls Try.prog 50 #[.slice A l.length c] w fun e w' => e = .returned (.func (.func 67) #[] #[.pointer (some ⟨w.heap.size, 0, none⟩)]) ∧ w' = w.alloc (.cells #[.slice A l.length c] 26) := by
  go_enter Try.func50, Try.ntmps50
  go_wp2_with (fail)
  go_ret
  exact ⟨rfl, rfl⟩
set_option maxRecDepth 100000 in
set_option maxHeartbeats 4000000 in
theorem back1_in (F : Fence) (n : Nat) (h20 : F.fn 67) (hro : F.round = none) (hn : 1 ≤ n) (lp B n₀ : Nat) (A : Option Addr) (c : Nat) (l : List Int) (hl : l.length < 9223372036854775807) (w3 : World) (hS : ∀ W', Below n₀ w3 W' → Boxed W' B 26 (.slice A l.length c) ∧ (Kd.int .i64).C W' A l.length l) (J Jx : List (Int × Int) → World → Prop)
    (hY : ∀ pre x W, J pre W → pre.length < l.length → YieldAt F (n - 1) Try.prog lp #[.int .i64 x.1, .int .i64 x.2] W fun e W' =>
      (e = .returned (.bool true) ∧ J (pre ++ [x]) W' ∧ Below n₀ W W') ∨ (e = .returned (.bool false) ∧ Jx (pre ++ [x]) W'))
    (W : World) (hW : Below n₀ w3 W) (h0 : J [] W) :
    CallsIn F n Try.prog 67 #[.func (.yield lp) #[] #[], .pointer (some ⟨B, 0, none⟩)] W fun e W' => (∃ v, e = .returned v) ∧
      ((∃ ys, ys = back l l.length ∧ J ys W') ∨ (∃ pre, pre <+: back l l.length ∧ Jx pre W')) := by
  have c2 := (hS W hW).1.cell
  refine callsIn_of_wp Try.func67 rfl h20 ?_ hro
  simp only [Try.ntmps67, List.size_toArray, List.length_cons, List.length_nil, Nat.reduceAdd, Nat.reduceSub, Array.replicate_succ, Array.replicate_zero, List.push_toArray, List.append_toArray, List.nil_append, List.cons_append]
  gi_wp2
  clear c2
  gi_loopw [3] (fun i wr => ∃ (k : Nat) (pre : List (Int × Int)), k ≤ l.length ∧ i = .int .i64 ((k : Int) - 1) ∧ pre.length + k = l.length ∧ pre ++ back l k = back l l.length ∧ J pre wr ∧ Below n₀ w3 wr) (fun i _ => (intOf i + 1).toNat)
  case atStart => exact ⟨l.length, [], Nat.le_refl _, rfl, by simp, rfl, h0, hW⟩
  case round =>
    obtain ⟨k, pre, hk, rfl, hpl, hpd, hJ, hB⟩ := hrel
    have c2 := (hS wr hB).1.cell
    cases k with
    | zero =>
      gi_wp2
      rw [back, List.append_nil] at hpd
      go_end0
      exact ⟨⟨_, rfl⟩, .inl ⟨pre, hpd, hJ⟩⟩
    | succ k =>
      have hk1 : ((k + 1 : Nat) : Int) - 1 = (k : Int) := by omega
      rw [hk1]
      obtain ⟨ad, rfl, hc⟩ := Kd.at_int (hS wr hB).2 (k : Int) (by omega) (by omega)
      rw [Int.toNat_natCast] at hc
      obtain ⟨fn, tmps, assign, body, hy, hR⟩ := hY pre ((k : Int), rd l (k : Int)) wr hJ (by omega)
      simp only at hy hR
      rw [back] at hpd
      have h0k : (0 : Int) ≤ (k : Int) := by omega
      have hkl : (k : Int) < (l.length : Int) := by omega
      gi_wp2
      refine hR.mono ?_
      rintro e W3 (⟨rfl, hJ3, hk3⟩ | ⟨rfl, hJx3⟩)
      · gi_wp2
        go_roundw
        case rel => exact ⟨k, pre ++ [((k : Int), rd l (k : Int))], by omega, by first | rfl | go_num, by simp; omega, by rw [List.append_assoc]; exact hpd, hJ3, hB.trans hk3⟩
        case measure => simp [intOf]
      · gi_wp2
        refine bodyPost_ret (results_none rfl _ _ _) rfl ?_
        exact ⟨⟨_, rfl⟩, .inr ⟨pre ++ [((k : Int), rd l (k : Int))], ⟨back l k, by rw [List.append_assoc]; exact hpd⟩, hJx3⟩⟩
/-- what a range over the value of slices.Backward goes over -/
theorem back_stops (F : Fence) (n : Nat) (h20 : F.fn 67) (hro : F.round = none) (hn : 1 ≤ n) (B n₀ : Nat) (A : Option Addr) (c : Nat) (l : List Int) (hl : l.length < 9223372036854775807) (w3 : World) (hS : ∀ W', Below n₀ w3 W' → Boxed W' B 26 (.slice A l.length c) ∧ (Kd.int .i64).C W' A l.length l) (w : World) (hb : Below n₀ w3 w) (hn₀ : n₀ ≤ w.heap.size) :
    SeqStopsK F n Try.prog 67 #[.pointer (some ⟨B, 0, none⟩)] (fun x : Int × Int => #[Value.int .i64 x.1, Value.int .i64 x.2]) (Below n₀) (fun ys => ys = back l l.length) (fun pre => pre <+: back l l.length) l.length w := fun lp J Jx W hW _ _ hY h0 =>
  back1_in F n h20 hro hn lp B n₀ A c l hl w3 hS J Jx hY W (hb.trans (hW.mono hn₀)) h0
end Go.Proofs.Ytmeaepmimnmjlaa.PGb
/- Small lemmas for the walks over function values. -/
namespace Go.Proofs.Ytmeaepmimnmjlaa.Ask
open Go.Proofs.Ytmeaepmimnmjlaa.PGb Go.RowKit Go.Shelf Go.Proofs.Ytmeaepmimnmjlaa.Lit Go.Proofs.Ytmeaepmimnmjlaa.OwnCells Go.Proofs.YtmeaepmimnmjlaaW.PrintWords Go.Proofs.YtmeaepmimnmjlaaW.PrintLast Go.Proofs.YtmeaepmimnmjlaaW.PrintMore
attribute [local go_sem] Oper.semAt_some
theorem run_store_fn (P : Program) (w : World) (a : Addr) (m : Mode) (f : Fn) (x y : Array Value) : (store a (.func f x y) m).run P w = stored P w a (.func f x y) m := run_store P w a _ m rfl
attribute [local go_sem] run_store_fn
theorem run_equalIn_fn (n : Nat) (w : World) (f : Fn) (x y : Array Value) : (Op.equalIn (n + 1) 80 (.func f x y) .nilFunc).run Try.prog w = .ok false w := by
  simp [Op.equalIn, run_underlying Try.underlying80]
theorem run_eql_fn (w : World) (f : Fn) (x y : Array Value) : (binOp .eql 80 (.func f x y) .nilFunc).run Try.prog w = .ok (.bool false) w := by
  have h := run_equalIn_fn 9999 w f x y
  simp only [binOp]
  simp [Op.equal, Op.maxDepth, h]
attribute [local go_sem] run_eql_fn
set_option linter.unusedVariables false
set_option linter.unusedSimpArgs false
theorem row_slice {w : World} {base k : Nat} {e size : Nat} {v : Value} {xs : List Value} (h : w.ownsRow base e size v k xs) : ∃ A c, v = .slice A k c := by
  rcases h.2 with ⟨rfl, rfl, _⟩ | ⟨g, cap, cur, rfl, _⟩
  · exact ⟨_, _, rfl⟩
  · exact ⟨_, _, rfl⟩
theorem row_C {w : World} {base : Nat} {A : Option Addr} {c : Nat} {l : List Int} (h : w.ownsRow base 3 1 (.slice A l.length c) l.length (l.map (Value.int .i64))) : (Kd.int .i64).C w A l.length l ∧ l.length ≤ c := by
  have hR : (Kd.int .i64).R 3 w base (fun _ => True) (.slice A l.length c) l := Kd.R_of_own h (fun _ _ => trivial)
  obtain ⟨_, h1, h2⟩ := Kd.R_reads' hR
  exact ⟨h2, h1⟩
theorem blk_in {n g : Nat} {W W' : World} {o : Obj} (hb : Below n W W') (h : W.heap[g]? = some o) (hg : g < n) : W'.heap[g]? = some o := (hb.block g hg).trans h
theorem from_below {B : Nat} {W W' : World} (hb : Below W.heap.size W W') : KeepsFrom B W W' := ⟨hb.size, fun k o _ hk _ => blk_in hb hk (blk_lt hk)⟩
theorem results_cell1 {fn : Func} {p : Tmp} (h : fn.results = #[.cell p 4]) (tmps : Array Value) (w : World) (ad : Addr) (v : Bool) (hp : tmps.getD p undef = .pointer (some ad)) (hc : w.cell? ad = some (.bool v)) : (results fn tmps).run Try.prog w = .ok (.bool v) w := by
  have hp' : tmps[p]?.getD undef = .pointer (some ad) := gdq _ _ _ hp
  simp [results, h, hp', asAddr]
  go_simp
end Go.Proofs.Ytmeaepmimnmjlaa.Ask
/- Going through a graph depth first, step by step: what comes out, and in which order. No program in sight. -/
namespace Go.Proofs.Ytmeaepmimnmjlaa.Dfs
set_option linter.unusedVariables false
/-- what may come behind a block -/
def nb (nx : List (List Int)) (b : Int) : List Int := nx.getD b.toNat []
/-- every block is one -/
structure Wf (nx : List (List Int)) : Prop where
  pos : 0 < nx.length
  in_ : ∀ b c, c ∈ nb nx b → 0 ≤ c ∧ c < nx.length
/-- a way leads from a to b -/
inductive Reach (nx : List (List Int)) : Int → Int → Prop
  | refl (a : Int) : Reach nx a a
  | step {a b c : Int} : Reach nx a b → c ∈ nb nx b → Reach nx a c
theorem Reach.trans {nx : List (List Int)} {a b c : Int} (h : Reach nx a b) (k : Reach nx b c) : Reach nx a c := by
  induction k with
  | refl => exact h
  | step _ hm ih => exact .step ih hm
theorem Reach.bound {nx : List (List Int)} (hw : Wf nx) {a b : Int} (h : Reach nx a b) (ha : 0 ≤ a ∧ a < nx.length) : 0 ≤ b ∧ b < nx.length := by
  induction h with
  | refl => exact ha
  | step _ hm _ => exact hw.in_ _ _ hm
/-- the state: what is open (the top first, with how much of its list is done), what is marked, what is written -/
structure DS where
  st : List (Int × Nat)
  mks : List Bool
  out : List Int
def dstep (nx : List (List Int)) (s : DS) : DS :=
  match s.st with
  | [] => s
  | (b, d) :: r => match (nb nx b)[d]? with
    | none => { s with st := r, out := s.out ++ [b] }
    | some c => if s.mks.getD c.toNat false = true then { s with st := (b, d + 1) :: r } else { st := (c, 0) :: (b, d + 1) :: r, mks := s.mks.set c.toNat true, out := s.out }
def dinit (n : Nat) : DS := { st := [(0, 0)], mks := (List.replicate n false).set 0 true, out := [] }
/-- how much is to be done yet -/
def todo (nx : List (List Int)) (mk : List Bool) : Nat → Nat
  | 0 => 0
  | k + 1 => todo nx mk k + (if mk.getD k false = true then 0 else (nx.getD k []).length + 2)
def open_ (nx : List (List Int)) : List (Int × Nat) → Nat
  | [] => 0
  | (b, d) :: r => ((nb nx b).length - d + 1) + open_ nx r
def meas (nx : List (List Int)) (s : DS) : Nat := todo nx s.mks nx.length + open_ nx s.st
theorem todo_set_ge (nx : List (List Int)) (mk : List Bool) (c : Nat) : ∀ k, k ≤ c → todo nx (mk.set c true) k = todo nx mk k
  | 0, _ => rfl
  | k + 1, h => by
    unfold todo
    rw [todo_set_ge nx mk c k (by omega)]
    have : (mk.set c true).getD k false = mk.getD k false := by
      simp only [List.getD_eq_getElem?_getD, List.getElem?_set]
      rw [if_neg (by omega)]
    rw [this]
theorem todo_set (nx : List (List Int)) (mk : List Bool) (c : Nat) (hc : mk.getD c false = false) (hl : c < mk.length) : ∀ k, c < k → todo nx (mk.set c true) k + (nx.getD c []).length + 2 = todo nx mk k
  | 0, h => by omega
  | k + 1, h => by
    unfold todo
    by_cases hk : c = k
    · subst hk
      rw [todo_set_ge nx mk c c (Nat.le_refl _)]
      have h1 : (mk.set c true).getD c false = true := by
        simp [List.getD_eq_getElem?_getD, hl]
      rw [if_pos h1, if_neg (by rw [hc]; exact Bool.false_ne_true)]
      omega
    · have := todo_set nx mk c hc hl k (by omega)
      have h1 : (mk.set c true).getD k false = mk.getD k false := by
        simp only [List.getD_eq_getElem?_getD, List.getElem?_set]
        rw [if_neg (by omega)]
      rw [h1]
      omega
/-- the invariant -/
structure Inv (nx : List (List Int)) (s : DS) : Prop where
  len : s.mks.length = nx.length
  mem : ∀ b : Int, 0 ≤ b → (s.mks.getD b.toNat false = true ↔ b ∈ s.out ∨ ∃ d, (b, d) ∈ s.st)
  nodup : (s.out ++ s.st.map Prod.fst).Nodup
  bound : ∀ b, (b ∈ s.out ∨ ∃ d, (b, d) ∈ s.st) → 0 ≤ b ∧ b < nx.length
  chain : ∀ pre b d a e r, s.st = pre ++ (b, d) :: (a, e) :: r → b ∈ nb nx a
  last : ∀ pre b d, s.st = pre ++ [(b, d)] → b = 0
  zero : 0 ∈ s.out ∨ ∃ d, ((0 : Int), d) ∈ s.st
  reach : ∀ b, (b ∈ s.out ∨ ∃ d, (b, d) ∈ s.st) → Reach nx 0 b
  done : ∀ b d, (b, d) ∈ s.st → ∀ j c, j < d → (nb nx b)[j]? = some c → s.mks.getD c.toNat false = true
  edge : ∀ pre b post, s.out = pre ++ b :: post → ∀ c, c ∈ nb nx b → c ∈ pre ∨ (Reach nx c b ∧ s.mks.getD c.toNat false = true)
  par : ∀ pre b post, s.out = pre ++ b :: post → b ≠ 0 → ∃ a, b ∈ nb nx a ∧ (a ∈ post ∨ ∃ d, (a, d) ∈ s.st)
theorem inv_init (nx : List (List Int)) (hw : Wf nx) : Inv nx (dinit nx.length) := by
  have hp := hw.pos
  refine ⟨by simp [dinit], fun b hb => ?_, by simp [dinit], ?_, ?_, ?_, .inr ⟨0, by simp [dinit]⟩, ?_, ?_, ?_, ?_⟩
  · simp only [dinit, List.not_mem_nil, List.mem_singleton, Prod.mk.injEq, false_or]
    rw [List.getD_eq_getElem?_getD, List.getElem?_set]
    by_cases h : 0 = b.toNat
    · rw [if_pos h, if_pos (by simpa using hp)]
      simp; omega
    · rw [if_neg h, List.getElem?_replicate]
      constructor
      · intro hx; split at hx <;> simp at hx
      · rintro ⟨d, rfl, _⟩; exact absurd rfl h
  · rintro b (h | ⟨d, h⟩)
    · simp [dinit] at h
    · simp [dinit] at h; omega
  · intro pre b d a e r h
    have := congrArg List.length h
    simp [dinit] at this; omega
  · intro pre b d h
    cases pre with
    | nil => simp [dinit] at h; exact h.1.symm
    | cons x y => have := congrArg List.length h; simp [dinit] at this
  · rintro b (h | ⟨d, h⟩)
    · simp [dinit] at h
    · simp [dinit] at h; rw [h.1]; exact .refl _
  · intro b d h j c hj
    simp [dinit] at h; omega
  · intro pre b post h
    simp [dinit] at h
  · intro pre b post h
    simp [dinit] at h
/-- what lies below on the stack leads to what lies above -/
theorem stack_reach {nx : List (List Int)} {s : DS} (hi : Inv nx s) : ∀ (l : List (Int × Nat)) (pre : List (Int × Nat)) (b : Int) (d : Nat), s.st = pre ++ (b, d) :: l → ∀ a e, (a, e) ∈ l → Reach nx a b
  | [], _, _, _, _, _, _, h => by cases h
  | (x, f) :: l, pre, b, d, hs, a, e, h => by
    have hx : Reach nx x b := .step (.refl x) (hi.chain pre b d x f l hs)
    rcases List.mem_cons.1 h with h | h
    · cases h; exact hx
    · exact (stack_reach hi l (pre ++ [(b, d)]) x f (by simp [hs]) a e h).trans hx
theorem getD_set {l : List Bool} {c x : Nat} (hc : c < l.length) : (l.set c true).getD x false = if c = x then true else l.getD x false := by
  simp only [List.getD_eq_getElem?_getD, List.getElem?_set]
  by_cases h : c = x
  · rw [if_pos h, if_pos h]; rw [if_pos (by omega)]; rfl
  · rw [if_neg h, if_neg h]
theorem snoc_split {α : Type} {l pre post : List α} {b x : α} (h : l ++ [b] = pre ++ x :: post) : (post = [] ∧ pre = l ∧ x = b) ∨ ∃ post', post = post' ++ [b] ∧ l = pre ++ x :: post' := by
  rcases List.eq_nil_or_concat post with rfl | ⟨p', y, rfl⟩
  · left
    have := List.append_inj' h rfl
    exact ⟨rfl, this.1.symm, by have := this.2; simp at this; exact this.symm⟩
  · right
    rw [List.concat_eq_append] at h ⊢
    have h' : l ++ [b] = (pre ++ x :: p') ++ [y] := by rw [h]; simp
    have := List.append_inj' h' rfl
    have hy : b = y := by have := this.2; simpa using this
    exact ⟨p', by rw [hy], this.1⟩
theorem dstep_nil {nx : List (List Int)} {s : DS} (h : s.st = []) : dstep nx s = s := by unfold dstep; rw [h]
theorem dstep_none {nx : List (List Int)} {s : DS} {b : Int} {d : Nat} {r : List (Int × Nat)} (h : s.st = (b, d) :: r) (hg : (nb nx b)[d]? = none) : dstep nx s = { st := r, mks := s.mks, out := s.out ++ [b] } := by unfold dstep; rw [h]; simp only [hg]
theorem dstep_seen {nx : List (List Int)} {s : DS} {b c : Int} {d : Nat} {r : List (Int × Nat)} (h : s.st = (b, d) :: r) (hg : (nb nx b)[d]? = some c) (hm : s.mks.getD c.toNat false = true) : dstep nx s = { st := (b, d + 1) :: r, mks := s.mks, out := s.out } := by unfold dstep; rw [h]; simp only [hg]; rw [if_pos hm]
theorem dstep_new {nx : List (List Int)} {s : DS} {b c : Int} {d : Nat} {r : List (Int × Nat)} (h : s.st = (b, d) :: r) (hg : (nb nx b)[d]? = some c) (hm : ¬ s.mks.getD c.toNat false = true) : dstep nx s = { st := (c, 0) :: (b, d + 1) :: r, mks := s.mks.set c.toNat true, out := s.out } := by unfold dstep; rw [h]; simp only [hg]; rw [if_neg hm]
theorem inv_step (nx : List (List Int)) (hw : Wf nx) (s : DS) (hi : Inv nx s) : Inv nx (dstep nx s) := by
  cases hst : s.st with
  | nil => rw [dstep_nil hst]; exact hi
  | cons t r =>
    obtain ⟨b, d⟩ := t
    have hbs : (b, d) ∈ s.st := by rw [hst]; exact List.mem_cons_self
    have hbb := hi.bound b (.inr ⟨d, hbs⟩)
    cases hg : (nb nx b)[d]? with
    | none =>
      rw [dstep_none hst hg]
      have hdl : (nb nx b).length ≤ d := List.getElem?_eq_none_iff.1 hg
      have hm : ∀ x : Int, (x ∈ s.out ++ [b] ∨ ∃ e, (x, e) ∈ r) ↔ (x ∈ s.out ∨ ∃ e, (x, e) ∈ s.st) := by
        intro x
        rw [hst]
        constructor
        · rintro (h | ⟨e, h⟩)
          · rcases List.mem_append.1 h with h | h
            · exact .inl h
            · rw [List.mem_singleton.1 h]; exact .inr ⟨d, List.mem_cons_self⟩
          · exact .inr ⟨e, List.mem_cons_of_mem _ h⟩
        · rintro (h | ⟨e, h⟩)
          · exact .inl (List.mem_append_left _ h)
          · rcases List.mem_cons.1 h with h | h
            · cases h; exact .inl (by simp)
            · exact .inr ⟨e, h⟩
      refine ⟨hi.len, fun x hx => (hi.mem x hx).trans (hm x).symm, ?_, fun x hx => hi.bound x ((hm x).1 hx), ?_, ?_, (hm 0).2 hi.zero, fun x hx => hi.reach x ((hm x).1 hx), ?_, ?_, ?_⟩
      · have := hi.nodup
        rw [hst] at this
        simpa [List.append_assoc] using this
      · intro pre x e a f rr h
        exact hi.chain ((b, d) :: pre) x e a f rr (by rw [hst]; simp at h; rw [h]; simp)
      · intro pre x e h
        exact hi.last ((b, d) :: pre) x e (by rw [hst]; simp at h; rw [h]; simp)
      · intro x e h j c hj hc
        exact hi.done x e (by rw [hst]; exact List.mem_cons_of_mem _ h) j c hj hc
      · intro pre x post h c hc
        rcases snoc_split h with ⟨rfl, rfl, rfl⟩ | ⟨post', rfl, h'⟩
        · obtain ⟨j, hj⟩ := List.getElem?_of_mem hc
          have hjl : j < (nb nx x).length := (List.getElem?_eq_some_iff.1 hj).1
          have hmk := hi.done x d hbs j c (by omega) hj
          rcases (hi.mem c (hw.in_ _ _ hc).1).1 hmk with h1 | ⟨e, h1⟩
          · exact .inl h1
          · refine .inr ⟨?_, hmk⟩
            rw [hst] at h1
            rcases List.mem_cons.1 h1 with h2 | h2
            · cases h2; exact .refl _
            · exact stack_reach hi r [] x d (by rw [hst]; rfl) c e h2
        · exact hi.edge pre x post' h' c hc
      · intro pre x post h hx
        rcases snoc_split h with ⟨rfl, rfl, rfl⟩ | ⟨post', rfl, h'⟩
        · cases r with
          | nil => exact absurd (hi.last [] x d (by rw [hst]; rfl)) hx
          | cons y r' =>
            obtain ⟨a, e⟩ := y
            exact ⟨a, hi.chain [] x d a e r' (by rw [hst]; rfl), .inr ⟨e, List.mem_cons_self⟩⟩
        · obtain ⟨a, ha, h1 | ⟨e, h1⟩⟩ := hi.par pre x post' h' hx
          · exact ⟨a, ha, .inl (List.mem_append_left _ h1)⟩
          · rw [hst] at h1
            rcases List.mem_cons.1 h1 with h2 | h2
            · cases h2; exact ⟨b, ha, .inl (by simp)⟩
            · exact ⟨a, ha, .inr ⟨e, h2⟩⟩
    | some c =>
      have hcb : c ∈ nb nx b := List.mem_of_getElem? hg
      have hc0 := hw.in_ _ _ hcb
      by_cases hmk : s.mks.getD c.toNat false = true
      · rw [dstep_seen hst hg hmk]
        have hm : ∀ x : Int, (x ∈ s.out ∨ ∃ e, (x, e) ∈ (b, d + 1) :: r) ↔ (x ∈ s.out ∨ ∃ e, (x, e) ∈ s.st) := by
          intro x
          rw [hst]
          constructor
          · rintro (h | ⟨e, h⟩)
            · exact .inl h
            · rcases List.mem_cons.1 h with h | h
              · cases h; exact .inr ⟨d, List.mem_cons_self⟩
              · exact .inr ⟨e, List.mem_cons_of_mem _ h⟩
          · rintro (h | ⟨e, h⟩)
            · exact .inl h
            · rcases List.mem_cons.1 h with h | h
              · cases h; exact .inr ⟨d + 1, List.mem_cons_self⟩
              · exact .inr ⟨e, List.mem_cons_of_mem _ h⟩
        refine ⟨hi.len, fun x hx => (hi.mem x hx).trans (hm x).symm, ?_, fun x hx => hi.bound x ((hm x).1 hx), ?_, ?_, (hm 0).2 hi.zero, fun x hx => hi.reach x ((hm x).1 hx), ?_, hi.edge, ?_⟩
        · have := hi.nodup
          rw [hst] at this
          simpa using this
        · intro pre x e a f rr h
          cases pre with
          | nil =>
            simp at h
            obtain ⟨⟨rfl, rfl⟩, h⟩ := h
            exact hi.chain [] b d a f rr (by rw [hst, h]; rfl)
          | cons y pre' =>
            simp at h
            exact hi.chain ((b, d) :: pre') x e a f rr (by rw [hst, h.2]; rfl)
        · intro pre x e h
          cases pre with
          | nil =>
            simp at h
            obtain ⟨⟨rfl, rfl⟩, h⟩ := h
            exact hi.last [] b d (by rw [hst, h]; rfl)
          | cons y pre' =>
            simp at h
            exact hi.last ((b, d) :: pre') x e (by rw [hst, h.2]; rfl)
        · intro x e h j c' hj hc
          rcases List.mem_cons.1 h with h | h
          · cases h
            by_cases hjd : j = d
            · subst hjd
              rw [hg] at hc; cases hc; exact hmk
            · exact hi.done b d hbs j c' (by omega) hc
          · exact hi.done x e (by rw [hst]; exact List.mem_cons_of_mem _ h) j c' hj hc
        · intro pre x post h hx
          obtain ⟨a, ha, h1 | ⟨e, h1⟩⟩ := hi.par pre x post h hx
          · exact ⟨a, ha, .inl h1⟩
          · rw [hst] at h1
            rcases List.mem_cons.1 h1 with h2 | h2
            · cases h2; exact ⟨b, ha, .inr ⟨d + 1, List.mem_cons_self⟩⟩
            · exact ⟨a, ha, .inr ⟨e, List.mem_cons_of_mem _ h2⟩⟩
      · rw [dstep_new hst hg hmk]
        have hcl : c.toNat < s.mks.length := by rw [hi.len]; omega
        have hcn : ¬ (c ∈ s.out ∨ ∃ e, (c, e) ∈ s.st) := fun h => hmk ((hi.mem c hc0.1).2 h)
        have hm : ∀ x : Int, (x ∈ s.out ∨ ∃ e, (x, e) ∈ (c, 0) :: (b, d + 1) :: r) ↔ (x = c ∨ (x ∈ s.out ∨ ∃ e, (x, e) ∈ s.st)) := by
          intro x
          rw [hst]
          constructor
          · rintro (h | ⟨e, h⟩)
            · exact .inr (.inl h)
            · rcases List.mem_cons.1 h with h | h
              · cases h; exact .inl rfl
              · rcases List.mem_cons.1 h with h | h
                · cases h; exact .inr (.inr ⟨d, List.mem_cons_self⟩)
                · exact .inr (.inr ⟨e, List.mem_cons_of_mem _ h⟩)
          · rintro (rfl | h | ⟨e, h⟩)
            · exact .inr ⟨0, List.mem_cons_self⟩
            · exact .inl h
            · rcases List.mem_cons.1 h with h | h
              · cases h; exact .inr ⟨d + 1, by simp⟩
              · exact .inr ⟨e, by simp [h]⟩
        have hmono : ∀ x, s.mks.getD x false = true → (s.mks.set c.toNat true).getD x false = true := by
          intro x h
          rw [getD_set hcl]; split
          · rfl
          · exact h
        refine ⟨by rw [List.length_set]; exact hi.len, fun x hx => ?_, ?_, fun x hx => ?_, ?_, ?_, (hm 0).2 (.inr hi.zero), fun x hx => ?_, ?_, ?_, ?_⟩
        · rw [hm, getD_set hcl]
          by_cases hxc : c.toNat = x.toNat
          · rw [if_pos hxc]
            exact ⟨fun _ => .inl (by omega), fun _ => rfl⟩
          · rw [if_neg hxc, hi.mem x hx]
            exact ⟨.inr, fun h => h.resolve_left (fun e => hxc (by rw [e]))⟩
        · have h0 := hi.nodup
          rw [hst] at h0
          have h1 : c ∉ s.out := fun h => hcn (.inl h)
          have h2 : c ∉ ((b, d) :: r).map Prod.fst := fun h => by
            obtain ⟨⟨y, e⟩, hy, he⟩ := List.mem_map.1 h
            exact hcn (.inr ⟨e, by rw [hst]; cases he; exact hy⟩)
          simp only [List.map_cons] at h0 h2 ⊢
          rw [List.nodup_append] at h0 ⊢
          refine ⟨h0.1, List.nodup_cons.2 ⟨h2, h0.2.1⟩, fun x hx y hy hxy => ?_⟩
          rcases List.mem_cons.1 hy with rfl | hy
          · exact h1 (hxy ▸ hx)
          · exact h0.2.2 x hx y hy hxy
        · rcases (hm x).1 hx with rfl | h
          · exact hc0
          · exact hi.bound x h
        · intro pre x e a f rr h
          cases pre with
          | nil =>
            simp at h
            obtain ⟨⟨rfl, _⟩, ⟨rfl, _⟩, _⟩ := h
            exact hcb
          | cons y pre' =>
            cases pre' with
            | nil =>
              simp at h
              obtain ⟨_, ⟨rfl, rfl⟩, h⟩ := h
              exact hi.chain [] b d a f rr (by rw [hst, h]; rfl)
            | cons z pre2 =>
              simp at h
              exact hi.chain ((b, d) :: pre2) x e a f rr (by rw [hst, h.2.2]; rfl)
        · intro pre x e h
          cases pre with
          | nil => simp at h
          | cons y pre' =>
            cases pre' with
            | nil =>
              simp at h
              obtain ⟨_, ⟨rfl, rfl⟩, h⟩ := h
              exact hi.last [] b d (by rw [hst, h]; rfl)
            | cons z pre2 =>
              simp at h
              exact hi.last ((b, d) :: pre2) x e (by rw [hst, h.2.2]; rfl)
        · rcases (hm x).1 hx with rfl | h
          · exact .step (hi.reach b (.inr ⟨d, hbs⟩)) hcb
          · exact hi.reach x h
        · intro x e h j c' hj hc
          rcases List.mem_cons.1 h with h | h
          · cases h; omega
          · rcases List.mem_cons.1 h with h | h
            · cases h
              by_cases hjd : j = d
              · subst hjd
                rw [hg] at hc; cases hc
                rw [getD_set hcl, if_pos rfl]
              · exact hmono _ (hi.done b d hbs j c' (by omega) hc)
            · exact hmono _ (hi.done x e (by rw [hst]; exact List.mem_cons_of_mem _ h) j c' hj hc)
        · intro pre x post h c' hc'
          rcases hi.edge pre x post h c' hc' with h1 | ⟨h1, h2⟩
          · exact .inl h1
          · exact .inr ⟨h1, hmono _ h2⟩
        · intro pre x post h hx
          obtain ⟨a, ha, h1 | ⟨e, h1⟩⟩ := hi.par pre x post h hx
          · exact ⟨a, ha, .inl h1⟩
          · rw [hst] at h1
            rcases List.mem_cons.1 h1 with h2 | h2
            · cases h2; exact ⟨b, ha, .inr ⟨d + 1, by simp⟩⟩
            · exact ⟨a, ha, .inr ⟨e, by simp [h2]⟩⟩
/-- each step leaves less to be done -/
theorem meas_step (nx : List (List Int)) (hw : Wf nx) (s : DS) (hi : Inv nx s) (hne : s.st ≠ []) : meas nx (dstep nx s) < meas nx s := by
  cases hst : s.st with
  | nil => exact absurd hst hne
  | cons t r =>
    obtain ⟨b, d⟩ := t
    cases hg : (nb nx b)[d]? with
    | none => rw [dstep_none hst hg]; unfold meas; rw [hst]; simp only [open_]; omega
    | some c =>
      have hdl : d < (nb nx b).length := (List.getElem?_eq_some_iff.1 hg).1
      have hc0 := hw.in_ _ _ (List.mem_of_getElem? hg)
      by_cases hmk : s.mks.getD c.toNat false = true
      · rw [dstep_seen hst hg hmk]; unfold meas; rw [hst]; simp only [open_]; omega
      · rw [dstep_new hst hg hmk]; unfold meas; rw [hst]; simp only [open_]
        have hcl : c.toNat < s.mks.length := by rw [hi.len]; omega
        have := todo_set nx s.mks c.toNat (by simpa using hmk) hcl nx.length (by omega)
        have he : (nb nx c).length = (nx.getD c.toNat []).length := rfl
        omega
/-- k steps -/
def steps (nx : List (List Int)) : Nat → DS → DS
  | 0, s => s
  | k + 1, s => steps nx k (dstep nx s)
theorem steps_inv (nx : List (List Int)) (hw : Wf nx) : ∀ (k : Nat) (s : DS), Inv nx s → Inv nx (steps nx k s)
  | 0, _, h => h
  | k + 1, s, h => steps_inv nx hw k _ (inv_step nx hw s h)
theorem steps_nil (nx : List (List Int)) : ∀ (k : Nat) (s : DS), s.st = [] → steps nx k s = s
  | 0, _, _ => rfl
  | k + 1, s, h => by
    unfold steps
    rw [dstep_nil h]
    exact steps_nil nx k s h
theorem steps_end (nx : List (List Int)) (hw : Wf nx) : ∀ (k : Nat) (s : DS), Inv nx s → meas nx s ≤ k → (steps nx k s).st = []
  | 0, s, hi, h => by
    cases hst : s.st with
    | nil => exact hst
    | cons t r =>
      obtain ⟨b, d⟩ := t
      have : 0 < meas nx s := by unfold meas; rw [hst]; simp only [open_]; omega
      omega
  | k + 1, s, hi, h => by
    cases hst : s.st with
    | nil => rw [steps_nil nx (k + 1) s hst]; exact hst
    | cons t r =>
      have := meas_step nx hw s hi (by rw [hst]; simp)
      exact steps_end nx hw k _ (inv_step nx hw s hi) (by omega)
/-- the blocks that are reached, each behind what was first gone into from it -/
def post (nx : List (List Int)) : List Int := (steps nx (meas nx (dinit nx.length)) (dinit nx.length)).out
theorem steps_add (nx : List (List Int)) : ∀ (a b : Nat) (s : DS), steps nx (a + b) s = steps nx b (steps nx a s)
  | 0, b, s => by rw [Nat.zero_add]; rfl
  | a + 1, b, s => by
    rw [Nat.add_right_comm]
    exact steps_add nx a b (dstep nx s)
theorem steps_stable (nx : List (List Int)) (hw : Wf nx) {s : DS} (hi : Inv nx s) {k k' : Nat} (h : meas nx s ≤ k) (h' : k ≤ k') : steps nx k' s = steps nx k s := by
  obtain ⟨j, rfl⟩ : ∃ j, k' = k + j := ⟨k' - k, by omega⟩
  rw [steps_add, steps_nil nx j _ (steps_end nx hw k s hi h)]
/-- it leads to the answer -/
structure Tgt (nx : List (List Int)) (s : DS) : Prop where
  out : ∀ k, meas nx s ≤ k → (steps nx k s).out = post nx
theorem tgt_init (nx : List (List Int)) (hw : Wf nx) : Tgt nx (dinit nx.length) := ⟨fun k hk => by
  rw [steps_stable nx hw (inv_init nx hw) (Nat.le_refl _) hk]; rfl⟩
theorem tgt_step (nx : List (List Int)) (hw : Wf nx) {s : DS} (hi : Inv nx s) (h : Tgt nx s) : Tgt nx (dstep nx s) := ⟨fun k hk => by
  have hi' := inv_step nx hw s hi
  rw [← steps_stable nx hw hi' hk (Nat.le_max_left k (meas nx s))]
  have := h.out (max k (meas nx s) + 1) (by have := Nat.le_max_right k (meas nx s); omega)
  exact this⟩
theorem tgt_end (nx : List (List Int)) {s : DS} (h : Tgt nx s) (hs : s.st = []) : s.out = post nx := by
  have := h.out (meas nx s) (Nat.le_refl _)
  rw [steps_nil nx _ s hs] at this
  exact this
theorem nodup_le : ∀ (n : Nat) (l : List Int), l.Nodup → (∀ x ∈ l, 0 ≤ x ∧ x < n) → l.length ≤ n
  | 0, l, _, h => by
    cases l with
    | nil => exact Nat.le_refl _
    | cons x r => have := h x List.mem_cons_self; omega
  | n + 1, l, hn, h => by
    by_cases hm : (n : Int) ∈ l
    · have h1 := nodup_le n (l.erase (n : Int)) (hn.erase _) (fun x hx => by
        have h2 := (hn.mem_erase_iff).1 hx
        have := h x h2.2
        have := h2.1
        omega)
      rw [List.length_erase_of_mem hm] at h1
      omega
    · have := nodup_le n l hn (fun x hx => by
        have h1 := h x hx
        have : x ≠ (n : Int) := fun e => hm (e ▸ hx)
        omega)
      omega
theorem inv_len {nx : List (List Int)} {s : DS} (hi : Inv nx s) : s.out.length + s.st.length ≤ nx.length := by
  have := nodup_le nx.length _ hi.nodup (fun x hx => by
    rcases List.mem_append.1 hx with h | h
    · exact hi.bound x (.inl h)
    · obtain ⟨⟨y, e⟩, h1, rfl⟩ := List.mem_map.1 h
      exact hi.bound y (.inr ⟨e, h1⟩))
  simpa using this
/-! ### what comes out -/
theorem post_state (nx : List (List Int)) (hw : Wf nx) : ∃ s, Inv nx s ∧ s.st = [] ∧ s.out = post nx :=
  ⟨_, steps_inv nx hw (meas nx (dinit nx.length)) _ (inv_init nx hw), steps_end nx hw _ _ (inv_init nx hw) (Nat.le_refl _), rfl⟩
theorem post_nodup (nx : List (List Int)) (hw : Wf nx) : (post nx).Nodup := by
  obtain ⟨s, hi, hs, ho⟩ := post_state nx hw
  have := hi.nodup
  rw [hs] at this
  rw [← ho]; simpa using this
theorem post_edge (nx : List (List Int)) (hw : Wf nx) {pre r : List Int} {b c : Int} (h : post nx = pre ++ b :: r) (hc : c ∈ nb nx b) : (c ∈ pre ∨ Reach nx c b) ∧ c ∈ post nx := by
  obtain ⟨s, hi, hs, ho⟩ := post_state nx hw
  rw [← ho] at h ⊢
  rcases hi.edge pre b r h c hc with h1 | ⟨h1, h2⟩
  · exact ⟨.inl h1, by rw [h]; exact List.mem_append_left _ h1⟩
  · refine ⟨.inr h1, ?_⟩
    rcases (hi.mem c (hw.in_ _ _ hc).1).1 h2 with h3 | ⟨d, h3⟩
    · exact h3
    · rw [hs] at h3; cases h3
theorem post_zero (nx : List (List Int)) (hw : Wf nx) : (0 : Int) ∈ post nx := by
  obtain ⟨s, hi, hs, ho⟩ := post_state nx hw
  rcases hi.zero with h | ⟨d, h⟩
  · rw [← ho]; exact h
  · rw [hs] at h; cases h
theorem post_mem (nx : List (List Int)) (hw : Wf nx) (b : Int) : b ∈ post nx ↔ Reach nx 0 b := by
  constructor
  · intro h
    obtain ⟨s, hi, hs, ho⟩ := post_state nx hw
    exact hi.reach b (.inl (ho ▸ h))
  · intro h
    induction h with
    | refl => exact post_zero nx hw
    | step _ hm ih =>
      obtain ⟨pre, r, he⟩ := List.append_of_mem ih
      exact (post_edge nx hw he hm).2
theorem post_par (nx : List (List Int)) (hw : Wf nx) {pre r : List Int} {b : Int} (h : post nx = pre ++ b :: r) (hb : b ≠ 0) : ∃ a, b ∈ nb nx a ∧ a ∈ r := by
  obtain ⟨s, hi, hs, ho⟩ := post_state nx hw
  rw [← ho] at h
  obtain ⟨a, ha, h1 | ⟨d, h1⟩⟩ := hi.par pre b r h hb
  · exact ⟨a, ha, h1⟩
  · rw [hs] at h1; cases h1
theorem post_last (nx : List (List Int)) (hw : Wf nx) : ∃ l, post nx = l ++ [0] := by
  have h0 := post_zero nx hw
  rcases List.eq_nil_or_concat (post nx) with h | ⟨l, y, h⟩
  · rw [h] at h0; cases h0
  · rw [List.concat_eq_append] at h
    by_cases hy : y = 0
    · exact ⟨l, by rw [h, hy]⟩
    · obtain ⟨a, _, ha⟩ := post_par nx hw (pre := l) (r := []) h hy
      cases ha
theorem post_bound (nx : List (List Int)) (hw : Wf nx) {b : Int} (h : b ∈ post nx) : 0 ≤ b ∧ b < nx.length :=
  ((post_mem nx hw b).1 h).bound hw ⟨Int.le_refl _, by have := hw.pos; omega⟩
theorem post_length (nx : List (List Int)) (hw : Wf nx) : (post nx).length ≤ nx.length := nodup_le _ _ (post_nodup nx hw) (fun x hx => post_bound nx hw hx)
end Go.Proofs.Ytmeaepmimnmjlaa.Dfs
/- What dominates what, by going through the blocks again and again until nothing changes: that it ends, and what it ends with. No program in sight. -/
namespace Go.Proofs.Ytmeaepmimnmjlaa.DomT
set_option linter.unusedVariables false
/-- the way up: u b is the block above b (below 0: none) -/
inductive Anc (u : Int → Int) : Int → Int → Prop
  | refl (x : Int) : Anc u x x
  | step {x y : Int} : 0 ≤ u x → Anc u (u x) y → Anc u x y
theorem Anc.trans {u : Int → Int} {x y z : Int} (h : Anc u x y) (k : Anc u y z) : Anc u x z := by
  induction h with
  | refl => exact k
  | step h0 _ ih => exact .step h0 (ih k)
def Proc (u : Int → Int) (b : Int) : Prop := b = 0 ∨ 0 ≤ u b
/-- reached from block 0 without going through d -/
inductive AR (E : Int → Int → Prop) (d : Int) : Int → Prop
  | zero : d ≠ 0 → AR E d 0
  | step {a b : Int} : AR E d a → E a b → b ≠ d → AR E d b
/-- the edges that lead on in the order -/
inductive FP (E : Int → Int → Prop) (pos : Int → Nat) : Int → Int → Prop
  | refl (a : Int) : FP E pos a a
  | step {a b c : Int} : FP E pos a b → E b c → pos b < pos c → FP E pos a c
theorem FP.trans {E : Int → Int → Prop} {pos : Int → Nat} {a b c : Int} (h : FP E pos a b) (k : FP E pos b c) : FP E pos a c := by
  induction k with
  | refl => exact h
  | step _ h1 h2 ih => exact .step ih h1 h2
theorem FP.le {E : Int → Int → Prop} {pos : Int → Nat} {a b : Int} (h : FP E pos a b) : pos a ≤ pos b := by
  induction h with
  | refl => exact Nat.le_refl _
  | step _ _ h2 ih => omega
/-- what is known of the graph -/
structure Gr (S : Int → Prop) (pos : Int → Nat) (E : Int → Int → Prop) : Prop where
  zero : S 0
  pos0 : pos 0 = 0
  inj : ∀ a b, S a → S b → pos a = pos b → a = b
  src : ∀ a b, E a b → S b → S a
  nonneg : ∀ b, S b → 0 ≤ b
  par : ∀ b, S b → b ≠ 0 → ∃ a, E a b ∧ pos a < pos b
/-- what is known on the way, where the blocks ahead of place i have been looked at in this round -/
structure InP (S : Int → Prop) (pos : Int → Nat) (E : Int → Int → Prop) (i : Nat) (u : Int → Int) : Prop where
  z : u 0 < 0
  a : ∀ b, S b → b ≠ 0 → 0 ≤ u b → S (u b) ∧ pos (u b) < pos b ∧ Proc u (u b)
  pr : ∀ b, S b → pos b < i → Proc u b
  m : ∀ b, S b → b ≠ 0 → 0 ≤ u b → ∀ y, (∀ a, E a b → Proc u a → Anc u a y) → pos y ≤ pos (u b)
  fp : ∀ b, S b → b ≠ 0 → 0 ≤ u b → ∃ a, FP E pos (u b) a ∧ E a b ∧ pos a < pos b
  k : ∀ c, S c → c ≠ 0 → pos c < i → ∀ a, E a c → pos a < pos c → Anc u a (u c)
  l : ∀ x, S x → Proc u x → ∀ d, ¬ AR E d x → Anc u x d
variable {S : Int → Prop} {pos : Int → Nat} {E : Int → Int → Prop} {i : Nat} {u : Int → Int}
theorem InP.up (h : InP S pos E i u) {x y : Int} (hxy : Anc u x y) : S x → Proc u x → S y ∧ Proc u y ∧ pos y ≤ pos x ∧ (pos y = pos x → y = x) := by
  induction hxy with
  | refl x => exact fun hs hp => ⟨hs, hp, Nat.le_refl _, fun _ => rfl⟩
  | step h0 h1 ih =>
    rename_i x y
    intro hs hp
    have hx0 : x ≠ 0 := fun e => by rw [e] at h0; have := h.z; omega
    obtain ⟨a1, a2, a3⟩ := h.a x hs hx0 h0
    obtain ⟨b1, b2, b3, _⟩ := ih a1 a3
    exact ⟨b1, b2, by omega, fun e => by omega⟩
theorem InP.zero_up (g : Gr S pos E) (h : InP S pos E i u) : ∀ (n : Nat) (x : Int), pos x ≤ n → S x → Proc u x → Anc u x 0
  | n, x, hn, hs, hp => by
    by_cases hx : x = 0
    · rw [hx]; exact .refl _
    · have h0 : 0 ≤ u x := hp.resolve_left hx
      obtain ⟨a1, a2, a3⟩ := h.a x hs hx h0
      cases n with
      | zero => omega
      | succ n => exact .step h0 (InP.zero_up g h n (u x) (by omega) a1 a3)
theorem InP.fpath (h : InP S pos E i u) {x y : Int} (hxy : Anc u x y) : S x → Proc u x → FP E pos y x := by
  induction hxy with
  | refl x => exact fun _ _ => .refl _
  | step h0 h1 ih =>
    rename_i x y
    intro hs hp
    have hx0 : x ≠ 0 := fun e => by rw [e] at h0; have := h.z; omega
    obtain ⟨a1, a2, a3⟩ := h.a x hs hx0 h0
    obtain ⟨a, f1, f2, f3⟩ := h.fp x hs hx0 h0
    exact ((ih a1 a3).trans f1).step f2 f3
/-- along edges that lead on: what lies above lies beyond o, or above o -/
theorem InP.along (g : Gr S pos E) (h : InP S pos E i u) {o z : Int} (hf : FP E pos o z) : S z → pos z < i → ∀ y, Anc u z y → pos o < pos y ∨ Anc u o y := by
  induction hf with
  | refl => exact fun _ _ y hy => .inr hy
  | step hf h1 h2 ih =>
    rename_i a z
    intro hs hi y hy
    have hz0 : z ≠ 0 := fun e => by rw [e, g.pos0] at h2; omega
    cases hy with
    | refl => exact .inl (by have := hf.le; omega)
    | step h0 hy' =>
      exact ih (g.src _ _ h1 hs) (by omega) y ((h.k z hs hz0 hi a h1 h2).trans hy')
/-- where the ways up from all that are looked at meet -/
def IsMeet (u : Int → Int) (P : Int → Prop) (m : Int) : Prop := (∀ a, P a → Anc u a m) ∧ ∀ y, (∀ a, P a → Anc u a y) → Anc u m y
def upd (u : Int → Int) (c m : Int) : Int → Int := fun x => if x = c then m else u x
theorem upd_same (u : Int → Int) (c m : Int) : upd u c m c = m := if_pos rfl
theorem upd_ne (u : Int → Int) {c x : Int} (m : Int) (h : x ≠ c) : upd u c m x = u x := if_neg h
section step
variable {c m : Int}
/-- an earlier answer lies below the new one -/
theorem InP.mono (g : Gr S pos E) (h : InP S pos E i u) (hc : S c) (hc0 : c ≠ 0) (hi : pos c = i) (hm : IsMeet u (fun a => E a c ∧ Proc u a) m) (ho : 0 ≤ u c) : Anc u (u c) m := by
  obtain ⟨a, f1, f2, f3⟩ := h.fp c hc hc0 ho
  have sa := g.src _ _ f2 hc
  have pa := h.pr a sa (by omega)
  rcases h.along g f1 sa (by omega) m (hm.1 a ⟨f2, pa⟩) with h1 | h1
  · have := h.m c hc hc0 ho m (fun a' e p => hm.1 a' ⟨e, p⟩)
    omega
  · exact h1
theorem InP.shrink (h : InP S pos E i u) (hc0 : c ≠ 0) (hmo : 0 ≤ u c → Anc u (u c) m) {x y : Int} (hxy : Anc (upd u c m) x y) : S x → Proc u x → (S m ∧ Proc u m) → Anc u x y := by
  induction hxy with
  | refl x => exact fun _ _ _ => .refl _
  | step h0 h1 ih =>
    rename_i x y
    intro hs hp hsm
    by_cases hxc : x = c
    · subst hxc
      have ho : 0 ≤ u x := hp.resolve_left hc0
      rw [upd_same] at ih
      exact .step ho ((hmo ho).trans (ih hsm.1 hsm.2 hsm))
    · rw [upd_ne u m hxc] at h0 ih
      have hx0 : x ≠ 0 := fun e => by rw [e] at h0; have := h.z; omega
      obtain ⟨a1, a2, a3⟩ := h.a x hs hx0 h0
      exact .step h0 (ih a1 a3 hsm)
theorem InP.keep (h : InP S pos E i u) {x y : Int} (hxy : Anc u x y) : S x → Proc u x → pos x < pos c → Anc (upd u c m) x y := by
  induction hxy with
  | refl x => exact fun _ _ _ => .refl _
  | step h0 h1 ih =>
    rename_i x y
    intro hs hp hlt
    have hxc : x ≠ c := fun e => by rw [e] at hlt; omega
    have hx0 : x ≠ 0 := fun e => by rw [e] at h0; have := h.z; omega
    obtain ⟨a1, a2, a3⟩ := h.a x hs hx0 h0
    refine .step (by rw [upd_ne u m hxc]; exact h0) ?_
    rw [upd_ne u m hxc]
    exact ih a1 a3 (by omega)
theorem Anc.split {x y : Int} (hxy : Anc u x y) : Anc (upd u c m) x y ∨ (Anc (upd u c m) x c ∧ Anc u c y) := by
  induction hxy with
  | refl x => exact .inl (.refl _)
  | step h0 h1 ih =>
    rename_i x y
    by_cases hxc : x = c
    · subst hxc; exact .inr ⟨.refl _, .step h0 h1⟩
    · have e := upd_ne u m hxc
      rcases ih with h2 | ⟨h2, h3⟩
      · exact .inl (.step (by rw [e]; exact h0) (by rw [e]; exact h2))
      · exact .inr ⟨.step (by rw [e]; exact h0) (by rw [e]; exact h2), h3⟩
theorem AR.forward (g : Gr S pos E) {d c x : Int} (h : AR E d c) (hf : FP E pos c x) (hlt : pos d < pos c) : AR E d x := by
  induction hf with
  | refl => exact h
  | step hf h1 h2 ih =>
    refine .step ih h1 (fun e => ?_)
    have := hf.le
    rw [e] at h2
    omega
/-- one block looked at -/
theorem InP.next (g : Gr S pos E) (h : InP S pos E i u) (hc : S c) (hc0 : c ≠ 0) (hi : pos c = i) (hm : IsMeet u (fun a => E a c ∧ Proc u a) m) : InP S pos E (i + 1) (upd u c m) ∧ 0 ≤ m ∧ S m ∧ pos m < pos c ∧ (0 ≤ u c → pos m ≤ pos (u c) ∧ (pos m = pos (u c) → m = u c)) := by
  obtain ⟨p, hp1, hp2⟩ := g.par c hc hc0
  have sp := g.src _ _ hp1 hc
  have pp := h.pr p sp (by omega)
  have hpm := hm.1 p ⟨hp1, pp⟩
  obtain ⟨sm, pm, lm, _⟩ := h.up hpm sp pp
  have m0 := g.nonneg m sm
  have hmo := fun ho => h.mono g hc hc0 hi hm ho
  have hmc : m ≠ c := fun e => by rw [e] at lm; omega
  have hpr : ∀ x, Proc u x → Proc (upd u c m) x := fun x hx => by
    by_cases hxc : x = c
    · right; rw [hxc, upd_same]; exact m0
    · rcases hx with h1 | h1
      · exact .inl h1
      · right; rw [upd_ne u m hxc]; exact h1
  have hpr' : ∀ x, x ≠ c → Proc (upd u c m) x → Proc u x := fun x hxc hx => by
    rcases hx with h1 | h1
    · exact .inl h1
    · right; rw [upd_ne u m hxc] at h1; exact h1
  have hdc : ∀ d, ¬ AR E d c → Anc (upd u c m) c d := fun d hd => by
    by_cases hdc : d = c
    · rw [hdc]; exact .refl _
    · have h1 : Anc u m d := hm.2 d (fun a ⟨ea, pa⟩ => h.l a (g.src _ _ ea hc) pa d (fun har => hd (.step har ea (Ne.symm hdc))))
      exact .step (by rw [upd_same]; exact m0) (by rw [upd_same]; exact h.keep h1 sm pm (by omega))
  refine ⟨⟨by rw [upd_ne u m (Ne.symm hc0)]; exact h.z, ?_, ?_, ?_, ?_, ?_, ?_⟩, m0, sm, by omega, fun ho => ?_⟩
  · intro b hb hb0 h0
    by_cases hbc : b = c
    · subst hbc
      rw [upd_same]
      exact ⟨sm, by omega, hpr m pm⟩
    · rw [upd_ne u m hbc] at h0 ⊢
      obtain ⟨a1, a2, a3⟩ := h.a b hb hb0 h0
      exact ⟨a1, a2, hpr _ a3⟩
  · intro b hb hlt
    by_cases hbc : b = c
    · right; rw [hbc, upd_same]; exact m0
    · refine hpr b (h.pr b hb ?_)
      rcases Nat.lt_or_ge (pos b) i with h1 | h1
      · exact h1
      · exact absurd (g.inj b c hb hc (by omega)) hbc
  · intro b hb hb0 h0 y hy
    have hy' : ∀ a, E a b → Proc u a → Anc u a y := fun a ea pa => h.shrink hc0 hmo (hy a ea (hpr a pa)) (g.src _ _ ea hb) pa ⟨sm, pm⟩
    by_cases hbc : b = c
    · subst hbc
      rw [upd_same]
      exact (h.up (hm.2 y (fun a ⟨ea, pa⟩ => hy' a ea pa)) sm pm).2.2.1
    · rw [upd_ne u m hbc] at h0 ⊢
      exact h.m b hb hb0 h0 y hy'
  · intro b hb hb0 h0
    by_cases hbc : b = c
    · subst hbc
      rw [upd_same]
      exact ⟨p, h.fpath hpm sp pp, hp1, hp2⟩
    · rw [upd_ne u m hbc] at h0 ⊢
      exact h.fp b hb hb0 h0
  · intro c' hc' hc0' hlt a ea hlt'
    have sa := g.src _ _ ea hc'
    by_cases hcc : c' = c
    · subst hcc
      rw [upd_same]
      have pa := h.pr a sa (by omega)
      exact h.keep (hm.1 a ⟨ea, pa⟩) sa pa (by omega)
    · have hlt2 : pos c' < i := by
        rcases Nat.lt_or_ge (pos c') i with h1 | h1
        · exact h1
        · exact absurd (g.inj c' c hc' hc (by omega)) hcc
      rw [upd_ne u m hcc]
      exact h.keep (h.k c' hc' hc0' hlt2 a ea hlt') sa (h.pr a sa (by omega)) (by omega)
  · intro x hx hpx d hd
    by_cases hxc : x = c
    · subst hxc; exact hdc d hd
    · have px := hpr' x hxc hpx
      have h1 := h.l x hx px d hd
      rcases Anc.split (c := c) (m := m) h1 with h2 | ⟨h2, h3⟩
      · exact h2
      · refine h2.trans (hdc d (fun har => ?_))
        -- c lies on the way up from x
        have h4 : Anc u x c := h.shrink hc0 hmo h2 hx px ⟨sm, pm⟩
        obtain ⟨_, pc, _, _⟩ := h.up h4 hx px
        obtain ⟨_, _, l3, e3⟩ := h.up h3 hc pc
        by_cases hdc' : d = c
        · subst hdc'
          -- a block is not reached without itself
          cases har with
          | zero h0 => exact h0 rfl
          | step _ _ h0 => exact h0 rfl
        · exact hd (har.forward g (h.fpath h4 hx px) (by
            rcases Nat.lt_or_ge (pos d) (pos c) with h5 | h5
            · exact h5
            · exact absurd (e3 (by omega)) hdc'))
  · have h1 := hmo ho
    obtain ⟨a1, a2, a3⟩ := h.a c hc hc0 ho
    obtain ⟨_, _, l1, e1⟩ := h.up h1 a1 a3
    exact ⟨l1, e1⟩
end step
/-- the beginning -/
theorem InP.start (g : Gr S pos E) (h : ∀ b, S b → u b < 0) : InP S pos E 1 u := by
  have hp : ∀ b, S b → Proc u b → b = 0 := fun b hs hb => hb.resolve_right (fun h0 => by have := h b hs; omega)
  refine ⟨h 0 g.zero, fun b hs _ h0 => absurd h0 (by have := h b hs; omega), fun b hb hlt => .inl (g.inj b 0 hb g.zero (by have := g.pos0; omega)), fun b hs _ h0 => absurd h0 (by have := h b hs; omega), fun b hs _ h0 => absurd h0 (by have := h b hs; omega), fun c hc hc0 hlt => absurd (g.inj c 0 hc g.zero (by have := g.pos0; omega)) hc0, fun x hx hpx d hd => ?_⟩
  rw [hp x hx hpx] at hd ⊢
  by_cases h0 : d = 0
  · rw [h0]; exact .refl _
  · exact absurd (.zero h0) hd
/-- the next round -/
theorem InP.again (g : Gr S pos E) {n : Nat} (h : InP S pos E n u) (hn : 1 ≤ n) : InP S pos E 1 u :=
  ⟨h.z, h.a, fun b hb hlt => h.pr b hb (by omega), h.m, h.fp, fun c hc hc0 hlt => absurd (g.inj c 0 hc g.zero (by have := g.pos0; omega)) hc0, h.l⟩
/-- what it ends with -/
theorem InP.final (g : Gr S pos E) {n : Nat} (h : InP S pos E n u) (hall : ∀ b, S b → Proc u b) (hf : ∀ c, S c → c ≠ 0 → ∀ a, E a c → Anc u a (u c)) : ∀ x, S x → ∀ d, Anc u x d ↔ ¬ AR E d x := by
  intro x hx d
  refine ⟨fun ha har => ?_, h.l x hx (hall x hx) d⟩
  induction har with
  | zero h0 =>
    cases ha with
    | refl => exact h0 rfl
    | step h1 _ => have := h.z; omega
  | step har e hne ih =>
    rename_i a b
    have sa := g.src _ _ e hx
    cases ha with
    | refl => exact hne rfl
    | step h1 h2 =>
      by_cases hb0 : b = 0
      · rw [hb0] at h1; have := h.z; omega
      · exact ih sa ((hf b hx hb0 a e).trans h2)
end Go.Proofs.Ytmeaepmimnmjlaa.DomT
/- A range over a function whose variable lies in a box of its own in each round. -/
namespace Go.Proofs.Ytmeaepmimnmjlaa.Ask
open Go.RowKit Go.Shelf Go.Proofs.Ytmeaepmimnmjlaa.PGb Go.Proofs.Ytmeaepmimnmjlaa.Lit Go.Proofs.Ytmeaepmimnmjlaa.OwnCells Go.Proofs.YtmeaepmimnmjlaaW.PrintWords Go.Proofs.YtmeaepmimnmjlaaW.PrintLast Go.Proofs.YtmeaepmimnmjlaaW.PrintMore
set_option linter.unusedVariables false
set_option linter.unusedSimpArgs false
theorem wpIn_run {F : Fence} {n : Nat} {P : Program} {o : Oper} {a : Act} {w w' : World} {v : Value} {K : Act → World → Prop} {Q : Exit → Act → World → Prop} (hF : ∀ f, F.fn f) (hd : ∀ c, o.op ≠ .defer c) (hrun : (execOp a.eval o).run P w = .ok (.value v) w') (h : K (a.put o.dst v) w') : o.wpIn F n P a w K Q := by
  refine ⟨fun f _ => hF f, ?_⟩
  have e : o.semAt F.round a.eval = execOp a.eval o := by
    cases F.round with
    | none => exact Oper.semAt_none _ _
    | some l => exact Oper.semAt_some l _ _ hd
  rw [e, hrun]
  exact h
theorem wpIn_skp {F : Fence} {n : Nat} {P : Program} {o : Oper} {a : Act} {w w' : World} {K : Act → World → Prop} {Q : Exit → Act → World → Prop} (hF : ∀ f, F.fn f) (hd : ∀ c, o.op ≠ .defer c) (hrun : (execOp a.eval o).run P w = .ok .skip w') (h : K (a.put o.dst undef) w') : o.wpIn F n P a w K Q := by
  refine ⟨fun f _ => hF f, ?_⟩
  have e : o.semAt F.round a.eval = execOp a.eval o := by
    cases F.round with
    | none => exact Oper.semAt_none _ _
    | some l => exact Oper.semAt_some l _ _ hd
  rw [e, hrun]
  exact h
theorem assignX_in {F : Fence} (hF : ∀ f, F.fn f) {n : Nat} {id p q : Nat} {pos pos' : String} {aft : Array Edge} {ts : Array Value} {v : Int} {W : World} {K : Act → World → Prop} (hp : p < ts.size) (hq : q < ts.size) (hpq : p ≠ q) (h : K { tmps := (ts.setIfInBounds p (.int .i64 v)).setIfInBounds q (.pointer (some ⟨W.heap.size, 0, none⟩)), defers := [] } (W.alloc (.cells #[.int .i64 v] 3))) :
    (Code.region id #[{ dst := some q, op := .alloc 3, type := 0, pos := pos, after := #[], guard := none }, { dst := none, op := .store 3 (.tmp q) (.tmp p), type := 0, pos := pos', after := aft, guard := none }] false).wpIn F n Try.prog (Exit.then K (fun _ _ _ => False)) { tmps := (#[p].zip #[Value.int .i64 v]).foldl (fun t (p, v) => t.setIfInBounds p v) ts, defers := [] } W := by
  refine wpIn_region_list (wpListIn_plain rfl fun K' hK' => wpIn_run hF (by intro c h; cases h) (v := .pointer (some ⟨W.heap.size, 0, none⟩)) (w' := W.alloc (.cells #[.int .i64 0] 3)) ?_ (hK' _ _ (wpListIn_plain rfl fun K2 hK2 => wpIn_skp hF (by intro c h; cases h) (w' := W.alloc (.cells #[.int .i64 v] 3)) ?_ (hK2 _ _ (wpListIn_nil ?_)))))
  · unfold execOp
    go_simp
  · have e1 : ((#[p].zip #[Value.int .i64 v]).foldl (fun t (p, v) => t.setIfInBounds p v) ts) = ts.setIfInBounds p (.int .i64 v) := by simp
    rw [e1]
    have x1 := gdq _ _ _ (show ((Act.mk (ts.setIfInBounds p (.int .i64 v)) []).put (some q) (.pointer (some ⟨W.heap.size, 0, none⟩))).tmps.getD q undef = .pointer (some ⟨W.heap.size, 0, none⟩) from by simp [Act.put, Array.getD_eq_getD_getElem?, hq])
    have x2 := gdq _ _ _ (show ((Act.mk (ts.setIfInBounds p (.int .i64 v)) []).put (some q) (.pointer (some ⟨W.heap.size, 0, none⟩))).tmps.getD p undef = .int .i64 v from by simp [Act.put, Array.getD_eq_getD_getElem?, hp, Ne.symm hpq])
    revert x1 x2
    generalize ((Act.mk (ts.setIfInBounds p (.int .i64 v)) []).put (some q) (.pointer (some ⟨W.heap.size, 0, none⟩))) = a2
    intro x1 x2
    clear h hK' hK2
    unfold execOp
    go_simp
  · show K _ _
    have e2 : (((Act.mk ((#[p].zip #[Value.int .i64 v]).foldl (fun t (p, v) => t.setIfInBounds p v) ts) []).put (some q) (.pointer (some ⟨W.heap.size, 0, none⟩))).put none undef) = { tmps := (ts.setIfInBounds p (.int .i64 v)).setIfInBounds q (.pointer (some ⟨W.heap.size, 0, none⟩)), defers := [] } := by
      simp [Act.put]
    exact e2 ▸ h
/-- a range that is no part of a round, within its block; its variable boxed -/
theorem rangeXB {n : Nat} {g : Operand} {p q id bid : Nat} {pos pos' : String} {aft : Array Edge} {body : Code} {Q : Exit → Act → World → Prop} {a : Act} {w : World} (n₀ : Nat)
    (h1 : 1 ≤ n) {gf : Nat} {lb : Array Value} (hg : a.eval g = .func (.func gf) #[] lb) (eg : ∀ args w, (callFunc gf args).run Try.prog w = .ok (.enter gf args) w) (hp : p < a.tmps.size) (hq : q < a.tmps.size) (hpq : p ≠ q)
    {S Sp : List Int → Prop} {N : Nat} {w0 : World} (hseq : SeqStopsK Fence.wide (n - 1) Try.prog gf lb (fun x : Int => #[Value.int .i64 x]) (Below n₀) S Sp N w0)
    (hn₀ : n₀ ≤ w.heap.size) (hb0 : Below w0.heap.size w0 w)
    (I Ib : List Int → World → Prop) (hI : OwnFrom w.heap.size I) (hIb : OwnFrom w.heap.size Ib) (h0 : I [] w) (hIs : ∀ pre W, I pre W → w.heap.size ≤ W.heap.size)
    (hbody : ∀ (l : Nat) (pre : List Int) (x : Int) (Bx : Nat) (W : World), w.heap.size ≤ l → (∃ r, W.heap[l]? = some (.loop r)) → I pre W → w.heap.size ≤ Bx → Boxed W Bx 3 (.int .i64 x) → pre.length < N →
      body.wpIn (Fence.wide.inRound l) (n - 1 - 1) Try.prog (ownPostG w.heap.size (Below n₀) I (fun c xs W => c = .exit bid ∧ Ib xs W) (pre ++ [x]) W) { tmps := (a.tmps.setIfInBounds p (.int .i64 x)).setIfInBounds q (.pointer (some ⟨Bx, 0, none⟩)), defers := [] } W)
    (hend : ∀ (D : Nat) (xs : List Int) (W : World), w.heap.size ≤ D → (S xs ∧ I xs W ∨ Sp xs ∧ Ib xs W) → W.heap[D]? = some (.deferred (some [])) → Q .normal { a with defers := { target := .collected D, args := #[] } :: a.defers } W) :
    (Code.rangeFunc g #[p] (Code.region id #[{ dst := some q, op := .alloc 3, type := 0, pos := pos, after := #[], guard := none }, { dst := none, op := .store 3 (.tmp q) (.tmp p), type := 0, pos := pos', after := aft, guard := none }] false) body).wpIn Fence.wide n Try.prog (Exit.inBlock bid Q) a w :=
  wpIn_rangeFunc_ownH rfl h1 hg trivial eg hseq belowK_t (belowK_b hn₀) hb0 (fun _ => rfl) I (fun c xs W => c = .exit bid ∧ Ib xs W) hI (fun c s W W' row hs hg hr => ⟨hs.1, hIb s W W' row hs.2 hg hr⟩) h0
    (fun x a' W => ∃ Bx, w.heap.size ≤ Bx ∧ Boxed W Bx 3 (.int .i64 x) ∧ a' = { tmps := (a.tmps.setIfInBounds p (.int .i64 x)).setIfInBounds q (.pointer (some ⟨Bx, 0, none⟩)), defers := [] })
    (fun x a' _ X Y row hs hg hr => by obtain ⟨Bx, h1, h2, h3⟩ := hs; exact ⟨Bx, h1, boxed_own Bx 3 (fun (_ : Unit) => Value.int .i64 x) () X Y row h2 hg (fun r e => (hr r e).2), h3⟩)
    (fun l pre x W K hi hK => assignX_in (fun _ => trivial) hp hq hpq (hK _ _ ((KeepsOthers.alloc _ _).from _) ((Below.refl _ W).alloc (by have := hIs pre W hi; omega) _) (hI.alloc _ hi) ⟨W.heap.size, hIs pre W hi, Boxed.new W 3 _, rfl⟩))
    (fun l pre x a' W hl hr hi e hN => by obtain ⟨Bx, h1, h2, rfl⟩ := e; exact hbody l pre x Bx W hl hr hi h1 h2 hN)
    (fun D xs W hD hs hi hK => hend D xs W hD (.inl ⟨hs, hi⟩) hK)
    (fun D c pre W hD hs hi hK => by
      obtain ⟨rfl, hi⟩ := hi
      refine wpIn_exit ?_
      show (if bid = bid then Q .normal _ W else _)
      rw [if_pos rfl]
      exact hend D pre W hD (.inr ⟨hs, hi⟩) hK)
end Go.Proofs.Ytmeaepmimnmjlaa.Ask
/- graph.meet: for every world. -/
namespace Go.Proofs.Ytmeaepmimnmjlaa.Ask
open Go.RowKit Go.Shelf Go.Proofs.Ytmeaepmimnmjlaa.PGb Go.Proofs.Ytmeaepmimnmjlaa.Lit Go.Proofs.Ytmeaepmimnmjlaa.OwnCells Go.Proofs.YtmeaepmimnmjlaaW.PrintWords Go.Proofs.YtmeaepmimnmjlaaW.PrintLast Go.Proofs.YtmeaepmimnmjlaaW.PrintMore
attribute [local go_sem] Oper.semAt_some
attribute [local go_sem] run_store_fn
attribute [local go_sem] run_eql_fn
set_option linter.unusedVariables false
set_option linter.unusedSimpArgs false
theorem scope_wide {n : Nat} {P : Program} {c : Code} {Q : Exit → Act → World → Prop} {a : Act} {w : World} (h : c.wpIn Fence.wide n P (Exit.noGoto Q) a w) : (Code.scope c).wpIn Fence.wide n P Q a w := wpIn_wide.2 (wp_scope_straight (wpIn_wide.1 h))
/-- the first on the way up from a that lies on the way up from b too -/
def firstIn (D : List Int) : List Int → Int
  | [] => 0
  | x :: r => if x ∈ D then x else firstIn D r
theorem firstIn_append (D : List Int) : ∀ (l r : List Int), (∀ x ∈ l, x ∉ D) → firstIn D (l ++ r) = firstIn D r
  | [], _, _ => rfl
  | x :: l, r, h => by
    rw [List.cons_append, firstIn, if_neg (h x List.mem_cons_self), firstIn_append D l r (fun y hy => h y (List.mem_cons_of_mem _ hy))]
def meetOf (l : List Int) (a b : Int) : Int := firstIn (doms l l.length b) (doms l l.length a)
def NoneIn (D l : List Int) : Prop := ∀ x ∈ l, x ∉ D
def HitIn (D l : List Int) : Prop := ∃ ys x, l = ys ++ [x] ∧ NoneIn D ys ∧ x ∈ D
set_option maxRecDepth 100000 in
set_option maxHeartbeats 4000000 in
theorem meet_calls (A : Option Addr) (c : Nat) (l : List Int) (a b : Int) (w : World) (hA : (Kd.int .i64).C w A l.length l) (hl : l.length < 9223372036854775807) :
    Calls Try.prog 66 #[.slice A l.length c, .int .i64 a, .int .i64 b] w fun e w' => e = .returned (.int .i64 (meetOf l a b)) ∧ Below w.heap.size w w' := by
  have HA := Aside0.mk hA
  have HL := Aside0.mk hl
  clear hA hl
  refine (callsIn_wide (n := 10)).1 ?_
  refine callsIn_of_wp_marks Try.func66 rfl trivial ?_ rfl
  simp only [Try.ntmps66, List.size_toArray, List.length_cons, List.length_nil, Nat.reduceAdd, Nat.reduceSub, Array.replicate_succ, Array.replicate_zero, List.push_toArray, List.append_toArray, List.nil_append, List.cons_append]
  gi_wp2_with (fail)
  refine scope_wide ?_
  gi_wp2_with (fail)
  refine wpIn_label ?_
  gi_wp2_with (fail)
  refine ⟨trivial, ?_⟩
  obtain ⟨W1, hW1⟩ : ∃ W1, ((w.alloc (.cells #[.slice A l.length c] 26)).alloc (.cells #[.int .i64 b] 3)).alloc (.cells #[.int .i64 0] 3) = W1 := ⟨_, rfl⟩
  have g3 : Boxed W1 w.heap.size 26 (.slice A l.length c) := by
    rw [← hW1]; exact ((Boxed.new w 26 _).alloc _).alloc _
  have g5 : Boxed W1 (w.heap.size + 1) 3 (.int .i64 b) := by
    rw [← hW1]
    have := (Boxed.new (w.alloc (.cells #[.slice A l.length c] 26)) 3 (.int .i64 b)).alloc (.cells #[.int .i64 0] 3)
    simpa using this
  have g7 : Boxed W1 (w.heap.size + 1 + 1) 3 (.int .i64 0) := by
    rw [← hW1]
    have := Boxed.new ((w.alloc (.cells #[.slice A l.length c] 26)).alloc (.cells #[.int .i64 b] 3)) 3 (.int .i64 0)
    simpa using this
  have hb1 : Below w.heap.size w W1 := by
    rw [← hW1]; exact below_alloc (below_alloc (below_alloc (Below.refl _ w) _) _) _
  have hs1 : W1.heap.size = w.heap.size + 3 := by rw [← hW1]; simp
  have hC1 := Kd.C_below HA.out hb1
  rw [hW1]
  clear hW1
  refine (callsIn_wide.2 (above_calls 0 A c l a W1 hC1 (Nat.zero_le _) (fun _ _ => Nat.zero_le _))).mono ?_
  rintro e W2 ⟨B1, B2, rfl, hS, hb12⟩
  have hb2 := hb1.trans (hb12.mono (by omega))
  replace g3 := blk_below g3 hb12
  replace g5 := blk_below g5 hb12
  replace g7 := blk_below g7 hb12
  have hs2 : w.heap.size + 3 ≤ W2.heap.size := by have := hb12.size; omega
  have hC2 := Kd.C_below hC1 hb12
  clear hC1 hb1 hb12 hs1
  gi_wp2_with (fail)
  obtain ⟨n0, hn0⟩ : ∃ n, W2.heap.size = n := ⟨_, rfl⟩
  rw [hn0] at hs2
  obtain ⟨D, hD⟩ : ∃ D, doms l l.length b = D := ⟨_, rfl⟩
  have hM : meetOf l a b = firstIn D (doms l l.length a) := by rw [← hD]; rfl
  refine rangeXB n0 (by decide) rfl (enters_of Try.func68 (by kernel_rfl) rfl) (by simp) (by simp) (by decide)
    (above_stops Fence.wide 9 trivial rfl (by decide) B1 B2 n0 0 A c l a HL.out W2 (fun W' h => hS.below (h.mono (by omega))) W2 (Below.refl _ _) (by omega)) (by omega) (Below.refl _ _)
    (fun pre W => Below n0 W2 W ∧ NoneIn D pre)
    (fun pre W => Boxed W (w.heap.size + 1 + 1) 3 (.int .i64 (pre.getLast?.getD 0)) ∧ (Below w.heap.size w W ∧ HitIn D pre))
    (OwnFrom.and (ownFrom_below (by omega) (by omega)) (ownFrom_pure _ _))
    (OwnFrom.and (Own.from (boxed_own _ _ _) _) (OwnFrom.and (ownFrom_below (by omega) (by omega)) (ownFrom_pure _ _)))
    ⟨Below.refl _ _, fun _ h => by cases h⟩ (fun pre W h => by have := h.1.size; omega) ?body ?rest
  case body =>
    rintro lp pre x Bx W hlp ⟨r, hr⟩ ⟨hB, hpre⟩ hBx bX hlt
    simp only [List.setIfInBounds_toArray, List.set_cons_succ, List.set_cons_zero]
    have k3 := Boxed.cell (blk_in hB g3 (by omega))
    have k5 := Boxed.cell (blk_in hB g5 (by omega))
    have hCW := Kd.C_below hC2 (hB.mono (by omega))
    have hsz := hB.size
    gi_wp2_with (fail)
    refine ⟨trivial, ?_⟩
    refine (CallsIn.inRound lp (callsIn_wide.2 (above_calls 0 A c l b W hCW (Nat.zero_le _) (fun _ _ => Nat.zero_le _)))).mono ?_
    rintro e W3 ⟨B3, B4, rfl, hS3, hb3⟩
    have hr3 := blk_below hr hb3
    have bX3 : Boxed W3 Bx 3 (.int .i64 x) := blk_below bX hb3
    have hB3 := hB.trans (hb3.mono (by omega))
    have g7W := blk_in hB3 g7 (by omega)
    have hK3 : KeepsFrom W2.heap.size W W3 := from_below hb3
    have hbw3 : Below n0 W W3 := hb3.mono (by omega)
    have hsz3 := hb3.size
    clear k3 k5 hCW
    gi_wp2_with (fail)
    obtain ⟨n1, hn1⟩ : ∃ n, W3.heap.size = n := ⟨_, rfl⟩
    have hBx1 : Bx < n1 := by have := blk_lt bX3; omega
    refine Range.rangeN n1 (l₀ := lp) (r₀ := r) rfl hr3 (by decide) rfl trivial (enters_of Try.func68 (by kernel_rfl) rfl) (by simp)
      ((above_stops Fence.wide 7 trivial rfl (by decide) B3 B4 n1 0 A c l b HL.out W3 (fun W' h => hS3.below (h.mono (by omega))) W3 (Below.refl _ _) (by omega)).inRound lp) (by omega) (Below.refl _ _)
      (fun pre' W' => Below n1 W3 W' ∧ x ∉ pre')
      (fun c pre' W' => Boxed W' (w.heap.size + 1 + 1) 3 (.int .i64 x) ∧ (Below w.heap.size w W' ∧ (KeepsFrom W2.heap.size W W' ∧ (c = .exit 0 ∧ x ∈ pre'))))
      (OwnFrom.and (ownFrom_below (by omega) (by omega)) (ownFrom_pure _ _))
      (fun c => OwnFrom.and (Own.from (boxed_own _ _ (fun _ => Value.int .i64 x)) _) (OwnFrom.and (ownFrom_below (by omega) (by omega)) (OwnFrom.and (ownFrom_keepsFrom (by omega)) (ownFrom_pure _ _))))
      ⟨Below.refl _ _, by simp⟩ ?body3 ?done3 ?stop3
    case body3 =>
      rintro lp2 pre' y W' hlp2 - ⟨hB', hnx⟩ hlt'
      simp only [List.setIfInBounds_toArray, List.set_cons_succ, List.set_cons_zero]
      have bX' := blk_in hB' bX3 hBx1
      have kx := Boxed.cell bX'
      have g7' := blk_in hB' g7W (by omega)
      have k7 := Boxed.cell g7'
      have f7 := Boxed.frozen g7'
      have HN := Aside0.mk hnx
      clear hnx
      by_cases hxy : x = y
      · subst hxy
        gi_wp2_with (fail)
        exact ⟨(KeepsOthers.setCell _ _ _).from _, Boxed.set (W := W') (.int .i64 x) g7', (hb2.trans ((hB3.trans (hB'.mono (by omega))).mono (by omega))).setCell (p := ⟨w.heap.size + 1 + 1, 0, none⟩) (by simp; omega) _, (hK3.trans (from_below (by rw [hn1]; exact hB'))).trans ((KeepsOthers.setCell _ _ _).from _), rfl, by simp⟩
      · gi_wp2_with (fail)
        refine ⟨KeepsFrom.refl _ _, Below.refl _ _, hB', ?_⟩
        have := HN.out
        simp only [List.mem_append, List.mem_singleton]
        intro h
        rcases h with h | h
        · exact this h
        · exact hxy h
    case done3 =>
      rintro zs W' rfl ⟨hB', hnx⟩
      have HN := Aside0.mk hnx
      have HB' := Aside0.mk hB'
      clear hnx hB'
      gi_wp2_with (fail)
      refine ⟨hK3.trans (from_below (by rw [hn1]; exact HB'.out)), hbw3.trans (HB'.out.mono (by omega)), hB3.trans (HB'.out.mono (by omega)), ?_⟩
      intro z hz
      rcases List.mem_append.1 hz with h | h
      · exact hpre z h
      · rw [List.mem_singleton.1 h, ← hD]; exact HN.out
    case stop3 =>
      rintro c' pre' W' hpx ⟨hx', hBw, hKw, rfl, hmem⟩
      gi_wp2_with (fail)
      refine ⟨hKw, rfl, by simpa using hx', hBw, pre, x, rfl, hpre, ?_⟩
      rw [← hD]; exact hpx.subset hmem
  case rest =>
    rintro Dd xs W hDd hends hK
    obtain ⟨v, hv, hBW, hval⟩ : ∃ v : Int, Boxed W (w.heap.size + 1 + 1) 3 (.int .i64 v) ∧ Below w.heap.size w W ∧ v = meetOf l a b := by
      rcases hends with ⟨e, hB, hpre⟩ | ⟨he, hx, hB, ys, x, rfl, hys, hxD⟩
      · refine ⟨0, blk_in hB g7 (by omega), hb2.trans (hB.mono (by omega)), ?_⟩
        have := firstIn_append D xs [] hpre
        rw [List.append_nil] at this
        rw [hM, ← e, this]; rfl
      · refine ⟨x, by simpa using hx, hB, ?_⟩
        obtain ⟨r, hr⟩ := he
        rw [hM, ← hr, List.append_assoc, firstIn_append D ys _ hys]
        simp [firstIn, hxD]
    clear hends
    have kv := hv.cell
    have hDw : w.heap.size ≤ Dd := by omega
    gi_wp2_with (fail)
    refine ⟨by simp, .inl ⟨_, _, rfl, run_takeDeferred hK, ?_⟩⟩
    refine ⟨_, results_tmp rfl _ _ _, by rw [hM]; rfl, hBW.trans (belowK_b (w := w) (Nat.le_refl _) W Dd _ _ hDw hK rfl rfl)⟩
end Go.Proofs.Ytmeaepmimnmjlaa.Ask
/- graph.Block: for every world. -/
namespace Go.Proofs.Ytmeaepmimnmjlaa.Ask
open Go.RowKit Go.Shelf Go.Proofs.Ytmeaepmimnmjlaa.PGb Go.Proofs.Ytmeaepmimnmjlaa.Lit Go.Proofs.Ytmeaepmimnmjlaa.OwnCells Go.Proofs.YtmeaepmimnmjlaaW.PrintWords Go.Proofs.YtmeaepmimnmjlaaW.PrintLast Go.Proofs.YtmeaepmimnmjlaaW.PrintMore
attribute [local go_sem] Oper.semAt_some
attribute [local go_sem] run_store_fn
attribute [local go_sem] run_eql_fn
set_option linter.unusedVariables false
set_option linter.unusedSimpArgs false
theorem results_cellI {fn : Func} {p : Tmp} (h : fn.results = #[.cell p 3]) (tmps : Array Value) (w : World) (ad : Addr) (v : Int) (hp : tmps.getD p undef = .pointer (some ad)) (hc : w.cell? ad = some (.int .i64 v)) : (results fn tmps).run Try.prog w = .ok (.int .i64 v) w := by
  have hp' : tmps[p]?.getD undef = .pointer (some ad) := gdq _ _ _ hp
  simp [results, h, hp', asAddr]
  go_simp
/-- the block in which an instruction stands -/
def blockAt (pc : Int) : List (Int × Int) → Int
  | [] => -1
  | x :: r => if x.2 ≤ pc then x.1 else blockAt pc r
def NoneLe (pc : Int) (l : List (Int × Int)) : Prop := ∀ x ∈ l, ¬ x.2 ≤ pc
def Hit (pc : Int) (l : List (Int × Int)) : Prop := ∃ ys x, l = ys ++ [x] ∧ NoneLe pc ys ∧ x.2 ≤ pc
theorem blockAt_append (pc : Int) : ∀ (l r : List (Int × Int)), NoneLe pc l → blockAt pc (l ++ r) = blockAt pc r
  | [], _, _ => rfl
  | x :: l, r, h => by
    rw [List.cons_append, blockAt, if_neg (h x List.mem_cons_self), blockAt_append pc l r (fun y hy => h y (List.mem_cons_of_mem _ hy))]
set_option maxRecDepth 100000 in
set_option maxHeartbeats 4000000 in
theorem block_calls (A0 A1 A2 A3 A4 : Option Addr) (c0 c1 c2 c3 c4 n1 n2 n3 n4 : Nat) (l : List Int) (pc : Int) (w : World) (hA : (Kd.int .i64).C w A0 l.length l) (hl : l.length < 9223372036854775807) :
    Calls Try.prog 21 #[.agg #[.slice A0 l.length c0, .slice A1 n1 c1, .slice A2 n2 c2, .slice A3 n3 c3, .slice A4 n4 c4], .int .i64 pc] w fun e w' => e = .returned (.int .i64 (blockAt pc (back l l.length))) ∧ Below w.heap.size w w' := by
  have HA := Aside0.mk hA
  have HL := Aside0.mk hl
  clear hA hl
  refine (callsIn_wide (n := 10)).1 ?_
  refine callsIn_of_wp_marks Try.func21 rfl trivial ?_ rfl
  simp only [Try.ntmps21, List.size_toArray, List.length_cons, List.length_nil, Nat.reduceAdd, Nat.reduceSub, Array.replicate_succ, Array.replicate_zero, List.push_toArray, List.append_toArray, List.nil_append, List.cons_append]
  gi_wp2_with (fail)
  refine ⟨trivial, ?_⟩
  refine (callsIn_wide.2 (backward_calls A0 c0 l _)).mono ?_
  rintro e w1 ⟨rfl, rfl⟩
  obtain ⟨W1, hW1⟩ : ∃ W1, ((w.alloc (.cells #[.slice A0 l.length c0, .slice A1 n1 c1, .slice A2 n2 c2, .slice A3 n3 c3, .slice A4 n4 c4] 29)).alloc (.cells #[.int .i64 pc] 3)).alloc (.cells #[.int .i64 0] 3) = W1 := ⟨_, rfl⟩
  have g3 : Boxed W1 (w.heap.size + 1) 3 (.int .i64 pc) := by
    rw [← hW1]
    have := (Boxed.new (w.alloc (.cells #[.slice A0 l.length c0, .slice A1 n1 c1, .slice A2 n2 c2, .slice A3 n3 c3, .slice A4 n4 c4] 29)) 3 (.int .i64 pc)).alloc (.cells #[.int .i64 0] 3)
    simpa using this
  have g4 : Boxed W1 (w.heap.size + 1 + 1) 3 (.int .i64 0) := by
    rw [← hW1]
    have := Boxed.new ((w.alloc (.cells #[.slice A0 l.length c0, .slice A1 n1 c1, .slice A2 n2 c2, .slice A3 n3 c3, .slice A4 n4 c4] 29)).alloc (.cells #[.int .i64 pc] 3)) 3 (.int .i64 0)
    simpa using this
  have hb1 : Below w.heap.size w W1 := by
    rw [← hW1]; exact below_alloc (below_alloc (below_alloc (Below.refl _ w) _) _) _
  have hs1 : W1.heap.size = w.heap.size + 3 := by rw [← hW1]; simp
  rw [hW1]
  clear hW1
  have g5 : Boxed (W1.alloc (.cells #[.slice A0 l.length c0] 26)) W1.heap.size 26 (.slice A0 l.length c0) := Boxed.new W1 26 _
  have g3' := g3.alloc (.cells #[.slice A0 l.length c0] 26)
  have g4' := g4.alloc (.cells #[.slice A0 l.length c0] 26)
  have hC1 := Kd.C_below HA.out (below_alloc hb1 (.cells #[.slice A0 l.length c0] 26))
  have hb2 : Below w.heap.size w (W1.alloc (.cells #[.slice A0 l.length c0] 26)) := below_alloc hb1 _
  have hs2 : (W1.alloc (.cells #[.slice A0 l.length c0] 26)).heap.size = w.heap.size + 4 := by simp [hs1]
  clear g3 g4 hb1
  revert g5 g3' g4' hC1 hb2 hs2
  generalize W1.alloc (.cells #[.slice A0 l.length c0] 26) = W2
  intro g5 g3 g4 hC1 hb2 hs2
  rw [hs1] at g5 ⊢
  clear hs1
  gi_wp2_with (fail)
  refine Range.range2HB (w.heap.size + 4) rfl (by decide) rfl trivial (enters_of Try.func67 (by kernel_rfl) rfl) (by simp) (by simp) (by decide) (by decide)
    (back_stops Fence.wide 9 trivial rfl (by decide) (w.heap.size + 3) (w.heap.size + 4) A0 c0 l HL.out W2 (fun W' h => ⟨blk_in h g5 (by omega), Kd.C_below hC1 (h.mono (by omega))⟩) W2 (Below.refl _ _) (by omega)) (by omega) (Below.refl _ _)
    (fun pre W => Below (w.heap.size + 4) W2 W ∧ NoneLe pc pre)
    (fun c pre W => Boxed W (w.heap.size + 1 + 1) 3 (.int .i64 ((pre.getLast?.getD (0, 0)).1)) ∧ (Below w.heap.size w W ∧ (c = .ret ∧ Hit pc pre)))
    (OwnFrom.and (ownFrom_below (by omega) (by omega)) (ownFrom_pure _ _))
    (fun c => OwnFrom.and (Own.from (boxed_own _ _ _) _) (OwnFrom.and (ownFrom_below (by omega) (by omega)) (ownFrom_pure _ _)))
    ⟨Below.refl _ _, fun _ h => by cases h⟩ ?body ?done ?stop
  case body =>
    rintro lp pre x W hlp - ⟨hB, hpre⟩ hlt
    simp only [List.setIfInBounds_toArray, List.set_cons_succ, List.set_cons_zero]
    have k3 := Boxed.cell (blk_in hB g3 (by omega))
    have g4W := blk_in hB g4 (by omega)
    have k4 := Boxed.cell g4W
    have f4 := Boxed.frozen g4W
    by_cases hx : x.2 ≤ pc
    · gi_wp2_with (fail)
      exact ⟨(KeepsOthers.setCell _ _ _).from _, by simpa using Boxed.set (W := W) (.int .i64 x.1) g4W, (hb2.trans (hB.mono (by omega))).setCell (p := ⟨w.heap.size + 1 + 1, 0, none⟩) (by simp; omega) _, rfl, pre, x, rfl, hpre, hx⟩
    · have hx' : pc < x.2 := by omega
      gi_wp2_with (fail)
      refine ⟨KeepsFrom.refl _ _, Below.refl _ _, hB, ?_⟩
      intro y hy
      rcases List.mem_append.1 hy with h | h
      · exact hpre y h
      · rw [List.mem_singleton.1 h]; exact Int.not_le.2 hx
  case done =>
    rintro D xs W hD rfl ⟨hB, hpre⟩ hK
    have g4W := blk_in hB g4 (by omega)
    have k4 := Boxed.cell g4W
    have f4 := Boxed.frozen g4W
    gi_wp2_with (fail)
    have hx : Boxed (W.setCell ⟨w.heap.size + 1 + 1, 0, none⟩ (.int .i64 (-1))) (w.heap.size + 1 + 1) 3 (.int .i64 (-1)) := Boxed.set (W := W) (.int .i64 (-1)) g4W
    have hK' : (W.setCell ⟨w.heap.size + 1 + 1, 0, none⟩ (.int .i64 (-1))).heap[D]? = some (.deferred (some [])) := (Below.heap_setCell W ⟨w.heap.size + 1 + 1, 0, none⟩ (.int .i64 (-1)) D (by simp; omega)).trans hK
    have hx2 : Boxed ((W.setCell ⟨w.heap.size + 1 + 1, 0, none⟩ (.int .i64 (-1))).putObj D (.deferred none)) (w.heap.size + 1 + 1) 3 (.int .i64 (-1)) := (World.putObj_heap_other (by omega)).trans hx
    refine ⟨by simp, .inl ⟨_, _, rfl, run_takeDeferred hK', ?_⟩⟩
    refine ⟨_, results_cellI rfl _ _ ⟨w.heap.size + 1 + 1, 0, none⟩ (-1) rfl hx2.cell, ?_, ?_⟩
    · have := blockAt_append pc (back l l.length) [] hpre
      rw [List.append_nil] at this
      rw [this]; rfl
    · exact ((hb2.trans (hB.mono (by omega))).setCell (p := ⟨w.heap.size + 1 + 1, 0, none⟩) (by simp; omega) _).trans (belowK_b (w := w) (Nat.le_refl _) _ D _ _ (by omega) hK' rfl rfl)
  case stop =>
    rintro D c pre W hD hpx ⟨hx, hB, rfl, ys, x, rfl, hys, hxp⟩ hK
    gi_wp2_with (fail)
    have hx2 : Boxed (W.putObj D (.deferred none)) (w.heap.size + 1 + 1) 3 (.int .i64 x.1) := (World.putObj_heap_other (by omega)).trans (by have h := hx; simp only [List.getLast?_append, List.getLast?_singleton, Option.some_or, Option.getD_some] at h; exact h)
    refine ⟨by simp, .inl ⟨_, _, rfl, run_takeDeferred hK, ?_⟩⟩
    refine ⟨_, results_cellI rfl _ _ ⟨w.heap.size + 1 + 1, 0, none⟩ x.1 rfl hx2.cell, ?_, ?_⟩
    · obtain ⟨r, hr⟩ := hpx
      rw [← hr, List.append_assoc, blockAt_append pc ys _ hys]
      simp [blockAt, hxp]
    · exact hB.trans (belowK_b (w := w) (Nat.le_refl _) _ D _ _ (by omega) hK rfl rfl)
end Go.Proofs.Ytmeaepmimnmjlaa.Ask
/- graph.Dominates: for every world. -/
namespace Go.Proofs.Ytmeaepmimnmjlaa.Ask
open Go.RowKit Go.Shelf Go.Proofs.Ytmeaepmimnmjlaa.PGb Go.Proofs.Ytmeaepmimnmjlaa.Lit Go.Proofs.Ytmeaepmimnmjlaa.OwnCells Go.Proofs.YtmeaepmimnmjlaaW.PrintWords Go.Proofs.YtmeaepmimnmjlaaW.PrintLast Go.Proofs.YtmeaepmimnmjlaaW.PrintMore
attribute [local go_sem] Oper.semAt_some
attribute [local go_sem] run_store_fn
attribute [local go_sem] run_eql_fn
set_option linter.unusedVariables false
set_option linter.unusedSimpArgs false
set_option maxRecDepth 100000 in
set_option maxHeartbeats 4000000 in
theorem dominates_calls (A0 A1 A2 A3 A4 : Option Addr) (c0 c1 c2 c3 c4 n0 n1 n2 n4 : Nat) (l : List Int) (a b : Int) (w : World) (hA : (Kd.int .i64).C w A3 l.length l) (hl : l.length < 9223372036854775807) :
    Calls Try.prog 29 #[.agg #[.slice A0 n0 c0, .slice A1 n1 c1, .slice A2 n2 c2, .slice A3 l.length c3, .slice A4 n4 c4], .int .i64 a, .int .i64 b] w fun e w' => e = .returned (.bool (decide (a ∈ doms l l.length b))) ∧ Below w.heap.size w w' := by
  have HA := Aside0.mk hA
  have HL := Aside0.mk hl
  clear hA hl
  refine (callsIn_wide (n := 10)).1 ?_
  refine callsIn_of_wp_marks Try.func29 rfl trivial ?_ rfl
  simp only [Try.ntmps29, List.size_toArray, List.length_cons, List.length_nil, Nat.reduceAdd, Nat.reduceSub, Array.replicate_succ, Array.replicate_zero, List.push_toArray, List.append_toArray, List.nil_append, List.cons_append]
  gi_wp2_with (fail)
  refine ⟨trivial, ?_⟩
  obtain ⟨W1, hW1⟩ : ∃ W1, ((w.alloc (.cells #[.slice A0 n0 c0, .slice A1 n1 c1, .slice A2 n2 c2, .slice A3 l.length c3, .slice A4 n4 c4] 29)).alloc (.cells #[.int .i64 a] 3)).alloc (.cells #[.bool false] 4) = W1 := ⟨_, rfl⟩
  have g3 : Boxed W1 (w.heap.size + 1) 3 (.int .i64 a) := by
    rw [← hW1]
    have := (Boxed.new (w.alloc (.cells #[.slice A0 n0 c0, .slice A1 n1 c1, .slice A2 n2 c2, .slice A3 l.length c3, .slice A4 n4 c4] 29)) 3 (.int .i64 a)).alloc (.cells #[.bool false] 4)
    simpa using this
  have g4 : Boxed W1 (w.heap.size + 1 + 1) 4 (.bool false) := by
    rw [← hW1]
    have := Boxed.new ((w.alloc (.cells #[.slice A0 n0 c0, .slice A1 n1 c1, .slice A2 n2 c2, .slice A3 l.length c3, .slice A4 n4 c4] 29)).alloc (.cells #[.int .i64 a] 3)) 4 (.bool false)
    simpa using this
  have hb1 : Below w.heap.size w W1 := by
    rw [← hW1]; exact below_alloc (below_alloc (below_alloc (Below.refl _ w) _) _) _
  have hs1 : W1.heap.size = w.heap.size + 3 := by rw [← hW1]; simp
  have hC1 := Kd.C_below HA.out hb1
  rw [hW1]
  clear hW1
  refine (callsIn_wide.2 (above_calls 0 A3 c3 l b W1 hC1 (Nat.zero_le _) (fun _ _ => Nat.zero_le _))).mono ?_
  rintro e W2 ⟨B1, B2, rfl, hS, hb12⟩
  have hb2 := hb1.trans (hb12.mono (by omega))
  replace g3 := blk_below g3 hb12
  replace g4 := blk_below g4 hb12
  have hs2 : w.heap.size + 3 ≤ W2.heap.size := by have := hb12.size; omega
  clear hC1 hb1 hb12 hs1
  gi_wp2_with (fail)
  obtain ⟨n0, hn0⟩ : ∃ n, W2.heap.size = n := ⟨_, rfl⟩
  rw [hn0] at hs2
  refine Range.rangeH n0 rfl (by decide) rfl trivial (enters_of Try.func68 (by kernel_rfl) rfl) (by simp)
    (above_stops Fence.wide 9 trivial rfl (by decide) B1 B2 n0 0 A3 c3 l b HL.out W2 (fun W' h => hS.below (h.mono (by omega))) W2 (Below.refl _ _) (by omega)) (by omega) (Below.refl _ _)
    (fun pre W => Below n0 W2 W ∧ a ∉ pre)
    (fun c pre W => Boxed W (w.heap.size + 1 + 1) 4 (.bool true) ∧ (Below w.heap.size w W ∧ (c = .ret ∧ a ∈ pre)))
    (OwnFrom.and (ownFrom_below (by omega) (by omega)) (ownFrom_pure _ _))
    (fun c => OwnFrom.and (Own.from (boxed_own _ _ (fun _ => Value.bool true)) _) (OwnFrom.and (ownFrom_below (by omega) (by omega)) (ownFrom_pure _ _)))
    ⟨Below.refl _ _, by simp⟩ ?body ?done ?stop
  case body =>
    rintro lp pre x W hlp - ⟨hB, hpre⟩ hlt
    simp only [List.setIfInBounds_toArray, List.set_cons_succ, List.set_cons_zero]
    have k3 := Boxed.cell (blk_in hB g3 (by omega))
    have g4W := blk_in hB g4 (by omega)
    have k4 := Boxed.cell g4W
    have f4 := Boxed.frozen g4W
    have HP := Aside0.mk hpre
    clear hpre
    by_cases hx : x = a
    · gi_wp2_with (fail)
      exact ⟨(KeepsOthers.setCell _ _ _).from _, Boxed.set (W := W) (.bool true) g4W, (hb2.trans (hB.mono (by omega))).setCell (p := ⟨w.heap.size + 1 + 1, 0, none⟩) (by simp; omega) _, rfl, by simp [hx]⟩
    · gi_wp2_with (fail)
      refine ⟨KeepsFrom.refl _ _, Below.refl _ _, hB, ?_⟩
      have := HP.out
      simp only [List.mem_append, List.mem_singleton]
      intro h
      rcases h with h | h
      · exact this h
      · exact hx h.symm
  case done =>
    rintro D xs W hD rfl ⟨hB, hpre⟩ hK
    have g4W := blk_in hB g4 (by omega)
    have k4 := Boxed.cell g4W
    have f4 := Boxed.frozen g4W
    have HP := Aside0.mk hpre
    clear hpre
    gi_wp2_with (fail)
    have hx : Boxed (W.setCell ⟨w.heap.size + 1 + 1, 0, none⟩ (.bool false)) (w.heap.size + 1 + 1) 4 (.bool false) := Boxed.set (W := W) (.bool false) g4W
    have hK' : (W.setCell ⟨w.heap.size + 1 + 1, 0, none⟩ (.bool false)).heap[D]? = some (.deferred (some [])) := (Below.heap_setCell W ⟨w.heap.size + 1 + 1, 0, none⟩ (.bool false) D (by simp; omega)).trans hK
    have hx2 : Boxed ((W.setCell ⟨w.heap.size + 1 + 1, 0, none⟩ (.bool false)).putObj D (.deferred none)) (w.heap.size + 1 + 1) 4 (.bool false) := (World.putObj_heap_other (by omega)).trans hx
    refine ⟨by simp, .inl ⟨_, _, rfl, run_takeDeferred hK', ?_⟩⟩
    refine ⟨_, results_cell1 rfl _ _ ⟨w.heap.size + 1 + 1, 0, none⟩ false rfl hx2.cell, ?_, ?_⟩
    · have := HP.out
      simp [this]
    · exact ((hb2.trans (hB.mono (by omega))).setCell (p := ⟨w.heap.size + 1 + 1, 0, none⟩) (by simp; omega) _).trans (belowK_b (w := w) (Nat.le_refl _) _ D _ _ (by omega) hK' rfl rfl)
  case stop =>
    rintro D c pre W hD hpx ⟨hx, hB, rfl, hm⟩ hK
    gi_wp2_with (fail)
    have hx2 : Boxed (W.putObj D (.deferred none)) (w.heap.size + 1 + 1) 4 (.bool true) := (World.putObj_heap_other (by omega)).trans hx
    refine ⟨by simp, .inl ⟨_, _, rfl, run_takeDeferred hK, ?_⟩⟩
    refine ⟨_, results_cell1 rfl _ _ ⟨w.heap.size + 1 + 1, 0, none⟩ true rfl hx2.cell, ?_, ?_⟩
    · rw [decide_eq_true (hpx.subset hm)]
    · exact hB.trans (belowK_b (w := w) (Nat.le_refl _) _ D _ _ (by omega) hK rfl rfl)
end Go.Proofs.Ytmeaepmimnmjlaa.Ask
/- Post Dom2 Grid DomW -/
/- graph.postorder: for every world. -/
namespace Go.Proofs.Ytmeaepmimnmjlaa.Ask
open Go.Proofs.Ytmeaepmimnmjlaa.Dfs Go.RowKit Go.Shelf Go.Proofs.Ytmeaepmimnmjlaa.PGb Go.Proofs.Ytmeaepmimnmjlaa.Lit Go.Proofs.Ytmeaepmimnmjlaa.OwnCells Go.Proofs.YtmeaepmimnmjlaaW.PrintWords Go.Proofs.YtmeaepmimnmjlaaW.PrintLast Go.Proofs.YtmeaepmimnmjlaaW.PrintMore
attribute [local go_sem] Oper.semAt_some
attribute [local go_sem] run_store_fn
attribute [local go_sem] run_eql_fn
set_option linter.unusedVariables false
set_option linter.unusedSimpArgs false
theorem info4 : (Try.prog.info? 4).map (fun i => (i.zero, i.size, i.bytes)) = some (some (.bool false), 1, 1) := by kernel_rfl
theorem info86 : (Try.prog.info? 86).map (fun i => (i.zero, i.size, i.bytes)) = some (some (.agg #[.int .i64 0, .int .i64 0]), 2, 16) := by kernel_rfl
def flat (l : List (Int × Nat)) : List Value := l.flatMap fun p => [.int .i64 p.1, .int .i64 p.2]
theorem flat_length : ∀ l, (flat l).length = l.length * 2
  | [] => rfl
  | p :: l => by
    have := flat_length l
    unfold flat at *
    rw [List.flatMap_cons, List.length_append, this, List.length_cons]; simp; omega
theorem flat_snoc (l : List (Int × Nat)) (b : Int) (d : Nat) : flat (l ++ [(b, d)]) = flat l ++ [.int .i64 b, .int .i64 d] := by simp [flat]
theorem own_ne {w : World} {b b' n n' : Nat} {e e' s s' : Nat} {v v' : Value} {xs xs' : List Value} (h : w.ownsRow b e s v n xs) (h' : w.ownsRow b' e' s' v' n' xs') (he : e ≠ e') : v.ownBlock = none ∨ v.ownBlock ≠ v'.ownBlock := by
  rcases h.2 with ⟨rfl, _⟩ | ⟨g, cap, cur, rfl, _, hg, _⟩
  · left; simp [Value.ownBlock]
  · right
    intro e1
    rcases h'.2 with ⟨rfl, _⟩ | ⟨g', cap', cur', rfl, _, hg', _⟩
    · simp [Value.ownBlock] at e1
    · obtain rfl : g = g' := by simpa [Value.ownBlock] using e1
      rw [hg] at hg'
      cases hg'
      exact he rfl
theorem cells2_new (W : World) (x y : Value) (e : Nat) : ∀ j u, [x, y][j]? = some u → (W.alloc (.cells #[x, y] e)).cell? ((⟨W.heap.size, 0, none⟩ : Addr).add j) = some u := by
  intro j u h
  rw [add_plain, cell_of_row _ _ _ _ e (0, 0) (World.alloc_heap_new W _)]
  simpa using h
theorem mark_cell {W : World} {base g n : Nat} {l : List Bool} (h : W.ownsRow base 4 1 (.slice (some ⟨g, 0, none⟩) n n) n (l.map Value.bool)) (hl : l.length = n) (i : Nat) (hi : i < n) : W.cell? ⟨g, i, none⟩ = some (.bool (l.getD i false)) := by
  rw [h.cellAt i (by omega), List.getElem?_map, List.getD_eq_getElem?_getD, List.getElem?_eq_getElem (by omega)]
  rfl
structure PSm (w W : World) (nx : List (List Int)) (vo vw : Value) (out : List Int) (mks : List Bool) (st : List (Int × Nat)) : Prop where
  out : W.ownsRow w.heap.size 3 1 vo out.length (out.map (Value.int .i64))
  mks : W.ownsRow w.heap.size 4 1 (.slice (some ⟨w.heap.size, 0, none⟩) nx.length nx.length) nx.length (mks.map Value.bool)
  st : W.ownsRow w.heap.size 86 2 vw st.length (flat st.reverse)
  below : Below w.heap.size w W
/-- what lies in memory -/
structure PS (w W : World) (nx : List (List Int)) (vo vw : Value) (s : DS) : Prop where
  out : W.ownsRow w.heap.size 3 1 vo s.out.length (s.out.map (Value.int .i64))
  mks : W.ownsRow w.heap.size 4 1 (.slice (some ⟨w.heap.size, 0, none⟩) nx.length nx.length) nx.length (s.mks.map Value.bool)
  st : W.ownsRow w.heap.size 86 2 vw s.st.length (flat s.st.reverse)
  inv : Inv nx s
  tgt : Tgt nx s
  below : Below w.heap.size w W
set_option maxRecDepth 100000 in
set_option maxHeartbeats 8000000 in
theorem postorder_calls (A : Option Addr) (c : Nat) (nx : List (List Int)) (w : World) (hA : (Kd.slice 3 (Kd.int .i64)).C w A nx.length nx) (hw : Wf nx) (hl : nx.length ≤ 8796093022208) :
    Calls Try.prog 48 #[.slice A nx.length c] w fun e w' => ∃ v, e = .returned v ∧ (Kd.int .i64).R 3 w' w.heap.size (fun _ => True) v (post nx) ∧ Below w.heap.size w w' := by
  have HA := Aside0.mk hA
  have hpos := hw.pos
  clear hA
  obtain ⟨i4, hi4, hz40, hz41, hz42⟩ := info_parts info4
  go_enter Try.func48, Try.ntmps48
  go_wp2_with (fail)
  refine wp_scope_straight ?_
  go_upto_region 3 with (first | (at_make; refine wpList_make_full _ rfl _ _ 53 rfl w.heap.size 4 i4 (.bool false) 1 Try.underlying53 hi4 hz40 hz41 _ _ _ _ nx.length rfl rfl rfl rfl (by rw [hz42]; omega) (by simp [maxLen]; omega) (Nat.le_refl _) ?_; intro w1 hown hgrow) | go_in)
  have hm0 : (madeCells (Value.bool false).cells (nx.length * 1)).toList = (List.replicate nx.length false).map Value.bool := by
    rw [Nat.mul_one, show (Value.bool false).cells = #[.bool false] from rfl, toList_madeCells_one]; simp
  rw [hm0] at hown
  have hc0 := hown.cellAt 0 (by omega)
  have hf0 := hown.frozenAt 0
  have hc0' : w1.cell? ⟨w.heap.size, 0, none⟩ = some (.bool false) := by rw [hc0]; simp [hpos]
  clear hc0
  go_wp2_with (fail)
  refine wp_label ?_
  obtain ⟨hown2, hgrow2⟩ := hown.stored 0 (.bool true)
  have hrow : (w1.setCell ⟨w.heap.size, 0, none⟩ (.bool true)).ownsRow w.heap.size 4 1 (.slice (some ⟨w.heap.size, 0, none⟩) nx.length nx.length) nx.length ((dinit nx.length).mks.map Value.bool) := by
    have e : ((List.replicate nx.length false).map Value.bool).set 0 (.bool true) = (dinit nx.length).mks.map Value.bool := by
      simp only [dinit]; rw [List.map_set]
    rw [← e]; exact hown2
  have hP0 : PS w ((w1.setCell ⟨w.heap.size, 0, none⟩ (.bool true)).alloc (.cells #[.int .i64 0, .int .i64 0] 86)) nx (.slice none 0 0) (.slice (some ⟨w1.heap.size, 0, none⟩) 1 1) (dinit nx.length) := by
    have hb1 : Below w.heap.size w w1 := (Below.refl _ w).grown hgrow (Nat.le_refl _) (fun j e => by cases e)
    refine ⟨World.ownsRow_nil _ _ _ _, hrow.alloc _, ?_, inv_init nx hw, tgt_init nx hw, below_alloc (hb1.setCell (p := ⟨w.heap.size, 0, none⟩) (Nat.le_refl _) _) _⟩
    have := World.ownsRow_lit (base := w.heap.size) (e := 86) (size := 2) (w1.setCell ⟨w.heap.size, 0, none⟩ (.bool true)) #[.int .i64 0, .int .i64 0] 1 (by have := hb1.size; simpa using this) (by decide) rfl
    rw [World.size_setCell] at this
    exact this
  clear hown hown2 hgrow hgrow2 hrow hf0 hc0' hm0 hi4 hz40 hz41 hz42
  revert hP0
  generalize (w1.setCell ⟨w.heap.size, 0, none⟩ (.bool true)).alloc (.cells #[.int .i64 0, .int .i64 0] 86) = W0
  generalize w1.heap.size = g0
  intro hP0
  go_wp2_with (fail)
  go_loopg [3, 5] (meas nx (dinit nx.length)) (fun m vo vw wr => ∃ s, PS w wr nx vo vw s ∧ meas nx s ≤ m)
  case atStart => exact ⟨dinit nx.length, hP0, Nat.le_refl _⟩
  case round =>
    obtain ⟨s, hP, hm⟩ := hrel
    have HP := Aside0.mk hP
    have HM := Aside0.mk hm
    have hst := hP.st
    clear hP hm hP0
    cases hs : s.st with
    | nil =>
      rw [hs] at hst
      obtain ⟨Aw, cw, rfl⟩ := row_slice hst
      have HS := Aside0.mk hs
      clear hst hs
      go_wp2_with (fail)
      rw [Exit.noGoto_ret]
      go_ret
      refine ⟨_, rfl, ?_, HP.out.below⟩
      rw [← tgt_end nx HP.out.tgt HS.out]
      exact Kd.R_of_own HP.out.out (fun _ _ => trivial)
    | cons t r =>
      obtain ⟨b, d⟩ := t
      rw [hs, List.length_cons, List.reverse_cons, flat_snoc] at hst
      obtain ⟨gw, capw, rfl⟩ := ownsRow_succ hst
      have HS := Aside0.mk hs
      have HST := Aside0.mk hst
      have hrl : r.length + 1 ≤ nx.length := by
        have := inv_len HP.out.inv
        rw [HS.out, List.length_cons] at this
        omega
      clear hst hs
      go_wp2_with (fail)
      obtain ⟨gkO, hgkO⟩ : ∃ g, g = gk := ⟨_, rfl⟩
      have hsg : meas nx s ≤ gkO := by have := HM.out; omega
      go_loopg [5, 7] gkO (fun m v5 _ wr => v5 = .slice (some ⟨gw, 0, none⟩) (r.length + 1) capw ∧ ∃ s' d', s'.st = (b, d') :: r ∧ PS w wr nx u3 (.slice (some ⟨gw, 0, none⟩) (r.length + 1) capw) s' ∧ meas nx s' ≤ m ∧ m ≤ gkO)
      case atStart => exact ⟨rfl, s, d, HS.out, HP.out, hsg, Nat.le_refl _⟩
      case round =>
        clear HP HS HST HM hsg
        obtain ⟨rfl, s', d', hs', hP', hm', hgk⟩ := hrel
        have hst' := hP'.st
        rw [hs', List.length_cons, List.reverse_cons, flat_snoc] at hst'
        have hfl : (flat r.reverse).length = r.length * 2 := by rw [flat_length, List.length_reverse]
        have cb : wr.cell? ⟨gw, r.length * 2, none⟩ = some (.int .i64 b) := by
          rw [hst'.cellAt _ (by omega), List.getElem?_append_right (by omega), hfl, Nat.sub_self]; rfl
        have cd : wr.cell? ⟨gw, r.length * 2 + 1, none⟩ = some (.int .i64 d') := by
          rw [hst'.cellAt _ (by omega), List.getElem?_append_right (by omega), hfl, Nat.add_sub_cancel_left]; rfl
        have fd := hst'.frozenAt (r.length * 2 + 1)
        have hbd := hP'.inv.bound b (.inr ⟨d', by rw [hs']; exact List.mem_cons_self⟩)
        have hCw := Kd.C_below HA.out hP'.below
        obtain ⟨ad, cc, rfl, hcl, hK, hcell⟩ := Kd.C_get hCw [] b hbd.1 hbd.2
        obtain ⟨Ab, cb', rfl, hlb, hCb⟩ := hK
        have hn := hcell 0 _ rfl
        have hnb : nx.getD b.toNat [] = nb nx b := rfl
        rw [hnb] at hn hlb hCb
        have esz : b.toNat * (Kd.slice 3 (Kd.int .i64)).sz + 0 = b.toNat := by show b.toNat * 1 + 0 = _; omega
        rw [esz] at hn
        clear esz hcl hcell hnb hfl
        obtain ⟨hb0, hb1⟩ := hbd
        have HP := Aside0.mk hP'
        have HST := Aside0.mk hst'
        have HS := Aside0.mk hs'
        have HCB := Aside0.mk hCb
        clear hP' hst' hs' hCw hCb
        by_cases hd : d' < (nb nx b).length
        · have hdi : (d' : Int) < ((nb nx b).length : Int) := by omega
          obtain ⟨ad2, rfl, hc2⟩ := Kd.at_int HCB.out (d' : Int) (by omega) hdi
          rw [Int.toNat_natCast] at hc2
          obtain ⟨t, ht⟩ : ∃ t, rd (nb nx b) (d' : Int) = t := ⟨_, rfl⟩
          rw [ht] at hc2
          have hget : (nb nx b)[d']? = some t := by rw [← ht, List.getElem?_eq_getElem hd]; simp [rd, hd]
          have htb := hw.in_ b t (List.mem_of_getElem? hget)
          obtain ⟨ht0, ht1⟩ := htb
          have hd0 : (0 : Int) ≤ (d' : Int) := by omega
          have hdm : d' < 9223372036854775807 := by have := Kd.C_max HCB.out; omega
          have HG := Aside0.mk hget
          clear ht hget
          go_wp2_with (fail)
          go_quiet (fail)
          rename Nat => q1
          go_wp2_with (fail)
          go_quiet (fail)
          go_upto_region 10 with (fail)
          have hcast : ((d' : Int) + 1) = ((d' + 1 : Nat) : Int) := rfl
          rw [hcast]
          have hkey : ∀ k : Nat, PSm w ((wr.drewN k).setCell ⟨gw, r.length * 2 + 1, none⟩ (.int .i64 ((d' + 1 : Nat) : Int))) nx u3 (.slice (some ⟨gw, 0, none⟩) (r.length + 1) capw) s'.out s'.mks ((b, d' + 1) :: r) := fun k => by
            have hst : (wr.drewN k).ownsRow w.heap.size 86 2 (.slice (some ⟨gw, 0, none⟩) (r.length + 1) capw) (r.length + 1) (flat r.reverse ++ [.int .i64 b, .int .i64 (d' : Int)]) := HST.out
            obtain ⟨h1, hg⟩ := hst.stored (r.length * 2 + 1) (.int .i64 ((d' + 1 : Nat) : Int))
            have hout : (wr.drewN k).ownsRow w.heap.size 3 1 u3 s'.out.length (s'.out.map (Value.int .i64)) := HP.out.out
            have hmks : (wr.drewN k).ownsRow w.heap.size 4 1 (.slice (some ⟨w.heap.size, 0, none⟩) nx.length nx.length) nx.length (s'.mks.map Value.bool) := HP.out.mks
            refine ⟨World.ownsRow.kept hout hg (own_ne hout hst (by decide)), World.ownsRow.kept hmks hg (own_ne hmks hst (by decide)), ?_, (pw_below_drewN HP.out.below k).setCell (p := ⟨gw, r.length * 2 + 1, none⟩) (World.ownsRow.lt hst gw rfl).1 _⟩
            have hfl : (flat r.reverse).length = r.length * 2 := by rw [flat_length, List.length_reverse]
            rw [List.set_append_right _ _ (by omega), hfl, Nat.add_sub_cancel_left] at h1
            rw [List.reverse_cons, flat_snoc]
            exact h1
          have hinv := HP.out.inv
          have htgt := HP.out.tgt
          obtain ⟨w5, hw5⟩ : ∃ w5, w5 = (wr.drewN (q1 + nq)).setCell ⟨gw, r.length * 2 + 1, none⟩ (.int .i64 ((d' + 1 : Nat) : Int)) := ⟨_, rfl⟩
          rw [← hw5]
          have hP5 := hkey (q1 + nq)
          rw [← hw5] at hP5
          clear hkey hw5 hcast
          have hml : s'.mks.length = nx.length := hinv.len
          have cm := mark_cell hP5.mks hml t.toNat (by omega)
          have fm := hP5.mks.frozenAt t.toNat
          have HP5 := Aside0.mk hP5
          have HMS := Aside0.mk hm'
          have HML := Aside0.mk hml
          have HINV := Aside0.mk hinv
          have HTGT := Aside0.mk htgt
          clear cb cd fd hn hc2 hP5 HST hdm hm' hml hinv htgt
          by_cases hmk : s'.mks.getD t.toNat false = true
          · have HE := Aside0.mk (dstep_seen HS.out HG.out hmk)
            rw [hmk] at cm
            clear hmk
            go_wp2_with (fail)
            go_roundg (meas nx (dstep nx s'))
            case measure =>
              have := meas_step nx hw s' HINV.out (by rw [HS.out]; simp)
              have := HMS.out
              omega
            case rel =>
              have hi := inv_step nx hw s' HINV.out
              have ht := tgt_step nx hw HINV.out HTGT.out
              have hms := meas_step nx hw s' HINV.out (by rw [HS.out]; simp)
              refine ⟨rfl, dstep nx s', d' + 1, by rw [HE.out], ?_, Nat.le_refl _, by have := HMS.out; omega⟩
              refine ⟨?_, ?_, ?_, hi, ht, HP5.out.below⟩
              · rw [HE.out]; exact HP5.out.out
              · rw [HE.out]; exact HP5.out.mks
              · rw [HE.out]; exact HP5.out.st
          · have HE := Aside0.mk (dstep_new HS.out HG.out hmk)
            have hmf : s'.mks.getD t.toNat false = false := by simpa using hmk
            rw [hmf] at cm
            clear hmk hmf
            obtain ⟨hm6, hg6⟩ := HP5.out.mks.stored t.toNat (.bool true)
            have ho6 := World.ownsRow.kept HP5.out.out hg6 (own_ne HP5.out.out HP5.out.mks (by decide))
            have hs6 := World.ownsRow.kept HP5.out.st hg6 (own_ne HP5.out.st HP5.out.mks (by decide))
            have hb6 := HP5.out.below.setCell (p := ⟨w.heap.size, t.toNat, none⟩) (Nat.le_refl _) (.bool true)
            have HM6 := Aside0.mk hm6
            have HO6 := Aside0.mk ho6
            have HS6 := Aside0.mk hs6
            have HB6 := Aside0.mk hb6
            clear hm6 hg6 ho6 hs6 hb6
            go_upto_region 12 with (fail)
            clear cm fm
            revert HM6 HO6 HS6 HB6
            generalize w5.setCell ⟨w.heap.size, t.toNat, none⟩ (.bool true) = w6
            intro HM6 HO6 HS6 HB6
            obtain ⟨i86, hi86, hz860, hz861, hz862⟩ := info_parts info86
            have HI := Aside0.mk hi86
            have HZ0 := Aside0.mk hz860
            have HZ1 := Aside0.mk hz861
            have HZ2 := Aside0.mk hz862
            clear hi86 hz860 hz861 hz862
            go_wp2_with (first | ((with_reducible refine gate_builtin (b := .append) rfl ?_); refine Classical.byContradiction (fun hcon => ?hst)) | go_in)
            refine hcon ?_
            have hrl2 : r.length + 2 ≤ nx.length := by
              have := inv_len (inv_step nx hw s' HINV.out)
              rw [HE.out] at this
              simp only [List.length_cons] at this
              omega
            refine wpList_append_own _ rfl _ _ 87 rfl w.heap.size 86 i86 (.agg #[.int .i64 0, .int .i64 0]) 2 16 Try.underlying87 HI.out HZ0.out HZ1.out HZ2.out rfl (by decide) _ _ _ rfl (World.ownsRow.alloc HS6.out _) ⟨w6.heap.size, 0, none⟩ 1 1 [.int .i64 t, .int .i64 0] rfl rfl (cells2_new _ _ _ _) (by simp [Value.oneCell']) (by simp [maxLen]; omega) (by simp; omega) (by have := HB6.out.size; simp; omega) ?_
            intro v7 w7 hown7 hgrow7 _
            obtain ⟨g7, cap7, rfl⟩ := ownsRow_succ hown7
            have ho7 := World.ownsRow.kept (World.ownsRow.alloc HO6.out _) hgrow7 (own_ne HO6.out HS6.out (by decide))
            have hm7 := World.ownsRow.kept (World.ownsRow.alloc HM6.out _) hgrow7 (own_ne HM6.out HS6.out (by decide))
            have hb7 : Below w.heap.size w w7 := (below_alloc HB6.out _).grown hgrow7 (by have := HB6.out.size; simp; omega) (fun k e => (World.ownsRow.lt HS6.out k e).1)
            have HO7 := Aside0.mk ho7
            have HM7 := Aside0.mk hm7
            have HB7 := Aside0.mk hb7
            have HS7 := Aside0.mk hown7
            clear ho7 hm7 hb7 hown7 hgrow7
            go_wp2_with (fail)
            go_roundg (meas nx (dstep nx s'))
            case measure =>
              have := meas_step nx hw s' HINV.out (by rw [HS.out]; simp)
              have := HMS.out
              omega
            case rel =>
              have hi := inv_step nx hw s' HINV.out
              have ht := tgt_step nx hw HINV.out HTGT.out
              refine ⟨dstep nx s', ⟨?_, ?_, ?_, hi, ht, HB7.out⟩, Nat.le_refl _⟩
              · rw [HE.out]; exact HO7.out
              · rw [HE.out]
                have := HM7.out
                rw [List.map_set]
                exact this
              · rw [HE.out]
                have := HS7.out
                rw [List.reverse_cons, flat_snoc]
                exact this
        · have hdi : ((nb nx b).length : Int) ≤ (d' : Int) := by omega
          have HINV := Aside0.mk HP.out.inv
          have HMS := Aside0.mk hm'
          have hgn : (nb nx b)[d']? = none := List.getElem?_eq_none_iff.2 (by omega)
          have HE := Aside0.mk (dstep_none HS.out hgn)
          clear hgn
          clear hm'
          go_wp2_with (fail)
          go_quiet (fail)
          go_upto_region 13 with (fail)
          have ho8 : (wr.drewN nq).ownsRow w.heap.size 3 1 u3 s'.out.length (s'.out.map (Value.int .i64)) := HP.out.out
          have hm8 : (wr.drewN nq).ownsRow w.heap.size 4 1 (.slice (some ⟨w.heap.size, 0, none⟩) nx.length nx.length) nx.length (s'.mks.map Value.bool) := HP.out.mks
          have hs8 : (wr.drewN nq).ownsRow w.heap.size 86 2 (.slice (some ⟨gw, 0, none⟩) (r.length + 1) capw) (r.length + 1) (flat r.reverse ++ [.int .i64 b, .int .i64 (d' : Int)]) := HST.out
          have hb8 := pw_below_drewN HP.out.below nq
          have ht8 := HP.out.tgt
          have hol := inv_len HP.out.inv
          rw [HS.out, List.length_cons] at hol
          clear cb cd fd hn HP HST HCB
          revert ho8 hm8 hs8 hb8
          generalize wr.drewN nq = w8
          intro ho8 hm8 hs8 hb8
          have hfl : (flat r.reverse).length = r.length * 2 := by rw [flat_length, List.length_reverse]
          have cb : w8.cell? ⟨gw, r.length * 2, none⟩ = some (.int .i64 b) := by
            rw [hs8.cellAt _ (by omega), List.getElem?_append_right (by omega), hfl, Nat.sub_self]; rfl
          obtain ⟨Ao, co, rfl⟩ := row_slice ho8
          have HO8 := Aside0.mk ho8
          have HM8 := Aside0.mk hm8
          have HS8 := Aside0.mk hs8
          have HB8 := Aside0.mk hb8
          have HT8 := Aside0.mk ht8
          have HFL := Aside0.mk hfl
          clear ho8 hm8 hs8 hb8 ht8 hfl
          obtain ⟨i3, hi3, hz30, hz31, hz32⟩ := info_parts info3
          have HI := Aside0.mk hi3
          have HZ0 := Aside0.mk hz30
          have HZ1 := Aside0.mk hz31
          have HZ2 := Aside0.mk hz32
          clear hi3 hz30 hz31 hz32
          go_wp2_with (first | (at_builtin; refine wpList_append_own _ rfl _ _ 26 rfl w.heap.size 3 i3 (.int .i64 0) 1 8 Try.underlying26 HI.out HZ0.out HZ1.out HZ2.out rfl (by decide) _ _ _ rfl (World.ownsRow.alloc HO8.out _) ⟨w8.heap.size, 0, none⟩ 1 1 [.int .i64 b] rfl rfl (cell_one_new _ _ _) (by simp [Value.oneCell']) (by simp [maxLen]; omega) (by omega) (by have := HB8.out.size; simp; omega) ?_; intro v9 w9 hown9 hgrow9 _; refine Classical.byContradiction (fun hcon => ?hst2)) | go_in)
          refine hcon ?_
          obtain ⟨g9, cap9, rfl⟩ := ownsRow_succ hown9
          have hm9 := World.ownsRow.kept (World.ownsRow.alloc HM8.out _) hgrow9 (own_ne HM8.out HO8.out (by decide))
          have hs9 := World.ownsRow.kept (World.ownsRow.alloc HS8.out _) hgrow9 (own_ne HS8.out HO8.out (by decide))
          have hb9 : Below w.heap.size w w9 := (below_alloc HB8.out _).grown hgrow9 (by have := HB8.out.size; simp; omega) (fun k e => (World.ownsRow.lt HO8.out k e).1)
          have hp9 := ownsRow_pop (by rw [HFL.out]) hs9
          have HM9 := Aside0.mk hm9
          have HP9 := Aside0.mk hp9
          have HB9 := Aside0.mk hb9
          have HO9 := Aside0.mk hown9
          have hcapw : r.length + 1 ≤ capw := by
            rcases hs9.2 with ⟨h0, _⟩ | ⟨_, _, _, h0, _, _, h1, _⟩
            · cases h0
            · cases h0; exact h1
          clear hm9 hs9 hb9 hp9 hown9 hgrow9 cb
          go_wp2_with (fail)
          go_roundg (meas nx (dstep nx s'))
          case measure =>
            have := meas_step nx hw s' HINV.out (by rw [HS.out]; simp)
            have := HMS.out
            omega
          case rel =>
            have hi := inv_step nx hw s' HINV.out
            have ht := tgt_step nx hw HINV.out HT8.out
            refine ⟨dstep nx s', ⟨?_, ?_, ?_, hi, ht, HB9.out⟩, Nat.le_refl _⟩
            · rw [HE.out]
              have := HO9.out
              simpa using this
            · rw [HE.out]; exact HM9.out
            · rw [HE.out]; exact HP9.out
end Go.Proofs.Ytmeaepmimnmjlaa.Ask
/- graph.dominators, plainly: rounds over the blocks in reverse postorder; each round that changes something leaves less to be done; what it ends with. -/
namespace Go.Proofs.Ytmeaepmimnmjlaa.Dom
open Go.RowKit Go.Proofs.Ytmeaepmimnmjlaa.PGb Go.Proofs.Ytmeaepmimnmjlaa.Ask Go.Proofs.Ytmeaepmimnmjlaa.Dfs Go.Proofs.Ytmeaepmimnmjlaa.DomT Go.Proofs.YtmeaepmimnmjlaaW.PrintWords
set_option linter.unusedVariables false
def atOf (l : List Int) : List Int → Int → Int
  | [], at_ => at_
  | a :: r, at_ => atOf l r (if a ≠ 0 ∧ rd l a < 0 then at_ else if at_ < 0 then a else meetOf l at_ a)
def procB (ah : List (List Int)) (s : List Int × Bool) (b : Int) : List Int × Bool :=
  if b = 0 then s else if rd s.1 b ≠ atOf s.1 (ah.getD b.toNat []) (-1) then (s.1.set b.toNat (atOf s.1 (ah.getD b.toNat []) (-1)), true) else s
/-- what may come ahead of each block -/
structure Ahd (nx ah : List (List Int)) : Prop where
  len : ah.length = nx.length
  mem : ∀ c : Int, 0 ≤ c → c < nx.length → ∀ a, a ∈ ah.getD c.toNat [] ↔ (a ∈ post nx ∧ c ∈ nb nx a)
def Sx (nx : List (List Int)) (b : Int) : Prop := b ∈ post nx
def posx (nx : List (List Int)) (b : Int) : Nat := (post nx).reverse.idxOf b
def Ex (nx : List (List Int)) (a b : Int) : Prop := a ∈ post nx ∧ b ∈ nb nx a
section
variable {nx : List (List Int)}
theorem idx_split {pre r : List Int} {b : Int} (hn : (pre ++ b :: r).Nodup) : (pre ++ b :: r).reverse.idxOf b = r.length := by
  have e : (pre ++ b :: r).reverse = r.reverse ++ b :: pre.reverse := by simp
  have hb : b ∉ r.reverse := by
    intro h
    rw [List.nodup_append] at hn
    have := (List.nodup_cons.1 hn.2.1).1
    exact this (List.mem_reverse.1 h)
  rw [e, List.idxOf_append, if_neg hb]
  simp
theorem gr (hw : Wf nx) : Gr (Sx nx) (posx nx) (Ex nx) := by
  have hn := post_nodup nx hw
  obtain ⟨l, hl⟩ := post_last nx hw
  refine ⟨post_zero nx hw, ?_, fun a b ha hb h => ?_, fun a b h _ => h.1, fun b hb => (post_bound nx hw hb).1, fun b hb hb0 => ?_⟩
  · unfold posx; rw [hl]; simp
  · unfold posx at h
    have h1 : (post nx).reverse.idxOf a < (post nx).reverse.length := List.idxOf_lt_length_iff.2 (List.mem_reverse.2 ha)
    have h2 : (post nx).reverse.idxOf b < (post nx).reverse.length := List.idxOf_lt_length_iff.2 (List.mem_reverse.2 hb)
    have e1 := List.getElem_idxOf h1
    have e2 := List.getElem_idxOf h2
    rw [← e1, ← e2]
    congr 1
  · obtain ⟨pre, r, he⟩ := List.append_of_mem hb
    obtain ⟨a, ha, har⟩ := post_par nx hw he hb0
    refine ⟨a, ⟨by rw [he]; simp [har], ha⟩, ?_⟩
    obtain ⟨p2, r2, hr⟩ := List.append_of_mem har
    have e2 : post nx = (pre ++ b :: p2) ++ a :: r2 := by rw [he, hr]; simp
    have h1 : posx nx b = r.length := by unfold posx; rw [he]; exact idx_split (he ▸ hn)
    have h2 : posx nx a = r2.length := by unfold posx; rw [e2]; exact idx_split (e2 ▸ hn)
    rw [h1, h2, hr]; simp; omega
theorem pos_lt (hw : Wf nx) {b : Int} (h : Sx nx b) : posx nx b < nx.length := by
  have h1 : (post nx).reverse.idxOf b < (post nx).reverse.length := List.idxOf_lt_length_iff.2 (List.mem_reverse.2 h)
  rw [List.length_reverse] at h1
  have := post_length nx hw
  unfold posx
  omega
variable {l : List Int} {i : Nat}
theorem rd_range (hl : l.length = nx.length) {b : Int} (hw : Wf nx) (hs : Sx nx b) : 0 ≤ b ∧ b < (l.length : Int) := by
  have := post_bound nx hw hs
  omega
/-- the list of what lies above is the way up -/
theorem doms_anc (hw : Wf nx) (hl : l.length = nx.length) (h : InP (Sx nx) (posx nx) (Ex nx) i (rd l)) : ∀ (k : Nat) (x : Int), Sx nx x → Proc (rd l) x → posx nx x < k → ∀ y, y ∈ doms l k x ↔ Anc (rd l) x y
  | 0, x, _, _, hk, _ => by omega
  | k + 1, x, hs, hp, hk, y => by
    have hr := rd_range hl hw hs
    unfold doms
    rw [if_pos hr, List.mem_cons]
    by_cases hx : x = 0
    · subst hx
      have hneg : rd l 0 < 0 := h.z
      have hd : doms l k (rd l 0) = [] := by
        cases k with
        | zero => rfl
        | succ k => unfold doms; rw [if_neg (by omega)]
      rw [hd]
      constructor
      · rintro (rfl | h1)
        · exact .refl _
        · cases h1
      · intro h1
        cases h1 with
        | refl => exact .inl rfl
        | step h2 _ => omega
    · have h0 : 0 ≤ rd l x := hp.resolve_left hx
      obtain ⟨a1, a2, a3⟩ := h.a x hs hx h0
      have ih := doms_anc hw hl h k (rd l x) a1 a3 (by omega) y
      rw [ih]
      constructor
      · rintro (rfl | h1)
        · exact .refl _
        · exact .step h0 h1
      · intro h1
        cases h1 with
        | refl => exact .inl rfl
        | step _ h2 => exact .inr h2
theorem firstIn_anc (hw : Wf nx) (hl : l.length = nx.length) (h : InP (Sx nx) (posx nx) (Ex nx) i (rd l)) (D : List Int) : ∀ (k : Nat) (x : Int), Sx nx x → Proc (rd l) x → posx nx x < k → (∃ y, Anc (rd l) x y ∧ y ∈ D) → Anc (rd l) x (firstIn D (doms l k x)) ∧ firstIn D (doms l k x) ∈ D ∧ ∀ y, Anc (rd l) x y → y ∈ D → Anc (rd l) (firstIn D (doms l k x)) y
  | 0, x, _, _, hk, _ => by omega
  | k + 1, x, hs, hp, hk, ⟨y0, hy0, hd0⟩ => by
    have hr := rd_range hl hw hs
    unfold doms
    rw [if_pos hr, firstIn]
    by_cases hxD : x ∈ D
    · rw [if_pos hxD]
      exact ⟨.refl _, hxD, fun y hy _ => hy⟩
    · rw [if_neg hxD]
      cases hy0 with
      | refl => exact absurd hd0 hxD
      | step h0 h1 =>
        have hx : x ≠ 0 := fun e => by rw [e] at h0; have := h.z; omega
        obtain ⟨a1, a2, a3⟩ := h.a x hs hx h0
        obtain ⟨i1, i2, i3⟩ := firstIn_anc hw hl h D k (rd l x) a1 a3 (by omega) ⟨y0, h1, hd0⟩
        refine ⟨.step h0 i1, i2, fun y hy hyD => ?_⟩
        cases hy with
        | refl => exact absurd hyD hxD
        | step _ h2 => exact i3 y h2 hyD
theorem meet_anc (hw : Wf nx) (hl : l.length = nx.length) (h : InP (Sx nx) (posx nx) (Ex nx) i (rd l)) {a b : Int} (ha : Sx nx a) (hpa : Proc (rd l) a) (hb : Sx nx b) (hpb : Proc (rd l) b) :
    Anc (rd l) a (meetOf l a b) ∧ Anc (rd l) b (meetOf l a b) ∧ ∀ y, Anc (rd l) a y → Anc (rd l) b y → Anc (rd l) (meetOf l a b) y := by
  have hD := doms_anc hw hl h l.length b hb hpb (by rw [hl]; exact pos_lt hw hb)
  obtain ⟨h1, h2, h3⟩ := firstIn_anc hw hl h (doms l l.length b) l.length a ha hpa (by rw [hl]; exact pos_lt hw ha) ⟨0, h.zero_up (gr hw) _ a (Nat.le_refl _) ha hpa, (hD 0).2 (h.zero_up (gr hw) _ b (Nat.le_refl _) hb hpb)⟩
  exact ⟨h1, (hD _).1 h2, fun y hy hy' => h3 y hy ((hD y).2 hy')⟩
/-- what is known while the blocks ahead are gone through -/
def Acc (nx : List (List Int)) (u : Int → Int) (done : List Int) (at_ : Int) : Prop :=
  ((∃ a ∈ done, Proc u a) → 0 ≤ at_ ∧ Sx nx at_ ∧ Proc u at_ ∧ IsMeet u (fun a => a ∈ done ∧ Proc u a) at_) ∧ ((∀ a ∈ done, ¬ Proc u a) → at_ = -1)
theorem atOf_acc (hw : Wf nx) (hl : l.length = nx.length) (h : InP (Sx nx) (posx nx) (Ex nx) i (rd l)) : ∀ (r done : List Int) (at_ : Int), (∀ a ∈ done ++ r, Sx nx a) → Acc nx (rd l) done at_ → Acc nx (rd l) (done ++ r) (atOf l r at_)
  | [], done, at_, _, hA => by rw [List.append_nil]; exact hA
  | a :: r, done, at_, hS, hA => by
    have ha : Sx nx a := hS a (by simp)
    have hnn := (post_bound nx hw ha).1
    have e : done ++ a :: r = (done ++ [a]) ++ r := by simp
    rw [e]
    unfold atOf
    refine atOf_acc hw hl h r (done ++ [a]) _ (by rw [← e]; exact hS) ?_
    have hiff : ¬ (a ≠ 0 ∧ rd l a < 0) ↔ Proc (rd l) a := by
      unfold Proc
      constructor
      · intro h1
        by_cases h2 : a = 0
        · exact .inl h2
        · right; exact Int.not_lt.1 (fun h3 => h1 ⟨h2, h3⟩)
      · rintro (h1 | h1) ⟨h2, h3⟩
        · exact h2 h1
        · omega
    by_cases hs : a ≠ 0 ∧ rd l a < 0
    · rw [if_pos hs]
      have hnp : ¬ Proc (rd l) a := fun hp => (hiff.2 hp) hs
      refine ⟨fun ⟨x, hx, hp⟩ => ?_, fun hn => hA.2 (fun x hx => hn x (by simp [hx]))⟩
      have hxd : x ∈ done := by
        rcases List.mem_append.1 hx with h1 | h1
        · exact h1
        · rw [List.mem_singleton.1 h1] at hp; exact absurd hp hnp
      obtain ⟨a1, a2, a3, a4, a5⟩ := hA.1 ⟨x, hxd, hp⟩
      refine ⟨a1, a2, a3, fun y ⟨hy, hpy⟩ => ?_, fun y hy => a5 y (fun z ⟨hz, hpz⟩ => hy z ⟨by simp [hz], hpz⟩)⟩
      rcases List.mem_append.1 hy with h1 | h1
      · exact a4 y ⟨h1, hpy⟩
      · rw [List.mem_singleton.1 h1] at hpy; exact absurd hpy hnp
    · rw [if_neg hs]
      have hp := hiff.1 hs
      refine ⟨fun _ => ?_, fun hn => absurd hp (hn a (by simp))⟩
      by_cases hex : ∃ x ∈ done, Proc (rd l) x
      · obtain ⟨a1, a2, a3, a4, a5⟩ := hA.1 hex
        rw [if_neg (by omega)]
        obtain ⟨m1, m2, m3⟩ := meet_anc hw hl h a2 a3 ha hp
        obtain ⟨sm, pm, _, _⟩ := h.up m2 ha hp
        refine ⟨(post_bound nx hw sm).1, sm, pm, fun y ⟨hy, hpy⟩ => ?_, fun y hy => m3 y (a5 y (fun z ⟨hz, hpz⟩ => hy z ⟨by simp [hz], hpz⟩)) (hy a ⟨by simp, hp⟩)⟩
        rcases List.mem_append.1 hy with h1 | h1
        · exact (a4 y ⟨h1, hpy⟩).trans m1
        · rw [List.mem_singleton.1 h1]; exact m2
      · have hat := hA.2 (fun x hx hpx => hex ⟨x, hx, hpx⟩)
        rw [hat, if_pos (by omega)]
        refine ⟨hnn, ha, hp, fun y ⟨hy, hpy⟩ => ?_, fun y hy => hy a ⟨by simp, hp⟩⟩
        rcases List.mem_append.1 hy with h1 | h1
        · exact absurd ⟨y, h1, hpy⟩ hex
        · rw [List.mem_singleton.1 h1]; exact .refl _
theorem atOf_meet {ah : List (List Int)} (hw : Wf nx) (hah : Ahd nx ah) (hl : l.length = nx.length) (h : InP (Sx nx) (posx nx) (Ex nx) i (rd l)) {b : Int} (hb : Sx nx b) (hb0 : b ≠ 0) (hi : posx nx b = i) : IsMeet (rd l) (fun a => Ex nx a b ∧ Proc (rd l) a) (atOf l (ah.getD b.toNat []) (-1)) := by
  have hbb := post_bound nx hw hb
  have hm := hah.mem b hbb.1 hbb.2
  have hA := atOf_acc hw hl h (ah.getD b.toNat []) [] (-1) (fun a ha => ((hm a).1 (by simpa using ha)).1) ⟨fun ⟨a, ha, _⟩ => absurd ha List.not_mem_nil, fun _ => rfl⟩
  rw [List.nil_append] at hA
  obtain ⟨p, hp1, hp2⟩ := (gr hw).par b hb hb0
  have hpp := h.pr p hp1.1 (by omega)
  obtain ⟨_, _, _, m1, m2⟩ := hA.1 ⟨p, (hm p).2 hp1, hpp⟩
  exact ⟨fun a ⟨ha, hpa⟩ => m1 a ⟨(hm a).2 ha, hpa⟩, fun y hy => m2 y (fun a ⟨ha, hpa⟩ => hy a ⟨(hm a).1 ha, hpa⟩)⟩
theorem rd_set {b m : Int} (hb0 : b ≠ 0) (hb : 0 ≤ b ∧ b < (l.length : Int)) : rd (l.set b.toNat m) = upd (rd l) b m := by
  funext x
  unfold rd upd
  simp only [List.getD_eq_getElem?_getD, List.getElem?_set]
  by_cases hx : x = b
  · subst hx
    rw [if_pos rfl, if_pos rfl, if_pos (by omega)]; rfl
  · rw [if_neg hx]
    by_cases h2 : b.toNat = x.toNat
    · exfalso; omega
    · rw [if_neg h2]
theorem upd_id {u : Int → Int} {b : Int} : upd u b (u b) = u := by
  funext x
  unfold upd
  split
  · rename_i h; rw [h]
  · rfl
/-- how much the blocks of a list are worth -/
def worth (nx : List (List Int)) (l : List Int) : List Int → Nat
  | [] => 0
  | b :: r => (if rd l b < 0 then nx.length + 1 else posx nx (rd l b)) + worth nx l r
theorem worth_other {b m : Int} (hb0 : b ≠ 0) (hb : 0 ≤ b ∧ b < (l.length : Int)) : ∀ (r : List Int), b ∉ r → worth nx (l.set b.toNat m) r = worth nx l r
  | [], _ => rfl
  | x :: r, h => by
    have h1 : x ≠ b := fun e => h (e ▸ List.mem_cons_self)
    unfold worth
    rw [worth_other hb0 hb r (fun e => h (List.mem_cons_of_mem _ e)), rd_set hb0 hb, upd_ne _ _ h1]
theorem worth_less {b m : Int} (hb0 : b ≠ 0) (hb : 0 ≤ b ∧ b < (l.length : Int)) (hm : 0 ≤ m) (hlt : posx nx m < (if rd l b < 0 then nx.length + 1 else posx nx (rd l b))) : ∀ (r : List Int), r.Nodup → b ∈ r → worth nx (l.set b.toNat m) r < worth nx l r
  | [], _, h => by cases h
  | x :: r, hn, h => by
    obtain ⟨h1, h2⟩ := List.nodup_cons.1 hn
    unfold worth
    by_cases hx : x = b
    · subst hx
      rw [worth_other hb0 hb r h1, rd_set hb0 hb, upd_same, if_neg (by omega)]
      omega
    · have := worth_less hb0 hb hm hlt r h2 (by
        rcases List.mem_cons.1 h with h3 | h3
        · exact absurd h3.symm hx
        · exact h3)
      rw [rd_set hb0 hb, upd_ne _ _ hx]
      omega
def ord (nx : List (List Int)) : List Int := (post nx).reverse
/-- what is known in the midst of a round that began with l0 -/
structure Mids (nx ah : List (List Int)) (l0 : List Int) (pre : List Int) (s : List Int × Bool) : Prop where
  len : s.1.length = nx.length
  inp : InP (Sx nx) (posx nx) (Ex nx) (max 1 pre.length) (rd s.1)
  off : ∀ b : Int, 0 ≤ b → b < nx.length → b ∉ post nx → rd s.1 b = -1
  w : worth nx s.1 (ord nx) ≤ worth nx l0 (ord nx)
  ch : s.2 = true → worth nx s.1 (ord nx) < worth nx l0 (ord nx)
  same : s.2 = false → s.1 = l0 ∧ ∀ c ∈ pre, c ≠ 0 → IsMeet (rd l0) (fun a => Ex nx a c ∧ Proc (rd l0) a) (rd l0 c)
theorem mids_step {ah : List (List Int)} (hw : Wf nx) (hah : Ahd nx ah) {l0 pre r : List Int} {b : Int} {s : List Int × Bool} (ho : ord nx = pre ++ b :: r) (h : Mids nx ah l0 pre s) : Mids nx ah l0 (pre ++ [b]) (procB ah s b) := by
  have hn : (ord nx).Nodup := by unfold ord; exact ((post nx).reverse_perm.nodup_iff).2 (post_nodup nx hw)
  have hbm : b ∈ post nx := List.mem_reverse.1 (show b ∈ ord nx by rw [ho]; simp)
  have hpos : posx nx b = pre.length := by
    have hnp : b ∉ pre := by
      rw [ho, List.nodup_append] at hn
      exact fun hx => hn.2.2 b hx b List.mem_cons_self rfl
    show (ord nx).idxOf b = _
    rw [ho, List.idxOf_append, if_neg hnp]
    simp
  unfold procB
  by_cases hb0 : b = 0
  · rw [if_pos hb0]
    have hp0 : pre.length = 0 := by rw [← hpos, hb0]; exact (gr hw).pos0
    refine ⟨h.len, ?_, h.off, h.w, h.ch, fun hf => ⟨(h.same hf).1, fun c hc hc0 => ?_⟩⟩
    · have := h.inp
      rw [List.length_append, hp0] at *
      exact this
    · rcases List.mem_append.1 hc with h1 | h1
      · exact (h.same hf).2 c h1 hc0
      · exact absurd ((List.mem_singleton.1 h1).trans hb0) hc0
  · rw [if_neg hb0]
    have hp1 : 1 ≤ pre.length := by
      refine Nat.one_le_iff_ne_zero.2 (fun e => hb0 ((gr hw).inj b 0 hbm (gr hw).zero ?_))
      rw [hpos, e, (gr hw).pos0]
    have hmx : max 1 pre.length = pre.length := Nat.max_eq_right hp1
    have hinp := h.inp
    rw [hmx] at hinp
    have hmx' : max 1 (pre ++ [b]).length = pre.length + 1 := by rw [List.length_append, List.length_singleton]; exact Nat.max_eq_right (by omega)
    have hbr := rd_range h.len hw hbm
    obtain ⟨m, hm⟩ : ∃ m, atOf s.1 (ah.getD b.toNat []) (-1) = m := ⟨_, rfl⟩
    have hmeet := atOf_meet hw hah h.len hinp hbm hb0 hpos
    rw [hm] at hmeet ⊢
    obtain ⟨n1, n2, n3, n4, n5⟩ := hinp.next (gr hw) hbm hb0 hpos hmeet
    by_cases he : rd s.1 b = m
    · rw [if_neg (fun hne => hne he)]
      rw [← he, upd_id] at n1
      refine ⟨h.len, by rw [hmx']; exact n1, h.off, h.w, h.ch, fun hf => ⟨(h.same hf).1, fun c hc hc0 => ?_⟩⟩
      rcases List.mem_append.1 hc with h1 | h1
      · exact (h.same hf).2 c h1 hc0
      · rw [List.mem_singleton.1 h1, ← (h.same hf).1, he]; exact hmeet
    · rw [if_pos he]
      have hlt : posx nx m < (if rd s.1 b < 0 then nx.length + 1 else posx nx (rd s.1 b)) := by
        have := pos_lt hw n3
        by_cases h0 : rd s.1 b < 0
        · rw [if_pos h0]; omega
        · rw [if_neg h0]
          obtain ⟨q1, q2⟩ := n5 (by omega)
          have : posx nx m ≠ posx nx (rd s.1 b) := fun e => he (q2 e).symm
          omega
      have hwl := worth_less (nx := nx) (l := s.1) hb0 hbr n2 hlt (ord nx) hn (by rw [ho]; simp)
      refine ⟨by simp [h.len], ?_, fun c hc0 hc1 hcp => ?_, ?_, fun _ => ?_, fun hf => by cases hf⟩
      · rw [hmx', rd_set hb0 hbr]; exact n1
      · have hcb : c ≠ b := fun e => hcp (e ▸ hbm)
        rw [rd_set hb0 hbr, upd_ne _ _ hcb]; exact h.off c hc0 hc1 hcp
      · have := h.w; simp only; omega
      · have := h.w; simp only; omega
theorem mids_fold {ah : List (List Int)} (hw : Wf nx) (hah : Ahd nx ah) {l0 : List Int} : ∀ (r pre : List Int) (s : List Int × Bool), ord nx = pre ++ r → Mids nx ah l0 pre s → Mids nx ah l0 (ord nx) (r.foldl (procB ah) s)
  | [], pre, s, ho, h => by rw [List.append_nil] at ho; rw [ho]; exact h
  | b :: r, pre, s, ho, h => by
    rw [List.foldl_cons]
    exact mids_fold hw hah r (pre ++ [b]) _ (by rw [ho]; simp) (mids_step hw hah ho h)
/-- what is known between two rounds -/
structure Good (nx : List (List Int)) (l : List Int) : Prop where
  len : l.length = nx.length
  inp : InP (Sx nx) (posx nx) (Ex nx) 1 (rd l)
  off : ∀ b : Int, 0 ≤ b → b < nx.length → b ∉ post nx → rd l b = -1
theorem good_start (hw : Wf nx) : Good nx (List.replicate nx.length (-1)) := by
  have hrd : ∀ b : Int, 0 ≤ b → b < nx.length → rd (List.replicate nx.length (-1)) b = -1 := fun b h0 h1 => by
    unfold rd
    rw [List.getD_eq_getElem?_getD, List.getElem?_replicate, if_pos (by omega)]; rfl
  refine ⟨List.length_replicate, InP.start (gr hw) (fun b hb => ?_), fun b h0 h1 _ => hrd b h0 h1⟩
  have := post_bound nx hw hb
  rw [hrd b this.1 this.2]; decide
theorem good_mids {ah l0 : List _} (hw : Wf nx) (h : Good nx l0) : Mids nx ah l0 [] (l0, false) :=
  ⟨h.len, h.inp, h.off, Nat.le_refl _, fun hf => (by cases hf), fun _ => ⟨rfl, fun c hc => (by cases hc)⟩⟩
/-- one round -/
def pass (nx ah : List (List Int)) (l : List Int) : List Int × Bool := (ord nx).foldl (procB ah) (l, false)
theorem pass_mids {ah : List (List Int)} (hw : Wf nx) (hah : Ahd nx ah) (h : Good nx l) : Mids nx ah l (ord nx) (pass nx ah l) :=
  mids_fold hw hah (ord nx) [] _ rfl (good_mids hw h)
theorem pass_good {ah : List (List Int)} (hw : Wf nx) (hah : Ahd nx ah) (h : Good nx l) : Good nx (pass nx ah l).1 := by
  have hm := pass_mids hw hah h
  exact ⟨hm.len, hm.inp.again (gr hw) (Nat.le_max_left _ _), hm.off⟩
/-- what it ends with -/
structure IsDom (nx : List (List Int)) (l : List Int) : Prop where
  len : l.length = nx.length
  off : ∀ b : Int, 0 ≤ b → b < nx.length → b ∉ post nx → rd l b = -1
  zero : rd l 0 = -1
  up : ∀ b, b ∈ post nx → b ≠ 0 → rd l b ∈ post nx ∧ posx nx (rd l b) < posx nx b
  anc : ∀ x, x ∈ post nx → ∀ d, Anc (rd l) x d ↔ ¬ AR (Ex nx) d x
  doms : ∀ x, x ∈ post nx → ∀ d, d ∈ doms l l.length x ↔ ¬ AR (Ex nx) d x
theorem pass_end {ah : List (List Int)} (hw : Wf nx) (hah : Ahd nx ah) (h : Good nx l) (hz : rd l 0 = -1) (hf : (pass nx ah l).2 = false) : IsDom nx l := by
  have hm := pass_mids hw hah h
  obtain ⟨h1, h2⟩ := hm.same hf
  have hinp := hm.inp
  rw [h1] at hinp
  have hall : ∀ b, Sx nx b → Proc (rd l) b := fun b hb => hinp.pr b hb (by
    have h3 : (post nx).reverse.idxOf b < (post nx).reverse.length := List.idxOf_lt_length_iff.2 (List.mem_reverse.2 hb)
    have : posx nx b < (ord nx).length := h3
    have := Nat.le_max_right 1 (ord nx).length
    omega)
  have hanc : ∀ x, x ∈ post nx → ∀ d, Anc (rd l) x d ↔ ¬ AR (Ex nx) d x := hinp.final (gr hw) hall (fun c hc hc0 a ea => (h2 c (List.mem_reverse.2 hc) hc0).1 a ⟨ea, hall a ea.1⟩)
  refine ⟨h.len, h.off, hz, fun b hb hb0 => ?_, hanc, fun x hx d => ?_⟩
  · obtain ⟨a1, a2, _⟩ := hinp.a b hb hb0 ((hall b hb).resolve_left hb0)
    exact ⟨a1, a2⟩
  · rw [doms_anc hw h.len hinp l.length x hx (hall x hx) (by rw [h.len]; exact pos_lt hw hx) d]
    exact hanc x hx d
end
end Go.Proofs.Ytmeaepmimnmjlaa.Dom
/- Rows of rows of the function's own; slices.Backward by places; marks left behind; what graph.dominators gathers ahead of each block. -/
namespace Go.Proofs.Ytmeaepmimnmjlaa.Ask
open Go.RowKit Go.Shelf Go.Proofs.Ytmeaepmimnmjlaa.PGb Go.Proofs.Ytmeaepmimnmjlaa.Lit Go.Proofs.Ytmeaepmimnmjlaa.OwnCells Go.Proofs.YtmeaepmimnmjlaaW.PrintWords Go.Proofs.YtmeaepmimnmjlaaW.PrintLast Go.Proofs.YtmeaepmimnmjlaaW.PrintMore
attribute [local go_sem] Oper.semAt_some
set_option linter.unusedVariables false
set_option linter.unusedSimpArgs false
theorem own_held {w w1 : World} {base : Nat} {e : TypeId} {size n : Nat} {v : Value} {xs : List Value} (h : w.ownsRow base e size v n xs) (hm : ∀ k o, base ≤ k → w.heap[k]? = some o → o.isCells = true → w1.heap[k]? = some o) : w1.ownsRow base e size v n xs :=
  own_move h fun k hk => by
    obtain ⟨cells, hc⟩ := own_typed h k hk
    exact (hm k _ (own_base h k hk) hc rfl).trans hc.symm
structure Grid (W : World) (base ga n : Nat) (vs : List Value) (ah : List (List Int)) : Prop where
  row : W.ownsRow base 26 1 (.slice (some ⟨ga, 0, none⟩) n n) n vs
  len : ah.length = n
  each : ∀ i, i < n → W.ownsRow base 3 1 (vs.getD i undef) (ah.getD i []).length ((ah.getD i []).map (Value.int .i64))
  apart : ∀ i j, i < n → j < n → i ≠ j → (vs.getD i undef).ownBlock = none ∨ (vs.getD i undef).ownBlock ≠ (vs.getD j undef).ownBlock
section
variable {W W' : World} {base ga n : Nat} {vs : List Value} {ah : List (List Int)}
theorem Grid.vlen (h : Grid W base ga n vs ah) : vs.length = n := by have := h.row.1; omega
theorem Grid.held (h : Grid W base ga n vs ah) (hm : ∀ k o, base ≤ k → W.heap[k]? = some o → o.isCells = true → W'.heap[k]? = some o) : Grid W' base ga n vs ah :=
  ⟨own_held h.row hm, h.len, fun i hi => own_held (h.each i hi) hm, h.apart⟩
theorem Grid.typed (h : Grid W base ga n vs ah) (hm : ∀ k cs e, base ≤ k → (e = 26 ∨ e = 3) → W.heap[k]? = some (.cells cs e (0, 0)) → W'.heap[k]? = some (.cells cs e (0, 0))) : Grid W' base ga n vs ah := by
  have hx : ∀ {e size n : Nat} {v : Value} {xs : List Value}, (e = 26 ∨ e = 3) → W.ownsRow base e size v n xs → W'.ownsRow base e size v n xs := fun he h => own_move h fun k hk => by
    obtain ⟨cells, hc⟩ := own_typed h k hk
    exact (hm k _ _ (own_base h k hk) he hc).trans hc.symm
  exact ⟨hx (.inl rfl) h.row, h.len, fun i hi => hx (.inr rfl) (h.each i hi), h.apart⟩
theorem Grid.box (h : Grid W base ga n vs ah) {g : Nat} {v : Value} (hg : Boxed W g 4 v) (u : Value) : Grid (W.setCell ⟨g, 0, none⟩ u) base ga n vs ah :=
  h.typed fun k cs e _ he hk => (Below.heap_setCell W ⟨g, 0, none⟩ u k (fun e1 => by
    simp only at e1
    subst e1
    have := hk.symm.trans hg
    simp only [Option.some.injEq, Obj.cells.injEq] at this
    rcases he with rfl | rfl
    · exact absurd this.2.1 (by decide)
    · exact absurd this.2.1 (by decide))).trans hk
theorem Grid.from_ (h : Grid W base ga n vs ah) {m : Nat} (hb : Below m W W') (hm : W.heap.size ≤ m) : Grid W' base ga n vs ah :=
  h.held fun k o _ hk _ => (hb.block k (by have := blk_lt hk; omega)).trans hk
theorem Grid.far (h : Grid W base ga n vs ah) {p : Addr} (hp : p.block < base) (u : Value) : Grid (W.setCell p u) base ga n vs ah :=
  h.held fun k o hk h1 _ => (Below.heap_setCell W p u k (by omega)).trans h1
theorem Grid.alloc (h : Grid W base ga n vs ah) (o : Obj) : Grid (W.alloc o) base ga n vs ah :=
  h.held fun k o' _ h1 _ => by
    have hk := blk_lt h1
    exact ((World.grownBy_alloc W o none).block k hk (by simp)).trans h1
theorem Grid.cellAt (h : Grid W base ga n vs ah) {i : Nat} (hi : i < n) : W.cell? ⟨ga, i, none⟩ = some (vs.getD i undef) := by
  have := h.vlen
  rw [h.row.cellAt i (by omega), List.getD_eq_getElem?_getD, List.getElem?_eq_getElem (by omega)]; rfl
theorem Grid.own (base ga n : Nat) (B : Nat) : OwnFrom (β := Unit) B (fun _ W => Grid W base ga n vs ah) := fun _ X Y row hs hg hr =>
  hs.held fun k o _ hk hc => by
    refine (hg.block k (blk_lt hk) (fun e => ?_)).trans hk
    obtain ⟨o', ho', hc'⟩ := (hr k e.symm).2
    rw [hk] at ho'
    cases ho'
    rw [hc] at hc'
    cases hc'
/-- one row is written anew -/
theorem Grid.put (h : Grid W base ga n vs ah) {i : Nat} (hi : i < n) {v' : Value} {l : List Int} (hv : W'.ownsRow base 3 1 v' l.length (l.map (Value.int .i64))) (hg : W.grownBy W' (vs.getD i undef).ownBlock) (hat : ∀ k, v'.ownBlock = some k → (vs.getD i undef).ownBlock = some k ∨ W.heap.size ≤ k) :
    Grid (W'.setCell ⟨ga, i, none⟩ v') base ga n (vs.set i v') (ah.set i l) := by
  have hvl := h.vlen
  have hrow : W'.ownsRow base 26 1 (.slice (some ⟨ga, 0, none⟩) n n) n vs := h.row.kept hg (own_ne h.row (h.each i hi) (by decide))
  obtain ⟨h1, h2⟩ := hrow.stored i v'
  have hel : ∀ j, j < n → j ≠ i → W'.ownsRow base 3 1 (vs.getD j undef) (ah.getD j []).length ((ah.getD j []).map (Value.int .i64)) := fun j hj hne => (h.each j hj).kept hg (h.apart j i hj hi hne)
  have hset : ∀ j, (vs.set i v').getD j undef = if j = i then v' else vs.getD j undef := fun j => by
    simp only [List.getD_eq_getElem?_getD, List.getElem?_set]
    by_cases hji : j = i
    · subst hji; rw [if_pos rfl, if_pos rfl, if_pos (by omega)]; rfl
    · rw [if_neg hji, if_neg (Ne.symm hji)]
  have hseta : ∀ j, (ah.set i l).getD j [] = if j = i then l else ah.getD j [] := fun j => by
    have := h.len
    simp only [List.getD_eq_getElem?_getD, List.getElem?_set]
    by_cases hji : j = i
    · subst hji; rw [if_pos rfl, if_pos rfl, if_pos (by omega)]; rfl
    · rw [if_neg hji, if_neg (Ne.symm hji)]
  have hnew : ∀ j, j < n → j ≠ i → (vs.getD j undef).ownBlock = none ∨ (vs.getD j undef).ownBlock ≠ v'.ownBlock := fun j hj hne => by
    cases hb : (vs.getD j undef).ownBlock with
    | none => exact .inl rfl
    | some k =>
      right
      intro e2
      rcases hat k e2.symm with e | e
      · rcases h.apart j i hj hi hne with e3 | e3
        · rw [hb] at e3; cases e3
        · exact e3 (hb.trans e.symm)
      · have := own_lt (h.each j hj) k hb
        omega
  refine ⟨h1, by rw [List.length_set]; exact h.len, fun j hj => ?_, fun j k hj hk hne => ?_⟩
  · rw [hset, hseta]
    by_cases hji : j = i
    · rw [if_pos hji, if_pos hji]
      exact hv.kept h2 (own_ne hv hrow (by decide))
    · rw [if_neg hji, if_neg hji]
      have := hel j hj hji
      exact this.kept h2 (own_ne this hrow (by decide))
  · rw [hset, hset]
    by_cases hji : j = i
    · by_cases hki : k = i
      · exact absurd (hji.trans hki.symm) hne
      · rw [if_pos hji, if_neg hki]
        rcases hnew k hk hki with e | e
        · rw [e]
          cases hb : v'.ownBlock with
          | none => exact .inl rfl
          | some q => right; simp
        · exact .inr (fun e2 => e e2.symm)
    · rw [if_neg hji]
      by_cases hki : k = i
      · rw [if_pos hki]; exact hnew j hj hji
      · rw [if_neg hki]; exact h.apart j k hj hk hne
theorem Grid.start (h : W.ownsRow base 26 1 (.slice (some ⟨ga, 0, none⟩) n n) n (List.replicate n (.slice none 0 0))) : Grid W base ga n (List.replicate n (.slice none 0 0)) (List.replicate n []) := by
  have hv : ∀ i, i < n → (List.replicate n (Value.slice none 0 0)).getD i undef = .slice none 0 0 := fun i hi => by
    rw [List.getD_eq_getElem?_getD, List.getElem?_replicate, if_pos hi]; rfl
  have ha : ∀ i, i < n → (List.replicate n ([] : List Int)).getD i [] = [] := fun i hi => by
    rw [List.getD_eq_getElem?_getD, List.getElem?_replicate, if_pos hi]; rfl
  refine ⟨h, List.length_replicate, fun i hi => ?_, fun i j hi hj hne => .inl ?_⟩
  · rw [hv i hi, ha i hi]; exact World.ownsRow_nil _ _ _ _
  · rw [hv i hi]; rfl
end
/-! ### what is kept but for two blocks -/
def K2 (n g g' : Nat) (W W' : World) : Prop := Below 0 W W' ∧ ∀ k, k < n → k ≠ g → k ≠ g' → W'.heap[k]? = W.heap[k]?
theorem K2.refl (n g g' : Nat) (W : World) : K2 n g g' W W := ⟨Below.refl _ _, fun _ _ _ _ => rfl⟩
theorem K2.trans {n g g' : Nat} {A B C : World} (h : K2 n g g' A B) (k : K2 n g g' B C) : K2 n g g' A C := ⟨h.1.trans k.1, fun i hi hg hg' => (k.2 i hi hg hg').trans (h.2 i hi hg hg')⟩
theorem K2.of_below {n g g' : Nat} {A B : World} (h : Below n A B) : K2 n g g' A B := ⟨h.mono (Nat.zero_le _), fun i hi _ _ => h.block i hi⟩
theorem K2.below {n g g' m : Nat} {A B : World} (h : K2 n g g' A B) (hn : m ≤ n) (hg : m ≤ g) (hg' : m ≤ g') : Below m A B := ⟨h.1.os, h.1.tape, h.1.output, h.1.size, fun k hk => h.2 k (by omega) (by omega) (by omega)⟩
theorem K2.set {n g g' : Nat} {A B : World} (h : K2 n g g' A B) (j : Nat) (u : Value) : K2 n g g' A (B.setCell ⟨g, j, none⟩ u) := ⟨h.1.setCell (p := ⟨g, j, none⟩) (Nat.zero_le _) u, fun i hi hg hg' => (Below.heap_setCell B ⟨g, j, none⟩ u i (by simpa using hg)).trans (h.2 i hi hg hg')⟩
theorem K2.set' {n g g' : Nat} {A B : World} (h : K2 n g g' A B) (j : Nat) (u : Value) : K2 n g g' A (B.setCell ⟨g', j, none⟩ u) := ⟨h.1.setCell (p := ⟨g', j, none⟩) (Nat.zero_le _) u, fun i hi hg hg' => (Below.heap_setCell B ⟨g', j, none⟩ u i (by simpa using hg')).trans (h.2 i hi hg hg')⟩
theorem K2.put {n g g' : Nat} {w : World} (hn : n ≤ w.heap.size) (W : World) (l : Nat) (o o' : Obj) (hl : w.heap.size ≤ l) (h : W.heap[l]? = some o) (hc : o.isCells = false) (hw : o.isWalk = false) : K2 n g g' W (W.putObj l o') := K2.of_below (belowK_b hn W l o o' hl h hc hw)
theorem K2.blk {n g g' k : Nat} {W W' : World} {o : Obj} (h : K2 n g g' W W') (hb : W.heap[k]? = some o) (hk : k < n) (hg : k ≠ g) (hg' : k ≠ g') : W'.heap[k]? = some o := (h.2 k hk hg hg').trans hb
theorem K2.own {β : Type} {n g g' B : Nat} {w₀ : World} (hn : n ≤ w₀.heap.size) (hB : n ≤ B) : OwnFrom B (fun (_ : β) W => K2 n g g' w₀ W) := fun _ X Y row hs hg hr => ⟨hs.1.grown hg (Nat.zero_le _) (fun _ _ => Nat.zero_le _), fun k hk hne hne' =>
  (hg.block k (by have := hs.1.size; omega) (fun e => by have := (hr k e.symm).1; omega)).trans (hs.2 k hk hne hne')⟩
/-! ### marks -/
def Marks (base : Nat) (W : World) : List Nat → Prop
  | [] => True
  | D :: r => (base ≤ D ∧ W.heap[D]? = some (.deferred (some [])) ∧ ∀ D' ∈ r, D' ≠ D) ∧ Marks base W r
theorem Marks.kept {base : Nat} {W W' : World} : ∀ {ds : List Nat}, Marks base W ds → (∀ D ∈ ds, base ≤ D → W.heap[D]? = some (.deferred (some [])) → W'.heap[D]? = some (.deferred (some []))) → Marks base W' ds
  | [], _, _ => trivial
  | D :: r, h, hk => ⟨⟨h.1.1, hk D List.mem_cons_self h.1.1 h.1.2.1, h.1.2.2⟩, h.2.kept fun D' hD' => hk D' (List.mem_cons_of_mem _ hD')⟩
theorem Marks.lt {base : Nat} {W : World} : ∀ {ds : List Nat}, Marks base W ds → ∀ D ∈ ds, D < W.heap.size
  | [], _, _, h => by cases h
  | D :: r, h, D', hD' => by
    rcases List.mem_cons.1 hD' with rfl | h1
    · exact blk_lt h.1.2.1
    · exact h.2.lt D' h1
theorem Marks.more {base : Nat} {W : World} {ds : List Nat} {D : Nat} (h : Marks base W ds) (hb : base ≤ D) (hD : W.heap[D]? = some (.deferred (some []))) (hn : ∀ D' ∈ ds, D' ≠ D) : Marks base W (D :: ds) := ⟨⟨hb, hD, hn⟩, h⟩
def markD (D : Nat) : Deferred := { target := .collected D, args := #[] }
theorem leaves_marks {F : Fence} {n : Nat} {P : Program} {fn : Func} {tmps : Array Value} {R : Ending → World → Prop} {base : Nat} : ∀ (ds : List Nat) (W : World), Marks base W ds → (∀ W', Below base W W' → (∀ (k : Nat) (o : Obj), W.heap[k]? = some o → o.isCells = true → W'.heap[k]? = some o) → LeavesIn F n P fn tmps R [] .returning W') → LeavesInM F n P fn tmps R (ds.map markD) .returning W
  | [], W, _, h => h W (Below.refl _ W) (fun _ _ h _ => h)
  | D :: ds, W, hm, h => by
    refine ⟨by simp, .inl ⟨D, _, rfl, run_takeDeferred hm.1.2.1, ?_⟩⟩
    have hne : ∀ k, k ≠ D → (W.putObj D (.deferred none)).heap[k]? = W.heap[k]? := fun k hk => World.putObj_heap_other hk
    refine leaves_marks ds _ (hm.2.kept fun D' hD' _ h' => (hne D' (hm.1.2.2 D' hD')).trans h') fun W' hB hc => h W' ?_ fun k o hk ho => hc k o ?_ ho
    · exact (show Below base W (W.putObj D (.deferred none)) from ⟨rfl, rfl, rfl, by simp, fun k hk => hne k (by have := hm.1.1; omega)⟩).trans hB
    · refine (hne k (?_ : k ≠ D)).trans hk
      intro e
      subst e
      rw [hm.1.2.1] at hk
      cases hk
      cases ho
/-! ### slices.Backward by places -/
def downs : Nat → List Int
  | 0 => []
  | k + 1 => (k : Int) :: downs k
theorem downs_rd (l : List Int) : ∀ k, k ≤ l.length → (downs k).map (rd l) = (l.take k).reverse
  | 0, _ => by simp [downs]
  | k + 1, hk => by
    have hlt : k < l.length := hk
    have e : rd l (k : Int) = l[k] := by simp [rd, hlt]
    have e2 : List.take (k + 1) l = List.take k l ++ [l[k]] := List.take_succ_eq_append_getElem hlt
    rw [downs, List.map_cons, downs_rd l k (by omega), e, e2, List.reverse_append]
    rfl
theorem downs_all (l : List Int) : (downs l.length).map (rd l) = l.reverse := by
  rw [downs_rd l l.length (Nat.le_refl _), List.take_length]
set_option maxRecDepth 100000 in
set_option maxHeartbeats 4000000 in
theorem downs1_in (F : Fence) (n : Nat) (h20 : F.fn 67) (hro : F.round = none) (hn : 1 ≤ n) (lp B : Nat) (Kp : World → World → Prop) (hKt : ∀ {A B C : World}, Kp A B → Kp B C → Kp A C) (A : Option Addr) (c : Nat) (l : List Int) (hl : l.length < 9223372036854775807) (w3 : World) (hS : ∀ W', Kp w3 W' → Boxed W' B 26 (.slice A l.length c) ∧ (Kd.int .i64).C W' A l.length l) (J Jx : List Int → World → Prop)
    (hY : ∀ pre x W, J pre W → pre.length < l.length → YieldAt F (n - 1) Try.prog lp #[.int .i64 x, .int .i64 (rd l x)] W fun e W' =>
      (e = .returned (.bool true) ∧ J (pre ++ [x]) W' ∧ Kp W W') ∨ (e = .returned (.bool false) ∧ Jx (pre ++ [x]) W'))
    (W : World) (hW : Kp w3 W) (h0 : J [] W) :
    CallsIn F n Try.prog 67 #[.func (.yield lp) #[] #[], .pointer (some ⟨B, 0, none⟩)] W fun e W' => (∃ v, e = .returned v) ∧
      ((∃ ys, ys = downs l.length ∧ J ys W') ∨ (∃ pre, pre <+: downs l.length ∧ Jx pre W')) := by
  have c2 := (hS W hW).1.cell
  refine callsIn_of_wp Try.func67 rfl h20 ?_ hro
  simp only [Try.ntmps67, List.size_toArray, List.length_cons, List.length_nil, Nat.reduceAdd, Nat.reduceSub, Array.replicate_succ, Array.replicate_zero, List.push_toArray, List.append_toArray, List.nil_append, List.cons_append]
  gi_wp2
  clear c2
  gi_loopw [3] (fun i wr => ∃ (k : Nat) (pre : List Int), k ≤ l.length ∧ i = .int .i64 ((k : Int) - 1) ∧ pre.length + k = l.length ∧ pre ++ downs k = downs l.length ∧ J pre wr ∧ Kp w3 wr) (fun i _ => (intOf i + 1).toNat)
  case atStart => exact ⟨l.length, [], Nat.le_refl _, rfl, by simp, rfl, h0, hW⟩
  case round =>
    obtain ⟨k, pre, hk, rfl, hpl, hpd, hJ, hB⟩ := hrel
    have c2 := (hS wr hB).1.cell
    cases k with
    | zero =>
      gi_wp2
      rw [downs, List.append_nil] at hpd
      go_end0
      exact ⟨⟨_, rfl⟩, .inl ⟨pre, hpd, hJ⟩⟩
    | succ k =>
      have hk1 : ((k + 1 : Nat) : Int) - 1 = (k : Int) := by omega
      rw [hk1]
      obtain ⟨ad, rfl, hc⟩ := Kd.at_int (hS wr hB).2 (k : Int) (by omega) (by omega)
      rw [Int.toNat_natCast] at hc
      obtain ⟨fn, tmps, assign, body, hy, hR⟩ := hY pre (k : Int) wr hJ (by omega)
      rw [downs] at hpd
      have h0k : (0 : Int) ≤ (k : Int) := by omega
      have hkl : (k : Int) < (l.length : Int) := by omega
      gi_wp2
      refine hR.mono ?_
      rintro e W3 (⟨rfl, hJ3, hk3⟩ | ⟨rfl, hJx3⟩)
      · gi_wp2
        go_roundw
        case rel => exact ⟨k, pre ++ [(k : Int)], by omega, by first | rfl | go_num, by simp; omega, by rw [List.append_assoc]; exact hpd, hJ3, hKt hB hk3⟩
        case measure => simp [intOf]
      · gi_wp2
        refine bodyPost_ret (results_none rfl _ _ _) rfl ?_
        exact ⟨⟨_, rfl⟩, .inr ⟨pre ++ [(k : Int)], ⟨downs k, by rw [List.append_assoc]; exact hpd⟩, hJx3⟩⟩
theorem downs_stops (F : Fence) (n : Nat) (h20 : F.fn 67) (hro : F.round = none) (hn : 1 ≤ n) (B : Nat) (Kp : World → World → Prop) (hKt : ∀ {A B C : World}, Kp A B → Kp B C → Kp A C) (A : Option Addr) (c : Nat) (l : List Int) (hl : l.length < 9223372036854775807) (w3 : World) (hS : ∀ W', Kp w3 W' → Boxed W' B 26 (.slice A l.length c) ∧ (Kd.int .i64).C W' A l.length l) (w : World) (hb : Kp w3 w) (hKb : ∀ {W : World}, Below w.heap.size w W → Kp w W) :
    SeqStopsK F n Try.prog 67 #[.pointer (some ⟨B, 0, none⟩)] (fun x : Int => #[Value.int .i64 x, Value.int .i64 (rd l x)]) Kp (fun ys => ys = downs l.length) (fun pre => pre <+: downs l.length) l.length w := fun lp J Jx W hW _ _ hY h0 =>
  downs1_in F n h20 hro hn lp B Kp hKt A c l hl w3 hS J Jx hY W (hKt hb (hKb hW)) h0
/-- the second of two is the loop's variable -/
theorem assign12_in {F : Fence} {n : Nat} {P : Program} {id p q p' : Nat} {t : TypeId} {pos : String} {ts : Array Value} {v v' : Value} {W : World} {K : Act → World → Prop} (hp : p < ts.size) (hp' : p' < ts.size) (h1 : p ≠ p') (h : K { tmps := ((ts.setIfInBounds p v).setIfInBounds p' v').setIfInBounds q v', defers := [] } W) :
    (Code.region id #[{ dst := some q, op := .assign (.tmp p'), type := t, pos := pos, after := #[], guard := none }] false).wpIn F n P (Exit.then K (fun _ _ _ => False)) { tmps := (#[p, p'].zip #[v, v']).foldl (fun t (p, v) => t.setIfInBounds p v) ts, defers := [] } W := by
  refine wpIn_region_list (wpListIn_plain rfl fun K' hK' => BigFrame.wpIn_assign (.tmp p') rfl (hK' _ _ (wpListIn_nil ?_)))
  have e : (Act.mk ((#[p, p'].zip #[v, v']).foldl (fun t (p, v) => t.setIfInBounds p v) ts) []).eval (.tmp p') = v' := by
    show ((#[p, p'].zip #[v, v']).foldl (fun t (p, v) => t.setIfInBounds p v) ts).getD p' undef = v'
    simp [Array.getD_eq_getD_getElem?, hp']
  rw [e]
  show K _ W
  have e2 : (Act.mk ((#[p, p'].zip #[v, v']).foldl (fun t (p, v) => t.setIfInBounds p v) ts) []).put (some q) v' = { tmps := ((ts.setIfInBounds p v).setIfInBounds p' v').setIfInBounds q v', defers := [] } := by
    simp [Act.put]
  exact e2 ▸ h
theorem range12B {n : Nat} {g : Operand} {p q p' id bid : Nat} {t : TypeId} {pos : String} {body : Code} {Q : Exit → Act → World → Prop} {a : Act} {w : World} (Kp : World → World → Prop) (hKt : ∀ {A B C : World}, Kp A B → Kp B C → Kp A C) (hKr : ∀ W, Kp W W)
    (h1 : 1 ≤ n) {gf : Nat} {lb : Array Value} (hg : a.eval g = .func (.func gf) #[] lb) (eg : ∀ args w, (callFunc gf args).run Try.prog w = .ok (.enter gf args) w) (hp : p < a.tmps.size) (hp' : p' < a.tmps.size) (hpp : p ≠ p') (r : Int → Int)
    {S Sp : List Int → Prop} {N : Nat} {w0 : World} (hseq : SeqStopsK Fence.wide (n - 1) Try.prog gf lb (fun x : Int => #[Value.int .i64 x, Value.int .i64 (r x)]) Kp S Sp N w0)
    (hKb : ∀ (W : World) (l : Nat) (o o' : Obj), w.heap.size ≤ l → W.heap[l]? = some o → o.isCells = false → o.isWalk = false → Kp W (W.putObj l o')) (hb0 : Below w0.heap.size w0 w)
    (I : List Int → World → Prop) (hI : OwnFrom w.heap.size I) (h0 : I [] w)
    (hbody : ∀ (l : Nat) (pre : List Int) (x : Int) (W : World), w.heap.size ≤ l → (∃ r, W.heap[l]? = some (.loop r)) → I pre W → pre.length < N →
      body.wpIn (Fence.wide.inRound l) (n - 1 - 1) Try.prog (ownPostG w.heap.size Kp I (fun c xs W => False) (pre ++ [x]) W) { tmps := ((a.tmps.setIfInBounds p (.int .i64 x)).setIfInBounds p' (.int .i64 (r x))).setIfInBounds q (.int .i64 (r x)), defers := [] } W)
    (hend : ∀ (D : Nat) (xs : List Int) (W : World), w.heap.size ≤ D → S xs → I xs W → W.heap[D]? = some (.deferred (some [])) → Q .normal { a with defers := { target := .collected D, args := #[] } :: a.defers } W) :
    (Code.rangeFunc g #[p, p'] (Code.region id #[{ dst := some q, op := .assign (.tmp p'), type := t, pos := pos, after := #[], guard := none }] false) body).wpIn Fence.wide n Try.prog (Exit.inBlock bid Q) a w :=
  wpIn_rangeFunc_ownH rfl h1 hg trivial eg hseq hKt hKb hb0 (fun _ => rfl) I (fun c xs W => False) hI (fun c s W W' row hs hg hr => hs) h0
    (fun x a' _ => a' = { tmps := ((a.tmps.setIfInBounds p (.int .i64 x)).setIfInBounds p' (.int .i64 (r x))).setIfInBounds q (.int .i64 (r x)), defers := [] }) (fun _ _ _ _ _ _ hs _ _ => hs)
    (fun l pre x W K hi hK => assign12_in hp hp' hpp (hK _ W (KeepsFrom.refl _ _) (hKr _) hi rfl))
    (fun l pre x a' W hl hr hi e hN => by subst e; exact hbody l pre x W hl hr hi hN) (fun D xs W hD hs hi hK => hend D xs W hD hs hi hK) (fun D c pre W hD hs hi hK => hi.elim)
/-! ### what is gathered ahead of each block -/
open Go.Proofs.Ytmeaepmimnmjlaa.Dfs Go.Proofs.Ytmeaepmimnmjlaa.Dom in
structure AhOf (nx : List (List Int)) (pre : List Int) (b : Int) (p : List Int) (ah : List (List Int)) : Prop where
  len : ah.length = nx.length
  at_ : ∀ c : Nat, c < nx.length → ah.getD c [] = pre.filter (fun a => decide ((c : Int) ∈ nb nx a)) ++ (if (c : Int) ∈ p then [b] else [])
section
open Go.Proofs.Ytmeaepmimnmjlaa.Dfs Go.Proofs.Ytmeaepmimnmjlaa.Dom
variable {nx : List (List Int)}
theorem ahof_start (b : Int) : AhOf nx [] b [] (List.replicate nx.length []) := ⟨List.length_replicate, fun c hc => by rw [List.getD_eq_getElem?_getD, List.getElem?_replicate, if_pos hc]; simp⟩
theorem ahof_step {pre p : List Int} {b t : Int} {ah : List (List Int)} (h : AhOf nx pre b p ah) (ht : t ∉ p) (h0 : 0 ≤ t) : AhOf nx pre b (p ++ [t]) (ah.set t.toNat (ah.getD t.toNat [] ++ [b])) := by
  refine ⟨by rw [List.length_set]; exact h.len, fun c hc => ?_⟩
  have hl := h.len
  by_cases hct : c = t.toNat
  · subst hct
    have e : ((t.toNat : Nat) : Int) = t := Int.toNat_of_nonneg h0
    rw [List.getD_eq_getElem?_getD, List.getElem?_set, if_pos rfl, if_pos (by omega)]
    have := h.at_ t.toNat hc
    rw [e] at this ⊢
    simp only [Option.getD_some]
    rw [this, if_neg ht, if_pos (by simp), List.append_nil]
  · rw [List.getD_eq_getElem?_getD, List.getElem?_set, if_neg (fun e => hct e.symm), ← List.getD_eq_getElem?_getD, h.at_ c hc]
    have hne : (c : Int) ≠ t := fun e => hct (by omega)
    simp [hne]
theorem ahof_turn {pre : List Int} {b b' : Int} {ah : List (List Int)} (h : AhOf nx pre b (nb nx b) ah) : AhOf nx (pre ++ [b]) b' [] ah := by
  refine ⟨h.len, fun c hc => ?_⟩
  rw [h.at_ c hc, List.filter_append]
  by_cases hcb : (c : Int) ∈ nb nx b
  · simp [hcb]
  · simp [hcb]
theorem ahof_end {b : Int} {ah : List (List Int)} (h : AhOf nx (post nx) b [] ah) : Ahd nx ah := by
  refine ⟨h.len, fun c h0 h1 a => ?_⟩
  have := h.at_ c.toNat (by omega)
  rw [Int.toNat_of_nonneg h0] at this
  rw [this]
  simp
theorem ahof_short {pre p : List Int} {b : Int} {ah : List (List Int)} (h : AhOf nx pre b p ah) (c : Nat) (hc : c < nx.length) : (ah.getD c []).length ≤ pre.length + 1 := by
  rw [h.at_ c hc, List.length_append]
  have := List.length_filter_le (fun a => decide ((c : Int) ∈ nb nx a)) pre
  split <;> simp <;> omega
end
end Go.Proofs.Ytmeaepmimnmjlaa.Ask
/- graph.dominators: for every world. -/
namespace Go.Proofs.Ytmeaepmimnmjlaa.Ask
open Go.Proofs.Ytmeaepmimnmjlaa.Dfs Go.Proofs.Ytmeaepmimnmjlaa.Dom Go.RowKit Go.Shelf Go.Proofs.Ytmeaepmimnmjlaa.PGb Go.Proofs.Ytmeaepmimnmjlaa.Lit Go.Proofs.Ytmeaepmimnmjlaa.OwnCells Go.Proofs.YtmeaepmimnmjlaaW.PrintWords Go.Proofs.YtmeaepmimnmjlaaW.PrintLast Go.Proofs.YtmeaepmimnmjlaaW.PrintMore
attribute [local go_sem] Oper.semAt_some
attribute [local go_sem] run_store_fn
attribute [local go_sem] run_eql_fn
set_option linter.unusedVariables false
set_option linter.unusedSimpArgs false
/-- what lies in memory while the rows ahead are gathered: the first block holds the row of idoms, ga the rows ahead -/
structure DS1 (w W : World) (nx : List (List Int)) (g5 ga g6 : Nat) (l : List Int) (ah : List (List Int)) : Prop where
  idom : W.ownsRow w.heap.size 3 1 (.slice (some ⟨w.heap.size, 0, none⟩) nx.length nx.length) nx.length (l.map (Value.int .i64))
  box5 : Boxed W g5 26 (.slice (some ⟨w.heap.size, 0, none⟩) nx.length nx.length)
  grid : ∃ vs, Grid W (w.heap.size + 1) ga nx.length vs ah
  box6 : Boxed W g6 27 (.slice (some ⟨ga, 0, none⟩) nx.length nx.length)
  below : Below w.heap.size w W
  lo5 : w.heap.size < g5
  lo6 : w.heap.size < g6
  loa : g5 < ga
theorem grown_refl (w : World) (r : Option Nat) : w.grownBy w r := ⟨rfl, rfl, rfl, Nat.le_refl _, fun _ _ _ => rfl⟩
theorem cell_of_below {w w' : World} (h : Below w.heap.size w w') {a : Addr} {v : Value} (hc : w.cell? a = some v) : w'.cell? a = some v := by
  refine (h.cell ?_).trans hc
  refine Classical.byContradiction fun hn => ?_
  have e : w.heap[a.block]? = none := Array.getElem?_eq_none (by omega)
  simp [World.cell?, e] at hc
theorem op_append_own {P : Program} {ops : Array Oper} {Q : Exit → Act → World → Prop} {i : Nat} {o : Oper} {K : Act → World → Prop} {a : Act} {w : World} (hio : ops[i]? = some o) (hg : o.guard = none) (s x : Operand) (t : TypeId)
    (ho : o.op = .call { callee := .builtin .append, args := #[s, x], argTypes := #[t, t] })
    (base : Nat) (e : TypeId) (inf : TypeInfo) (z : Value) (size bytes : Nat) (ht : P.underlying t = some (.slice e)) (hi : P.info? e = some inf) (hz : inf.zero = some z)
    (hsize : inf.size = size) (hby : inf.bytes = bytes) (hzs : z.cells.size = size) (hsz : 0 < size)
    (v : Value) (n : Nat) (xs : List Value) (hs : a.eval s = v) (hown : w.ownsRow base e size v n xs)
    (ad : Addr) (m c : Nat) (news : List Value) (hx : a.eval x = .slice (some ad) m c) (hl : news.length = m * size) (hnews : ∀ j u, news[j]? = some u → w.cell? (ad.add j) = some u) (h1 : ∀ u ∈ news, u.oneCell' = true)
    (h63 : n + m ≤ maxLen) (hbytes : (n + m) * bytes ≤ 140737488355328) (hbase : base ≤ w.heap.size)
    (h : ∀ v' w', w'.ownsRow base e size v' (n + m) (xs ++ news) → w.grownBy w' v.ownBlock → (v'.ownBlock = v.ownBlock ∨ v'.ownBlock = some w.heap.size) → K (a.put o.dst v') w') : wpOp P ops Q i K a w := by
  obtain ⟨v', w', hr, h2, h3, h4, h5⟩ := run_append_own_at (P := P) w base t o.type e inf z size bytes ht hi hz hsize hby hzs hsz v n xs hown ad m c news hl hnews h1 h63 hbytes hbase
  refine RegInv.op_value hio hg (v := v') (w' := w') ?_ (h v' w' h2 h3 h5)
  unfold execOp
  simp only [ho, resolve, invoke, builtin, Sem.run_bind, Sem.run_pure, Result.andThen_ok, List.map_toArray, List.map_cons, List.map_nil, hs, hx, hr]
def dDA : Nat → Option Tmp
  | 0 => some 48
  | 1 => some 49
  | 2 => some 50
  | 3 => some 51
  | 4 => some 52
  | 5 => some 53
  | 6 => some 54
  | 7 => some 55
  | 8 => some 56
  | 9 => some 57
  | _ => none
def FDA (ga n : Nat) (t b : Int) (ve : Value) (base hs : Nat) (xs : List Value) (m : Nat) : Nat → World → Value → Prop
  | 0, _, v => v = .slice (some ⟨ga, 0, none⟩) n n
  | 1, _, v => v = .int .i64 t
  | 2, _, v => v = .slice (some ⟨ga, 0, none⟩) n n
  | 3, _, v => v = .int .i64 t
  | 4, _, v => v = .pointer (some ⟨ga, t.toNat, none⟩)
  | 5, _, v => v = ve
  | 6, _, v => v = .int .i64 b
  | 7, w, v => ∃ g, v = .slice (some ⟨g, 0, none⟩) 1 1 ∧ w.cell? ⟨g, 0, none⟩ = some (.int .i64 b) ∧ ve.ownBlock ≠ some g
  | 8, w, v => w.ownsRow base 3 1 v (m + 1) (xs ++ [.int .i64 b]) ∧ (v.ownBlock = ve.ownBlock ∨ ∃ k, v.ownBlock = some k ∧ hs ≤ k)
  | 9, _, v => v = .pointer (some ⟨ga, t.toNat, none⟩)
  | _, _, _ => True
theorem FDA_below (ga n : Nat) (t b : Int) (ve : Value) (base hs : Nat) (xs : List Value) (m : Nat) (i : Nat) (w w1 : World) (v : Value) (h : FDA ga n t b ve base hs xs m i w v) (hb : Below w.heap.size w w1) : FDA ga n t b ve base hs xs m i w1 v := by
  match i with
  | 0 | 1 | 2 | 3 | 4 | 5 | 6 | 9 => exact h
  | 7 =>
    obtain ⟨g, h1, h2, h3⟩ := h
    exact ⟨g, h1, cell_of_below hb h2, h3⟩
  | 8 => exact ⟨own_move h.1 fun k hk => hb.block k (own_lt h.1 k hk), h.2⟩
  | (n + 10) => exact h
theorem FDA_grown (ga n : Nat) (t b : Int) (ve : Value) (base hs : Nat) (xs : List Value) (m : Nat) (i : Nat) (w w1 : World) (v : Value) (hi : i ≠ 8) (h : FDA ga n t b ve base hs xs m i w v) (hb : w.grownBy w1 ve.ownBlock) : FDA ga n t b ve base hs xs m i w1 v := by
  match i with
  | 0 | 1 | 2 | 3 | 4 | 5 | 6 | 9 => exact h
  | 7 =>
    obtain ⟨g, h1, h2, h3⟩ := h
    refine ⟨g, h1, ?_, h3⟩
    have hlt : g < w.heap.size := by
      refine Classical.byContradiction fun hn => ?_
      have e : w.heap[g]? = none := Array.getElem?_eq_none (by omega)
      simp [World.cell?, e] at h2
    exact (World.cell?_of_block (hb.block g hlt (fun e => h3 e.symm))).trans h2
  | 8 => exact absurd rfl hi
  | (n + 10) => exact h
section
variable {w W W' : World} {nx : List (List Int)} {g5 ga g6 : Nat} {l : List Int} {ah : List (List Int)}
theorem DS1.llen (h : DS1 w W nx g5 ga g6 l ah) : l.length = nx.length := by have := h.idom.1; simpa using this
theorem DS1.setI (h : DS1 w W nx g5 ga g6 l ah) (i : Nat) (v : Int) : DS1 w (W.setCell ⟨w.heap.size, i, none⟩ (.int .i64 v)) nx g5 ga g6 (l.set i v) ah := by
  obtain ⟨vs, hg⟩ := h.grid
  obtain ⟨h1, h2⟩ := h.idom.stored i (.int .i64 v)
  refine ⟨by rw [List.map_set]; exact h1, h.box5.kept h2 ?_, ⟨vs, hg.far (p := ⟨w.heap.size, i, none⟩) (Nat.lt_succ_self _) _⟩, h.box6.kept h2 ?_, h.below.setCell (p := ⟨w.heap.size, i, none⟩) (Nat.le_refl _) _, h.lo5, h.lo6, h.loa⟩
  · have := h.lo5; simp; omega
  · have := h.lo6; simp; omega
theorem DS1.alloc (h : DS1 w W nx g5 ga g6 l ah) (o : Obj) : DS1 w (W.alloc o) nx g5 ga g6 l ah := by
  obtain ⟨vs, hg⟩ := h.grid
  exact ⟨h.idom.alloc o, h.box5.alloc o, ⟨vs, hg.alloc o⟩, h.box6.alloc o, below_alloc h.below o, h.lo5, h.lo6, h.loa⟩
theorem DS1.from_ (h : DS1 w W nx g5 ga g6 l ah) (hb : Below W.heap.size W W') : DS1 w W' nx g5 ga g6 l ah := by
  obtain ⟨vs, hg⟩ := h.grid
  exact ⟨own_move h.idom fun k hk => hb.block k (own_lt h.idom k hk), blk_below h.box5 hb, ⟨vs, hg.from_ hb (Nat.le_refl _)⟩, blk_below h.box6 hb, h.below.trans (hb.mono h.below.size), h.lo5, h.lo6, h.loa⟩
theorem DS1.box (h : DS1 w W nx g5 ga g6 l ah) {g : Nat} {v : Value} (hb : Boxed W g 4 v) (hg : w.heap.size < g) (u : Value) : DS1 w (W.setCell ⟨g, 0, none⟩ u) nx g5 ga g6 l ah := by
  obtain ⟨vs, hgr⟩ := h.grid
  have hne : ∀ {k : Nat} {t : TypeId} {x : Value}, Boxed W k t x → t ≠ 4 → k ≠ g := fun hk ht e => by
    subst e
    have := Option.some.inj (Eq.trans (Eq.symm hk) hb)
    simp only [Obj.cells.injEq] at this
    exact ht this.2.1
  refine ⟨own_move h.idom fun k hk => Below.heap_setCell W ⟨g, 0, none⟩ u k (fun e => ?_), h.box5.other (hne h.box5 (by decide)) u, ⟨vs, hgr.box hb u⟩, h.box6.other (hne h.box6 (by decide)) u, h.below.setCell (p := ⟨g, 0, none⟩) (by show w.heap.size ≤ g; omega) u, h.lo5, h.lo6, h.loa⟩
  simp only [Value.ownBlock, Option.some.injEq] at hk
  simp only at e
  omega
theorem DS1.ownF {β : Type} {B : Nat} (hB : w.heap.size ≤ B) (f : β → List Int) : OwnFrom B (fun (s : β) W => DS1 w W nx g5 ga g6 (f s) ah) := fun s X Y row h hg hr => by
  have hc : ∀ (k : Nat) (o : Obj), X.heap[k]? = some o → o.isCells = true → Y.heap[k]? = some o := fun k o hk ho => by
    refine (hg.block k (blk_lt hk) (fun e => ?_)).trans hk
    obtain ⟨o', ho', hc'⟩ := (hr k e.symm).2
    rw [hk] at ho'
    cases ho'
    rw [ho] at hc'
    cases hc'
  obtain ⟨vs, hgr⟩ := h.grid
  exact ⟨own_held h.idom fun k o _ hk ho => hc k o hk ho, hc _ _ h.box5 rfl, ⟨vs, hgr.held fun k o _ hk ho => hc k o hk ho⟩, hc _ _ h.box6 rfl, h.below.grown hg h.below.size (fun k e => by have := (hr k e).1; omega), h.lo5, h.lo6, h.loa⟩
theorem DS1.drew (h : DS1 w W nx g5 ga g6 l ah) (k : Nat) : DS1 w (W.drewN k) nx g5 ga g6 l ah := by
  obtain ⟨vs, hg⟩ := h.grid
  exact ⟨h.idom, h.box5, ⟨vs, hg.held fun _ _ _ h _ => h⟩, h.box6, pw_below_drewN h.below k, h.lo5, h.lo6, h.loa⟩
/-- a row ahead has grown -/
theorem DS1.put (h : DS1 w W nx g5 ga g6 l ah) {vs : List Value} (hg : Grid W (w.heap.size + 1) ga nx.length vs ah) {i : Nat} (hi : i < nx.length) {v' : Value} {r : List Int} (hv : W'.ownsRow (w.heap.size + 1) 3 1 v' r.length (r.map (Value.int .i64))) (hgr : W.grownBy W' (vs.getD i undef).ownBlock) (hat : v'.ownBlock = (vs.getD i undef).ownBlock ∨ ∃ k, v'.ownBlock = some k ∧ W.heap.size ≤ k) :
    DS1 w (W'.setCell ⟨ga, i, none⟩ v') nx g5 ga g6 l (ah.set i r) := by
  have hr := hg.row.kept hgr (own_ne hg.row (hg.each i hi) (by decide))
  obtain ⟨h1, h2⟩ := hr.stored i v'
  have hlow : ∀ k, (vs.getD i undef).ownBlock = some k → w.heap.size + 1 ≤ k := fun k hk => own_base (hg.each i hi) k hk
  have hga : w.heap.size + 1 ≤ ga := own_base hg.row ga rfl
  have i1 : W'.ownsRow w.heap.size 3 1 (.slice (some ⟨w.heap.size, 0, none⟩) nx.length nx.length) nx.length (l.map (Value.int .i64)) := h.idom.kept hgr (.inr (fun e => by have := hlow w.heap.size e.symm; omega))
  have b5 : Boxed W' g5 26 _ := h.box5.kept hgr (fun e => Boxed.not_row h.box5 (by decide) (hg.each i hi) e)
  have b6 : Boxed W' g6 27 _ := h.box6.kept hgr (fun e => Boxed.not_row h.box6 (by decide) (hg.each i hi) e)
  have hb : Below w.heap.size w W' := h.below.grown hgr h.below.size (fun k hk => by have := hlow k hk; omega)
  refine ⟨i1.kept h2 (own_ne i1 hr (by decide)), b5.kept h2 ?_, ⟨_, hg.put hi hv hgr (fun k hk => by
    rcases hat with e | ⟨q, e, hq⟩
    · exact .inl (e ▸ hk)
    · rw [e] at hk; cases hk; exact .inr hq)⟩, b6.kept h2 (fun e => Boxed.not_row b6 (by decide) hr e), hb.setCell (p := ⟨ga, i, none⟩) (by show w.heap.size ≤ ga; omega) _, h.lo5, h.lo6, h.loa⟩
  have := h.loa; simp; omega
end
theorem fold_zero {ah : List (List Int)} : ∀ (r : List Int) (s : List Int × Bool), (∀ b ∈ r, 0 ≤ b) → rd (r.foldl (procB ah) s).1 0 = rd s.1 0
  | [], _, _ => rfl
  | b :: r, s, h => by
    rw [List.foldl_cons, fold_zero r _ (fun x hx => h x (List.mem_cons_of_mem _ hx))]
    have hb := h b List.mem_cons_self
    unfold procB
    split
    · rfl
    · split
      · rename_i hb0 _
        unfold rd
        simp only [List.getD_eq_getElem?_getD, List.getElem?_set]
        rw [if_neg (by omega)]
      · rfl
theorem pass_zero {nx ah : List (List Int)} {l : List Int} (hw : Wf nx) : rd (pass nx ah l).1 0 = rd l 0 := by
  unfold pass
  exact fold_zero (ord nx) (l, false) (fun b hb => (post_bound nx hw (List.mem_reverse.1 hb)).1)
set_option maxRecDepth 100000 in
set_option maxHeartbeats 8000000 in
theorem dominators_calls (A A1 : Option Addr) (c c1 : Nat) (nx : List (List Int)) (w : World) (hA : (Kd.slice 3 (Kd.int .i64)).C w A nx.length nx) (hP : (Kd.int .i64).C w A1 (post nx).length (post nx)) (hw : Wf nx) (hnd : ∀ b, (nb nx b).Nodup) (hl : nx.length ≤ 8796093022208) :
    Calls Try.prog 49 #[.slice A nx.length c, .slice A1 (post nx).length c1] w fun e w' => ∃ v l, e = .returned v ∧ (Kd.int .i64).R 3 w' w.heap.size (fun _ => True) v l ∧ IsDom nx l ∧ Below w.heap.size w w' := by
  have HA := Aside0.mk hA
  have HP := Aside0.mk hP
  have HN := Aside0.mk hnd
  have hpos := hw.pos
  have hplen := post_length nx hw
  clear hA hP hnd
  obtain ⟨i3, hi3, hz30, hz31, hz32⟩ := info_parts info3
  obtain ⟨i26, hi26, hz260, hz261, hz262⟩ := info_parts info26
  refine (callsIn_wide (n := 10)).1 ?_
  refine callsIn_of_wp_marks Try.func49 rfl trivial ?_ rfl
  refine wpIn_wide.2 ?_
  simp only [Try.ntmps49, List.size_toArray, List.length_cons, List.length_nil, Nat.reduceAdd, Nat.reduceSub, Array.replicate_succ, Array.replicate_zero, List.push_toArray, List.append_toArray, List.nil_append, List.cons_append]
  go_upto_region 2 with (first | (at_make; refine wpList_make_full _ rfl _ _ 26 rfl w.heap.size 3 i3 (.int .i64 0) 1 Try.underlying26 hi3 hz30 hz31 _ _ _ _ nx.length rfl rfl rfl rfl (by rw [hz32]; omega) (by simp [maxLen]; omega) (Nat.le_refl _) ?_; intro w1 hown hgrow) | go_in)
  have hs1 : w.heap.size < w1.heap.size := own_lt hown _ rfl
  go_upto_region 3 with (first | (at_make; refine wpList_make_full _ rfl _ _ 27 rfl (w.heap.size + 1) 26 i26 (.slice none 0 0) 1 Try.underlying27 hi26 hz260 hz261 _ _ _ _ nx.length rfl rfl rfl rfl (by rw [hz262]; omega) (by simp [maxLen]; omega) (by simp; omega) ?_; intro w2 hown2 hgrow2) | go_in)
  have hm0 : (madeCells (Value.int .i64 0).cells (nx.length * 1)).toList = (List.replicate nx.length (0 : Int)).map (Value.int .i64) := by
    rw [Nat.mul_one, show (Value.int .i64 0).cells = #[.int .i64 0] from rfl, toList_madeCells_one]; simp
  have hm1 : (madeCells (Value.slice none 0 0).cells (nx.length * 1)).toList = List.replicate nx.length (.slice none 0 0) := by
    rw [Nat.mul_one, show (Value.slice none 0 0).cells = #[.slice none 0 0] from rfl, toList_madeCells_one]
  rw [hm0] at hown
  rw [hm1] at hown2
  have hS0 : DS1 w (w2.alloc (.cells #[.slice (some ⟨w1.heap.size + 1, 0, none⟩) nx.length nx.length] 27)) nx w1.heap.size (w1.heap.size + 1) w2.heap.size (List.replicate nx.length 0) (List.replicate nx.length []) := by
    have hb1 : Below w.heap.size w w1 := (Below.refl _ w).grown hgrow (Nat.le_refl _) (fun j e => by cases e)
    have hb2 := hgrow2.size
    rw [World.size_alloc] at hown2 hb2
    refine ⟨((hown.alloc _).kept hgrow2 (.inr (by simp [Value.ownBlock]))).alloc _, ((Boxed.new w1 26 _).kept hgrow2 (by simp)).alloc _, ⟨_, (Grid.start hown2).alloc _⟩, Boxed.new w2 27 _, below_alloc ((below_alloc hb1 _).grown hgrow2 (by have := hb1.size; simp; omega) (fun j e => by cases e)) _, hs1, by omega, by omega⟩
  have HS0 := Aside0.mk hS0
  clear hown hown2 hgrow hgrow2 hm0 hm1 hS0
  revert HS0
  generalize w2.alloc (.cells #[.slice (some ⟨w1.heap.size + 1, 0, none⟩) nx.length nx.length] 27) = W0
  generalize w2.heap.size = g6
  generalize hga : w1.heap.size + 1 = ga
  generalize hg5 : w1.heap.size = g5
  intro HS0
  clear hga hg5 hs1
  have b5 := HS0.out.box5.cell
  clear hi3 hz30 hz31 hz32 hi26 hz260 hz261 hz262 i3 i26
  go_wp2_with (fail)
  clear b5
  go_loopw [26] (fun i wr => ∃ k : Nat, k ≤ nx.length ∧ i = .int .i64 (k : Int) ∧ DS1 w wr nx g5 ga g6 (List.replicate k (-1) ++ List.replicate (nx.length - k) 0) (List.replicate nx.length [])) (fun i _ => ((nx.length : Int) - intOf i).toNat)
  case atStart => exact ⟨0, Nat.zero_le _, rfl, by simpa using HS0.out⟩
  case round =>
    clear HS0
    obtain ⟨k, hk, rfl, hS⟩ := hrel
    have HS := Aside0.mk hS
    have b5 := hS.box5.cell
    by_cases hlt : k < nx.length
    · have ci := hS.idom.cellAt k (by omega)
      have fi := hS.idom.frozenAt k
      have hli : (k : Int) < (nx.length : Int) := by omega
      have h0k : (0 : Int) ≤ (k : Int) := by omega
      have hge : (List.map (Value.int .i64) (List.replicate k (-1) ++ List.replicate (nx.length - k) 0))[k]? = some (.int .i64 0) := by
        rw [List.getElem?_map, List.getElem?_append_right (by simp), List.length_replicate, Nat.sub_self, List.getElem?_replicate, if_pos (by omega)]; rfl
      rw [hge] at ci
      clear hS hge
      go_wp2_with (fail)
      go_roundw
      case measure => simp [intOf]; omega
      case rel =>
        refine ⟨k + 1, hlt, by first | rfl | go_num, ?_⟩
        have := HS.out.setI k (-1)
        have e : (List.replicate k (-1 : Int) ++ List.replicate (nx.length - k) 0).set k (-1) = List.replicate (k + 1) (-1) ++ List.replicate (nx.length - (k + 1)) 0 := by
          rw [List.set_append_right _ _ (by simp), List.length_replicate, Nat.sub_self, show nx.length - k = (nx.length - (k + 1)) + 1 from by omega, List.replicate_succ, List.set_cons_zero, List.replicate_succ', List.append_assoc]; rfl
        rw [e] at this
        simpa using this
    · have hkn : k = nx.length := by omega
      subst hkn
      have hS1 : DS1 w wr nx g5 ga g6 (List.replicate nx.length (-1)) (List.replicate nx.length []) := by simpa using hS
      have HS1 := Aside0.mk hS1
      clear hS hlt hS1 HS
      go_wp2_with (fail)
      clear b5
      revert HS1
      generalize wr = W1
      intro HS1
      go_loopw [35] (fun i wr => ∃ (k : Nat) (ah : List (List Int)), k ≤ (post nx).length ∧ i = .int .i64 (k : Int) ∧ AhOf nx ((post nx).take k) 0 [] ah ∧ DS1 w wr nx g5 ga g6 (List.replicate nx.length (-1)) ah) (fun i _ => (((post nx).length : Int) - intOf i).toNat)
      case atStart => exact ⟨0, _, Nat.zero_le _, rfl, ahof_start 0, HS1.out⟩
      case round =>
        clear HS1
        obtain ⟨k, ah, hk, rfl, hAh, hS⟩ := hrel
        have HS := Aside0.mk hS
        have HAH := Aside0.mk hAh
        by_cases hlt : k < (post nx).length
        · have hCP := Kd.C_below HP.out hS.below
          have hli : (k : Int) < ((post nx).length : Int) := by omega
          have h0k : (0 : Int) ≤ (k : Int) := by omega
          obtain ⟨ad, rfl, hc⟩ := Kd.at_int hCP (k : Int) h0k hli
          rw [Int.toNat_natCast] at hc
          obtain ⟨b, hb⟩ : ∃ b, rd (post nx) (k : Int) = b := ⟨_, rfl⟩
          rw [hb] at hc
          have hbk : (post nx)[k]? = some b := by rw [← hb, List.getElem?_eq_getElem hlt]; simp [rd, hlt]
          have hbd := post_bound nx hw (List.mem_of_getElem? hbk)
          obtain ⟨ad2, cc, rfl, hcl, hK, hcell⟩ := Kd.C_get HA.out [] b hbd.1 hbd.2
          obtain ⟨Ab, cb, rfl, hlb, hCb⟩ := hK
          have hn := hcell 0 _ rfl
          have hnb : nx.getD b.toNat [] = nb nx b := rfl
          rw [hnb] at hn hlb hCb
          have esz : b.toNat * (Kd.slice 3 (Kd.int .i64)).sz + 0 = b.toNat := by show b.toNat * 1 + 0 = _; omega
          rw [esz] at hn
          replace hn := cell_of_below hS.below hn
          obtain ⟨hb0, hb1⟩ := hbd
          have HBK := Aside0.mk hbk
          have HCB := Aside0.mk hCb
          have HB := Aside0.mk hS.below
          have htk : (post nx).take (k + 1) = (post nx).take k ++ [b] := by
            rw [List.take_add_one, hbk]; rfl
          have HTK := Aside0.mk htk
          clear hb hS hAh hCP esz hnb hcl hcell hbk htk hCb hlb
          go_wp2_with (fail)
          clear hc hn
          go_loopw [44] (fun i wr => ∃ (j : Nat) (ah : List (List Int)), j ≤ (nb nx b).length ∧ i = .int .i64 (j : Int) ∧ AhOf nx ((post nx).take k) b ((nb nx b).take j) ah ∧ DS1 w wr nx g5 ga g6 (List.replicate nx.length (-1)) ah) (fun i _ => (((nb nx b).length : Int) - intOf i).toNat)
          case atStart => exact ⟨0, ah, Nat.zero_le _, rfl, ⟨HAH.out.len, HAH.out.at_⟩, HS.out⟩
          case round =>
            clear HS HAH
            obtain ⟨j, ah, hj, rfl, hAh, hS⟩ := hrel
            have HS := Aside0.mk hS
            have HAH := Aside0.mk hAh
            by_cases hlj : j < (nb nx b).length
            · have hCb2 := Kd.C_below HCB.out hS.below
              have hji : (j : Int) < ((nb nx b).length : Int) := by omega
              have h0j : (0 : Int) ≤ (j : Int) := by omega
              have hjm : j < 9223372036854775807 := by have := Kd.C_max HCB.out; omega
              obtain ⟨ad3, rfl, hc3⟩ := Kd.at_int hCb2 (j : Int) h0j hji
              rw [Int.toNat_natCast] at hc3
              obtain ⟨t, ht⟩ : ∃ t, rd (nb nx b) (j : Int) = t := ⟨_, rfl⟩
              rw [ht] at hc3
              have hget : (nb nx b)[j]? = some t := by rw [← ht, List.getElem?_eq_getElem hlj]; simp [rd, hlj]
              obtain ⟨ht0, ht1⟩ := hw.in_ b t (List.mem_of_getElem? hget)
              have htn : t.toNat < nx.length := by omega
              have hnp : t ∉ (nb nx b).take j := by
                intro hm
                obtain ⟨i, hi, he⟩ := List.getElem_of_mem hm
                rw [List.length_take] at hi
                have e1 : (nb nx b)[i]? = some t := by
                  rw [List.getElem_take] at he
                  rw [List.getElem?_eq_getElem (by omega), he]
                have h1 := (List.getElem?_inj (l := nb nx b) (i := i) (j := j) (by omega) (HN.out b)).1 (e1.trans hget.symm)
                omega
              obtain ⟨vs, hg⟩ := hS.grid
              have b6 := hS.box6.cell
              have cg := hg.cellAt htn
              have fg := hg.row.frozenAt t.toNat
              have her := hg.each t.toNat htn
              have hsh := ahof_short hAh t.toNat htn
              rw [List.length_take] at hsh
              obtain ⟨Ae, ce, hve⟩ := row_slice her
              have HG := Aside0.mk hg
              have HER := Aside0.mk her
              have HNP := Aside0.mk hnp
              have HST : (nb nx b).take (j + 1) = (nb nx b).take j ++ [t] := by rw [List.take_add_one, hget]; rfl
              have HSTA := Aside0.mk HST
              have HVE := Aside0.mk hve
              rw [hve] at cg
              clear hS hAh hg her hCb2 ht hget hnp hve HST
              obtain ⟨i3, hi3, hz30, hz31, hz32⟩ := info_parts info3
              have HI := Aside0.mk hi3
              have HZ0 := Aside0.mk hz30
              have HZ1 := Aside0.mk hz31
              have HZ2 := Aside0.mk hz32
              clear hi3 hz30 hz31 hz32
              go_wp2_with (fail)
              have hkeep : ∀ W, wr.grownBy W (Value.slice Ae (ah.getD t.toNat []).length ce).ownBlock → W.cell? ⟨g6, 0, none⟩ = some (.slice (some ⟨ga, 0, none⟩) nx.length nx.length) ∧ W.cell? ⟨ga, t.toNat, none⟩ = some (.slice Ae (ah.getD t.toNat []).length ce) ∧ W.frozen? ⟨ga, t.toNat, none⟩ = false := fun W hgr => by
                have e1 : Boxed W g6 27 _ := HS.out.box6.kept hgr (fun e => Boxed.not_row HS.out.box6 (by decide) (HVE.out ▸ HER.out) e)
                have e2 := HG.out.row.kept hgr (own_ne HG.out.row (HVE.out ▸ HER.out) (by decide))
                refine ⟨e1.cell, ?_, e2.frozenAt _⟩
                rw [e2.cellAt t.toNat (by omega)]
                have hv := HG.out.vlen
                have := HVE.out
                rw [List.getD_eq_getElem?_getD, List.getElem?_eq_getElem (by omega)] at this
                rw [List.getElem?_eq_getElem (by omega)]
                exact congrArg some this
              rename_i hK
              have HKEEP := Aside0.mk hkeep
              clear hkeep
              refine RegInv.region_facts_p (by kernel_rfl) (by kernel_rfl) (fun a b => Below a.heap.size a b) (fun a b => a.grownBy b (Value.slice Ae (ah.getD t.toNat []).length ce).ownBlock) (fun a b c h k => wB h k) (fun a b h => ⟨h.os, h.tape, h.output, h.size, fun k hk _ => h.block k hk⟩) (fun a b c h k => h.trans k) (below_drew1 (Below.refl _ _)) dDA 10 8 (by kernel_rfl) (by kernel_rfl) (by kernel_rfl) (by kernel_rfl) (FDA ga nx.length t b (.slice Ae (ah.getD t.toNat []).length ce) (w.heap.size + 1) wr.heap.size ((ah.getD t.toNat []).map (Value.int .i64)) (ah.getD t.toNat []).length) (FDA_below _ _ _ _ _ _ _ _ _) (FDA_grown _ _ _ _ _ _ _ _ _) ?hsDA ?heDA
              case hsDA =>
                clear hK
                intro i o a w8 hlt hi hM
                obtain ⟨c6, cga, fga⟩ := HKEEP.out w8 hM.ext
                rcases i with _ | _ | _ | _ | _ | _ | _ | _ | _ | _ | i
                · cases hi
                  have h0 := gdq _ _ _ (show a.tmps.getD 6 undef = .pointer (some ⟨g6, 0, none⟩) from hM.off 6 (by kernel_rfl))
                  refine RegInv.op_value (by rfl) rfl (v := .slice (some ⟨ga, 0, none⟩) nx.length nx.length) (w' := w8) ?_ ⟨_, rfl, rfl, grown_refl _ _, fun _ => Below.refl _ _⟩
                  unfold execOp
                  go_simp
                · cases hi
                  have h0 := gdq _ _ _ (show a.tmps.getD 11 undef = .int .i64 t from hM.off 11 (by kernel_rfl))
                  refine RegInv.op_value (by rfl) rfl (v := .int .i64 t) (w' := w8) ?_ ⟨_, rfl, rfl, grown_refl _ _, fun _ => Below.refl _ _⟩
                  unfold execOp
                  go_simp
                · cases hi
                  have h0 := gdq _ _ _ (show a.tmps.getD 6 undef = .pointer (some ⟨g6, 0, none⟩) from hM.off 6 (by kernel_rfl))
                  refine RegInv.op_value (by rfl) rfl (v := .slice (some ⟨ga, 0, none⟩) nx.length nx.length) (w' := w8) ?_ ⟨_, rfl, rfl, grown_refl _ _, fun _ => Below.refl _ _⟩
                  unfold execOp
                  go_simp
                · cases hi
                  have h0 := gdq _ _ _ (show a.tmps.getD 11 undef = .int .i64 t from hM.off 11 (by kernel_rfl))
                  refine RegInv.op_value (by rfl) rfl (v := .int .i64 t) (w' := w8) ?_ ⟨_, rfl, rfl, grown_refl _ _, fun _ => Below.refl _ _⟩
                  unfold execOp
                  go_simp
                · cases hi
                  have h0 := gdq _ _ _ (show a.tmps.getD 50 undef = .slice (some ⟨ga, 0, none⟩) nx.length nx.length from hM.at_ 2 (by decide) (by kernel_rfl))
                  have h1 := gdq _ _ _ (show a.tmps.getD 51 undef = .int .i64 t from hM.at_ 3 (by decide) (by kernel_rfl))
                  refine RegInv.op_value (by rfl) rfl (v := .pointer (some ⟨ga, t.toNat, none⟩)) (w' := w8) ?_ ⟨_, rfl, rfl, grown_refl _ _, fun _ => Below.refl _ _⟩
                  unfold execOp
                  go_simp
                · cases hi
                  have h0 := gdq _ _ _ (show a.tmps.getD 52 undef = .pointer (some ⟨ga, t.toNat, none⟩) from hM.at_ 4 (by decide) (by kernel_rfl))
                  refine RegInv.op_value (by rfl) rfl (v := .slice Ae (ah.getD t.toNat []).length ce) (w' := w8) ?_ ⟨_, rfl, rfl, grown_refl _ _, fun _ => Below.refl _ _⟩
                  unfold execOp
                  go_simp
                · cases hi
                  have h0 := gdq _ _ _ (show a.tmps.getD 9 undef = .int .i64 b from hM.off 9 (by kernel_rfl))
                  refine RegInv.op_value (by rfl) rfl (v := .int .i64 b) (w' := w8) ?_ ⟨_, rfl, rfl, grown_refl _ _, fun _ => Below.refl _ _⟩
                  unfold execOp
                  go_simp
                · cases hi
                  have h0 := gdq _ _ _ (show a.tmps.getD 54 undef = .int .i64 b from hM.at_ 6 (by decide) (by kernel_rfl))
                  have hgv : (Value.slice Ae (ah.getD t.toNat []).length ce).ownBlock ≠ some w8.heap.size := fun e => by
                    have := own_lt (HVE.out ▸ HER.out) _ e
                    have := hM.ext.size
                    omega
                  refine RegInv.op_value (by rfl) rfl (v := .slice (some ⟨w8.heap.size, 0, none⟩) 1 1) (w' := w8.alloc (.cells #[.int .i64 b] 3)) ?_ ⟨_, rfl, ⟨w8.heap.size, rfl, cell_one_new w8 (.int .i64 b) 3 0 _ rfl, hgv⟩, World.grownBy_alloc _ _ _, fun _ => below_alloc (Below.refl _ _) _⟩
                  unfold execOp
                  go_simp
                · cases hi
                  obtain ⟨gN, h7, c7, hgN⟩ := hM.at_ 7 (by decide) (by kernel_rfl)
                  have h5 : a.tmps.getD 53 undef = .slice Ae (ah.getD t.toNat []).length ce := hM.at_ 5 (by decide) (by kernel_rfl)
                  have h7' : a.tmps.getD 55 undef = .slice (some ⟨gN, 0, none⟩) 1 1 := h7
                  have hb8 := hM.exts rfl
                  have hrow : w8.ownsRow (w.heap.size + 1) 3 1 (.slice Ae (ah.getD t.toNat []).length ce) (ah.getD t.toNat []).length ((ah.getD t.toNat []).map (Value.int .i64)) := own_move (HVE.out ▸ HER.out) fun k hk => hb8.block k (own_lt (HVE.out ▸ HER.out) k hk)
                  have hbs : w.heap.size + 1 ≤ wr.heap.size := by have := HS.out.lo5; have := HS.out.box5.lt; omega
                  refine op_append_own (by rfl) rfl (.tmp 53) (.tmp 55) 26 rfl (w.heap.size + 1) 3 i3 (.int .i64 0) 1 8 Try.underlying26 HI.out HZ0.out HZ1.out HZ2.out rfl (by decide) _ _ _ h5 hrow ⟨gN, 0, none⟩ 1 1 [.int .i64 b] h7' rfl (fun j u hj => ?_) (by simp [Value.oneCell']) (by unfold maxLen; omega) (by omega) (by have := hb8.size; omega) ?_
                  · match j, hj with
                    | 0, hj =>
                      simp at hj
                      subst hj
                      exact c7
                  · intro v9 w9 hown9 hgrow9 hat9
                    refine ⟨v9, rfl, ⟨hown9, ?_⟩, hgrow9, fun h => absurd rfl h⟩
                    rcases hat9 with e | e
                    · exact .inl e
                    · exact .inr ⟨_, e, hb8.size⟩
                · cases hi
                  have h0 := gdq _ _ _ (show a.tmps.getD 48 undef = .slice (some ⟨ga, 0, none⟩) nx.length nx.length from hM.at_ 0 (by decide) (by kernel_rfl))
                  have h1 := gdq _ _ _ (show a.tmps.getD 49 undef = .int .i64 t from hM.at_ 1 (by decide) (by kernel_rfl))
                  refine RegInv.op_value (by rfl) rfl (v := .pointer (some ⟨ga, t.toNat, none⟩)) (w' := w8) ?_ ⟨_, rfl, rfl, grown_refl _ _, fun _ => Below.refl _ _⟩
                  unfold execOp
                  go_simp
                · exact absurd hlt (by omega)
              case heDA =>
                intro vs8 w8 hx hf
                have e0 : vs8 0 = .slice (some ⟨ga, 0, none⟩) nx.length nx.length := hf 0 (by decide)
                have e1 : vs8 1 = .int .i64 t := hf 1 (by decide)
                have e2 : vs8 2 = .slice (some ⟨ga, 0, none⟩) nx.length nx.length := hf 2 (by decide)
                have e3 : vs8 3 = .int .i64 t := hf 3 (by decide)
                have e4 : vs8 4 = .pointer (some ⟨ga, t.toNat, none⟩) := hf 4 (by decide)
                have e5 : vs8 5 = .slice Ae (ah.getD t.toNat []).length ce := hf 5 (by decide)
                have e6 : vs8 6 = .int .i64 b := hf 6 (by decide)
                have e8 := hf 8 (by decide)
                have e9 : vs8 9 = .pointer (some ⟨ga, t.toNat, none⟩) := hf 9 (by decide)
                obtain ⟨v8, hv8⟩ : ∃ v, v = vs8 8 := ⟨_, rfl⟩
                simp only [FDA, dDA] at e8
                rw [← hv8] at e8
                obtain ⟨c6, cga, fga⟩ := HKEEP.out w8 hx
                simp only [RegInv.puts, dDA, Act.put, List.range, List.range.loop, List.setIfInBounds_toArray, List.set_cons_zero, List.set_cons_succ]
                rw [e0, e1, e2, e3, e4, e5, e6, e9, ← hv8]
                have HDS := Aside0.mk (HS.out.put HG.out htn (r := ah.getD t.toNat [] ++ [b]) (by rw [List.map_append, List.length_append]; exact e8.1) (HVE.out ▸ hx) (HVE.out ▸ e8.2))
                have HAH2 := Aside0.mk (ahof_step HAH.out HNP.out ht0)
                obtain ⟨gv, cv, rfl⟩ := ownsRow_succ e8.1
                refine RegInv.op_skip (w' := w8.setCell ⟨ga, t.toNat, none⟩ (.slice (some ⟨gv, 0, none⟩) ((ah.getD t.toNat []).length + 1) cv)) (by rfl) rfl ?_ ?_
                · unfold execOp
                  go_simp
                · refine hK _ _ ?_
                  simp only [Act.put, List.getElem_toArray, List.getElem_cons_succ, List.getElem_cons_zero]
                  clear hK hf hx c6 cga fga b6 cg fg hc3 e8 e0 e1 e2 e3 e4 e5 e6 e9 hv8
                  go_wp2_with (fail)
                  go_roundw
                  case measure => simp [intOf]; omega
                  case rel =>
                    refine ⟨j + 1, _, hlj, by first | rfl | go_num, ?_, HDS.out⟩
                    rw [HSTA.out]
                    exact HAH2.out
            · have hjn : j = (nb nx b).length := by omega
              subst hjn
              rw [List.take_length] at hAh
              have HT := Aside0.mk (ahof_turn (b' := 0) hAh)
              clear hAh hS HAH
              go_wp2_with (fail)
              go_roundw
              case measure => simp [intOf]; omega
              case rel =>
                refine ⟨k + 1, _, hlt, by first | rfl | go_num, ?_, HS.out⟩
                rw [HTK.out]
                exact HT.out
        · have hkn : k = (post nx).length := by omega
          subst hkn
          rw [List.take_length] at hAh
          have HAHD := Aside0.mk (ahof_end hAh)
          clear hlt HAH hAh HS
          obtain ⟨g12, hg12⟩ : ∃ g, g = wr.heap.size := ⟨_, rfl⟩
          have HD0 := Aside0.mk (hS.alloc (.cells #[.bool true] 4))
          have HB0 := Aside0.mk (Boxed.new wr 4 (.bool true))
          have HLT := Aside0.mk (show w.heap.size < wr.heap.size by have := hS.lo5; have := hS.box5.lt; omega)
          clear hS
          go_wp2_with (fail)
          revert HD0 HB0 HLT
          rw [← hg12]
          generalize wr.alloc (.cells #[.bool true] 4) = W2
          intro HD0 HB0 HLT
          clear hg12 HA HN
          refine wp_loop_ghost_k (fun m a' W => ∃ (v12 v60 v61 v62 v103 : Value) (ds : List Nat), (∃ (gc : Nat) (l : List Int) (chg : Bool), v12 = .pointer (some ⟨gc, 0, none⟩) ∧ w.heap.size < gc ∧ DS1 w W nx g5 ga g6 l ah ∧ Boxed W gc 4 (.bool chg) ∧ Dom.Good nx l ∧ rd l 0 = -1 ∧ (chg = false → IsDom nx l) ∧ 2 * worth nx l (ord nx) + (if chg = true then 1 else 0) ≤ m ∧ Marks w.heap.size W ds) ∧ a' = { tmps := #[.slice A nx.length c, .slice A1 (post nx).length c1, undef, undef, .slice none 0 0, .pointer (some ⟨g5, 0, none⟩), .pointer (some ⟨g6, 0, none⟩), u7, undef, u9, undef, u11, v12, undef, undef, undef, undef, undef, .slice A nx.length c, .int .i64 (nx.length : Int), .slice (some ⟨w.heap.size, 0, none⟩) nx.length nx.length, .slice A nx.length c, .int .i64 (nx.length : Int), .slice (some ⟨ga, 0, none⟩) nx.length nx.length, .slice (some ⟨w.heap.size, 0, none⟩) nx.length nx.length, .int .i64 (nx.length : Int), .int .i64 (nx.length : Int), .bool false, u28, u29, u30, u31, u32, .slice A1 (post nx).length c1, .int .i64 ((post nx).length : Int), .int .i64 ((post nx).length : Int), .bool false, u37, u38, u39, u40, u41, u42, u43, u44, u45, u46, u47, u48, u49, u50, u51, u52, u53, u54, u55, u56, u57, u58, u59, v60, v61, v62, undef, undef, undef, undef, undef, undef, undef, undef, undef, undef, undef, undef, undef, undef, undef, undef, undef, undef, undef, undef, undef, undef, undef, undef, undef, undef, undef, undef, undef, undef, undef, undef, undef, undef, undef, undef, undef, undef, undef, undef, v103, undef], defers := ds.map markD }) (2 * worth nx (List.replicate nx.length (-1)) (ord nx) + 1) ⟨_, _, _, _, _, [], ⟨g12, _, true, rfl, HLT.out, HD0.out, HB0.out, good_start hw, by simp [rd, List.getElem?_replicate, hpos], fun e => (by cases e), Nat.le_refl _, trivial⟩, rfl⟩ ?_
          clear HD0 HB0 HLT
          rintro m a' W ⟨v12, v60, v61, v62, v103, ds, ⟨gc, l, chg, rfl, hlt, hD, hB, hG, hz, hdom, hm, hM⟩, rfl⟩ J K hJ hK
          have HD := Aside0.mk hD
          have HB := Aside0.mk hB
          have HG := Aside0.mk hG
          have HZ := Aside0.mk hz
          have HDM := Aside0.mk hdom
          have HMM := Aside0.mk hm
          have HM := Aside0.mk hM
          have b12 := hB.cell
          have f12 := hB.frozen
          clear hD hB hG hz hdom hm hM
          cases chg with
          | false =>
            have b5 := HD.out.box5.cell
            go_wp2_with (fail)
            refine leaves_marks ds W HM.out fun W' hB' hc => ?_
            have hown : W'.ownsRow w.heap.size 3 1 (.slice (some ⟨w.heap.size, 0, none⟩) l.length nx.length) l.length (l.map (Value.int .i64)) := by
              rw [HD.out.llen]
              exact own_held HD.out.idom fun k o _ hk ho => hc k o hk ho
            refine ⟨_, results_tmp rfl _ _ _, _, rfl, l, ?_, HDM.out (by trivial), HD.out.below.trans hB'⟩
            have : (Kd.int .i64).R 3 W' w.heap.size (fun _ => True) (.slice (some ⟨w.heap.size, 0, none⟩) l.length nx.length) l := Kd.R_of_own hown (fun _ _ => trivial)
            rw [HD.out.llen] at this
            exact this
          | true =>
            go_wp2_with (fail)
            obtain ⟨W1, hW1⟩ : ∃ X, X = W.setCell ⟨gc, 0, none⟩ (.bool false) := ⟨_, rfl⟩
            have hD1 : DS1 w W1 nx g5 ga g6 l ah := hW1 ▸ HD.out.box HB.out hlt _
            have hB1 : Boxed W1 gc 4 (.bool false) := hW1 ▸ Boxed.set _ HB.out
            have hM1 : Marks w.heap.size W1 ds := hW1 ▸ HM.out.kept fun D _ _ h => by
              have hne : D ≠ gc := fun e => by
                subst e
                have := Option.some.inj (Eq.trans (Eq.symm h) HB.out)
                cases this
              exact (Below.heap_setCell W ⟨gc, 0, none⟩ (.bool false) D hne).trans h
            rw [← hW1]
            clear hW1 b12 f12 HB HM HD
            refine (backward_calls A1 c1 (post nx) W1).mono ?_
            rintro e w9 ⟨rfl, rfl⟩
            have HBX := Aside0.mk (Boxed.new W1 26 (.slice A1 (post nx).length c1))
            have HD := Aside0.mk (hD1.alloc (.cells #[.slice A1 (post nx).length c1] 26))
            have HB := Aside0.mk (hB1.alloc (.cells #[.slice A1 (post nx).length c1] 26))
            have HM := Aside0.mk (hM1.kept fun D _ _ h => ((World.grownBy_alloc W1 (.cells #[.slice A1 (post nx).length c1] 26) none).block D (blk_lt h) (by simp)).trans h)
            have HBK := Aside0.mk (show gc < W1.heap.size ∧ w.heap.size < W1.heap.size from ⟨blk_lt hB1, by have := blk_lt hB1; omega⟩)
            have HSZ := Aside0.mk (show (W1.alloc (.cells #[.slice A1 (post nx).length c1] 26)).heap.size = W1.heap.size + 1 by simp)
            clear hD1 hB1 hM1
            revert HBX HD HB HM HBK HSZ
            generalize W1.alloc (.cells #[.slice A1 (post nx).length c1] 26) = W3
            generalize W1.heap.size = Bk
            intro HBX HD HB HM HBK HSZ
            go_wp2_with (fail)
            obtain ⟨f, hf⟩ : ∃ f : List Int → List Int × Bool, f = fun pre => (pre.map (rd (post nx))).foldl (procB ah) (l, false) := ⟨_, rfl⟩
            have hf0 : f [] = (l, false) := by rw [hf]; rfl
            have hf1 : ∀ pre x, f (pre ++ [x]) = procB ah (f pre) (rd (post nx) x) := fun pre x => by rw [hf]; simp
            have hf2 : f (downs (post nx).length) = pass nx ah l := by rw [hf]; simp only; rw [downs_all]; rfl
            have HF1 := Aside0.mk hf1
            have HF2 := Aside0.mk hf2
            clear hf hf1 hf2
            have hszA := HSZ.out
            have hbkA := HBK.out
            refine (wpIn_wide (n := 10)).1 ?_
            refine range12B (K2 W3.heap.size w.heap.size gc) K2.trans (K2.refl _ _ _) (by decide) rfl (enters_of Try.func67 (by kernel_rfl) rfl) (by simp) (by simp) (by decide) (rd (post nx))
              (downs_stops Fence.wide 9 trivial rfl (by decide) Bk (K2 W3.heap.size w.heap.size gc) K2.trans A1 c1 (post nx) (by omega) W3 (fun W' h => ⟨h.blk HBX.out (by omega) (by omega) (by omega), Kd.C_below HP.out (HD.out.below.trans (h.below (by omega) (Nat.le_refl _) (by omega)))⟩) W3 (K2.refl _ _ _ _) (fun h => K2.of_below h))
              (fun W' l' o o' hl' h hc hw' => K2.put (Nat.le_refl _) W' l' o o' hl' h hc hw') (Below.refl _ _)
              (fun pre W' => DS1 w W' nx g5 ga g6 (f pre).1 ah ∧ (Boxed W' gc 4 (.bool (f pre).2) ∧ K2 W3.heap.size w.heap.size gc W3 W'))
              (OwnFrom.and (DS1.ownF (by omega) (fun pre => (f pre).1)) (OwnFrom.and (Own.from (boxed_own _ _ (fun pre => .bool (f pre).2)) _) (K2.own (Nat.le_refl _) (Nat.le_refl _))))
              ⟨by rw [hf0]; exact HD.out, by rw [hf0]; exact HB.out, K2.refl _ _ _ _⟩ ?body ?done
            case body =>
              rintro lp pre x W hlp ⟨r, hr⟩ ⟨hDW, hBW, hKW⟩ hplt
              simp only [List.setIfInBounds_toArray, List.set_cons_succ, List.set_cons_zero]
              have hfx := HF1.out pre x
              obtain ⟨b, hb⟩ : ∃ b, rd (post nx) x = b := ⟨_, rfl⟩
              rw [hb] at hfx ⊢
              have hbd : 0 ≤ b ∧ b < (nx.length : Int) := by
                rw [← hb]
                unfold rd
                rw [List.getD_eq_getElem?_getD]
                cases hg : (post nx)[x.toNat]? with
                | none => exact ⟨Int.le_refl _, by simp; omega⟩
                | some y => exact post_bound nx hw (List.mem_of_getElem? hg)
              obtain ⟨hb0, hb1⟩ := hbd
              obtain ⟨s, hs⟩ : ∃ s, f pre = s := ⟨_, rfl⟩
              rw [hs] at hDW hBW hfx
              have HFX := Aside0.mk hfx
              clear HF1 HF2 hb hf0 hs hfx
              have HSL := Aside0.mk hDW.llen
              by_cases hbz : b = 0
              · subst hbz
                have HX := Aside0.mk (show procB ah s 0 = s by unfold procB; rw [if_pos rfl])
                have HDW := Aside0.mk hDW
                have HBW := Aside0.mk hBW
                have HKW := Aside0.mk hKW
                clear hDW hBW hKW
                gi_wp2_with (fail)
                exact ⟨KeepsFrom.refl _ _, K2.refl _ _ _ _, by rw [HFX.out, HX.out]; exact HDW.out, by rw [HFX.out, HX.out]; exact HBW.out, HKW.out⟩
              · have HBZ := Aside0.mk hbz
                obtain ⟨vs, hgr⟩ := hDW.grid
                have hbn : b.toNat < nx.length := by omega
                have b6 := hDW.box6.cell
                have cg := hgr.cellAt hbn
                have her := hgr.each b.toNat hbn
                obtain ⟨Ae, ce, hve⟩ := row_slice her
                rw [hve] at cg her
                have hCr := (row_C her).1
                obtain ⟨row, hrow⟩ : ∃ row, ah.getD b.toNat [] = row := ⟨_, rfl⟩
                rw [hrow] at cg hCr her
                have hmem : ∀ a ∈ row, 0 ≤ a ∧ a < (nx.length : Int) := fun a ha => post_bound nx hw ((HAHD.out.mem b hb0 hb1 a).1 (hrow ▸ ha)).1
                have hrl : row.length ≤ 9223372036854775807 := Kd.C_max hCr
                have HDW := Aside0.mk hDW
                have HBW := Aside0.mk hBW
                have HKW := Aside0.mk hKW
                have HCR := Aside0.mk hCr
                have HMEM := Aside0.mk hmem
                have HPB := Aside0.mk (show procB ah s b = if rd s.1 b ≠ atOf s.1 row (-1) then (s.1.set b.toNat (atOf s.1 row (-1)), true) else s by unfold procB; rw [if_neg hbz, hrow])
                clear hDW hBW hKW hCr her hve hgr hmem hrow
                have hWs : W3.heap.size ≤ W.heap.size := HKW.out.1.size
                gi_wp2_with (fail)
                clear b6 cg
                rw [show (b == 0) = false from by simpa using hbz]
                clear hbz
                gi_loopw [15, 72] (fun v15 v72 wr => ∃ (j : Nat) (at_ : Int), j ≤ row.length ∧ v72 = .int .i64 (j : Int) ∧ v15 = .int .i64 at_ ∧ atOf s.1 (row.drop j) at_ = atOf s.1 row (-1) ∧ Below W.heap.size W wr) (fun v15 v72 _ => ((row.length : Int) - intOf v72).toNat)
                case atStart => exact ⟨0, -1, Nat.zero_le _, rfl, rfl, rfl, Below.refl _ _⟩
                case round =>
                  obtain ⟨j, at_, hj, rfl, rfl, hat, hBe⟩ := hrel
                  have HAT := Aside0.mk hat
                  have HBE := Aside0.mk hBe
                  have hDr := HDW.out.from_ hBe
                  have b5 := hDr.box5.cell
                  have HDR := Aside0.mk hDr
                  clear hat
                  by_cases hlj : j < row.length
                  · have hCj := Kd.C_below HCR.out hBe
                    have h0j : (0 : Int) ≤ (j : Int) := by omega
                    have hji : (j : Int) < (row.length : Int) := by omega
                    obtain ⟨ad3, rfl, hc3⟩ := Kd.at_int hCj (j : Int) h0j hji
                    rw [Int.toNat_natCast] at hc3
                    obtain ⟨a, ha⟩ : ∃ a, rd row (j : Int) = a := ⟨_, rfl⟩
                    rw [ha] at hc3
                    have hget : row[j]? = some a := by rw [← ha, List.getElem?_eq_getElem hlj]; simp [rd, hlj]
                    obtain ⟨ha0, ha1⟩ := HMEM.out a (List.mem_of_getElem? hget)
                    have han : a.toNat < nx.length := by omega
                    have hsl := HSL.out
                    have ca := hDr.idom.cellAt a.toNat (by omega)
                    have e1 : ((s.1).map (Value.int .i64))[a.toNat]? = some (.int .i64 (rd s.1 a)) := by
                      rw [List.getElem?_map, List.getElem?_eq_getElem (by omega)]
                      simp [rd, List.getElem?_eq_getElem (show a.toNat < s.1.length by omega)]
                    rw [e1] at ca
                    have hdrop : row.drop j = a :: row.drop (j + 1) := by
                      rw [List.drop_eq_getElem_cons hlj]
                      congr 1
                      have := List.getElem?_eq_getElem hlj
                      rw [hget] at this
                      exact (Option.some.inj this).symm
                    have hstep : atOf s.1 (row.drop (j + 1)) (if a ≠ 0 ∧ rd s.1 a < 0 then at_ else if at_ < 0 then a else meetOf s.1 at_ a) = atOf s.1 row (-1) := by
                      rw [← HAT.out, hdrop]; rfl
                    have HSTEP := Aside0.mk hstep
                    have hjm : (j : Int) < 9223372036854775807 := by omega
                    have HRUN := Aside0.mk (show ∀ at2, (if a ≠ 0 ∧ rd s.1 a < 0 then at_ else if at_ < 0 then a else meetOf s.1 at_ a) = at2 → atOf s.1 (row.drop (j + 1)) at2 = atOf s.1 row (-1) from fun at2 e => e ▸ hstep)
                    have hCl : (Kd.int .i64).C wr (some ⟨w.heap.size, 0, none⟩) s.1.length s.1 := (row_C (w := wr) (base := w.heap.size) (c := nx.length) (by rw [hsl]; exact hDr.idom)).1
                    have hmeet := meet_calls (some ⟨w.heap.size, 0, none⟩) nx.length s.1 at_ a wr hCl (by omega)
                    rw [hsl] at hmeet
                    have HMEET := Aside0.mk hmeet
                    obtain ⟨q, hq⟩ : ∃ q, rd s.1 a = q := ⟨_, rfl⟩
                    rw [hq] at ca
                    have HQ := Aside0.mk hq
                    clear hDr hCj ha hget e1 hdrop hstep HSTEP hCl hmeet hq hBe
                    clear hsl
                    by_cases hz : a = 0
                    · subst hz
                      by_cases hneg : at_ < 0
                      · have HE := Aside0.mk (show atOf s.1 (row.drop (j + 1)) 0 = atOf s.1 row (-1) from HRUN.out 0 (by rw [if_neg (fun h => h.1 rfl), if_pos hneg]))
                        gi_wp2_with (fail)
                        go_roundw
                        case rel => first | exact ⟨j + 1, 0, hlj, by first | rfl | go_num, rfl, HE.out, HBE.out⟩ | ((repeat apply Exists.intro); exact ⟨⟨j + 1, 0, hlj, by first | rfl | go_num, rfl, HE.out, HBE.out⟩, rfl⟩)
                        case measure => simp [intOf]; omega
                      · have HE := Aside0.mk (show atOf s.1 (row.drop (j + 1)) (meetOf s.1 at_ 0) = atOf s.1 row (-1) from HRUN.out _ (by rw [if_neg (fun h => h.1 rfl), if_neg hneg]))
                        have hneg' : 0 ≤ at_ := by omega
                        gi_wp2_with (fail)
                        refine ⟨trivial, ?_⟩
                        refine (CallsIn.inRound lp (callsIn_wide.2 HMEET.out)).mono ?_
                        rintro e W9 ⟨rfl, hb9⟩
                        gi_wp2_with (fail)
                        go_roundw
                        case rel => first | exact ⟨j + 1, _, hlj, by first | rfl | go_num, rfl, HE.out, HBE.out.trans (hb9.mono HBE.out.size)⟩ | ((repeat apply Exists.intro); exact ⟨⟨j + 1, _, hlj, by first | rfl | go_num, rfl, HE.out, HBE.out.trans (hb9.mono HBE.out.size)⟩, rfl⟩)
                        case measure => simp [intOf]; omega
                    · have hne : (a != 0) = true := by simpa using hz
                      have HZ := Aside0.mk hz
                      clear hz
                      by_cases hqn : q < 0
                      · have HE := Aside0.mk (show atOf s.1 (row.drop (j + 1)) at_ = atOf s.1 row (-1) from HRUN.out _ (by rw [if_pos ⟨HZ.out, HQ.out ▸ hqn⟩]))
                        gi_wp2_with (fail)
                        go_roundw
                        case rel => first | exact ⟨j + 1, at_, hlj, by first | rfl | go_num, rfl, HE.out, HBE.out⟩ | ((repeat apply Exists.intro); exact ⟨⟨j + 1, at_, hlj, by first | rfl | go_num, rfl, HE.out, HBE.out⟩, rfl⟩)
                        case measure => simp [intOf]; omega
                      · have hqn' : 0 ≤ q := by omega
                        by_cases hneg : at_ < 0
                        · have HE := Aside0.mk (show atOf s.1 (row.drop (j + 1)) a = atOf s.1 row (-1) from HRUN.out _ (by rw [if_neg (fun h => hqn (HQ.out ▸ h.2)), if_pos hneg]))
                          gi_wp2_with (fail)
                          go_roundw
                          case rel => first | exact ⟨j + 1, a, hlj, by first | rfl | go_num, rfl, HE.out, HBE.out⟩ | ((repeat apply Exists.intro); exact ⟨⟨j + 1, a, hlj, by first | rfl | go_num, rfl, HE.out, HBE.out⟩, rfl⟩)
                          case measure => simp [intOf]; omega
                        · have HE := Aside0.mk (show atOf s.1 (row.drop (j + 1)) (meetOf s.1 at_ a) = atOf s.1 row (-1) from HRUN.out _ (by rw [if_neg (fun h => hqn (HQ.out ▸ h.2)), if_neg hneg]))
                          have hneg' : 0 ≤ at_ := by omega
                          gi_wp2_with (fail)
                          refine ⟨trivial, ?_⟩
                          refine (CallsIn.inRound lp (callsIn_wide.2 HMEET.out)).mono ?_
                          rintro e W9 ⟨rfl, hb9⟩
                          gi_wp2_with (fail)
                          go_roundw
                          case rel => first | exact ⟨j + 1, _, hlj, by first | rfl | go_num, rfl, HE.out, HBE.out.trans (hb9.mono HBE.out.size)⟩ | ((repeat apply Exists.intro); exact ⟨⟨j + 1, _, hlj, by first | rfl | go_num, rfl, HE.out, HBE.out.trans (hb9.mono HBE.out.size)⟩, rfl⟩)
                          case measure => simp [intOf]; omega
                  · have hjn : j = row.length := by omega
                    subst hjn
                    have hfin : at_ = atOf s.1 row (-1) := by
                      have := HAT.out
                      rw [List.drop_length] at this
                      exact this
                    have hpb := HPB.out
                    rw [← hfin] at hpb
                    have hsl := HSL.out
                    have cb := hDr.idom.cellAt b.toNat (by omega)
                    have fb := hDr.idom.frozenAt b.toNat
                    have e1 : ((s.1).map (Value.int .i64))[b.toNat]? = some (.int .i64 (rd s.1 b)) := by
                      rw [List.getElem?_map, List.getElem?_eq_getElem (by omega)]
                      simp [rd, List.getElem?_eq_getElem (show b.toNat < s.1.length by omega)]
                    rw [e1] at cb
                    obtain ⟨q, hq⟩ : ∃ q, rd s.1 b = q := ⟨_, rfl⟩
                    rw [hq] at cb hpb
                    have hBr := blk_below HBW.out hBe
                    have f12 := Boxed.frozen hBr
                    have HBR := Aside0.mk hBr
                    have HKB := Aside0.mk (show K2 W3.heap.size w.heap.size gc W wr from K2.of_below (hBe.mono hWs))
                    have HKF := Aside0.mk (show KeepsFrom W3.heap.size W wr from ⟨hBe.size, fun k o _ hk _ => (hBe.block k (blk_lt hk)).trans hk⟩)
                    clear hDr hsl e1 hq hBr hBe hfin HAT
                    by_cases he : q = at_
                    · subst he
                      have HE := Aside0.mk (show procB ah s b = s by rw [hpb, if_neg (fun h => h rfl)])
                      clear hpb
                      gi_wp2_with (fail)
                      exact ⟨HKF.out, HKB.out, by rw [HFX.out, HE.out]; exact HDR.out, by rw [HFX.out, HE.out]; exact HBR.out, HKW.out.trans HKB.out⟩
                    · have HE := Aside0.mk (show procB ah s b = (s.1.set b.toNat at_, true) by rw [hpb, if_pos he])
                      clear hpb
                      have hB2 : Boxed (wr.setCell ⟨w.heap.size, b.toNat, none⟩ (.int .i64 at_)) gc 4 (.bool s.2) := Boxed.kept (h := HBR.out) (HDR.out.idom.stored b.toNat (.int .i64 at_)).2 (by simp; omega)
                      have f12' := Boxed.frozen hB2
                      have k12' := Boxed.cell hB2
                      gi_wp2_with (fail)
                      exact ⟨(HKF.out.trans ((KeepsOthers.setCell _ _ _).from _)).trans ((KeepsOthers.setCell _ _ _).from _), (HKB.out.set _ _).set' _ _, by rw [HFX.out, HE.out]; exact (HDR.out.setI b.toNat at_).box hB2 (by omega) _, by rw [HFX.out, HE.out]; exact Boxed.set _ hB2, HKW.out.trans ((HKB.out.set _ _).set' _ _)⟩
            case done =>
              rintro D xs W hDd rfl ⟨hDW, hBW, hKW⟩ hK
              have hmk : Marks w.heap.size W ds := HM.out.kept fun D' hD' hb' h' => by
                refine hKW.blk h' (blk_lt h') (fun e => ?_) (fun e => ?_)
                · subst e
                  obtain ⟨cells, hc⟩ := own_typed HD.out.idom _ rfl
                  rw [hc] at h'
                  cases h'
                · subst e
                  have := Option.some.inj (Eq.trans (Eq.symm h') HB.out)
                  cases this
              have hmn : Marks w.heap.size W (D :: ds) := hmk.more (by omega) hK (fun D' hD' e => by
                have := HM.out.lt D' hD'
                omega)
              rw [HF2.out] at hDW hBW
              have b12 := hBW.cell
              have HDW := Aside0.mk hDW
              have HBW := Aside0.mk hBW
              have HMN := Aside0.mk hmn
              have hmark : ({ target := .collected D, args := #[] } : Deferred) :: ds.map markD = (D :: ds).map markD := rfl
              clear hDW hBW hKW hmk hmn hf0
              rw [hmark]
              clear hmark
              go_wp2_with (fail)
              have hpm := pass_mids hw HAHD.out HG.out
              have hmo := HMM.out
              simp only [if_true] at hmo
              refine Handed.intro (2 * worth nx (pass nx ah l).1 (ord nx) + (if (pass nx ah l).2 = true then 1 else 0)) ?_ (hJ _ _ _ ⟨_, _, _, _, _, D :: ds, ⟨W.heap.size, (pass nx ah l).1, (pass nx ah l).2, rfl, ?_, HDW.out.alloc _, Boxed.new W 4 _, pass_good hw HAHD.out HG.out, ?_, fun hf => (by rw [(hpm.same hf).1]; exact pass_end hw HAHD.out HG.out HZ.out hf), Nat.le_refl _, ?_⟩, rfl⟩)
              · have h1 := hpm.w
                by_cases hch : (pass nx ah l).2 = true
                · have h2 := hpm.ch hch
                  rw [if_pos hch]; omega
                · rw [if_neg hch]; omega
              · have := blk_lt HBW.out; omega
              · rw [pass_zero hw]; exact HZ.out
              · exact HMN.out.kept fun D' _ _ h => ((World.grownBy_alloc W (.cells #[.bool (pass nx ah l).2] 4) none).block D' (blk_lt h) (by simp)).trans h
end Go.Proofs.Ytmeaepmimnmjlaa.Ask
