/- RegInv RegInvIn RegInvP Lit OwnCells -/
import Derived.Orders
import Derived.Tactics
import Derived.OrdersIn
import Derived.TacticsIn
import Derived.Test.YtmeaepmimnmjlaaWWords
import Derived.Maps.AppendAt
import Derived.Deep.AppendLies
/- A region that draws its order, by an invariant: whatever comes up next keeps it. -/
namespace Go.Proofs.Ytmeaepmimnmjlaa.RegInv
set_option linter.unusedVariables false
/-- what is asked behind one operation, in the place of what is asked behind the region -/
def After (K : Act → World → Prop) (Q : Exit → Act → World → Prop) : Exit → Act → World → Prop
  | .normal, a, w => K a w
  | e, a, w => Q e a w
theorem After.lets {K : Act → World → Prop} {Q : Exit → Act → World → Prop} (h : LetsOut (After K Q)) : LetsOut Q := h
theorem wp_after {P : Program} {o : Oper} {a : Act} {w : World} {K K' : Act → World → Prop} {Q : Exit → Act → World → Prop} (hk : ∀ a w, K' a w → K a w) (hh : o.wp P a w K' (After K Q)) : o.wp P a w K Q := by
  unfold Oper.wp at *
  generalize (execOp a.eval o).run P w = r at *
  cases r with
  | ok n w' =>
    cases n <;> simp only [Oper.upon] at hh ⊢ <;>
      first
        | exact hk _ _ hh
        | exact Calls.mono hh (fun e w'' he => by cases e <;> first | exact hk _ _ he | exact he)
        | exact Rows.mono hh (fun _ _ he => hk _ _ he)
  | halt x w' => cases x <;> simp only [Oper.upon] at hh ⊢ <;> exact hh
theorem op_of_list {P : Program} {ops : Array Oper} {Q : Exit → Act → World → Prop} {i : Nat} {o : Oper} {K : Act → World → Prop} {a : Act} {w : World} (hi : ops[i]? = some o) (h : wpList P ops (After K Q) [o] a w) : wpOp P ops Q i K a w := by
  unfold wpOp
  rw [hi]
  simp only
  unfold wpList at h
  split
  · rename_i hw
    rw [if_pos hw] at h
    rcases h with h | ⟨h1, h2⟩
    · exact .inl (wp_after (fun a w hk => hk) h)
    · exact .inr ⟨h1, h2⟩
  · rename_i hw
    rw [if_neg hw] at h
    exact h
def falses (l : Array Bool) : Nat := l.toList.countP (· == false)
theorem falses_set {l : Array Bool} {i : Nat} (h : l[i]? = some false) : falses (l.setIfInBounds i true) + 1 = falses l := by
  unfold falses
  obtain ⟨hi, he⟩ := Array.getElem?_eq_some_iff.1 h
  rw [Array.toList_setIfInBounds, List.countP_set (by simpa using hi)]
  have hm : l.toList[i] = false := by simpa using he
  have hp : 0 < l.toList.countP (· == false) := List.countP_pos_iff.2 ⟨false, by rw [← hm]; exact List.getElem_mem _, rfl⟩
  have e1 : (l.toList[i] == false) = true := by rw [hm]; rfl
  rw [if_pos e1, if_neg (by decide)]
  omega
/-- each operation waits for earlier ones alone -/
def early (md : Region.Mode) (ops : Array Oper) : Bool := (List.range ops.size).all fun i => match ops[i]? with
  | some o => o.after.all fun e => !Region.binds md e || decide (e.on < i)
  | none => true
theorem ready_spec {md : Region.Mode} {ops : Array Oper} {l : Array Bool} {i : Nat} (h : i ∈ Region.ready md ops l) : l[i]? = some false ∧ ∃ o, ops[i]? = some o ∧ (o.after.all fun e => !Region.binds md e || l.getD e.on false) = true := by
  unfold Region.ready at h
  rw [List.mem_filter, Bool.and_eq_true] at h
  obtain ⟨h0, h1, h2⟩ := h
  have hl : l[i]? = some false := by
    rw [Array.getD_eq_getD_getElem?] at h1
    cases hx : l[i]? with
    | none => rw [hx] at h1; simp at h1
    | some b => rw [hx] at h1; simp at h1; rw [h1]
  refine ⟨hl, ?_⟩
  cases ho : ops[i]? with
  | none => rw [ho] at h2; simp at h2
  | some o => rw [ho] at h2; exact ⟨o, rfl, h2⟩
theorem ready_all {md : Region.Mode} {ops : Array Oper} {l : Array Bool} (he : early md ops = true) (hs : l.size = ops.size) (h : Region.ready md ops l = []) : ∀ i, i < ops.size → l[i]? = some true := by
  intro i
  induction i using Nat.strongRecOn with
  | _ i ih =>
    intro hi
    cases hb : l[i]'(by omega) with
    | true => rw [Array.getElem?_eq_getElem (by omega), hb]
    | false =>
      exfalso
      have hm : i ∈ Region.ready md ops l := by
        unfold Region.ready
        rw [List.mem_filter]
        refine ⟨List.mem_range.2 hi, ?_⟩
        rw [Bool.and_eq_true]
        refine ⟨by simp [Array.getD_eq_getD_getElem?, Array.getElem?_eq_getElem (show i < l.size by omega), hb], ?_⟩
        have ho : ops[i]? = some ops[i] := Array.getElem?_eq_getElem hi
        have h1 := List.all_eq_true.1 he i (List.mem_range.2 hi)
        rw [ho] at h1 ⊢
        simp only [Option.map_some, Option.getD_some]
        rw [Array.all_eq_true'] at h1 ⊢
        intro e hem
        have h2 := h1 e hem
        rw [Bool.or_eq_true] at h2 ⊢
        rcases h2 with h2 | h2
        · exact .inl h2
        · have h3 : e.on < i := of_decide_eq_true h2
          refine .inr ?_
          rw [Array.getD_eq_getD_getElem?, ih e.on h3 (by omega)]; rfl
      rw [h] at hm; cases hm
/-- THE RULE -/
theorem region_inv {P : Program} {id : Nat} {ops : Array Oper} {Q : Exit → Act → World → Prop} {a : Act} {w : World} (hm : P.follows .mixedOrders = true) (he : early .any ops = true)
    (Inv : Array Bool → Act → World → Prop) (h0 : Inv (Array.replicate ops.size false) a { w with drawn := w.drawn + 1 })
    (hstep : ∀ l a w i o, l.size = ops.size → Inv l a w → ops[i]? = some o → l[i]? = some false → (o.after.all fun e => !Region.binds .any e || l.getD e.on false) = true → wpList P ops (After (fun a' w' => Inv (l.setIfInBounds i true) a' w') Q) [o] a w)
    (hend : ∀ a w, Inv (Array.replicate ops.size true) a w → Q .normal a w) : (Code.region id ops true).wp P Q a w := by
  refine wp_region_any hm ?_
  have go : ∀ (fuel : Nat) (l : Array Bool) (a : Act) (w : World), l.size = ops.size → falses l ≤ fuel → Inv l a w → wpAny P .any ops Q fuel l a w := by
    intro fuel
    have fin : ∀ (l : Array Bool) (a : Act) (w : World), l.size = ops.size → Inv l a w → Region.ready .any ops l = [] → Q .normal a w := by
      intro l a w hs hI hr
      have : l = Array.replicate ops.size true := by
        apply Array.ext
        · simp [hs]
        · intro i h1 h2
          have := ready_all he hs hr i (by omega)
          rw [Array.getElem?_eq_getElem h1] at this
          simpa using Option.some.inj this
      exact hend a w (this ▸ hI)
    induction fuel with
    | zero =>
      intro l a w hs hf hI
      have hr : Region.ready .any ops l = [] := by
        cases hx : Region.ready .any ops l with
        | nil => rfl
        | cons i r =>
          obtain ⟨h1, _⟩ := ready_spec (md := .any) (ops := ops) (l := l) (i := i) (by rw [hx]; exact List.mem_cons_self)
          have := falses_set h1
          omega
      exact ⟨hr, fin l a w hs hI hr⟩
    | succ n ih =>
      intro l a w hs hf hI
      refine ⟨fin l a w hs hI, fun i hi => ?_⟩
      obtain ⟨h1, o, ho, h2⟩ := ready_spec hi
      refine wpOp_mono (fun a' w' hI' => ih _ a' w' (by simpa using hs) (by have := falses_set h1; omega) hI') (op_of_list ho (hstep l a w i o hs hI ho h1 h2))
  exact go ops.size _ a _ (by simp) (by unfold falses; simp [List.countP_replicate]) h0

/-- the same, an operation at a time -/
theorem region_inv_op {P : Program} {id : Nat} {ops : Array Oper} {Q : Exit → Act → World → Prop} {a : Act} {w : World} (hm : P.follows .mixedOrders = true) (he : early .any ops = true)
    (Inv : Array Bool → Act → World → Prop) (h0 : Inv (Array.replicate ops.size false) a { w with drawn := w.drawn + 1 })
    (hstep : ∀ l a w i o, l.size = ops.size → Inv l a w → ops[i]? = some o → l[i]? = some false → (o.after.all fun e => !Region.binds .any e || l.getD e.on false) = true → wpOp P ops Q i (fun a' w' => Inv (l.setIfInBounds i true) a' w') a w)
    (hend : ∀ a w, Inv (Array.replicate ops.size true) a w → Q .normal a w) : (Code.region id ops true).wp P Q a w := by
  refine wp_region_any hm ?_
  have go : ∀ (fuel : Nat) (l : Array Bool) (a : Act) (w : World), l.size = ops.size → falses l ≤ fuel → Inv l a w → wpAny P .any ops Q fuel l a w := by
    intro fuel
    have fin : ∀ (l : Array Bool) (a : Act) (w : World), l.size = ops.size → Inv l a w → Region.ready .any ops l = [] → Q .normal a w := by
      intro l a w hs hI hr
      have : l = Array.replicate ops.size true := by
        apply Array.ext
        · simp [hs]
        · intro i h1 h2
          have := ready_all he hs hr i (by omega)
          rw [Array.getElem?_eq_getElem h1] at this
          simpa using Option.some.inj this
      exact hend a w (this ▸ hI)
    induction fuel with
    | zero =>
      intro l a w hs hf hI
      have hr : Region.ready .any ops l = [] := by
        cases hx : Region.ready .any ops l with
        | nil => rfl
        | cons i r =>
          obtain ⟨h1, _⟩ := ready_spec (md := .any) (ops := ops) (l := l) (i := i) (by rw [hx]; exact List.mem_cons_self)
          have := falses_set h1
          omega
      exact ⟨hr, fin l a w hs hI hr⟩
    | succ n ih =>
      intro l a w hs hf hI
      refine ⟨fin l a w hs hI, fun i hi => ?_⟩
      obtain ⟨h1, o, ho, h2⟩ := ready_spec hi
      refine wpOp_mono (fun a' w' hI' => ih _ a' w' (by simpa using hs) (by have := falses_set h1; omega) hI') (hstep l a w i o hs hI ho h1 h2)
  exact go ops.size _ a _ (by simp) (by unfold falses; simp [List.countP_replicate]) h0

/-! one operation -/
theorem op_value {P : Program} {ops : Array Oper} {Q : Exit → Act → World → Prop} {i : Nat} {o : Oper} {K : Act → World → Prop} {a : Act} {w w' : World} {v : Value} (hi : ops[i]? = some o) (hg : o.guard = none) (hrun : (execOp a.eval o).run P w = .ok (.value v) w') (h : K (a.put o.dst v) w') : wpOp P ops Q i K a w := by
  unfold wpOp
  rw [hi]
  simp only
  rw [if_pos (by simp [Region.wanted, hg])]
  refine .inl ?_
  unfold Oper.wp
  rw [hrun]
  exact h
theorem op_skip {P : Program} {ops : Array Oper} {Q : Exit → Act → World → Prop} {i : Nat} {o : Oper} {K : Act → World → Prop} {a : Act} {w w' : World} (hi : ops[i]? = some o) (hg : o.guard = none) (hrun : (execOp a.eval o).run P w = .ok .skip w') (h : K (a.put o.dst undef) w') : wpOp P ops Q i K a w := by
  unfold wpOp
  rw [hi]
  simp only
  rw [if_pos (by simp [Region.wanted, hg])]
  refine .inl ?_
  unfold Oper.wp
  rw [hrun]
  exact h
theorem op_call {P : Program} {ops : Array Oper} {Q : Exit → Act → World → Prop} {i : Nat} {o : Oper} {K : Act → World → Prop} {a : Act} {w : World} (hi : ops[i]? = some o) (hg : o.guard = none) {f : FuncId} {fn : Func} {as : Array Operand} {ts : Array TypeId} (hf : P.funcs[f]? = some fn) (hname : (fn.name == "runtime.NumGoroutine") = false) (hb : fn.body.isSome = true)
    (hop : o.op = .call { callee := .value (.func f), args := as, argTypes := ts }) (args : Array Value) (hargs : as.map a.eval = args) (h : Calls P f args w fun e w' => ∃ v, e = .returned v ∧ K (a.put o.dst v) w') : wpOp P ops Q i K a w := by
  unfold wpOp
  rw [hi]
  simp only
  rw [if_pos (by simp [Region.wanted, hg])]
  refine .inl ?_
  have h1 : fn.name ≠ "runtime.NumGoroutine" := by simpa using hname
  obtain ⟨c, hc⟩ := Option.isSome_iff_exists.1 hb
  have he : (callFunc f args).run P w = .ok (.enter f args) w := by simp [callFunc, hf, h1, hc]
  have hrun : (execOp a.eval o).run P w = .ok (.enter f args) w := by
    unfold execOp
    simp [hop, resolve, Deferred.ofValue, invoke, Act.eval, hargs, he]
  unfold Oper.wp
  rw [hrun, Oper.upon_enter]
  refine h.mono fun e w'' hh => ?_
  obtain ⟨v, rfl, hk⟩ := hh
  exact hk

/-! operations that are guarded ('&&', '||'), the guard known -/
theorem wanted_of {ops : Array Oper} {o : Oper} {a : Act} {g : Nat} {b : Bool} (t : Tmp) (hg : o.guard = some (g, b)) (hd : (ops[g]?).bind (·.dst) = some t) (hv : a.tmps.getD t undef = .bool b) : Region.wanted o (yielded ops a.tmps) = true := by
  unfold Region.wanted yielded
  rw [hg]
  simp only
  rw [hd]
  simp only [Option.bind_some]
  rw [Array.getD_eq_getD_getElem?] at hv
  cases hx : a.tmps[t]? with
  | none => rw [hx] at hv; simp [undef] at hv
  | some v => rw [hx] at hv; simp only [Option.getD_some] at hv; rw [hv]; simp
theorem op_valueW {P : Program} {ops : Array Oper} {Q : Exit → Act → World → Prop} {i : Nat} {o : Oper} {K : Act → World → Prop} {a : Act} {w w' : World} {v : Value} (hi : ops[i]? = some o) (hg : Region.wanted o (yielded ops a.tmps) = true) (hrun : (execOp a.eval o).run P w = .ok (.value v) w') (h : K (a.put o.dst v) w') : wpOp P ops Q i K a w := by
  unfold wpOp
  rw [hi]
  simp only
  rw [if_pos hg]
  refine .inl ?_
  unfold Oper.wp
  rw [hrun]
  exact h
theorem op_callW {P : Program} {ops : Array Oper} {Q : Exit → Act → World → Prop} {i : Nat} {o : Oper} {K : Act → World → Prop} {a : Act} {w : World} (hi : ops[i]? = some o) (hg : Region.wanted o (yielded ops a.tmps) = true) {f : FuncId} {fn : Func} {as : Array Operand} {ts : Array TypeId} (hf : P.funcs[f]? = some fn) (hname : (fn.name == "runtime.NumGoroutine") = false) (hb : fn.body.isSome = true)
    (hop : o.op = .call { callee := .value (.func f), args := as, argTypes := ts }) (args : Array Value) (hargs : as.map a.eval = args) (h : Calls P f args w fun e w' => ∃ v, e = .returned v ∧ K (a.put o.dst v) w') : wpOp P ops Q i K a w := by
  unfold wpOp
  rw [hi]
  simp only
  rw [if_pos hg]
  refine .inl ?_
  have h1 : fn.name ≠ "runtime.NumGoroutine" := by simpa using hname
  obtain ⟨c, hc⟩ := Option.isSome_iff_exists.1 hb
  have he : (callFunc f args).run P w = .ok (.enter f args) w := by simp [callFunc, hf, h1, hc]
  have hrun : (execOp a.eval o).run P w = .ok (.enter f args) w := by
    unfold execOp
    simp [hop, resolve, Deferred.ofValue, invoke, Act.eval, hargs, he]
  unfold Oper.wp
  rw [hrun, Oper.upon_enter]
  refine h.mono fun e w'' hh => ?_
  obtain ⟨v, rfl, hk⟩ := hh
  exact hk

/-! what comes up in any order, each with a fact of its own that the others leave -/
def waits (o : Oper) (j : Nat) : Bool := o.after.any fun e => Region.binds .any e && e.on == j
theorem dep_of {o : Oper} {l : Array Bool} {j : Nat} (h : (o.after.all fun e => !Region.binds .any e || l.getD e.on false) = true) (hw : waits o j = true) : l[j]? = some true := by
  unfold waits at hw
  rw [Array.any_eq_true'] at hw
  rw [Array.all_eq_true'] at h
  obtain ⟨e, he, h1⟩ := hw
  rw [Bool.and_eq_true, beq_iff_eq] at h1
  have h2 := h e he
  rw [h1.1] at h2
  rw [Array.getD_eq_getD_getElem?, h1.2] at h2
  cases hx : l[j]? with
  | none => rw [hx] at h2; simp at h2
  | some b => rw [hx] at h2; simp at h2; rw [h2]
def puts (dst : Nat → Option Tmp) (vs : Nat → Value) : List Nat → Act → Act
  | [], a => a
  | i :: r, a => puts dst vs r (a.put (dst i) (vs i))
def slotsOk (dst : Nat → Option Tmp) (n N : Nat) : Bool := (List.range n).all fun i => match dst i with
  | some t => decide (t < N) && (List.range n).all fun j => (i == j) || dst j != some t
  | none => true
def off (dst : Nat → Option Tmp) (n : Nat) (t : Tmp) : Bool := (List.range n).all fun i => dst i != some t
theorem getD_put {a : Act} {d t : Nat} {v : Value} (h : d ≠ t) : (a.put (some d) v).tmps.getD t undef = a.tmps.getD t undef := by
  simp [Act.put, Array.getD_eq_getD_getElem?, h]
theorem getD_put_self {a : Act} {d : Nat} {v : Value} (h : d < a.tmps.size) : (a.put (some d) v).tmps.getD d undef = v := by
  simp [Act.put, Array.getD_eq_getD_getElem?, h]
theorem puts_frame (dst : Nat → Option Tmp) (vs : Nat → Value) : ∀ (l : List Nat) (a : Act), (puts dst vs l a).tmps.size = a.tmps.size ∧ (puts dst vs l a).defers = a.defers ∧ ∀ t, (∀ i ∈ l, dst i ≠ some t) → (puts dst vs l a).tmps.getD t undef = a.tmps.getD t undef
  | [], a => ⟨rfl, rfl, fun _ _ => rfl⟩
  | i :: r, a => by
    obtain ⟨h1, h2, h3⟩ := puts_frame dst vs r (a.put (dst i) (vs i))
    refine ⟨?_, ?_, fun t ht => ?_⟩
    · show (puts dst vs r (a.put (dst i) (vs i))).tmps.size = _
      rw [h1]; cases dst i <;> simp [Act.put]
    · show (puts dst vs r (a.put (dst i) (vs i))).defers = _
      rw [h2]; cases dst i <;> rfl
    · show (puts dst vs r (a.put (dst i) (vs i))).tmps.getD t undef = _
      rw [h3 t (fun j hj => ht j (List.mem_cons_of_mem _ hj))]
      have := ht i List.mem_cons_self
      cases hd : dst i with
      | none => rfl
      | some d => rw [hd] at this; exact getD_put (fun e => this (by rw [e]))
theorem puts_at (dst : Nat → Option Tmp) (vs : Nat → Value) : ∀ (l : List Nat) (a : Act) (i : Nat) (t : Tmp), i ∈ l → dst i = some t → t < a.tmps.size → (∀ j ∈ l, j ≠ i → dst j ≠ some t) → (puts dst vs l a).tmps.getD t undef = vs i
  | [], _, _, _, h, _, _, _ => by cases h
  | j :: r, a, i, t, hm, hd, ht, hne => by
    show (puts dst vs r (a.put (dst j) (vs j))).tmps.getD t undef = _
    by_cases hir : i ∈ r
    · exact puts_at dst vs r _ i t hir hd (by cases dst j <;> simpa [Act.put] using ht) (fun q hq => hne q (List.mem_cons_of_mem _ hq))
    · obtain rfl : i = j := by
        rcases List.mem_cons.1 hm with h | h
        · exact h
        · exact absurd h hir
      rw [(puts_frame dst vs r _).2.2 t (fun q hq => hne q (List.mem_cons_of_mem _ hq) (fun e => hir (e ▸ hq))), hd, getD_put_self ht]
/-- What is known in the midst of the region. -/
structure Mid (Ext : World → World → Prop) (dst : Nat → Option Tmp) (n : Nat) (F : Nat → World → Value → Prop) (a0 : Act) (w0 : World) (D : Nat → Prop) (a : Act) (w : World) : Prop where
  defers : a.defers = a0.defers
  size : a.tmps.size = a0.tmps.size
  off : ∀ t, off dst n t = true → a.tmps.getD t undef = a0.tmps.getD t undef
  ext : Ext w0 w
  at_ : ∀ i, i < n → D i → F i w (match dst i with | some t => a.tmps.getD t undef | none => undef)
theorem region_facts {P : Program} {id : Nat} {ops : Array Oper} {Q : Exit → Act → World → Prop} {a0 : Act} {w0 : World} (hm : P.follows .mixedOrders = true) (he : early .any ops = true)
    (Ext : World → World → Prop) (htr : ∀ a b c, Ext a b → Ext b c → Ext a c) (hdrew : Ext w0 { w0 with drawn := w0.drawn + 1 }) (dst : Nat → Option Tmp) (n : Nat) (hn : ops.size = n) (hsl : slotsOk dst n a0.tmps.size = true)
    (hdst : ((List.range n).all fun i => match ops[i]? with | some o => o.dst == dst i | none => false) = true) (F : Nat → World → Value → Prop) (hF : ∀ i w w1 v, F i w v → Ext w w1 → F i w1 v)
    (hstep : ∀ i o a w, ops[i]? = some o → Mid Ext dst n F a0 w0 (fun j => waits o j = true) a w → wpOp P ops Q i (fun a' w' => ∃ v, a' = a.put (dst i) v ∧ F i w' (match dst i with | some _ => v | none => undef) ∧ Ext w w') a w)
    (hend : ∀ (vs : Nat → Value) w, Ext w0 w → (∀ i, i < n → F i w (match dst i with | some _ => vs i | none => undef)) → Q .normal (puts dst vs (List.range n) a0) w) : (Code.region id ops true).wp P Q a0 w0 := by
  subst hn
  have hdi : ∀ i o, ops[i]? = some o → o.dst = dst i := fun i o ho => by
    have := List.all_eq_true.1 hdst i (List.mem_range.2 (Array.getElem?_eq_some_iff.1 ho).1)
    rw [ho] at this
    exact beq_iff_eq.1 this
  have hne : ∀ i t, i < ops.size → dst i = some t → t < a0.tmps.size ∧ ∀ j, j < ops.size → j ≠ i → dst j ≠ some t := fun i t hi hd => by
    have h1 := List.all_eq_true.1 hsl i (List.mem_range.2 hi)
    rw [hd] at h1
    simp only [Bool.and_eq_true, decide_eq_true_eq] at h1
    refine ⟨h1.1, fun j hj hji => ?_⟩
    have h2 := List.all_eq_true.1 h1.2 j (List.mem_range.2 hj)
    rw [Bool.or_eq_true, beq_iff_eq] at h2
    rcases h2 with h2 | h2
    · exact absurd h2.symm hji
    · simpa using h2
  refine region_inv_op hm he (fun l a w => Mid Ext dst ops.size F a0 w0 (fun j => l[j]? = some true) a w) ?_ ?_ ?_
  · exact ⟨rfl, rfl, fun _ _ => rfl, hdrew, fun i hi h => by rw [Array.getElem?_replicate, if_pos hi] at h; cases h⟩
  · intro l a w i o hs hI ho hl hr
    have hi : i < ops.size := (Array.getElem?_eq_some_iff.1 ho).1
    refine wpOp_mono ?_ (hstep i o a w ho ⟨hI.defers, hI.size, hI.off, hI.ext, fun j hj hw => hI.at_ j hj (dep_of hr hw)⟩)
    rintro a' w' ⟨v, rfl, hv, hx⟩
    refine ⟨?_, ?_, fun t ht => ?_, htr _ _ _ hI.ext hx, fun j hj hlj => ?_⟩
    · rw [← hI.defers]; cases dst i <;> rfl
    · rw [← hI.size]; cases dst i <;> simp [Act.put]
    · rw [← hI.off t ht]
      have := List.all_eq_true.1 ht i (List.mem_range.2 hi)
      cases hd : dst i with
      | none => rfl
      | some d => rw [hd] at this; exact getD_put (fun e => by rw [e] at this; simp at this)
    · by_cases hji : j = i
      · subst hji
        cases hd : dst j with
        | none => rw [hd] at hv; exact hv
        | some t =>
          rw [hd] at hv
          simp only
          rw [getD_put_self (by rw [hI.size]; exact (hne j t hj hd).1)]
          exact hv
      · have hlj' : l[j]? = some true := by
          rw [Array.getElem?_setIfInBounds] at hlj
          rw [if_neg (fun e => hji e.symm)] at hlj
          exact hlj
        have h1 := hF j _ _ _ (hI.at_ j hj hlj') hx
        cases hd : dst j with
        | none => rw [hd] at h1; exact h1
        | some t =>
          rw [hd] at h1
          simp only at h1 ⊢
          cases hdi' : dst i with
          | none => exact h1
          | some d => rw [getD_put (fun e => (hne j t hj hd).2 i hi (fun e => hji e.symm) (by rw [hdi', e]))]; exact h1
  · intro a w hI
    have h := hend (fun i => match dst i with | some t => a.tmps.getD t undef | none => undef) w hI.ext (fun i hi => by
      have := hI.at_ i hi (by rw [Array.getElem?_replicate, if_pos hi])
      cases hd : dst i with
      | none => rw [hd] at this; exact this
      | some t => rw [hd] at this; simpa [hd] using this)
    have ha : puts dst (fun i => match dst i with | some t => a.tmps.getD t undef | none => undef) (List.range ops.size) a0 = a := by
      obtain ⟨p1, p2, p3⟩ := puts_frame dst (fun i => match dst i with | some t => a.tmps.getD t undef | none => undef) (List.range ops.size) a0
      have ht : (puts dst (fun i => match dst i with | some t => a.tmps.getD t undef | none => undef) (List.range ops.size) a0).tmps = a.tmps := by
        apply Array.ext
        · rw [p1, hI.size]
        · intro t h1 h2
          have hg : ∀ (x : Array Value) (hx : t < x.size), x[t] = x.getD t undef := fun x hx => by simp [Array.getD_eq_getD_getElem?, hx]
          rw [hg _ h1, hg _ h2]
          cases ho : off dst ops.size t with
          | true =>
            rw [hI.off t ho]
            refine p3 t (fun i hi => ?_)
            have := List.all_eq_true.1 ho i hi
            simpa using this
          | false =>
            have : ¬ (∀ i, i ∈ List.range ops.size → (dst i != some t) = true) := fun h => by
              have : off dst ops.size t = true := List.all_eq_true.2 h
              rw [ho] at this; cases this
            have : ∃ i, i < ops.size ∧ dst i = some t := by
              refine Classical.byContradiction fun hc => this (fun i hi => ?_)
              rw [bne_iff_ne]
              exact fun e => hc ⟨i, List.mem_range.1 hi, e⟩
            obtain ⟨i, hi, hd⟩ := this
            rw [puts_at dst _ (List.range ops.size) a0 i t (List.mem_range.2 hi) hd (hne i t hi hd).1 (fun j hj hji => (hne i t hi hd).2 j (List.mem_range.1 hj) hji)]
            rw [hd]
      cases a with | mk at_ ad => 
      cases hp : puts dst (fun i => match dst i with | some t => (Act.mk at_ ad).tmps.getD t undef | none => undef) (List.range ops.size) a0 with | mk bt bd =>
      rw [hp] at ht p2
      have hd := hI.defers
      simp only at ht p2 hd
      rw [ht, p2, ← hd]
    rw [ha] at h
    exact h
end Go.Proofs.Ytmeaepmimnmjlaa.RegInv
/- A region that draws its order inside a fence, a round of a range over a function too: RegInv.region_facts, operation by operation. -/
namespace Go.Proofs.Ytmeaepmimnmjlaa.RegInv
set_option linter.unusedVariables false
/-- the same, an operation at a time -/
theorem region_inv_opIn {F : Fence} {n : Nat} {P : Program} {id : Nat} {ops : Array Oper} {Q : Exit → Act → World → Prop} {a : Act} {w : World} (hm : P.follows .mixedOrders = true) (he : early .any ops = true)
    (Inv : Array Bool → Act → World → Prop) (h0 : Inv (Array.replicate ops.size false) a { w with drawn := w.drawn + 1 })
    (hstep : ∀ l a w i o, l.size = ops.size → Inv l a w → ops[i]? = some o → l[i]? = some false → (o.after.all fun e => !Region.binds .any e || l.getD e.on false) = true → wpOpIn F n P ops Q i (fun a' w' => Inv (l.setIfInBounds i true) a' w') a w)
    (hend : ∀ a w, Inv (Array.replicate ops.size true) a w → Q .normal a w) : (Code.region id ops true).wpIn F n P Q a w := by
  refine wpIn_region_any hm ?_
  have go : ∀ (fuel : Nat) (l : Array Bool) (a : Act) (w : World), l.size = ops.size → falses l ≤ fuel → Inv l a w → wpAnyIn F n P .any ops Q fuel l a w := by
    intro fuel
    have fin : ∀ (l : Array Bool) (a : Act) (w : World), l.size = ops.size → Inv l a w → Region.ready .any ops l = [] → Q .normal a w := by
      intro l a w hs hI hr
      have : l = Array.replicate ops.size true := by
        apply Array.ext
        · simp [hs]
        · intro i h1 h2
          have := ready_all he hs hr i (by omega)
          rw [Array.getElem?_eq_getElem h1] at this
          simpa using Option.some.inj this
      exact hend a w (this ▸ hI)
    induction fuel with
    | zero =>
      intro l a w hs hf hI
      have hr : Region.ready .any ops l = [] := by
        cases hx : Region.ready .any ops l with
        | nil => rfl
        | cons i r =>
          obtain ⟨h1, _⟩ := ready_spec (md := .any) (ops := ops) (l := l) (i := i) (by rw [hx]; exact List.mem_cons_self)
          have := falses_set h1
          omega
      exact ⟨hr, fin l a w hs hI hr⟩
    | succ m ih =>
      intro l a w hs hf hI
      refine ⟨fin l a w hs hI, fun i hi => ?_⟩
      obtain ⟨h1, o, ho, h2⟩ := ready_spec hi
      refine wpOpIn_mono (fun a' w' hI' => ih _ a' w' (by simpa using hs) (by have := falses_set h1; omega) hI') (hstep l a w i o hs hI ho h1 h2)
  exact go ops.size _ a _ (by simp) (by unfold falses; simp [List.countP_replicate]) h0

theorem region_factsIn {Fe : Fence} {m : Nat} {P : Program} {id : Nat} {ops : Array Oper} {Q : Exit → Act → World → Prop} {a0 : Act} {w0 : World} (hm : P.follows .mixedOrders = true) (he : early .any ops = true)
    (Ext : World → World → Prop) (htr : ∀ a b c, Ext a b → Ext b c → Ext a c) (hdrew : Ext w0 { w0 with drawn := w0.drawn + 1 }) (dst : Nat → Option Tmp) (n : Nat) (hn : ops.size = n) (hsl : slotsOk dst n a0.tmps.size = true)
    (hdst : ((List.range n).all fun i => match ops[i]? with | some o => o.dst == dst i | none => false) = true) (F : Nat → World → Value → Prop) (hF : ∀ i w w1 v, F i w v → Ext w w1 → F i w1 v)
    (hstep : ∀ i o a w, ops[i]? = some o → Mid Ext dst n F a0 w0 (fun j => waits o j = true) a w → wpOpIn Fe m P ops Q i (fun a' w' => ∃ v, a' = a.put (dst i) v ∧ F i w' (match dst i with | some _ => v | none => undef) ∧ Ext w w') a w)
    (hend : ∀ (vs : Nat → Value) w, Ext w0 w → (∀ i, i < n → F i w (match dst i with | some _ => vs i | none => undef)) → Q .normal (puts dst vs (List.range n) a0) w) : (Code.region id ops true).wpIn Fe m P Q a0 w0 := by
  subst hn
  have hdi : ∀ i o, ops[i]? = some o → o.dst = dst i := fun i o ho => by
    have := List.all_eq_true.1 hdst i (List.mem_range.2 (Array.getElem?_eq_some_iff.1 ho).1)
    rw [ho] at this
    exact beq_iff_eq.1 this
  have hne : ∀ i t, i < ops.size → dst i = some t → t < a0.tmps.size ∧ ∀ j, j < ops.size → j ≠ i → dst j ≠ some t := fun i t hi hd => by
    have h1 := List.all_eq_true.1 hsl i (List.mem_range.2 hi)
    rw [hd] at h1
    simp only [Bool.and_eq_true, decide_eq_true_eq] at h1
    refine ⟨h1.1, fun j hj hji => ?_⟩
    have h2 := List.all_eq_true.1 h1.2 j (List.mem_range.2 hj)
    rw [Bool.or_eq_true, beq_iff_eq] at h2
    rcases h2 with h2 | h2
    · exact absurd h2.symm hji
    · simpa using h2
  refine region_inv_opIn hm he (fun l a w => Mid Ext dst ops.size F a0 w0 (fun j => l[j]? = some true) a w) ?_ ?_ ?_
  · exact ⟨rfl, rfl, fun _ _ => rfl, hdrew, fun i hi h => by rw [Array.getElem?_replicate, if_pos hi] at h; cases h⟩
  · intro l a w i o hs hI ho hl hr
    have hi : i < ops.size := (Array.getElem?_eq_some_iff.1 ho).1
    refine wpOpIn_mono ?_ (hstep i o a w ho ⟨hI.defers, hI.size, hI.off, hI.ext, fun j hj hw => hI.at_ j hj (dep_of hr hw)⟩)
    rintro a' w' ⟨v, rfl, hv, hx⟩
    refine ⟨?_, ?_, fun t ht => ?_, htr _ _ _ hI.ext hx, fun j hj hlj => ?_⟩
    · rw [← hI.defers]; cases dst i <;> rfl
    · rw [← hI.size]; cases dst i <;> simp [Act.put]
    · rw [← hI.off t ht]
      have := List.all_eq_true.1 ht i (List.mem_range.2 hi)
      cases hd : dst i with
      | none => rfl
      | some d => rw [hd] at this; exact getD_put (fun e => by rw [e] at this; simp at this)
    · by_cases hji : j = i
      · subst hji
        cases hd : dst j with
        | none => rw [hd] at hv; exact hv
        | some t =>
          rw [hd] at hv
          simp only
          rw [getD_put_self (by rw [hI.size]; exact (hne j t hj hd).1)]
          exact hv
      · have hlj' : l[j]? = some true := by
          rw [Array.getElem?_setIfInBounds] at hlj
          rw [if_neg (fun e => hji e.symm)] at hlj
          exact hlj
        have h1 := hF j _ _ _ (hI.at_ j hj hlj') hx
        cases hd : dst j with
        | none => rw [hd] at h1; exact h1
        | some t =>
          rw [hd] at h1
          simp only at h1 ⊢
          cases hdi' : dst i with
          | none => exact h1
          | some d => rw [getD_put (fun e => (hne j t hj hd).2 i hi (fun e => hji e.symm) (by rw [hdi', e]))]; exact h1
  · intro a w hI
    have h := hend (fun i => match dst i with | some t => a.tmps.getD t undef | none => undef) w hI.ext (fun i hi => by
      have := hI.at_ i hi (by rw [Array.getElem?_replicate, if_pos hi])
      cases hd : dst i with
      | none => rw [hd] at this; exact this
      | some t => rw [hd] at this; simpa [hd] using this)
    have ha : puts dst (fun i => match dst i with | some t => a.tmps.getD t undef | none => undef) (List.range ops.size) a0 = a := by
      obtain ⟨p1, p2, p3⟩ := puts_frame dst (fun i => match dst i with | some t => a.tmps.getD t undef | none => undef) (List.range ops.size) a0
      have ht : (puts dst (fun i => match dst i with | some t => a.tmps.getD t undef | none => undef) (List.range ops.size) a0).tmps = a.tmps := by
        apply Array.ext
        · rw [p1, hI.size]
        · intro t h1 h2
          have hg : ∀ (x : Array Value) (hx : t < x.size), x[t] = x.getD t undef := fun x hx => by simp [Array.getD_eq_getD_getElem?, hx]
          rw [hg _ h1, hg _ h2]
          cases ho : off dst ops.size t with
          | true =>
            rw [hI.off t ho]
            refine p3 t (fun i hi => ?_)
            have := List.all_eq_true.1 ho i hi
            simpa using this
          | false =>
            have : ¬ (∀ i, i ∈ List.range ops.size → (dst i != some t) = true) := fun h => by
              have : off dst ops.size t = true := List.all_eq_true.2 h
              rw [ho] at this; cases this
            have : ∃ i, i < ops.size ∧ dst i = some t := by
              refine Classical.byContradiction fun hc => this (fun i hi => ?_)
              rw [bne_iff_ne]
              exact fun e => hc ⟨i, List.mem_range.1 hi, e⟩
            obtain ⟨i, hi, hd⟩ := this
            rw [puts_at dst _ (List.range ops.size) a0 i t (List.mem_range.2 hi) hd (hne i t hi hd).1 (fun j hj hji => (hne i t hi hd).2 j (List.mem_range.1 hj) hji)]
            rw [hd]
      cases a with | mk at_ ad => 
      cases hp : puts dst (fun i => match dst i with | some t => (Act.mk at_ ad).tmps.getD t undef | none => undef) (List.range ops.size) a0 with | mk bt bd =>
      rw [hp] at ht p2
      have hd := hI.defers
      simp only at ht p2 hd
      rw [ht, p2, ← hd]
    rw [ha] at h
    exact h
theorem wideAt (l : Nat) : (∀ f, (Fence.wide.inRound l).fn f) ∧ (Fence.wide.inRound l).depth = none := ⟨fun _ => trivial, rfl⟩
section
variable {F : Fence} {m : Nat} {P : Program} {ops : Array Oper} {Q : Exit → Act → World → Prop} {i : Nat} {o : Oper} {K : Act → World → Prop} {a : Act} {w w' : World} {v : Value}
theorem op_valueIn (hF : ∀ f, F.fn f) (hi : ops[i]? = some o) (hg : Region.wanted o (yielded ops a.tmps) = true) (hd : ∀ c, o.op ≠ .defer c) (hrun : (execOp a.eval o).run P w = .ok (.value v) w') (h : K (a.put o.dst v) w') : wpOpIn F m P ops Q i K a w := by
  unfold wpOpIn
  rw [hi]
  simp only
  rw [if_pos hg]
  refine ⟨fun f _ => hF f, ?_⟩
  have e : o.semAt F.round a.eval = execOp a.eval o := by
    cases F.round with
    | none => exact Oper.semAt_none _ _
    | some l => exact Oper.semAt_some l _ _ hd
  rw [e, hrun]
  exact h
theorem op_skipIn (hF : ∀ f, F.fn f) (hi : ops[i]? = some o) (hg : Region.wanted o (yielded ops a.tmps) = true) (hd : ∀ c, o.op ≠ .defer c) (hrun : (execOp a.eval o).run P w = .ok .skip w') (h : K (a.put o.dst undef) w') : wpOpIn F m P ops Q i K a w := by
  unfold wpOpIn
  rw [hi]
  simp only
  rw [if_pos hg]
  refine ⟨fun f _ => hF f, ?_⟩
  have e : o.semAt F.round a.eval = execOp a.eval o := by
    cases F.round with
    | none => exact Oper.semAt_none _ _
    | some l => exact Oper.semAt_some l _ _ hd
  rw [e, hrun]
  exact h
theorem op_unwantedIn (hF : ∀ f, F.fn f) (hi : ops[i]? = some o) (hg : Region.wanted o (yielded ops a.tmps) = false) (h : K (a.put o.dst undef) w) : wpOpIn F m P ops Q i K a w := by
  unfold wpOpIn
  rw [hi]
  simp only
  rw [if_neg (by rw [hg]; exact Bool.false_ne_true)]
  exact ⟨fun f _ => hF f, h⟩
theorem op_callIn (hF : ∀ f, F.fn f) (hdp : F.depth = none) (hi : ops[i]? = some o) (hg : Region.wanted o (yielded ops a.tmps) = true) {f : FuncId} {fn : Func} {as : Array Operand} {ts : Array TypeId} (hf : P.funcs[f]? = some fn) (hname : (fn.name == "runtime.NumGoroutine") = false) (hb : fn.body.isSome = true)
    (hop : o.op = .call { callee := .value (.func f), args := as, argTypes := ts }) (args : Array Value) (hargs : as.map a.eval = args) (h : CallsIn F (m - 1) P f args w fun e w' => ∃ v, e = .returned v ∧ K (a.put o.dst v) w') : wpOpIn F m P ops Q i K a w := by
  unfold wpOpIn
  rw [hi]
  simp only
  rw [if_pos hg]
  refine ⟨fun f _ => hF f, ?_⟩
  have h1 : fn.name ≠ "runtime.NumGoroutine" := by simpa using hname
  obtain ⟨c, hc⟩ := Option.isSome_iff_exists.1 hb
  have he : (callFunc f args).run P w = .ok (.enter f args) w := by simp [callFunc, hf, h1, hc]
  have hrun : (execOp a.eval o).run P w = .ok (.enter f args) w := by
    unfold execOp
    simp [hop, resolve, Deferred.ofValue, invoke, Act.eval, hargs, he]
  have e : o.semAt F.round a.eval = execOp a.eval o := by
    cases F.round with
    | none => exact Oper.semAt_none _ _
    | some l => exact Oper.semAt_some l _ _ (fun c h => by rw [hop] at h; cases h)
  rw [e, hrun, Oper.uponIn_enter]
  refine ⟨fun hs => absurd hs (by rw [hdp]; simp), h.mono fun e w'' hh => ?_⟩
  obtain ⟨v, rfl, hk⟩ := hh
  exact hk
end
end Go.Proofs.Ytmeaepmimnmjlaa.RegInv
/- A region that draws its order in which one operation (p) writes what the function owns and the last one, which waits for all, is shown by itself. -/
namespace Go.Proofs.Ytmeaepmimnmjlaa.RegInv
set_option linter.unusedVariables false
structure MidP (Ext ExtP : World → World → Prop) (dst : Nat → Option Tmp) (n : Nat) (F : Nat → World → Value → Prop) (a0 : Act) (w0 : World) (fresh : Prop) (D : Nat → Prop) (a : Act) (w : World) : Prop where
  defers : a.defers = a0.defers
  size : a.tmps.size = a0.tmps.size
  off : ∀ t, off dst n t = true → a.tmps.getD t undef = a0.tmps.getD t undef
  ext : ExtP w0 w
  exts : fresh → Ext w0 w
  at_ : ∀ i, i < n → D i → F i w (match dst i with | some t => a.tmps.getD t undef | none => undef)
theorem MidP.puts {Ext ExtP : World → World → Prop} {dst : Nat → Option Tmp} {n : Nat} {F : Nat → World → Value → Prop} {a0 a : Act} {w0 w : World} {fresh : Prop} {D : Nat → Prop} (hsl : slotsOk dst n a0.tmps.size = true) (hI : MidP Ext ExtP dst n F a0 w0 fresh D a w) :
    puts dst (fun i => match dst i with | some t => a.tmps.getD t undef | none => undef) (List.range n) a0 = a := by
  have hne : ∀ i t, i < n → dst i = some t → t < a0.tmps.size ∧ ∀ j, j < n → j ≠ i → dst j ≠ some t := fun i t hi hd => by
    have h1 := List.all_eq_true.1 hsl i (List.mem_range.2 hi)
    rw [hd] at h1
    simp only [Bool.and_eq_true, decide_eq_true_eq] at h1
    refine ⟨h1.1, fun j hj hji => ?_⟩
    have h2 := List.all_eq_true.1 h1.2 j (List.mem_range.2 hj)
    rw [Bool.or_eq_true, beq_iff_eq] at h2
    rcases h2 with h2 | h2
    · exact absurd h2.symm hji
    · simpa using h2
  obtain ⟨p1, p2, p3⟩ := puts_frame dst (fun i => match dst i with | some t => a.tmps.getD t undef | none => undef) (List.range n) a0
  have ht : (RegInv.puts dst (fun i => match dst i with | some t => a.tmps.getD t undef | none => undef) (List.range n) a0).tmps = a.tmps := by
    apply Array.ext
    · rw [p1, hI.size]
    · intro t h1 h2
      have hg : ∀ (x : Array Value) (hx : t < x.size), x[t] = x.getD t undef := fun x hx => by simp [Array.getD_eq_getD_getElem?, hx]
      rw [hg _ h1, hg _ h2]
      cases ho : RegInv.off dst n t with
      | true =>
        rw [hI.off t ho]
        refine p3 t (fun i hi => ?_)
        have := List.all_eq_true.1 ho i hi
        simpa using this
      | false =>
        have : ¬ (∀ i, i ∈ List.range n → (dst i != some t) = true) := fun h => by
          have : RegInv.off dst n t = true := List.all_eq_true.2 h
          rw [ho] at this; cases this
        have : ∃ i, i < n ∧ dst i = some t := by
          refine Classical.byContradiction fun hc => this (fun i hi => ?_)
          rw [bne_iff_ne]
          exact fun e => hc ⟨i, List.mem_range.1 hi, e⟩
        obtain ⟨i, hi, hd⟩ := this
        rw [puts_at dst _ (List.range n) a0 i t (List.mem_range.2 hi) hd (hne i t hi hd).1 (fun j hj hji => (hne i t hi hd).2 j (List.mem_range.1 hj) hji)]
        rw [hd]
  cases a with | mk at_ ad =>
  cases hp : RegInv.puts dst (fun i => match dst i with | some t => (Act.mk at_ ad).tmps.getD t undef | none => undef) (List.range n) a0 with | mk bt bd =>
  rw [hp] at ht p2
  have hd := hI.defers
  simp only at ht p2 hd
  rw [ht, p2, ← hd]
theorem region_facts_p {P : Program} {id : Nat} {ops : Array Oper} {Q : Exit → Act → World → Prop} {a0 : Act} {w0 : World} (hm : P.follows .mixedOrders = true) (he : early .any ops = true)
    (Ext ExtP : World → World → Prop) (htr : ∀ a b c, Ext a b → Ext b c → Ext a c) (hle : ∀ a b, Ext a b → ExtP a b) (htr' : ∀ a b c, ExtP a b → ExtP b c → ExtP a c) (hdrew : Ext w0 { w0 with drawn := w0.drawn + 1 }) (dst : Nat → Option Tmp) (n p : Nat) (hn : ops.size = n + 1) (hsl : slotsOk dst n a0.tmps.size = true)
    (hdst : ((List.range n).all fun i => match ops[i]? with | some o => o.dst == dst i | none => false) = true) (hlast : ((List.range n).all fun j => match ops[n]? with | some o => waits o j | none => false) = true) (F : Nat → World → Value → Prop) (hF : ∀ i w w1 v, F i w v → Ext w w1 → F i w1 v) (hFp : ∀ i w w1 v, i ≠ p → F i w v → ExtP w w1 → F i w1 v)
    (hstep : ∀ i o a w, i < n → ops[i]? = some o → MidP Ext ExtP dst n F a0 w0 (i = p) (fun j => waits o j = true) a w → wpOp P ops Q i (fun a' w' => ∃ v, a' = a.put (dst i) v ∧ F i w' (match dst i with | some _ => v | none => undef) ∧ ExtP w w' ∧ (i ≠ p → Ext w w')) a w)
    (hend : ∀ (vs : Nat → Value) w, ExtP w0 w → (∀ i, i < n → F i w (match dst i with | some _ => vs i | none => undef)) → wpOp P ops Q n (fun a' w' => Q .normal a' w') (puts dst vs (List.range n) a0) w) : (Code.region id ops true).wp P Q a0 w0 := by
  have hdi : ∀ i o, i < n → ops[i]? = some o → o.dst = dst i := fun i o hi ho => by
    have := List.all_eq_true.1 hdst i (List.mem_range.2 hi)
    rw [ho] at this
    exact beq_iff_eq.1 this
  have hne : ∀ i t, i < n → dst i = some t → t < a0.tmps.size ∧ ∀ j, j < n → j ≠ i → dst j ≠ some t := fun i t hi hd => by
    have h1 := List.all_eq_true.1 hsl i (List.mem_range.2 hi)
    rw [hd] at h1
    simp only [Bool.and_eq_true, decide_eq_true_eq] at h1
    refine ⟨h1.1, fun j hj hji => ?_⟩
    have h2 := List.all_eq_true.1 h1.2 j (List.mem_range.2 hj)
    rw [Bool.or_eq_true, beq_iff_eq] at h2
    rcases h2 with h2 | h2
    · exact absurd h2.symm hji
    · simpa using h2
  refine region_inv_op hm he (fun l a w => (l[n]? = some true ∧ (∀ j, j < n → l[j]? = some true) ∧ Q .normal a w) ∨ (l[n]? = some false ∧ MidP Ext ExtP dst n F a0 w0 (l[p]? ≠ some true) (fun j => l[j]? = some true) a w)) ?_ ?_ ?_
  · refine .inr ⟨by rw [Array.getElem?_replicate, if_pos (by omega)], rfl, rfl, fun _ _ => rfl, hle _ _ hdrew, fun _ => hdrew, fun i hi h => ?_⟩
    rw [Array.getElem?_replicate, if_pos (by omega)] at h; cases h
  · intro l a w i o hs hI ho hl hr
    have hi : i < ops.size := (Array.getElem?_eq_some_iff.1 ho).1
    rcases hI with ⟨h1, h2, _⟩ | ⟨hln, hI⟩
    · exfalso
      by_cases hin : i = n
      · subst hin; rw [h1] at hl; cases hl
      · rw [h2 i (by omega)] at hl; cases hl
    · by_cases hin : i = n
      · subst hin
        have hall : ∀ j, j < i → l[j]? = some true := fun j hj => by
          have := List.all_eq_true.1 hlast j (List.mem_range.2 hj)
          rw [ho] at this
          exact dep_of hr this
        have h := hend (fun i => match dst i with | some t => a.tmps.getD t undef | none => undef) w hI.ext (fun k hk => by
          have := hI.at_ k hk (hall k hk)
          cases hd : dst k with
          | none => rw [hd] at this; exact this
          | some t => rw [hd] at this; simpa [hd] using this)
        rw [hI.puts hsl] at h
        refine wpOp_mono ?_ h
        intro a' w' hq
        refine .inl ⟨?_, fun j hj => ?_, hq⟩
        · rw [Array.getElem?_setIfInBounds, if_pos rfl, if_pos (by omega)]
        · rw [Array.getElem?_setIfInBounds, if_neg (by omega)]; exact hall j hj
      · have hin' : i < n := by omega
        refine wpOp_mono ?_ (hstep i o a w hin' ho ⟨hI.defers, hI.size, hI.off, hI.ext, fun e => hI.exts (by subst e; rw [hl]; simp), fun j hj hw => hI.at_ j hj (dep_of hr hw)⟩)
        rintro a' w' ⟨v, rfl, hv, hxp, hx⟩
        refine .inr ⟨?_, ?_, ?_, fun t ht => ?_, htr' _ _ _ hI.ext hxp, fun hf => ?_, fun j hj hlj => ?_⟩
        · rw [Array.getElem?_setIfInBounds, if_neg (by omega)]; exact hln
        · rw [← hI.defers]; cases dst i <;> rfl
        · rw [← hI.size]; cases dst i <;> simp [Act.put]
        · rw [← hI.off t ht]
          have := List.all_eq_true.1 ht i (List.mem_range.2 hin')
          cases hd : dst i with
          | none => rfl
          | some d => rw [hd] at this; exact getD_put (fun e => by rw [e] at this; simp at this)
        · have hip : i ≠ p := fun e => by
            subst e
            rw [Array.getElem?_setIfInBounds, if_pos rfl, if_pos (by omega)] at hf
            exact hf rfl
          rw [Array.getElem?_setIfInBounds, if_neg hip] at hf
          exact htr _ _ _ (hI.exts hf) (hx hip)
        · by_cases hji : j = i
          · subst hji
            cases hd : dst j with
            | none => rw [hd] at hv; exact hv
            | some t =>
              rw [hd] at hv
              simp only
              rw [getD_put_self (by rw [hI.size]; exact (hne j t hj hd).1)]
              exact hv
          · have hlj' : l[j]? = some true := by
              rw [Array.getElem?_setIfInBounds] at hlj
              rw [if_neg (fun e => hji e.symm)] at hlj
              exact hlj
            have h1 : F j w' (match dst j with | some t => a.tmps.getD t undef | none => undef) := by
              by_cases hip : i = p
              · exact hFp j _ _ _ (fun e => hji (e.trans hip.symm)) (hI.at_ j hj hlj') hxp
              · exact hF j _ _ _ (hI.at_ j hj hlj') (hx hip)
            cases hd : dst j with
            | none => rw [hd] at h1; exact h1
            | some t =>
              rw [hd] at h1
              simp only at h1 ⊢
              cases hdi' : dst i with
              | none => exact h1
              | some d => rw [getD_put (fun e => (hne j t hj hd).2 i hin' (fun e => hji e.symm) (by rw [hdi', e]))]; exact h1
  · intro a w hI
    rcases hI with ⟨_, _, hq⟩ | ⟨h, _⟩
    · exact hq
    · rw [Array.getElem?_replicate, if_pos (by omega)] at h; cases h
end Go.Proofs.Ytmeaepmimnmjlaa.RegInv
/- Rows and boxes that a call makes, as facts that later steps leave: what a literal reads as. -/
namespace Go.Proofs.Ytmeaepmimnmjlaa.Lit
open Go.RowKit Go.Proofs.YtmeaepmimnmjlaaW.PrintWords
set_option linter.unusedVariables false
theorem lit_C {α : Type} (d : Kd α) (W : World) (e : TypeId) (xs : List α) (cs : List Value) (h : Reps (d.K W) d.sz xs cs) (hl : xs.length ≤ 9223372036854775807) : d.C (W.alloc (.cells cs.toArray e)) (some ⟨W.heap.size, 0, none⟩) xs.length xs := by
  refine ⟨rfl, hl, fun _ => ⟨_, rfl, fun j p hj => ?_⟩⟩
  obtain ⟨h1, h2⟩ := h
  have hjl : j < xs.length := (List.getElem?_eq_some_iff.1 hj).1
  have hle : j * d.sz + d.sz ≤ cs.length := by
    rw [h1]
    calc j * d.sz + d.sz = (j + 1) * d.sz := by rw [Nat.add_mul, Nat.one_mul]
      _ ≤ xs.length * d.sz := Nat.mul_le_mul_right _ hjl
  refine ⟨(cs.drop (j * d.sz)).take d.sz, ?_, d.K_below ((Below.refl _ _).alloc (Nat.le_refl _) _) (h2 j p hj), fun i u hu => ?_⟩
  · rw [List.length_take, List.length_drop]; omega
  · have hi : i < d.sz := by
      have := (List.getElem?_eq_some_iff.1 hu).1
      rw [List.length_take] at this; omega
    rw [List.getElem?_take_of_lt hi, List.getElem?_drop] at hu
    rw [add_plain]
    unfold World.cell? World.alloc
    simp [hu]
theorem reps1 {α : Type} {R : α → List Value → Prop} {sz : Nat} {x : α} {c : List Value} (h : R x c) (hc : c.length = sz) : Reps R sz [x] c := by
  have := (Reps.none R sz).snoc h hc
  simpa using this
theorem reps2 {α : Type} {R : α → List Value → Prop} {sz : Nat} {x y : α} {c c' : List Value} (h : R x c) (hc : c.length = sz) (h' : R y c') (hc' : c'.length = sz) : Reps R sz [x, y] (c ++ c') := by
  have := ((Reps.none R sz).snoc h hc).snoc h' hc'
  simpa using this

def Sl {α : Type} (d : Kd α) (xs : List α) (w : World) (v : Value) : Prop := ∃ A c, v = .slice A xs.length c ∧ xs.length ≤ c ∧ d.C w A xs.length xs
theorem Sl.below {α : Type} {d : Kd α} {xs : List α} {w w1 : World} {v : Value} (h : Sl d xs w v) (hb : Below w.heap.size w w1) : Sl d xs w1 v := let ⟨A, c, h1, h2, h3⟩ := h; ⟨A, c, h1, h2, Kd.C_below h3 hb⟩
theorem gdq (x : Array Value) (t : Nat) (v : Value) (h : x.getD t undef = v) : x[t]?.getD undef = v := by rw [← h, Array.getD_eq_getD_getElem?]
theorem reps4 {α : Type} {R : α → List Value → Prop} {sz : Nat} {x y z u : α} {c d e f : List Value} (h : R x c) (hc : c.length = sz) (h' : R y d) (hc' : d.length = sz) (h2 : R z e) (hc2 : e.length = sz) (h3 : R u f) (hc3 : f.length = sz) : Reps R sz [x, y, z, u] (c ++ d ++ e ++ f) := by
  have := ((((Reps.none R sz).snoc h hc).snoc h' hc').snoc h2 hc2).snoc h3 hc3
  simpa using this
theorem nil_C {α : Type} {d : Kd α} (w : World) : d.C w none 0 [] := ⟨rfl, by decide, fun h => absurd h (by decide)⟩
theorem e4 (W : World) (o o' : Obj) : Below W.heap.size W ((W.alloc o).alloc o') := below_alloc (below_alloc (Below.refl _ _) o) o'
theorem wB {a b c : World} (h : Below a.heap.size a b) (k : Below b.heap.size b c) : Below a.heap.size a c := below_then h h.size k
end Go.Proofs.Ytmeaepmimnmjlaa.Lit
/- Rows of the call's own, cell by cell: a cell is stored, an element is appended (in place, or in a new block: the old row stays). -/
namespace Go.Proofs.Ytmeaepmimnmjlaa.OwnCells
open Go.RowKit Go.Proofs.YtmeaepmimnmjlaaW.PrintWords
set_option linter.unusedVariables false
/-- the world but for blocks of which S holds, and new ones -/
structure But (S : Nat → Prop) (w w' : World) : Prop where
  os : w'.os = w.os
  tape : w'.tape = w.tape
  output : w'.output = w.output
  size : w.heap.size ≤ w'.heap.size
  block : ∀ k, k < w.heap.size → ¬ S k → w'.heap[k]? = w.heap[k]?
section
variable {S T : Nat → Prop} {w w1 w2 : World}
theorem But.refl (S : Nat → Prop) (w : World) : But S w w := ⟨rfl, rfl, rfl, Nat.le_refl _, fun _ _ _ => rfl⟩
theorem But.trans (h : But S w w1) (k : But T w1 w2) (hT : ∀ b, T b → S b ∨ w.heap.size ≤ b) : But S w w2 :=
  ⟨k.os.trans h.os, k.tape.trans h.tape, k.output.trans h.output, Nat.le_trans h.size k.size, fun b hb hS => (k.block b (Nat.lt_of_lt_of_le hb h.size) (fun ht => (hT b ht).elim hS (fun hle => absurd hb (by omega)))).trans (h.block b hb hS)⟩
theorem But.of_grown {row : Option Nat} (h : w.grownBy w1 row) : But (fun b => row = some b) w w1 := ⟨h.os, h.tape, h.output, h.size, fun k hk hn => h.block k hk (fun e => hn e.symm)⟩
theorem But.of_below (h : Below w.heap.size w w1) : But (fun _ => False) w w1 := ⟨h.os, h.tape, h.output, h.size, fun k hk _ => h.block k hk⟩
theorem But.to_below (h : But S w w1) {B : Nat} (hB : B ≤ w.heap.size) (hS : ∀ b, S b → B ≤ b) : Below B w w1 := ⟨h.os, h.tape, h.output, h.size, fun k hk => h.block k (Nat.lt_of_lt_of_le hk hB) (fun hs => absurd (hS k hs) (by omega))⟩
theorem But.mono (h : But S w w1) (hS : ∀ b, S b → T b) : But T w w1 := ⟨h.os, h.tape, h.output, h.size, fun k hk hn => h.block k hk (fun hs => hn (hS k hs))⟩
theorem But.cell (h : But S w w1) {a : Addr} {v : Value} (hc : w.cell? a = some v) (hn : ¬ S a.block) : w1.cell? a = some v := by
  have hlt := World.block_lt_of_cell? w a hc
  have e := h.block a.block hlt hn
  rw [← hc]
  unfold World.cell?
  rw [e]
theorem But.own {base n size : Nat} {e : TypeId} {v : Value} {xs : List Value} (h : But S w w1) (ho : w.ownsRow base e size v n xs) (hn : ∀ b, v.ownBlock = some b → ¬ S b) : w1.ownsRow base e size v n xs := by
  refine ⟨ho.1, ?_⟩
  rcases ho.2 with h0 | ⟨g, cap, cur, rfl, hb, hg, h1⟩
  · exact .inl h0
  · have hlt : g < w.heap.size := by
      rcases Nat.lt_or_ge g w.heap.size with hlt | hge
      · exact hlt
      · rw [Array.getElem?_eq_none hge] at hg; cases hg
    exact .inr ⟨g, cap, cur, rfl, hb, (h.block g hlt (hn g rfl)).trans hg, h1⟩
end
theorem setCell_grown (w : World) (g j : Nat) (v : Value) : w.grownBy (w.setCell ⟨g, j, none⟩ v) (some g) := by
  refine ⟨rfl, rfl, rfl, by simp [World.setCell], fun k hk hn => ?_⟩
  exact Below.heap_setCell w ⟨g, j, none⟩ v k (fun e => hn (by rw [e]))
theorem own_set {w : World} {base g n cap size : Nat} {e : TypeId} {xs : List Value} (h : w.ownsRow base e size (.slice (some ⟨g, 0, none⟩) n cap) n xs) (j : Nat) (v : Value) :
    (w.setCell ⟨g, j, none⟩ v).ownsRow base e size (.slice (some ⟨g, 0, none⟩) n cap) n (xs.set j v) := by
  refine ⟨by rw [List.length_set]; exact h.1, ?_⟩
  rcases h.2 with ⟨h0, _⟩ | ⟨g', cap', cur, he, hb, hg, h1, h2, h3, h4⟩
  · cases h0
  · cases he
    refine .inr ⟨g, cap, cur.setIfInBounds j v, rfl, hb, ?_, h1, h2, by rw [Array.size_setIfInBounds]; exact h3, ?_⟩
    · have hlt : g < w.heap.size := by
        rcases Nat.lt_or_ge g w.heap.size with hlt | hge
        · exact hlt
        · rw [Array.getElem?_eq_none hge] at hg; cases hg
      simp [World.setCell, Array.getElem?_modify, hg]
    · rw [Array.toList_setIfInBounds, List.take_set, h4]
/-- the form of a value that owns something -/
theorem own_form {w : World} {base n size : Nat} {e : TypeId} {v : Value} {xs : List Value} (h : w.ownsRow base e size v n xs) : ∃ A c, v = .slice A n c ∧ n ≤ c := by
  rcases h.2 with ⟨rfl, rfl⟩ | ⟨g, cap, cur, rfl, _, _, h1, _⟩
  · exact ⟨none, 0, rfl, Nat.le_refl _⟩
  · exact ⟨_, cap, rfl, h1⟩
theorem own_cell {w : World} {base g n cap size : Nat} {e : TypeId} {xs : List Value} (h : w.ownsRow base e size (.slice (some ⟨g, 0, none⟩) n cap) n xs) (j : Nat) (u : Value) (hj : xs[j]? = some u) : w.cell? ⟨g, j, none⟩ = some u ∧ w.frozen? ⟨g, j, none⟩ = false := by
  rcases h.2 with ⟨h0, _⟩ | ⟨g', cap', cur, he, hb, hg, h1, h2, h3, h4⟩
  · cases h0
  · cases he
    refine ⟨?_, by simp [World.frozen?, hg]⟩
    unfold World.cell?
    rw [hg]
    simp only [Option.isSome_none, Bool.false_eq_true, if_false]
    rw [← h4] at hj
    have hlt := (List.getElem?_eq_some_iff.1 hj).1
    rw [List.length_take] at hlt
    rw [List.getElem?_take_of_lt (by omega)] at hj
    simpa using hj
/-- append: in place, or in a new block; the old row stays what it was. -/
theorem append_two {P : Program} (w : World) (t ty : TypeId) (base : Nat) (e : TypeId) (i : TypeInfo) (z : Value) (size bytes : Nat) (ht : P.underlying t = some (.slice e)) (hi : P.info? e = some i) (hz : i.zero = some z)
    (hsize : i.size = size) (hby : i.bytes = bytes) (hzs : z.cells.size = size) (hsz : 0 < size)
    (v : Value) (n : Nat) (xs : List Value) (hown : w.ownsRow base e size v n xs)
    (a : Addr) (m c : Nat) (news : List Value) (hl : news.length = m * size) (hnews : ∀ j u, news[j]? = some u → w.cell? (a.add j) = some u) (h1 : ∀ u ∈ news, u.oneCell' = true)
    (hm : 0 < m) (h63 : n + m ≤ maxLen) (hbytes : (n + m) * bytes ≤ 140737488355328) (hbase : base ≤ w.heap.size) :
    ∃ g cap w', (Builtin.append_ #[t, t] ty #[v, .slice (some a) m c]).run P w = .ok (.slice (some ⟨g, 0, none⟩) (n + m) cap) w' ∧ w'.ownsRow base e size (.slice (some ⟨g, 0, none⟩) (n + m) cap) (n + m) (xs ++ news) ∧
      w'.ownsRow base e size v n xs ∧ ((v = .slice (some ⟨g, 0, none⟩) n cap ∧ w.grownBy w' (some g)) ∨ (w.heap.size ≤ g ∧ w.grownBy w' none)) := by
  subst hsize
  subst hby
  have hsmall : n + m ≤ 9223372036854775807 := by simp only [maxLen] at h63; omega
  have hlen : (xs ++ news).length = (n + m) * i.size := by rw [List.length_append, hown.1, hl, Nat.add_mul]
  have grown : ∀ (old : Nat), old < n + m →
      (w.drew.alloc (.cells (xs.toArray ++ news.toArray ++ Builtin.zeroCells z.cells (grownCap w (n + m) old e - (n + m))) e)).ownsRow base e i.size
        (.slice (some ⟨w.heap.size, 0, none⟩) (n + m) (grownCap w (n + m) old e)) (n + m) (xs ++ news) ∧
      w.grownBy (w.drew.alloc (.cells (xs.toArray ++ news.toArray ++ Builtin.zeroCells z.cells (grownCap w (n + m) old e - (n + m))) e)) none := by
    intro old ho
    have hge := grownCap_ge w (n + m) old e
    have hcm : grownCap w (n + m) old e ≤ maxLen := grownCap_le_maxLen w (n + m) old e h63
    refine ⟨⟨hlen, .inr ⟨w.heap.size, _, _, rfl, hbase, heap_alloc_new w.drew _, hge, hcm, ?_, ?_⟩⟩, ⟨rfl, rfl, rfl, by simp, fun k hk _ => heap_alloc_old w.drew _ hk⟩⟩
    · simp only [Array.size_append, List.size_toArray, size_zeroCells, hzs, hown.1, hl, ← Nat.add_mul]
      congr 1
      omega
    · simp only [Array.toList_append, List.append_assoc]
      rw [← List.append_assoc, ← hlen]
      exact List.take_left
  rcases hown.2 with ⟨rfl, rfl⟩ | ⟨g, cap, cur, rfl, hbg, hg, hnc, hcm, hcs, htake⟩
  · have hx : xs = [] := List.eq_nil_of_length_eq_zero (by simpa using hown.1)
    subst hx
    have hr := run_append_nil (P := P) w t ty e i z ht hi hz a m c news hl hnews (by omega) (by omega) (by have hb := hbytes; simp only [Nat.zero_add] at hb; omega)
    have hgr := grown 0 (by omega)
    simp only [Nat.zero_add, List.nil_append, Array.empty_append] at hgr ⊢
    exact ⟨_, _, _, hr, hgr.1, World.ownsRow_nil _ _ _ _, .inr ⟨Nat.le_refl _, hgr.2⟩⟩
  · by_cases hroom : n + m ≤ cap
    · have hfit : n * i.size + news.length ≤ cur.size := by rw [hl, hcs, ← Nat.add_mul]; exact Nat.mul_le_mul_right _ hroom
      have hr := run_append_room (P := P) w t ty e i ht hi g n cap cur hg a m c news hl hnews h1 hroom hfit
      have hsz' : (cur.toList.take (n * i.size) ++ news ++ cur.toList.drop (n * i.size + news.length)).toArray.size = cap * i.size := by
        simp only [List.size_toArray, List.length_append, List.length_take, List.length_drop, Array.length_toList]
        omega
      have hrow := setRow_heap w g cur (cur.toList.take (n * i.size) ++ news ++ cur.toList.drop (n * i.size + news.length)).toArray e (0, 0) hg
      refine ⟨g, cap, _, hr, ⟨hlen, .inr ⟨g, cap, _, rfl, hbg, hrow, hroom, hcm, hsz', ?_⟩⟩, ⟨hown.1, .inr ⟨g, cap, _, rfl, hbg, hrow, hnc, hcm, hsz', ?_⟩⟩, .inl ⟨rfl, ⟨rfl, rfl, rfl, by simp, fun k _ hk => setRow_other w g k _ (fun e => hk (by rw [e]))⟩⟩⟩
      · rw [htake, ← hlen]
        exact List.take_left
      · rw [htake, List.append_assoc, ← hown.1]
        exact List.take_left
    · have holds : ∀ j u, xs[j]? = some u → w.cell? ((⟨g, 0, none⟩ : Addr).add j) = some u := hown.cells (g := g) rfl
      have hr := run_append_grow (P := P) w t ty e i z ht hi hz ⟨g, 0, none⟩ n cap xs hown.1 holds a m c news hl hnews (by omega) (by omega) (growslice_fits (by omega) hbytes)
      have hgr := grown cap (by omega)
      exact ⟨_, _, _, hr, hgr.1, hown.kept hgr.2 (by right; simp [Value.ownBlock]), .inr ⟨Nat.le_refl _, hgr.2⟩⟩
theorem wpList_append_two {P : Program} {w : World} {ops : Array Oper} {rest : List Oper} {o : Oper} {a : Act} {Q : Exit → Act → World → Prop} (hgd : o.guard = none) (s x : Operand) (t : TypeId)
    (ho : o.op = .call { callee := .builtin .append, args := #[s, x], argTypes := #[t, t] })
    (base : Nat) (e : TypeId) (i : TypeInfo) (z : Value) (size bytes : Nat) (ht : P.underlying t = some (.slice e)) (hi : P.info? e = some i) (hz : i.zero = some z)
    (hsize : i.size = size) (hby : i.bytes = bytes) (hzs : z.cells.size = size) (hsz : 0 < size)
    (v : Value) (n : Nat) (xs : List Value) (hs : a.eval s = v) (hown : w.ownsRow base e size v n xs)
    (ad : Addr) (m c : Nat) (news : List Value) (hx : a.eval x = .slice (some ad) m c) (hl : news.length = m * size) (hnews : ∀ j u, news[j]? = some u → w.cell? (ad.add j) = some u) (h1 : ∀ u ∈ news, u.oneCell' = true)
    (hm : 0 < m) (h63 : n + m ≤ maxLen) (hbytes : (n + m) * bytes ≤ 140737488355328) (hbase : base ≤ w.heap.size)
    (h : ∀ g cap w', w'.ownsRow base e size (.slice (some ⟨g, 0, none⟩) (n + m) cap) (n + m) (xs ++ news) → w'.ownsRow base e size v n xs → ((v = .slice (some ⟨g, 0, none⟩) n cap ∧ w.grownBy w' (some g)) ∨ (w.heap.size ≤ g ∧ w.grownBy w' none)) → wpList P ops Q rest (a.put o.dst (.slice (some ⟨g, 0, none⟩) (n + m) cap)) w') : wpList P ops Q (o :: rest) a w :=
  wpList_plain hgd fun _ hK => by
    obtain ⟨g, cap, w', hr, h2, h3, h4⟩ := append_two (P := P) w t o.type base e i z size bytes ht hi hz hsize hby hzs hsz v n xs hown ad m c news hl hnews h1 hm h63 hbytes hbase
    unfold Oper.wp execOp
    simp only [ho, resolve, invoke, builtin, Sem.run_bind, Sem.run_pure, Result.andThen_ok, List.map_toArray, List.map_cons, List.map_nil, hs, hx, hr]
    exact hK _ _ (h g cap w' h2 h3 h4)
end Go.Proofs.Ytmeaepmimnmjlaa.OwnCells
