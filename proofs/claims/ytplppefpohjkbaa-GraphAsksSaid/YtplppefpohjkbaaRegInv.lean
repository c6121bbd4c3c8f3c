/- A region that draws its order, by an invariant: whatever comes up next keeps it. -/
import Derived.Orders
import Derived.Tactics
namespace Go.Proofs.Ytplppefpohjkbaa.RegInv
set_option linter.unusedVariables false
/-- what is asked behind one operation, in the place of what is asked behind the region -/
def After (K : Act → World → Prop) (Q : Exit → Act → World → Prop) : Exit → Act → World → Prop
  | .normal, a, w => K a w
  | e, a, w => Q e a w
theorem After.lets {K : Act → World → Prop} {Q : Exit → Act → World → Prop} (h : LetsOut (After K Q)) : LetsOut Q := h
theorem wp_after {P : Program} {o : Oper} {a : Act} {w : World} {K K' : Act → World → Prop} {Q : Exit → Act → World → Prop} (hk : ∀ a w, K' a w → K a w) (hh : o.wp P a w K' (After K Q)) : o.wp P a w K Q := by
  unfold Oper.wp at *
  generalize (execOp a.eval o).run P w = r at *
  cases r with
  | ok n w' =>
    cases n <;> simp only [Oper.upon] at hh ⊢ <;>
      first
        | exact hk _ _ hh
        | exact Calls.mono hh (fun e w'' he => by cases e <;> first | exact hk _ _ he | exact he)
        | exact Rows.mono hh (fun _ _ he => hk _ _ he)
  | halt x w' => cases x <;> simp only [Oper.upon] at hh ⊢ <;> exact hh
theorem op_of_list {P : Program} {ops : Array Oper} {Q : Exit → Act → World → Prop} {i : Nat} {o : Oper} {K : Act → World → Prop} {a : Act} {w : World} (hi : ops[i]? = some o) (h : wpList P ops (After K Q) [o] a w) : wpOp P ops Q i K a w := by
  unfold wpOp
  rw [hi]
  simp only
  unfold wpList at h
  split
  · rename_i hw
    rw [if_pos hw] at h
    rcases h with h | ⟨h1, h2⟩
    · exact .inl (wp_after (fun a w hk => hk) h)
    · exact .inr ⟨h1, h2⟩
  · rename_i hw
    rw [if_neg hw] at h
    exact h
def falses (l : Array Bool) : Nat := l.toList.countP (· == false)
theorem falses_set {l : Array Bool} {i : Nat} (h : l[i]? = some false) : falses (l.setIfInBounds i true) + 1 = falses l := by
  unfold falses
  obtain ⟨hi, he⟩ := Array.getElem?_eq_some_iff.1 h
  rw [Array.toList_setIfInBounds, List.countP_set (by simpa using hi)]
  have hm : l.toList[i] = false := by simpa using he
  have hp : 0 < l.toList.countP (· == false) := List.countP_pos_iff.2 ⟨false, by rw [← hm]; exact List.getElem_mem _, rfl⟩
  have e1 : (l.toList[i] == false) = true := by rw [hm]; rfl
  rw [if_pos e1, if_neg (by decide)]
  omega
/-- each operation waits for earlier ones alone -/
def early (md : Region.Mode) (ops : Array Oper) : Bool := (List.range ops.size).all fun i => match ops[i]? with
  | some o => o.after.all fun e => !Region.binds md e || decide (e.on < i)
  | none => true
theorem ready_spec {md : Region.Mode} {ops : Array Oper} {l : Array Bool} {i : Nat} (h : i ∈ Region.ready md ops l) : l[i]? = some false ∧ ∃ o, ops[i]? = some o ∧ (o.after.all fun e => !Region.binds md e || l.getD e.on false) = true := by
  unfold Region.ready at h
  rw [List.mem_filter, Bool.and_eq_true] at h
  obtain ⟨h0, h1, h2⟩ := h
  have hl : l[i]? = some false := by
    rw [Array.getD_eq_getD_getElem?] at h1
    cases hx : l[i]? with
    | none => rw [hx] at h1; simp at h1
    | some b => rw [hx] at h1; simp at h1; rw [h1]
  refine ⟨hl, ?_⟩
  cases ho : ops[i]? with
  | none => rw [ho] at h2; simp at h2
  | some o => rw [ho] at h2; exact ⟨o, rfl, h2⟩
theorem ready_all {md : Region.Mode} {ops : Array Oper} {l : Array Bool} (he : early md ops = true) (hs : l.size = ops.size) (h : Region.ready md ops l = []) : ∀ i, i < ops.size → l[i]? = some true := by
  intro i
  induction i using Nat.strongRecOn with
  | _ i ih =>
    intro hi
    cases hb : l[i]'(by omega) with
    | true => rw [Array.getElem?_eq_getElem (by omega), hb]
    | false =>
      exfalso
      have hm : i ∈ Region.ready md ops l := by
        unfold Region.ready
        rw [List.mem_filter]
        refine ⟨List.mem_range.2 hi, ?_⟩
        rw [Bool.and_eq_true]
        refine ⟨by simp [Array.getD_eq_getD_getElem?, Array.getElem?_eq_getElem (show i < l.size by omega), hb], ?_⟩
        have ho : ops[i]? = some ops[i] := Array.getElem?_eq_getElem hi
        have h1 := List.all_eq_true.1 he i (List.mem_range.2 hi)
        rw [ho] at h1 ⊢
        simp only [Option.map_some, Option.getD_some]
        rw [Array.all_eq_true'] at h1 ⊢
        intro e hem
        have h2 := h1 e hem
        rw [Bool.or_eq_true] at h2 ⊢
        rcases h2 with h2 | h2
        · exact .inl h2
        · have h3 : e.on < i := of_decide_eq_true h2
          refine .inr ?_
          rw [Array.getD_eq_getD_getElem?, ih e.on h3 (by omega)]; rfl
      rw [h] at hm; cases hm
/-- THE RULE -/
theorem region_inv {P : Program} {id : Nat} {ops : Array Oper} {Q : Exit → Act → World → Prop} {a : Act} {w : World} (hm : P.follows .mixedOrders = true) (he : early .any ops = true)
    (Inv : Array Bool → Act → World → Prop) (h0 : Inv (Array.replicate ops.size false) a { w with drawn := w.drawn + 1 })
    (hstep : ∀ l a w i o, l.size = ops.size → Inv l a w → ops[i]? = some o → l[i]? = some false → (o.after.all fun e => !Region.binds .any e || l.getD e.on false) = true → wpList P ops (After (fun a' w' => Inv (l.setIfInBounds i true) a' w') Q) [o] a w)
    (hend : ∀ a w, Inv (Array.replicate ops.size true) a w → Q .normal a w) : (Code.region id ops true).wp P Q a w := by
  refine wp_region_any hm ?_
  have go : ∀ (fuel : Nat) (l : Array Bool) (a : Act) (w : World), l.size = ops.size → falses l ≤ fuel → Inv l a w → wpAny P .any ops Q fuel l a w := by
    intro fuel
    have fin : ∀ (l : Array Bool) (a : Act) (w : World), l.size = ops.size → Inv l a w → Region.ready .any ops l = [] → Q .normal a w := by
      intro l a w hs hI hr
      have : l = Array.replicate ops.size true := by
        apply Array.ext
        · simp [hs]
        · intro i h1 h2
          have := ready_all he hs hr i (by omega)
          rw [Array.getElem?_eq_getElem h1] at this
          simpa using Option.some.inj this
      exact hend a w (this ▸ hI)
    induction fuel with
    | zero =>
      intro l a w hs hf hI
      have hr : Region.ready .any ops l = [] := by
        cases hx : Region.ready .any ops l with
        | nil => rfl
        | cons i r =>
          obtain ⟨h1, _⟩ := ready_spec (md := .any) (ops := ops) (l := l) (i := i) (by rw [hx]; exact List.mem_cons_self)
          have := falses_set h1
          omega
      exact ⟨hr, fin l a w hs hI hr⟩
    | succ n ih =>
      intro l a w hs hf hI
      refine ⟨fin l a w hs hI, fun i hi => ?_⟩
      obtain ⟨h1, o, ho, h2⟩ := ready_spec hi
      refine wpOp_mono (fun a' w' hI' => ih _ a' w' (by simpa using hs) (by have := falses_set h1; omega) hI') (op_of_list ho (hstep l a w i o hs hI ho h1 h2))
  exact go ops.size _ a _ (by simp) (by unfold falses; simp [List.countP_replicate]) h0

/-- the same, an operation at a time -/
theorem region_inv_op {P : Program} {id : Nat} {ops : Array Oper} {Q : Exit → Act → World → Prop} {a : Act} {w : World} (hm : P.follows .mixedOrders = true) (he : early .any ops = true)
    (Inv : Array Bool → Act → World → Prop) (h0 : Inv (Array.replicate ops.size false) a { w with drawn := w.drawn + 1 })
    (hstep : ∀ l a w i o, l.size = ops.size → Inv l a w → ops[i]? = some o → l[i]? = some false → (o.after.all fun e => !Region.binds .any e || l.getD e.on false) = true → wpOp P ops Q i (fun a' w' => Inv (l.setIfInBounds i true) a' w') a w)
    (hend : ∀ a w, Inv (Array.replicate ops.size true) a w → Q .normal a w) : (Code.region id ops true).wp P Q a w := by
  refine wp_region_any hm ?_
  have go : ∀ (fuel : Nat) (l : Array Bool) (a : Act) (w : World), l.size = ops.size → falses l ≤ fuel → Inv l a w → wpAny P .any ops Q fuel l a w := by
    intro fuel
    have fin : ∀ (l : Array Bool) (a : Act) (w : World), l.size = ops.size → Inv l a w → Region.ready .any ops l = [] → Q .normal a w := by
      intro l a w hs hI hr
      have : l = Array.replicate ops.size true := by
        apply Array.ext
        · simp [hs]
        · intro i h1 h2
          have := ready_all he hs hr i (by omega)
          rw [Array.getElem?_eq_getElem h1] at this
          simpa using Option.some.inj this
      exact hend a w (this ▸ hI)
    induction fuel with
    | zero =>
      intro l a w hs hf hI
      have hr : Region.ready .any ops l = [] := by
        cases hx : Region.ready .any ops l with
        | nil => rfl
        | cons i r =>
          obtain ⟨h1, _⟩ := ready_spec (md := .any) (ops := ops) (l := l) (i := i) (by rw [hx]; exact List.mem_cons_self)
          have := falses_set h1
          omega
      exact ⟨hr, fin l a w hs hI hr⟩
    | succ n ih =>
      intro l a w hs hf hI
      refine ⟨fin l a w hs hI, fun i hi => ?_⟩
      obtain ⟨h1, o, ho, h2⟩ := ready_spec hi
      refine wpOp_mono (fun a' w' hI' => ih _ a' w' (by simpa using hs) (by have := falses_set h1; omega) hI') (hstep l a w i o hs hI ho h1 h2)
  exact go ops.size _ a _ (by simp) (by unfold falses; simp [List.countP_replicate]) h0

/-! one operation -/
theorem op_value {P : Program} {ops : Array Oper} {Q : Exit → Act → World → Prop} {i : Nat} {o : Oper} {K : Act → World → Prop} {a : Act} {w w' : World} {v : Value} (hi : ops[i]? = some o) (hg : o.guard = none) (hrun : (execOp a.eval o).run P w = .ok (.value v) w') (h : K (a.put o.dst v) w') : wpOp P ops Q i K a w := by
  unfold wpOp
  rw [hi]
  simp only
  rw [if_pos (by simp [Region.wanted, hg])]
  refine .inl ?_
  unfold Oper.wp
  rw [hrun]
  exact h
theorem op_skip {P : Program} {ops : Array Oper} {Q : Exit → Act → World → Prop} {i : Nat} {o : Oper} {K : Act → World → Prop} {a : Act} {w w' : World} (hi : ops[i]? = some o) (hg : o.guard = none) (hrun : (execOp a.eval o).run P w = .ok .skip w') (h : K (a.put o.dst undef) w') : wpOp P ops Q i K a w := by
  unfold wpOp
  rw [hi]
  simp only
  rw [if_pos (by simp [Region.wanted, hg])]
  refine .inl ?_
  unfold Oper.wp
  rw [hrun]
  exact h
theorem op_call {P : Program} {ops : Array Oper} {Q : Exit → Act → World → Prop} {i : Nat} {o : Oper} {K : Act → World → Prop} {a : Act} {w : World} (hi : ops[i]? = some o) (hg : o.guard = none) {f : FuncId} {fn : Func} {as : Array Operand} {ts : Array TypeId} (hf : P.funcs[f]? = some fn) (hname : (fn.name == "runtime.NumGoroutine") = false) (hb : fn.body.isSome = true)
    (hop : o.op = .call { callee := .value (.func f), args := as, argTypes := ts }) (args : Array Value) (hargs : as.map a.eval = args) (h : Calls P f args w fun e w' => ∃ v, e = .returned v ∧ K (a.put o.dst v) w') : wpOp P ops Q i K a w := by
  unfold wpOp
  rw [hi]
  simp only
  rw [if_pos (by simp [Region.wanted, hg])]
  refine .inl ?_
  have h1 : fn.name ≠ "runtime.NumGoroutine" := by simpa using hname
  obtain ⟨c, hc⟩ := Option.isSome_iff_exists.1 hb
  have he : (callFunc f args).run P w = .ok (.enter f args) w := by simp [callFunc, hf, h1, hc]
  have hrun : (execOp a.eval o).run P w = .ok (.enter f args) w := by
    unfold execOp
    simp [hop, resolve, Deferred.ofValue, invoke, Act.eval, hargs, he]
  unfold Oper.wp
  rw [hrun, Oper.upon_enter]
  refine h.mono fun e w'' hh => ?_
  obtain ⟨v, rfl, hk⟩ := hh
  exact hk

/-! operations that are guarded ('&&', '||'), the guard known -/
theorem wanted_of {ops : Array Oper} {o : Oper} {a : Act} {g : Nat} {b : Bool} (t : Tmp) (hg : o.guard = some (g, b)) (hd : (ops[g]?).bind (·.dst) = some t) (hv : a.tmps.getD t undef = .bool b) : Region.wanted o (yielded ops a.tmps) = true := by
  unfold Region.wanted yielded
  rw [hg]
  simp only
  rw [hd]
  simp only [Option.bind_some]
  rw [Array.getD_eq_getD_getElem?] at hv
  cases hx : a.tmps[t]? with
  | none => rw [hx] at hv; simp [undef] at hv
  | some v => rw [hx] at hv; simp only [Option.getD_some] at hv; rw [hv]; simp
theorem op_valueW {P : Program} {ops : Array Oper} {Q : Exit → Act → World → Prop} {i : Nat} {o : Oper} {K : Act → World → Prop} {a : Act} {w w' : World} {v : Value} (hi : ops[i]? = some o) (hg : Region.wanted o (yielded ops a.tmps) = true) (hrun : (execOp a.eval o).run P w = .ok (.value v) w') (h : K (a.put o.dst v) w') : wpOp P ops Q i K a w := by
  unfold wpOp
  rw [hi]
  simp only
  rw [if_pos hg]
  refine .inl ?_
  unfold Oper.wp
  rw [hrun]
  exact h
theorem op_callW {P : Program} {ops : Array Oper} {Q : Exit → Act → World → Prop} {i : Nat} {o : Oper} {K : Act → World → Prop} {a : Act} {w : World} (hi : ops[i]? = some o) (hg : Region.wanted o (yielded ops a.tmps) = true) {f : FuncId} {fn : Func} {as : Array Operand} {ts : Array TypeId} (hf : P.funcs[f]? = some fn) (hname : (fn.name == "runtime.NumGoroutine") = false) (hb : fn.body.isSome = true)
    (hop : o.op = .call { callee := .value (.func f), args := as, argTypes := ts }) (args : Array Value) (hargs : as.map a.eval = args) (h : Calls P f args w fun e w' => ∃ v, e = .returned v ∧ K (a.put o.dst v) w') : wpOp P ops Q i K a w := by
  unfold wpOp
  rw [hi]
  simp only
  rw [if_pos hg]
  refine .inl ?_
  have h1 : fn.name ≠ "runtime.NumGoroutine" := by simpa using hname
  obtain ⟨c, hc⟩ := Option.isSome_iff_exists.1 hb
  have he : (callFunc f args).run P w = .ok (.enter f args) w := by simp [callFunc, hf, h1, hc]
  have hrun : (execOp a.eval o).run P w = .ok (.enter f args) w := by
    unfold execOp
    simp [hop, resolve, Deferred.ofValue, invoke, Act.eval, hargs, he]
  unfold Oper.wp
  rw [hrun, Oper.upon_enter]
  refine h.mono fun e w'' hh => ?_
  obtain ⟨v, rfl, hk⟩ := hh
  exact hk

/-! what comes up in any order, each with a fact of its own that the others leave -/
def waits (o : Oper) (j : Nat) : Bool := o.after.any fun e => Region.binds .any e && e.on == j
theorem dep_of {o : Oper} {l : Array Bool} {j : Nat} (h : (o.after.all fun e => !Region.binds .any e || l.getD e.on false) = true) (hw : waits o j = true) : l[j]? = some true := by
  unfold waits at hw
  rw [Array.any_eq_true'] at hw
  rw [Array.all_eq_true'] at h
  obtain ⟨e, he, h1⟩ := hw
  rw [Bool.and_eq_true, beq_iff_eq] at h1
  have h2 := h e he
  rw [h1.1] at h2
  rw [Array.getD_eq_getD_getElem?, h1.2] at h2
  cases hx : l[j]? with
  | none => rw [hx] at h2; simp at h2
  | some b => rw [hx] at h2; simp at h2; rw [h2]
def puts (dst : Nat → Option Tmp) (vs : Nat → Value) : List Nat → Act → Act
  | [], a => a
  | i :: r, a => puts dst vs r (a.put (dst i) (vs i))
def slotsOk (dst : Nat → Option Tmp) (n N : Nat) : Bool := (List.range n).all fun i => match dst i with
  | some t => decide (t < N) && (List.range n).all fun j => (i == j) || dst j != some t
  | none => true
def off (dst : Nat → Option Tmp) (n : Nat) (t : Tmp) : Bool := (List.range n).all fun i => dst i != some t
theorem getD_put {a : Act} {d t : Nat} {v : Value} (h : d ≠ t) : (a.put (some d) v).tmps.getD t undef = a.tmps.getD t undef := by
  simp [Act.put, Array.getD_eq_getD_getElem?, h]
theorem getD_put_self {a : Act} {d : Nat} {v : Value} (h : d < a.tmps.size) : (a.put (some d) v).tmps.getD d undef = v := by
  simp [Act.put, Array.getD_eq_getD_getElem?, h]
theorem puts_frame (dst : Nat → Option Tmp) (vs : Nat → Value) : ∀ (l : List Nat) (a : Act), (puts dst vs l a).tmps.size = a.tmps.size ∧ (puts dst vs l a).defers = a.defers ∧ ∀ t, (∀ i ∈ l, dst i ≠ some t) → (puts dst vs l a).tmps.getD t undef = a.tmps.getD t undef
  | [], a => ⟨rfl, rfl, fun _ _ => rfl⟩
  | i :: r, a => by
    obtain ⟨h1, h2, h3⟩ := puts_frame dst vs r (a.put (dst i) (vs i))
    refine ⟨?_, ?_, fun t ht => ?_⟩
    · show (puts dst vs r (a.put (dst i) (vs i))).tmps.size = _
      rw [h1]; cases dst i <;> simp [Act.put]
    · show (puts dst vs r (a.put (dst i) (vs i))).defers = _
      rw [h2]; cases dst i <;> rfl
    · show (puts dst vs r (a.put (dst i) (vs i))).tmps.getD t undef = _
      rw [h3 t (fun j hj => ht j (List.mem_cons_of_mem _ hj))]
      have := ht i List.mem_cons_self
      cases hd : dst i with
      | none => rfl
      | some d => rw [hd] at this; exact getD_put (fun e => this (by rw [e]))
theorem puts_at (dst : Nat → Option Tmp) (vs : Nat → Value) : ∀ (l : List Nat) (a : Act) (i : Nat) (t : Tmp), i ∈ l → dst i = some t → t < a.tmps.size → (∀ j ∈ l, j ≠ i → dst j ≠ some t) → (puts dst vs l a).tmps.getD t undef = vs i
  | [], _, _, _, h, _, _, _ => by cases h
  | j :: r, a, i, t, hm, hd, ht, hne => by
    show (puts dst vs r (a.put (dst j) (vs j))).tmps.getD t undef = _
    by_cases hir : i ∈ r
    · exact puts_at dst vs r _ i t hir hd (by cases dst j <;> simpa [Act.put] using ht) (fun q hq => hne q (List.mem_cons_of_mem _ hq))
    · obtain rfl : i = j := by
        rcases List.mem_cons.1 hm with h | h
        · exact h
        · exact absurd h hir
      rw [(puts_frame dst vs r _).2.2 t (fun q hq => hne q (List.mem_cons_of_mem _ hq) (fun e => hir (e ▸ hq))), hd, getD_put_self ht]
/-- What is known in the midst of the region. -/
structure Mid (Ext : World → World → Prop) (dst : Nat → Option Tmp) (n : Nat) (F : Nat → World → Value → Prop) (a0 : Act) (w0 : World) (D : Nat → Prop) (a : Act) (w : World) : Prop where
  defers : a.defers = a0.defers
  size : a.tmps.size = a0.tmps.size
  off : ∀ t, off dst n t = true → a.tmps.getD t undef = a0.tmps.getD t undef
  ext : Ext w0 w
  at_ : ∀ i, i < n → D i → F i w (match dst i with | some t => a.tmps.getD t undef | none => undef)
theorem region_facts {P : Program} {id : Nat} {ops : Array Oper} {Q : Exit → Act → World → Prop} {a0 : Act} {w0 : World} (hm : P.follows .mixedOrders = true) (he : early .any ops = true)
    (Ext : World → World → Prop) (htr : ∀ a b c, Ext a b → Ext b c → Ext a c) (hdrew : Ext w0 { w0 with drawn := w0.drawn + 1 }) (dst : Nat → Option Tmp) (n : Nat) (hn : ops.size = n) (hsl : slotsOk dst n a0.tmps.size = true)
    (hdst : ((List.range n).all fun i => match ops[i]? with | some o => o.dst == dst i | none => false) = true) (F : Nat → World → Value → Prop) (hF : ∀ i w w1 v, F i w v → Ext w w1 → F i w1 v)
    (hstep : ∀ i o a w, ops[i]? = some o → Mid Ext dst n F a0 w0 (fun j => waits o j = true) a w → wpOp P ops Q i (fun a' w' => ∃ v, a' = a.put (dst i) v ∧ F i w' (match dst i with | some _ => v | none => undef) ∧ Ext w w') a w)
    (hend : ∀ (vs : Nat → Value) w, Ext w0 w → (∀ i, i < n → F i w (match dst i with | some _ => vs i | none => undef)) → Q .normal (puts dst vs (List.range n) a0) w) : (Code.region id ops true).wp P Q a0 w0 := by
  subst hn
  have hdi : ∀ i o, ops[i]? = some o → o.dst = dst i := fun i o ho => by
    have := List.all_eq_true.1 hdst i (List.mem_range.2 (Array.getElem?_eq_some_iff.1 ho).1)
    rw [ho] at this
    exact beq_iff_eq.1 this
  have hne : ∀ i t, i < ops.size → dst i = some t → t < a0.tmps.size ∧ ∀ j, j < ops.size → j ≠ i → dst j ≠ some t := fun i t hi hd => by
    have h1 := List.all_eq_true.1 hsl i (List.mem_range.2 hi)
    rw [hd] at h1
    simp only [Bool.and_eq_true, decide_eq_true_eq] at h1
    refine ⟨h1.1, fun j hj hji => ?_⟩
    have h2 := List.all_eq_true.1 h1.2 j (List.mem_range.2 hj)
    rw [Bool.or_eq_true, beq_iff_eq] at h2
    rcases h2 with h2 | h2
    · exact absurd h2.symm hji
    · simpa using h2
  refine region_inv_op hm he (fun l a w => Mid Ext dst ops.size F a0 w0 (fun j => l[j]? = some true) a w) ?_ ?_ ?_
  · exact ⟨rfl, rfl, fun _ _ => rfl, hdrew, fun i hi h => by rw [Array.getElem?_replicate, if_pos hi] at h; cases h⟩
  · intro l a w i o hs hI ho hl hr
    have hi : i < ops.size := (Array.getElem?_eq_some_iff.1 ho).1
    refine wpOp_mono ?_ (hstep i o a w ho ⟨hI.defers, hI.size, hI.off, hI.ext, fun j hj hw => hI.at_ j hj (dep_of hr hw)⟩)
    rintro a' w' ⟨v, rfl, hv, hx⟩
    refine ⟨?_, ?_, fun t ht => ?_, htr _ _ _ hI.ext hx, fun j hj hlj => ?_⟩
    · rw [← hI.defers]; cases dst i <;> rfl
    · rw [← hI.size]; cases dst i <;> simp [Act.put]
    · rw [← hI.off t ht]
      have := List.all_eq_true.1 ht i (List.mem_range.2 hi)
      cases hd : dst i with
      | none => rfl
      | some d => rw [hd] at this; exact getD_put (fun e => by rw [e] at this; simp at this)
    · by_cases hji : j = i
      · subst hji
        cases hd : dst j with
        | none => rw [hd] at hv; exact hv
        | some t =>
          rw [hd] at hv
          simp only
          rw [getD_put_self (by rw [hI.size]; exact (hne j t hj hd).1)]
          exact hv
      · have hlj' : l[j]? = some true := by
          rw [Array.getElem?_setIfInBounds] at hlj
          rw [if_neg (fun e => hji e.symm)] at hlj
          exact hlj
        have h1 := hF j _ _ _ (hI.at_ j hj hlj') hx
        cases hd : dst j with
        | none => rw [hd] at h1; exact h1
        | some t =>
          rw [hd] at h1
          simp only at h1 ⊢
          cases hdi' : dst i with
          | none => exact h1
          | some d => rw [getD_put (fun e => (hne j t hj hd).2 i hi (fun e => hji e.symm) (by rw [hdi', e]))]; exact h1
  · intro a w hI
    have h := hend (fun i => match dst i with | some t => a.tmps.getD t undef | none => undef) w hI.ext (fun i hi => by
      have := hI.at_ i hi (by rw [Array.getElem?_replicate, if_pos hi])
      cases hd : dst i with
      | none => rw [hd] at this; exact this
      | some t => rw [hd] at this; simpa [hd] using this)
    have ha : puts dst (fun i => match dst i with | some t => a.tmps.getD t undef | none => undef) (List.range ops.size) a0 = a := by
      obtain ⟨p1, p2, p3⟩ := puts_frame dst (fun i => match dst i with | some t => a.tmps.getD t undef | none => undef) (List.range ops.size) a0
      have ht : (puts dst (fun i => match dst i with | some t => a.tmps.getD t undef | none => undef) (List.range ops.size) a0).tmps = a.tmps := by
        apply Array.ext
        · rw [p1, hI.size]
        · intro t h1 h2
          have hg : ∀ (x : Array Value) (hx : t < x.size), x[t] = x.getD t undef := fun x hx => by simp [Array.getD_eq_getD_getElem?, hx]
          rw [hg _ h1, hg _ h2]
          cases ho : off dst ops.size t with
          | true =>
            rw [hI.off t ho]
            refine p3 t (fun i hi => ?_)
            have := List.all_eq_true.1 ho i hi
            simpa using this
          | false =>
            have : ¬ (∀ i, i ∈ List.range ops.size → (dst i != some t) = true) := fun h => by
              have : off dst ops.size t = true := List.all_eq_true.2 h
              rw [ho] at this; cases this
            have : ∃ i, i < ops.size ∧ dst i = some t := by
              refine Classical.byContradiction fun hc => this (fun i hi => ?_)
              rw [bne_iff_ne]
              exact fun e => hc ⟨i, List.mem_range.1 hi, e⟩
            obtain ⟨i, hi, hd⟩ := this
            rw [puts_at dst _ (List.range ops.size) a0 i t (List.mem_range.2 hi) hd (hne i t hi hd).1 (fun j hj hji => (hne i t hi hd).2 j (List.mem_range.1 hj) hji)]
            rw [hd]
      cases a with | mk at_ ad => 
      cases hp : puts dst (fun i => match dst i with | some t => (Act.mk at_ ad).tmps.getD t undef | none => undef) (List.range ops.size) a0 with | mk bt bd =>
      rw [hp] at ht p2
      have hd := hI.defers
      simp only at ht p2 hd
      rw [ht, p2, ← hd]
    rw [ha] at h
    exact h
end Go.Proofs.Ytplppefpohjkbaa.RegInv
