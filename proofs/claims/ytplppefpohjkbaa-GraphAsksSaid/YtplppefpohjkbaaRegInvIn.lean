/- A region that draws its order inside a fence, a round of a range over a function too: RegInv.region_facts, operation by operation. -/
import Derived.Test.YtplppefpohjkbaaRegInv
import Derived.OrdersIn
import Derived.TacticsIn
namespace Go.Proofs.Ytplppefpohjkbaa.RegInv
set_option linter.unusedVariables false
/-- the same, an operation at a time -/
theorem region_inv_opIn {F : Fence} {n : Nat} {P : Program} {id : Nat} {ops : Array Oper} {Q : Exit → Act → World → Prop} {a : Act} {w : World} (hm : P.follows .mixedOrders = true) (he : early .any ops = true)
    (Inv : Array Bool → Act → World → Prop) (h0 : Inv (Array.replicate ops.size false) a { w with drawn := w.drawn + 1 })
    (hstep : ∀ l a w i o, l.size = ops.size → Inv l a w → ops[i]? = some o → l[i]? = some false → (o.after.all fun e => !Region.binds .any e || l.getD e.on false) = true → wpOpIn F n P ops Q i (fun a' w' => Inv (l.setIfInBounds i true) a' w') a w)
    (hend : ∀ a w, Inv (Array.replicate ops.size true) a w → Q .normal a w) : (Code.region id ops true).wpIn F n P Q a w := by
  refine wpIn_region_any hm ?_
  have go : ∀ (fuel : Nat) (l : Array Bool) (a : Act) (w : World), l.size = ops.size → falses l ≤ fuel → Inv l a w → wpAnyIn F n P .any ops Q fuel l a w := by
    intro fuel
    have fin : ∀ (l : Array Bool) (a : Act) (w : World), l.size = ops.size → Inv l a w → Region.ready .any ops l = [] → Q .normal a w := by
      intro l a w hs hI hr
      have : l = Array.replicate ops.size true := by
        apply Array.ext
        · simp [hs]
        · intro i h1 h2
          have := ready_all he hs hr i (by omega)
          rw [Array.getElem?_eq_getElem h1] at this
          simpa using Option.some.inj this
      exact hend a w (this ▸ hI)
    induction fuel with
    | zero =>
      intro l a w hs hf hI
      have hr : Region.ready .any ops l = [] := by
        cases hx : Region.ready .any ops l with
        | nil => rfl
        | cons i r =>
          obtain ⟨h1, _⟩ := ready_spec (md := .any) (ops := ops) (l := l) (i := i) (by rw [hx]; exact List.mem_cons_self)
          have := falses_set h1
          omega
      exact ⟨hr, fin l a w hs hI hr⟩
    | succ m ih =>
      intro l a w hs hf hI
      refine ⟨fin l a w hs hI, fun i hi => ?_⟩
      obtain ⟨h1, o, ho, h2⟩ := ready_spec hi
      refine wpOpIn_mono (fun a' w' hI' => ih _ a' w' (by simpa using hs) (by have := falses_set h1; omega) hI') (hstep l a w i o hs hI ho h1 h2)
  exact go ops.size _ a _ (by simp) (by unfold falses; simp [List.countP_replicate]) h0

theorem region_factsIn {Fe : Fence} {m : Nat} {P : Program} {id : Nat} {ops : Array Oper} {Q : Exit → Act → World → Prop} {a0 : Act} {w0 : World} (hm : P.follows .mixedOrders = true) (he : early .any ops = true)
    (Ext : World → World → Prop) (htr : ∀ a b c, Ext a b → Ext b c → Ext a c) (hdrew : Ext w0 { w0 with drawn := w0.drawn + 1 }) (dst : Nat → Option Tmp) (n : Nat) (hn : ops.size = n) (hsl : slotsOk dst n a0.tmps.size = true)
    (hdst : ((List.range n).all fun i => match ops[i]? with | some o => o.dst == dst i | none => false) = true) (F : Nat → World → Value → Prop) (hF : ∀ i w w1 v, F i w v → Ext w w1 → F i w1 v)
    (hstep : ∀ i o a w, ops[i]? = some o → Mid Ext dst n F a0 w0 (fun j => waits o j = true) a w → wpOpIn Fe m P ops Q i (fun a' w' => ∃ v, a' = a.put (dst i) v ∧ F i w' (match dst i with | some _ => v | none => undef) ∧ Ext w w') a w)
    (hend : ∀ (vs : Nat → Value) w, Ext w0 w → (∀ i, i < n → F i w (match dst i with | some _ => vs i | none => undef)) → Q .normal (puts dst vs (List.range n) a0) w) : (Code.region id ops true).wpIn Fe m P Q a0 w0 := by
  subst hn
  have hdi : ∀ i o, ops[i]? = some o → o.dst = dst i := fun i o ho => by
    have := List.all_eq_true.1 hdst i (List.mem_range.2 (Array.getElem?_eq_some_iff.1 ho).1)
    rw [ho] at this
    exact beq_iff_eq.1 this
  have hne : ∀ i t, i < ops.size → dst i = some t → t < a0.tmps.size ∧ ∀ j, j < ops.size → j ≠ i → dst j ≠ some t := fun i t hi hd => by
    have h1 := List.all_eq_true.1 hsl i (List.mem_range.2 hi)
    rw [hd] at h1
    simp only [Bool.and_eq_true, decide_eq_true_eq] at h1
    refine ⟨h1.1, fun j hj hji => ?_⟩
    have h2 := List.all_eq_true.1 h1.2 j (List.mem_range.2 hj)
    rw [Bool.or_eq_true, beq_iff_eq] at h2
    rcases h2 with h2 | h2
    · exact absurd h2.symm hji
    · simpa using h2
  refine region_inv_opIn hm he (fun l a w => Mid Ext dst ops.size F a0 w0 (fun j => l[j]? = some true) a w) ?_ ?_ ?_
  · exact ⟨rfl, rfl, fun _ _ => rfl, hdrew, fun i hi h => by rw [Array.getElem?_replicate, if_pos hi] at h; cases h⟩
  · intro l a w i o hs hI ho hl hr
    have hi : i < ops.size := (Array.getElem?_eq_some_iff.1 ho).1
    refine wpOpIn_mono ?_ (hstep i o a w ho ⟨hI.defers, hI.size, hI.off, hI.ext, fun j hj hw => hI.at_ j hj (dep_of hr hw)⟩)
    rintro a' w' ⟨v, rfl, hv, hx⟩
    refine ⟨?_, ?_, fun t ht => ?_, htr _ _ _ hI.ext hx, fun j hj hlj => ?_⟩
    · rw [← hI.defers]; cases dst i <;> rfl
    · rw [← hI.size]; cases dst i <;> simp [Act.put]
    · rw [← hI.off t ht]
      have := List.all_eq_true.1 ht i (List.mem_range.2 hi)
      cases hd : dst i with
      | none => rfl
      | some d => rw [hd] at this; exact getD_put (fun e => by rw [e] at this; simp at this)
    · by_cases hji : j = i
      · subst hji
        cases hd : dst j with
        | none => rw [hd] at hv; exact hv
        | some t =>
          rw [hd] at hv
          simp only
          rw [getD_put_self (by rw [hI.size]; exact (hne j t hj hd).1)]
          exact hv
      · have hlj' : l[j]? = some true := by
          rw [Array.getElem?_setIfInBounds] at hlj
          rw [if_neg (fun e => hji e.symm)] at hlj
          exact hlj
        have h1 := hF j _ _ _ (hI.at_ j hj hlj') hx
        cases hd : dst j with
        | none => rw [hd] at h1; exact h1
        | some t =>
          rw [hd] at h1
          simp only at h1 ⊢
          cases hdi' : dst i with
          | none => exact h1
          | some d => rw [getD_put (fun e => (hne j t hj hd).2 i hi (fun e => hji e.symm) (by rw [hdi', e]))]; exact h1
  · intro a w hI
    have h := hend (fun i => match dst i with | some t => a.tmps.getD t undef | none => undef) w hI.ext (fun i hi => by
      have := hI.at_ i hi (by rw [Array.getElem?_replicate, if_pos hi])
      cases hd : dst i with
      | none => rw [hd] at this; exact this
      | some t => rw [hd] at this; simpa [hd] using this)
    have ha : puts dst (fun i => match dst i with | some t => a.tmps.getD t undef | none => undef) (List.range ops.size) a0 = a := by
      obtain ⟨p1, p2, p3⟩ := puts_frame dst (fun i => match dst i with | some t => a.tmps.getD t undef | none => undef) (List.range ops.size) a0
      have ht : (puts dst (fun i => match dst i with | some t => a.tmps.getD t undef | none => undef) (List.range ops.size) a0).tmps = a.tmps := by
        apply Array.ext
        · rw [p1, hI.size]
        · intro t h1 h2
          have hg : ∀ (x : Array Value) (hx : t < x.size), x[t] = x.getD t undef := fun x hx => by simp [Array.getD_eq_getD_getElem?, hx]
          rw [hg _ h1, hg _ h2]
          cases ho : off dst ops.size t with
          | true =>
            rw [hI.off t ho]
            refine p3 t (fun i hi => ?_)
            have := List.all_eq_true.1 ho i hi
            simpa using this
          | false =>
            have : ¬ (∀ i, i ∈ List.range ops.size → (dst i != some t) = true) := fun h => by
              have : off dst ops.size t = true := List.all_eq_true.2 h
              rw [ho] at this; cases this
            have : ∃ i, i < ops.size ∧ dst i = some t := by
              refine Classical.byContradiction fun hc => this (fun i hi => ?_)
              rw [bne_iff_ne]
              exact fun e => hc ⟨i, List.mem_range.1 hi, e⟩
            obtain ⟨i, hi, hd⟩ := this
            rw [puts_at dst _ (List.range ops.size) a0 i t (List.mem_range.2 hi) hd (hne i t hi hd).1 (fun j hj hji => (hne i t hi hd).2 j (List.mem_range.1 hj) hji)]
            rw [hd]
      cases a with | mk at_ ad => 
      cases hp : puts dst (fun i => match dst i with | some t => (Act.mk at_ ad).tmps.getD t undef | none => undef) (List.range ops.size) a0 with | mk bt bd =>
      rw [hp] at ht p2
      have hd := hI.defers
      simp only at ht p2 hd
      rw [ht, p2, ← hd]
    rw [ha] at h
    exact h
theorem wideAt (l : Nat) : (∀ f, (Fence.wide.inRound l).fn f) ∧ (Fence.wide.inRound l).depth = none := ⟨fun _ => trivial, rfl⟩
section
variable {F : Fence} {m : Nat} {P : Program} {ops : Array Oper} {Q : Exit → Act → World → Prop} {i : Nat} {o : Oper} {K : Act → World → Prop} {a : Act} {w w' : World} {v : Value}
theorem op_valueIn (hF : ∀ f, F.fn f) (hi : ops[i]? = some o) (hg : Region.wanted o (yielded ops a.tmps) = true) (hd : ∀ c, o.op ≠ .defer c) (hrun : (execOp a.eval o).run P w = .ok (.value v) w') (h : K (a.put o.dst v) w') : wpOpIn F m P ops Q i K a w := by
  unfold wpOpIn
  rw [hi]
  simp only
  rw [if_pos hg]
  refine ⟨fun f _ => hF f, ?_⟩
  have e : o.semAt F.round a.eval = execOp a.eval o := by
    cases F.round with
    | none => exact Oper.semAt_none _ _
    | some l => exact Oper.semAt_some l _ _ hd
  rw [e, hrun]
  exact h
theorem op_skipIn (hF : ∀ f, F.fn f) (hi : ops[i]? = some o) (hg : Region.wanted o (yielded ops a.tmps) = true) (hd : ∀ c, o.op ≠ .defer c) (hrun : (execOp a.eval o).run P w = .ok .skip w') (h : K (a.put o.dst undef) w') : wpOpIn F m P ops Q i K a w := by
  unfold wpOpIn
  rw [hi]
  simp only
  rw [if_pos hg]
  refine ⟨fun f _ => hF f, ?_⟩
  have e : o.semAt F.round a.eval = execOp a.eval o := by
    cases F.round with
    | none => exact Oper.semAt_none _ _
    | some l => exact Oper.semAt_some l _ _ hd
  rw [e, hrun]
  exact h
theorem op_unwantedIn (hF : ∀ f, F.fn f) (hi : ops[i]? = some o) (hg : Region.wanted o (yielded ops a.tmps) = false) (h : K (a.put o.dst undef) w) : wpOpIn F m P ops Q i K a w := by
  unfold wpOpIn
  rw [hi]
  simp only
  rw [if_neg (by rw [hg]; exact Bool.false_ne_true)]
  exact ⟨fun f _ => hF f, h⟩
theorem op_callIn (hF : ∀ f, F.fn f) (hdp : F.depth = none) (hi : ops[i]? = some o) (hg : Region.wanted o (yielded ops a.tmps) = true) {f : FuncId} {fn : Func} {as : Array Operand} {ts : Array TypeId} (hf : P.funcs[f]? = some fn) (hname : (fn.name == "runtime.NumGoroutine") = false) (hb : fn.body.isSome = true)
    (hop : o.op = .call { callee := .value (.func f), args := as, argTypes := ts }) (args : Array Value) (hargs : as.map a.eval = args) (h : CallsIn F (m - 1) P f args w fun e w' => ∃ v, e = .returned v ∧ K (a.put o.dst v) w') : wpOpIn F m P ops Q i K a w := by
  unfold wpOpIn
  rw [hi]
  simp only
  rw [if_pos hg]
  refine ⟨fun f _ => hF f, ?_⟩
  have h1 : fn.name ≠ "runtime.NumGoroutine" := by simpa using hname
  obtain ⟨c, hc⟩ := Option.isSome_iff_exists.1 hb
  have he : (callFunc f args).run P w = .ok (.enter f args) w := by simp [callFunc, hf, h1, hc]
  have hrun : (execOp a.eval o).run P w = .ok (.enter f args) w := by
    unfold execOp
    simp [hop, resolve, Deferred.ofValue, invoke, Act.eval, hargs, he]
  have e : o.semAt F.round a.eval = execOp a.eval o := by
    cases F.round with
    | none => exact Oper.semAt_none _ _
    | some l => exact Oper.semAt_some l _ _ (fun c h => by rw [hop] at h; cases h)
  rw [e, hrun, Oper.uponIn_enter]
  refine ⟨fun hs => absurd hs (by rw [hdp]; simp), h.mono fun e w'' hh => ?_⟩
  obtain ⟨v, rfl, hk⟩ := hh
  exact hk
end
end Go.Proofs.Ytplppefpohjkbaa.RegInv
