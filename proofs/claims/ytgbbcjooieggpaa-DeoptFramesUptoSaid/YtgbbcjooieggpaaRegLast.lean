/- A region that draws its order and ends with one operation that waits for all others (a store into what is made there). -/
import Derived.Test.YtgbbcjooieggpaaRegInv
namespace Go.Proofs.Ytgbbcjooieggpaa.RegInv
set_option linter.unusedVariables false
theorem slots_ne {dst : Nat → Option Tmp} {n N : Nat} (hsl : slotsOk dst n N = true) : ∀ i t, i < n → dst i = some t → t < N ∧ ∀ j, j < n → j ≠ i → dst j ≠ some t := fun i t hi hd => by
  have h1 := List.all_eq_true.1 hsl i (List.mem_range.2 hi)
  rw [hd] at h1
  simp only [Bool.and_eq_true, decide_eq_true_eq] at h1
  refine ⟨h1.1, fun j hj hji => ?_⟩
  have h2 := List.all_eq_true.1 h1.2 j (List.mem_range.2 hj)
  rw [Bool.or_eq_true, beq_iff_eq] at h2
  rcases h2 with h2 | h2
  · exact absurd h2.symm hji
  · simpa using h2
theorem mid_puts {Ext : World → World → Prop} {dst : Nat → Option Tmp} {n : Nat} {F : Nat → World → Value → Prop} {a0 : Act} {w0 : World} {D : Nat → Prop} {a : Act} {w : World} (hsl : slotsOk dst n a0.tmps.size = true) (hI : Mid Ext dst n F a0 w0 D a w) :
    puts dst (fun i => match dst i with | some t => a.tmps.getD t undef | none => undef) (List.range n) a0 = a := by
  have hne := slots_ne hsl
  obtain ⟨p1, p2, p3⟩ := puts_frame dst (fun i => match dst i with | some t => a.tmps.getD t undef | none => undef) (List.range n) a0
  have ht : (puts dst (fun i => match dst i with | some t => a.tmps.getD t undef | none => undef) (List.range n) a0).tmps = a.tmps := by
    apply Array.ext
    · rw [p1, hI.size]
    · intro t h1 h2
      have hg : ∀ (x : Array Value) (hx : t < x.size), x[t] = x.getD t undef := fun x hx => by simp [Array.getD_eq_getD_getElem?, hx]
      rw [hg _ h1, hg _ h2]
      cases ho : off dst n t with
      | true =>
        rw [hI.off t ho]
        refine p3 t (fun i hi => ?_)
        have := List.all_eq_true.1 ho i hi
        simpa using this
      | false =>
        have : ¬ (∀ i, i ∈ List.range n → (dst i != some t) = true) := fun h => by
          have : off dst n t = true := List.all_eq_true.2 h
          rw [ho] at this; cases this
        have : ∃ i, i < n ∧ dst i = some t := by
          refine Classical.byContradiction fun hc => this (fun i hi => ?_)
          rw [bne_iff_ne]
          exact fun e => hc ⟨i, List.mem_range.1 hi, e⟩
        obtain ⟨i, hi, hd⟩ := this
        rw [puts_at dst _ (List.range n) a0 i t (List.mem_range.2 hi) hd (hne i t hi hd).1 (fun j hj hji => (hne i t hi hd).2 j (List.mem_range.1 hj) hji)]
        rw [hd]
  cases a with | mk at_ ad =>
  cases hp : puts dst (fun i => match dst i with | some t => (Act.mk at_ ad).tmps.getD t undef | none => undef) (List.range n) a0 with | mk bt bd =>
  rw [hp] at ht p2
  have hd := hI.defers
  simp only at ht p2 hd
  rw [ht, p2, ← hd]
theorem region_last {P : Program} {id : Nat} {ops : Array Oper} {Q : Exit → Act → World → Prop} {a0 : Act} {w0 : World} (hm : P.follows .mixedOrders = true) (he : early .any ops = true)
    (Ext : World → World → Prop) (htr : ∀ a b c, Ext a b → Ext b c → Ext a c) (hdrew : Ext w0 { w0 with drawn := w0.drawn + 1 }) (dst : Nat → Option Tmp) (n : Nat) (hn : ops.size = n + 1) (hsl : slotsOk dst n a0.tmps.size = true)
    (hdst : ((List.range n).all fun i => match ops[i]? with | some o => o.dst == dst i | none => false) = true)
    (hwait : ((List.range n).all fun i => match ops[n]? with | some o => waits o i | none => false) = true)
    (F : Nat → World → Value → Prop) (hF : ∀ i w w1 v, F i w v → Ext w w1 → F i w1 v)
    (hstep : ∀ i o a w, i < n → ops[i]? = some o → Mid Ext dst n F a0 w0 (fun j => waits o j = true) a w → wpOp P ops Q i (fun a' w' => ∃ v, a' = a.put (dst i) v ∧ F i w' (match dst i with | some _ => v | none => undef) ∧ Ext w w') a w)
    (hlast : ∀ (vs : Nat → Value) w, Ext w0 w → (∀ i, i < n → F i w (match dst i with | some _ => vs i | none => undef)) → wpOp P ops Q n (fun a' w' => Q .normal a' w') (puts dst vs (List.range n) a0) w) : (Code.region id ops true).wp P Q a0 w0 := by
  have hdi : ∀ i o, i < n → ops[i]? = some o → o.dst = dst i := fun i o hi ho => by
    have := List.all_eq_true.1 hdst i (List.mem_range.2 hi)
    rw [ho] at this
    exact beq_iff_eq.1 this
  have hne := slots_ne hsl
  refine region_inv_op hm he (fun l a w => (l[n]? = some true → Q .normal a w ∧ ∀ i, i < n → l[i]? = some true) ∧ (l[n]? ≠ some true → Mid Ext dst n F a0 w0 (fun j => l[j]? = some true) a w)) ?_ ?_ ?_
  · refine ⟨fun h => ?_, fun _ => ⟨rfl, rfl, fun _ _ => rfl, hdrew, fun i hi h => ?_⟩⟩
    · rw [Array.getElem?_replicate, if_pos (by omega)] at h; cases h
    · rw [Array.getElem?_replicate, if_pos (by omega)] at h; cases h
  · intro l a w i o hs hI ho hl hr
    have hi : i < ops.size := (Array.getElem?_eq_some_iff.1 ho).1
    have hnl : l[n]? ≠ some true := fun h => by
      rcases Nat.lt_or_ge i n with hin | hin
      · rw [(hI.1 h).2 i hin] at hl; cases hl
      · obtain rfl : i = n := by omega
        rw [h] at hl; cases hl
    have hM := hI.2 hnl
    rcases Nat.lt_or_ge i n with hin | hin
    · have hset : (l.setIfInBounds i true)[n]? = l[n]? := by rw [Array.getElem?_setIfInBounds, if_neg (by omega)]
      refine wpOp_mono ?_ (hstep i o a w hin ho ⟨hM.defers, hM.size, hM.off, hM.ext, fun j hj hw => hM.at_ j hj (dep_of hr hw)⟩)
      rintro a' w' ⟨v, rfl, hv, hx⟩
      refine ⟨fun h => absurd (hset ▸ h) hnl, fun _ => ⟨?_, ?_, fun t ht => ?_, htr _ _ _ hM.ext hx, fun j hj hlj => ?_⟩⟩
      · rw [← hM.defers]; cases dst i <;> rfl
      · rw [← hM.size]; cases dst i <;> simp [Act.put]
      · rw [← hM.off t ht]
        have := List.all_eq_true.1 ht i (List.mem_range.2 hin)
        cases hd : dst i with
        | none => rfl
        | some d => rw [hd] at this; exact getD_put (fun e => by rw [e] at this; simp at this)
      · by_cases hji : j = i
        · subst hji
          cases hd : dst j with
          | none => rw [hd] at hv; exact hv
          | some t =>
            rw [hd] at hv
            simp only
            rw [getD_put_self (by rw [hM.size]; exact (hne j t hj hd).1)]
            exact hv
        · have hlj' : l[j]? = some true := by
            rw [Array.getElem?_setIfInBounds, if_neg (fun e => hji e.symm)] at hlj
            exact hlj
          have h1 := hF j _ _ _ (hM.at_ j hj hlj') hx
          cases hd : dst j with
          | none => rw [hd] at h1; exact h1
          | some t =>
            rw [hd] at h1
            simp only at h1 ⊢
            cases hdi' : dst i with
            | none => exact h1
            | some d => rw [getD_put (fun e => (hne j t hj hd).2 i hin (fun e => hji e.symm) (by rw [hdi', e]))]; exact h1
    · obtain rfl : i = n := by omega
      have hall : ∀ j, j < i → l[j]? = some true := fun j hj => by
        have := List.all_eq_true.1 hwait j (List.mem_range.2 hj)
        rw [ho] at this
        exact dep_of hr this
      have hp := mid_puts hsl hM
      have h := hlast (fun j => match dst j with | some t => a.tmps.getD t undef | none => undef) w hM.ext (fun j hj => by
        have := hM.at_ j hj (hall j hj)
        cases hd : dst j with
        | none => rw [hd] at this; exact this
        | some t => rw [hd] at this; simpa [hd] using this)
      rw [hp] at h
      refine wpOp_mono (fun a' w' hq => ⟨fun _ => ⟨hq, fun j hj => ?_⟩, fun hne' => absurd ?_ hne'⟩) h
      · rw [Array.getElem?_setIfInBounds, if_neg (by omega)]; exact hall j hj
      · rw [Array.getElem?_setIfInBounds, if_pos rfl, if_pos (by omega)]
  · intro a w hI
    refine (hI.1 ?_).1
    rw [Array.getElem?_replicate, if_pos (by omega)]
end Go.Proofs.Ytgbbcjooieggpaa.RegInv
