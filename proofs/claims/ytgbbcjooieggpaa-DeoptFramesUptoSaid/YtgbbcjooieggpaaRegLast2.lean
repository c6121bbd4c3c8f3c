/- A region that draws its order and ends with one operation that waits for all others, through others or at once (a store of what a call made there). -/
import Derived.Test.YtgbbcjooieggpaaRegLast
namespace Go.Proofs.Ytgbbcjooieggpaa.RegInv
set_option linter.unusedVariables false
/-- what is done has its own behind it -/
def Dep (ops : Array Oper) (l : Array Bool) : Prop := ∀ (i j : Nat) (o : Oper), ops[i]? = some o → l[i]? = some true → waits o j = true → l[j]? = some true
theorem region_inv_op2 {P : Program} {id : Nat} {ops : Array Oper} {Q : Exit → Act → World → Prop} {a : Act} {w : World} (hm : P.follows .mixedOrders = true) (he : early .any ops = true)
    (Inv : Array Bool → Act → World → Prop) (h0 : Inv (Array.replicate ops.size false) a { w with drawn := w.drawn + 1 })
    (hstep : ∀ l a w i o, l.size = ops.size → Inv l a w → ops[i]? = some o → l[i]? = some false → (o.after.all fun e => !Region.binds .any e || l.getD e.on false) = true → Dep ops l → wpOp P ops Q i (fun a' w' => Inv (l.setIfInBounds i true) a' w') a w)
    (hend : ∀ a w, Inv (Array.replicate ops.size true) a w → Q .normal a w) : (Code.region id ops true).wp P Q a w := by
  refine region_inv_op hm he (fun l a w => Inv l a w ∧ Dep ops l) ⟨h0, fun i j o ho hi _ => ?_⟩ (fun l a w i o hs hI ho hl hr => ?_) (fun a w h => hend a w h.1)
  · have := (Array.getElem?_eq_some_iff.1 ho).1
    rw [Array.getElem?_replicate, if_pos this] at hi
    cases hi
  · refine wpOp_mono (fun a' w' hI' => ⟨hI', fun q j oq hoq hq hw => ?_⟩) (hstep l a w i o hs hI.1 ho hl hr hI.2)
    have hlt : i < l.size := (Array.getElem?_eq_some_iff.1 hl).1
    have up : ∀ j, l[j]? = some true → (l.setIfInBounds i true)[j]? = some true := fun j hj => by
      rw [Array.getElem?_setIfInBounds]
      split
      · rfl
      · exact hj
    by_cases hqi : q = i
    · subst hqi
      rw [ho] at hoq
      cases hoq
      exact up j (dep_of hr hw)
    · rw [Array.getElem?_setIfInBounds, if_neg (fun e => hqi e.symm)] at hq
      exact up j (hI.2 q j oq hoq hq hw)
theorem region_last2 {P : Program} {id : Nat} {ops : Array Oper} {Q : Exit → Act → World → Prop} {a0 : Act} {w0 : World} (hm : P.follows .mixedOrders = true) (he : early .any ops = true)
    (Ext : World → World → Prop) (htr : ∀ a b c, Ext a b → Ext b c → Ext a c) (hdrew : Ext w0 { w0 with drawn := w0.drawn + 1 }) (dst : Nat → Option Tmp) (n : Nat) (hn : ops.size = n + 1) (hsl : slotsOk dst n a0.tmps.size = true)
    (hdst : ((List.range n).all fun i => match ops[i]? with | some o => o.dst == dst i | none => false) = true)
    (hwait : ((List.range n).all fun j => (List.range (n + 1)).any fun i => decide (j < i) && match ops[i]? with | some o => waits o j | none => false) = true)
    (F : Nat → World → Value → Prop) (hF : ∀ i w w1 v, F i w v → Ext w w1 → F i w1 v)
    (hstep : ∀ i o a w, i < n → ops[i]? = some o → Mid Ext dst n F a0 w0 (fun j => waits o j = true) a w → wpOp P ops Q i (fun a' w' => ∃ v, a' = a.put (dst i) v ∧ F i w' (match dst i with | some _ => v | none => undef) ∧ Ext w w') a w)
    (hlast : ∀ (vs : Nat → Value) w, Ext w0 w → (∀ i, i < n → F i w (match dst i with | some _ => vs i | none => undef)) → wpOp P ops Q n (fun a' w' => Q .normal a' w') (puts dst vs (List.range n) a0) w) : (Code.region id ops true).wp P Q a0 w0 := by
  have hdi : ∀ i o, i < n → ops[i]? = some o → o.dst = dst i := fun i o hi ho => by
    have := List.all_eq_true.1 hdst i (List.mem_range.2 hi)
    rw [ho] at this
    exact beq_iff_eq.1 this
  have hne := slots_ne hsl
  refine region_inv_op2 hm he (fun l a w => (l[n]? = some true → Q .normal a w ∧ ∀ i, i < n → l[i]? = some true) ∧ (l[n]? ≠ some true → Mid Ext dst n F a0 w0 (fun j => l[j]? = some true) a w)) ?_ ?_ ?_
  · refine ⟨fun h => ?_, fun _ => ⟨rfl, rfl, fun _ _ => rfl, hdrew, fun i hi h => ?_⟩⟩
    · rw [Array.getElem?_replicate, if_pos (by omega)] at h; cases h
    · rw [Array.getElem?_replicate, if_pos (by omega)] at h; cases h
  · intro l a w i o hs hI ho hl hr hdep
    have hi : i < ops.size := (Array.getElem?_eq_some_iff.1 ho).1
    have hnl : l[n]? ≠ some true := fun h => by
      rcases Nat.lt_or_ge i n with hin | hin
      · rw [(hI.1 h).2 i hin] at hl; cases hl
      · obtain rfl : i = n := by omega
        rw [h] at hl; cases hl
    have hM := hI.2 hnl
    rcases Nat.lt_or_ge i n with hin | hin
    · have hset : (l.setIfInBounds i true)[n]? = l[n]? := by rw [Array.getElem?_setIfInBounds, if_neg (by omega)]
      refine wpOp_mono ?_ (hstep i o a w hin ho ⟨hM.defers, hM.size, hM.off, hM.ext, fun j hj hw => hM.at_ j hj (dep_of hr hw)⟩)
      rintro a' w' ⟨v, rfl, hv, hx⟩
      refine ⟨fun h => absurd (hset ▸ h) hnl, fun _ => ⟨?_, ?_, fun t ht => ?_, htr _ _ _ hM.ext hx, fun j hj hlj => ?_⟩⟩
      · rw [← hM.defers]; cases dst i <;> rfl
      · rw [← hM.size]; cases dst i <;> simp [Act.put]
      · rw [← hM.off t ht]
        have := List.all_eq_true.1 ht i (List.mem_range.2 hin)
        cases hd : dst i with
        | none => rfl
        | some d => rw [hd] at this; exact getD_put (fun e => by rw [e] at this; simp at this)
      · by_cases hji : j = i
        · subst hji
          cases hd : dst j with
          | none => rw [hd] at hv; exact hv
          | some t =>
            rw [hd] at hv
            simp only
            rw [getD_put_self (by rw [hM.size]; exact (hne j t hj hd).1)]
            exact hv
        · have hlj' : l[j]? = some true := by
            rw [Array.getElem?_setIfInBounds, if_neg (fun e => hji e.symm)] at hlj
            exact hlj
          have h1 := hF j _ _ _ (hM.at_ j hj hlj') hx
          cases hd : dst j with
          | none => rw [hd] at h1; exact h1
          | some t =>
            rw [hd] at h1
            simp only at h1 ⊢
            cases hdi' : dst i with
            | none => exact h1
            | some d => rw [getD_put (fun e => (hne j t hj hd).2 i hin (fun e => hji e.symm) (by rw [hdi', e]))]; exact h1
    · obtain rfl : i = n := by omega
      have hall0 : ∀ m j, m + j = i → 0 < m → l[j]? = some true := by
        intro m
        induction m using Nat.strongRecOn with
        | _ m ih =>
          intro j hj hm0
          have h1 := List.all_eq_true.1 hwait j (List.mem_range.2 (by omega))
          rw [List.any_eq_true] at h1
          obtain ⟨q, hq, h2⟩ := h1
          rw [Bool.and_eq_true, decide_eq_true_eq] at h2
          obtain ⟨hjq, h3⟩ := h2
          have hqn : q < i + 1 := List.mem_range.1 hq
          cases hoq : ops[q]? with
          | none => rw [hoq] at h3; cases h3
          | some oq =>
            rw [hoq] at h3
            rcases Nat.lt_or_ge q i with hlt | hge
            · exact hdep q j oq hoq (ih (i - q) (by omega) q (by omega) (by omega)) h3
            · obtain rfl : q = i := by omega
              rw [ho] at hoq
              cases hoq
              exact dep_of hr h3
      have hall : ∀ j, j < i → l[j]? = some true := fun j hj => hall0 (i - j) j (by omega) (by omega)
      have hp : puts dst (fun j => match dst j with | some t => a.tmps.getD t undef | none => undef) (List.range i) a0 = a := mid_puts hsl hM
      have h := hlast (fun j => match dst j with | some t => a.tmps.getD t undef | none => undef) w hM.ext (fun j hj => by
        have := hM.at_ j hj (hall j hj)
        cases hd : dst j with
        | none => rw [hd] at this; exact this
        | some t => rw [hd] at this; simpa [hd] using this)
      rw [hp] at h
      refine wpOp_mono (fun a' w' hq => ⟨fun _ => ⟨hq, fun j hj => ?_⟩, fun hne' => absurd ?_ hne'⟩) h
      · rw [Array.getElem?_setIfInBounds, if_neg (by omega)]; exact hall j hj
      · rw [Array.getElem?_setIfInBounds, if_pos rfl, if_pos (by omega)]
  · intro a w hI
    refine (hI.1 ?_).1
    rw [Array.getElem?_replicate, if_pos (by omega)]
end Go.Proofs.Ytgbbcjooieggpaa.RegInv
