/- A region that draws its order and ends with one operation that waits for all others; one of the others may write what was there (an append): Inv says of the world what holds behind those that are done, Stp what each leaves. -/
import Derived.Test.YtgbbcjooieggpaaRegLast2
namespace Go.Proofs.Ytgbbcjooieggpaa.RegInv
set_option linter.unusedVariables false
theorem region_last3 {P : Program} {id : Nat} {ops : Array Oper} {Q : Exit → Act → World → Prop} {a0 : Act} {w0 : World} (hm : P.follows .mixedOrders = true) (he : early .any ops = true)
    (dst : Nat → Option Tmp) (n : Nat) (hn : ops.size = n + 1) (hsl : slotsOk dst n a0.tmps.size = true)
    (hdst : ((List.range n).all fun i => match ops[i]? with | some o => o.dst == dst i | none => false) = true)
    (hwait : ((List.range n).all fun j => (List.range (n + 1)).any fun i => decide (j < i) && match ops[i]? with | some o => waits o j | none => false) = true)
    (F : Nat → World → Value → Prop) (Stp : Nat → World → World → Prop) (Inv : (Nat → Prop) → World → Prop) (hInv0 : Inv (fun _ => False) { w0 with drawn := w0.drawn + 1 }) (hF : ∀ i j w w1 v, i ≠ j → F i w v → Stp j w w1 → F i w1 v)
    (hstep : ∀ (D : Nat → Prop) i o a w, i < n → ops[i]? = some o → ¬ D i → (∀ j, waits o j = true → D j) → Inv D w → Mid (fun _ _ => True) dst n F a0 w0 (fun j => waits o j = true) a w → wpOp P ops Q i (fun a' w' => ∃ v, a' = a.put (dst i) v ∧ F i w' (match dst i with | some _ => v | none => undef) ∧ Stp i w w' ∧ Inv (fun j => D j ∨ j = i) w') a w)
    (hlast : ∀ (vs : Nat → Value) w (D : Nat → Prop), (∀ i, i < n → D i) → Inv D w → (∀ i, i < n → F i w (match dst i with | some _ => vs i | none => undef)) → wpOp P ops Q n (fun a' w' => Q .normal a' w') (puts dst vs (List.range n) a0) w) : (Code.region id ops true).wp P Q a0 w0 := by
  have hdi : ∀ i o, i < n → ops[i]? = some o → o.dst = dst i := fun i o hi ho => by
    have := List.all_eq_true.1 hdst i (List.mem_range.2 hi)
    rw [ho] at this
    exact beq_iff_eq.1 this
  have hne := slots_ne hsl
  refine region_inv_op2 hm he (fun l a w => (l[n]? = some true → Q .normal a w ∧ ∀ i, i < n → l[i]? = some true) ∧ (l[n]? ≠ some true → Mid (fun _ _ => True) dst n F a0 w0 (fun j => l[j]? = some true) a w ∧ Inv (fun j => l[j]? = some true) w)) ?_ ?_ ?_
  · refine ⟨fun h => ?_, fun _ => ⟨⟨rfl, rfl, fun _ _ => rfl, trivial, fun i hi h => ?_⟩, ?_⟩⟩
    · rw [Array.getElem?_replicate, if_pos (by omega)] at h; cases h
    · rw [Array.getElem?_replicate, if_pos (by omega)] at h; cases h
    · have e : (fun j : Nat => (Array.replicate ops.size false)[j]? = some true) = fun _ => False := funext fun j => propext (by
        rw [Array.getElem?_replicate]
        split <;> simp)
      rw [e]
      exact hInv0
  · intro l a w i o hs hI ho hl hr hdep
    have hi : i < ops.size := (Array.getElem?_eq_some_iff.1 ho).1
    have hnl : l[n]? ≠ some true := fun h => by
      rcases Nat.lt_or_ge i n with hin | hin
      · rw [(hI.1 h).2 i hin] at hl; cases hl
      · obtain rfl : i = n := by omega
        rw [h] at hl; cases hl
    have hMP := hI.2 hnl
    have hM := hMP.1
    have hP := hMP.2
    rcases Nat.lt_or_ge i n with hin | hin
    · have hset : (l.setIfInBounds i true)[n]? = l[n]? := by rw [Array.getElem?_setIfInBounds, if_neg (by omega)]
      refine wpOp_mono ?_ (hstep (fun j => l[j]? = some true) i o a w hin ho (fun h => by rw [hl] at h; cases h) (fun j hw => dep_of hr hw) hP ⟨hM.defers, hM.size, hM.off, hM.ext, fun j hj hw => hM.at_ j hj (dep_of hr hw)⟩)
      rintro a' w' ⟨v, rfl, hv, hx, hq⟩
      refine ⟨fun h => absurd (hset ▸ h) hnl, fun _ => ⟨⟨?_, ?_, fun t ht => ?_, trivial, fun j hj hlj => ?_⟩, ?_⟩⟩
      · rw [← hM.defers]; cases dst i <;> rfl
      · rw [← hM.size]; cases dst i <;> simp [Act.put]
      · rw [← hM.off t ht]
        have := List.all_eq_true.1 ht i (List.mem_range.2 hin)
        cases hd : dst i with
        | none => rfl
        | some d => rw [hd] at this; exact getD_put (fun e => by rw [e] at this; simp at this)
      · by_cases hji : j = i
        · subst hji
          cases hd : dst j with
          | none => rw [hd] at hv; exact hv
          | some t =>
            rw [hd] at hv
            simp only
            rw [getD_put_self (by rw [hM.size]; exact (hne j t hj hd).1)]
            exact hv
        · have hlj' : l[j]? = some true := by
            rw [Array.getElem?_setIfInBounds, if_neg (fun e => hji e.symm)] at hlj
            exact hlj
          have h1 := hF j i _ _ _ hji (hM.at_ j hj hlj') hx
          cases hd : dst j with
          | none => rw [hd] at h1; exact h1
          | some t =>
            rw [hd] at h1
            simp only at h1 ⊢
            cases hdi' : dst i with
            | none => exact h1
            | some d => rw [getD_put (fun e => (hne j t hj hd).2 i hin (fun e => hji e.symm) (by rw [hdi', e]))]; exact h1
      · have e : (fun j : Nat => (l.setIfInBounds i true)[j]? = some true) = fun j => l[j]? = some true ∨ j = i := funext fun j => propext (by
          rw [Array.getElem?_setIfInBounds]
          by_cases hji : i = j
          · subst hji
            simp [hs, hi]
          · rw [if_neg hji]
            exact ⟨.inl, fun h => h.elim (fun h => h) (fun e => absurd e.symm hji)⟩)
        rw [e]
        exact hq
    · obtain rfl : i = n := by omega
      have hall0 : ∀ m j, m + j = i → 0 < m → l[j]? = some true := by
        intro m
        induction m using Nat.strongRecOn with
        | _ m ih =>
          intro j hj hm0
          have h1 := List.all_eq_true.1 hwait j (List.mem_range.2 (by omega))
          rw [List.any_eq_true] at h1
          obtain ⟨q, hq, h2⟩ := h1
          rw [Bool.and_eq_true, decide_eq_true_eq] at h2
          obtain ⟨hjq, h3⟩ := h2
          have hqn : q < i + 1 := List.mem_range.1 hq
          cases hoq : ops[q]? with
          | none => rw [hoq] at h3; cases h3
          | some oq =>
            rw [hoq] at h3
            rcases Nat.lt_or_ge q i with hlt | hge
            · exact hdep q j oq hoq (ih (i - q) (by omega) q (by omega) (by omega)) h3
            · obtain rfl : q = i := by omega
              rw [ho] at hoq
              cases hoq
              exact dep_of hr h3
      have hall : ∀ j, j < i → l[j]? = some true := fun j hj => hall0 (i - j) j (by omega) (by omega)
      have hp : puts dst (fun j => match dst j with | some t => a.tmps.getD t undef | none => undef) (List.range i) a0 = a := mid_puts hsl hM
      have h := hlast (fun j => match dst j with | some t => a.tmps.getD t undef | none => undef) w (fun j => l[j]? = some true) hall hP (fun j hj => by
        have := hM.at_ j hj (hall j hj)
        cases hd : dst j with
        | none => rw [hd] at this; exact this
        | some t => rw [hd] at this; simpa [hd] using this)
      rw [hp] at h
      refine wpOp_mono (fun a' w' hq => ⟨fun _ => ⟨hq, fun j hj => ?_⟩, fun hne' => absurd ?_ hne'⟩) h
      · rw [Array.getElem?_setIfInBounds, if_neg (by omega)]; exact hall j hj
      · rw [Array.getElem?_setIfInBounds, if_pos rfl, if_pos (by omega)]
  · intro a w hI
    refine (hI.1 ?_).1
    rw [Array.getElem?_replicate, if_pos (by omega)]
end Go.Proofs.Ytgbbcjooieggpaa.RegInv
