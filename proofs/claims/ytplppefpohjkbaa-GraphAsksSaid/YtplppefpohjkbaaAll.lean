/- portagelaw09.all: for every world. -/
import Derived.Test.YtplppefpohjkbaaHelp
namespace Go.Proofs.Ytplppefpohjkbaa.Ask
open Go.RowKit Go.Shelf Go.Proofs.Ytplppefpohjkbaa.PGr Go.Proofs.Ytplppefpohjkbaa.Lit Go.Proofs.Ytplppefpohjkbaa.OwnCells Go.Proofs.YtplppefpohjkbaaW.PrintWords Go.Proofs.YtplppefpohjkbaaW.PrintLast Go.Proofs.YtplppefpohjkbaaW.PrintMore
attribute [local go_sem] Oper.semAt_some
attribute [local go_sem] run_store_fn
attribute [local go_sem] run_eql_fn
set_option linter.unusedVariables false
set_option linter.unusedSimpArgs false
theorem row_lower {w : World} {base base' k : Nat} {e size : Nat} {v : Value} {xs : List Value} (h : w.ownsRow base e size v k xs) (hb : base' ≤ base) : w.ownsRow base' e size v k xs :=
  ⟨h.1, h.2.imp id (fun ⟨g, cap, cur, a, b, c⟩ => ⟨g, cap, cur, a, Nat.le_trans hb b, c⟩)⟩
set_option maxRecDepth 100000 in
set_option maxHeartbeats 4000000 in
theorem all_calls (A0 A1 A2 A3 A4 : Option Addr) (c0 c1 c2 c3 c4 n0 n1 n2 n4 : Nat) (l : List Int) (b most : Int) (w : World) (hA : (Kd.int .i64).C w A3 l.length l) (hl : l.length * 8 ≤ 140737488351232) (hm : (l.length : Int) < most) :
    Calls Try.prog 15 #[.agg #[.slice A0 n0 c0, .slice A1 n1 c1, .slice A2 n2 c2, .slice A3 l.length c3, .slice A4 n4 c4], .int .i64 b, .int .i64 most] w fun e w' => ∃ v, e = .returned v ∧ (Kd.int .i64).R 3 w' w.heap.size (fun _ => True) v (doms l l.length b) ∧ Below w.heap.size w w' := by
  have HA := Aside0.mk hA
  have HL := Aside0.mk hl
  clear hA hl
  refine (callsIn_wide (n := 10)).1 ?_
  refine callsIn_of_wp_marks Try.func15 rfl trivial ?_ rfl
  simp only [Try.ntmps15, List.size_toArray, List.length_cons, List.length_nil, Nat.reduceAdd, Nat.reduceSub, Array.replicate_succ, Array.replicate_zero, List.push_toArray, List.append_toArray, List.nil_append, List.cons_append]
  gi_wp2_with (fail)
  refine ⟨trivial, ?_⟩
  obtain ⟨W1, hW1⟩ : ∃ W1, ((w.alloc (.cells #[.slice A0 n0 c0, .slice A1 n1 c1, .slice A2 n2 c2, .slice A3 l.length c3, .slice A4 n4 c4] 25)).alloc (.cells #[.int .i64 most] 3)).alloc (.cells #[.slice none 0 0] 22) = W1 := ⟨_, rfl⟩
  have g3 : Boxed W1 (w.heap.size + 1) 3 (.int .i64 most) := by
    rw [← hW1]
    have := (Boxed.new (w.alloc (.cells #[.slice A0 n0 c0, .slice A1 n1 c1, .slice A2 n2 c2, .slice A3 l.length c3, .slice A4 n4 c4] 25)) 3 (.int .i64 most)).alloc (.cells #[.slice none 0 0] 22)
    simpa using this
  have g4 : Boxed W1 (w.heap.size + 1 + 1) 22 (.slice none 0 0) := by
    rw [← hW1]
    have := Boxed.new ((w.alloc (.cells #[.slice A0 n0 c0, .slice A1 n1 c1, .slice A2 n2 c2, .slice A3 l.length c3, .slice A4 n4 c4] 25)).alloc (.cells #[.int .i64 most] 3)) 22 (.slice none 0 0)
    simpa using this
  have hb1 : Below w.heap.size w W1 := by
    rw [← hW1]; exact below_alloc (below_alloc (below_alloc (Below.refl _ w) _) _) _
  have hs1 : W1.heap.size = w.heap.size + 3 := by rw [← hW1]; simp
  have hC1 := Kd.C_below HA.out hb1
  rw [hW1]
  clear hW1
  refine (callsIn_wide.2 (doms_calls A0 A1 A2 A3 A4 c0 c1 c2 c3 c4 n0 n1 n2 n4 l b W1 hC1 (by have := HL.out; omega))).mono ?_
  rintro e W2 ⟨B1, B2, P, d, rfl, hS, hb12⟩
  have hb2 := hb1.trans (hb12.mono (by omega))
  replace g3 := blk_below g3 hb12
  replace g4 := blk_below g4 hb12
  have hs2 : w.heap.size + 3 ≤ W2.heap.size := by have := hb12.size; omega
  have hlo1 := hS.lo1
  have hlo2 := hS.lo2
  rw [hs1] at hS hlo1 hlo2
  clear hC1 hb1 hb12 hs1
  gi_wp2_with (fail)
  obtain ⟨n5, hn5⟩ : ∃ n, W2.heap.size = n := ⟨_, rfl⟩
  obtain ⟨i0, hi, hz0, hz1, hz2⟩ := info_parts info3
  have HInf := Aside0.mk hi
  have HZ0 := Aside0.mk hz0
  have HZ1 := Aside0.mk hz1
  have HZ2 := Aside0.mk hz2
  clear hi hz0 hz1 hz2
  have hdl : (doms l l.length b).length ≤ l.length := doms_len l l.length b
  obtain ⟨ds, hds⟩ : ∃ ds, doms l l.length b = ds := ⟨_, rfl⟩
  rw [hds] at hdl
  have hBB : B1 < n5 ∧ B2 < n5 := ⟨by rw [← hn5]; exact blk_lt hS.b1, by rw [← hn5]; exact blk_lt hS.b2⟩
  have hSK : ∀ W', Range.KBut n5 (w.heap.size + 1 + 1) W2 W' → PGr.Seq W' (w.heap.size + 3) B1 B2 P d l b := fun W' h =>
    ⟨h.blk hS.b1 hBB.1 (by omega), h.blk hS.b2 hBB.2 (by omega), Kd.C_keep 0 hS.row (g := w.heap.size + 1 + 1) ⟨h.1, fun i hi hne _ => h.2 i (by omega) hne⟩ (fun ad e _ => by have := hS.lo ad e; omega), hlo1, hlo2, hS.lo⟩
  refine Range.rangeHK (Range.KBut n5 (w.heap.size + 1 + 1)) (fun h k => h.trans k) (Range.KBut.refl _ _) rfl (by decide) rfl trivial (enters_of Try.func19 (by kernel_rfl) rfl) (by simp)
    (above_stopsK (Range.KBut n5 (w.heap.size + 1 + 1)) (fun h k => h.trans k) Fence.wide 9 trivial rfl (by decide) B1 B2 (w.heap.size + 3) P d l b (by have := HL.out; omega) W2 hSK W2 (fun W hW => Range.KBut.of_below (hn5 ▸ hW))) (Range.KBut.put (by omega)) (Below.refl _ _)
    (fun pre W => (∃ v, Boxed W (w.heap.size + 1 + 1) 22 v ∧ W.ownsRow n5 3 1 v pre.length (pre.map (.int .i64)) ∧ True) ∧ (Below w.heap.size w W ∧ Range.KBut n5 (w.heap.size + 1 + 1) W2 W))
    (fun _ _ _ => False)
    (OwnFrom.and (Own.from (holdsRow_own n5 (w.heap.size + 1 + 1) 22 3 1 (fun (pre : List Int) => pre.length) (fun (pre : List Int) => pre.map (Value.int .i64)) (fun _ _ => True)) _) (OwnFrom.and (ownFrom_below (by omega) (by omega)) (Range.KBut.own (by omega) (by omega))))
    (fun _ _ _ _ _ hs _ _ => hs)
    ⟨⟨_, g4, World.ownsRow_nil _ _ _ _, trivial⟩, hb2, Range.KBut.refl _ _ _⟩ ?body ?done ?stop
  case stop =>
    rintro D c pre W _ _ h _
    exact h.elim
  case body =>
    rintro lp pre x W hlp - ⟨⟨v, hv, hrow, -⟩, hB, hKB⟩ hlt
    rw [hds] at hlt
    obtain ⟨A, c, rfl⟩ := row_slice hrow
    simp only [List.setIfInBounds_toArray, List.set_cons_succ, List.set_cons_zero]
    have hc := hv.cell
    have k3 := Boxed.cell (hKB.blk g3 (by omega) (by omega))
    have hsz := hKB.1
    have hpm : (pre.length : Int) < most := by omega
    gi_wp2_with (gi_at_builtin; refine wpListIn_append_own _ rfl _ _ 22 rfl n5 3 i0 (.int .i64 0) 1 8 Try.underlying22 HInf.out HZ0.out HZ1.out HZ2.out rfl (by decide) _ _ _ rfl (hrow.alloc _) ⟨W.heap.size, 0, none⟩ 1 1 [.int .i64 x] rfl rfl (cell_one_new _ _ _) (by simp [Value.oneCell']) (by have := HL.out; simp [maxLen]; omega) (by have := HL.out; omega) (by simp; omega) ?_; intro v' w1 hown' hgrow _; obtain ⟨g', cap', rfl⟩ := ownsRow_succ hown'; have hv1 : Boxed w1 (w.heap.size + 1 + 1) 22 (.slice A pre.length c) := (hv.alloc _).kept hgrow (hv.not_row (by decide) hrow); have hc1 := hv1.cell; have hf1 := hv1.frozen)
    obtain ⟨hv0, hv2, hr2, hk2, hb3⟩ := hv.appended (n₀ := w.heap.size) (by decide) (row_lower hrow (by omega)) (by omega) (by omega) (row_lower hown' (by omega)) hgrow
    have hr3 : (w1.setCell ⟨w.heap.size + 1 + 1, 0, none⟩ (.slice (some ⟨g', 0, none⟩) (pre.length + 1) cap')).ownsRow n5 3 1 (.slice (some ⟨g', 0, none⟩) (pre.length + 1) cap') (pre ++ [x]).length ((pre ++ [x]).map (Value.int .i64)) := by
      have := World.ownsRow.kept hown' (grownBy_setCell' w1 (w.heap.size + 1 + 1) (.slice (some ⟨g', 0, none⟩) (pre.length + 1) cap')) (.inr (hv1.not_row (by decide) hown').symm)
      simpa using this
    have hK2 : Range.KBut n5 (w.heap.size + 1 + 1) W (w1.setCell ⟨w.heap.size + 1 + 1, 0, none⟩ (.slice (some ⟨g', 0, none⟩) (pre.length + 1) cap')) := by
      refine Range.KBut.set ⟨by have := hgrow.size; simp at this; omega, fun k hk hne => ?_⟩ _ _
      have h1 := hgrow.block k (by simp; omega) (fun e => by
        have e' : some k = (Value.slice A pre.length c).ownBlock := e
        rcases hrow.2 with ⟨h0, _⟩ | ⟨g, cap, cur, h0, hge, _⟩
        · rw [h0] at e'; simp [Value.ownBlock] at e'
        · rw [h0] at e'; simp [Value.ownBlock] at e'; omega)
      exact h1.trans (Below.heap_alloc W _ k (by omega))
    exact ⟨hk2.from _, hK2, ⟨_, hv2, hr3, trivial⟩, hB.trans hb3, hKB.trans hK2⟩
  case done =>
    rintro D xs W hD e ⟨⟨v, hv, hrow, -⟩, hB, hKB⟩ hK
    rw [hds] at e
    subst e
    have hc := hv.cell
    have hDw : w.heap.size ≤ D := by omega
    gi_wp2_with (fail)
    refine ⟨by simp, .inl ⟨_, _, rfl, run_takeDeferred hK, ?_⟩⟩
    refine ⟨_, results_tmp rfl _ _ _, v, rfl, ?_, ?_⟩
    · rw [hds]
      have h2 := row_lower (base' := w.heap.size) (ownsRow_putObj hrow (.deferred none) hK rfl) (by omega)
      exact Kd.R_of_own h2 (fun _ _ => trivial)
    · exact hB.trans (belowK_b (w := w) (Nat.le_refl _) _ D _ _ hDw hK rfl rfl)
end Go.Proofs.Ytplppefpohjkbaa.Ask
