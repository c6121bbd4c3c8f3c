/- graph.Dominates: for every world. -/
import Derived.Test.YtplppefpohjkbaaHelp
namespace Go.Proofs.Ytplppefpohjkbaa.Ask
open Go.RowKit Go.Shelf Go.Proofs.Ytplppefpohjkbaa.PGr Go.Proofs.Ytplppefpohjkbaa.Lit Go.Proofs.Ytplppefpohjkbaa.OwnCells Go.Proofs.YtplppefpohjkbaaW.PrintWords Go.Proofs.YtplppefpohjkbaaW.PrintLast Go.Proofs.YtplppefpohjkbaaW.PrintMore
attribute [local go_sem] Oper.semAt_some
attribute [local go_sem] run_store_fn
attribute [local go_sem] run_eql_fn
set_option linter.unusedVariables false
set_option linter.unusedSimpArgs false
set_option maxRecDepth 100000 in
set_option maxHeartbeats 4000000 in
theorem dominates_calls (A0 A1 A2 A3 A4 : Option Addr) (c0 c1 c2 c3 c4 n0 n1 n2 n4 : Nat) (l : List Int) (a b : Int) (w : World) (hA : (Kd.int .i64).C w A3 l.length l) (hl : l.length < 9223372036854775807) :
    Calls Try.prog 13 #[.agg #[.slice A0 n0 c0, .slice A1 n1 c1, .slice A2 n2 c2, .slice A3 l.length c3, .slice A4 n4 c4], .int .i64 a, .int .i64 b] w fun e w' => e = .returned (.bool (decide (a ∈ doms l l.length b))) ∧ Below w.heap.size w w' := by
  have HA := Aside0.mk hA
  have HL := Aside0.mk hl
  clear hA hl
  refine (callsIn_wide (n := 10)).1 ?_
  refine callsIn_of_wp_marks Try.func13 rfl trivial ?_ rfl
  simp only [Try.ntmps13, List.size_toArray, List.length_cons, List.length_nil, Nat.reduceAdd, Nat.reduceSub, Array.replicate_succ, Array.replicate_zero, List.push_toArray, List.append_toArray, List.nil_append, List.cons_append]
  gi_wp2_with (fail)
  refine ⟨trivial, ?_⟩
  obtain ⟨W1, hW1⟩ : ∃ W1, ((w.alloc (.cells #[.slice A0 n0 c0, .slice A1 n1 c1, .slice A2 n2 c2, .slice A3 l.length c3, .slice A4 n4 c4] 25)).alloc (.cells #[.int .i64 a] 3)).alloc (.cells #[.bool false] 4) = W1 := ⟨_, rfl⟩
  have g3 : Boxed W1 (w.heap.size + 1) 3 (.int .i64 a) := by
    rw [← hW1]
    have := (Boxed.new (w.alloc (.cells #[.slice A0 n0 c0, .slice A1 n1 c1, .slice A2 n2 c2, .slice A3 l.length c3, .slice A4 n4 c4] 25)) 3 (.int .i64 a)).alloc (.cells #[.bool false] 4)
    simpa using this
  have g4 : Boxed W1 (w.heap.size + 1 + 1) 4 (.bool false) := by
    rw [← hW1]
    have := Boxed.new ((w.alloc (.cells #[.slice A0 n0 c0, .slice A1 n1 c1, .slice A2 n2 c2, .slice A3 l.length c3, .slice A4 n4 c4] 25)).alloc (.cells #[.int .i64 a] 3)) 4 (.bool false)
    simpa using this
  have hb1 : Below w.heap.size w W1 := by
    rw [← hW1]; exact below_alloc (below_alloc (below_alloc (Below.refl _ w) _) _) _
  have hs1 : W1.heap.size = w.heap.size + 3 := by rw [← hW1]; simp
  have hC1 := Kd.C_below HA.out hb1
  rw [hW1]
  clear hW1
  refine (callsIn_wide.2 (above_calls 0 A3 c3 l b W1 hC1 (Nat.zero_le _) (fun _ _ => Nat.zero_le _))).mono ?_
  rintro e W2 ⟨B1, B2, rfl, hS, hb12⟩
  have hb2 := hb1.trans (hb12.mono (by omega))
  replace g3 := blk_below g3 hb12
  replace g4 := blk_below g4 hb12
  have hs2 : w.heap.size + 3 ≤ W2.heap.size := by have := hb12.size; omega
  clear hC1 hb1 hb12 hs1
  gi_wp2_with (fail)
  obtain ⟨n0, hn0⟩ : ∃ n, W2.heap.size = n := ⟨_, rfl⟩
  rw [hn0] at hs2
  refine Range.rangeH n0 rfl (by decide) rfl trivial (enters_of Try.func19 (by kernel_rfl) rfl) (by simp)
    (above_stops Fence.wide 9 trivial rfl (by decide) B1 B2 n0 0 A3 c3 l b HL.out W2 (fun W' h => hS.below (h.mono (by omega))) W2 (Below.refl _ _) (by omega)) (by omega) (Below.refl _ _)
    (fun pre W => Below n0 W2 W ∧ a ∉ pre)
    (fun c pre W => Boxed W (w.heap.size + 1 + 1) 4 (.bool true) ∧ (Below w.heap.size w W ∧ (c = .ret ∧ a ∈ pre)))
    (OwnFrom.and (ownFrom_below (by omega) (by omega)) (ownFrom_pure _ _))
    (fun c => OwnFrom.and (Own.from (boxed_own _ _ (fun _ => Value.bool true)) _) (OwnFrom.and (ownFrom_below (by omega) (by omega)) (ownFrom_pure _ _)))
    ⟨Below.refl _ _, by simp⟩ ?body ?done ?stop
  case body =>
    rintro lp pre x W hlp - ⟨hB, hpre⟩ hlt
    simp only [List.setIfInBounds_toArray, List.set_cons_succ, List.set_cons_zero]
    have k3 := Boxed.cell (blk_in hB g3 (by omega))
    have g4W := blk_in hB g4 (by omega)
    have k4 := Boxed.cell g4W
    have f4 := Boxed.frozen g4W
    have HP := Aside0.mk hpre
    clear hpre
    by_cases hx : x = a
    · gi_wp2_with (fail)
      exact ⟨(KeepsOthers.setCell _ _ _).from _, Boxed.set (W := W) (.bool true) g4W, (hb2.trans (hB.mono (by omega))).setCell (p := ⟨w.heap.size + 1 + 1, 0, none⟩) (by simp; omega) _, rfl, by simp [hx]⟩
    · gi_wp2_with (fail)
      refine ⟨KeepsFrom.refl _ _, Below.refl _ _, hB, ?_⟩
      have := HP.out
      simp only [List.mem_append, List.mem_singleton]
      intro h
      rcases h with h | h
      · exact this h
      · exact hx h.symm
  case done =>
    rintro D xs W hD rfl ⟨hB, hpre⟩ hK
    have g4W := blk_in hB g4 (by omega)
    have k4 := Boxed.cell g4W
    have f4 := Boxed.frozen g4W
    have HP := Aside0.mk hpre
    clear hpre
    gi_wp2_with (fail)
    have hx : Boxed (W.setCell ⟨w.heap.size + 1 + 1, 0, none⟩ (.bool false)) (w.heap.size + 1 + 1) 4 (.bool false) := Boxed.set (W := W) (.bool false) g4W
    have hK' : (W.setCell ⟨w.heap.size + 1 + 1, 0, none⟩ (.bool false)).heap[D]? = some (.deferred (some [])) := (Below.heap_setCell W ⟨w.heap.size + 1 + 1, 0, none⟩ (.bool false) D (by simp; omega)).trans hK
    have hx2 : Boxed ((W.setCell ⟨w.heap.size + 1 + 1, 0, none⟩ (.bool false)).putObj D (.deferred none)) (w.heap.size + 1 + 1) 4 (.bool false) := (World.putObj_heap_other (by omega)).trans hx
    refine ⟨by simp, .inl ⟨_, _, rfl, run_takeDeferred hK', ?_⟩⟩
    refine ⟨_, results_cell1 rfl _ _ ⟨w.heap.size + 1 + 1, 0, none⟩ false rfl hx2.cell, ?_, ?_⟩
    · have := HP.out
      simp [this]
    · exact ((hb2.trans (hB.mono (by omega))).setCell (p := ⟨w.heap.size + 1 + 1, 0, none⟩) (by simp; omega) _).trans (belowK_b (w := w) (Nat.le_refl _) _ D _ _ (by omega) hK' rfl rfl)
  case stop =>
    rintro D c pre W hD hpx ⟨hx, hB, rfl, hm⟩ hK
    gi_wp2_with (fail)
    have hx2 : Boxed (W.putObj D (.deferred none)) (w.heap.size + 1 + 1) 4 (.bool true) := (World.putObj_heap_other (by omega)).trans hx
    refine ⟨by simp, .inl ⟨_, _, rfl, run_takeDeferred hK, ?_⟩⟩
    refine ⟨_, results_cell1 rfl _ _ ⟨w.heap.size + 1 + 1, 0, none⟩ true rfl hx2.cell, ?_, ?_⟩
    · rw [decide_eq_true (hpx.subset hm)]
    · exact hB.trans (belowK_b (w := w) (Nat.le_refl _) _ D _ _ (by omega) hK rfl rfl)
end Go.Proofs.Ytplppefpohjkbaa.Ask
