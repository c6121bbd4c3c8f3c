/- graph.Block: for every world. -/
import Derived.Test.YtplppefpohjkbaaHelp
namespace Go.Proofs.Ytplppefpohjkbaa.Ask
open Go.RowKit Go.Shelf Go.Proofs.Ytplppefpohjkbaa.PGr Go.Proofs.Ytplppefpohjkbaa.Lit Go.Proofs.Ytplppefpohjkbaa.OwnCells Go.Proofs.YtplppefpohjkbaaW.PrintWords Go.Proofs.YtplppefpohjkbaaW.PrintLast Go.Proofs.YtplppefpohjkbaaW.PrintMore
attribute [local go_sem] Oper.semAt_some
attribute [local go_sem] run_store_fn
attribute [local go_sem] run_eql_fn
set_option linter.unusedVariables false
set_option linter.unusedSimpArgs false
theorem results_cellI {fn : Func} {p : Tmp} (h : fn.results = #[.cell p 3]) (tmps : Array Value) (w : World) (ad : Addr) (v : Int) (hp : tmps.getD p undef = .pointer (some ad)) (hc : w.cell? ad = some (.int .i64 v)) : (results fn tmps).run Try.prog w = .ok (.int .i64 v) w := by
  have hp' : tmps[p]?.getD undef = .pointer (some ad) := gdq _ _ _ hp
  simp [results, h, hp', asAddr]
  go_simp
/-- the block in which an instruction stands -/
def blockAt (pc : Int) : List (Int × Int) → Int
  | [] => -1
  | x :: r => if x.2 ≤ pc then x.1 else blockAt pc r
def NoneLe (pc : Int) (l : List (Int × Int)) : Prop := ∀ x ∈ l, ¬ x.2 ≤ pc
def Hit (pc : Int) (l : List (Int × Int)) : Prop := ∃ ys x, l = ys ++ [x] ∧ NoneLe pc ys ∧ x.2 ≤ pc
theorem blockAt_append (pc : Int) : ∀ (l r : List (Int × Int)), NoneLe pc l → blockAt pc (l ++ r) = blockAt pc r
  | [], _, _ => rfl
  | x :: l, r, h => by
    rw [List.cons_append, blockAt, if_neg (h x List.mem_cons_self), blockAt_append pc l r (fun y hy => h y (List.mem_cons_of_mem _ hy))]
set_option maxRecDepth 100000 in
set_option maxHeartbeats 4000000 in
theorem block_calls (A0 A1 A2 A3 A4 : Option Addr) (c0 c1 c2 c3 c4 n1 n2 n3 n4 : Nat) (l : List Int) (pc : Int) (w : World) (hA : (Kd.int .i64).C w A0 l.length l) (hl : l.length < 9223372036854775807) :
    Calls Try.prog 11 #[.agg #[.slice A0 l.length c0, .slice A1 n1 c1, .slice A2 n2 c2, .slice A3 n3 c3, .slice A4 n4 c4], .int .i64 pc] w fun e w' => e = .returned (.int .i64 (blockAt pc (back l l.length))) ∧ Below w.heap.size w w' := by
  have HA := Aside0.mk hA
  have HL := Aside0.mk hl
  clear hA hl
  refine (callsIn_wide (n := 10)).1 ?_
  refine callsIn_of_wp_marks Try.func11 rfl trivial ?_ rfl
  simp only [Try.ntmps11, List.size_toArray, List.length_cons, List.length_nil, Nat.reduceAdd, Nat.reduceSub, Array.replicate_succ, Array.replicate_zero, List.push_toArray, List.append_toArray, List.nil_append, List.cons_append]
  gi_wp2_with (fail)
  refine ⟨trivial, ?_⟩
  refine (callsIn_wide.2 (backward_calls A0 c0 l _)).mono ?_
  rintro e w1 ⟨rfl, rfl⟩
  obtain ⟨W1, hW1⟩ : ∃ W1, ((w.alloc (.cells #[.slice A0 l.length c0, .slice A1 n1 c1, .slice A2 n2 c2, .slice A3 n3 c3, .slice A4 n4 c4] 25)).alloc (.cells #[.int .i64 pc] 3)).alloc (.cells #[.int .i64 0] 3) = W1 := ⟨_, rfl⟩
  have g3 : Boxed W1 (w.heap.size + 1) 3 (.int .i64 pc) := by
    rw [← hW1]
    have := (Boxed.new (w.alloc (.cells #[.slice A0 l.length c0, .slice A1 n1 c1, .slice A2 n2 c2, .slice A3 n3 c3, .slice A4 n4 c4] 25)) 3 (.int .i64 pc)).alloc (.cells #[.int .i64 0] 3)
    simpa using this
  have g4 : Boxed W1 (w.heap.size + 1 + 1) 3 (.int .i64 0) := by
    rw [← hW1]
    have := Boxed.new ((w.alloc (.cells #[.slice A0 l.length c0, .slice A1 n1 c1, .slice A2 n2 c2, .slice A3 n3 c3, .slice A4 n4 c4] 25)).alloc (.cells #[.int .i64 pc] 3)) 3 (.int .i64 0)
    simpa using this
  have hb1 : Below w.heap.size w W1 := by
    rw [← hW1]; exact below_alloc (below_alloc (below_alloc (Below.refl _ w) _) _) _
  have hs1 : W1.heap.size = w.heap.size + 3 := by rw [← hW1]; simp
  rw [hW1]
  clear hW1
  have g5 : Boxed (W1.alloc (.cells #[.slice A0 l.length c0] 22)) W1.heap.size 22 (.slice A0 l.length c0) := Boxed.new W1 22 _
  have g3' := g3.alloc (.cells #[.slice A0 l.length c0] 22)
  have g4' := g4.alloc (.cells #[.slice A0 l.length c0] 22)
  have hC1 := Kd.C_below HA.out (below_alloc hb1 (.cells #[.slice A0 l.length c0] 22))
  have hb2 : Below w.heap.size w (W1.alloc (.cells #[.slice A0 l.length c0] 22)) := below_alloc hb1 _
  have hs2 : (W1.alloc (.cells #[.slice A0 l.length c0] 22)).heap.size = w.heap.size + 4 := by simp [hs1]
  clear g3 g4 hb1
  revert g5 g3' g4' hC1 hb2 hs2
  generalize W1.alloc (.cells #[.slice A0 l.length c0] 22) = W2
  intro g5 g3 g4 hC1 hb2 hs2
  rw [hs1] at g5 ⊢
  clear hs1
  gi_wp2_with (fail)
  refine Range.range2HB (w.heap.size + 4) rfl (by decide) rfl trivial (enters_of Try.func20 (by kernel_rfl) rfl) (by simp) (by simp) (by decide) (by decide)
    (back_stops Fence.wide 9 trivial rfl (by decide) (w.heap.size + 3) (w.heap.size + 4) A0 c0 l HL.out W2 (fun W' h => ⟨blk_in h g5 (by omega), Kd.C_below hC1 (h.mono (by omega))⟩) W2 (Below.refl _ _) (by omega)) (by omega) (Below.refl _ _)
    (fun pre W => Below (w.heap.size + 4) W2 W ∧ NoneLe pc pre)
    (fun c pre W => Boxed W (w.heap.size + 1 + 1) 3 (.int .i64 ((pre.getLast?.getD (0, 0)).1)) ∧ (Below w.heap.size w W ∧ (c = .ret ∧ Hit pc pre)))
    (OwnFrom.and (ownFrom_below (by omega) (by omega)) (ownFrom_pure _ _))
    (fun c => OwnFrom.and (Own.from (boxed_own _ _ _) _) (OwnFrom.and (ownFrom_below (by omega) (by omega)) (ownFrom_pure _ _)))
    ⟨Below.refl _ _, fun _ h => by cases h⟩ ?body ?done ?stop
  case body =>
    rintro lp pre x W hlp - ⟨hB, hpre⟩ hlt
    simp only [List.setIfInBounds_toArray, List.set_cons_succ, List.set_cons_zero]
    have k3 := Boxed.cell (blk_in hB g3 (by omega))
    have g4W := blk_in hB g4 (by omega)
    have k4 := Boxed.cell g4W
    have f4 := Boxed.frozen g4W
    by_cases hx : x.2 ≤ pc
    · gi_wp2_with (fail)
      exact ⟨(KeepsOthers.setCell _ _ _).from _, by simpa using Boxed.set (W := W) (.int .i64 x.1) g4W, (hb2.trans (hB.mono (by omega))).setCell (p := ⟨w.heap.size + 1 + 1, 0, none⟩) (by simp; omega) _, rfl, pre, x, rfl, hpre, hx⟩
    · have hx' : pc < x.2 := by omega
      gi_wp2_with (fail)
      refine ⟨KeepsFrom.refl _ _, Below.refl _ _, hB, ?_⟩
      intro y hy
      rcases List.mem_append.1 hy with h | h
      · exact hpre y h
      · rw [List.mem_singleton.1 h]; exact Int.not_le.2 hx
  case done =>
    rintro D xs W hD rfl ⟨hB, hpre⟩ hK
    have g4W := blk_in hB g4 (by omega)
    have k4 := Boxed.cell g4W
    have f4 := Boxed.frozen g4W
    gi_wp2_with (fail)
    have hx : Boxed (W.setCell ⟨w.heap.size + 1 + 1, 0, none⟩ (.int .i64 (-1))) (w.heap.size + 1 + 1) 3 (.int .i64 (-1)) := Boxed.set (W := W) (.int .i64 (-1)) g4W
    have hK' : (W.setCell ⟨w.heap.size + 1 + 1, 0, none⟩ (.int .i64 (-1))).heap[D]? = some (.deferred (some [])) := (Below.heap_setCell W ⟨w.heap.size + 1 + 1, 0, none⟩ (.int .i64 (-1)) D (by simp; omega)).trans hK
    have hx2 : Boxed ((W.setCell ⟨w.heap.size + 1 + 1, 0, none⟩ (.int .i64 (-1))).putObj D (.deferred none)) (w.heap.size + 1 + 1) 3 (.int .i64 (-1)) := (World.putObj_heap_other (by omega)).trans hx
    refine ⟨by simp, .inl ⟨_, _, rfl, run_takeDeferred hK', ?_⟩⟩
    refine ⟨_, results_cellI rfl _ _ ⟨w.heap.size + 1 + 1, 0, none⟩ (-1) rfl hx2.cell, ?_, ?_⟩
    · have := blockAt_append pc (back l l.length) [] hpre
      rw [List.append_nil] at this
      rw [this]; rfl
    · exact ((hb2.trans (hB.mono (by omega))).setCell (p := ⟨w.heap.size + 1 + 1, 0, none⟩) (by simp; omega) _).trans (belowK_b (w := w) (Nat.le_refl _) _ D _ _ (by omega) hK' rfl rfl)
  case stop =>
    rintro D c pre W hD hpx ⟨hx, hB, rfl, ys, x, rfl, hys, hxp⟩ hK
    gi_wp2_with (fail)
    have hx2 : Boxed (W.putObj D (.deferred none)) (w.heap.size + 1 + 1) 3 (.int .i64 x.1) := (World.putObj_heap_other (by omega)).trans (by have h := hx; simp only [List.getLast?_append, List.getLast?_singleton, Option.some_or, Option.getD_some] at h; exact h)
    refine ⟨by simp, .inl ⟨_, _, rfl, run_takeDeferred hK, ?_⟩⟩
    refine ⟨_, results_cellI rfl _ _ ⟨w.heap.size + 1 + 1, 0, none⟩ x.1 rfl hx2.cell, ?_, ?_⟩
    · obtain ⟨r, hr⟩ := hpx
      rw [← hr, List.append_assoc, blockAt_append pc ys _ hys]
      simp [blockAt, hxp]
    · exact hB.trans (belowK_b (w := w) (Nat.le_refl _) _ D _ _ (by omega) hK rfl rfl)
end Go.Proofs.Ytplppefpohjkbaa.Ask
