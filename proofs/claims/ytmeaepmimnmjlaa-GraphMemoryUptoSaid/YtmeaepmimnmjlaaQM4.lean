/- GraphMemory, the row: the law returns true, and the input reads as it did. For every input of a bulk of at most 1048576. -/
import Derived.Test.YtmeaepmimnmjlaaQM3
import Derived.Test.YtmeaepmimnmjlaaRows
-- written by a program of this session (leafprint.py, cutsec.py) over the translation; Lean checks it
namespace Go.Proofs.Ytmeaepmimnmjlaa.PGb
open Go.RowKit Go.Proofs.YtmeaepmimnmjlaaW.PrintWords Go.Proofs.YtmeaepmimnmjlaaW.PrintLast Go.Proofs.YtmeaepmimnmjlaaW.PrintMore
attribute [local go_sem] max2_int min2_int max_two min_two max_three min_three max_four min_four   -- for this text's walks alone
set_option linter.unusedVariables false
set_option linter.unusedSimpArgs false

/-! ### portageref0_CopyInstrs: function 54 -/
def portageref0_CopyInstrs.l0 : Nat → List (S40) → List (S40) → Int → Option ((List (S40)))
  | 0, _, _, _ => none
  | k + 1, x0, x3, x4 => if x4 < (x0.length : Int) then (if 0 ≤ x4 then (if x3.length < 8796093022208 then (portageref0_CopyInstrs.l0 k x0 (x3 ++ [(⟨(rd_T40 x0 x4).f0, (rd_T40 x0 x4).f1⟩ : S40)]) (wrap64 (x4 + 1))) else (none)) else (none)) else (some x3)
def portageref0_CopyInstrs.f (k : Nat) (l0 : List (S40)) : Option ((List (S40))) := portageref0_CopyInstrs.l0 k l0 ([] : List (S40)) 0
theorem portageref0_CopyInstrs.mono_l : ∀ k, (∀ y0 y1 y2, LeO (portageref0_CopyInstrs.l0 k y0 y1 y2) (portageref0_CopyInstrs.l0 (k + 1) y0 y1 y2))
  | 0 => fun _ _ _ r h => by simp [portageref0_CopyInstrs.l0] at h
  | k + 1 => by
    have ih0 := portageref0_CopyInstrs.mono_l k
    · intro y0 y1 y2
      unfold portageref0_CopyInstrs.l0
      repeat' first
      | (with_reducible exact ih0 _ _ _)
      | (with_reducible exact LeO.refl _)
      | (with_reducible exact LeO.none _)
      | (with_reducible refine LeO.ite ?_ ?_)
      | (with_reducible refine LeO.bind ?_ (fun _ => ?_))
      | exact ih0 _ _ _
      | exact LeO.none _
      | refine LeO.ite ?_ ?_
      | refine LeO.bind ?_ (fun _ => ?_)
theorem portageref0_CopyInstrs.mono : ∀ a0 k, LeO (portageref0_CopyInstrs.f k a0) (portageref0_CopyInstrs.f (k + 1) a0) := by
 intro a0 k; have ih0 := portageref0_CopyInstrs.mono_l k; unfold portageref0_CopyInstrs.f; repeat' first
  | (with_reducible exact ih0 _ _ _)
  | (with_reducible exact LeO.refl _)
  | (with_reducible exact LeO.none _)
  | (with_reducible refine LeO.ite ?_ ?_)
  | (with_reducible refine LeO.bind ?_ (fun _ => ?_))
  | exact ih0 _ _ _
  | exact LeO.none _
  | refine LeO.ite ?_ ?_
  | refine LeO.bind ?_ (fun _ => ?_)
set_option maxHeartbeats 8000000 in
set_option maxRecDepth 100000 in
theorem portageref0_CopyInstrs.calls (k : Nat) (A0 : Option Addr) (c0 : Nat) (l0 : List (S40)) (r : List (S40)) (w : World) (hr0 : Kd.C k40 w A0 l0.length l0) (hc0 : l0.length ≤ c0) (h : portageref0_CopyInstrs.f k l0 = some r) :
    Calls Try.prog 54 #[.slice A0 l0.length c0] w fun e w' => ∃ v0_ : Value, e = .returned (v0_) ∧ Kd.R k40 40 w' w.heap.size (fun _ => True) v0_ r ∧ Below w.heap.size w w' := by
 have hu40 := Try.underlying40; have HR0 := Aside0.mk hr0; have HC0 := Aside0.mk hc0; clear hr0 hc0; have HB := Aside0.mk (Below.refl w.heap.size w); have H : (portageref0_CopyInstrs.l0 k l0 ([] : List (S40)) 0) = some r := h; clear h; have H' := Aside0.mk H; clear H; go_enter Try.func54, Try.ntmps54; go_wp2; go_loopg [3, 4] k (fun kq v3 v4 w' => ∃ (x3_1 : List (S40)) (x4_1 : Int), v4 = .int .i64 x4_1 ∧ Aside0 (portageref0_CopyInstrs.l0 kq l0 x3_1 x4_1 = some r) ∧ Aside0 (kq ≤ k) ∧ Aside0 (Kd.R k40 40 w' w.heap.size (fun _ => True) v3 x3_1) ∧ Aside0 (Below w.heap.size w w'))
 case atStart => exact ⟨(([] : List (S40))), (0), (by first | rfl | (simp; done) | (simp [*]; done)), H', ⟨Nat.le_refl _⟩, ⟨by first | exact Kd.R_nil _ _ _ _ _ | exact Kd.N_nil _ _ _ _ _ | exact Kd.V_nil _ _ _ _ _ | exact Kd.Q_nil _ _ _ _ _ | exact Kd.S_nil _ _ _ _ _⟩, ⟨by repeat (first | (with_reducible first | exact HB.out | apply below_alloc | apply pw_below_drewN | apply below_drew1) | exact HB.out)⟩⟩
 case round =>
  clear H'; obtain ⟨x3_1, x4_1, rfl, HA, HK1, HO_3, HB⟩ := hrel
  cases gk with
  | zero => exact absurd HA.out (by simp [portageref0_CopyInstrs.l0])
  | succ k1 =>
   have H := HA.out; clear HA; simp only [portageref0_CopyInstrs.l0] at H
   by_cases c2 : x4_1 < (l0.length : Int)
   ·rw [if_pos c2] at H; have c2b0 : decide (x4_1 < (l0.length : Int)) = true := decide_eq_true c2; clear c2
    by_cases c3 : 0 ≤ x4_1
    ·rw [if_pos c3] at H; have c3b0 : decide (0 ≤ x4_1) = true := decide_eq_true c3; clear c3
     by_cases c4 : x3_1.length < 8796093022208
     ·rw [if_pos c4] at H; have LMc4 := Aside0.mk c4; clear c4; obtain ⟨y234, hy234⟩ : ∃ y_ : List (S40), y_ = (x3_1 ++ [(⟨(rd_T40 l0 x4_1).f0, (rd_T40 l0 x4_1).f1⟩ : S40)]) := ⟨_, rfl⟩; replace H : (portageref0_CopyInstrs.l0 k1 l0 y234 (wrap64 (x4_1 + 1))) = some r := by first | (rw [hy234]; with_reducible exact H) | (have H2_ := (Option.bind_some _ _).symm.trans H; rw [hy234]; with_reducible exact H2_) | (have H2_ := (Option.bind_some _ _).symm.trans H; with_reducible exact H2_) | with_reducible exact H | (rw [hy234]; exact H) | exact H
      have Ny234 := Aside0.mk hy234; clear hy234; have H' := Aside0.mk H; clear H; have p233 : 0 ≤ (x4_1 : Int) := of_decide_eq_true (by first | (with_reducible assumption) | assumption); have q233 : x4_1 < (l0.length : Int) := of_decide_eq_true (by first | (with_reducible assumption) | assumption); obtain ⟨ad233, e233, hx233_0, hx233_1⟩ := at_T40 HR0.out x4_1 p233 q233
      cases e233; replace hx233_0 := (HB.out.cell (World.block_lt_of_cell? w _ hx233_0)).trans hx233_0; replace hx233_1 := (HB.out.cell (World.block_lt_of_cell? w _ hx233_1)).trans hx233_1; replace p233 := eq_true p233; replace q233 := eq_true q233; go_wp2_with (first | ((with_reducible refine gate_builtin (b := .append) (xs := #[.tmp 11, .tmp 16]) rfl ?_); at_builtin; refine Kd.R_append k40 (w0 := w) w.heap.size rfl (.tmp 11) (.tmp 16) 22 40 (.agg #[(.int .i64 0), (.int .i64 0)]) 16 rfl Try.underlying22 info40 rfl (by decide) (by omega) u3 x3_1 (⟨(rd_T40 l0 x4_1).f0, (rd_T40 l0 x4_1).f1⟩ : S40) [.int .i64 ((rd_T40 l0 x4_1).f0), .int .i64 ((rd_T40 l0 x4_1).f1)] (fun _ => True) (fun _ => False) rfl rfl ?aP (fun _ hk => hk.elim) ?aF ?aO ?aB ?aS ?aL ?_; (case aP => exact k40_mkM _ _ _ (⟨(rd_T40 l0 x4_1).f0, (rd_T40 l0 x4_1).f1⟩ : S40)); (case aB => exact (by repeat (first | (with_reducible first | exact HB.out | apply below_alloc | apply pw_below_drewN | apply below_drew1) | exact HB.out))); (case aF => exact (fun _ _ => trivial)); (case aO => exact (by (with_reducible repeat (first | apply Kd.R_alloc | apply Kd.R_drewN | apply Kd.R_drew)); exact HO_3.out)); (case aS => exact (below_size (by repeat (first | (with_reducible first | exact HB.out | apply below_alloc | apply pw_below_drewN | apply below_drew1) | exact HB.out)))); (case aL => have := LMc4.out; omega); intro v235 w5 ho hb hg hat; rw [← Ny234.out] at ho; have n0_ := Aside0.mk (hb); have n1_ := Aside0.mk (ho); clear HB; clear HO_3; have HB := n0_; have HO236 := n1_; clear n0_ n1_; clear ho hb hg hat))
      go_roundg k1
      case measure => have := HK1.out; omega
      case rel => exact ⟨(y234), (wrap64 (x4_1 + 1)), (by first | rfl | (simp; done) | (simp [*]; done)), H', ⟨by have := HK1.out; omega⟩, ⟨by (with_reducible repeat (first | apply Kd.R_alloc | apply Kd.R_drewN | apply Kd.R_drew)); exact HO236.out⟩, ⟨by repeat (first | (with_reducible first | exact HB.out | apply below_alloc | apply pw_below_drewN | apply below_drew1) | exact HB.out)⟩⟩
     ·rw [if_neg c4] at H
      exact absurd H (by simp)
    ·rw [if_neg c3] at H
     exact absurd H (by simp)
   ·rw [if_neg c2] at H; have c2b0 : decide (x4_1 < (l0.length : Int)) = false := decide_eq_false c2; clear c2; obtain rfl := Option.some.inj H; go_wp2; go_ret; exact ⟨_, by first | rfl | (simp [errW_none, errW_some] <;> rfl) | (simp [*, errW_none, errW_some] <;> rfl), by (with_reducible repeat (first | apply Kd.R_alloc | apply Kd.R_drewN | apply Kd.R_drew)); exact HO_3.out, by repeat (first | (with_reducible first | exact HB.out | apply below_alloc | apply pw_below_drewN | apply below_drew1) | exact HB.out)⟩
/-! ### portageref0_CopyFunction: function 17 -/
def portageref0_CopyFunction.l0 : Nat → List (S49) → Int → ByteArray → Int → Int → List (S40) → List (S49) → ByteArray → Int → Int → List (S40) → List (S49) → Option (ByteArray × Int × Int × (List (S40)) × (List (S49)))
  | 0, _, _, _, _, _, _, _, _, _, _, _, _ => none
  | k + 1, x4, x5, x238000, x238001, x238002, x238003, x238004, x240000, x240001, x240002, x240003, x240004 => if x5 < (x238004.length : Int) then (if 0 ≤ x5 then (if x4.length < 4398046511104 then (portageref0_CopyFunction.l0 k (x4 ++ [(⟨(rd_T49 x238004 x5).f0, (rd_T49 x238004 x5).f1, (rd_T49 x238004 x5).f2, (rd_T49 x238004 x5).f3⟩ : S49)]) (wrap64 (x5 + 1)) x238000 x238001 x238002 x238003 x238004 x240000 x240001 x240002 x240003 x240004) else (none)) else (none)) else (some (x240000, x240001, x240002, x240003, x4))
def portageref0_CopyFunction.f (k : Nat) (a0_0 : ByteArray) (a0_1 : Int) (a0_2 : Int) (l0_3 : List (S40)) (l0_4 : List (S49)) : Option (ByteArray × Int × Int × (List (S40)) × (List (S49))) := (portageref0_CopyInstrs.f k l0_3).bind fun t240 => (portageref0_CopyFunction.l0 k ([] : List (S49)) 0 a0_0 a0_1 a0_2 l0_3 l0_4 a0_0 a0_1 a0_2 t240 l0_4)
theorem portageref0_CopyFunction.mono_l : ∀ k, (∀ y0 y1 y2 y3 y4 y5 y6 y7 y8 y9 y10 y11, LeO (portageref0_CopyFunction.l0 k y0 y1 y2 y3 y4 y5 y6 y7 y8 y9 y10 y11) (portageref0_CopyFunction.l0 (k + 1) y0 y1 y2 y3 y4 y5 y6 y7 y8 y9 y10 y11))
  | 0 => fun _ _ _ _ _ _ _ _ _ _ _ _ r h => by simp [portageref0_CopyFunction.l0] at h
  | k + 1 => by
    have ih0 := portageref0_CopyFunction.mono_l k
    · intro y0 y1 y2 y3 y4 y5 y6 y7 y8 y9 y10 y11
      unfold portageref0_CopyFunction.l0
      repeat' first
      | (with_reducible exact ih0 _ _ _ _ _ _ _ _ _ _ _ _)
      | (with_reducible exact portageref0_CopyInstrs.mono _ _)
      | (with_reducible exact LeO.refl _)
      | (with_reducible exact LeO.none _)
      | (with_reducible refine LeO.ite ?_ ?_)
      | (with_reducible refine LeO.bind ?_ (fun _ => ?_))
      | exact ih0 _ _ _ _ _ _ _ _ _ _ _ _
      | exact portageref0_CopyInstrs.mono _ _
      | exact LeO.none _
      | refine LeO.ite ?_ ?_
      | refine LeO.bind ?_ (fun _ => ?_)
theorem portageref0_CopyFunction.mono : ∀ a0 a1 a2 a3 a4 k, LeO (portageref0_CopyFunction.f k a0 a1 a2 a3 a4) (portageref0_CopyFunction.f (k + 1) a0 a1 a2 a3 a4) := by
 intro a0 a1 a2 a3 a4 k; have ih0 := portageref0_CopyFunction.mono_l k; unfold portageref0_CopyFunction.f; repeat' first
  | (with_reducible exact ih0 _ _ _ _ _ _ _ _ _ _ _ _)
  | (with_reducible exact portageref0_CopyInstrs.mono _ _)
  | (with_reducible exact LeO.refl _)
  | (with_reducible exact LeO.none _)
  | (with_reducible refine LeO.ite ?_ ?_)
  | (with_reducible refine LeO.bind ?_ (fun _ => ?_))
  | exact ih0 _ _ _ _ _ _ _ _ _ _ _ _
  | exact portageref0_CopyInstrs.mono _ _
  | exact LeO.none _
  | refine LeO.ite ?_ ?_
  | refine LeO.bind ?_ (fun _ => ?_)
set_option maxHeartbeats 8000000 in
set_option maxRecDepth 100000 in
theorem portageref0_CopyFunction.calls (k : Nat) (a0_0 : ByteArray) (a0_1 : Int) (a0_2 : Int) (A0_3 : Option Addr) (c0_3 : Nat) (l0_3 : List (S40)) (A0_4 : Option Addr) (c0_4 : Nat) (l0_4 : List (S49)) (r1 : ByteArray) (r2 : Int) (r3 : Int) (r4 : List (S40)) (r5 : List (S49)) (w : World) (hr0_3 : Kd.C k40 w A0_3 l0_3.length l0_3) (hc0_3 : l0_3.length ≤ c0_3) (hr0_4 : Kd.C k49 w A0_4 l0_4.length l0_4) (hc0_4 : l0_4.length ≤ c0_4) (h : portageref0_CopyFunction.f k a0_0 a0_1 a0_2 l0_3 l0_4 = some (r1, r2, r3, r4, r5)) :
    Calls Try.prog 17 #[.agg #[.string a0_0, .int .i64 a0_1, .int .i64 a0_2, .slice A0_3 l0_3.length c0_3, .slice A0_4 l0_4.length c0_4]] w fun e w' => ∃ v3_ v4_ : Value, e = .returned (.agg #[.string r1, .int .i64 r2, .int .i64 r3, v3_, v4_]) ∧ Kd.R k40 40 w' w.heap.size (fun _ => True) v3_ r4 ∧ Kd.R k49 49 w' w.heap.size (fun _ => True) v4_ r5 ∧ Below w.heap.size w w' := by
 have hu25 := Try.underlying25; have hu49 := Try.underlying49; have HR0_3 := Aside0.mk hr0_3; have HC0_3 := Aside0.mk hc0_3; clear hr0_3 hc0_3; have HR0_4 := Aside0.mk hr0_4; have HC0_4 := Aside0.mk hc0_4; clear hr0_4 hc0_4; have HB := Aside0.mk (Below.refl w.heap.size w); have H : ((portageref0_CopyInstrs.f k l0_3).bind fun t240 => (portageref0_CopyFunction.l0 k ([] : List (S49)) 0 a0_0 a0_1 a0_2 l0_3 l0_4 a0_0 a0_1 a0_2 t240 l0_4)) = some (r1, r2, r3, r4, r5) := h; clear h; replace H := Option.bind_eq_some_iff.mp H; obtain ⟨t240, A20, H⟩ := H; replace H : (portageref0_CopyFunction.l0 k ([] : List (S49)) 0 a0_0 a0_1 a0_2 l0_3 l0_4 a0_0 a0_1 a0_2 t240 l0_4) = some (r1, r2, r3, r4, r5) := H; have A2 := Aside0.mk A20; clear A20; have H' := Aside0.mk H; clear H; go_enter Try.func17, Try.ntmps17
 go_wp2_with (first | ((with_reducible refine gate_dst (N := 1) rfl ?_); refine box_event ?hg (N := 1) ?hd (cs := #[.string a0_0, .int .i64 a0_1, .int .i64 a0_2, .slice A0_3 l0_3.length c0_3, .slice A0_4 l0_4.length c0_4]) (t := 25) ?hr ?_; (case hd => rfl); (case hg => rfl); (case hr => first | (go_simp; done) | (go_simp; rfl)); intro gb237 hg w3 hbox hb; have n0_ := Aside0.mk (below_step (by repeat (first | (with_reducible first | exact HB.out | apply below_alloc | apply pw_below_drewN | apply below_drew1) | exact HB.out)) hb); have n1_ := Aside0.mk (hbox); have n2_ := Aside0.mk ((by rw [hg]; exact (below_size (by repeat (first | (with_reducible first | exact HB.out | apply below_alloc | apply pw_below_drewN | apply below_drew1) | exact HB.out))) : w.heap.size ≤ gb237)); have n3_ := Aside0.mk ((by rw [hg]; exact (below_size (by repeat (first | (with_reducible first | exact HB.out | apply below_alloc | apply pw_below_drewN | apply below_drew1) | exact HB.out))) : w.heap.size ≤ gb237)); clear HB; have HB := n0_; have BK237 := n1_; have GW237 := n2_; have GE237 := n3_; clear n0_ n1_ n2_ n3_; clear hb hbox hg) | ((with_reducible refine gate_dst (N := 2) rfl ?_); refine box_event ?hg (N := 2) ?hd (cs := #[.string (⟨#[]⟩ : ByteArray), .int .i64 0, .int .i64 0, .slice none 0 0, .slice none 0 0]) (t := 25) ?hr ?_; (case hd => rfl); (case hg => rfl); (case hr => first | (go_simp; done) | (go_simp; rfl)); intro gb238 hg w4 hbox hb; have n0_ := Aside0.mk (blk_below (g := gb237) (o := .cells #[.string a0_0, .int .i64 a0_1, .int .i64 a0_2, .slice A0_3 l0_3.length c0_3, .slice A0_4 l0_4.length c0_4] 25 (0, 0)) (by (with_reducible repeat (first | refine blk_drewN ?_ _ | refine blk_drew ?_ | refine blk_alloc ?_ _)); exact BK237.out) hb); have n1_ := Aside0.mk (below_step (by repeat (first | (with_reducible first | exact HB.out | apply below_alloc | apply pw_below_drewN | apply below_drew1 | refine below_set ?_ GE237.out) | exact HB.out)) hb); have n2_ := Aside0.mk (hbox); have n3_ := Aside0.mk ((by rw [hg]; exact (below_size (by repeat (first | (with_reducible first | exact HB.out | apply below_alloc | apply pw_below_drewN | apply below_drew1 | refine below_set ?_ GE237.out) | exact HB.out))) : w.heap.size ≤ gb238)); have n4_ := Aside0.mk ((by rw [hg]; exact (below_size (by repeat (first | (with_reducible first | exact HB.out | apply below_alloc | apply pw_below_drewN | apply below_drew1 | refine below_set ?_ GE237.out) | exact HB.out))) : w.heap.size ≤ gb238)); have n5_ := Aside0.mk ((by rw [hg]; exact Nat.ne_of_lt (blk_lt (g := gb237) (o := .cells #[.string a0_0, .int .i64 a0_1, .int .i64 a0_2, .slice A0_3 l0_3.length c0_3, .slice A0_4 l0_4.length c0_4] 25 (0, 0)) (by (with_reducible repeat (first | refine blk_drewN ?_ _ | refine blk_drew ?_ | refine blk_alloc ?_ _)); exact BK237.out)) : gb237 ≠ gb238)); have n6_ := Aside0.mk ((by rw [hg]; exact Nat.ne_of_gt (blk_lt (g := gb237) (o := .cells #[.string a0_0, .int .i64 a0_1, .int .i64 a0_2, .slice A0_3 l0_3.length c0_3, .slice A0_4 l0_4.length c0_4] 25 (0, 0)) (by (with_reducible repeat (first | refine blk_drewN ?_ _ | refine blk_drew ?_ | refine blk_alloc ?_ _)); exact BK237.out)) : gb238 ≠ gb237)); clear BK237; clear HB; have BK237 := n0_; have HB := n1_; have BK238 := n2_; have GW238 := n3_; have GE238 := n4_; have NB237_238 := n5_; have NB238_237 := n6_; clear n0_ n1_ n2_ n3_ n4_ n5_ n6_; clear hb hbox hg; have hnb5 := NB237_238.out; have hnc5 := NB238_237.out; have hcz6_0 : w4.cell? ⟨gb237, 0, none⟩ = some (.string a0_0) := (blk_cell BK237.out 0).trans rfl; have hcz6_1 : w4.cell? ⟨gb237, 1, none⟩ = some (.int .i64 a0_1) := (blk_cell BK237.out 1).trans rfl; have hcz6_2 : w4.cell? ⟨gb237, 2, none⟩ = some (.int .i64 a0_2) := (blk_cell BK237.out 2).trans rfl; have hcz6_3 : w4.cell? ⟨gb237, 3, none⟩ = some (.slice A0_3 l0_3.length c0_3) := (blk_cell BK237.out 3).trans rfl; have hcz6_4 : w4.cell? ⟨gb237, 4, none⟩ = some (.slice A0_4 l0_4.length c0_4) := (blk_cell BK237.out 4).trans rfl; have hfz6_0 := blk_frozen BK237.out 0; have hfz6_1 := blk_frozen BK237.out 1; have hfz6_2 := blk_frozen BK237.out 2; have hfz6_3 := blk_frozen BK237.out 3; have hfz6_4 := blk_frozen BK237.out 4) | ((with_reducible refine gate_dst (N := 3) rfl ?_); refine box_event ?hg (N := 3) ?hd (cs := #[.string (⟨#[]⟩ : ByteArray), .int .i64 0, .int .i64 0, .slice none 0 0, .slice none 0 0]) (t := 25) ?hr ?_; (case hd => rfl); (case hg => rfl); (case hr => first | (go_simp; done) | (go_simp; rfl)); intro gb239 hg w7 hbox hb; have n0_ := Aside0.mk (blk_below (g := gb237) (o := .cells #[.string a0_0, .int .i64 a0_1, .int .i64 a0_2, .slice A0_3 l0_3.length c0_3, .slice A0_4 l0_4.length c0_4] 25 (0, 0)) (by (with_reducible repeat (first | refine blk_drewN ?_ _ | refine blk_drew ?_ | refine blk_alloc ?_ _)); exact BK237.out) hb); have n1_ := Aside0.mk (blk_below (g := gb238) (o := .cells #[.string (⟨#[]⟩ : ByteArray), .int .i64 0, .int .i64 0, .slice none 0 0, .slice none 0 0] 25 (0, 0)) (by (with_reducible repeat (first | refine blk_drewN ?_ _ | refine blk_drew ?_ | refine blk_alloc ?_ _)); exact BK238.out) hb); have n2_ := Aside0.mk (below_step (by repeat (first | (with_reducible first | exact HB.out | apply below_alloc | apply pw_below_drewN | apply below_drew1 | refine below_set ?_ GE237.out | refine below_set ?_ GE238.out) | exact HB.out)) hb); have n3_ := Aside0.mk (hbox); have n4_ := Aside0.mk ((by rw [hg]; exact (below_size (by repeat (first | (with_reducible first | exact HB.out | apply below_alloc | apply pw_below_drewN | apply below_drew1 | refine below_set ?_ GE237.out | refine below_set ?_ GE238.out) | exact HB.out))) : w.heap.size ≤ gb239)); have n5_ := Aside0.mk ((by rw [hg]; exact (below_size (by repeat (first | (with_reducible first | exact HB.out | apply below_alloc | apply pw_below_drewN | apply below_drew1 | refine below_set ?_ GE237.out | refine below_set ?_ GE238.out) | exact HB.out))) : w.heap.size ≤ gb239)); have n6_ := Aside0.mk ((by rw [hg]; exact Nat.ne_of_lt (blk_lt (g := gb237) (o := .cells #[.string a0_0, .int .i64 a0_1, .int .i64 a0_2, .slice A0_3 l0_3.length c0_3, .slice A0_4 l0_4.length c0_4] 25 (0, 0)) (by (with_reducible repeat (first | refine blk_drewN ?_ _ | refine blk_drew ?_ | refine blk_alloc ?_ _)); exact BK237.out)) : gb237 ≠ gb239)); have n7_ := Aside0.mk ((by rw [hg]; exact Nat.ne_of_gt (blk_lt (g := gb237) (o := .cells #[.string a0_0, .int .i64 a0_1, .int .i64 a0_2, .slice A0_3 l0_3.length c0_3, .slice A0_4 l0_4.length c0_4] 25 (0, 0)) (by (with_reducible repeat (first | refine blk_drewN ?_ _ | refine blk_drew ?_ | refine blk_alloc ?_ _)); exact BK237.out)) : gb239 ≠ gb237)); have n8_ := Aside0.mk ((by rw [hg]; exact Nat.ne_of_lt (blk_lt (g := gb238) (o := .cells #[.string (⟨#[]⟩ : ByteArray), .int .i64 0, .int .i64 0, .slice none 0 0, .slice none 0 0] 25 (0, 0)) (by (with_reducible repeat (first | refine blk_drewN ?_ _ | refine blk_drew ?_ | refine blk_alloc ?_ _)); exact BK238.out)) : gb238 ≠ gb239)); have n9_ := Aside0.mk ((by rw [hg]; exact Nat.ne_of_gt (blk_lt (g := gb238) (o := .cells #[.string (⟨#[]⟩ : ByteArray), .int .i64 0, .int .i64 0, .slice none 0 0, .slice none 0 0] 25 (0, 0)) (by (with_reducible repeat (first | refine blk_drewN ?_ _ | refine blk_drew ?_ | refine blk_alloc ?_ _)); exact BK238.out)) : gb239 ≠ gb238)); clear BK237; clear BK238; clear HB; have BK237 := n0_; have BK238 := n1_; have HB := n2_; have BK239 := n3_; have GW239 := n4_; have GE239 := n5_; have NB237_239 := n6_; have NB239_237 := n7_; have NB238_239 := n8_; have NB239_238 := n9_; clear n0_ n1_ n2_ n3_ n4_ n5_ n6_ n7_ n8_ n9_; clear hb hbox hg; have hnb8 := NB239_237.out; have hnc8 := NB237_239.out; have hnb9 := NB239_238.out; have hnc9 := NB238_239.out; have hcz10_0 : w7.cell? ⟨gb239, 0, none⟩ = some (.string (⟨#[]⟩ : ByteArray)) := (blk_cell BK239.out 0).trans rfl; have hcz10_1 : w7.cell? ⟨gb239, 1, none⟩ = some (.int .i64 0) := (blk_cell BK239.out 1).trans rfl; have hcz10_2 : w7.cell? ⟨gb239, 2, none⟩ = some (.int .i64 0) := (blk_cell BK239.out 2).trans rfl; have hcz10_3 : w7.cell? ⟨gb239, 3, none⟩ = some (.slice none 0 0) := (blk_cell BK239.out 3).trans rfl; have hcz10_4 : w7.cell? ⟨gb239, 4, none⟩ = some (.slice none 0 0) := (blk_cell BK239.out 4).trans rfl; have hfz10_0 := blk_frozen BK239.out 0; have hfz10_1 := blk_frozen BK239.out 1; have hfz10_2 := blk_frozen BK239.out 2; have hfz10_3 := blk_frozen BK239.out 3; have hfz10_4 := blk_frozen BK239.out 4; have hcz11_0 : w7.cell? ⟨gb237, 0, none⟩ = some (.string a0_0) := (blk_cell BK237.out 0).trans rfl; have hcz11_1 : w7.cell? ⟨gb237, 1, none⟩ = some (.int .i64 a0_1) := (blk_cell BK237.out 1).trans rfl; have hcz11_2 : w7.cell? ⟨gb237, 2, none⟩ = some (.int .i64 a0_2) := (blk_cell BK237.out 2).trans rfl; have hcz11_3 : w7.cell? ⟨gb237, 3, none⟩ = some (.slice A0_3 l0_3.length c0_3) := (blk_cell BK237.out 3).trans rfl; have hcz11_4 : w7.cell? ⟨gb237, 4, none⟩ = some (.slice A0_4 l0_4.length c0_4) := (blk_cell BK237.out 4).trans rfl; have hfz11_0 := blk_frozen BK237.out 0; have hfz11_1 := blk_frozen BK237.out 1; have hfz11_2 := blk_frozen BK237.out 2; have hfz11_3 := blk_frozen BK237.out 3; have hfz11_4 := blk_frozen BK237.out 4) | ((with_reducible refine gate_callee (f := 54) rfl ?_); refine goesL_ (some 9) rfl rfl Try.func54 (by kernel_rfl) rfl #[.slice A0_3 l0_3.length c0_3] rfl (by (try simp only [List.map_toArray, List.map_cons, List.map_nil]); first | done | rfl | (simp only [List.length_drop, List.length_take]; rfl)) ?_; (with_reducible refine (portageref0_CopyInstrs.calls k _ _ l0_3 t240 _ ?side1 ?side2 A2.out).mono ?_); (case side1 => exact Kd.C_below HR0_3.out (by repeat (first | (with_reducible first | exact HB.out | apply below_alloc | apply pw_below_drewN | apply below_drew1 | refine below_set ?_ GE237.out | refine below_set ?_ GE238.out | refine below_set ?_ GE239.out) | exact HB.out))); (case side2 => exact HC0_3.out); rintro e w12 ⟨v241, rfl, ho0, hb⟩; refine ⟨_, rfl, ?_⟩; have n0_ := Aside0.mk (Kd.R_lower ho0 (below_size (by repeat (first | (with_reducible first | exact HB.out | apply below_alloc | apply pw_below_drewN | apply below_drew1 | refine below_set ?_ GE237.out | refine below_set ?_ GE238.out | refine below_set ?_ GE239.out) | exact HB.out)))); have n1_ := Aside0.mk (blk_below (g := gb237) (o := .cells #[.string a0_0, .int .i64 a0_1, .int .i64 a0_2, .slice A0_3 l0_3.length c0_3, .slice A0_4 l0_4.length c0_4] 25 (0, 0)) (by (with_reducible repeat (first | refine blk_drewN ?_ _ | refine blk_drew ?_ | refine blk_alloc ?_ _)); refine blk_far ?_ NB237_239.out _; (with_reducible repeat (first | refine blk_drewN ?_ _ | refine blk_drew ?_ | refine blk_alloc ?_ _)); refine blk_far ?_ NB237_239.out _; (with_reducible repeat (first | refine blk_drewN ?_ _ | refine blk_drew ?_ | refine blk_alloc ?_ _)); refine blk_far ?_ NB237_239.out _; (with_reducible repeat (first | refine blk_drewN ?_ _ | refine blk_drew ?_ | refine blk_alloc ?_ _)); refine blk_far ?_ NB237_239.out _; (with_reducible repeat (first | refine blk_drewN ?_ _ | refine blk_drew ?_ | refine blk_alloc ?_ _)); refine blk_far ?_ NB237_239.out _; (with_reducible repeat (first | refine blk_drewN ?_ _ | refine blk_drew ?_ | refine blk_alloc ?_ _)); exact BK237.out) hb); have n2_ := Aside0.mk (blk_below (g := gb238) (o := .cells #[.string (⟨#[]⟩ : ByteArray), .int .i64 0, .int .i64 0, .slice none 0 0, .slice none 0 0] 25 (0, 0)) (by (with_reducible repeat (first | refine blk_drewN ?_ _ | refine blk_drew ?_ | refine blk_alloc ?_ _)); refine blk_far ?_ NB238_239.out _; (with_reducible repeat (first | refine blk_drewN ?_ _ | refine blk_drew ?_ | refine blk_alloc ?_ _)); refine blk_far ?_ NB238_239.out _; (with_reducible repeat (first | refine blk_drewN ?_ _ | refine blk_drew ?_ | refine blk_alloc ?_ _)); refine blk_far ?_ NB238_239.out _; (with_reducible repeat (first | refine blk_drewN ?_ _ | refine blk_drew ?_ | refine blk_alloc ?_ _)); refine blk_far ?_ NB238_239.out _; (with_reducible repeat (first | refine blk_drewN ?_ _ | refine blk_drew ?_ | refine blk_alloc ?_ _)); refine blk_far ?_ NB238_239.out _; (with_reducible repeat (first | refine blk_drewN ?_ _ | refine blk_drew ?_ | refine blk_alloc ?_ _)); exact BK238.out) hb); have n3_ := Aside0.mk (blk_below (g := gb239) (o := .cells #[.string a0_0, .int .i64 a0_1, .int .i64 a0_2, .slice A0_3 l0_3.length c0_3, .slice A0_4 l0_4.length c0_4] 25 (0, 0)) (by (with_reducible repeat (first | refine blk_drewN ?_ _ | refine blk_drew ?_ | refine blk_alloc ?_ _)); refine blk_put (cs := #[.string a0_0, .int .i64 a0_1, .int .i64 a0_2, .slice A0_3 l0_3.length c0_3, .slice none 0 0]) ?_ 4 _ rfl; (with_reducible repeat (first | refine blk_drewN ?_ _ | refine blk_drew ?_ | refine blk_alloc ?_ _)); refine blk_put (cs := #[.string a0_0, .int .i64 a0_1, .int .i64 a0_2, .slice none 0 0, .slice none 0 0]) ?_ 3 _ rfl; (with_reducible repeat (first | refine blk_drewN ?_ _ | refine blk_drew ?_ | refine blk_alloc ?_ _)); refine blk_put (cs := #[.string a0_0, .int .i64 a0_1, .int .i64 0, .slice none 0 0, .slice none 0 0]) ?_ 2 _ rfl; (with_reducible repeat (first | refine blk_drewN ?_ _ | refine blk_drew ?_ | refine blk_alloc ?_ _)); refine blk_put (cs := #[.string a0_0, .int .i64 0, .int .i64 0, .slice none 0 0, .slice none 0 0]) ?_ 1 _ rfl; (with_reducible repeat (first | refine blk_drewN ?_ _ | refine blk_drew ?_ | refine blk_alloc ?_ _)); refine blk_put (cs := #[.string (⟨#[]⟩ : ByteArray), .int .i64 0, .int .i64 0, .slice none 0 0, .slice none 0 0]) ?_ 0 _ rfl; (with_reducible repeat (first | refine blk_drewN ?_ _ | refine blk_drew ?_ | refine blk_alloc ?_ _)); exact BK239.out) hb); have n4_ := Aside0.mk (below_step (by repeat (first | (with_reducible first | exact HB.out | apply below_alloc | apply pw_below_drewN | apply below_drew1 | refine below_set ?_ GE237.out | refine below_set ?_ GE238.out | refine below_set ?_ GE239.out) | exact HB.out)) hb); clear BK237; clear BK238; clear BK239; clear HB; have HO242 := n0_; have BK237 := n1_; have BK238 := n2_; have BK239 := n3_; have HB := n4_; clear n0_ n1_ n2_ n3_ n4_; (try clear hb); (try clear hb2); (try clear hk); (try clear hi); (try clear ho0); obtain ⟨Ao13, co13, eo13⟩ := Kd.R_slice HO242.out; subst eo13; have hcz14_0 : w12.cell? ⟨gb239, 0, none⟩ = some (.string a0_0) := (blk_cell BK239.out 0).trans rfl; have hcz14_1 : w12.cell? ⟨gb239, 1, none⟩ = some (.int .i64 a0_1) := (blk_cell BK239.out 1).trans rfl; have hcz14_2 : w12.cell? ⟨gb239, 2, none⟩ = some (.int .i64 a0_2) := (blk_cell BK239.out 2).trans rfl; have hcz14_3 : w12.cell? ⟨gb239, 3, none⟩ = some (.slice A0_3 l0_3.length c0_3) := (blk_cell BK239.out 3).trans rfl; have hcz14_4 : w12.cell? ⟨gb239, 4, none⟩ = some (.slice A0_4 l0_4.length c0_4) := (blk_cell BK239.out 4).trans rfl; have hfz14_0 := blk_frozen BK239.out 0; have hfz14_1 := blk_frozen BK239.out 1; have hfz14_2 := blk_frozen BK239.out 2; have hfz14_3 := blk_frozen BK239.out 3; have hfz14_4 := blk_frozen BK239.out 4))
 go_loopg [4, 5] k (fun kq v4 v5 w' => ∃ (x4_1 : List (S49)) (x5_1 : Int), v5 = .int .i64 x5_1 ∧ Aside0 (portageref0_CopyFunction.l0 kq x4_1 x5_1 a0_0 a0_1 a0_2 l0_3 l0_4 a0_0 a0_1 a0_2 t240 l0_4 = some (r1, r2, r3, r4, r5)) ∧ Aside0 (kq ≤ k) ∧ Aside0 (Kd.R k49 49 w' w.heap.size (fun _ => True) v4 x4_1) ∧ Aside0 (Kd.R k40 40 w' w.heap.size (fun _ => True) (.slice Ao13 t240.length co13) t240) ∧ Aside0 (w'.heap[gb237]? = some (.cells #[.string a0_0, .int .i64 a0_1, .int .i64 a0_2, (.slice A0_3 l0_3.length c0_3), (.slice A0_4 l0_4.length c0_4)] 25 (0, 0))) ∧ Aside0 (w'.heap[gb238]? = some (.cells #[.string (⟨#[]⟩ : ByteArray), .int .i64 0, .int .i64 0, (.slice none 0 0), (.slice none 0 0)] 25 (0, 0))) ∧ Aside0 (w'.heap[gb239]? = some (.cells #[.string a0_0, .int .i64 a0_1, .int .i64 a0_2, (.slice Ao13 t240.length co13), (.slice A0_4 l0_4.length c0_4)] 25 (0, 0))) ∧ Aside0 (Below w.heap.size w w'))
 case atStart => exact ⟨(([] : List (S49))), (0), (by first | rfl | (simp; done) | (simp [*]; done)), H', ⟨Nat.le_refl _⟩, ⟨by first | exact Kd.R_nil _ _ _ _ _ | exact Kd.N_nil _ _ _ _ _ | exact Kd.V_nil _ _ _ _ _ | exact Kd.Q_nil _ _ _ _ _ | exact Kd.S_nil _ _ _ _ _⟩, ⟨by (with_reducible repeat (first | apply Kd.R_alloc | apply Kd.R_drewN | apply Kd.R_drew)); exact Kd.R_mono (Kd.R_far (p := ⟨gb239, 3, none⟩) (Kd.R_types HO242.out BK239.out (by decide)) (fun _ hk => hk.2) (.slice Ao13 t240.length co13)) (fun _ hk => trivial)⟩, ⟨by (with_reducible repeat (first | refine blk_drewN ?_ _ | refine blk_drew ?_ | refine blk_alloc ?_ _)); refine blk_far ?_ NB237_239.out _; (with_reducible repeat (first | refine blk_drewN ?_ _ | refine blk_drew ?_ | refine blk_alloc ?_ _)); exact BK237.out⟩, ⟨by (with_reducible repeat (first | refine blk_drewN ?_ _ | refine blk_drew ?_ | refine blk_alloc ?_ _)); refine blk_far ?_ NB238_239.out _; (with_reducible repeat (first | refine blk_drewN ?_ _ | refine blk_drew ?_ | refine blk_alloc ?_ _)); exact BK238.out⟩, ⟨by (with_reducible repeat (first | refine blk_drewN ?_ _ | refine blk_drew ?_ | refine blk_alloc ?_ _)); refine blk_put (cs := #[.string a0_0, .int .i64 a0_1, .int .i64 a0_2, .slice A0_3 l0_3.length c0_3, .slice A0_4 l0_4.length c0_4]) ?_ 3 _ rfl; (with_reducible repeat (first | refine blk_drewN ?_ _ | refine blk_drew ?_ | refine blk_alloc ?_ _)); exact BK239.out⟩, ⟨by repeat (first | (with_reducible first | exact HB.out | apply below_alloc | apply pw_below_drewN | apply below_drew1 | refine below_set ?_ GE237.out | refine below_set ?_ GE238.out | refine below_set ?_ GE239.out) | exact HB.out)⟩⟩
 case round =>
  clear H'; (try clear c1); (try clear p2); (try clear c5); (try clear c8); (try clear c9); (try clear hcz10_0); (try clear hcz10_1); (try clear hcz10_2); (try clear hcz10_3); (try clear hcz10_4); (try clear hcz11_0); (try clear hcz11_1); (try clear hcz11_2); (try clear hcz11_3); (try clear hcz11_4); (try clear hcz14_0); (try clear hcz14_1); (try clear hcz14_2); (try clear hcz14_3); (try clear hcz14_4); (try clear hcz6_0); (try clear hcz6_1); (try clear hcz6_2); (try clear hcz6_3); (try clear hcz6_4); (try clear hfz10_0); (try clear hfz10_1); (try clear hfz10_2); (try clear hfz10_3); (try clear hfz10_4); (try clear hfz11_0); (try clear hfz11_1); (try clear hfz11_2); (try clear hfz11_3); (try clear hfz11_4); (try clear hfz14_0); (try clear hfz14_1); (try clear hfz14_2); (try clear hfz14_3); (try clear hfz14_4); (try clear hfz6_0); (try clear hfz6_1); (try clear hfz6_2); (try clear hfz6_3); (try clear hfz6_4); obtain ⟨x4_1, x5_1, rfl, HA, HK1, HO_4, HO_240003, BK237, BK238, BK239, HB⟩ := hrel
  cases gk with
  | zero => exact absurd HA.out (by simp [portageref0_CopyFunction.l0])
  | succ k1 =>
   have H := HA.out; clear HA; simp only [portageref0_CopyFunction.l0] at H
   by_cases c15 : x5_1 < (l0_4.length : Int)
   ·rw [if_pos c15] at H; have c15b0 : decide (x5_1 < (l0_4.length : Int)) = true := decide_eq_true c15; clear c15
    by_cases c16 : 0 ≤ x5_1
    ·rw [if_pos c16] at H; have c16b0 : decide (0 ≤ x5_1) = true := decide_eq_true c16; clear c16
     by_cases c17 : x4_1.length < 4398046511104
     ·rw [if_pos c17] at H; have LMc17 := Aside0.mk c17; clear c17; obtain ⟨y244, hy244⟩ : ∃ y_ : List (S49), y_ = (x4_1 ++ [(⟨(rd_T49 l0_4 x5_1).f0, (rd_T49 l0_4 x5_1).f1, (rd_T49 l0_4 x5_1).f2, (rd_T49 l0_4 x5_1).f3⟩ : S49)]) := ⟨_, rfl⟩; replace H : (portageref0_CopyFunction.l0 k1 y244 (wrap64 (x5_1 + 1)) a0_0 a0_1 a0_2 l0_3 l0_4 a0_0 a0_1 a0_2 t240 l0_4) = some (r1, r2, r3, r4, r5) := by first | (rw [hy244]; with_reducible exact H) | (have H2_ := (Option.bind_some _ _).symm.trans H; rw [hy244]; with_reducible exact H2_) | (have H2_ := (Option.bind_some _ _).symm.trans H; with_reducible exact H2_) | with_reducible exact H | (rw [hy244]; exact H) | exact H
      have Ny244 := Aside0.mk hy244; clear hy244; have H' := Aside0.mk H; clear H; have hnb18 := NB237_238.out; have hnc18 := NB238_237.out; have hnb19 := NB237_239.out; have hnc19 := NB239_237.out; have hcz20_0 : wr.cell? ⟨gb237, 0, none⟩ = some (.string a0_0) := (blk_cell BK237.out 0).trans rfl; have hcz20_1 : wr.cell? ⟨gb237, 1, none⟩ = some (.int .i64 a0_1) := (blk_cell BK237.out 1).trans rfl; have hcz20_2 : wr.cell? ⟨gb237, 2, none⟩ = some (.int .i64 a0_2) := (blk_cell BK237.out 2).trans rfl; have hcz20_3 : wr.cell? ⟨gb237, 3, none⟩ = some (.slice A0_3 l0_3.length c0_3) := (blk_cell BK237.out 3).trans rfl; have hcz20_4 : wr.cell? ⟨gb237, 4, none⟩ = some (.slice A0_4 l0_4.length c0_4) := (blk_cell BK237.out 4).trans rfl; have hfz20_0 := blk_frozen BK237.out 0; have hfz20_1 := blk_frozen BK237.out 1; have hfz20_2 := blk_frozen BK237.out 2; have hfz20_3 := blk_frozen BK237.out 3; have hfz20_4 := blk_frozen BK237.out 4; have p243 : 0 ≤ (x5_1 : Int) := of_decide_eq_true (by first | (with_reducible assumption) | assumption); have q243 : x5_1 < (l0_4.length : Int) := of_decide_eq_true (by first | (with_reducible assumption) | assumption); obtain ⟨ad243, e243, hx243_0, hx243_1, hx243_2, hx243_3⟩ := at_T49 HR0_4.out x5_1 p243 q243
      cases e243; replace hx243_0 := (HB.out.cell (World.block_lt_of_cell? w _ hx243_0)).trans hx243_0; replace hx243_1 := (HB.out.cell (World.block_lt_of_cell? w _ hx243_1)).trans hx243_1; replace hx243_2 := (HB.out.cell (World.block_lt_of_cell? w _ hx243_2)).trans hx243_2; replace hx243_3 := (HB.out.cell (World.block_lt_of_cell? w _ hx243_3)).trans hx243_3; replace p243 := eq_true p243; replace q243 := eq_true q243; go_wp2_with (first | ((with_reducible refine gate_builtin (b := .append) (xs := #[.tmp 18, .tmp 24]) rfl ?_); at_builtin; refine Kd.R_append k49 (w0 := w) w.heap.size rfl (.tmp 18) (.tmp 24) 23 49 (.agg #[(.int .i64 0), (.int .i64 0), (.int .i64 0), (.int .i64 0)]) 32 rfl Try.underlying23 info49 rfl (by decide) (by omega) u4 x4_1 (⟨(rd_T49 l0_4 x5_1).f0, (rd_T49 l0_4 x5_1).f1, (rd_T49 l0_4 x5_1).f2, (rd_T49 l0_4 x5_1).f3⟩ : S49) [.int .i64 ((rd_T49 l0_4 x5_1).f0), .int .i64 ((rd_T49 l0_4 x5_1).f1), .int .i64 ((rd_T49 l0_4 x5_1).f2), .int .i64 ((rd_T49 l0_4 x5_1).f3)] (fun _ => True) (fun _ => False) rfl rfl ?aP (fun _ hk => hk.elim) ?aF ?aO ?aB ?aS ?aL ?_; (case aP => exact k49_mkM _ _ _ (⟨(rd_T49 l0_4 x5_1).f0, (rd_T49 l0_4 x5_1).f1, (rd_T49 l0_4 x5_1).f2, (rd_T49 l0_4 x5_1).f3⟩ : S49)); (case aB => exact (by repeat (first | (with_reducible first | exact HB.out | apply below_alloc | apply pw_below_drewN | apply below_drew1 | refine below_set ?_ GE237.out | refine below_set ?_ GE238.out | refine below_set ?_ GE239.out) | exact HB.out))); (case aF => exact (fun _ _ => trivial)); (case aO => exact (by (with_reducible repeat (first | apply Kd.R_alloc | apply Kd.R_drewN | apply Kd.R_drew)); exact HO_4.out)); (case aS => exact (below_size (by repeat (first | (with_reducible first | exact HB.out | apply below_alloc | apply pw_below_drewN | apply below_drew1 | refine below_set ?_ GE237.out | refine below_set ?_ GE238.out | refine below_set ?_ GE239.out) | exact HB.out)))); (case aL => have := LMc17.out; omega); intro v245 w21 ho hb hg hat; rw [← Ny244.out] at ho; have n0_ := Aside0.mk (Kd.R_over' (by (with_reducible repeat (first | apply Kd.R_alloc | apply Kd.R_drewN | apply Kd.R_drew)); exact HO_240003.out) (Kd.R_typed (by (with_reducible repeat (first | apply Kd.R_alloc | apply Kd.R_drewN | apply Kd.R_drew)); exact HO_4.out)) (by decide) hg); have n1_ := Aside0.mk (blk_grown (g := gb237) (o := .cells #[.string a0_0, .int .i64 a0_1, .int .i64 a0_2, .slice A0_3 l0_3.length c0_3, .slice (some ad243) l0_4.length c0_4] 25 (0, 0)) (by (with_reducible repeat (first | refine blk_drewN ?_ _ | refine blk_drew ?_ | refine blk_alloc ?_ _)); exact BK237.out) hg (Kd.R_ne HO_4.out BK237.out (by decide))); have n2_ := Aside0.mk (blk_grown (g := gb238) (o := .cells #[.string (⟨#[]⟩ : ByteArray), .int .i64 0, .int .i64 0, .slice none 0 0, .slice none 0 0] 25 (0, 0)) (by (with_reducible repeat (first | refine blk_drewN ?_ _ | refine blk_drew ?_ | refine blk_alloc ?_ _)); exact BK238.out) hg (Kd.R_ne HO_4.out BK238.out (by decide))); have n3_ := Aside0.mk (blk_grown (g := gb239) (o := .cells #[.string a0_0, .int .i64 a0_1, .int .i64 a0_2, .slice Ao13 t240.length co13, .slice (some ad243) l0_4.length c0_4] 25 (0, 0)) (by (with_reducible repeat (first | refine blk_drewN ?_ _ | refine blk_drew ?_ | refine blk_alloc ?_ _)); exact BK239.out) hg (Kd.R_ne HO_4.out BK239.out (by decide))); have n4_ := Aside0.mk (hb); have n5_ := Aside0.mk (ho); clear HO_240003; clear BK237; clear BK238; clear BK239; clear HB; clear HO_4; have HO_240003 := n0_; have BK237 := n1_; have BK238 := n2_; have BK239 := n3_; have HB := n4_; have HO246 := n5_; clear n0_ n1_ n2_ n3_ n4_ n5_; clear ho hb hg hat))
      go_roundg k1
      case measure => have := HK1.out; omega
      case rel => exact ⟨(y244), (wrap64 (x5_1 + 1)), (by first | rfl | (simp; done) | (simp [*]; done)), H', ⟨by have := HK1.out; omega⟩, ⟨by (with_reducible repeat (first | apply Kd.R_alloc | apply Kd.R_drewN | apply Kd.R_drew)); exact HO246.out⟩, ⟨by (with_reducible repeat (first | apply Kd.R_alloc | apply Kd.R_drewN | apply Kd.R_drew)); exact HO_240003.out⟩, ⟨by (with_reducible repeat (first | refine blk_drewN ?_ _ | refine blk_drew ?_ | refine blk_alloc ?_ _)); exact BK237.out⟩, ⟨by (with_reducible repeat (first | refine blk_drewN ?_ _ | refine blk_drew ?_ | refine blk_alloc ?_ _)); exact BK238.out⟩, ⟨by (with_reducible repeat (first | refine blk_drewN ?_ _ | refine blk_drew ?_ | refine blk_alloc ?_ _)); exact BK239.out⟩, ⟨by repeat (first | (with_reducible first | exact HB.out | apply below_alloc | apply pw_below_drewN | apply below_drew1 | refine below_set ?_ GE237.out | refine below_set ?_ GE238.out | refine below_set ?_ GE239.out) | exact HB.out)⟩⟩
     ·rw [if_neg c17] at H
      exact absurd H (by simp)
    ·rw [if_neg c16] at H
     exact absurd H (by simp)
   ·rw [if_neg c15] at H; have c15b0 : decide (x5_1 < (l0_4.length : Int)) = false := decide_eq_false c15; clear c15; simp only [Option.some.injEq, Prod.mk.injEq] at H; obtain ⟨rfl, rfl, rfl, rfl, rfl⟩ := H; have hnb22 := NB237_238.out; have hnc22 := NB238_237.out; have hnb23 := NB237_239.out; have hnc23 := NB239_237.out; have hcz24_0 : wr.cell? ⟨gb237, 0, none⟩ = some (.string a0_0) := (blk_cell BK237.out 0).trans rfl; have hcz24_1 : wr.cell? ⟨gb237, 1, none⟩ = some (.int .i64 a0_1) := (blk_cell BK237.out 1).trans rfl; have hcz24_2 : wr.cell? ⟨gb237, 2, none⟩ = some (.int .i64 a0_2) := (blk_cell BK237.out 2).trans rfl; have hcz24_3 : wr.cell? ⟨gb237, 3, none⟩ = some (.slice A0_3 l0_3.length c0_3) := (blk_cell BK237.out 3).trans rfl; have hcz24_4 : wr.cell? ⟨gb237, 4, none⟩ = some (.slice A0_4 l0_4.length c0_4) := (blk_cell BK237.out 4).trans rfl; have hfz24_0 := blk_frozen BK237.out 0; have hfz24_1 := blk_frozen BK237.out 1; have hfz24_2 := blk_frozen BK237.out 2; have hfz24_3 := blk_frozen BK237.out 3; have hfz24_4 := blk_frozen BK237.out 4; obtain ⟨Ao25, co25, eo25⟩ := Kd.R_slice HO_4.out; subst eo25; have hnb26 := NB239_238.out; have hnc26 := NB238_239.out; have hcz27_0 : wr.cell? ⟨gb239, 0, none⟩ = some (.string a0_0) := (blk_cell BK239.out 0).trans rfl; have hcz27_1 : wr.cell? ⟨gb239, 1, none⟩ = some (.int .i64 a0_1) := (blk_cell BK239.out 1).trans rfl; have hcz27_2 : wr.cell? ⟨gb239, 2, none⟩ = some (.int .i64 a0_2) := (blk_cell BK239.out 2).trans rfl; have hcz27_3 : wr.cell? ⟨gb239, 3, none⟩ = some (.slice Ao13 t240.length co13) := (blk_cell BK239.out 3).trans rfl; have hcz27_4 : wr.cell? ⟨gb239, 4, none⟩ = some (.slice A0_4 l0_4.length c0_4) := (blk_cell BK239.out 4).trans rfl; have hfz27_0 := blk_frozen BK239.out 0; have hfz27_1 := blk_frozen BK239.out 1; have hfz27_2 := blk_frozen BK239.out 2; have hfz27_3 := blk_frozen BK239.out 3; have hfz27_4 := blk_frozen BK239.out 4; have hcz28_0 : wr.cell? ⟨gb238, 0, none⟩ = some (.string (⟨#[]⟩ : ByteArray)) := (blk_cell BK238.out 0).trans rfl; have hcz28_1 : wr.cell? ⟨gb238, 1, none⟩ = some (.int .i64 0) := (blk_cell BK238.out 1).trans rfl; have hcz28_2 : wr.cell? ⟨gb238, 2, none⟩ = some (.int .i64 0) := (blk_cell BK238.out 2).trans rfl; have hcz28_3 : wr.cell? ⟨gb238, 3, none⟩ = some (.slice none 0 0) := (blk_cell BK238.out 3).trans rfl; have hcz28_4 : wr.cell? ⟨gb238, 4, none⟩ = some (.slice none 0 0) := (blk_cell BK238.out 4).trans rfl; have hfz28_0 := blk_frozen BK238.out 0; have hfz28_1 := blk_frozen BK238.out 1; have hfz28_2 := blk_frozen BK238.out 2; have hfz28_3 := blk_frozen BK238.out 3; have hfz28_4 := blk_frozen BK238.out 4; go_wp2; refine bodyPost_ret (results_cell_row rfl _ _ gb238 25 #[.string a0_0, .int .i64 a0_1, .int .i64 a0_2, .slice Ao13 t240.length co13, .slice Ao25 x4_1.length co25] (0, 0) _ rfl (by (with_reducible repeat (first | refine blk_drewN ?_ _ | refine blk_drew ?_ | refine blk_alloc ?_ _)); refine blk_put (cs := #[.string a0_0, .int .i64 a0_1, .int .i64 a0_2, .slice Ao13 t240.length co13, .slice none 0 0]) ?_ 4 _ rfl; (with_reducible repeat (first | refine blk_drewN ?_ _ | refine blk_drew ?_ | refine blk_alloc ?_ _)); refine blk_put (cs := #[.string a0_0, .int .i64 a0_1, .int .i64 a0_2, .slice none 0 0, .slice none 0 0]) ?_ 3 _ rfl; (with_reducible repeat (first | refine blk_drewN ?_ _ | refine blk_drew ?_ | refine blk_alloc ?_ _)); refine blk_put (cs := #[.string a0_0, .int .i64 a0_1, .int .i64 0, .slice none 0 0, .slice none 0 0]) ?_ 2 _ rfl; (with_reducible repeat (first | refine blk_drewN ?_ _ | refine blk_drew ?_ | refine blk_alloc ?_ _)); refine blk_put (cs := #[.string a0_0, .int .i64 0, .int .i64 0, .slice none 0 0, .slice none 0 0]) ?_ 1 _ rfl; (with_reducible repeat (first | refine blk_drewN ?_ _ | refine blk_drew ?_ | refine blk_alloc ?_ _)); refine blk_put (cs := #[.string (⟨#[]⟩ : ByteArray), .int .i64 0, .int .i64 0, .slice none 0 0, .slice none 0 0]) ?_ 0 _ rfl; (with_reducible repeat (first | refine blk_drewN ?_ _ | refine blk_drew ?_ | refine blk_alloc ?_ _)); refine blk_far ?_ NB238_239.out _; (with_reducible repeat (first | refine blk_drewN ?_ _ | refine blk_drew ?_ | refine blk_alloc ?_ _)); exact BK238.out) Try.underlying25 rfl (by kernel_rfl)) rfl ?_; exact ⟨_, _, by first | rfl | (simp [errW_none, errW_some] <;> rfl) | (simp [*, errW_none, errW_some] <;> rfl), by (with_reducible repeat (first | apply Kd.R_alloc | apply Kd.R_drewN | apply Kd.R_drew)); exact Kd.R_mono (Kd.R_far (p := ⟨gb238, 4, none⟩) (Kd.R_far (p := ⟨gb238, 3, none⟩) (Kd.R_far (p := ⟨gb238, 2, none⟩) (Kd.R_far (p := ⟨gb238, 1, none⟩) (Kd.R_far (p := ⟨gb238, 0, none⟩) (Kd.R_far (p := ⟨gb239, 4, none⟩) (Kd.R_types (Kd.R_types HO_240003.out BK239.out (by decide)) BK238.out (by decide)) (fun _ hk => hk.1.2) (.slice Ao25 x4_1.length co25)) (fun _ hk => hk.2) (.string a0_0)) (fun _ hk => hk.2) (.int .i64 a0_1)) (fun _ hk => hk.2) (.int .i64 a0_2)) (fun _ hk => hk.2) (.slice Ao13 t240.length co13)) (fun _ hk => hk.2) (.slice Ao25 x4_1.length co25)) (fun _ hk => trivial), by (with_reducible repeat (first | apply Kd.R_alloc | apply Kd.R_drewN | apply Kd.R_drew)); exact Kd.R_mono (Kd.R_far (p := ⟨gb238, 4, none⟩) (Kd.R_far (p := ⟨gb238, 3, none⟩) (Kd.R_far (p := ⟨gb238, 2, none⟩) (Kd.R_far (p := ⟨gb238, 1, none⟩) (Kd.R_far (p := ⟨gb238, 0, none⟩) (Kd.R_far (p := ⟨gb239, 4, none⟩) (Kd.R_types (Kd.R_types HO_4.out BK239.out (by decide)) BK238.out (by decide)) (fun _ hk => hk.1.2) (.slice Ao25 x4_1.length co25)) (fun _ hk => hk.2) (.string a0_0)) (fun _ hk => hk.2) (.int .i64 a0_1)) (fun _ hk => hk.2) (.int .i64 a0_2)) (fun _ hk => hk.2) (.slice Ao13 t240.length co13)) (fun _ hk => hk.2) (.slice Ao25 x4_1.length co25)) (fun _ hk => trivial), by repeat (first | (with_reducible first | exact HB.out | apply below_alloc | apply pw_below_drewN | apply below_drew1 | refine below_set ?_ GE237.out | refine below_set ?_ GE238.out | refine below_set ?_ GE239.out) | exact HB.out)⟩
/-! ### portagekit_fullInstrs: function 61 -/
mutual
def portagekit_fullInstrs.l0 : Nat → List (S40) → List (S40) → Int → Option ((List (S40)))
  | 0, _, _, _ => none
  | k + 1, x0, x3, x4 => if x4 < (x0.length : Int) then (if 0 ≤ x4 then (if x3.length < 8796093022208 then (portagekit_fullInstrs.l0 k x0 (x3 ++ [(⟨(rd_T40 x0 x4).f0, (rd_T40 x0 x4).f1⟩ : S40)]) (wrap64 (x4 + 1))) else (none)) else (none)) else (portagekit_fullInstrs.l1 k x3 0)
def portagekit_fullInstrs.l1 : Nat → List (S40) → Int → Option ((List (S40)))
  | 0, _, _ => none
  | k + 1, x3, x5 => if x5 < 64 then (if x3.length < 8796093022208 then (portagekit_fullInstrs.l1 k (x3 ++ [(⟨(-7), x5⟩ : S40)]) (wrap64 (x5 + 1))) else (none)) else (some x3)
end
def portagekit_fullInstrs.f (k : Nat) (l0 : List (S40)) : Option ((List (S40))) := portagekit_fullInstrs.l0 k l0 ([] : List (S40)) 0
theorem portagekit_fullInstrs.mono_l : ∀ k, (∀ y0 y1 y2, LeO (portagekit_fullInstrs.l0 k y0 y1 y2) (portagekit_fullInstrs.l0 (k + 1) y0 y1 y2)) ∧ (∀ y0 y1, LeO (portagekit_fullInstrs.l1 k y0 y1) (portagekit_fullInstrs.l1 (k + 1) y0 y1))
  | 0 => ⟨fun _ _ _ r h => by simp [portagekit_fullInstrs.l0] at h, fun _ _ r h => by simp [portagekit_fullInstrs.l1] at h⟩
  | k + 1 => by
    obtain ⟨ih0, ih1⟩ := portagekit_fullInstrs.mono_l k
    refine ⟨?_, ?_⟩
    · intro y0 y1 y2
      unfold portagekit_fullInstrs.l0
      repeat' first
      | (with_reducible exact ih0 _ _ _)
      | (with_reducible exact ih1 _ _)
      | (with_reducible exact LeO.refl _)
      | (with_reducible exact LeO.none _)
      | (with_reducible refine LeO.ite ?_ ?_)
      | (with_reducible refine LeO.bind ?_ (fun _ => ?_))
      | exact ih0 _ _ _
      | exact ih1 _ _
      | exact LeO.none _
      | refine LeO.ite ?_ ?_
      | refine LeO.bind ?_ (fun _ => ?_)
    · intro y0 y1
      unfold portagekit_fullInstrs.l1
      repeat' first
      | (with_reducible exact ih0 _ _ _)
      | (with_reducible exact ih1 _ _)
      | (with_reducible exact LeO.refl _)
      | (with_reducible exact LeO.none _)
      | (with_reducible refine LeO.ite ?_ ?_)
      | (with_reducible refine LeO.bind ?_ (fun _ => ?_))
      | exact ih0 _ _ _
      | exact ih1 _ _
      | exact LeO.none _
      | refine LeO.ite ?_ ?_
      | refine LeO.bind ?_ (fun _ => ?_)
theorem portagekit_fullInstrs.mono : ∀ a0 k, LeO (portagekit_fullInstrs.f k a0) (portagekit_fullInstrs.f (k + 1) a0) := by
 intro a0 k; obtain ⟨ih0, ih1⟩ := portagekit_fullInstrs.mono_l k; unfold portagekit_fullInstrs.f; repeat' first
  | (with_reducible exact ih0 _ _ _)
  | (with_reducible exact ih1 _ _)
  | (with_reducible exact LeO.refl _)
  | (with_reducible exact LeO.none _)
  | (with_reducible refine LeO.ite ?_ ?_)
  | (with_reducible refine LeO.bind ?_ (fun _ => ?_))
  | exact ih0 _ _ _
  | exact ih1 _ _
  | exact LeO.none _
  | refine LeO.ite ?_ ?_
  | refine LeO.bind ?_ (fun _ => ?_)
set_option maxHeartbeats 8000000 in
set_option maxRecDepth 100000 in
theorem portagekit_fullInstrs.calls (k : Nat) (A0 : Option Addr) (c0 : Nat) (l0 : List (S40)) (r : List (S40)) (w : World) (hr0 : Kd.C k40 w A0 l0.length l0) (hc0 : l0.length ≤ c0) (h : portagekit_fullInstrs.f k l0 = some r) :
    Calls Try.prog 61 #[.slice A0 l0.length c0] w fun e w' => ∃ v0_ : Value, e = .returned (v0_) ∧ Kd.R k40 40 w' w.heap.size (fun _ => True) v0_ r ∧ Below w.heap.size w w' := by
 have hu40 := Try.underlying40; have HR0 := Aside0.mk hr0; have HC0 := Aside0.mk hc0; clear hr0 hc0; have HB := Aside0.mk (Below.refl w.heap.size w); have H : (portagekit_fullInstrs.l0 k l0 ([] : List (S40)) 0) = some r := h; clear h; have H' := Aside0.mk H; clear H; go_enter Try.func61, Try.ntmps61; go_wp2; go_loopg [3, 4] k (fun kq v3 v4 w' => ∃ (x3_1 : List (S40)) (x4_1 : Int), v4 = .int .i64 x4_1 ∧ Aside0 (portagekit_fullInstrs.l0 kq l0 x3_1 x4_1 = some r) ∧ Aside0 (kq ≤ k) ∧ Aside0 (Kd.R k40 40 w' w.heap.size (fun _ => True) v3 x3_1) ∧ Aside0 (Below w.heap.size w w'))
 case atStart => exact ⟨(([] : List (S40))), (0), (by first | rfl | (simp; done) | (simp [*]; done)), H', ⟨Nat.le_refl _⟩, ⟨by first | exact Kd.R_nil _ _ _ _ _ | exact Kd.N_nil _ _ _ _ _ | exact Kd.V_nil _ _ _ _ _ | exact Kd.Q_nil _ _ _ _ _ | exact Kd.S_nil _ _ _ _ _⟩, ⟨by repeat (first | (with_reducible first | exact HB.out | apply below_alloc | apply pw_below_drewN | apply below_drew1) | exact HB.out)⟩⟩
 case round =>
  clear H'; obtain ⟨x3_1, x4_1, rfl, HA, HK1, HO_3, HB⟩ := hrel
  cases gk with
  | zero => exact absurd HA.out (by simp [portagekit_fullInstrs.l0])
  | succ k1 =>
   have H := HA.out; clear HA; simp only [portagekit_fullInstrs.l0] at H
   by_cases c2 : x4_1 < (l0.length : Int)
   ·rw [if_pos c2] at H; have c2b0 : decide (x4_1 < (l0.length : Int)) = true := decide_eq_true c2; clear c2
    by_cases c3 : 0 ≤ x4_1
    ·rw [if_pos c3] at H; have c3b0 : decide (0 ≤ x4_1) = true := decide_eq_true c3; clear c3
     by_cases c4 : x3_1.length < 8796093022208
     ·rw [if_pos c4] at H; have LMc4 := Aside0.mk c4; clear c4; obtain ⟨y248, hy248⟩ : ∃ y_ : List (S40), y_ = (x3_1 ++ [(⟨(rd_T40 l0 x4_1).f0, (rd_T40 l0 x4_1).f1⟩ : S40)]) := ⟨_, rfl⟩; replace H : (portagekit_fullInstrs.l0 k1 l0 y248 (wrap64 (x4_1 + 1))) = some r := by first | (rw [hy248]; with_reducible exact H) | (have H2_ := (Option.bind_some _ _).symm.trans H; rw [hy248]; with_reducible exact H2_) | (have H2_ := (Option.bind_some _ _).symm.trans H; with_reducible exact H2_) | with_reducible exact H | (rw [hy248]; exact H) | exact H
      have Ny248 := Aside0.mk hy248; clear hy248; have H' := Aside0.mk H; clear H; have p247 : 0 ≤ (x4_1 : Int) := of_decide_eq_true (by first | (with_reducible assumption) | assumption); have q247 : x4_1 < (l0.length : Int) := of_decide_eq_true (by first | (with_reducible assumption) | assumption); obtain ⟨ad247, e247, hx247_0, hx247_1⟩ := at_T40 HR0.out x4_1 p247 q247
      cases e247; replace hx247_0 := (HB.out.cell (World.block_lt_of_cell? w _ hx247_0)).trans hx247_0; replace hx247_1 := (HB.out.cell (World.block_lt_of_cell? w _ hx247_1)).trans hx247_1; replace p247 := eq_true p247; replace q247 := eq_true q247; go_wp2_with (first | ((with_reducible refine gate_builtin (b := .append) (xs := #[.tmp 12, .tmp 17]) rfl ?_); at_builtin; refine Kd.R_append k40 (w0 := w) w.heap.size rfl (.tmp 12) (.tmp 17) 22 40 (.agg #[(.int .i64 0), (.int .i64 0)]) 16 rfl Try.underlying22 info40 rfl (by decide) (by omega) u3 x3_1 (⟨(rd_T40 l0 x4_1).f0, (rd_T40 l0 x4_1).f1⟩ : S40) [.int .i64 ((rd_T40 l0 x4_1).f0), .int .i64 ((rd_T40 l0 x4_1).f1)] (fun _ => True) (fun _ => False) rfl rfl ?aP (fun _ hk => hk.elim) ?aF ?aO ?aB ?aS ?aL ?_; (case aP => exact k40_mkM _ _ _ (⟨(rd_T40 l0 x4_1).f0, (rd_T40 l0 x4_1).f1⟩ : S40)); (case aB => exact (by repeat (first | (with_reducible first | exact HB.out | apply below_alloc | apply pw_below_drewN | apply below_drew1) | exact HB.out))); (case aF => exact (fun _ _ => trivial)); (case aO => exact (by (with_reducible repeat (first | apply Kd.R_alloc | apply Kd.R_drewN | apply Kd.R_drew)); exact HO_3.out)); (case aS => exact (below_size (by repeat (first | (with_reducible first | exact HB.out | apply below_alloc | apply pw_below_drewN | apply below_drew1) | exact HB.out)))); (case aL => have := LMc4.out; omega); intro v249 w5 ho hb hg hat; rw [← Ny248.out] at ho; have n0_ := Aside0.mk (hb); have n1_ := Aside0.mk (ho); clear HB; clear HO_3; have HB := n0_; have HO250 := n1_; clear n0_ n1_; clear ho hb hg hat))
      go_roundg k1
      case measure => have := HK1.out; omega
      case rel => exact ⟨(y248), (wrap64 (x4_1 + 1)), (by first | rfl | (simp; done) | (simp [*]; done)), H', ⟨by have := HK1.out; omega⟩, ⟨by (with_reducible repeat (first | apply Kd.R_alloc | apply Kd.R_drewN | apply Kd.R_drew)); exact HO250.out⟩, ⟨by repeat (first | (with_reducible first | exact HB.out | apply below_alloc | apply pw_below_drewN | apply below_drew1) | exact HB.out)⟩⟩
     ·rw [if_neg c4] at H
      exact absurd H (by simp)
    ·rw [if_neg c3] at H
     exact absurd H (by simp)
   ·rw [if_neg c2] at H; have c2b0 : decide (x4_1 < (l0.length : Int)) = false := decide_eq_false c2; clear c2; have H' := Aside0.mk H; clear H; go_wp2; go_loopg [3, 5] k1 (fun kq v3 v5 w' => ∃ (x3_2 : List (S40)) (x5_2 : Int), v5 = .int .i64 x5_2 ∧ Aside0 (portagekit_fullInstrs.l1 kq x3_2 x5_2 = some r) ∧ Aside0 (kq ≤ k1) ∧ Aside0 (Kd.R k40 40 w' w.heap.size (fun _ => True) v3 x3_2) ∧ Aside0 (Below w.heap.size w w'))
    case atStart => exact ⟨(x3_1), (0), (by first | rfl | (simp; done) | (simp [*]; done)), H', ⟨Nat.le_refl _⟩, ⟨by (with_reducible repeat (first | apply Kd.R_alloc | apply Kd.R_drewN | apply Kd.R_drew)); exact HO_3.out⟩, ⟨by repeat (first | (with_reducible first | exact HB.out | apply below_alloc | apply pw_below_drewN | apply below_drew1) | exact HB.out)⟩⟩
    case round =>
     clear H'; (try clear c2); (try clear c2b0); (try clear p2); (try clear q2); (try clear hx2); (try clear c3); (try clear c3b0); (try clear c4); (try clear hx247_0); (try clear hx247_1); (try clear p247); (try clear q247); obtain ⟨x3_2, x5_2, rfl, HA, HK2, HO_3, HB⟩ := hrel
     cases gk with
     | zero => exact absurd HA.out (by simp [portagekit_fullInstrs.l1])
     | succ k2 =>
      have H := HA.out; clear HA; simp only [portagekit_fullInstrs.l1] at H
      by_cases c6 : x5_2 < 64
      ·rw [if_pos c6] at H; have c6b0 : decide (x5_2 < 64) = true := decide_eq_true c6; clear c6
       by_cases c7 : x3_2.length < 8796093022208
       ·rw [if_pos c7] at H; have LMc7 := Aside0.mk c7; clear c7; obtain ⟨y251, hy251⟩ : ∃ y_ : List (S40), y_ = (x3_2 ++ [(⟨(-7), x5_2⟩ : S40)]) := ⟨_, rfl⟩; replace H : (portagekit_fullInstrs.l1 k2 y251 (wrap64 (x5_2 + 1))) = some r := by first | (rw [hy251]; with_reducible exact H) | (have H2_ := (Option.bind_some _ _).symm.trans H; rw [hy251]; with_reducible exact H2_) | (have H2_ := (Option.bind_some _ _).symm.trans H; with_reducible exact H2_) | with_reducible exact H | (rw [hy251]; exact H) | exact H
        have Ny251 := Aside0.mk hy251; clear hy251; have H' := Aside0.mk H; clear H; go_wp2_with (first | ((with_reducible refine gate_builtin (b := .append) (xs := #[.tmp 23, .tmp 26]) rfl ?_); at_builtin; refine Kd.R_append k40 (w0 := w) w.heap.size rfl (.tmp 23) (.tmp 26) 22 40 (.agg #[(.int .i64 0), (.int .i64 0)]) 16 rfl Try.underlying22 info40 rfl (by decide) (by omega) u3 x3_2 (⟨(-7), x5_2⟩ : S40) [.int .i64 (-7), .int .i64 x5_2] (fun _ => True) (fun _ => False) rfl rfl ?aP (fun _ hk => hk.elim) ?aF ?aO ?aB ?aS ?aL ?_; (case aP => exact k40_mkM _ _ _ (⟨(-7), x5_2⟩ : S40)); (case aB => exact (by repeat (first | (with_reducible first | exact HB.out | apply below_alloc | apply pw_below_drewN | apply below_drew1) | exact HB.out))); (case aF => exact (fun _ _ => trivial)); (case aO => exact (by (with_reducible repeat (first | apply Kd.R_alloc | apply Kd.R_drewN | apply Kd.R_drew)); exact HO_3.out)); (case aS => exact (below_size (by repeat (first | (with_reducible first | exact HB.out | apply below_alloc | apply pw_below_drewN | apply below_drew1) | exact HB.out)))); (case aL => have := LMc7.out; omega); intro v252 w8 ho hb hg hat; rw [← Ny251.out] at ho; have n0_ := Aside0.mk (hb); have n1_ := Aside0.mk (ho); clear HB; clear HO_3; have HB := n0_; have HO253 := n1_; clear n0_ n1_; clear ho hb hg hat))
        go_roundg k2
        case measure => have := HK1.out; have := HK2.out; omega
        case rel => exact ⟨(y251), (wrap64 (x5_2 + 1)), (by first | rfl | (simp; done) | (simp [*]; done)), H', ⟨by have := HK1.out; have := HK2.out; omega⟩, ⟨by (with_reducible repeat (first | apply Kd.R_alloc | apply Kd.R_drewN | apply Kd.R_drew)); exact HO253.out⟩, ⟨by repeat (first | (with_reducible first | exact HB.out | apply below_alloc | apply pw_below_drewN | apply below_drew1) | exact HB.out)⟩⟩
       ·rw [if_neg c7] at H
        exact absurd H (by simp)
      ·rw [if_neg c6] at H; have c6b0 : decide (x5_2 < 64) = false := decide_eq_false c6; clear c6; obtain rfl := Option.some.inj H; go_wp2; go_ret; exact ⟨_, by first | rfl | (simp [errW_none, errW_some] <;> rfl) | (simp [*, errW_none, errW_some] <;> rfl), by (with_reducible repeat (first | apply Kd.R_alloc | apply Kd.R_drewN | apply Kd.R_drew)); exact HO_3.out, by repeat (first | (with_reducible first | exact HB.out | apply below_alloc | apply pw_below_drewN | apply below_drew1) | exact HB.out)⟩
/-! ### portagekit_LentInstrs: function 42 -/
def portagekit_LentInstrs.f (k : Nat) (l0 : List (S40)) : Option ((List (S40))) := (portagekit_fullInstrs.f k l0).bind fun t254 => (some t254)
theorem portagekit_LentInstrs.mono : ∀ a0 k, LeO (portagekit_LentInstrs.f k a0) (portagekit_LentInstrs.f (k + 1) a0) := by
 intro a0 k; unfold portagekit_LentInstrs.f; repeat' first
  | (with_reducible exact portagekit_fullInstrs.mono _ _)
  | (with_reducible exact LeO.refl _)
  | (with_reducible exact LeO.none _)
  | (with_reducible refine LeO.ite ?_ ?_)
  | (with_reducible refine LeO.bind ?_ (fun _ => ?_))
  | exact portagekit_fullInstrs.mono _ _
  | exact LeO.none _
  | refine LeO.ite ?_ ?_
  | refine LeO.bind ?_ (fun _ => ?_)
set_option maxHeartbeats 8000000 in
set_option maxRecDepth 100000 in
theorem portagekit_LentInstrs.calls (k : Nat) (A0 : Option Addr) (c0 : Nat) (l0 : List (S40)) (r : List (S40)) (w : World) (hr0 : Kd.C k40 w A0 l0.length l0) (hc0 : l0.length ≤ c0) (h : portagekit_LentInstrs.f k l0 = some r) :
    Calls Try.prog 42 #[.slice A0 l0.length c0] w fun e w' => ∃ v0_ : Value, e = .returned (v0_) ∧ Kd.R k40 40 w' w.heap.size (fun _ => True) v0_ r ∧ Below w.heap.size w w' := by
 have HR0 := Aside0.mk hr0; have HC0 := Aside0.mk hc0; clear hr0 hc0; have HB := Aside0.mk (Below.refl w.heap.size w); have H : ((portagekit_fullInstrs.f k l0).bind fun t254 => (some t254)) = some r := h; clear h; replace H := Option.bind_eq_some_iff.mp H; obtain ⟨t254, A20, H⟩ := H; replace H : (some t254) = some r := H; have A2 := Aside0.mk A20; clear A20; obtain rfl := Option.some.inj H; go_enter Try.func42, Try.ntmps42; go_wp2_with (first | ((with_reducible refine gate_callee (f := 61) rfl ?_); refine goesL_ (some 4) rfl rfl Try.func61 (by kernel_rfl) rfl #[.slice A0 l0.length c0] rfl (by (try simp only [List.map_toArray, List.map_cons, List.map_nil]); first | done | rfl | (simp only [List.length_drop, List.length_take]; rfl)) ?_; (with_reducible refine (portagekit_fullInstrs.calls k _ _ l0 t254 _ ?side1 ?side2 A2.out).mono ?_); (case side1 => repeat (first | exact HR0.out | (with_reducible refine Kd.C_alloc ?_ _) | (with_reducible refine Kd.C_drewN ?_ _) | (with_reducible refine Kd.C_drew ?_))); (case side2 => exact HC0.out); rintro e w3 ⟨v255, rfl, ho0, hb⟩; refine ⟨_, rfl, ?_⟩; have n0_ := Aside0.mk (Kd.R_lower ho0 (below_size (by repeat (first | (with_reducible first | exact HB.out | apply below_alloc | apply pw_below_drewN | apply below_drew1) | exact HB.out)))); have n1_ := Aside0.mk (below_step (by repeat (first | (with_reducible first | exact HB.out | apply below_alloc | apply pw_below_drewN | apply below_drew1) | exact HB.out)) hb); clear HB; have HO256 := n0_; have HB := n1_; clear n0_ n1_; (try clear hb); (try clear hb2); (try clear hk); (try clear hi); (try clear ho0)))
 go_ret; exact ⟨_, by first | rfl | (simp [errW_none, errW_some] <;> rfl) | (simp [*, errW_none, errW_some] <;> rfl), by (with_reducible repeat (first | apply Kd.R_alloc | apply Kd.R_drewN | apply Kd.R_drew)); exact HO256.out, by repeat (first | (with_reducible first | exact HB.out | apply below_alloc | apply pw_below_drewN | apply below_drew1) | exact HB.out)⟩
-- NOT PRINTED: function 12 (portagelaw09_lent)

/-! ### portagekit_Num: function 14 -/
def portagekit_Num.f (a0 : Int) : Option (Int) := some a0
set_option maxHeartbeats 8000000 in
set_option maxRecDepth 100000 in
theorem portagekit_Num.calls (a0 : Int) (r : Int) (w : World) (h : portagekit_Num.f a0 = some r) :
    Calls Try.prog 14 #[.int .i64 a0] w fun e w' => e = .returned (.int .i64 r) ∧ Drawn0 w w' := by
 have H : (some a0) = some r := h; clear h; obtain rfl := Option.some.inj H; go_enter Try.func14, Try.ntmps14; go_wp2; go_ret; exact ⟨by first | rfl | (simp; done) | (simp [*]; done), by repeat (first | exact Drawn0.refl _ | apply Drawn0.step)⟩
end Go.Proofs.Ytmeaepmimnmjlaa.PGb
/- A function's copy, and what is lent: by their meaning. -/
namespace Go.Proofs.Ytmeaepmimnmjlaa.Ask
open Go.RowKit Go.Shelf Go.Proofs.Ytmeaepmimnmjlaa.PGb Go.Proofs.Ytmeaepmimnmjlaa.Lit Go.Proofs.Ytmeaepmimnmjlaa.OwnCells Go.Proofs.YtmeaepmimnmjlaaW.PrintWords Go.Proofs.YtmeaepmimnmjlaaW.PrintLast Go.Proofs.YtmeaepmimnmjlaaW.PrintMore
attribute [local go_sem] Oper.semAt_some
set_option linter.unusedVariables false
set_option linter.unusedSimpArgs false
def markI (i : Nat) : S40 := ⟨-7, (i : Int)⟩
def fullI (l : List S40) : List S40 := l ++ (List.range' 0 64).map markI
theorem wrapN {n : Nat} (h : n < 9223372036854775807) : wrap64 ((n : Int) + 1) = ((n + 1 : Nat) : Int) := by
  unfold wrap64
  omega
theorem ci_l0 {l : List S40} (hl : l.length ≤ 1048576) : ∀ (n p : Nat), p + n = l.length → ∀ k, n + 1 ≤ k → portageref0_CopyInstrs.l0 k l (l.take p) (p : Int) = some l := by
  intro n
  induction n with
  | zero =>
    intro p hp k hk
    obtain ⟨k, rfl⟩ : ∃ k', k = k' + 1 := ⟨k - 1, by omega⟩
    unfold portageref0_CopyInstrs.l0
    rw [if_neg (by omega), List.take_of_length_le (by omega)]
  | succ n ih =>
    intro p hp k hk
    obtain ⟨k, rfl⟩ : ∃ k', k = k' + 1 := ⟨k - 1, by omega⟩
    have hlt : p < l.length := by omega
    have e : l.take p ++ [(⟨(rd_T40 l (p : Int)).f0, (rd_T40 l (p : Int)).f1⟩ : S40)] = l.take (p + 1) := by
      rw [List.take_succ_eq_append_getElem hlt]
      have : rd_T40 l (p : Int) = l[p] := by unfold rd_T40; rw [Int.toNat_natCast, List.getD_eq_getElem?_getD, List.getElem?_eq_getElem hlt]; rfl
      rw [this]
    unfold portageref0_CopyInstrs.l0
    rw [if_pos (by omega), if_pos (by omega), if_pos (by rw [List.length_take]; omega), wrapN (by omega), e]
    exact ih (p + 1) (by omega) k (by omega)
theorem ci_f {l : List S40} (hl : l.length ≤ 1048576) {k : Nat} (hk : 1048577 ≤ k) : portageref0_CopyInstrs.f k l = some l := by
  have := ci_l0 hl l.length 0 (by omega) k (by omega)
  exact this
theorem cf_l0 {l : List S49} (hl : l.length ≤ 1048576) (a : ByteArray) (b c : Int) (d : List S40) (a' : ByteArray) (b' c' : Int) (d' : List S40) (e' : List S49) : ∀ (n p : Nat), p + n = l.length → ∀ k, n + 1 ≤ k → portageref0_CopyFunction.l0 k (l.take p) (p : Int) a b c d l a' b' c' d' e' = some (a', b', c', d', l) := by
  intro n
  induction n with
  | zero =>
    intro p hp k hk
    obtain ⟨k, rfl⟩ : ∃ k', k = k' + 1 := ⟨k - 1, by omega⟩
    unfold portageref0_CopyFunction.l0
    rw [if_neg (by omega), List.take_of_length_le (by omega)]
  | succ n ih =>
    intro p hp k hk
    obtain ⟨k, rfl⟩ : ∃ k', k = k' + 1 := ⟨k - 1, by omega⟩
    have hlt : p < l.length := by omega
    have e : l.take p ++ [(⟨(rd_T49 l (p : Int)).f0, (rd_T49 l (p : Int)).f1, (rd_T49 l (p : Int)).f2, (rd_T49 l (p : Int)).f3⟩ : S49)] = l.take (p + 1) := by
      rw [List.take_succ_eq_append_getElem hlt]
      have : rd_T49 l (p : Int) = l[p] := by unfold rd_T49; rw [Int.toNat_natCast, List.getD_eq_getElem?_getD, List.getElem?_eq_getElem hlt]; rfl
      rw [this]
    unfold portageref0_CopyFunction.l0
    rw [if_pos (by omega), if_pos (by omega), if_pos (by rw [List.length_take]; omega), wrapN (by omega), e]
    exact ih (p + 1) (by omega) k (by omega)
theorem cf_f (nm : ByteArray) (pa lo : Int) {code : List S40} {hs : List S49} (hc : code.length ≤ 1048576) (hh : hs.length ≤ 1048576) : portageref0_CopyFunction.f 1048642 nm pa lo code hs = some (nm, pa, lo, code, hs) := by
  unfold portageref0_CopyFunction.f
  rw [ci_f hc (by omega), Option.bind_some]
  have := cf_l0 hh nm pa lo code nm pa lo code hs hs.length 0 (by omega) 1048642 (by omega)
  exact this
theorem copy_own {w : World} {nm : ByteArray} {pa lo : Int} {A3 A4 : Option Addr} {c3 c4 : Nat} {code : List S40} {hs : List S49} (hn : code.length ≤ 1048576) (hhn : hs.length ≤ 1048576) (hC : k40.C w A3 code.length code) (hc3 : code.length ≤ c3) (hH : k49.C w A4 hs.length hs) (hc4 : hs.length ≤ c4) :
    Calls Try.prog 17 #[.agg #[.string nm, .int .i64 pa, .int .i64 lo, .slice A3 code.length c3, .slice A4 hs.length c4]] w fun e w' => ∃ B3 B4 d3 d4, e = .returned (.agg #[.string nm, .int .i64 pa, .int .i64 lo, .slice B3 code.length d3, .slice B4 hs.length d4]) ∧ k40.R 40 w' w.heap.size (fun _ => True) (.slice B3 code.length d3) code ∧ k49.R 49 w' w.heap.size (fun _ => True) (.slice B4 hs.length d4) hs ∧ Below w.heap.size w w' := by
  refine (portageref0_CopyFunction.calls 1048642 nm pa lo A3 c3 code A4 c4 hs nm pa lo code hs w hC hc3 hH hc4 (cf_f nm pa lo hn hhn)).mono ?_
  rintro e w' ⟨v3, v4, rfl, h3, h4, hb⟩
  obtain ⟨B3, d3, rfl⟩ := Kd.R_slice h3
  obtain ⟨B4, d4, rfl⟩ := Kd.R_slice h4
  exact ⟨B3, B4, d3, d4, rfl, h3, h4, hb⟩
def dL2 : Nat → Option Tmp
  | 0 => some 6
  | 1 => some 7
  | 2 => some 8
  | 3 => some 9
  | 4 => some 10
  | 5 => some 11
  | 6 => some 12
  | 7 => some 13
  | 8 => none
  | _ => none
def FL2 (g1 g3 c n : Nat) (A3 : Option Addr) (c3 hs : Nat) (l : List S40) : Nat → World → Value → Prop
  | 0, _, v => v = .pointer (some ⟨g1, 3, none⟩)
  | 1, _, v => v = .slice A3 n c3
  | 2, w, v => ∃ A9 c9, v = .slice A9 (fullI l).length c9 ∧ k40.R 40 w hs (fun _ => True) (.slice A9 (fullI l).length c9) (fullI l)
  | 3, _, v => v = .pointer (some ⟨g1, 3, none⟩)
  | 4, _, v => v = .slice A3 n c3
  | 5, _, v => v = .int .i64 (n : Int)
  | 6, w, v => ∃ A9 c9, v = .slice A9 n c9 ∧ k40.R 40 w hs (fun _ => True) (.slice A9 (fullI l).length c9) (fullI l)
  | 7, _, v => v = .pointer (some ⟨g3, 3, none⟩)
  | 8, _, v => v = undef
  | _, _, _ => True
end Go.Proofs.Ytmeaepmimnmjlaa.Ask
/- Lists that lie apart, of whatever element type: cells are stored, each list is grown, the old ones stay what they were. -/
namespace Go.Proofs.Ytmeaepmimnmjlaa.Grow
open Go.RowKit Go.Proofs.Ytmeaepmimnmjlaa.OwnCells Go.Proofs.YtmeaepmimnmjlaaW.PrintWords
set_option linter.unusedVariables false
def OwnOf (V : Nat → Value) (n : Nat) (b : Nat) : Prop := ∃ j, j < n ∧ (V j).ownBlock = some b
structure Hyp (V : Nat → Value) (n base : Nat) (Out : World → Prop) (w0 : World) : Prop where
  apart : ∀ i j b, i < n → j < n → i ≠ j → (V i).ownBlock = some b → (V j).ownBlock ≠ some b
  out : ∀ w w1 (T : Nat → Prop), But T w w1 → (∀ b, T b → OwnOf V n b ∨ w0.heap.size ≤ b) → Out w → Out w1
  base : base ≤ w0.heap.size
/-- what stands in the rows -/
structure St1 (e sz : Nat) (V : Nat → Value) (L : Nat → Nat) (n base : Nat) (Out : World → Prop) (w0 w : World) (X : Nat → List Value) : Prop where
  own : ∀ j, j < n → w.ownsRow base e sz (V j) (L j) (X j)
  outer : Out w
  but : But (OwnOf V n) w0 w
section
variable {e sz n base R : Nat} {V : Nat → Value} {L : Nat → Nat} {Out : World → Prop} {w0 w w1 : World} {X : Nat → List Value}
theorem St1.set (H : Hyp V n base Out w0) (h : St1 e sz V L n base Out w0 w X) {k g cap : Nat} (hk : k < n) (hV : V k = .slice (some ⟨g, 0, none⟩) (L k) cap) (q : Nat) (u : Value) :
    St1 e sz V L n base Out w0 (w.setCell ⟨g, q, none⟩ u) (fun j => if j = k then (X k).set q u else X j) := by
  have b1 := But.of_grown (setCell_grown w g q u)
  have hVk : (V k).ownBlock = some g := by rw [hV]; rfl
  refine ⟨fun j hj => ?_, H.out w _ _ b1 (fun b hb => .inl ⟨k, hk, hVk.trans hb⟩) h.outer, h.but.trans b1 (fun b hb => .inl ⟨k, hk, hVk.trans hb⟩)⟩
  by_cases e' : j = k
  · subst e'
    rw [if_pos rfl]
    have := h.own j hj
    rw [hV] at this ⊢
    exact own_set this q u
  · rw [if_neg e']
    refine b1.own (h.own j hj) (fun b hb he => ?_)
    have : some g = some b := he
    exact H.apart j k b hj hk e' hb (hVk.trans this)
/-- something else is written, or made -/
theorem St1.but_ (H : Hyp V n base Out w0) (h : St1 e sz V L n base Out w0 w X) {T : Nat → Prop} (b : But T w w1) (hV : ∀ j, j < n → ∀ b, (V j).ownBlock = some b → ¬ T b) (hT : ∀ b, T b → w0.heap.size ≤ b) : St1 e sz V L n base Out w0 w1 X :=
  ⟨fun j hj => b.own (h.own j hj) (hV j hj), H.out w _ _ b (fun q hq => .inr (hT q hq)) h.outer, h.but.trans b (fun q hq => .inr (hT q hq))⟩
end
theorem own_shorter {w : World} {base e sz n m cap : Nat} {b : Addr} {xs ys : List Value} (h : w.ownsRow base e sz (.slice (some b) n cap) n xs) (hm : m ≤ n) (hy : ys = xs.take (m * sz)) : w.ownsRow base e sz (.slice (some b) m cap) m ys := by
  subst hy
  refine ⟨by rw [List.length_take, h.1]; exact Nat.min_eq_left (Nat.mul_le_mul_right _ hm), ?_⟩
  rcases h.2 with ⟨h0, _⟩ | ⟨g, c, cur, he, hb, hg, h1, h2, h3, h4⟩
  · cases h0
  · cases he
    refine .inr ⟨g, cap, cur, rfl, hb, hg, by omega, h2, h3, ?_⟩
    rw [← h4, List.take_take, Nat.min_eq_left (Nat.mul_le_mul_right _ hm)]
structure St2 (e sz R : Nat) (cont : Nat → Nat → List Value) (V : Nat → Value) (L : Nat → Nat) (n base : Nat) (Out : World → Prop) (w0 w : World) (Gv : List Value) : Prop where
  own : ∀ j, j < n → w.ownsRow base e sz (V j) (L j) (cont j (L j))
  grown : ∀ j v, Gv[j]? = some v → j < n ∧ w.ownsRow base e sz v (L j + R) (cont j (L j + R)) ∧ ∀ i, i < n → i ≠ j → ∀ b, v.ownBlock = some b → (V i).ownBlock ≠ some b
  outer : Out w
  but : But (OwnOf V n) w0 w
/-- the list that grows -/
structure Cur (e sz : Nat) (cont : Nat → Nat → List Value) (V : Nat → Value) (L : Nat → Nat) (n base : Nat) (w0 w : World) (Gv : List Value) (k i : Nat) (u : Value) : Prop where
  own : w.ownsRow base e sz u (L k + i) (cont k (L k + i))
  link : u.ownBlock ≠ (V k).ownBlock ∨ (V k).ownBlock = none ∨ ∃ b c, V k = .slice (some b) (L k) c ∧ u = .slice (some b) (L k + i) c
  old : ∀ b, u.ownBlock = some b → (V k).ownBlock = some b ∨ w0.heap.size ≤ b
  others : ∀ i', i' < n → i' ≠ k → ∀ b, u.ownBlock = some b → (V i').ownBlock ≠ some b
  grown : ∀ (j : Nat) v, Gv[j]? = some v → ∀ b, u.ownBlock = some b → v.ownBlock ≠ some b
section
variable {e sz n base R : Nat} {cont : Nat → Nat → List Value} {V : Nat → Value} {L : Nat → Nat} {Out : World → Prop} {w0 w w1 : World} {Gv : List Value}
theorem own_type_ne2 {w : World} {b1 b2 e e' sz sz' : Nat} {v v' : Value} {n n' : Nat} {xs xs' : List Value} (h : w.ownsRow b1 e sz v n xs) (h' : w.ownsRow b2 e' sz' v' n' xs') (ht : e ≠ e') (b : Nat) (hb : v.ownBlock = some b) : v'.ownBlock ≠ some b := by
  intro hb'
  rcases own_type_ne h h' ht with h0 | h0
  · rw [hb] at h0; cases h0
  · exact h0 (hb.trans hb'.symm)
theorem St2.of1 {X : Nat → List Value} (h : St1 e sz V L n base Out w0 w X) (hX : ∀ j, j < n → X j = cont j (L j)) : St2 e sz R cont V L n base Out w0 w [] :=
  ⟨fun j hj => by rw [← hX j hj]; exact h.own j hj, fun j v hv => by simp at hv, h.outer, h.but⟩
theorem St2.but_ (H : Hyp V n base Out w0) (h : St2 e sz R cont V L n base Out w0 w Gv) {T : Nat → Prop} (b : But T w w1)
    (hV : ∀ j, j < n → ∀ b, (V j).ownBlock = some b → ¬ T b) (hG : ∀ (j : Nat) v, Gv[j]? = some v → ∀ b, v.ownBlock = some b → ¬ T b) (hT : ∀ b, T b → w0.heap.size ≤ b) : St2 e sz R cont V L n base Out w0 w1 Gv :=
  ⟨fun j hj => b.own (h.own j hj) (hV j hj), fun j v hv => ⟨(h.grown j v hv).1, b.own (h.grown j v hv).2.1 (hG j v hv), (h.grown j v hv).2.2⟩,
    H.out w _ _ b (fun q hq => .inr (hT q hq)) h.outer, h.but.trans b (fun q hq => .inr (hT q hq))⟩
theorem St2.far (H : Hyp V n base Out w0) (h : St2 e sz R cont V L n base Out w0 w Gv) (b : But (fun _ => False) w w1) : St2 e sz R cont V L n base Out w0 w1 Gv := h.but_ H b (fun _ _ _ _ h => h) (fun _ _ _ _ _ h => h) (fun _ h => h.elim)
theorem Cur.but_ {k i : Nat} {u : Value} (h : Cur e sz cont V L n base w0 w Gv k i u) {T : Nat → Prop} (b : But T w w1) (hT : ∀ b, u.ownBlock = some b → ¬ T b) : Cur e sz cont V L n base w0 w1 Gv k i u :=
  ⟨b.own h.own hT, h.link, h.old, h.others, h.grown⟩
/-- an element is appended to the list that grows -/
theorem grow_step (H : Hyp V n base Out w0) (hpre : ∀ k m, k < n → (cont k (L k + m)).take (L k * sz) = cont k (L k)) (h : St2 e sz R cont V L n base Out w0 w Gv) {k i : Nat} {u : Value} (hk : k < n) (hc : Cur e sz cont V L n base w0 w Gv k i u) {g cap : Nat}
    (h1 : w1.ownsRow base e sz (.slice (some ⟨g, 0, none⟩) (L k + i + 1) cap) (L k + i + 1) (cont k (L k + (i + 1)))) (h2 : w1.ownsRow base e sz u (L k + i) (cont k (L k + i)))
    (h3 : (u = .slice (some ⟨g, 0, none⟩) (L k + i) cap ∧ w.grownBy w1 (some g)) ∨ (w.heap.size ≤ g ∧ w.grownBy w1 none)) :
    St2 e sz R cont V L n base Out w0 w1 Gv ∧ Cur e sz cont V L n base w0 w1 Gv k (i + 1) (.slice (some ⟨g, 0, none⟩) (L k + i + 1) cap) ∧ But (fun b => u.ownBlock = some b) w w1 := by
  have hsz := h.but.size
  rcases h3 with ⟨rfl, hg⟩ | ⟨hge, hg⟩
  · have b := But.of_grown hg
    have hu : (Value.slice (some ⟨g, 0, none⟩) (L k + i) cap).ownBlock = some g := rfl
    have hT : ∀ q, some g = some q → OwnOf V n q ∨ w0.heap.size ≤ q := fun q hq => by
      rcases hc.old g rfl with ho | ho
      · exact .inl ⟨k, hk, ho.trans hq⟩
      · exact .inr (by rw [← Option.some.inj hq]; exact ho)
    refine ⟨⟨fun j hj => ?_, fun j v hv => ?_, H.out w _ _ b hT h.outer, h.but.trans b hT⟩, ⟨h1, ?_, fun q hq => hc.old q hq, fun j hj hjk q hq => hc.others j hj hjk q hq, fun j v hv q hq => hc.grown j v hv q hq⟩, b⟩
    · by_cases e' : j = k
      · subst e'
        rcases hc.link with hl | hl | ⟨a, c, e1, e2⟩
        · exact b.own (h.own j hj) (fun q hq hs => hl (hu.trans (Eq.trans hs hq.symm)))
        · exact b.own (h.own j hj) (fun q hq hs => by rw [hl] at hq; cases hq)
        · cases e2
          rw [e1]
          exact own_shorter h2 (by omega) (hpre _ _ hj).symm
      · exact b.own (h.own j hj) (fun q hq hs => hc.others j hj e' g rfl (hq.trans (Eq.symm hs)))
    · exact ⟨(h.grown j v hv).1, b.own (h.grown j v hv).2.1 (fun q hq hs => hc.grown j v hv g rfl (hq.trans (Eq.symm hs))), (h.grown j v hv).2.2⟩
    · rcases hc.link with hl | hl | ⟨a, c, e1, e2⟩
      · exact .inl hl
      · exact .inr (.inl hl)
      · cases e2
        exact .inr (.inr ⟨_, _, e1, rfl⟩)
  · have b : But (fun _ => False) w w1 := (But.of_grown hg).mono (fun q hq => by cases hq)
    refine ⟨h.far H b, ⟨h1, .inl (fun e' => ?_), fun q hq => ?_, fun j hj hjk q hq e' => ?_, fun j v hv q hq e' => ?_⟩, b.mono (fun _ h => h.elim)⟩
    · have hb := own_lt (h.own k hk) g e'.symm
      omega
    · have hq' : g = q := Option.some.inj hq
      exact .inr (by omega)
    · cases hq
      have hb := own_lt (h.own j hj) g e'
      omega
    · cases hq
      have hb := own_lt (h.grown j v hv).2.1 g e'
      omega
theorem Cur.start (H : Hyp V n base Out w0) (h : St2 e sz R cont V L n base Out w0 w Gv) {k : Nat} (hk : k < n) (hl : Gv.length ≤ k) : Cur e sz cont V L n base w0 w Gv k 0 (V k) := by
  refine ⟨h.own k hk, ?_, fun b hb => .inl hb, fun i hi hik b hb he => H.apart i k b hi hk hik he hb, fun j v hv b hb he => (h.grown j v hv).2.2 k hk (fun e' => ?_) b he hb⟩
  · obtain ⟨A, c, hA, _⟩ := own_form (h.own k hk)
    rw [hA]
    cases A with
    | none => exact .inr (.inl rfl)
    | some b => exact .inr (.inr ⟨b, c, rfl, rfl⟩)
  · have := (List.getElem?_eq_some_iff.1 hv).1
    omega
/-- a grown list is laid behind the others -/
theorem St2.snoc (h : St2 e sz R cont V L n base Out w0 w Gv) {k : Nat} {u : Value} (hk : k < n) (hl : Gv.length = k) (hc : Cur e sz cont V L n base w0 w Gv k R u) : St2 e sz R cont V L n base Out w0 w (Gv ++ [u]) := by
  refine ⟨h.own, fun j v hv => ?_, h.outer, h.but⟩
  rcases Nat.lt_or_ge j Gv.length with hj | hj
  · rw [List.getElem?_append_left hj] at hv
    exact h.grown j v hv
  · rw [List.getElem?_append_right hj] at hv
    have : j - Gv.length = 0 := by
      have := (List.getElem?_eq_some_iff.1 hv).1
      simp at this
      omega
    rw [this] at hv
    obtain rfl : u = v := by simpa using hv
    obtain rfl : j = k := by omega
    exact ⟨hk, hc.own, fun i hi hij b hb => hc.others i hi hij b hb⟩
end
theorem cells_new (W : World) (cs : List Value) (e : TypeId) : ∀ j u, cs[j]? = some u → (W.alloc (.cells cs.toArray e)).cell? ((⟨W.heap.size, 0, none⟩ : Addr).add j) = some u := by
  intro j u h
  rw [add_plain]
  unfold World.cell? World.alloc
  simp [h]
theorem but_alloc (w : World) (o : Obj) : But (fun _ => False) w (w.alloc o) := But.of_below (below_alloc (Below.refl _ _) o)
/-! elements laid one behind the other -/
def cat (f : Nat → List Value) : Nat → List Value
  | 0 => []
  | n + 1 => cat f n ++ f n
end Go.Proofs.Ytmeaepmimnmjlaa.Grow
/- ApartInts' contract: lists of numbers that lie apart, each in a block of its own, are found to lie apart; nothing else is written. For every world. -/
namespace Go.Proofs.Ytmeaepmimnmjlaa.Ask
open Go.RowKit Go.Proofs.Ytmeaepmimnmjlaa.PGb Go.Proofs.Ytmeaepmimnmjlaa.Lit Go.Proofs.Ytmeaepmimnmjlaa.OwnCells Go.Proofs.Ytmeaepmimnmjlaa.Grow Go.Proofs.YtmeaepmimnmjlaaW.PrintWords Go.Proofs.YtmeaepmimnmjlaaW.PrintLast Go.Proofs.YtmeaepmimnmjlaaW.PrintMore
set_option linter.unusedVariables false
set_option linter.unusedSimpArgs false
def OutA (V : Nat → Value) (n : Nat) (ad : Option Addr) (N : Nat) (w : World) : Prop := ∀ j, j < n → ∃ a, ad = some a ∧ w.cell? (a.add j) = some (V j) ∧ a.block < N
theorem add_block9 (a : Addr) (j : Nat) : (a.add j).block = a.block := by unfold Addr.add; split <;> rfl
theorem outA_but {V : Nat → Value} {n N : Nat} {ad : Option Addr} (far : ∀ a b, ad = some a → OwnOf V n b → a.block ≠ b) : ∀ w w1 (T : Nat → Prop), But T w w1 → (∀ b, T b → OwnOf V n b ∨ N ≤ b) → OutA V n ad N w → OutA V n ad N w1 := by
  intro w w1 T hb hT h j hj
  obtain ⟨a, ha, hc, hl⟩ := h j hj
  refine ⟨a, ha, hb.cell hc (fun ht => ?_), hl⟩
  rcases hT _ ht with h1 | h1
  · rw [add_block9] at h1; exact far a _ ha h1 rfl
  · rw [add_block9] at h1; omega
/-- m marks of the k-th list -/
def mks (k m : Nat) : List Value := (List.range m).map fun (i : Nat) => Value.int .i64 (1000003 * ((k : Int) + 1) + (i : Int))
theorem mks_len (k m : Nat) : (mks k m).length = m := by simp [mks]
theorem mks_get (k m : Nat) {q : Nat} (h : q < m) : (mks k m)[q]? = some (.int .i64 (1000003 * ((k : Int) + 1) + (q : Int))) := by simp [mks, h]
theorem mks_succ (k m : Nat) : mks k (m + 1) = mks k m ++ [.int .i64 (1000003 * ((k : Int) + 1) + (m : Int))] := by simp [mks, List.range_succ]
theorem mks_take (k n m : Nat) : (mks k (n + m)).take (n * 1) = mks k n := by
  unfold mks
  rw [Nat.mul_one, ← List.map_take, List.take_range, Nat.min_eq_left (Nat.le_add_right n m)]
theorem mks_set (k i : Nat) (R : List Value) (h : 1 ≤ R.length) : (mks k i ++ R).set i (.int .i64 (1000003 * ((k : Int) + 1) + (i : Int))) = mks k (i + 1) ++ R.drop 1 := by
  match R, h with
  | x :: r, _ =>
    have hl := mks_len k i
    rw [List.set_append_right _ _ (by omega), hl, Nat.sub_self, mks_succ, List.append_assoc]; rfl
structure AHyp (V : Nat → Value) (L : Nat → Nat) (n base : Nat) (ad : Option Addr) (w0 : World) : Prop where
  hyp : Hyp V n base (OutA V n ad w0.heap.size) w0
  lim : n ≤ 4194304
  lims : ∀ j, j < n → L j ≤ 4194304
set_option maxHeartbeats 4000000 in
set_option maxRecDepth 100000 in
theorem apart_ints (V : Nat → Value) (L : Nat → Nat) (n base : Nat) (ad : Option Addr) (c : Nat) (w : World) (X : Nat → List Value) (hyp : AHyp V L n base ad w) (hst : St1 3 1 V L n base (OutA V n ad w.heap.size) w w X) :
    Calls Try.prog 18 #[.slice ad n c] w fun e w' => e = .returned (.bool true) ∧ But (OwnOf V n) w w' := by
  have HY := Aside0.mk hyp
  have HS := Aside0.mk hst
  have hn := hyp.lim
  clear hyp hst
  go_enter Try.func18, Try.ntmps18
  go_wp2
  go_loopw [3, 4] (fun t _ wr => ∃ k : Nat, k ≤ n ∧ t = .int .i64 k ∧ ∃ X, St1 3 1 V L n base (OutA V n ad w.heap.size) w wr X ∧ ∀ j, j < k → X j = mks j (L j)) (fun t _ _ => n - (intOf t).toNat)
  case atStart => exact ⟨0, Nat.zero_le _, rfl, X, HS.out, fun j hj => absurd hj (by omega)⟩
  case round =>
    obtain ⟨k, hk, rfl, X, hS, hX⟩ := hrel
    have HS1 := Aside0.mk hS
    have HX := Aside0.mk hX
    clear hS hX
    by_cases hlt : k < n
    · go_wp2
      obtain ⟨a, rfl, hcell0, _⟩ := HS1.out.outer k hlt
      have hlk := HY.out.lims k hlt
      obtain ⟨A, cp, hVk, hcp⟩ := own_form (HS1.out.own k hlt)
      have HV := Aside0.mk hVk
      have HC0 := Aside0.mk hcell0
      clear hVk hcell0
      obtain ⟨wo, rfl⟩ : ∃ wo : World, wo = wr := ⟨_, rfl⟩
      go_loopw [4] (fun t wr => ∃ i : Nat, i ≤ L k ∧ t = .int .i64 i ∧ ∃ X, St1 3 1 V L n base (OutA V n (some a) w.heap.size) w wr X ∧ (∀ j, j < k → X j = mks j (L j)) ∧ ∃ R, X k = mks k i ++ R) (fun t _ => L k - (intOf t).toNat)
      case atStart => exact ⟨0, Nat.zero_le _, rfl, X, HS1.out, HX.out, X k, (by simp [mks])⟩
      case round =>
        obtain ⟨i, hi, rfl, X2, hS2, hX2, R, hR⟩ := hrel
        obtain ⟨a', ha', hcell, _⟩ := hS2.outer k hlt
        obtain rfl := Option.some.inj ha'
        clear ha'
        rw [HV.out] at hcell
        have HS2 := Aside0.mk hS2
        have HX2 := Aside0.mk hX2
        have HR := Aside0.mk hR
        clear hS2 hX2 hR
        by_cases hil : i < L k
        · obtain ⟨g, cp', hVg, _, _⟩ := (HS2.out.own k hlt).form (by omega)
          have hVe := HV.out
          rw [hVg] at hVe
          cases hVe
          have hlen : (X2 k).length = L k * 1 := (HS2.out.own k hlt).1
          have ho := HS2.out.own k hlt
          rw [hVg] at ho
          have HVg := Aside0.mk hVg
          obtain ⟨p0, f0⟩ := own_cell ho i _ (List.getElem?_eq_getElem (by omega))
          generalize (X2 k)[i] = x0 at p0
          have hlen' := Aside0.mk hlen
          clear ho hVg hlen
          go_wp2
          go_roundw
          case rel =>
            refine ⟨i + 1, by omega, by go_num, _, HS2.out.set HY.out.hyp hlt HVg.out i _, fun j hj => ?_, R.drop 1, ?_⟩
            · show (if j = k then _ else X2 j) = _
              rw [if_neg (by omega)]
              exact HX2.out j hj
            · show (if k = k then _ else X2 k) = _
              rw [if_pos rfl, HR.out]
              exact mks_set k i R (by have := hlen'.out; rw [HR.out, List.length_append, mks_len] at this; omega)
          case measure => simp [intOf]; omega
        · obtain rfl : i = L k := by omega
          go_wp2
          go_roundw
          case rel =>
            refine ⟨k + 1, by omega, by go_num, X2, HS2.out, fun j hj => ?_⟩
            rcases Nat.lt_or_ge j k with h | h
            · exact HX2.out j h
            · obtain rfl : j = k := by omega
              have h1 := (HS2.out.own j hlt).1
              rw [HR.out, List.length_append, mks_len] at h1
              rw [HR.out, List.eq_nil_of_length_eq_zero (show R.length = 0 by omega), List.append_nil]
          case measure => simp [intOf]; omega
    · obtain rfl : k = n := by omega
      have HS2 := Aside0.mk (St2.of1 (R := 64) (cont := mks) HS1.out HX.out)
      clear HS1 HX HS X hk hlt
      go_wp2
      go_loopw [5, 6, 7, 8] (fun gv t _ _ wr => ∃ j : Nat, j ≤ k ∧ t = .int .i64 j ∧ ∃ Gv, Gv.length = j ∧ St2 3 1 64 mks V L k base (OutA V k ad w.heap.size) w wr Gv ∧ wr.ownsRow w.heap.size 26 1 gv j Gv) (fun _ t _ _ _ => k - (intOf t).toNat)
      case atStart => exact ⟨0, Nat.zero_le _, rfl, [], rfl, HS2.out, World.ownsRow_nil _ _ _ _⟩
      case round =>
        obtain ⟨j, hj, rfl, Gv, hG, hS, hO⟩ := hrel
        have HG := Aside0.mk hG
        have HS3 := Aside0.mk hS
        have HO := Aside0.mk hO
        clear hG hS hO
        by_cases hjk : j < k
        · obtain ⟨a, had, hcell, hal⟩ := HS3.out.outer j hjk
          subst had
          obtain ⟨A, cp, hVj, hcp⟩ := own_form (HS3.out.own j hjk)
          rw [hVj] at hcell
          have HV := Aside0.mk hVj
          have hlj := HY.out.lims j hjk
          clear hVj
          go_wp2
          clear hcell
          obtain ⟨wo, rfl⟩ : ∃ wo : World, wo = wr := ⟨_, rfl⟩
          go_loopw [7, 8] (fun u t wr => ∃ i : Nat, i ≤ 64 ∧ t = .int .i64 i ∧ St2 3 1 64 mks V L k base (OutA V k (some a) w.heap.size) w wr Gv ∧ Cur 3 1 mks V L k base w wr Gv j i u ∧ wr.ownsRow w.heap.size 26 1 u5 j Gv) (fun _ t _ => 64 - (intOf t).toNat)
          case atStart => exact ⟨0, by omega, rfl, HS3.out, HV.out ▸ Cur.start HY.out.hyp HS3.out hjk (by have := HG.out; omega), HO.out⟩
          case round =>
            obtain ⟨i, hi, rfl, hS, hC, hO⟩ := hrel
            have HS4 := Aside0.mk hS
            have HC4 := Aside0.mk hC
            have HO4 := Aside0.mk hO
            obtain ⟨a', ha', hcell, _⟩ := hS.outer j hjk
            obtain rfl := Option.some.inj ha'
            rw [HV.out] at hcell
            clear hS hC hO ha'
            by_cases hil : i < 64
            · obtain ⟨i0, hi0, hz⟩ := Option.map_eq_some_iff.1 info3
              simp only [Prod.mk.injEq] at hz
              have HI := Aside0.mk hi0
              have HZ := Aside0.mk hz
              clear hi0 hz
              go_wp2_with (first | ((with_reducible refine gate_builtin (b := .append) (xs := #[.tmp 52, .tmp 64]) rfl ?_); at_builtin; refine wpList_append_two rfl (.tmp 52) (.tmp 64) 26 rfl base 3 i0 (.int .i64 0) 1 8 Try.underlying26 HI.out HZ.out.1 HZ.out.2.1 HZ.out.2.2 rfl (by decide) u7 (L j + i) (mks j (L j + i)) rfl ?aO ⟨wr.heap.size, 0, none⟩ 1 1 [.int .i64 (1000003 * ((j : Int) + 1) + (L j : Int) + (i : Int))] rfl rfl (cells_new wr _ 3) ?aU (by decide) ?aL ?aB ?aH ?_; (case aO => exact (HC4.out.but_ (but_alloc wr _) (fun _ _ h => h)).own); (case aU => simp [Value.oneCell']); (case aL => unfold maxLen; omega); (case aB => omega); (case aH => have := HY.out.hyp.base; have := HS4.out.but.size; simp; omega); intro g cap w9 q1 q2 q3; have Q := Aside0.mk (And.intro q1 (And.intro q2 q3)); clear q1 q2 q3))
              go_roundw
              case rel =>
                obtain ⟨q1, q2, q3⟩ := Q.out
                have e1 : mks j (L j + i) ++ [.int .i64 (1000003 * ((j : Int) + 1) + (L j : Int) + (i : Int))] = mks j (L j + (i + 1)) := by
                  rw [← Nat.add_assoc, mks_succ, Int.add_assoc, Int.natCast_add]
                rw [e1] at q1
                have ba := but_alloc wr (.cells #[.int .i64 (1000003 * ((j : Int) + 1) + (L j : Int) + (i : Int))] 3)
                have S1 := HS4.out.but_ HY.out.hyp ba (fun _ _ _ _ h => h) (fun _ _ _ _ _ h => h) (fun _ h => h.elim)
                obtain ⟨S2, C2, b2⟩ := grow_step HY.out.hyp (fun k m _ => mks_take k (L k) m) S1 hjk (HC4.out.but_ ba (fun _ _ h => h)) q1 q2 q3
                exact ⟨i + 1, by omega, by go_num, S2, C2, b2.own (ba.own HO4.out (fun _ _ h => h)) (fun b hb hs => own_type_ne2 HO4.out HC4.out.own (by decide) b hb hs)⟩
              case measure => simp [intOf]; omega
            · obtain rfl : i = 64 := by omega
              obtain ⟨A7, c7, rfl, hc7⟩ := own_form HC4.out.own
              obtain ⟨i1, hi1, hz⟩ := Option.map_eq_some_iff.1 info26
              simp only [Prod.mk.injEq] at hz
              have HI := Aside0.mk hi1
              have HZ := Aside0.mk hz
              clear hi1 hz
              go_wp2_with (first | ((with_reducible refine gate_builtin (b := .append) (xs := #[.tmp 66, .tmp 68]) rfl ?_); at_builtin; refine wpList_append_two rfl (.tmp 66) (.tmp 68) 27 rfl w.heap.size 26 i1 (.slice none 0 0) 1 24 Try.underlying27 HI.out HZ.out.1 HZ.out.2.1 HZ.out.2.2 rfl (by decide) u5 j Gv rfl ?bO ⟨wr.heap.size, 0, none⟩ 1 1 [.slice A7 (L j + 64) c7] rfl rfl (cells_new wr _ 26) ?bU (by decide) ?bL ?bB ?bH ?_; (case bO => exact (but_alloc wr _).own HO4.out (fun _ _ h => h)); (case bU => simp [Value.oneCell']); (case bL => unfold maxLen; omega); (case bB => omega); (case bH => have := HS4.out.but.size; simp; omega); intro g cap w9 q1 q2 q3; have Q := Aside0.mk (And.intro q1 (And.intro q2 q3)); clear q1 q2 q3))
              go_roundw
              case rel =>
                obtain ⟨q1, q2, q3⟩ := Q.out
                have ba := but_alloc wr (.cells #[.slice A7 (L j + 64) c7] 26)
                have S1 := HS4.out.but_ HY.out.hyp ba (fun _ _ _ _ h => h) (fun _ _ _ _ _ h => h) (fun _ h => h.elim)
                have C1 := HC4.out.but_ ba (fun _ _ h => h)
                have O1 := ba.own HO4.out (fun _ _ h => h)
                have S2 := S1.snoc hjk HG.out C1
                have b2 : But (fun b => u5.ownBlock = some b) (wr.alloc (.cells #[.slice A7 (L j + 64) c7] 26)) w9 := by
                  rcases q3 with ⟨e, hg⟩ | ⟨_, hg⟩
                  · rw [e]; exact But.of_grown hg
                  · exact (But.of_grown hg).mono (fun q hq => by cases hq)
                refine ⟨j + 1, by omega, by go_num, Gv ++ [.slice A7 (L j + 64) c7], by rw [List.length_append, HG.out]; rfl, S2.but_ HY.out.hyp b2 (fun i hi b hb hs => own_type_ne2 O1 (S2.own i hi) (by decide) b hs hb) (fun i v hv b hb hs => own_type_ne2 O1 (S2.grown i v hv).2.1 (by decide) b hs hb) (fun b hb => own_base O1 b hb), q1⟩
              case measure => simp [intOf]; omega
        · obtain rfl : j = k := by omega
          clear hj hjk
          go_wp2
          go_loopw [9, 10, 11] (fun t _ _ wr => ∃ p : Nat, p ≤ j ∧ t = .int .i64 p ∧ St2 3 1 64 mks V L j base (OutA V j ad w.heap.size) w wr Gv ∧ wr.ownsRow w.heap.size 26 1 u5 j Gv) (fun t _ _ _ => j - (intOf t).toNat)
          case atStart => exact ⟨0, Nat.zero_le _, rfl, HS3.out, HO.out⟩
          case round =>
            obtain ⟨p, hp, rfl, hS, hO⟩ := hrel
            have HS5 := Aside0.mk hS
            have HO5 := Aside0.mk hO
            clear hS hO
            by_cases hpj : p < j
            · have hGl := HG.out
              obtain ⟨g5, cp5, rfl, _, _⟩ := HO5.out.form (by omega)
              obtain ⟨v, hv⟩ : ∃ v, Gv[p]? = some v := ⟨_, List.getElem?_eq_getElem (by omega)⟩
              obtain ⟨b, cb, rfl, _, _⟩ := (HS5.out.grown p v hv).2.1.form (by omega)
              obtain ⟨a, had, hcell0, _⟩ := HS5.out.outer p hpj
              subst had
              obtain ⟨A, cp, hVj, hcp⟩ := own_form (HS5.out.own p hpj)
              have HV := Aside0.mk hVj
              have HVC := Aside0.mk hv
              have hlj := HY.out.lims p hpj
              clear hVj hv hcell0 hGl
              go_wp2
              obtain ⟨wo, rfl⟩ : ∃ wo : World, wo = wr := ⟨_, rfl⟩
              go_loopw [10, 11] (fun t _ wr => ∃ q : Nat, q ≤ L p + 64 ∧ t = .int .i64 q ∧ St2 3 1 64 mks V L j base (OutA V j (some a) w.heap.size) w wr Gv ∧ wr.ownsRow w.heap.size 26 1 (.slice (some ⟨g5, 0, none⟩) j cp5) j Gv) (fun t _ _ => L p + 64 - (intOf t).toNat)
              case atStart => exact ⟨0, by omega, rfl, HS5.out, HO5.out⟩
              case round =>
                obtain ⟨q, hq, rfl, hS, hO⟩ := hrel
                have HS6 := Aside0.mk hS
                have HO6 := Aside0.mk hO
                obtain ⟨a', ha', hcell, _⟩ := hS.outer p hpj
                obtain rfl := Option.some.inj ha'
                rw [HV.out] at hcell
                have hgs := (own_cell hO p _ HVC.out).1
                have hgo := (hS.grown p _ HVC.out).2.1
                have hvo := hS.own p hpj
                rw [HV.out] at hvo
                clear hS hO ha'
                by_cases hql : q < L p + 64
                · have x0 := (own_cell hgo q _ (mks_get _ _ hql)).1
                  clear hgo
                  have hE : ((1000003 * ((p : Int) + 1) + (q : Int)) != (1000003 * ((p : Int) + 1) + (q : Int))) = false := by simp
                  by_cases hqs : q < L p
                  · obtain ⟨gv, cv, hAv, _, _⟩ := hvo.form (by omega)
                    cases hAv
                    have y0 := (own_cell hvo q _ (mks_get _ _ hqs)).1
                    have hd : decide (q < L p) = true := decide_eq_true hqs
                    clear hvo
                    go_wp2
                    go_roundw
                    case rel => exact ⟨q + 1, by omega, by go_num, HS6.out, HO6.out⟩
                    case measure => simp [intOf]; omega
                  · have hd : decide (q < L p) = false := decide_eq_false hqs
                    clear hvo hqs
                    go_wp2
                    go_roundw
                    case rel => exact ⟨q + 1, by omega, by go_num, HS6.out, HO6.out⟩
                    case measure => simp [intOf]; omega
                · obtain rfl : q = L p + 64 := by omega
                  clear hgo hvo
                  go_wp2
                  go_roundw
                  case rel => exact ⟨p + 1, by omega, by go_num, HS6.out, HO6.out⟩
                  case measure => simp [intOf]; omega
            · go_wp2
              go_ret
              exact ⟨rfl, HS5.out.but⟩
end Go.Proofs.Ytmeaepmimnmjlaa.Ask
/- Proved: GraphMemory (R4): of every two functions that read 1048576 things at most, what the program's Build answers lies apart, list by list, spare room too, and is the reference's graph. -/
namespace Go.Proofs.Ytmeaepmimnmjlaa.Ask
open Go.Proofs.Ytmeaepmimnmjlaa.Dfs Go.Proofs.Ytmeaepmimnmjlaa.Dom Go.Proofs.Ytmeaepmimnmjlaa.DomT Go.RowKit Go.Shelf Go.Proofs.Ytmeaepmimnmjlaa.PGb Go.Proofs.Ytmeaepmimnmjlaa.Lit Go.Proofs.Ytmeaepmimnmjlaa.OwnCells Go.Proofs.Ytmeaepmimnmjlaa.Grow Go.Proofs.YtmeaepmimnmjlaaW.PrintWords Go.Proofs.YtmeaepmimnmjlaaW.PrintLast Go.Proofs.YtmeaepmimnmjlaaW.PrintMore
attribute [local go_sem] Oper.semAt_some
set_option linter.unusedVariables false
set_option linter.unusedSimpArgs false
/-- the two functions' boxes -/
structure LW (w W : World) (cf co : Array Value) : Prop where
  fb : W.heap[w.heap.size]? = some (.cells cf 25 (0, 0))
  ob : W.heap[w.heap.size + 1]? = some (.cells co 25 (0, 0))
  below : Below w.heap.size w W
theorem LW.from_ {w W W' : World} {cf co : Array Value} (h : LW w W cf co) (hb : Below W.heap.size W W') : LW w W' cf co := ⟨blk_below h.fb hb, blk_below h.ob hb, h.below.trans (hb.mono h.below.size)⟩
theorem Held.now {w w' : World} {v : Value} {st : List Int} {nx : List (List Int)} {ord l hd : List Int} (h : Held w w' v st nx ord l hd) : GR w' v st nx ord l hd := h w' (Nat.le_refl _) fun _ _ _ h _ => h
theorem apt_slice {W : World} {lo hi : Nat} {ps : List (Value × Nat)} (h : Apt W lo hi ps) {v : Value} {n : Nat} (hp : (v, n) ∈ ps) : ∃ A c, v = .slice A n c := by
  obtain ⟨⟨xs, h1⟩, _⟩ := h.each (v, n) hp
  exact row_slice h1
theorem apart_of {W : World} {lo hi gl cap BL : Nat} {ps : List (Value × Nat)} (h : Apt W lo hi ps) (ho : W.ownsRow BL 26 1 (.slice (some ⟨gl, 0, none⟩) ps.length cap) ps.length (ps.map (·.1))) (hl : ps.length ≤ 4194304) (hlo : lo ≤ W.heap.size) :
    Calls Try.prog 18 #[.slice (some ⟨gl, 0, none⟩) ps.length cap] W fun e w' => e = .returned (.bool true) ∧ But (fun b => ∃ p ∈ ps, p.1.ownBlock = some b) W w' := by
  have hv : ∀ j (hj : j < ps.length), ps.getD j (undef, 0) = ps[j] := fun j hj => by rw [List.getD_eq_getElem?_getD, List.getElem?_eq_getElem hj]; rfl
  have hX : ∀ j : Nat, ∃ xs, j < ps.length → W.ownsRow lo 3 1 (ps.getD j (undef, 0)).1 (ps.getD j (undef, 0)).2 xs := fun j => by
    by_cases hj : j < ps.length
    · rw [hv j hj]
      obtain ⟨⟨xs, h1⟩, _⟩ := h.each ps[j] (List.getElem_mem hj)
      exact ⟨xs, fun _ => h1⟩
    · exact ⟨[], fun h => absurd h hj⟩
  obtain ⟨X, hX⟩ := Classical.axiomOfChoice hX
  have hfar : ∀ a b, (some ⟨gl, 0, none⟩ : Option Addr) = some a → OwnOf (fun j => (ps.getD j (undef, 0)).1) ps.length b → a.block ≠ b := fun a b ha hb => by
    cases ha
    obtain ⟨j, hj, hjb⟩ := hb
    intro e
    exact own_type_ne2 ho (hX j hj) (by decide) gl rfl (by rw [hjb, ← e])
  have hap : ∀ i j b, i < ps.length → j < ps.length → i ≠ j → (ps.getD i (undef, 0)).1.ownBlock = some b → (ps.getD j (undef, 0)).1.ownBlock ≠ some b := fun i j b hi hj hij h1 h2 => by
    rw [hv i hi] at h1
    rw [hv j hj] at h2
    have ha := h.apart
    rw [List.pairwise_iff_getElem] at ha
    rcases Nat.lt_or_ge i j with h3 | h3
    · exact ha i j hi hj h3 b h1 h2
    · exact ha j i hj hi (by omega) b h2 h1
  refine (apart_ints (fun j => (ps.getD j (undef, 0)).1) (fun j => (ps.getD j (undef, 0)).2) ps.length lo (some ⟨gl, 0, none⟩) cap W X ⟨⟨hap, outA_but hfar, hlo⟩, hl, fun j hj => ?_⟩ ⟨fun j hj => hX j hj, fun j hj => ?_, But.refl _ _⟩).mono ?_
  · rw [hv j hj]
    have := (h.each ps[j] (List.getElem_mem hj)).2.2
    omega
  · refine ⟨_, rfl, ?_, own_lt ho gl rfl⟩
    show W.cell? _ = some (ps.getD j (undef, 0)).1
    rw [add_plain, hv j hj]
    have := (own_cell ho j ps[j].1 (by rw [List.getElem?_map, List.getElem?_eq_getElem hj]; rfl)).1
    simpa using this
  · rintro e w' ⟨he, hB⟩
    refine ⟨he, hB.mono fun b hb => ?_⟩
    obtain ⟨j, hj, hjb⟩ := hb
    replace hjb : (ps.getD j (undef, 0)).1.ownBlock = some b := hjb
    rw [hv j hj] at hjb
    exact ⟨_, List.getElem_mem hj, hjb⟩
def tri3 {α : Type} (a b c : α) : Nat → α
  | 0 => a
  | 1 => b
  | _ => c
def acc3 (T : Nat → List (Value × Nat)) : Nat → List (Value × Nat)
  | 0 => []
  | k + 1 => acc3 T k ++ T k
set_option maxHeartbeats 16000000 in
set_option maxRecDepth 100000 in
theorem portagelaw09_GraphMemory.calls (nm : ByteArray) (pa lo : Int) (A3 : Option Addr) (c3 : Nat) (code : List S40) (A4 : Option Addr) (c4 : Nat) (hs : List S49) (nm2 : ByteArray) (pa2 lo2 : Int) (O3 : Option Addr) (e3 : Nat) (code2 : List S40) (O4 : Option Addr) (e4 : Nat) (hs2 : List S49) (r : Bool) (w : World) (hC : k40.C w A3 code.length code) (hc3 : code.length ≤ c3) (hH : k49.C w A4 hs.length hs) (hc4 : hs.length ≤ c4) (hO : k40.C w O3 code2.length code2) (ho3 : code2.length ≤ e3) (hO4 : k49.C w O4 hs2.length hs2) (ho4 : hs2.length ≤ e4) (h : (code.length ≤ 1048576 ∧ hs.length ≤ 1048576 ∧ code2.length ≤ 1048576 ∧ hs2.length ≤ 1048576) ∧ r = true) :
    Calls Try.prog 4 #[.agg #[.string nm, .int .i64 pa, .int .i64 lo, .slice A3 code.length c3, .slice A4 hs.length c4], .agg #[.string nm2, .int .i64 pa2, .int .i64 lo2, .slice O3 code2.length e3, .slice O4 hs2.length e4]] w fun e w' => e = .returned (.bool r) ∧ Below w.heap.size w w' := by
  obtain ⟨⟨hn, hh, hn2, hh2⟩, rfl⟩ := h
  have HC := Aside0.mk hC
  have HH := Aside0.mk hH
  have HC3 := Aside0.mk hc3
  have HC4 := Aside0.mk hc4
  have HO := Aside0.mk hO
  have HO4 := Aside0.mk hO4
  have HO3' := Aside0.mk ho3
  have HO4' := Aside0.mk ho4
  have HN := Aside0.mk hn
  have HHN := Aside0.mk hh
  have HN2 := Aside0.mk hn2
  have HHN2 := Aside0.mk hh2
  clear hC hH hc3 hc4 hO ho3 hO4 ho4 hn hh hn2 hh2
  have hu25 := Try.underlying25
  have hu29 := Try.underlying29
  have hu40 := Try.underlying40
  go_enter Try.func4, Try.ntmps4
  go_upto_region 1 with (fail)
  obtain ⟨cf, hcf⟩ : ∃ cf : Array Value, (#[.string nm, .int .i64 pa, .int .i64 lo, .slice A3 code.length c3, .slice A4 hs.length c4] : Array Value) = cf := ⟨_, rfl⟩
  obtain ⟨co, hco⟩ : ∃ co : Array Value, (#[.string nm2, .int .i64 pa2, .int .i64 lo2, .slice O3 code2.length e3, .slice O4 hs2.length e4] : Array Value) = co := ⟨_, rfl⟩
  have kf0 : cf[0]? = some (.string nm) := by rw [← hcf]; rfl
  have ko0 : co[0]? = some (.string nm2) := by rw [← hco]; rfl
  have kf1 : cf[1]? = some (.int .i64 pa) := by rw [← hcf]; rfl
  have ko1 : co[1]? = some (.int .i64 pa2) := by rw [← hco]; rfl
  have kf2 : cf[2]? = some (.int .i64 lo) := by rw [← hcf]; rfl
  have ko2 : co[2]? = some (.int .i64 lo2) := by rw [← hco]; rfl
  have kf3 : cf[3]? = some (.slice A3 code.length c3) := by rw [← hcf]; rfl
  have ko3 : co[3]? = some (.slice O3 code2.length e3) := by rw [← hco]; rfl
  have kf4 : cf[4]? = some (.slice A4 hs.length c4) := by rw [← hcf]; rfl
  have ko4 : co[4]? = some (.slice O4 hs2.length e4) := by rw [← hco]; rfl
  rw [hcf, hco]
  have hb : Below w.heap.size w ((w.alloc (.cells cf 25)).alloc (.cells co 25)) := below_alloc (below_alloc (Below.refl _ _) _) _
  have h1 : ((w.alloc (.cells cf 25)).alloc (.cells co 25)).heap[w.heap.size]? = some (.cells cf 25 (0, 0)) := ((World.grownBy_alloc (w.alloc _) _ none).block _ (by simp) (by simp)).trans (World.alloc_heap_new w _)
  have h2 : ((w.alloc (.cells cf 25)).alloc (.cells co 25)).heap[w.heap.size + 1]? = some (.cells co 25 (0, 0)) := by
    have := World.alloc_heap_new (w.alloc (.cells cf 25)) (.cells co 25)
    rw [World.size_alloc] at this
    exact this
  have HL0 : Aside0 (LW w ((w.alloc (.cells cf 25)).alloc (.cells co 25)) cf co) := ⟨⟨h1, h2, hb⟩⟩
  have HKF := Aside0.mk (And.intro kf0 (And.intro kf1 (And.intro kf2 (And.intro kf3 kf4))))
  have HKO := Aside0.mk (And.intro ko0 (And.intro ko1 (And.intro ko2 (And.intro ko3 ko4))))
  clear kf0 ko0 kf1 ko1 kf2 ko2 kf3 ko3 kf4 ko4 hb h1 h2 hcf hco
  revert HL0
  generalize (w.alloc (.cells cf 25)).alloc (.cells co 25) = W0
  intro HL0
  have f0 := cell_blk HL0.out.fb HKF.out.1
  have f1 := cell_blk HL0.out.fb HKF.out.2.1
  have f2 := cell_blk HL0.out.fb HKF.out.2.2.1
  have f3 := cell_blk HL0.out.fb HKF.out.2.2.2.1
  have f4 := cell_blk HL0.out.fb HKF.out.2.2.2.2
  go_wp2_with (fail)
  refine (ref_build HN.out (by have := HHN.out; omega) (Kd.C_below HC.out HL0.out.below) HC3.out (Kd.C_below HH.out HL0.out.below) HC4.out).mono ?_
  rintro e w1 ⟨v1, st, nx, ord, l, hd, rfl, hz1, hr1, hb1⟩
  have HL1 := Aside0.mk (HL0.out.from_ hb1)
  have HZ1 := Aside0.mk hz1
  have HS1 := Aside0.mk (hz1.small HN.out)
  obtain ⟨a0, a1, a2, a3, a4, k0, k1, k2, k3, k4, ev1, _⟩ := id hr1
  subst ev1
  have HR1 := Aside0.mk hr1
  obtain ⟨E1, hE1⟩ : ∃ E1, errOf code hs = E1 := ⟨_, rfl⟩
  rw [hE1]
  have HE1 := Aside0.mk hE1
  clear hz1 hr1 hb1 hE1 HL0 f0 f1 f2 f3 f4
  go_upto_region 2 with (fail)
  have hb := below_alloc (Below.refl _ w1) (.cells #[.slice a0 st.length k0, .slice a1 nx.length k1, .slice a2 ord.length k2, .slice a3 l.length k3, .slice a4 hd.length k4] 29)
  have HB5 := Aside0.mk (World.alloc_heap_new w1 (.cells #[.slice a0 st.length k0, .slice a1 nx.length k1, .slice a2 ord.length k2, .slice a3 l.length k3, .slice a4 hd.length k4] 29))
  have HL1' := Aside0.mk (HL1.out.from_ hb)
  have HR1' := Aside0.mk (HR1.out.below hb)
  clear hb HL1 HR1
  revert HB5
  revert HL1'
  revert HR1'
  generalize w1.alloc (.cells #[.slice a0 st.length k0, .slice a1 nx.length k1, .slice a2 ord.length k2, .slice a3 l.length k3, .slice a4 hd.length k4] 29) = W1
  generalize w1.heap.size = G5
  intro HR1 HL1 HB5
  have HB11 := Aside0.mk (Below.refl W1.heap.size W1)
  have HR1Z := HR1
  have HL1Z := HL1
  have HB5Z := HB5
  have f0 := cell_blk HL1.out.fb HKF.out.1
  have f1 := cell_blk HL1.out.fb HKF.out.2.1
  have f2 := cell_blk HL1.out.fb HKF.out.2.2.1
  have f3 := cell_blk HL1.out.fb HKF.out.2.2.2.1
  have f4 := cell_blk HL1.out.fb HKF.out.2.2.2.2
  go_wp2_with (fail)
  refine (copy_own HN.out HHN.out (Kd.C_below HC.out HL1.out.below) HC3.out (Kd.C_below HH.out HL1.out.below) HC4.out).mono ?_
  rintro e u2 ⟨D3, D4, j3, j4, rfl, hq3, hq4, hbu⟩
  have hgm := graph_mem (w := u2) HN.out (by have := HHN.out; omega) (Kd.R_reads' hq3).2.2 (Kd.R_reads' hq3).2.1 (Kd.R_reads' hq4).2.2 (Kd.R_reads' hq4).2.1 (nm := nm) (pa := pa) (lo := lo)
  have HBU := Aside0.mk hbu
  clear hq3 hq4 hbu f0 f1 f2 f3 f4
  go_wp2_with (fail)
  refine hgm.mono ?_
  rintro e x2 ⟨P0, P1, P2, P3, P4, Pc0, Pc1, Pc2, Pc3, Pc4, st9, nx9, ord9, l9, hd9, nrP, rfl, hz, hr, hm, hb⟩
  obtain ⟨e1, e2, e3', e4', e5⟩ := hz.uniq HZ1.out
  subst e1 e2 e3' e4' e5
  rw [HE1.out]
  have HMP := Aside0.mk hm
  have HRP := Aside0.mk hr
  have HBX := Aside0.mk (HBU.out.trans (hb.mono HBU.out.size))
  have HLOP : Aside0 (W1.heap.size ≤ u2.heap.size ∧ u2.heap.size ≤ x2.heap.size) := ⟨HBU.out.size, hb.size⟩
  clear hgm hz hr hm hb HBU
  go_upto_region 3 with (fail)
  have hb := below_alloc (Below.refl _ x2) (.cells #[.slice P0 st.length Pc0, .slice P1 nx.length Pc1, .slice P2 ord.length Pc2, .slice P3 l.length Pc3, .slice P4 hd.length Pc4] 29)
  have HBq := Aside0.mk (World.alloc_heap_new x2 (.cells #[.slice P0 st.length Pc0, .slice P1 nx.length Pc1, .slice P2 ord.length Pc2, .slice P3 l.length Pc3, .slice P4 hd.length Pc4] 29))
  have hb' := HBX.out.trans (hb.mono HBX.out.size)
  have HLq := Aside0.mk (HL1.out.from_ hb')
  have HB1q := Aside0.mk (HB11.out.trans (hb'.mono HB11.out.size))
  have HMq := Aside0.mk (HMP.out.below hb)
  have HRq := Aside0.mk (HRP.out.below hb)
  have HLPP : Aside0 (x2.heap.size ≤ (x2.alloc (.cells #[.slice P0 st.length Pc0, .slice P1 nx.length Pc1, .slice P2 ord.length Pc2, .slice P3 l.length Pc3, .slice P4 hd.length Pc4] 29)).heap.size) := ⟨hb.size⟩
  have HR1q := Aside0.mk (HR1.out.below hb')
  have HB5q := Aside0.mk (blk_below HB5.out hb')
  clear hb hb' HBX HB11 HL1 HMP HRP HR1 HB5
  revert HB1q
  revert HBq
  revert HLq
  revert HMq
  revert HRq
  revert HLPP
  revert HR1q
  revert HB5q
  generalize x2.alloc (.cells #[.slice P0 st.length Pc0, .slice P1 nx.length Pc1, .slice P2 ord.length Pc2, .slice P3 l.length Pc3, .slice P4 hd.length Pc4] 29) = W2
  generalize hGP : x2.heap.size = GbP
  generalize hUP : u2.heap.size = UbP
  rw [hGP, hUP] at HLOP
  clear hGP hUP
  intro HB5 HR1 HLPP HRP HMP HL2 HBP HB12
  have f0 := cell_blk HL2.out.fb HKF.out.1
  have f1 := cell_blk HL2.out.fb HKF.out.2.1
  have f2 := cell_blk HL2.out.fb HKF.out.2.2.1
  have f3 := cell_blk HL2.out.fb HKF.out.2.2.2.1
  have f4 := cell_blk HL2.out.fb HKF.out.2.2.2.2
  go_wp2_with (fail)
  refine (copy_own HN.out HHN.out (Kd.C_below HC.out HL2.out.below) HC3.out (Kd.C_below HH.out HL2.out.below) HC4.out).mono ?_
  rintro e u3 ⟨D3, D4, j3, j4, rfl, hq3, hq4, hbu⟩
  have hgm := graph_mem (w := u3) HN.out (by have := HHN.out; omega) (Kd.R_reads' hq3).2.2 (Kd.R_reads' hq3).2.1 (Kd.R_reads' hq4).2.2 (Kd.R_reads' hq4).2.1 (nm := nm) (pa := pa) (lo := lo)
  have HBU := Aside0.mk hbu
  clear hq3 hq4 hbu f0 f1 f2 f3 f4
  go_wp2_with (fail)
  refine hgm.mono ?_
  rintro e x3 ⟨Q0, Q1, Q2, Q3, Q4, Qc0, Qc1, Qc2, Qc3, Qc4, st9, nx9, ord9, l9, hd9, nrQ, rfl, hz, hr, hm, hb⟩
  obtain ⟨e1, e2, e3', e4', e5⟩ := hz.uniq HZ1.out
  subst e1 e2 e3' e4' e5
  rw [HE1.out]
  have HMQ := Aside0.mk hm
  have HRQ := Aside0.mk hr
  have HBX := Aside0.mk (HBU.out.trans (hb.mono HBU.out.size))
  have HLOQ : Aside0 (W2.heap.size ≤ u3.heap.size ∧ u3.heap.size ≤ x3.heap.size) := ⟨HBU.out.size, hb.size⟩
  clear hgm hz hr hm hb HBU
  go_upto_region 4 with (fail)
  have hb := below_alloc (Below.refl _ x3) (.cells #[.slice Q0 st.length Qc0, .slice Q1 nx.length Qc1, .slice Q2 ord.length Qc2, .slice Q3 l.length Qc3, .slice Q4 hd.length Qc4] 29)
  have HBq := Aside0.mk (World.alloc_heap_new x3 (.cells #[.slice Q0 st.length Qc0, .slice Q1 nx.length Qc1, .slice Q2 ord.length Qc2, .slice Q3 l.length Qc3, .slice Q4 hd.length Qc4] 29))
  have hb' := HBX.out.trans (hb.mono HBX.out.size)
  have HLq := Aside0.mk (HL2.out.from_ hb')
  have HB1q := Aside0.mk (HB12.out.trans (hb'.mono HB12.out.size))
  have HMq := Aside0.mk (HMQ.out.below hb)
  have HRq := Aside0.mk (HRQ.out.below hb)
  have HLPQ : Aside0 (x3.heap.size ≤ (x3.alloc (.cells #[.slice Q0 st.length Qc0, .slice Q1 nx.length Qc1, .slice Q2 ord.length Qc2, .slice Q3 l.length Qc3, .slice Q4 hd.length Qc4] 29)).heap.size) := ⟨hb.size⟩
  have HR1q := Aside0.mk (HR1.out.below hb')
  have HB5q := Aside0.mk (blk_below HB5.out hb')
  have HRPq := Aside0.mk (HRP.out.below hb')
  have HMPq := Aside0.mk (HMP.out.below hb')
  have HBPq := Aside0.mk (blk_below HBP.out hb')
  clear hb hb' HBX HB12 HL2 HMQ HRQ HR1 HB5 HRP HMP HBP
  revert HB1q
  revert HBq
  revert HLq
  revert HMq
  revert HRq
  revert HLPQ
  revert HR1q
  revert HB5q
  revert HRPq
  revert HMPq
  revert HBPq
  generalize x3.alloc (.cells #[.slice Q0 st.length Qc0, .slice Q1 nx.length Qc1, .slice Q2 ord.length Qc2, .slice Q3 l.length Qc3, .slice Q4 hd.length Qc4] 29) = W3
  generalize hGQ : x3.heap.size = GbQ
  generalize hUQ : u3.heap.size = UbQ
  rw [hGQ, hUQ] at HLOQ
  clear hGQ hUQ
  intro HBP HMP HRP HB5 HR1 HLPQ HRQ HMQ HL3 HBQ HB13
  have f0 := cell_blk HL3.out.ob HKO.out.1
  have f1 := cell_blk HL3.out.ob HKO.out.2.1
  have f2 := cell_blk HL3.out.ob HKO.out.2.2.1
  have f3 := cell_blk HL3.out.ob HKO.out.2.2.2.1
  have f4 := cell_blk HL3.out.ob HKO.out.2.2.2.2
  go_wp2_with (fail)
  refine (copy_own HN2.out HHN2.out (Kd.C_below HO.out HL3.out.below) HO3'.out (Kd.C_below HO4.out HL3.out.below) HO4'.out).mono ?_
  rintro e u4 ⟨D3, D4, j3, j4, rfl, hq3, hq4, hbu⟩
  have hgm := graph_mem (w := u4) HN2.out (by have := HHN2.out; omega) (Kd.R_reads' hq3).2.2 (Kd.R_reads' hq3).2.1 (Kd.R_reads' hq4).2.2 (Kd.R_reads' hq4).2.1 (nm := nm2) (pa := pa2) (lo := lo2)
  have HBU := Aside0.mk hbu
  clear hq3 hq4 hbu f0 f1 f2 f3 f4
  go_wp2_with (fail)
  refine hgm.mono ?_
  rintro e x4 ⟨R0, R1, R2, R3, R4, Rc0, Rc1, Rc2, Rc3, Rc4, st', nx', ord', l', hd', nrR, rfl, hz, hr, hm, hb⟩
  have HMR := Aside0.mk hm
  have HRR := Aside0.mk hr
  have HBX := Aside0.mk (HBU.out.trans (hb.mono HBU.out.size))
  have HLOR : Aside0 (W3.heap.size ≤ u4.heap.size ∧ u4.heap.size ≤ x4.heap.size) := ⟨HBU.out.size, hb.size⟩
  clear hgm hz hr hm hb HBU
  go_upto_region 5 with (fail)
  have hb := below_alloc (Below.refl _ x4) (.cells #[.slice R0 st'.length Rc0, .slice R1 nx'.length Rc1, .slice R2 ord'.length Rc2, .slice R3 l'.length Rc3, .slice R4 hd'.length Rc4] 29)
  have HBq := Aside0.mk (World.alloc_heap_new x4 (.cells #[.slice R0 st'.length Rc0, .slice R1 nx'.length Rc1, .slice R2 ord'.length Rc2, .slice R3 l'.length Rc3, .slice R4 hd'.length Rc4] 29))
  have hb' := HBX.out.trans (hb.mono HBX.out.size)
  have HLq := Aside0.mk (HL3.out.from_ hb')
  have HB1q := Aside0.mk (HB13.out.trans (hb'.mono HB13.out.size))
  have HMq := Aside0.mk (HMR.out.below hb)
  have HRq := Aside0.mk (HRR.out.below hb)
  have HLPR : Aside0 (x4.heap.size ≤ (x4.alloc (.cells #[.slice R0 st'.length Rc0, .slice R1 nx'.length Rc1, .slice R2 ord'.length Rc2, .slice R3 l'.length Rc3, .slice R4 hd'.length Rc4] 29)).heap.size) := ⟨hb.size⟩
  have HR1q := Aside0.mk (HR1.out.below hb')
  have HB5q := Aside0.mk (blk_below HB5.out hb')
  have HRPq := Aside0.mk (HRP.out.below hb')
  have HMPq := Aside0.mk (HMP.out.below hb')
  have HBPq := Aside0.mk (blk_below HBP.out hb')
  have HRQq := Aside0.mk (HRQ.out.below hb')
  have HMQq := Aside0.mk (HMQ.out.below hb')
  have HBQq := Aside0.mk (blk_below HBQ.out hb')
  clear hb hb' HBX HB13 HL3 HMR HRR HR1 HB5 HRP HMP HBP HRQ HMQ HBQ
  revert HB1q
  revert HBq
  revert HLq
  revert HMq
  revert HRq
  revert HLPR
  revert HR1q
  revert HB5q
  revert HRPq
  revert HMPq
  revert HBPq
  revert HRQq
  revert HMQq
  revert HBQq
  generalize x4.alloc (.cells #[.slice R0 st'.length Rc0, .slice R1 nx'.length Rc1, .slice R2 ord'.length Rc2, .slice R3 l'.length Rc3, .slice R4 hd'.length Rc4] 29) = W4
  generalize hGR : x4.heap.size = GbR
  generalize hUR : u4.heap.size = UbR
  rw [hGR, hUR] at HLOR
  clear hGR hUR
  intro HBQ HMQ HRQ HBP HMP HRP HB5 HR1 HLPR HRR HMR HL4 HBR HB14
  have hE : (E1 == E1) = true := beq_self_eq_true _
  have hE' : (E1 != E1) = false := by simp
  go_wp2_with (fail)
  refine (portagekit_Num.calls E1 E1 _ rfl).mono ?_
  rintro e u5 ⟨rfl, hdq⟩
  have HB45 := Aside0.mk hdq.below
  clear hdq
  have x0 := cell_blk (blk_below HBP.out HB45.out) (i := 0) rfl
  have x1 := cell_blk (blk_below HBP.out HB45.out) (i := 1) rfl
  have x2 := cell_blk (blk_below HBP.out HB45.out) (i := 2) rfl
  have x3 := cell_blk (blk_below HBP.out HB45.out) (i := 3) rfl
  have x4 := cell_blk (blk_below HBP.out HB45.out) (i := 4) rfl
  have y0 := cell_blk (blk_below HB5.out HB45.out) (i := 0) rfl
  have y1 := cell_blk (blk_below HB5.out HB45.out) (i := 1) rfl
  have y2 := cell_blk (blk_below HB5.out HB45.out) (i := 2) rfl
  have y3 := cell_blk (blk_below HB5.out HB45.out) (i := 3) rfl
  have y4 := cell_blk (blk_below HB5.out HB45.out) (i := 4) rfl
  go_wp2_with (fail)
  refine (same_graph (HRP.out.below HB45.out) (HR1.out.below HB45.out) HS1.out).mono ?_
  rintro e u6 ⟨rfl, hbq⟩
  have HB46 := Aside0.mk (HB45.out.trans (hbq.mono HB45.out.size))
  clear hbq HB45 x0 x1 x2 x3 x4 y0 y1 y2 y3 y4
  have x0 := cell_blk (blk_below HBQ.out HB46.out) (i := 0) rfl
  have x1 := cell_blk (blk_below HBQ.out HB46.out) (i := 1) rfl
  have x2 := cell_blk (blk_below HBQ.out HB46.out) (i := 2) rfl
  have x3 := cell_blk (blk_below HBQ.out HB46.out) (i := 3) rfl
  have x4 := cell_blk (blk_below HBQ.out HB46.out) (i := 4) rfl
  have y0 := cell_blk (blk_below HB5.out HB46.out) (i := 0) rfl
  have y1 := cell_blk (blk_below HB5.out HB46.out) (i := 1) rfl
  have y2 := cell_blk (blk_below HB5.out HB46.out) (i := 2) rfl
  have y3 := cell_blk (blk_below HB5.out HB46.out) (i := 3) rfl
  have y4 := cell_blk (blk_below HB5.out HB46.out) (i := 4) rfl
  go_wp2_with (fail)
  refine (same_graph (HRQ.out.below HB46.out) (HR1.out.below HB46.out) HS1.out).mono ?_
  rintro e W5 ⟨rfl, hbq⟩
  have HB45 := Aside0.mk (HB46.out.trans (hbq.mono HB46.out.size))
  clear hbq HB46 x0 x1 x2 x3 x4 y0 y1 y2 y3 y4 hE hE'
  have x0 := cell_blk (blk_below HBP.out HB45.out) (i := 0) rfl
  have x1 := cell_blk (blk_below HBP.out HB45.out) (i := 1) rfl
  have x2 := cell_blk (blk_below HBP.out HB45.out) (i := 2) rfl
  have x3 := cell_blk (blk_below HBP.out HB45.out) (i := 3) rfl
  have x4 := cell_blk (blk_below HBP.out HB45.out) (i := 4) rfl
  have y0 := cell_blk (blk_below HBQ.out HB45.out) (i := 0) rfl
  have y1 := cell_blk (blk_below HBQ.out HB45.out) (i := 1) rfl
  have y2 := cell_blk (blk_below HBQ.out HB45.out) (i := 2) rfl
  have y3 := cell_blk (blk_below HBQ.out HB45.out) (i := 3) rfl
  have y4 := cell_blk (blk_below HBQ.out HB45.out) (i := 4) rfl
  have z0 := cell_blk (blk_below HBR.out HB45.out) (i := 0) rfl
  have z1 := cell_blk (blk_below HBR.out HB45.out) (i := 1) rfl
  have z2 := cell_blk (blk_below HBR.out HB45.out) (i := 2) rfl
  have z3 := cell_blk (blk_below HBR.out HB45.out) (i := 3) rfl
  have z4 := cell_blk (blk_below HBR.out HB45.out) (i := 4) rfl
  go_upto_region 9 with (fail)
  have HMP5 := Aside0.mk (HMP.out.below HB45.out)
  have HMQ5 := Aside0.mk (HMQ.out.below HB45.out)
  have HMR5 := Aside0.mk (HMR.out.below HB45.out)
  clear HMP HMQ HMR HRP HRQ HRR HBP HBQ HBR x0 x1 x2 x3 x4 y0 y1 y2 y3 y4 z0 z1 z2 z3 z4
  have hbg := World.alloc_heap_new W5 (.cells #[Value.slice P0 st.length Pc0, .slice P1 nx.length Pc1, .slice P2 ord.length Pc2, .slice P3 l.length Pc3, .slice P4 hd.length Pc4, .slice Q0 st.length Qc0, .slice Q1 nx.length Qc1, .slice Q2 ord.length Qc2, .slice Q3 l.length Qc3, .slice Q4 hd.length Qc4, .slice R0 st'.length Rc0, .slice R1 nx'.length Rc1, .slice R2 ord'.length Rc2, .slice R3 l'.length Rc3, .slice R4 hd'.length Rc4] 29)
  have hb6 := below_alloc (Below.refl _ W5) (.cells #[Value.slice P0 st.length Pc0, .slice P1 nx.length Pc1, .slice P2 ord.length Pc2, .slice P3 l.length Pc3, .slice P4 hd.length Pc4, .slice Q0 st.length Qc0, .slice Q1 nx.length Qc1, .slice Q2 ord.length Qc2, .slice Q3 l.length Qc3, .slice Q4 hd.length Qc4, .slice R0 st'.length Rc0, .slice R1 nx'.length Rc1, .slice R2 ord'.length Rc2, .slice R3 l'.length Rc3, .slice R4 hd'.length Rc4] 29)
  have hsz6 : (W5.alloc (.cells #[Value.slice P0 st.length Pc0, .slice P1 nx.length Pc1, .slice P2 ord.length Pc2, .slice P3 l.length Pc3, .slice P4 hd.length Pc4, .slice Q0 st.length Qc0, .slice Q1 nx.length Qc1, .slice Q2 ord.length Qc2, .slice Q3 l.length Qc3, .slice Q4 hd.length Qc4, .slice R0 st'.length Rc0, .slice R1 nx'.length Rc1, .slice R2 ord'.length Rc2, .slice R3 l'.length Rc3, .slice R4 hd'.length Rc4] 29)).heap.size = W5.heap.size + 1 := by simp
  have HB16 : Aside0 (Below W1.heap.size W1 (W5.alloc (.cells #[Value.slice P0 st.length Pc0, .slice P1 nx.length Pc1, .slice P2 ord.length Pc2, .slice P3 l.length Pc3, .slice P4 hd.length Pc4, .slice Q0 st.length Qc0, .slice Q1 nx.length Qc1, .slice Q2 ord.length Qc2, .slice Q3 l.length Qc3, .slice Q4 hd.length Qc4, .slice R0 st'.length Rc0, .slice R1 nx'.length Rc1, .slice R2 ord'.length Rc2, .slice R3 l'.length Rc3, .slice R4 hd'.length Rc4] 29))) := ⟨HB14.out.trans ((HB45.out.trans (hb6.mono HB45.out.size)).mono HB14.out.size)⟩
  have HTRI := Aside0.mk (show ∀ k, k < 3 → ∃ g0 g1 g2 g3 g4 n0 n2 n3 n4, tri3 ((.slice P0 st.length Pc0, st.length) :: (.slice P2 ord.length Pc2, ord.length) :: (.slice P3 l.length Pc3, l.length) :: (.slice P4 hd.length Pc4, hd.length) :: nrP) ((.slice Q0 st.length Qc0, st.length) :: (.slice Q2 ord.length Qc2, ord.length) :: (.slice Q3 l.length Qc3, l.length) :: (.slice Q4 hd.length Qc4, hd.length) :: nrQ) ((.slice R0 st'.length Rc0, st'.length) :: (.slice R2 ord'.length Rc2, ord'.length) :: (.slice R3 l'.length Rc3, l'.length) :: (.slice R4 hd'.length Rc4, hd'.length) :: nrR) k = (g0, n0) :: (g2, n2) :: (g3, n3) :: (g4, n4) :: tri3 nrP nrQ nrR k ∧ (∃ lo hi, GMem lo hi (W5.alloc (.cells #[Value.slice P0 st.length Pc0, .slice P1 nx.length Pc1, .slice P2 ord.length Pc2, .slice P3 l.length Pc3, .slice P4 hd.length Pc4, .slice Q0 st.length Qc0, .slice Q1 nx.length Qc1, .slice Q2 ord.length Qc2, .slice Q3 l.length Qc3, .slice Q4 hd.length Qc4, .slice R0 st'.length Rc0, .slice R1 nx'.length Rc1, .slice R2 ord'.length Rc2, .slice R3 l'.length Rc3, .slice R4 hd'.length Rc4] 29)) g0 g1 g2 g3 g4 n0 n2 n3 n4 (tri3 nrP nrQ nrR k)) ∧ (#[Value.slice P0 st.length Pc0, .slice P1 nx.length Pc1, .slice P2 ord.length Pc2, .slice P3 l.length Pc3, .slice P4 hd.length Pc4, .slice Q0 st.length Qc0, .slice Q1 nx.length Qc1, .slice Q2 ord.length Qc2, .slice Q3 l.length Qc3, .slice Q4 hd.length Qc4, .slice R0 st'.length Rc0, .slice R1 nx'.length Rc1, .slice R2 ord'.length Rc2, .slice R3 l'.length Rc3, .slice R4 hd'.length Rc4] : Array Value)[k * 5]? = some g0 ∧ (#[Value.slice P0 st.length Pc0, .slice P1 nx.length Pc1, .slice P2 ord.length Pc2, .slice P3 l.length Pc3, .slice P4 hd.length Pc4, .slice Q0 st.length Qc0, .slice Q1 nx.length Qc1, .slice Q2 ord.length Qc2, .slice Q3 l.length Qc3, .slice Q4 hd.length Qc4, .slice R0 st'.length Rc0, .slice R1 nx'.length Rc1, .slice R2 ord'.length Rc2, .slice R3 l'.length Rc3, .slice R4 hd'.length Rc4] : Array Value)[k * 5 + 1]? = some g1 ∧ (#[Value.slice P0 st.length Pc0, .slice P1 nx.length Pc1, .slice P2 ord.length Pc2, .slice P3 l.length Pc3, .slice P4 hd.length Pc4, .slice Q0 st.length Qc0, .slice Q1 nx.length Qc1, .slice Q2 ord.length Qc2, .slice Q3 l.length Qc3, .slice Q4 hd.length Qc4, .slice R0 st'.length Rc0, .slice R1 nx'.length Rc1, .slice R2 ord'.length Rc2, .slice R3 l'.length Rc3, .slice R4 hd'.length Rc4] : Array Value)[k * 5 + 2]? = some g2 ∧ (#[Value.slice P0 st.length Pc0, .slice P1 nx.length Pc1, .slice P2 ord.length Pc2, .slice P3 l.length Pc3, .slice P4 hd.length Pc4, .slice Q0 st.length Qc0, .slice Q1 nx.length Qc1, .slice Q2 ord.length Qc2, .slice Q3 l.length Qc3, .slice Q4 hd.length Qc4, .slice R0 st'.length Rc0, .slice R1 nx'.length Rc1, .slice R2 ord'.length Rc2, .slice R3 l'.length Rc3, .slice R4 hd'.length Rc4] : Array Value)[k * 5 + 3]? = some g3 ∧ (#[Value.slice P0 st.length Pc0, .slice P1 nx.length Pc1, .slice P2 ord.length Pc2, .slice P3 l.length Pc3, .slice P4 hd.length Pc4, .slice Q0 st.length Qc0, .slice Q1 nx.length Qc1, .slice Q2 ord.length Qc2, .slice Q3 l.length Qc3, .slice Q4 hd.length Qc4, .slice R0 st'.length Rc0, .slice R1 nx'.length Rc1, .slice R2 ord'.length Rc2, .slice R3 l'.length Rc3, .slice R4 hd'.length Rc4] : Array Value)[k * 5 + 4]? = some g4 from fun k hk => by
    match k, hk with
    | 0, _ => exact ⟨_, _, _, _, _, _, _, _, _, rfl, ⟨_, _, HMP5.out.below hb6⟩, rfl, rfl, rfl, rfl, rfl⟩
    | 1, _ => exact ⟨_, _, _, _, _, _, _, _, _, rfl, ⟨_, _, HMQ5.out.below hb6⟩, rfl, rfl, rfl, rfl, rfl⟩
    | 2, _ => exact ⟨_, _, _, _, _, _, _, _, _, rfl, ⟨_, _, HMR5.out.below hb6⟩, rfl, rfl, rfl, rfl, rfl⟩)
  have HAPT : Aside0 (Apt (W5.alloc (.cells #[Value.slice P0 st.length Pc0, .slice P1 nx.length Pc1, .slice P2 ord.length Pc2, .slice P3 l.length Pc3, .slice P4 hd.length Pc4, .slice Q0 st.length Qc0, .slice Q1 nx.length Qc1, .slice Q2 ord.length Qc2, .slice Q3 l.length Qc3, .slice Q4 hd.length Qc4, .slice R0 st'.length Rc0, .slice R1 nx'.length Rc1, .slice R2 ord'.length Rc2, .slice R3 l'.length Rc3, .slice R4 hd'.length Rc4] 29)) W1.heap.size W4.heap.size (acc3 (tri3 ((.slice P0 st.length Pc0, st.length) :: (.slice P2 ord.length Pc2, ord.length) :: (.slice P3 l.length Pc3, l.length) :: (.slice P4 hd.length Pc4, hd.length) :: nrP) ((.slice Q0 st.length Qc0, st.length) :: (.slice Q2 ord.length Qc2, ord.length) :: (.slice Q3 l.length Qc3, l.length) :: (.slice Q4 hd.length Qc4, hd.length) :: nrQ) ((.slice R0 st'.length Rc0, st'.length) :: (.slice R2 ord'.length Rc2, ord'.length) :: (.slice R3 l'.length Rc3, l'.length) :: (.slice R4 hd'.length Rc4, hd'.length) :: nrR)) 3)) := ⟨by
    have hP := (HMP5.out.below hb6).apt
    have hQ := (HMQ5.out.below hb6).apt
    have hR := (HMR5.out.below hb6).apt
    have l1 := HLOP.out
    have l2 := HLPP.out
    have l3 := HLOQ.out
    have l4 := HLPQ.out
    have l5 := HLOR.out
    have l6 := HLPR.out
    have h1 := (hP.lower (show W1.heap.size ≤ UbP by omega) (show GbP ≤ W2.heap.size by omega)).app (hQ.lower (show W2.heap.size ≤ UbQ by omega) (show GbQ ≤ W3.heap.size by omega)) (by omega) (by omega)
    have h2 := h1.app (hR.lower (show W3.heap.size ≤ UbR by omega) (show GbR ≤ W4.heap.size by omega)) (by omega) (by omega)
    exact h2⟩
  have HSM : Aside0 (∀ k, k ≤ 3 → (acc3 (tri3 ((.slice P0 st.length Pc0, st.length) :: (.slice P2 ord.length Pc2, ord.length) :: (.slice P3 l.length Pc3, l.length) :: (.slice P4 hd.length Pc4, hd.length) :: nrP) ((.slice Q0 st.length Qc0, st.length) :: (.slice Q2 ord.length Qc2, ord.length) :: (.slice Q3 l.length Qc3, l.length) :: (.slice Q4 hd.length Qc4, hd.length) :: nrQ) ((.slice R0 st'.length Rc0, st'.length) :: (.slice R2 ord'.length Rc2, ord'.length) :: (.slice R3 l'.length Rc3, l'.length) :: (.slice R4 hd'.length Rc4, hd'.length) :: nrR)) k).length ≤ k * 1048580) := ⟨fun k hk => by
    have s1 := HMP5.out.small
    have s2 := HMQ5.out.small
    have s3 := HMR5.out.small
    match k, hk with
    | 0, _ => simp [acc3]
    | 1, _ => simp [acc3, tri3]; omega
    | 2, _ => simp [acc3, tri3]; omega
    | 3, _ => simp [acc3, tri3]; omega⟩
  clear HMP5 HMQ5 HMR5 HB14 HB45 hb6
  obtain ⟨T, hT⟩ : ∃ T, tri3 ((.slice P0 st.length Pc0, st.length) :: (.slice P2 ord.length Pc2, ord.length) :: (.slice P3 l.length Pc3, l.length) :: (.slice P4 hd.length Pc4, hd.length) :: nrP) ((.slice Q0 st.length Qc0, st.length) :: (.slice Q2 ord.length Qc2, ord.length) :: (.slice Q3 l.length Qc3, l.length) :: (.slice Q4 hd.length Qc4, hd.length) :: nrQ) ((.slice R0 st'.length Rc0, st'.length) :: (.slice R2 ord'.length Rc2, ord'.length) :: (.slice R3 l'.length Rc3, l'.length) :: (.slice R4 hd'.length Rc4, hd'.length) :: nrR) = T := ⟨_, rfl⟩
  obtain ⟨NR, hNR⟩ : ∃ NR, tri3 nrP nrQ nrR = NR := ⟨_, rfl⟩
  rw [hT, hNR] at HTRI
  rw [hT] at HAPT HSM
  clear hT hNR
  obtain ⟨ca, hca⟩ : ∃ ca : Array Value, (#[Value.slice P0 st.length Pc0, .slice P1 nx.length Pc1, .slice P2 ord.length Pc2, .slice P3 l.length Pc3, .slice P4 hd.length Pc4, .slice Q0 st.length Qc0, .slice Q1 nx.length Qc1, .slice Q2 ord.length Qc2, .slice Q3 l.length Qc3, .slice Q4 hd.length Qc4, .slice R0 st'.length Rc0, .slice R1 nx'.length Rc1, .slice R2 ord'.length Rc2, .slice R3 l'.length Rc3, .slice R4 hd'.length Rc4] : Array Value) = ca := ⟨_, rfl⟩
  rw [hca] at hbg hsz6 HB16 HTRI HAPT ⊢
  clear hca
  revert HAPT
  revert HTRI
  revert HB16
  revert hsz6
  revert hbg
  generalize W5.alloc (.cells ca 29) = W6
  generalize W5.heap.size = GG
  intro hbg hsz6 HB16 HTRI HAPT
  have HBG := Aside0.mk hbg
  have HSZ6 := Aside0.mk hsz6
  clear hbg hsz6
  obtain ⟨i26, hi26, hz260, hz261, hz262⟩ := info_parts info26
  have HI := Aside0.mk hi26
  have HZ0 := Aside0.mk hz260
  have HZ1' := Aside0.mk hz261
  have HZ2 := Aside0.mk hz262
  clear hi26 hz260 hz261 hz262
  go_loopw [13, 15, 61] (fun v13 _ v61 wr => ∃ k : Nat, k ≤ 3 ∧ v61 = .int .i64 (k : Int) ∧ wr.ownsRow W6.heap.size 26 1 v13 (acc3 T k).length ((acc3 T k).map (·.1)) ∧ Below W6.heap.size W6 wr) (fun _ _ v61 _ => (3 - intOf v61).toNat)
  case atStart => exact ⟨0, Nat.zero_le _, rfl, World.ownsRow_nil _ _ _ _, Below.refl _ _⟩
  case round =>
    obtain ⟨k, hk, rfl, hO, hB⟩ := hrel
    have HO1 := Aside0.mk hO
    have HBW := Aside0.mk hB
    have hkm : k < 9223372036854775807 := by omega
    by_cases hk3 : k < 3
    · obtain ⟨g0, g1, g2, g3, g4, n0, n2, n3, n4, eT, ⟨lo9, hi9, hM⟩, e0, e1, e2, e3', e4'⟩ := HTRI.out k hk3
      have HK3 := Aside0.mk hk3
      have hk3' : (k : Int) < 3 := by omega
      have hk0 : (0 : Int) ≤ (k : Int) := by omega
      obtain ⟨A0', c0', rfl⟩ := apt_slice hM.apt (v := g0) (n := n0) (by simp)
      obtain ⟨A2', c2', rfl⟩ := apt_slice hM.apt (v := g2) (n := n2) (by simp)
      obtain ⟨A3', c3', rfl⟩ := apt_slice hM.apt (v := g3) (n := n3) (by simp)
      obtain ⟨A4', c4', rfl⟩ := apt_slice hM.apt (v := g4) (n := n4) (by simp)
      obtain ⟨A1', c1', rfl⟩ : ∃ A c, g1 = .slice A (NR k).length c := by
        rcases hM.nxt with ⟨e1', e2'⟩ | ⟨ga, c, e1', _⟩
        · exact ⟨none, 0, by rw [e1', e2']; rfl⟩
        · exact ⟨_, _, e1'⟩
      have hbr := blk_below HBG.out hB
      have c0 := cell_blk hbr e0
      have c1 := cell_blk hbr e1
      have c2 := cell_blk hbr e2
      have c3 := cell_blk hbr e3'
      have c4 := cell_blk hbr e4'
      have HM := Aside0.mk hM
      have HET := Aside0.mk eT
      clear hk hk3 hO hB e0 e1 e2 e3' e4' hM eT hbr
      go_upto_region 11 with (fail)
      have hb1 := below_alloc (Below.refl _ wr) (.cells #[.slice A0' n0 c0', .slice A1' (NR k).length c1', .slice A2' n2 c2', .slice A3' n3 c3', .slice A4' n4 c4'] 29)
      have hbx := World.alloc_heap_new wr (.cells #[.slice A0' n0 c0', .slice A1' (NR k).length c1', .slice A2' n2 c2', .slice A3' n3 c3', .slice A4' n4 c4'] 29)
      have HO2 : Aside0 ((wr.alloc (.cells #[.slice A0' n0 c0', .slice A1' (NR k).length c1', .slice A2' n2 c2', .slice A3' n3 c3', .slice A4' n4 c4'] 29)).ownsRow W6.heap.size 26 1 u13 (acc3 T k).length ((acc3 T k).map (·.1))) := ⟨World.ownsRow.alloc HO1.out _⟩
      have HBW2 : Aside0 (Below W6.heap.size W6 (wr.alloc (.cells #[.slice A0' n0 c0', .slice A1' (NR k).length c1', .slice A2' n2 c2', .slice A3' n3 c3', .slice A4' n4 c4'] 29))) := ⟨HBW.out.trans (hb1.mono HBW.out.size)⟩
      clear hb1 c0 c1 c2 c3 c4 HO1 HBW
      revert hbx
      revert HO2
      revert HBW2
      generalize wr.alloc (.cells #[.slice A0' n0 c0', .slice A1' (NR k).length c1', .slice A2' n2 c2', .slice A3' n3 c3', .slice A4' n4 c4'] 29) = Z
      generalize wr.heap.size = GZZ
      intro HBW2 HO2 hbx
      have x0 := cell_blk hbx (i := 0) rfl
      have x1 := cell_blk hbx (i := 1) rfl
      have x2 := cell_blk hbx (i := 2) rfl
      have x3 := cell_blk hbx (i := 3) rfl
      have x4 := cell_blk hbx (i := 4) rfl
      have HBX := Aside0.mk hbx
      clear hbx
      go_wp2_with (first | ((with_reducible refine gate_builtin (b := .append) rfl ?_); at_builtin; refine wpList_append_own _ rfl _ _ 27 rfl W6.heap.size 26 i26 (.slice none 0 0) 1 24 Try.underlying27 HI.out HZ0.out HZ1'.out HZ2.out rfl (by decide) _ _ _ rfl (World.ownsRow.alloc HO2.out _) ⟨Z.heap.size, 0, none⟩ 4 4 [.slice A0' n0 c0', .slice A2' n2 c2', .slice A3' n3 c3', .slice A4' n4 c4'] rfl rfl (cells_new Z _ 26) (by simp [Value.oneCell']) ?ha1 ?ha2 ?ha3 ?_; (case ha1 => have := HSM.out k (by have := HK3.out; omega); have := HK3.out; unfold maxLen; omega); (case ha2 => have := HSM.out k (by have := HK3.out; omega); have := HK3.out; omega); (case ha3 => rw [World.size_alloc]; have := HBW2.out.size; omega); intro v9 w9 hown9 hgrow9 _; refine Classical.byContradiction (fun hcon => ?hst)) | go_in)
      refine hcon ?_
      have hg9 := (World.grownBy_alloc Z (.cells #[.slice A0' n0 c0', .slice A2' n2 c2', .slice A3' n3 c3', .slice A4' n4 c4'] 26) u13.ownBlock).trans hgrow9
      have HO9 := Aside0.mk hown9
      have HBW9 : Aside0 (Below W6.heap.size W6 w9) := ⟨HBW2.out.grown hg9 HBW2.out.size (fun j e => own_base HO2.out j e)⟩
      have hbx9 : w9.heap[GZZ]? = some (.cells #[.slice A0' n0 c0', .slice A1' (NR k).length c1', .slice A2' n2 c2', .slice A3' n3 c3', .slice A4' n4 c4'] 29 (0, 0)) := (hg9.block GZZ (blk_lt HBX.out) (own_ne_box HO2.out HBX.out (by decide))).trans HBX.out
      have y1 := cell_blk hbx9 (i := 1) rfl
      have HM9 := Aside0.mk (HM.out.below HBW9.out)
      have hacc : (acc3 T (k + 1)) = acc3 T k ++ T k := rfl
      have HAC := Aside0.mk hacc
      clear hown9 hgrow9 hcon hg9 hbx9 HO2 HBW2 HBX x0 x1 x2 x3 x4 hacc HM
      rcases HM9.out.nxt with ⟨e1', e2'⟩ | ⟨ga, cc, e1', ho1⟩
      · have hn0 : (NR k).length = 0 := by rw [e2']; rfl
        rw [e1'] at y1
        have HE2 := Aside0.mk e2'
        clear e1' e2' hn0
        go_wp2_with (first | ((with_reducible refine gate_builtin (b := .append) rfl ?_); at_builtin; refine wpList_append_own_none rfl _ _ 27 rfl W6.heap.size 26 i26 1 Try.underlying27 HI.out _ _ _ rfl HO9.out rfl ?_; refine Classical.byContradiction (fun hcon => ?hsu)) | go_in)
        refine hcon ?_
        clear hcon y1
        go_wp2_with (fail)
        go_roundw
        case measure => simp [intOf]; omega
        case rel =>
          refine ⟨k + 1, HK3.out, by first | rfl | go_num, ?_, HBW9.out⟩
          rw [HAC.out, HET.out, HE2.out, List.length_append, List.map_append]
          exact HO9.out
      · injection e1' with ea _ ec
        subst ea ec
        have HO1' := Aside0.mk ho1
        have HAP := Aside0.mk HM9.out.apt
        have HSN := Aside0.mk HM9.out.small
        have hnews : ∀ (j : Nat) (u : Value), ((NR k).map (·.1))[j]? = some u → w9.cell? ((⟨ga, 0, none⟩ : Addr).add j) = some u := fun j u hj => by
          rw [add_plain]; simpa using (own_cell ho1 j u hj).1
        have hone : ∀ u ∈ (NR k).map (·.1), u.oneCell' = true := fun u hu => by
          obtain ⟨p, hp, rfl⟩ := List.mem_map.1 hu
          obtain ⟨A, c, e⟩ := apt_slice HAP.out (v := p.1) (n := p.2) (by simp [hp])
          rw [e]; rfl
        have HNW := Aside0.mk hnews
        have HON := Aside0.mk hone
        clear ho1 hnews hone
        go_wp2_with (first | ((with_reducible refine gate_builtin (b := .append) rfl ?_); at_builtin; refine wpList_append_own _ rfl _ _ 27 rfl W6.heap.size 26 i26 (.slice none 0 0) 1 24 Try.underlying27 HI.out HZ0.out HZ1'.out HZ2.out rfl (by decide) _ _ _ rfl HO9.out ⟨ga, 0, none⟩ (NR k).length c1' ((NR k).map (·.1)) rfl (by simp) HNW.out HON.out ?hb1 ?hb2 ?hb3 ?_; (case hb1 => have := HSM.out k (by have := HK3.out; omega); have := HK3.out; have := HSN.out; unfold maxLen; omega); (case hb2 => have := HSM.out k (by have := HK3.out; omega); have := HK3.out; have := HSN.out; omega); (case hb3 => exact HBW9.out.size); intro v8 w8 hown8 hgrow8 _; refine Classical.byContradiction (fun hcon => ?hsv)) | go_in)
        refine hcon ?_
        have HO8 := Aside0.mk hown8
        have HBW8 : Aside0 (Below W6.heap.size W6 w8) := ⟨HBW9.out.grown hgrow8 HBW9.out.size (fun j e => own_base HO9.out j e)⟩
        clear hown8 hgrow8 hcon y1
        go_wp2_with (fail)
        go_roundw
        case measure => simp [intOf]; omega
        case rel =>
          refine ⟨k + 1, HK3.out, by first | rfl | go_num, ?_, HBW8.out⟩
          have h8 := HO8.out
          rw [HAC.out, HET.out, List.length_append, List.map_append]
          rw [List.append_assoc] at h8
          rw [Nat.add_assoc] at h8
          have e9 : 4 + (NR k).length = ((Value.slice A0' n0 c0', n0) :: (Value.slice A2' n2 c2', n2) :: (Value.slice A3' n3 c3', n3) :: (Value.slice A4' n4 c4', n4) :: NR k).length := by simp; omega
          rw [e9] at h8
          exact h8
    · have hkk : k = 3 := by omega
      subst hkk
      clear hk hk3 hO hB
      obtain ⟨ps, hps⟩ : ∃ ps, acc3 T 3 = ps := ⟨_, rfl⟩
      have hlen : 12 ≤ ps.length := by
        rw [← hps]
        obtain ⟨_, _, _, _, _, _, _, _, _, q0, _⟩ := HTRI.out 0 (by omega)
        obtain ⟨_, _, _, _, _, _, _, _, _, q1, _⟩ := HTRI.out 1 (by omega)
        obtain ⟨_, _, _, _, _, _, _, _, _, q2, _⟩ := HTRI.out 2 (by omega)
        simp only [acc3, q0, q1, q2]
        simp
        omega
      have hsm := HSM.out 3 (by omega)
      have hapt := HAPT.out
      rw [hps] at HO1 hsm hapt
      obtain ⟨gl, cl, hu13, _, _⟩ := HO1.out.form (by omega)
      subst hu13
      have hap := apart_of (hapt.below HBW.out) HO1.out (by omega) (by have := HBW.out.size; have := HB16.out.size; omega)
      have HPB : Aside0 (∀ b, (∃ p ∈ ps, p.1.ownBlock = some b) → W1.heap.size ≤ b) := ⟨fun b hb => by
        obtain ⟨p, hp, hb⟩ := hb
        obtain ⟨⟨xs, h1⟩, _⟩ := hapt.each p hp
        exact own_base h1 b hb⟩
      have HB1r := Aside0.mk (HB16.out.trans (HBW.out.mono HB16.out.size))
      clear hlen hsm hapt hps hkm HTRI HAPT HSM HO1 HI HZ0 HZ1' HZ2
      go_wp2_with (fail)
      refine hap.mono ?_
      rintro e W7 ⟨rfl, hbut⟩
      have HB17 := Aside0.mk (HB1r.out.trans (hbut.to_below HB1r.out.size HPB.out))
      have HL7 := Aside0.mk (HL1Z.out.from_ HB17.out)
      clear hap hbut
      have f0 := cell_blk HL7.out.fb HKF.out.1
      have f1 := cell_blk HL7.out.fb HKF.out.2.1
      have f2 := cell_blk HL7.out.fb HKF.out.2.2.1
      have f3 := cell_blk HL7.out.fb HKF.out.2.2.2.1
      have f4 := cell_blk HL7.out.fb HKF.out.2.2.2.2
      go_wp2_with (fail)
      refine (copy_own HN.out HHN.out (Kd.C_below HC.out HL7.out.below) HC3.out (Kd.C_below HH.out HL7.out.below) HC4.out).mono ?_
      rintro e u8 ⟨D3, D4, j3, j4, rfl, hq3, hq4, hbu⟩
      have hgm := graph_build (w := u8) HN.out (by have := HHN.out; omega) (Kd.R_reads' hq3).2.2 (Kd.R_reads' hq3).2.1 (Kd.R_reads' hq4).2.2 (Kd.R_reads' hq4).2.1 (nm := nm) (pa := pa) (lo := lo)
      have HB18 := Aside0.mk (HB17.out.trans (hbu.mono HB17.out.size))
      clear hq3 hq4 hbu f0 f1 f2 f3 f4
      go_wp2_with (fail)
      refine hgm.mono ?_
      rintro e u9 ⟨v9, st9, nx9, ord9, l9, hd9, rfl, hz, hh, hb⟩
      obtain ⟨e1, e2, e3', e4', e5⟩ := hz.uniq HZ1.out
      subst e1 e2 e3' e4' e5
      obtain ⟨u0, u1, u2, u3, u4, y0, y1, y2, y3, y4, ev9, _⟩ := id hh.now
      subst ev9
      rw [HE1.out]
      have HRU := Aside0.mk hh.now
      have HB19 := Aside0.mk (HB18.out.trans (hb.mono HB18.out.size))
      clear hgm hz hh hb
      go_upto_region 17 with (fail)
      have hb := below_alloc (Below.refl _ u9) (.cells #[.slice u0 st.length y0, .slice u1 nx.length y1, .slice u2 ord.length y2, .slice u3 l.length y3, .slice u4 hd.length y4] 29)
      have HBU := Aside0.mk (World.alloc_heap_new u9 (.cells #[.slice u0 st.length y0, .slice u1 nx.length y1, .slice u2 ord.length y2, .slice u3 l.length y3, .slice u4 hd.length y4] 29))
      have HRU2 := Aside0.mk (HRU.out.below hb)
      have HB1A := Aside0.mk (HB19.out.trans (hb.mono HB19.out.size))
      clear hb HRU HB19 HB18 HB17
      revert HBU
      revert HRU2
      revert HB1A
      generalize u9.alloc (.cells #[.slice u0 st.length y0, .slice u1 nx.length y1, .slice u2 ord.length y2, .slice u3 l.length y3, .slice u4 hd.length y4] 29) = WA
      generalize u9.heap.size = GU
      intro HB1A HRU2 HBU
      have hE : (E1 == E1) = true := beq_self_eq_true _
      go_wp2_with (fail)
      refine (portagekit_Num.calls E1 E1 _ rfl).mono ?_
      rintro e wb ⟨rfl, hdq⟩
      have HAb := Aside0.mk hdq.below
      have HB1b := Aside0.mk (HB1A.out.trans (hdq.below.mono HB1A.out.size))
      clear hdq
      have hx := blk_below HBU.out HAb.out
      have hy := blk_below HB5Z.out HB1b.out
      have p0 := cell_blk hx (i := 0) rfl
      have p1 := cell_blk hx (i := 1) rfl
      have p2 := cell_blk hx (i := 2) rfl
      have p3 := cell_blk hx (i := 3) rfl
      have p4 := cell_blk hx (i := 4) rfl
      have q0 := cell_blk hy (i := 0) rfl
      have q1 := cell_blk hy (i := 1) rfl
      have q2 := cell_blk hy (i := 2) rfl
      have q3 := cell_blk hy (i := 3) rfl
      have q4 := cell_blk hy (i := 4) rfl
      clear hx hy
      go_wp2_with (fail)
      refine (same_graph (HRU2.out.below HAb.out) (HR1Z.out.below HB1b.out) HS1.out).mono ?_
      rintro e wc ⟨rfl, hbq⟩
      have HF : Aside0 (Below w.heap.size w wc) := ⟨HL1Z.out.below.trans ((HB1b.out.trans (hbq.mono HB1b.out.size)).mono HL1Z.out.below.size)⟩
      clear hbq p0 p1 p2 p3 p4 q0 q1 q2 q3 q4
      go_wp2_with (fail)
      go_ret
      exact ⟨rfl, HF.out⟩
end Go.Proofs.Ytmeaepmimnmjlaa.Ask
/- The same as Open, by the bulk of what is read: for the statements whose inputs are of a bulk of at most 1048576. -/
namespace Go.Proofs.Ytmeaepmimnmjlaa.OpenUpto
open Go.RowKit Go.Proofs.YtmeaepmimnmjlaaW.PrintWords
set_option linter.unusedVariables false
set_option linter.unusedSimpArgs false

/-- what is read is of a bulk of at most 1048576 -/
def few {H : Type} (d : DataW H) : Prop := Rows.uptoBulk d ≤ 1048576
theorem one_le {H : Type} (d : DataW H) : 1 ≤ Rows.uptoBulk d := by
  cases d with
  | lit l => cases l <;> simp [Rows.uptoBulk]
  | nil => simp [Rows.uptoBulk]
  | ptr d => simp [Rows.uptoBulk]
  | slice elems spare => simp [Rows.uptoBulk]
  | agg parts => simp [Rows.uptoBulk]
  | iface t d => simp [Rows.uptoBulk]
  | map entries => simp [Rows.uptoBulk]
  | held h => simp [Rows.uptoBulk]
theorem part_le {H : Type} {d : DataW H} {l : List (DataW H)} (h : d ∈ l) : Rows.uptoBulk d ≤ Rows.uptoBulkAll l := by
  induction l with
  | nil => cases h
  | cons x r ih =>
    simp only [Rows.uptoBulkAll]
    cases List.mem_cons.1 h with
    | inl e => subst e; omega
    | inr e => have := ih e; omega
theorem length_le {H : Type} (l : List (DataW H)) : l.length ≤ Rows.uptoBulkAll l := by
  induction l with
  | nil => simp [Rows.uptoBulkAll]
  | cons x r ih => have := one_le x; simp only [Rows.uptoBulkAll, List.length_cons]; omega

/-- What reads as data of type t is a value of kind d of which Q holds. -/
def Opens {α : Type} (d : Kd α) (P : Program) (t : TypeId) (Q : α → Prop) : Prop :=
  ∀ (H : Type) (enc : TypeId × Value → H) (W : World) (fuel : Nat) (cs : List Value) (x : DataW H × List MemPlace), DataW.trod enc P W 0 (fun _ => true) true fuel t cs = some x → few x.1 → ∃ a, d.K W a cs ∧ Q a
/-- .. of a struct's fields from one on. -/
def OpensF {α : Type} (d : Kd α) (P : Program) (fs : List Field) (off : Nat) (Q : α → Prop) : Prop :=
  ∀ (H : Type) (enc : TypeId × Value → H) (W : World) (fuel : Nat) (cs : List Value) (xs : List (DataW H × List MemPlace)), cs.length = d.sz → xs.length = fs.length →
    (∀ (i : Nat) (f : Field), fs[i]? = some f → DataW.trod enc P W 0 (fun _ => true) true fuel f.type ((cs.drop (f.offset - off)).take (P.cellsOf f.type)) = xs[i]?) →
    (∀ (i : Nat) (f : Field), fs[i]? = some f → off ≤ f.offset) →
    Rows.uptoBulkAll (xs.map (·.1)) ≤ 1048576 → ∃ a, d.K W a cs ∧ Q a

theorem Opens.mono {α : Type} {d : Kd α} {P : Program} {t : TypeId} {Q Q' : α → Prop} (h : Opens d P t Q) (hq : ∀ a, Q a → Q' a) : Opens d P t Q' := fun H enc W fuel cs x h1 h2 =>
  let ⟨a, h3, h4⟩ := h H enc W fuel cs x h1 h2; ⟨a, h3, hq a h4⟩

theorem opens_int {P : Program} {t : TypeId} (k : IntKind) (ht : P.underlying t = some (.int k)) : Opens (Kd.int k) P t (fun n => (Lit.int k n).wf = true) := by
  intro H enc W fuel cs x h _
  cases fuel with
  | zero => simp [DataW.trod] at h
  | succ n =>
    unfold DataW.trod at h
    rw [ht] at h
    split at h <;> simp_all
    obtain ⟨⟨rfl, hw⟩, _⟩ := h
    exact ⟨_, rfl, hw⟩
theorem opens_string {P : Program} {t : TypeId} (ht : P.underlying t = some .string) : Opens Kd.string P t (fun s => s.size ≤ 1048576) := by
  intro H enc W fuel cs x h hs
  cases fuel with
  | zero => simp [DataW.trod] at h
  | succ n =>
    unfold DataW.trod at h
    rw [ht] at h
    split at h <;> simp_all
    obtain ⟨hm, rfl⟩ := h
    refine ⟨_, rfl, ?_⟩
    have h1 : Rows.uptoBulk (DataW.lit (H := H) (.string _)) ≤ 1048576 := hs
    simp only [Rows.uptoBulk] at h1
    simp at h1
    have : ∀ b : ByteArray, b.data.size = b.size := fun b => rfl
    omega

theorem opens_slice {α : Type} {d : Kd α} {P : Program} {t e : TypeId} {Q : α → Prop} (ht : P.underlying t = some (.slice e)) (hd : Opens d P e Q) (hc : P.cellsOf e = d.sz) [Inhabited α] :
    Opens (Kd.slice e d) P t (fun l => l.length ≤ 1048576 ∧ ∀ a ∈ l, Q a) := by
  intro H enc W fuel cs x h hs
  rcases Go.Deep.open_slice ht h with ⟨rfl, rfl⟩ | ⟨a, len, cap, m, n, D, Pl, rfl, hb, hl, hm, hmm, rfl, hx⟩
  · refine ⟨[], ⟨none, 0, rfl, Nat.le_refl _, rfl, by simp, fun h => absurd h (by simp)⟩, ?_⟩
    exact ⟨by simp, fun a ha => by cases ha⟩
  · rw [if_pos rfl] at hmm
    subst hmm
    have hw : Rows.uptoBulkAll ((List.range len).map D) + Rows.uptoBulkAll ((List.range (m - len)).map fun j => D (len + j)) + 1 ≤ 1048576 := by
      have h1 : Rows.uptoBulk (DataW.slice ((List.range len).map D) ((List.range (m - len)).map fun j => D (len + j))) ≤ 1048576 := hs
      simpa only [Rows.uptoBulk] using h1
    have hall : ∀ d ∈ (List.range len).map D, few d := fun d hd => by
      have := part_le hd
      unfold few
      omega
    have hlen : len ≤ 1048576 := by
      have := length_le ((List.range len).map D)
      simp only [List.length_map, List.length_range] at this
      omega
    obtain ⟨V, hV⟩ := Go.Deep.choose_lt (α := α) (n := len) (p := fun i v => Q v ∧ ∃ c, d.K W v c ∧ c.length = d.sz ∧ W.cells? 0 (a.add (i * P.cellsOf e)) (P.cellsOf e) = some c) (fun i hi => by
      obtain ⟨c, h1, h2⟩ := hx i (by omega)
      obtain ⟨v, h3, h4⟩ := hd H enc W n c _ h2 (hall _ (List.mem_map.2 ⟨i, List.mem_range.2 hi, rfl⟩))
      exact ⟨v, h4, c, h3, d.K_len h3, h1⟩)
    refine ⟨(List.range len).map V, ⟨some a, m, by simp, by simpa using hl, by simp, by simp; unfold maxLen at hm; omega, fun _ => ⟨a, rfl, ?_⟩⟩, ?_, ?_⟩
    · intro j p hj
      rw [List.getElem?_map] at hj
      obtain ⟨j', hj', rfl⟩ := Option.map_eq_some_iff.1 hj
      have hjl : j < len := by
        have := (List.getElem?_eq_some_iff.1 hj').1
        simpa using this
      have : j' = j := by
        rw [List.getElem?_range hjl] at hj'
        exact (Option.some.inj hj').symm
      subst this
      obtain ⟨_, c, hK, hcl, hcells⟩ := hV j' hjl
      refine ⟨c, hcl, hK, fun i u hu => ?_⟩
      obtain ⟨_, hlen, hg⟩ := World.cells?_some hcells
      have hil : i < c.length := (List.getElem?_eq_some_iff.1 hu).1
      have := hg i (by rw [hc, ← hcl]; exact hil)
      rw [hu, hc, Go.Deep.add_add] at this
      exact this
    · simp only [List.length_map, List.length_range]; exact hlen
    · intro b hb2
      obtain ⟨i, hi, rfl⟩ := List.mem_map.1 hb2
      exact (hV i (List.mem_range.1 hi)).1

theorem opensF_last {α : Type} {d : Kd α} {P : Program} {f : Field} {off : Nat} {Q : α → Prop} (hd : Opens d P f.type Q) (ho : f.offset = off) (hc : P.cellsOf f.type = d.sz) : OpensF d P [f] off Q := by
  intro H enc W fuel cs xs hl hx hr _ hs
  match xs, hx with
  | [y], _ =>
    have h0 := hr 0 f rfl
    rw [ho, Nat.sub_self, List.drop_zero, hc, ← hl, List.take_length] at h0
    have hs' : Rows.uptoBulk y.1 + 0 ≤ 1048576 := hs
    exact hd H enc W fuel cs y h0 hs'
theorem opensF_cons {α β : Type} {d : Kd α} {d2 : Kd β} {P : Program} {f : Field} {fs : List Field} {off : Nat} {Q : α → Prop} {Q2 : β → Prop} (hd : Opens d P f.type Q) (ho : f.offset = off) (hc : P.cellsOf f.type = d.sz)
    (hf : OpensF d2 P fs (off + d.sz) Q2) (hofs : ∀ g ∈ fs, off + d.sz ≤ g.offset) : OpensF (Kd.pair d d2) P (f :: fs) off (fun p => Q p.1 ∧ Q2 p.2) := by
  intro H enc W fuel cs xs hl hx hr hoff hs
  have hl' : cs.length = d.sz + d2.sz := hl
  match xs, hx with
  | y :: ys, hx =>
    have h0 := hr 0 f rfl
    rw [ho, Nat.sub_self, List.drop_zero, hc] at h0
    have hs' : Rows.uptoBulk y.1 + Rows.uptoBulkAll (ys.map (·.1)) ≤ 1048576 := hs
    have s1 : few y.1 := by unfold few; omega
    have s2 : Rows.uptoBulkAll (ys.map (·.1)) ≤ 1048576 := by omega
    obtain ⟨a, ha, qa⟩ := hd H enc W fuel _ y h0 s1
    obtain ⟨b, hb, qb⟩ := hf H enc W fuel (cs.drop d.sz) ys (by rw [List.length_drop]; omega) (by simpa using hx) (fun i g hg => by
      have hge : off + d.sz ≤ g.offset := hofs g (List.mem_of_getElem? hg)
      have := hr (i+1) g (by simpa using hg)
      rw [List.drop_drop, show d.sz + (g.offset - (off + d.sz)) = g.offset - off by omega]
      simpa using this) (fun i g hg => hofs g (List.mem_of_getElem? hg)) s2
    exact ⟨(a, b), ⟨cs.take d.sz, cs.drop d.sz, (List.take_append_drop _ _).symm, ha, hb⟩, qa, qb⟩
theorem opens_struct {α β : Type} {d : Kd α} {P : Program} {t : TypeId} {fs : Array Field} {Q : α → Prop} (g : α → β) (f : β → α) (hfg : ∀ a, f (g a) = a) (ht : P.underlying t = some (.struct fs)) (hc : P.cellsOf t = d.sz) (h : OpensF d P fs.toList 0 Q) :
    Opens (Kd.iso d f) P t (fun b => Q (f b)) := by
  intro H enc W fuel cs x hx hs
  obtain ⟨xs, n, rfl, rfl, hl, hxl, hr⟩ := DataW.trod_struct ht hx
  have hs' : Rows.uptoBulkAll (xs.map (·.1)) ≤ 1048576 := by
    have h1 : Rows.uptoBulk (DataW.agg (xs.map (·.1))) ≤ 1048576 := hs
    simp only [Rows.uptoBulk] at h1
    omega
  obtain ⟨a, ha, qa⟩ := h H enc W n cs xs (by rw [hl, hc]) (by rw [hxl]; simp) (fun i f hf => by rw [Nat.sub_zero]; exact hr i f (by simpa using hf)) (fun _ _ _ => Nat.zero_le _) hs'
  exact ⟨g a, by show d.K W (f (g a)) cs; rw [hfg]; exact ha, by show Q (f (g a)); rw [hfg]; exact qa⟩
/-- an argument -/
theorem opens_arg {α : Type} {d : Kd α} {P : Program} {t : TypeId} {Q : α → Prop} (h : Opens d P t Q) {H : Type} {enc : TypeId × Value → H} {W : World} {v : Value} {dd : DataW H} {ps : List MemPlace} {ds : List (DataW H)} {j : Nat}
    (hk : Rows.uptoSmall H ds = true) (hd : ds[j]? = some dd) (ht2 : DataW.Trod enc P W 0 (fun _ => true) true t v dd ps) : ∃ a, d.K W a v.cells.toList ∧ Q a := by
  obtain ⟨fuel, hf⟩ := ht2
  refine h H enc W fuel _ _ hf ?_
  have h1 : Rows.uptoBulkAll ds ≤ 1048576 := of_decide_eq_true hk
  have h2 := part_le (List.mem_of_getElem? hd)
  exact Nat.le_trans h2 h1
end Go.Proofs.Ytmeaepmimnmjlaa.OpenUpto
/- GraphMemory, the row: the law returns true, and the input reads as it did. For every input of a bulk of at most 1048576. -/
namespace Go.Proofs.Ytmeaepmimnmjlaa.graphMemoryUpto
open Go.ChangeShapes Go.WideShapes Go.ChangeAt Go.RowKit
open Go.Proofs.Ytmeaepmimnmjlaa.OpenUpto Go.Proofs.Ytmeaepmimnmjlaa.PGb Go.Proofs.Ytmeaepmimnmjlaa.Ask Go.Proofs.YtmeaepmimnmjlaaW.PrintWords
open Go.ChangeMaps (open_string shut_string)
set_option linter.unusedVariables false
set_option linter.unusedSimpArgs false
theorem own : ownKnob Try.prog.godebug = none := by kernel_rfl
theorem laidOut : laidOutB Try.prog = true := by kernel_rfl
instance : Inhabited S40 := ⟨z40⟩
instance : Inhabited S49 := ⟨z49⟩
theorem o9 : Opens Kd.string Try.prog 9 (fun _ => True) := (opens_string Try.underlying9).mono (fun _ _ => trivial)
theorem o3 : Opens (Kd.int .i64) Try.prog 3 (fun _ => True) := (opens_int .i64 Try.underlying3).mono (fun _ _ => trivial)
theorem o2 : Opens (Kd.int .i64) Try.prog 2 (fun _ => True) := (opens_int .i64 Try.underlying2).mono (fun _ _ => trivial)
theorem o40 : Opens k40 Try.prog 40 (fun x => True) := (opens_struct (fun p : Int × Int => (⟨p.1, p.2⟩ : S40)) (fun x : S40 => (x.f0, x.f1)) (fun _ => rfl) Try.underlying40 (by kernel_rfl) (opensF_cons o3 rfl (by kernel_rfl) (opensF_last o2 rfl (by kernel_rfl)) (by intro g hg; simp at hg; first | (subst hg; decide) | (rcases hg with rfl | rfl | rfl | rfl | rfl | rfl | rfl <;> decide)))).mono (fun _ _ => trivial)
theorem o22 : Opens (Kd.slice 40 (k40)) Try.prog 22 (fun l => l.length ≤ 1048576) := (opens_slice Try.underlying22 o40 (by kernel_rfl)).mono (fun _ h => h.1)
theorem o49 : Opens k49 Try.prog 49 (fun x => True) := (opens_struct (fun p : Int × Int × Int × Int => (⟨p.1, p.2.1, p.2.2.1, p.2.2.2⟩ : S49)) (fun x : S49 => (x.f0, x.f1, x.f2, x.f3)) (fun _ => rfl) Try.underlying49 (by kernel_rfl) (opensF_cons o3 rfl (by kernel_rfl) (opensF_cons o3 rfl (by kernel_rfl) (opensF_cons o3 rfl (by kernel_rfl) (opensF_last o3 rfl (by kernel_rfl)) (by intro g hg; simp at hg; first | (subst hg; decide) | (rcases hg with rfl | rfl | rfl | rfl | rfl | rfl | rfl <;> decide))) (by intro g hg; simp at hg; first | (subst hg; decide) | (rcases hg with rfl | rfl | rfl | rfl | rfl | rfl | rfl <;> decide))) (by intro g hg; simp at hg; first | (subst hg; decide) | (rcases hg with rfl | rfl | rfl | rfl | rfl | rfl | rfl <;> decide)))).mono (fun _ _ => trivial)
theorem o23 : Opens (Kd.slice 49 (k49)) Try.prog 23 (fun l => l.length ≤ 1048576) := (opens_slice Try.underlying23 o49 (by kernel_rfl)).mono (fun _ h => h.1)
theorem p25 : Opens (Kd.iso (Kd.pair (Kd.string) (Kd.pair (Kd.int .i64) (Kd.pair (Kd.int .i64) (Kd.pair (Kd.slice 40 (k40)) (Kd.slice 49 (k49)))))) (fun p : (ByteArray × Int × Int × (List (S40)) × (List (S49))) => p)) Try.prog 25 (fun p => (True ∧ True ∧ True ∧ p.2.2.2.1.length ≤ 1048576 ∧ p.2.2.2.2.length ≤ 1048576)) := (opens_struct (fun p : (ByteArray × Int × Int × (List (S40)) × (List (S49))) => p) (fun p : (ByteArray × Int × Int × (List (S40)) × (List (S49))) => p) (fun _ => rfl) Try.underlying25 (by kernel_rfl) (opensF_cons o9 rfl (by kernel_rfl) (opensF_cons o3 rfl (by kernel_rfl) (opensF_cons o3 rfl (by kernel_rfl) (opensF_cons o22 rfl (by kernel_rfl) (opensF_last o23 rfl (by kernel_rfl)) (by intro g hg; simp at hg; first | (subst hg; decide) | (rcases hg with rfl | rfl | rfl | rfl | rfl | rfl | rfl <;> decide))) (by intro g hg; simp at hg; first | (subst hg; decide) | (rcases hg with rfl | rfl | rfl | rfl | rfl | rfl | rfl <;> decide))) (by intro g hg; simp at hg; first | (subst hg; decide) | (rcases hg with rfl | rfl | rfl | rfl | rfl | rfl | rfl <;> decide))) (by intro g hg; simp at hg; first | (subst hg; decide) | (rcases hg with rfl | rfl | rfl | rfl | rfl | rfl | rfl <;> decide)))).mono (fun _ h => h)
set_option maxRecDepth 100000 in
set_option maxHeartbeats 1000000 in
theorem contract (H : Type) (enc : TypeId × Value → H) (W : World) (base : Nat) (args : Array Value) (ds gs : List (DataW H)) (before : List MemPlace)
  (hval0 : ∀ (j : Nat) t v, Try.f4.params[j]? = some t → args[j]? = some v → Value.okWide Try.prog W .any base t v)
  (hW : DataW.Whole enc Try.prog Try.f4.params.toList Rows.graphMemorySpec.vars false W args.toList ds gs before) (hsz0 : Rows.uptoSmall H (ds ++ gs) = true) :
    Calls Try.prog 4 args W fun e W' => ∃ v, e = .returned v ∧ Rows.graphMemorySpec.post enc Try.prog Try.f4 false true false false W args v W' := by
  have hsz := hsz0
  have hval := hval0
  have hW' := hW
  obtain ⟨p, q, hA0, hV, rfl, hfz, hnd⟩ := hW
  have hA : DataW.TrodAll enc Try.prog W 0 (fun _ => true) true Try.f4.params.toList args.toList ds p := hA0
  rw [Try.params4] at hA hval
  obtain ⟨v0, vs0, d0, ds0, p0, q0, hargs, rfl, rfl, h0, r0⟩ := trodAll_cons hA
  obtain ⟨v1, vs1, d1, ds1, p1, q1, rfl, rfl, rfl, h1, r1⟩ := trodAll_cons r0
  obtain ⟨rfl, rfl, rfl⟩ := trodAll_nil r1
  obtain rfl : args = #[v0, v1] := by cases args; simp_all
  obtain ⟨rfl, rfl⟩ := trodVars_none hV
  try simp only [List.append_nil] at hsz
  obtain ⟨cs0, rfl, hcs0⟩ := okWide_struct Try.underlying25 (hval 0 25 v0 rfl rfl)
  obtain ⟨cs1, rfl, hcs1⟩ := okWide_struct Try.underlying25 (hval 1 25 v1 rfl rfl)
  have k0_ := h0
  have lt0 : ∀ x ∈ p0, x.block < W.heap.size := by obtain ⟨m, hm⟩ := k0_; exact DataW.trod_lt m _ _ _ hm
  have k1_ := h1
  have lt1 : ∀ x ∈ p1, x.block < W.heap.size := by obtain ⟨m, hm⟩ := k1_; exact DataW.trod_lt m _ _ _ hm
  obtain ⟨⟨a0_0, a0_1, a0_2, l0_3, l0_4⟩, hK0, ⟨Q0_0, Q0_1, Q0_2, Q0_3, Q0_4⟩⟩ := opens_arg (j := 0) p25 hsz rfl h0
  obtain ⟨x0_0, y0_0, e0, rfl, ⟨x0_1, y0_1, rfl, rfl, ⟨x0_2, y0_2, rfl, rfl, ⟨x0_3, y0_3, rfl, ⟨A0_3, c0_3, rfl, hl0_3, hC0_3⟩, ⟨A0_4, c0_4, rfl, hl0_4, hC0_4⟩⟩⟩⟩⟩ := hK0
  have hc0 : cs0 = #[.string a0_0, .int .i64 a0_1, .int .i64 a0_2, .slice A0_3 l0_3.length c0_3, .slice A0_4 l0_4.length c0_4] := by
    have he : cs0.toList = [.string a0_0, .int .i64 a0_1, .int .i64 a0_2, .slice A0_3 l0_3.length c0_3, .slice A0_4 l0_4.length c0_4] := e0
    exact Array.toList_inj.1 he
  subst hc0
  obtain ⟨⟨a1_0, a1_1, a1_2, l1_3, l1_4⟩, hK1, ⟨Q1_0, Q1_1, Q1_2, Q1_3, Q1_4⟩⟩ := opens_arg (j := 1) p25 hsz rfl h1
  obtain ⟨x1_0, y1_0, e1, rfl, ⟨x1_1, y1_1, rfl, rfl, ⟨x1_2, y1_2, rfl, rfl, ⟨x1_3, y1_3, rfl, ⟨A1_3, c1_3, rfl, hl1_3, hC1_3⟩, ⟨A1_4, c1_4, rfl, hl1_4, hC1_4⟩⟩⟩⟩⟩ := hK1
  have hc1 : cs1 = #[.string a1_0, .int .i64 a1_1, .int .i64 a1_2, .slice A1_3 l1_3.length c1_3, .slice A1_4 l1_4.length c1_4] := by
    have he : cs1.toList = [.string a1_0, .int .i64 a1_1, .int .i64 a1_2, .slice A1_3 l1_3.length c1_3, .slice A1_4 l1_4.length c1_4] := e1
    exact Array.toList_inj.1 he
  subst hc1
  obtain hk := show (l0_3.length ≤ 1048576 ∧ l0_4.length ≤ 1048576 ∧ l1_3.length ≤ 1048576 ∧ l1_4.length ≤ 1048576) ∧ true = true from ⟨⟨Q0_3, Q0_4, Q1_3, Q1_4⟩, rfl⟩
  refine (portagelaw09_GraphMemory.calls a0_0 a0_1 a0_2 _ _ l0_3 _ _ l0_4 a1_0 a1_1 a1_2 _ _ l1_3 _ _ l1_4 true W hC0_3 hl0_3 hC0_4 hl0_4 hC1_3 hl1_3 hC1_4 hl1_4 hk).mono fun e W' ⟨he, bel⟩ => ?_
  subst he
  exact ⟨_, rfl, _, _, _, [], _, [], hW', trodAll_mk1 (shut_bool Try.underlying4 _), (trodAll_cons_mk (Below.trod laidOut (by kernel_rfl) (of_decide_eq_true (by kernel_rfl)) k0_ bel lt0) (trodAll_cons_mk (Below.trod laidOut (by kernel_rfl) (of_decide_eq_true (by kernel_rfl)) k1_ bel lt1) trodAll_mk0)), rfl, bel.frame _, fun h => by cases h⟩
set_option maxRecDepth 100000 in
theorem lifted (os : Os) (started : os.Started) (H : Type) (enc : TypeId × Value → H) (F : Stop.Interp) :
    ReturnsInHanded {} Try.checked os 4 .any ((Rows.OpenSpec.upto Rows.graphMemorySpec).pre6 enc Try.prog Try.f4 Rows.graphMemoryUptoRow.domain false) (((Rows.OpenSpec.upto Rows.graphMemorySpec).at F).post enc Try.prog Try.f4 false true false false) := by
  refine returnsInHanded_of_cond (C := Try.checked) (s := Rows.OpenSpec.upto Rows.graphMemorySpec) (k := Rows.uptoSmall) rfl own started (by kernel_rfl) Try.func4
    (OpenSpec.witness (enc := enc) (C := Try.checked) (s := Rows.OpenSpec.upto Rows.graphMemorySpec) (k := Rows.uptoSmall) rfl false ⟨#[], #[.agg #[.string .empty, .int .i64 0, .int .i64 0, .slice none 0 0, .slice none 0 0], .agg #[.string .empty, .int .i64 0, .int .i64 0, .slice none 0 0, .slice none 0 0]], []⟩ 8 (by kernel_rfl) (by kernel_rfl) (by kernel_rfl)
      (x := ([.agg [.lit (.string []), .lit (.int .i64 0), .lit (.int .i64 0), .nil, .nil], .agg [.lit (.string []), .lit (.int .i64 0), .lit (.int .i64 0), .nil, .nil]], [], [])) (by kernel_rfl) rfl (by kernel_rfl)) ?_
  intro W base args ds gs before hval hW _ hk _
  exact contract H enc W base args ds gs before hval hW hk
theorem proved : Rows.GraphMemoryUptoSaid :=
  OpenClaim.holds_of_cond 4 Try.f4 rfl rfl rfl rfl rfl rfl rfl ⟨rfl, rfl, rfl, rfl, rfl⟩ rfl rfl rfl rfl rfl (by kernel_rfl) Try.func4 (by kernel_rfl)
    (of_decide_eq_true (by kernel_rfl)) (by unfold Func.isWrapper; first | (rw [if_pos (by decide +kernel)]; kernel_rfl) | (rw [if_neg (by decide +kernel)]; exact ⟨rfl, rfl⟩))
    (fun os started H enc _ F => lifted os started H enc F)
#print axioms proved
end Go.Proofs.Ytmeaepmimnmjlaa.graphMemoryUpto
namespace Go.Proofs.Ytmeaepmimnmjlaa
/-- The row, under a short name, for the claim. -/
theorem graphMemory_holds : Rows.GraphMemoryUptoSaid := graphMemoryUpto.proved
end Go.Proofs.Ytmeaepmimnmjlaa
