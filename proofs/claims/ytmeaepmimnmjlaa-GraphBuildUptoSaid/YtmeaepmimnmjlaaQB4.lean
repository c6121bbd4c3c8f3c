/- GraphBuild, the row: the law returns true, and the input reads as it did. For every input of a bulk of at most 1048576. -/
import Derived.Test.YtmeaepmimnmjlaaQB3
import Derived.Test.YtmeaepmimnmjlaaRows
-- written by a program of this session (leafprint.py, cutsec.py) over the translation; Lean checks it
namespace Go.Proofs.Ytmeaepmimnmjlaa.PGb
open Go.RowKit Go.Proofs.YtmeaepmimnmjlaaW.PrintWords Go.Proofs.YtmeaepmimnmjlaaW.PrintLast Go.Proofs.YtmeaepmimnmjlaaW.PrintMore
attribute [local go_sem] max2_int min2_int max_two min_two max_three min_three max_four min_four   -- for this text's walks alone
set_option linter.unusedVariables false
set_option linter.unusedSimpArgs false

/-! ### portageref0_CopyInstrs: function 54 -/
def portageref0_CopyInstrs.l0 : Nat → List (S40) → List (S40) → Int → Option ((List (S40)))
  | 0, _, _, _ => none
  | k + 1, x0, x3, x4 => if x4 < (x0.length : Int) then (if 0 ≤ x4 then (if x3.length < 8796093022208 then (portageref0_CopyInstrs.l0 k x0 (x3 ++ [(⟨(rd_T40 x0 x4).f0, (rd_T40 x0 x4).f1⟩ : S40)]) (wrap64 (x4 + 1))) else (none)) else (none)) else (some x3)
def portageref0_CopyInstrs.f (k : Nat) (l0 : List (S40)) : Option ((List (S40))) := portageref0_CopyInstrs.l0 k l0 ([] : List (S40)) 0
theorem portageref0_CopyInstrs.mono_l : ∀ k, (∀ y0 y1 y2, LeO (portageref0_CopyInstrs.l0 k y0 y1 y2) (portageref0_CopyInstrs.l0 (k + 1) y0 y1 y2))
  | 0 => fun _ _ _ r h => by simp [portageref0_CopyInstrs.l0] at h
  | k + 1 => by
    have ih0 := portageref0_CopyInstrs.mono_l k
    · intro y0 y1 y2
      unfold portageref0_CopyInstrs.l0
      repeat' first
      | (with_reducible exact ih0 _ _ _)
      | (with_reducible exact LeO.refl _)
      | (with_reducible exact LeO.none _)
      | (with_reducible refine LeO.ite ?_ ?_)
      | (with_reducible refine LeO.bind ?_ (fun _ => ?_))
      | exact ih0 _ _ _
      | exact LeO.none _
      | refine LeO.ite ?_ ?_
      | refine LeO.bind ?_ (fun _ => ?_)
theorem portageref0_CopyInstrs.mono : ∀ a0 k, LeO (portageref0_CopyInstrs.f k a0) (portageref0_CopyInstrs.f (k + 1) a0) := by
 intro a0 k; have ih0 := portageref0_CopyInstrs.mono_l k; unfold portageref0_CopyInstrs.f; repeat' first
  | (with_reducible exact ih0 _ _ _)
  | (with_reducible exact LeO.refl _)
  | (with_reducible exact LeO.none _)
  | (with_reducible refine LeO.ite ?_ ?_)
  | (with_reducible refine LeO.bind ?_ (fun _ => ?_))
  | exact ih0 _ _ _
  | exact LeO.none _
  | refine LeO.ite ?_ ?_
  | refine LeO.bind ?_ (fun _ => ?_)
set_option maxHeartbeats 8000000 in
set_option maxRecDepth 100000 in
theorem portageref0_CopyInstrs.calls (k : Nat) (A0 : Option Addr) (c0 : Nat) (l0 : List (S40)) (r : List (S40)) (w : World) (hr0 : Kd.C k40 w A0 l0.length l0) (hc0 : l0.length ≤ c0) (h : portageref0_CopyInstrs.f k l0 = some r) :
    Calls Try.prog 54 #[.slice A0 l0.length c0] w fun e w' => ∃ v0_ : Value, e = .returned (v0_) ∧ Kd.R k40 40 w' w.heap.size (fun _ => True) v0_ r ∧ Below w.heap.size w w' := by
 have hu40 := Try.underlying40; have HR0 := Aside0.mk hr0; have HC0 := Aside0.mk hc0; clear hr0 hc0; have HB := Aside0.mk (Below.refl w.heap.size w); have H : (portageref0_CopyInstrs.l0 k l0 ([] : List (S40)) 0) = some r := h; clear h; have H' := Aside0.mk H; clear H; go_enter Try.func54, Try.ntmps54; go_wp2; go_loopg [3, 4] k (fun kq v3 v4 w' => ∃ (x3_1 : List (S40)) (x4_1 : Int), v4 = .int .i64 x4_1 ∧ Aside0 (portageref0_CopyInstrs.l0 kq l0 x3_1 x4_1 = some r) ∧ Aside0 (kq ≤ k) ∧ Aside0 (Kd.R k40 40 w' w.heap.size (fun _ => True) v3 x3_1) ∧ Aside0 (Below w.heap.size w w'))
 case atStart => exact ⟨(([] : List (S40))), (0), (by first | rfl | (simp; done) | (simp [*]; done)), H', ⟨Nat.le_refl _⟩, ⟨by first | exact Kd.R_nil _ _ _ _ _ | exact Kd.N_nil _ _ _ _ _ | exact Kd.V_nil _ _ _ _ _ | exact Kd.Q_nil _ _ _ _ _ | exact Kd.S_nil _ _ _ _ _⟩, ⟨by repeat (first | (with_reducible first | exact HB.out | apply below_alloc | apply pw_below_drewN | apply below_drew1) | exact HB.out)⟩⟩
 case round =>
  clear H'; obtain ⟨x3_1, x4_1, rfl, HA, HK1, HO_3, HB⟩ := hrel
  cases gk with
  | zero => exact absurd HA.out (by simp [portageref0_CopyInstrs.l0])
  | succ k1 =>
   have H := HA.out; clear HA; simp only [portageref0_CopyInstrs.l0] at H
   by_cases c2 : x4_1 < (l0.length : Int)
   ·rw [if_pos c2] at H; have c2b0 : decide (x4_1 < (l0.length : Int)) = true := decide_eq_true c2; clear c2
    by_cases c3 : 0 ≤ x4_1
    ·rw [if_pos c3] at H; have c3b0 : decide (0 ≤ x4_1) = true := decide_eq_true c3; clear c3
     by_cases c4 : x3_1.length < 8796093022208
     ·rw [if_pos c4] at H; have LMc4 := Aside0.mk c4; clear c4; obtain ⟨y234, hy234⟩ : ∃ y_ : List (S40), y_ = (x3_1 ++ [(⟨(rd_T40 l0 x4_1).f0, (rd_T40 l0 x4_1).f1⟩ : S40)]) := ⟨_, rfl⟩; replace H : (portageref0_CopyInstrs.l0 k1 l0 y234 (wrap64 (x4_1 + 1))) = some r := by first | (rw [hy234]; with_reducible exact H) | (have H2_ := (Option.bind_some _ _).symm.trans H; rw [hy234]; with_reducible exact H2_) | (have H2_ := (Option.bind_some _ _).symm.trans H; with_reducible exact H2_) | with_reducible exact H | (rw [hy234]; exact H) | exact H
      have Ny234 := Aside0.mk hy234; clear hy234; have H' := Aside0.mk H; clear H; have p233 : 0 ≤ (x4_1 : Int) := of_decide_eq_true (by first | (with_reducible assumption) | assumption); have q233 : x4_1 < (l0.length : Int) := of_decide_eq_true (by first | (with_reducible assumption) | assumption); obtain ⟨ad233, e233, hx233_0, hx233_1⟩ := at_T40 HR0.out x4_1 p233 q233
      cases e233; replace hx233_0 := (HB.out.cell (World.block_lt_of_cell? w _ hx233_0)).trans hx233_0; replace hx233_1 := (HB.out.cell (World.block_lt_of_cell? w _ hx233_1)).trans hx233_1; replace p233 := eq_true p233; replace q233 := eq_true q233; go_wp2_with (first | ((with_reducible refine gate_builtin (b := .append) (xs := #[.tmp 11, .tmp 16]) rfl ?_); at_builtin; refine Kd.R_append k40 (w0 := w) w.heap.size rfl (.tmp 11) (.tmp 16) 22 40 (.agg #[(.int .i64 0), (.int .i64 0)]) 16 rfl Try.underlying22 info40 rfl (by decide) (by omega) u3 x3_1 (⟨(rd_T40 l0 x4_1).f0, (rd_T40 l0 x4_1).f1⟩ : S40) [.int .i64 ((rd_T40 l0 x4_1).f0), .int .i64 ((rd_T40 l0 x4_1).f1)] (fun _ => True) (fun _ => False) rfl rfl ?aP (fun _ hk => hk.elim) ?aF ?aO ?aB ?aS ?aL ?_; (case aP => exact k40_mkM _ _ _ (⟨(rd_T40 l0 x4_1).f0, (rd_T40 l0 x4_1).f1⟩ : S40)); (case aB => exact (by repeat (first | (with_reducible first | exact HB.out | apply below_alloc | apply pw_below_drewN | apply below_drew1) | exact HB.out))); (case aF => exact (fun _ _ => trivial)); (case aO => exact (by (with_reducible repeat (first | apply Kd.R_alloc | apply Kd.R_drewN | apply Kd.R_drew)); exact HO_3.out)); (case aS => exact (below_size (by repeat (first | (with_reducible first | exact HB.out | apply below_alloc | apply pw_below_drewN | apply below_drew1) | exact HB.out)))); (case aL => have := LMc4.out; omega); intro v235 w5 ho hb hg hat; rw [← Ny234.out] at ho; have n0_ := Aside0.mk (hb); have n1_ := Aside0.mk (ho); clear HB; clear HO_3; have HB := n0_; have HO236 := n1_; clear n0_ n1_; clear ho hb hg hat))
      go_roundg k1
      case measure => have := HK1.out; omega
      case rel => exact ⟨(y234), (wrap64 (x4_1 + 1)), (by first | rfl | (simp; done) | (simp [*]; done)), H', ⟨by have := HK1.out; omega⟩, ⟨by (with_reducible repeat (first | apply Kd.R_alloc | apply Kd.R_drewN | apply Kd.R_drew)); exact HO236.out⟩, ⟨by repeat (first | (with_reducible first | exact HB.out | apply below_alloc | apply pw_below_drewN | apply below_drew1) | exact HB.out)⟩⟩
     ·rw [if_neg c4] at H
      exact absurd H (by simp)
    ·rw [if_neg c3] at H
     exact absurd H (by simp)
   ·rw [if_neg c2] at H; have c2b0 : decide (x4_1 < (l0.length : Int)) = false := decide_eq_false c2; clear c2; obtain rfl := Option.some.inj H; go_wp2; go_ret; exact ⟨_, by first | rfl | (simp [errW_none, errW_some] <;> rfl) | (simp [*, errW_none, errW_some] <;> rfl), by (with_reducible repeat (first | apply Kd.R_alloc | apply Kd.R_drewN | apply Kd.R_drew)); exact HO_3.out, by repeat (first | (with_reducible first | exact HB.out | apply below_alloc | apply pw_below_drewN | apply below_drew1) | exact HB.out)⟩
/-! ### portageref0_CopyFunction: function 17 -/
def portageref0_CopyFunction.l0 : Nat → List (S49) → Int → ByteArray → Int → Int → List (S40) → List (S49) → ByteArray → Int → Int → List (S40) → List (S49) → Option (ByteArray × Int × Int × (List (S40)) × (List (S49)))
  | 0, _, _, _, _, _, _, _, _, _, _, _, _ => none
  | k + 1, x4, x5, x238000, x238001, x238002, x238003, x238004, x240000, x240001, x240002, x240003, x240004 => if x5 < (x238004.length : Int) then (if 0 ≤ x5 then (if x4.length < 4398046511104 then (portageref0_CopyFunction.l0 k (x4 ++ [(⟨(rd_T49 x238004 x5).f0, (rd_T49 x238004 x5).f1, (rd_T49 x238004 x5).f2, (rd_T49 x238004 x5).f3⟩ : S49)]) (wrap64 (x5 + 1)) x238000 x238001 x238002 x238003 x238004 x240000 x240001 x240002 x240003 x240004) else (none)) else (none)) else (some (x240000, x240001, x240002, x240003, x4))
def portageref0_CopyFunction.f (k : Nat) (a0_0 : ByteArray) (a0_1 : Int) (a0_2 : Int) (l0_3 : List (S40)) (l0_4 : List (S49)) : Option (ByteArray × Int × Int × (List (S40)) × (List (S49))) := (portageref0_CopyInstrs.f k l0_3).bind fun t240 => (portageref0_CopyFunction.l0 k ([] : List (S49)) 0 a0_0 a0_1 a0_2 l0_3 l0_4 a0_0 a0_1 a0_2 t240 l0_4)
theorem portageref0_CopyFunction.mono_l : ∀ k, (∀ y0 y1 y2 y3 y4 y5 y6 y7 y8 y9 y10 y11, LeO (portageref0_CopyFunction.l0 k y0 y1 y2 y3 y4 y5 y6 y7 y8 y9 y10 y11) (portageref0_CopyFunction.l0 (k + 1) y0 y1 y2 y3 y4 y5 y6 y7 y8 y9 y10 y11))
  | 0 => fun _ _ _ _ _ _ _ _ _ _ _ _ r h => by simp [portageref0_CopyFunction.l0] at h
  | k + 1 => by
    have ih0 := portageref0_CopyFunction.mono_l k
    · intro y0 y1 y2 y3 y4 y5 y6 y7 y8 y9 y10 y11
      unfold portageref0_CopyFunction.l0
      repeat' first
      | (with_reducible exact ih0 _ _ _ _ _ _ _ _ _ _ _ _)
      | (with_reducible exact portageref0_CopyInstrs.mono _ _)
      | (with_reducible exact LeO.refl _)
      | (with_reducible exact LeO.none _)
      | (with_reducible refine LeO.ite ?_ ?_)
      | (with_reducible refine LeO.bind ?_ (fun _ => ?_))
      | exact ih0 _ _ _ _ _ _ _ _ _ _ _ _
      | exact portageref0_CopyInstrs.mono _ _
      | exact LeO.none _
      | refine LeO.ite ?_ ?_
      | refine LeO.bind ?_ (fun _ => ?_)
theorem portageref0_CopyFunction.mono : ∀ a0 a1 a2 a3 a4 k, LeO (portageref0_CopyFunction.f k a0 a1 a2 a3 a4) (portageref0_CopyFunction.f (k + 1) a0 a1 a2 a3 a4) := by
 intro a0 a1 a2 a3 a4 k; have ih0 := portageref0_CopyFunction.mono_l k; unfold portageref0_CopyFunction.f; repeat' first
  | (with_reducible exact ih0 _ _ _ _ _ _ _ _ _ _ _ _)
  | (with_reducible exact portageref0_CopyInstrs.mono _ _)
  | (with_reducible exact LeO.refl _)
  | (with_reducible exact LeO.none _)
  | (with_reducible refine LeO.ite ?_ ?_)
  | (with_reducible refine LeO.bind ?_ (fun _ => ?_))
  | exact ih0 _ _ _ _ _ _ _ _ _ _ _ _
  | exact portageref0_CopyInstrs.mono _ _
  | exact LeO.none _
  | refine LeO.ite ?_ ?_
  | refine LeO.bind ?_ (fun _ => ?_)
set_option maxHeartbeats 8000000 in
set_option maxRecDepth 100000 in
theorem portageref0_CopyFunction.calls (k : Nat) (a0_0 : ByteArray) (a0_1 : Int) (a0_2 : Int) (A0_3 : Option Addr) (c0_3 : Nat) (l0_3 : List (S40)) (A0_4 : Option Addr) (c0_4 : Nat) (l0_4 : List (S49)) (r1 : ByteArray) (r2 : Int) (r3 : Int) (r4 : List (S40)) (r5 : List (S49)) (w : World) (hr0_3 : Kd.C k40 w A0_3 l0_3.length l0_3) (hc0_3 : l0_3.length ≤ c0_3) (hr0_4 : Kd.C k49 w A0_4 l0_4.length l0_4) (hc0_4 : l0_4.length ≤ c0_4) (h : portageref0_CopyFunction.f k a0_0 a0_1 a0_2 l0_3 l0_4 = some (r1, r2, r3, r4, r5)) :
    Calls Try.prog 17 #[.agg #[.string a0_0, .int .i64 a0_1, .int .i64 a0_2, .slice A0_3 l0_3.length c0_3, .slice A0_4 l0_4.length c0_4]] w fun e w' => ∃ v3_ v4_ : Value, e = .returned (.agg #[.string r1, .int .i64 r2, .int .i64 r3, v3_, v4_]) ∧ Kd.R k40 40 w' w.heap.size (fun _ => True) v3_ r4 ∧ Kd.R k49 49 w' w.heap.size (fun _ => True) v4_ r5 ∧ Below w.heap.size w w' := by
 have hu25 := Try.underlying25; have hu49 := Try.underlying49; have HR0_3 := Aside0.mk hr0_3; have HC0_3 := Aside0.mk hc0_3; clear hr0_3 hc0_3; have HR0_4 := Aside0.mk hr0_4; have HC0_4 := Aside0.mk hc0_4; clear hr0_4 hc0_4; have HB := Aside0.mk (Below.refl w.heap.size w); have H : ((portageref0_CopyInstrs.f k l0_3).bind fun t240 => (portageref0_CopyFunction.l0 k ([] : List (S49)) 0 a0_0 a0_1 a0_2 l0_3 l0_4 a0_0 a0_1 a0_2 t240 l0_4)) = some (r1, r2, r3, r4, r5) := h; clear h; replace H := Option.bind_eq_some_iff.mp H; obtain ⟨t240, A20, H⟩ := H; replace H : (portageref0_CopyFunction.l0 k ([] : List (S49)) 0 a0_0 a0_1 a0_2 l0_3 l0_4 a0_0 a0_1 a0_2 t240 l0_4) = some (r1, r2, r3, r4, r5) := H; have A2 := Aside0.mk A20; clear A20; have H' := Aside0.mk H; clear H; go_enter Try.func17, Try.ntmps17
 go_wp2_with (first | ((with_reducible refine gate_dst (N := 1) rfl ?_); refine box_event ?hg (N := 1) ?hd (cs := #[.string a0_0, .int .i64 a0_1, .int .i64 a0_2, .slice A0_3 l0_3.length c0_3, .slice A0_4 l0_4.length c0_4]) (t := 25) ?hr ?_; (case hd => rfl); (case hg => rfl); (case hr => first | (go_simp; done) | (go_simp; rfl)); intro gb237 hg w3 hbox hb; have n0_ := Aside0.mk (below_step (by repeat (first | (with_reducible first | exact HB.out | apply below_alloc | apply pw_below_drewN | apply below_drew1) | exact HB.out)) hb); have n1_ := Aside0.mk (hbox); have n2_ := Aside0.mk ((by rw [hg]; exact (below_size (by repeat (first | (with_reducible first | exact HB.out | apply below_alloc | apply pw_below_drewN | apply below_drew1) | exact HB.out))) : w.heap.size ≤ gb237)); have n3_ := Aside0.mk ((by rw [hg]; exact (below_size (by repeat (first | (with_reducible first | exact HB.out | apply below_alloc | apply pw_below_drewN | apply below_drew1) | exact HB.out))) : w.heap.size ≤ gb237)); clear HB; have HB := n0_; have BK237 := n1_; have GW237 := n2_; have GE237 := n3_; clear n0_ n1_ n2_ n3_; clear hb hbox hg) | ((with_reducible refine gate_dst (N := 2) rfl ?_); refine box_event ?hg (N := 2) ?hd (cs := #[.string (⟨#[]⟩ : ByteArray), .int .i64 0, .int .i64 0, .slice none 0 0, .slice none 0 0]) (t := 25) ?hr ?_; (case hd => rfl); (case hg => rfl); (case hr => first | (go_simp; done) | (go_simp; rfl)); intro gb238 hg w4 hbox hb; have n0_ := Aside0.mk (blk_below (g := gb237) (o := .cells #[.string a0_0, .int .i64 a0_1, .int .i64 a0_2, .slice A0_3 l0_3.length c0_3, .slice A0_4 l0_4.length c0_4] 25 (0, 0)) (by (with_reducible repeat (first | refine blk_drewN ?_ _ | refine blk_drew ?_ | refine blk_alloc ?_ _)); exact BK237.out) hb); have n1_ := Aside0.mk (below_step (by repeat (first | (with_reducible first | exact HB.out | apply below_alloc | apply pw_below_drewN | apply below_drew1 | refine below_set ?_ GE237.out) | exact HB.out)) hb); have n2_ := Aside0.mk (hbox); have n3_ := Aside0.mk ((by rw [hg]; exact (below_size (by repeat (first | (with_reducible first | exact HB.out | apply below_alloc | apply pw_below_drewN | apply below_drew1 | refine below_set ?_ GE237.out) | exact HB.out))) : w.heap.size ≤ gb238)); have n4_ := Aside0.mk ((by rw [hg]; exact (below_size (by repeat (first | (with_reducible first | exact HB.out | apply below_alloc | apply pw_below_drewN | apply below_drew1 | refine below_set ?_ GE237.out) | exact HB.out))) : w.heap.size ≤ gb238)); have n5_ := Aside0.mk ((by rw [hg]; exact Nat.ne_of_lt (blk_lt (g := gb237) (o := .cells #[.string a0_0, .int .i64 a0_1, .int .i64 a0_2, .slice A0_3 l0_3.length c0_3, .slice A0_4 l0_4.length c0_4] 25 (0, 0)) (by (with_reducible repeat (first | refine blk_drewN ?_ _ | refine blk_drew ?_ | refine blk_alloc ?_ _)); exact BK237.out)) : gb237 ≠ gb238)); have n6_ := Aside0.mk ((by rw [hg]; exact Nat.ne_of_gt (blk_lt (g := gb237) (o := .cells #[.string a0_0, .int .i64 a0_1, .int .i64 a0_2, .slice A0_3 l0_3.length c0_3, .slice A0_4 l0_4.length c0_4] 25 (0, 0)) (by (with_reducible repeat (first | refine blk_drewN ?_ _ | refine blk_drew ?_ | refine blk_alloc ?_ _)); exact BK237.out)) : gb238 ≠ gb237)); clear BK237; clear HB; have BK237 := n0_; have HB := n1_; have BK238 := n2_; have GW238 := n3_; have GE238 := n4_; have NB237_238 := n5_; have NB238_237 := n6_; clear n0_ n1_ n2_ n3_ n4_ n5_ n6_; clear hb hbox hg; have hnb5 := NB237_238.out; have hnc5 := NB238_237.out; have hcz6_0 : w4.cell? ⟨gb237, 0, none⟩ = some (.string a0_0) := (blk_cell BK237.out 0).trans rfl; have hcz6_1 : w4.cell? ⟨gb237, 1, none⟩ = some (.int .i64 a0_1) := (blk_cell BK237.out 1).trans rfl; have hcz6_2 : w4.cell? ⟨gb237, 2, none⟩ = some (.int .i64 a0_2) := (blk_cell BK237.out 2).trans rfl; have hcz6_3 : w4.cell? ⟨gb237, 3, none⟩ = some (.slice A0_3 l0_3.length c0_3) := (blk_cell BK237.out 3).trans rfl; have hcz6_4 : w4.cell? ⟨gb237, 4, none⟩ = some (.slice A0_4 l0_4.length c0_4) := (blk_cell BK237.out 4).trans rfl; have hfz6_0 := blk_frozen BK237.out 0; have hfz6_1 := blk_frozen BK237.out 1; have hfz6_2 := blk_frozen BK237.out 2; have hfz6_3 := blk_frozen BK237.out 3; have hfz6_4 := blk_frozen BK237.out 4) | ((with_reducible refine gate_dst (N := 3) rfl ?_); refine box_event ?hg (N := 3) ?hd (cs := #[.string (⟨#[]⟩ : ByteArray), .int .i64 0, .int .i64 0, .slice none 0 0, .slice none 0 0]) (t := 25) ?hr ?_; (case hd => rfl); (case hg => rfl); (case hr => first | (go_simp; done) | (go_simp; rfl)); intro gb239 hg w7 hbox hb; have n0_ := Aside0.mk (blk_below (g := gb237) (o := .cells #[.string a0_0, .int .i64 a0_1, .int .i64 a0_2, .slice A0_3 l0_3.length c0_3, .slice A0_4 l0_4.length c0_4] 25 (0, 0)) (by (with_reducible repeat (first | refine blk_drewN ?_ _ | refine blk_drew ?_ | refine blk_alloc ?_ _)); exact BK237.out) hb); have n1_ := Aside0.mk (blk_below (g := gb238) (o := .cells #[.string (⟨#[]⟩ : ByteArray), .int .i64 0, .int .i64 0, .slice none 0 0, .slice none 0 0] 25 (0, 0)) (by (with_reducible repeat (first | refine blk_drewN ?_ _ | refine blk_drew ?_ | refine blk_alloc ?_ _)); exact BK238.out) hb); have n2_ := Aside0.mk (below_step (by repeat (first | (with_reducible first | exact HB.out | apply below_alloc | apply pw_below_drewN | apply below_drew1 | refine below_set ?_ GE237.out | refine below_set ?_ GE238.out) | exact HB.out)) hb); have n3_ := Aside0.mk (hbox); have n4_ := Aside0.mk ((by rw [hg]; exact (below_size (by repeat (first | (with_reducible first | exact HB.out | apply below_alloc | apply pw_below_drewN | apply below_drew1 | refine below_set ?_ GE237.out | refine below_set ?_ GE238.out) | exact HB.out))) : w.heap.size ≤ gb239)); have n5_ := Aside0.mk ((by rw [hg]; exact (below_size (by repeat (first | (with_reducible first | exact HB.out | apply below_alloc | apply pw_below_drewN | apply below_drew1 | refine below_set ?_ GE237.out | refine below_set ?_ GE238.out) | exact HB.out))) : w.heap.size ≤ gb239)); have n6_ := Aside0.mk ((by rw [hg]; exact Nat.ne_of_lt (blk_lt (g := gb237) (o := .cells #[.string a0_0, .int .i64 a0_1, .int .i64 a0_2, .slice A0_3 l0_3.length c0_3, .slice A0_4 l0_4.length c0_4] 25 (0, 0)) (by (with_reducible repeat (first | refine blk_drewN ?_ _ | refine blk_drew ?_ | refine blk_alloc ?_ _)); exact BK237.out)) : gb237 ≠ gb239)); have n7_ := Aside0.mk ((by rw [hg]; exact Nat.ne_of_gt (blk_lt (g := gb237) (o := .cells #[.string a0_0, .int .i64 a0_1, .int .i64 a0_2, .slice A0_3 l0_3.length c0_3, .slice A0_4 l0_4.length c0_4] 25 (0, 0)) (by (with_reducible repeat (first | refine blk_drewN ?_ _ | refine blk_drew ?_ | refine blk_alloc ?_ _)); exact BK237.out)) : gb239 ≠ gb237)); have n8_ := Aside0.mk ((by rw [hg]; exact Nat.ne_of_lt (blk_lt (g := gb238) (o := .cells #[.string (⟨#[]⟩ : ByteArray), .int .i64 0, .int .i64 0, .slice none 0 0, .slice none 0 0] 25 (0, 0)) (by (with_reducible repeat (first | refine blk_drewN ?_ _ | refine blk_drew ?_ | refine blk_alloc ?_ _)); exact BK238.out)) : gb238 ≠ gb239)); have n9_ := Aside0.mk ((by rw [hg]; exact Nat.ne_of_gt (blk_lt (g := gb238) (o := .cells #[.string (⟨#[]⟩ : ByteArray), .int .i64 0, .int .i64 0, .slice none 0 0, .slice none 0 0] 25 (0, 0)) (by (with_reducible repeat (first | refine blk_drewN ?_ _ | refine blk_drew ?_ | refine blk_alloc ?_ _)); exact BK238.out)) : gb239 ≠ gb238)); clear BK237; clear BK238; clear HB; have BK237 := n0_; have BK238 := n1_; have HB := n2_; have BK239 := n3_; have GW239 := n4_; have GE239 := n5_; have NB237_239 := n6_; have NB239_237 := n7_; have NB238_239 := n8_; have NB239_238 := n9_; clear n0_ n1_ n2_ n3_ n4_ n5_ n6_ n7_ n8_ n9_; clear hb hbox hg; have hnb8 := NB239_237.out; have hnc8 := NB237_239.out; have hnb9 := NB239_238.out; have hnc9 := NB238_239.out; have hcz10_0 : w7.cell? ⟨gb239, 0, none⟩ = some (.string (⟨#[]⟩ : ByteArray)) := (blk_cell BK239.out 0).trans rfl; have hcz10_1 : w7.cell? ⟨gb239, 1, none⟩ = some (.int .i64 0) := (blk_cell BK239.out 1).trans rfl; have hcz10_2 : w7.cell? ⟨gb239, 2, none⟩ = some (.int .i64 0) := (blk_cell BK239.out 2).trans rfl; have hcz10_3 : w7.cell? ⟨gb239, 3, none⟩ = some (.slice none 0 0) := (blk_cell BK239.out 3).trans rfl; have hcz10_4 : w7.cell? ⟨gb239, 4, none⟩ = some (.slice none 0 0) := (blk_cell BK239.out 4).trans rfl; have hfz10_0 := blk_frozen BK239.out 0; have hfz10_1 := blk_frozen BK239.out 1; have hfz10_2 := blk_frozen BK239.out 2; have hfz10_3 := blk_frozen BK239.out 3; have hfz10_4 := blk_frozen BK239.out 4; have hcz11_0 : w7.cell? ⟨gb237, 0, none⟩ = some (.string a0_0) := (blk_cell BK237.out 0).trans rfl; have hcz11_1 : w7.cell? ⟨gb237, 1, none⟩ = some (.int .i64 a0_1) := (blk_cell BK237.out 1).trans rfl; have hcz11_2 : w7.cell? ⟨gb237, 2, none⟩ = some (.int .i64 a0_2) := (blk_cell BK237.out 2).trans rfl; have hcz11_3 : w7.cell? ⟨gb237, 3, none⟩ = some (.slice A0_3 l0_3.length c0_3) := (blk_cell BK237.out 3).trans rfl; have hcz11_4 : w7.cell? ⟨gb237, 4, none⟩ = some (.slice A0_4 l0_4.length c0_4) := (blk_cell BK237.out 4).trans rfl; have hfz11_0 := blk_frozen BK237.out 0; have hfz11_1 := blk_frozen BK237.out 1; have hfz11_2 := blk_frozen BK237.out 2; have hfz11_3 := blk_frozen BK237.out 3; have hfz11_4 := blk_frozen BK237.out 4) | ((with_reducible refine gate_callee (f := 54) rfl ?_); refine goesL_ (some 9) rfl rfl Try.func54 (by kernel_rfl) rfl #[.slice A0_3 l0_3.length c0_3] rfl (by (try simp only [List.map_toArray, List.map_cons, List.map_nil]); first | done | rfl | (simp only [List.length_drop, List.length_take]; rfl)) ?_; (with_reducible refine (portageref0_CopyInstrs.calls k _ _ l0_3 t240 _ ?side1 ?side2 A2.out).mono ?_); (case side1 => exact Kd.C_below HR0_3.out (by repeat (first | (with_reducible first | exact HB.out | apply below_alloc | apply pw_below_drewN | apply below_drew1 | refine below_set ?_ GE237.out | refine below_set ?_ GE238.out | refine below_set ?_ GE239.out) | exact HB.out))); (case side2 => exact HC0_3.out); rintro e w12 ⟨v241, rfl, ho0, hb⟩; refine ⟨_, rfl, ?_⟩; have n0_ := Aside0.mk (Kd.R_lower ho0 (below_size (by repeat (first | (with_reducible first | exact HB.out | apply below_alloc | apply pw_below_drewN | apply below_drew1 | refine below_set ?_ GE237.out | refine below_set ?_ GE238.out | refine below_set ?_ GE239.out) | exact HB.out)))); have n1_ := Aside0.mk (blk_below (g := gb237) (o := .cells #[.string a0_0, .int .i64 a0_1, .int .i64 a0_2, .slice A0_3 l0_3.length c0_3, .slice A0_4 l0_4.length c0_4] 25 (0, 0)) (by (with_reducible repeat (first | refine blk_drewN ?_ _ | refine blk_drew ?_ | refine blk_alloc ?_ _)); refine blk_far ?_ NB237_239.out _; (with_reducible repeat (first | refine blk_drewN ?_ _ | refine blk_drew ?_ | refine blk_alloc ?_ _)); refine blk_far ?_ NB237_239.out _; (with_reducible repeat (first | refine blk_drewN ?_ _ | refine blk_drew ?_ | refine blk_alloc ?_ _)); refine blk_far ?_ NB237_239.out _; (with_reducible repeat (first | refine blk_drewN ?_ _ | refine blk_drew ?_ | refine blk_alloc ?_ _)); refine blk_far ?_ NB237_239.out _; (with_reducible repeat (first | refine blk_drewN ?_ _ | refine blk_drew ?_ | refine blk_alloc ?_ _)); refine blk_far ?_ NB237_239.out _; (with_reducible repeat (first | refine blk_drewN ?_ _ | refine blk_drew ?_ | refine blk_alloc ?_ _)); exact BK237.out) hb); have n2_ := Aside0.mk (blk_below (g := gb238) (o := .cells #[.string (⟨#[]⟩ : ByteArray), .int .i64 0, .int .i64 0, .slice none 0 0, .slice none 0 0] 25 (0, 0)) (by (with_reducible repeat (first | refine blk_drewN ?_ _ | refine blk_drew ?_ | refine blk_alloc ?_ _)); refine blk_far ?_ NB238_239.out _; (with_reducible repeat (first | refine blk_drewN ?_ _ | refine blk_drew ?_ | refine blk_alloc ?_ _)); refine blk_far ?_ NB238_239.out _; (with_reducible repeat (first | refine blk_drewN ?_ _ | refine blk_drew ?_ | refine blk_alloc ?_ _)); refine blk_far ?_ NB238_239.out _; (with_reducible repeat (first | refine blk_drewN ?_ _ | refine blk_drew ?_ | refine blk_alloc ?_ _)); refine blk_far ?_ NB238_239.out _; (with_reducible repeat (first | refine blk_drewN ?_ _ | refine blk_drew ?_ | refine blk_alloc ?_ _)); refine blk_far ?_ NB238_239.out _; (with_reducible repeat (first | refine blk_drewN ?_ _ | refine blk_drew ?_ | refine blk_alloc ?_ _)); exact BK238.out) hb); have n3_ := Aside0.mk (blk_below (g := gb239) (o := .cells #[.string a0_0, .int .i64 a0_1, .int .i64 a0_2, .slice A0_3 l0_3.length c0_3, .slice A0_4 l0_4.length c0_4] 25 (0, 0)) (by (with_reducible repeat (first | refine blk_drewN ?_ _ | refine blk_drew ?_ | refine blk_alloc ?_ _)); refine blk_put (cs := #[.string a0_0, .int .i64 a0_1, .int .i64 a0_2, .slice A0_3 l0_3.length c0_3, .slice none 0 0]) ?_ 4 _ rfl; (with_reducible repeat (first | refine blk_drewN ?_ _ | refine blk_drew ?_ | refine blk_alloc ?_ _)); refine blk_put (cs := #[.string a0_0, .int .i64 a0_1, .int .i64 a0_2, .slice none 0 0, .slice none 0 0]) ?_ 3 _ rfl; (with_reducible repeat (first | refine blk_drewN ?_ _ | refine blk_drew ?_ | refine blk_alloc ?_ _)); refine blk_put (cs := #[.string a0_0, .int .i64 a0_1, .int .i64 0, .slice none 0 0, .slice none 0 0]) ?_ 2 _ rfl; (with_reducible repeat (first | refine blk_drewN ?_ _ | refine blk_drew ?_ | refine blk_alloc ?_ _)); refine blk_put (cs := #[.string a0_0, .int .i64 0, .int .i64 0, .slice none 0 0, .slice none 0 0]) ?_ 1 _ rfl; (with_reducible repeat (first | refine blk_drewN ?_ _ | refine blk_drew ?_ | refine blk_alloc ?_ _)); refine blk_put (cs := #[.string (⟨#[]⟩ : ByteArray), .int .i64 0, .int .i64 0, .slice none 0 0, .slice none 0 0]) ?_ 0 _ rfl; (with_reducible repeat (first | refine blk_drewN ?_ _ | refine blk_drew ?_ | refine blk_alloc ?_ _)); exact BK239.out) hb); have n4_ := Aside0.mk (below_step (by repeat (first | (with_reducible first | exact HB.out | apply below_alloc | apply pw_below_drewN | apply below_drew1 | refine below_set ?_ GE237.out | refine below_set ?_ GE238.out | refine below_set ?_ GE239.out) | exact HB.out)) hb); clear BK237; clear BK238; clear BK239; clear HB; have HO242 := n0_; have BK237 := n1_; have BK238 := n2_; have BK239 := n3_; have HB := n4_; clear n0_ n1_ n2_ n3_ n4_; (try clear hb); (try clear hb2); (try clear hk); (try clear hi); (try clear ho0); obtain ⟨Ao13, co13, eo13⟩ := Kd.R_slice HO242.out; subst eo13; have hcz14_0 : w12.cell? ⟨gb239, 0, none⟩ = some (.string a0_0) := (blk_cell BK239.out 0).trans rfl; have hcz14_1 : w12.cell? ⟨gb239, 1, none⟩ = some (.int .i64 a0_1) := (blk_cell BK239.out 1).trans rfl; have hcz14_2 : w12.cell? ⟨gb239, 2, none⟩ = some (.int .i64 a0_2) := (blk_cell BK239.out 2).trans rfl; have hcz14_3 : w12.cell? ⟨gb239, 3, none⟩ = some (.slice A0_3 l0_3.length c0_3) := (blk_cell BK239.out 3).trans rfl; have hcz14_4 : w12.cell? ⟨gb239, 4, none⟩ = some (.slice A0_4 l0_4.length c0_4) := (blk_cell BK239.out 4).trans rfl; have hfz14_0 := blk_frozen BK239.out 0; have hfz14_1 := blk_frozen BK239.out 1; have hfz14_2 := blk_frozen BK239.out 2; have hfz14_3 := blk_frozen BK239.out 3; have hfz14_4 := blk_frozen BK239.out 4))
 go_loopg [4, 5] k (fun kq v4 v5 w' => ∃ (x4_1 : List (S49)) (x5_1 : Int), v5 = .int .i64 x5_1 ∧ Aside0 (portageref0_CopyFunction.l0 kq x4_1 x5_1 a0_0 a0_1 a0_2 l0_3 l0_4 a0_0 a0_1 a0_2 t240 l0_4 = some (r1, r2, r3, r4, r5)) ∧ Aside0 (kq ≤ k) ∧ Aside0 (Kd.R k49 49 w' w.heap.size (fun _ => True) v4 x4_1) ∧ Aside0 (Kd.R k40 40 w' w.heap.size (fun _ => True) (.slice Ao13 t240.length co13) t240) ∧ Aside0 (w'.heap[gb237]? = some (.cells #[.string a0_0, .int .i64 a0_1, .int .i64 a0_2, (.slice A0_3 l0_3.length c0_3), (.slice A0_4 l0_4.length c0_4)] 25 (0, 0))) ∧ Aside0 (w'.heap[gb238]? = some (.cells #[.string (⟨#[]⟩ : ByteArray), .int .i64 0, .int .i64 0, (.slice none 0 0), (.slice none 0 0)] 25 (0, 0))) ∧ Aside0 (w'.heap[gb239]? = some (.cells #[.string a0_0, .int .i64 a0_1, .int .i64 a0_2, (.slice Ao13 t240.length co13), (.slice A0_4 l0_4.length c0_4)] 25 (0, 0))) ∧ Aside0 (Below w.heap.size w w'))
 case atStart => exact ⟨(([] : List (S49))), (0), (by first | rfl | (simp; done) | (simp [*]; done)), H', ⟨Nat.le_refl _⟩, ⟨by first | exact Kd.R_nil _ _ _ _ _ | exact Kd.N_nil _ _ _ _ _ | exact Kd.V_nil _ _ _ _ _ | exact Kd.Q_nil _ _ _ _ _ | exact Kd.S_nil _ _ _ _ _⟩, ⟨by (with_reducible repeat (first | apply Kd.R_alloc | apply Kd.R_drewN | apply Kd.R_drew)); exact Kd.R_mono (Kd.R_far (p := ⟨gb239, 3, none⟩) (Kd.R_types HO242.out BK239.out (by decide)) (fun _ hk => hk.2) (.slice Ao13 t240.length co13)) (fun _ hk => trivial)⟩, ⟨by (with_reducible repeat (first | refine blk_drewN ?_ _ | refine blk_drew ?_ | refine blk_alloc ?_ _)); refine blk_far ?_ NB237_239.out _; (with_reducible repeat (first | refine blk_drewN ?_ _ | refine blk_drew ?_ | refine blk_alloc ?_ _)); exact BK237.out⟩, ⟨by (with_reducible repeat (first | refine blk_drewN ?_ _ | refine blk_drew ?_ | refine blk_alloc ?_ _)); refine blk_far ?_ NB238_239.out _; (with_reducible repeat (first | refine blk_drewN ?_ _ | refine blk_drew ?_ | refine blk_alloc ?_ _)); exact BK238.out⟩, ⟨by (with_reducible repeat (first | refine blk_drewN ?_ _ | refine blk_drew ?_ | refine blk_alloc ?_ _)); refine blk_put (cs := #[.string a0_0, .int .i64 a0_1, .int .i64 a0_2, .slice A0_3 l0_3.length c0_3, .slice A0_4 l0_4.length c0_4]) ?_ 3 _ rfl; (with_reducible repeat (first | refine blk_drewN ?_ _ | refine blk_drew ?_ | refine blk_alloc ?_ _)); exact BK239.out⟩, ⟨by repeat (first | (with_reducible first | exact HB.out | apply below_alloc | apply pw_below_drewN | apply below_drew1 | refine below_set ?_ GE237.out | refine below_set ?_ GE238.out | refine below_set ?_ GE239.out) | exact HB.out)⟩⟩
 case round =>
  clear H'; (try clear c1); (try clear p2); (try clear c5); (try clear c8); (try clear c9); (try clear hcz10_0); (try clear hcz10_1); (try clear hcz10_2); (try clear hcz10_3); (try clear hcz10_4); (try clear hcz11_0); (try clear hcz11_1); (try clear hcz11_2); (try clear hcz11_3); (try clear hcz11_4); (try clear hcz14_0); (try clear hcz14_1); (try clear hcz14_2); (try clear hcz14_3); (try clear hcz14_4); (try clear hcz6_0); (try clear hcz6_1); (try clear hcz6_2); (try clear hcz6_3); (try clear hcz6_4); (try clear hfz10_0); (try clear hfz10_1); (try clear hfz10_2); (try clear hfz10_3); (try clear hfz10_4); (try clear hfz11_0); (try clear hfz11_1); (try clear hfz11_2); (try clear hfz11_3); (try clear hfz11_4); (try clear hfz14_0); (try clear hfz14_1); (try clear hfz14_2); (try clear hfz14_3); (try clear hfz14_4); (try clear hfz6_0); (try clear hfz6_1); (try clear hfz6_2); (try clear hfz6_3); (try clear hfz6_4); obtain ⟨x4_1, x5_1, rfl, HA, HK1, HO_4, HO_240003, BK237, BK238, BK239, HB⟩ := hrel
  cases gk with
  | zero => exact absurd HA.out (by simp [portageref0_CopyFunction.l0])
  | succ k1 =>
   have H := HA.out; clear HA; simp only [portageref0_CopyFunction.l0] at H
   by_cases c15 : x5_1 < (l0_4.length : Int)
   ·rw [if_pos c15] at H; have c15b0 : decide (x5_1 < (l0_4.length : Int)) = true := decide_eq_true c15; clear c15
    by_cases c16 : 0 ≤ x5_1
    ·rw [if_pos c16] at H; have c16b0 : decide (0 ≤ x5_1) = true := decide_eq_true c16; clear c16
     by_cases c17 : x4_1.length < 4398046511104
     ·rw [if_pos c17] at H; have LMc17 := Aside0.mk c17; clear c17; obtain ⟨y244, hy244⟩ : ∃ y_ : List (S49), y_ = (x4_1 ++ [(⟨(rd_T49 l0_4 x5_1).f0, (rd_T49 l0_4 x5_1).f1, (rd_T49 l0_4 x5_1).f2, (rd_T49 l0_4 x5_1).f3⟩ : S49)]) := ⟨_, rfl⟩; replace H : (portageref0_CopyFunction.l0 k1 y244 (wrap64 (x5_1 + 1)) a0_0 a0_1 a0_2 l0_3 l0_4 a0_0 a0_1 a0_2 t240 l0_4) = some (r1, r2, r3, r4, r5) := by first | (rw [hy244]; with_reducible exact H) | (have H2_ := (Option.bind_some _ _).symm.trans H; rw [hy244]; with_reducible exact H2_) | (have H2_ := (Option.bind_some _ _).symm.trans H; with_reducible exact H2_) | with_reducible exact H | (rw [hy244]; exact H) | exact H
      have Ny244 := Aside0.mk hy244; clear hy244; have H' := Aside0.mk H; clear H; have hnb18 := NB237_238.out; have hnc18 := NB238_237.out; have hnb19 := NB237_239.out; have hnc19 := NB239_237.out; have hcz20_0 : wr.cell? ⟨gb237, 0, none⟩ = some (.string a0_0) := (blk_cell BK237.out 0).trans rfl; have hcz20_1 : wr.cell? ⟨gb237, 1, none⟩ = some (.int .i64 a0_1) := (blk_cell BK237.out 1).trans rfl; have hcz20_2 : wr.cell? ⟨gb237, 2, none⟩ = some (.int .i64 a0_2) := (blk_cell BK237.out 2).trans rfl; have hcz20_3 : wr.cell? ⟨gb237, 3, none⟩ = some (.slice A0_3 l0_3.length c0_3) := (blk_cell BK237.out 3).trans rfl; have hcz20_4 : wr.cell? ⟨gb237, 4, none⟩ = some (.slice A0_4 l0_4.length c0_4) := (blk_cell BK237.out 4).trans rfl; have hfz20_0 := blk_frozen BK237.out 0; have hfz20_1 := blk_frozen BK237.out 1; have hfz20_2 := blk_frozen BK237.out 2; have hfz20_3 := blk_frozen BK237.out 3; have hfz20_4 := blk_frozen BK237.out 4; have p243 : 0 ≤ (x5_1 : Int) := of_decide_eq_true (by first | (with_reducible assumption) | assumption); have q243 : x5_1 < (l0_4.length : Int) := of_decide_eq_true (by first | (with_reducible assumption) | assumption); obtain ⟨ad243, e243, hx243_0, hx243_1, hx243_2, hx243_3⟩ := at_T49 HR0_4.out x5_1 p243 q243
      cases e243; replace hx243_0 := (HB.out.cell (World.block_lt_of_cell? w _ hx243_0)).trans hx243_0; replace hx243_1 := (HB.out.cell (World.block_lt_of_cell? w _ hx243_1)).trans hx243_1; replace hx243_2 := (HB.out.cell (World.block_lt_of_cell? w _ hx243_2)).trans hx243_2; replace hx243_3 := (HB.out.cell (World.block_lt_of_cell? w _ hx243_3)).trans hx243_3; replace p243 := eq_true p243; replace q243 := eq_true q243; go_wp2_with (first | ((with_reducible refine gate_builtin (b := .append) (xs := #[.tmp 18, .tmp 24]) rfl ?_); at_builtin; refine Kd.R_append k49 (w0 := w) w.heap.size rfl (.tmp 18) (.tmp 24) 23 49 (.agg #[(.int .i64 0), (.int .i64 0), (.int .i64 0), (.int .i64 0)]) 32 rfl Try.underlying23 info49 rfl (by decide) (by omega) u4 x4_1 (⟨(rd_T49 l0_4 x5_1).f0, (rd_T49 l0_4 x5_1).f1, (rd_T49 l0_4 x5_1).f2, (rd_T49 l0_4 x5_1).f3⟩ : S49) [.int .i64 ((rd_T49 l0_4 x5_1).f0), .int .i64 ((rd_T49 l0_4 x5_1).f1), .int .i64 ((rd_T49 l0_4 x5_1).f2), .int .i64 ((rd_T49 l0_4 x5_1).f3)] (fun _ => True) (fun _ => False) rfl rfl ?aP (fun _ hk => hk.elim) ?aF ?aO ?aB ?aS ?aL ?_; (case aP => exact k49_mkM _ _ _ (⟨(rd_T49 l0_4 x5_1).f0, (rd_T49 l0_4 x5_1).f1, (rd_T49 l0_4 x5_1).f2, (rd_T49 l0_4 x5_1).f3⟩ : S49)); (case aB => exact (by repeat (first | (with_reducible first | exact HB.out | apply below_alloc | apply pw_below_drewN | apply below_drew1 | refine below_set ?_ GE237.out | refine below_set ?_ GE238.out | refine below_set ?_ GE239.out) | exact HB.out))); (case aF => exact (fun _ _ => trivial)); (case aO => exact (by (with_reducible repeat (first | apply Kd.R_alloc | apply Kd.R_drewN | apply Kd.R_drew)); exact HO_4.out)); (case aS => exact (below_size (by repeat (first | (with_reducible first | exact HB.out | apply below_alloc | apply pw_below_drewN | apply below_drew1 | refine below_set ?_ GE237.out | refine below_set ?_ GE238.out | refine below_set ?_ GE239.out) | exact HB.out)))); (case aL => have := LMc17.out; omega); intro v245 w21 ho hb hg hat; rw [← Ny244.out] at ho; have n0_ := Aside0.mk (Kd.R_over' (by (with_reducible repeat (first | apply Kd.R_alloc | apply Kd.R_drewN | apply Kd.R_drew)); exact HO_240003.out) (Kd.R_typed (by (with_reducible repeat (first | apply Kd.R_alloc | apply Kd.R_drewN | apply Kd.R_drew)); exact HO_4.out)) (by decide) hg); have n1_ := Aside0.mk (blk_grown (g := gb237) (o := .cells #[.string a0_0, .int .i64 a0_1, .int .i64 a0_2, .slice A0_3 l0_3.length c0_3, .slice (some ad243) l0_4.length c0_4] 25 (0, 0)) (by (with_reducible repeat (first | refine blk_drewN ?_ _ | refine blk_drew ?_ | refine blk_alloc ?_ _)); exact BK237.out) hg (Kd.R_ne HO_4.out BK237.out (by decide))); have n2_ := Aside0.mk (blk_grown (g := gb238) (o := .cells #[.string (⟨#[]⟩ : ByteArray), .int .i64 0, .int .i64 0, .slice none 0 0, .slice none 0 0] 25 (0, 0)) (by (with_reducible repeat (first | refine blk_drewN ?_ _ | refine blk_drew ?_ | refine blk_alloc ?_ _)); exact BK238.out) hg (Kd.R_ne HO_4.out BK238.out (by decide))); have n3_ := Aside0.mk (blk_grown (g := gb239) (o := .cells #[.string a0_0, .int .i64 a0_1, .int .i64 a0_2, .slice Ao13 t240.length co13, .slice (some ad243) l0_4.length c0_4] 25 (0, 0)) (by (with_reducible repeat (first | refine blk_drewN ?_ _ | refine blk_drew ?_ | refine blk_alloc ?_ _)); exact BK239.out) hg (Kd.R_ne HO_4.out BK239.out (by decide))); have n4_ := Aside0.mk (hb); have n5_ := Aside0.mk (ho); clear HO_240003; clear BK237; clear BK238; clear BK239; clear HB; clear HO_4; have HO_240003 := n0_; have BK237 := n1_; have BK238 := n2_; have BK239 := n3_; have HB := n4_; have HO246 := n5_; clear n0_ n1_ n2_ n3_ n4_ n5_; clear ho hb hg hat))
      go_roundg k1
      case measure => have := HK1.out; omega
      case rel => exact ⟨(y244), (wrap64 (x5_1 + 1)), (by first | rfl | (simp; done) | (simp [*]; done)), H', ⟨by have := HK1.out; omega⟩, ⟨by (with_reducible repeat (first | apply Kd.R_alloc | apply Kd.R_drewN | apply Kd.R_drew)); exact HO246.out⟩, ⟨by (with_reducible repeat (first | apply Kd.R_alloc | apply Kd.R_drewN | apply Kd.R_drew)); exact HO_240003.out⟩, ⟨by (with_reducible repeat (first | refine blk_drewN ?_ _ | refine blk_drew ?_ | refine blk_alloc ?_ _)); exact BK237.out⟩, ⟨by (with_reducible repeat (first | refine blk_drewN ?_ _ | refine blk_drew ?_ | refine blk_alloc ?_ _)); exact BK238.out⟩, ⟨by (with_reducible repeat (first | refine blk_drewN ?_ _ | refine blk_drew ?_ | refine blk_alloc ?_ _)); exact BK239.out⟩, ⟨by repeat (first | (with_reducible first | exact HB.out | apply below_alloc | apply pw_below_drewN | apply below_drew1 | refine below_set ?_ GE237.out | refine below_set ?_ GE238.out | refine below_set ?_ GE239.out) | exact HB.out)⟩⟩
     ·rw [if_neg c17] at H
      exact absurd H (by simp)
    ·rw [if_neg c16] at H
     exact absurd H (by simp)
   ·rw [if_neg c15] at H; have c15b0 : decide (x5_1 < (l0_4.length : Int)) = false := decide_eq_false c15; clear c15; simp only [Option.some.injEq, Prod.mk.injEq] at H; obtain ⟨rfl, rfl, rfl, rfl, rfl⟩ := H; have hnb22 := NB237_238.out; have hnc22 := NB238_237.out; have hnb23 := NB237_239.out; have hnc23 := NB239_237.out; have hcz24_0 : wr.cell? ⟨gb237, 0, none⟩ = some (.string a0_0) := (blk_cell BK237.out 0).trans rfl; have hcz24_1 : wr.cell? ⟨gb237, 1, none⟩ = some (.int .i64 a0_1) := (blk_cell BK237.out 1).trans rfl; have hcz24_2 : wr.cell? ⟨gb237, 2, none⟩ = some (.int .i64 a0_2) := (blk_cell BK237.out 2).trans rfl; have hcz24_3 : wr.cell? ⟨gb237, 3, none⟩ = some (.slice A0_3 l0_3.length c0_3) := (blk_cell BK237.out 3).trans rfl; have hcz24_4 : wr.cell? ⟨gb237, 4, none⟩ = some (.slice A0_4 l0_4.length c0_4) := (blk_cell BK237.out 4).trans rfl; have hfz24_0 := blk_frozen BK237.out 0; have hfz24_1 := blk_frozen BK237.out 1; have hfz24_2 := blk_frozen BK237.out 2; have hfz24_3 := blk_frozen BK237.out 3; have hfz24_4 := blk_frozen BK237.out 4; obtain ⟨Ao25, co25, eo25⟩ := Kd.R_slice HO_4.out; subst eo25; have hnb26 := NB239_238.out; have hnc26 := NB238_239.out; have hcz27_0 : wr.cell? ⟨gb239, 0, none⟩ = some (.string a0_0) := (blk_cell BK239.out 0).trans rfl; have hcz27_1 : wr.cell? ⟨gb239, 1, none⟩ = some (.int .i64 a0_1) := (blk_cell BK239.out 1).trans rfl; have hcz27_2 : wr.cell? ⟨gb239, 2, none⟩ = some (.int .i64 a0_2) := (blk_cell BK239.out 2).trans rfl; have hcz27_3 : wr.cell? ⟨gb239, 3, none⟩ = some (.slice Ao13 t240.length co13) := (blk_cell BK239.out 3).trans rfl; have hcz27_4 : wr.cell? ⟨gb239, 4, none⟩ = some (.slice A0_4 l0_4.length c0_4) := (blk_cell BK239.out 4).trans rfl; have hfz27_0 := blk_frozen BK239.out 0; have hfz27_1 := blk_frozen BK239.out 1; have hfz27_2 := blk_frozen BK239.out 2; have hfz27_3 := blk_frozen BK239.out 3; have hfz27_4 := blk_frozen BK239.out 4; have hcz28_0 : wr.cell? ⟨gb238, 0, none⟩ = some (.string (⟨#[]⟩ : ByteArray)) := (blk_cell BK238.out 0).trans rfl; have hcz28_1 : wr.cell? ⟨gb238, 1, none⟩ = some (.int .i64 0) := (blk_cell BK238.out 1).trans rfl; have hcz28_2 : wr.cell? ⟨gb238, 2, none⟩ = some (.int .i64 0) := (blk_cell BK238.out 2).trans rfl; have hcz28_3 : wr.cell? ⟨gb238, 3, none⟩ = some (.slice none 0 0) := (blk_cell BK238.out 3).trans rfl; have hcz28_4 : wr.cell? ⟨gb238, 4, none⟩ = some (.slice none 0 0) := (blk_cell BK238.out 4).trans rfl; have hfz28_0 := blk_frozen BK238.out 0; have hfz28_1 := blk_frozen BK238.out 1; have hfz28_2 := blk_frozen BK238.out 2; have hfz28_3 := blk_frozen BK238.out 3; have hfz28_4 := blk_frozen BK238.out 4; go_wp2; refine bodyPost_ret (results_cell_row rfl _ _ gb238 25 #[.string a0_0, .int .i64 a0_1, .int .i64 a0_2, .slice Ao13 t240.length co13, .slice Ao25 x4_1.length co25] (0, 0) _ rfl (by (with_reducible repeat (first | refine blk_drewN ?_ _ | refine blk_drew ?_ | refine blk_alloc ?_ _)); refine blk_put (cs := #[.string a0_0, .int .i64 a0_1, .int .i64 a0_2, .slice Ao13 t240.length co13, .slice none 0 0]) ?_ 4 _ rfl; (with_reducible repeat (first | refine blk_drewN ?_ _ | refine blk_drew ?_ | refine blk_alloc ?_ _)); refine blk_put (cs := #[.string a0_0, .int .i64 a0_1, .int .i64 a0_2, .slice none 0 0, .slice none 0 0]) ?_ 3 _ rfl; (with_reducible repeat (first | refine blk_drewN ?_ _ | refine blk_drew ?_ | refine blk_alloc ?_ _)); refine blk_put (cs := #[.string a0_0, .int .i64 a0_1, .int .i64 0, .slice none 0 0, .slice none 0 0]) ?_ 2 _ rfl; (with_reducible repeat (first | refine blk_drewN ?_ _ | refine blk_drew ?_ | refine blk_alloc ?_ _)); refine blk_put (cs := #[.string a0_0, .int .i64 0, .int .i64 0, .slice none 0 0, .slice none 0 0]) ?_ 1 _ rfl; (with_reducible repeat (first | refine blk_drewN ?_ _ | refine blk_drew ?_ | refine blk_alloc ?_ _)); refine blk_put (cs := #[.string (⟨#[]⟩ : ByteArray), .int .i64 0, .int .i64 0, .slice none 0 0, .slice none 0 0]) ?_ 0 _ rfl; (with_reducible repeat (first | refine blk_drewN ?_ _ | refine blk_drew ?_ | refine blk_alloc ?_ _)); refine blk_far ?_ NB238_239.out _; (with_reducible repeat (first | refine blk_drewN ?_ _ | refine blk_drew ?_ | refine blk_alloc ?_ _)); exact BK238.out) Try.underlying25 rfl (by kernel_rfl)) rfl ?_; exact ⟨_, _, by first | rfl | (simp [errW_none, errW_some] <;> rfl) | (simp [*, errW_none, errW_some] <;> rfl), by (with_reducible repeat (first | apply Kd.R_alloc | apply Kd.R_drewN | apply Kd.R_drew)); exact Kd.R_mono (Kd.R_far (p := ⟨gb238, 4, none⟩) (Kd.R_far (p := ⟨gb238, 3, none⟩) (Kd.R_far (p := ⟨gb238, 2, none⟩) (Kd.R_far (p := ⟨gb238, 1, none⟩) (Kd.R_far (p := ⟨gb238, 0, none⟩) (Kd.R_far (p := ⟨gb239, 4, none⟩) (Kd.R_types (Kd.R_types HO_240003.out BK239.out (by decide)) BK238.out (by decide)) (fun _ hk => hk.1.2) (.slice Ao25 x4_1.length co25)) (fun _ hk => hk.2) (.string a0_0)) (fun _ hk => hk.2) (.int .i64 a0_1)) (fun _ hk => hk.2) (.int .i64 a0_2)) (fun _ hk => hk.2) (.slice Ao13 t240.length co13)) (fun _ hk => hk.2) (.slice Ao25 x4_1.length co25)) (fun _ hk => trivial), by (with_reducible repeat (first | apply Kd.R_alloc | apply Kd.R_drewN | apply Kd.R_drew)); exact Kd.R_mono (Kd.R_far (p := ⟨gb238, 4, none⟩) (Kd.R_far (p := ⟨gb238, 3, none⟩) (Kd.R_far (p := ⟨gb238, 2, none⟩) (Kd.R_far (p := ⟨gb238, 1, none⟩) (Kd.R_far (p := ⟨gb238, 0, none⟩) (Kd.R_far (p := ⟨gb239, 4, none⟩) (Kd.R_types (Kd.R_types HO_4.out BK239.out (by decide)) BK238.out (by decide)) (fun _ hk => hk.1.2) (.slice Ao25 x4_1.length co25)) (fun _ hk => hk.2) (.string a0_0)) (fun _ hk => hk.2) (.int .i64 a0_1)) (fun _ hk => hk.2) (.int .i64 a0_2)) (fun _ hk => hk.2) (.slice Ao13 t240.length co13)) (fun _ hk => hk.2) (.slice Ao25 x4_1.length co25)) (fun _ hk => trivial), by repeat (first | (with_reducible first | exact HB.out | apply below_alloc | apply pw_below_drewN | apply below_drew1 | refine below_set ?_ GE237.out | refine below_set ?_ GE238.out | refine below_set ?_ GE239.out) | exact HB.out)⟩
/-! ### portagekit_fullInstrs: function 61 -/
mutual
def portagekit_fullInstrs.l0 : Nat → List (S40) → List (S40) → Int → Option ((List (S40)))
  | 0, _, _, _ => none
  | k + 1, x0, x3, x4 => if x4 < (x0.length : Int) then (if 0 ≤ x4 then (if x3.length < 8796093022208 then (portagekit_fullInstrs.l0 k x0 (x3 ++ [(⟨(rd_T40 x0 x4).f0, (rd_T40 x0 x4).f1⟩ : S40)]) (wrap64 (x4 + 1))) else (none)) else (none)) else (portagekit_fullInstrs.l1 k x3 0)
def portagekit_fullInstrs.l1 : Nat → List (S40) → Int → Option ((List (S40)))
  | 0, _, _ => none
  | k + 1, x3, x5 => if x5 < 64 then (if x3.length < 8796093022208 then (portagekit_fullInstrs.l1 k (x3 ++ [(⟨(-7), x5⟩ : S40)]) (wrap64 (x5 + 1))) else (none)) else (some x3)
end
def portagekit_fullInstrs.f (k : Nat) (l0 : List (S40)) : Option ((List (S40))) := portagekit_fullInstrs.l0 k l0 ([] : List (S40)) 0
theorem portagekit_fullInstrs.mono_l : ∀ k, (∀ y0 y1 y2, LeO (portagekit_fullInstrs.l0 k y0 y1 y2) (portagekit_fullInstrs.l0 (k + 1) y0 y1 y2)) ∧ (∀ y0 y1, LeO (portagekit_fullInstrs.l1 k y0 y1) (portagekit_fullInstrs.l1 (k + 1) y0 y1))
  | 0 => ⟨fun _ _ _ r h => by simp [portagekit_fullInstrs.l0] at h, fun _ _ r h => by simp [portagekit_fullInstrs.l1] at h⟩
  | k + 1 => by
    obtain ⟨ih0, ih1⟩ := portagekit_fullInstrs.mono_l k
    refine ⟨?_, ?_⟩
    · intro y0 y1 y2
      unfold portagekit_fullInstrs.l0
      repeat' first
      | (with_reducible exact ih0 _ _ _)
      | (with_reducible exact ih1 _ _)
      | (with_reducible exact LeO.refl _)
      | (with_reducible exact LeO.none _)
      | (with_reducible refine LeO.ite ?_ ?_)
      | (with_reducible refine LeO.bind ?_ (fun _ => ?_))
      | exact ih0 _ _ _
      | exact ih1 _ _
      | exact LeO.none _
      | refine LeO.ite ?_ ?_
      | refine LeO.bind ?_ (fun _ => ?_)
    · intro y0 y1
      unfold portagekit_fullInstrs.l1
      repeat' first
      | (with_reducible exact ih0 _ _ _)
      | (with_reducible exact ih1 _ _)
      | (with_reducible exact LeO.refl _)
      | (with_reducible exact LeO.none _)
      | (with_reducible refine LeO.ite ?_ ?_)
      | (with_reducible refine LeO.bind ?_ (fun _ => ?_))
      | exact ih0 _ _ _
      | exact ih1 _ _
      | exact LeO.none _
      | refine LeO.ite ?_ ?_
      | refine LeO.bind ?_ (fun _ => ?_)
theorem portagekit_fullInstrs.mono : ∀ a0 k, LeO (portagekit_fullInstrs.f k a0) (portagekit_fullInstrs.f (k + 1) a0) := by
 intro a0 k; obtain ⟨ih0, ih1⟩ := portagekit_fullInstrs.mono_l k; unfold portagekit_fullInstrs.f; repeat' first
  | (with_reducible exact ih0 _ _ _)
  | (with_reducible exact ih1 _ _)
  | (with_reducible exact LeO.refl _)
  | (with_reducible exact LeO.none _)
  | (with_reducible refine LeO.ite ?_ ?_)
  | (with_reducible refine LeO.bind ?_ (fun _ => ?_))
  | exact ih0 _ _ _
  | exact ih1 _ _
  | exact LeO.none _
  | refine LeO.ite ?_ ?_
  | refine LeO.bind ?_ (fun _ => ?_)
set_option maxHeartbeats 8000000 in
set_option maxRecDepth 100000 in
theorem portagekit_fullInstrs.calls (k : Nat) (A0 : Option Addr) (c0 : Nat) (l0 : List (S40)) (r : List (S40)) (w : World) (hr0 : Kd.C k40 w A0 l0.length l0) (hc0 : l0.length ≤ c0) (h : portagekit_fullInstrs.f k l0 = some r) :
    Calls Try.prog 61 #[.slice A0 l0.length c0] w fun e w' => ∃ v0_ : Value, e = .returned (v0_) ∧ Kd.R k40 40 w' w.heap.size (fun _ => True) v0_ r ∧ Below w.heap.size w w' := by
 have hu40 := Try.underlying40; have HR0 := Aside0.mk hr0; have HC0 := Aside0.mk hc0; clear hr0 hc0; have HB := Aside0.mk (Below.refl w.heap.size w); have H : (portagekit_fullInstrs.l0 k l0 ([] : List (S40)) 0) = some r := h; clear h; have H' := Aside0.mk H; clear H; go_enter Try.func61, Try.ntmps61; go_wp2; go_loopg [3, 4] k (fun kq v3 v4 w' => ∃ (x3_1 : List (S40)) (x4_1 : Int), v4 = .int .i64 x4_1 ∧ Aside0 (portagekit_fullInstrs.l0 kq l0 x3_1 x4_1 = some r) ∧ Aside0 (kq ≤ k) ∧ Aside0 (Kd.R k40 40 w' w.heap.size (fun _ => True) v3 x3_1) ∧ Aside0 (Below w.heap.size w w'))
 case atStart => exact ⟨(([] : List (S40))), (0), (by first | rfl | (simp; done) | (simp [*]; done)), H', ⟨Nat.le_refl _⟩, ⟨by first | exact Kd.R_nil _ _ _ _ _ | exact Kd.N_nil _ _ _ _ _ | exact Kd.V_nil _ _ _ _ _ | exact Kd.Q_nil _ _ _ _ _ | exact Kd.S_nil _ _ _ _ _⟩, ⟨by repeat (first | (with_reducible first | exact HB.out | apply below_alloc | apply pw_below_drewN | apply below_drew1) | exact HB.out)⟩⟩
 case round =>
  clear H'; obtain ⟨x3_1, x4_1, rfl, HA, HK1, HO_3, HB⟩ := hrel
  cases gk with
  | zero => exact absurd HA.out (by simp [portagekit_fullInstrs.l0])
  | succ k1 =>
   have H := HA.out; clear HA; simp only [portagekit_fullInstrs.l0] at H
   by_cases c2 : x4_1 < (l0.length : Int)
   ·rw [if_pos c2] at H; have c2b0 : decide (x4_1 < (l0.length : Int)) = true := decide_eq_true c2; clear c2
    by_cases c3 : 0 ≤ x4_1
    ·rw [if_pos c3] at H; have c3b0 : decide (0 ≤ x4_1) = true := decide_eq_true c3; clear c3
     by_cases c4 : x3_1.length < 8796093022208
     ·rw [if_pos c4] at H; have LMc4 := Aside0.mk c4; clear c4; obtain ⟨y248, hy248⟩ : ∃ y_ : List (S40), y_ = (x3_1 ++ [(⟨(rd_T40 l0 x4_1).f0, (rd_T40 l0 x4_1).f1⟩ : S40)]) := ⟨_, rfl⟩; replace H : (portagekit_fullInstrs.l0 k1 l0 y248 (wrap64 (x4_1 + 1))) = some r := by first | (rw [hy248]; with_reducible exact H) | (have H2_ := (Option.bind_some _ _).symm.trans H; rw [hy248]; with_reducible exact H2_) | (have H2_ := (Option.bind_some _ _).symm.trans H; with_reducible exact H2_) | with_reducible exact H | (rw [hy248]; exact H) | exact H
      have Ny248 := Aside0.mk hy248; clear hy248; have H' := Aside0.mk H; clear H; have p247 : 0 ≤ (x4_1 : Int) := of_decide_eq_true (by first | (with_reducible assumption) | assumption); have q247 : x4_1 < (l0.length : Int) := of_decide_eq_true (by first | (with_reducible assumption) | assumption); obtain ⟨ad247, e247, hx247_0, hx247_1⟩ := at_T40 HR0.out x4_1 p247 q247
      cases e247; replace hx247_0 := (HB.out.cell (World.block_lt_of_cell? w _ hx247_0)).trans hx247_0; replace hx247_1 := (HB.out.cell (World.block_lt_of_cell? w _ hx247_1)).trans hx247_1; replace p247 := eq_true p247; replace q247 := eq_true q247; go_wp2_with (first | ((with_reducible refine gate_builtin (b := .append) (xs := #[.tmp 12, .tmp 17]) rfl ?_); at_builtin; refine Kd.R_append k40 (w0 := w) w.heap.size rfl (.tmp 12) (.tmp 17) 22 40 (.agg #[(.int .i64 0), (.int .i64 0)]) 16 rfl Try.underlying22 info40 rfl (by decide) (by omega) u3 x3_1 (⟨(rd_T40 l0 x4_1).f0, (rd_T40 l0 x4_1).f1⟩ : S40) [.int .i64 ((rd_T40 l0 x4_1).f0), .int .i64 ((rd_T40 l0 x4_1).f1)] (fun _ => True) (fun _ => False) rfl rfl ?aP (fun _ hk => hk.elim) ?aF ?aO ?aB ?aS ?aL ?_; (case aP => exact k40_mkM _ _ _ (⟨(rd_T40 l0 x4_1).f0, (rd_T40 l0 x4_1).f1⟩ : S40)); (case aB => exact (by repeat (first | (with_reducible first | exact HB.out | apply below_alloc | apply pw_below_drewN | apply below_drew1) | exact HB.out))); (case aF => exact (fun _ _ => trivial)); (case aO => exact (by (with_reducible repeat (first | apply Kd.R_alloc | apply Kd.R_drewN | apply Kd.R_drew)); exact HO_3.out)); (case aS => exact (below_size (by repeat (first | (with_reducible first | exact HB.out | apply below_alloc | apply pw_below_drewN | apply below_drew1) | exact HB.out)))); (case aL => have := LMc4.out; omega); intro v249 w5 ho hb hg hat; rw [← Ny248.out] at ho; have n0_ := Aside0.mk (hb); have n1_ := Aside0.mk (ho); clear HB; clear HO_3; have HB := n0_; have HO250 := n1_; clear n0_ n1_; clear ho hb hg hat))
      go_roundg k1
      case measure => have := HK1.out; omega
      case rel => exact ⟨(y248), (wrap64 (x4_1 + 1)), (by first | rfl | (simp; done) | (simp [*]; done)), H', ⟨by have := HK1.out; omega⟩, ⟨by (with_reducible repeat (first | apply Kd.R_alloc | apply Kd.R_drewN | apply Kd.R_drew)); exact HO250.out⟩, ⟨by repeat (first | (with_reducible first | exact HB.out | apply below_alloc | apply pw_below_drewN | apply below_drew1) | exact HB.out)⟩⟩
     ·rw [if_neg c4] at H
      exact absurd H (by simp)
    ·rw [if_neg c3] at H
     exact absurd H (by simp)
   ·rw [if_neg c2] at H; have c2b0 : decide (x4_1 < (l0.length : Int)) = false := decide_eq_false c2; clear c2; have H' := Aside0.mk H; clear H; go_wp2; go_loopg [3, 5] k1 (fun kq v3 v5 w' => ∃ (x3_2 : List (S40)) (x5_2 : Int), v5 = .int .i64 x5_2 ∧ Aside0 (portagekit_fullInstrs.l1 kq x3_2 x5_2 = some r) ∧ Aside0 (kq ≤ k1) ∧ Aside0 (Kd.R k40 40 w' w.heap.size (fun _ => True) v3 x3_2) ∧ Aside0 (Below w.heap.size w w'))
    case atStart => exact ⟨(x3_1), (0), (by first | rfl | (simp; done) | (simp [*]; done)), H', ⟨Nat.le_refl _⟩, ⟨by (with_reducible repeat (first | apply Kd.R_alloc | apply Kd.R_drewN | apply Kd.R_drew)); exact HO_3.out⟩, ⟨by repeat (first | (with_reducible first | exact HB.out | apply below_alloc | apply pw_below_drewN | apply below_drew1) | exact HB.out)⟩⟩
    case round =>
     clear H'; (try clear c2); (try clear c2b0); (try clear p2); (try clear q2); (try clear hx2); (try clear c3); (try clear c3b0); (try clear c4); (try clear hx247_0); (try clear hx247_1); (try clear p247); (try clear q247); obtain ⟨x3_2, x5_2, rfl, HA, HK2, HO_3, HB⟩ := hrel
     cases gk with
     | zero => exact absurd HA.out (by simp [portagekit_fullInstrs.l1])
     | succ k2 =>
      have H := HA.out; clear HA; simp only [portagekit_fullInstrs.l1] at H
      by_cases c6 : x5_2 < 64
      ·rw [if_pos c6] at H; have c6b0 : decide (x5_2 < 64) = true := decide_eq_true c6; clear c6
       by_cases c7 : x3_2.length < 8796093022208
       ·rw [if_pos c7] at H; have LMc7 := Aside0.mk c7; clear c7; obtain ⟨y251, hy251⟩ : ∃ y_ : List (S40), y_ = (x3_2 ++ [(⟨(-7), x5_2⟩ : S40)]) := ⟨_, rfl⟩; replace H : (portagekit_fullInstrs.l1 k2 y251 (wrap64 (x5_2 + 1))) = some r := by first | (rw [hy251]; with_reducible exact H) | (have H2_ := (Option.bind_some _ _).symm.trans H; rw [hy251]; with_reducible exact H2_) | (have H2_ := (Option.bind_some _ _).symm.trans H; with_reducible exact H2_) | with_reducible exact H | (rw [hy251]; exact H) | exact H
        have Ny251 := Aside0.mk hy251; clear hy251; have H' := Aside0.mk H; clear H; go_wp2_with (first | ((with_reducible refine gate_builtin (b := .append) (xs := #[.tmp 23, .tmp 26]) rfl ?_); at_builtin; refine Kd.R_append k40 (w0 := w) w.heap.size rfl (.tmp 23) (.tmp 26) 22 40 (.agg #[(.int .i64 0), (.int .i64 0)]) 16 rfl Try.underlying22 info40 rfl (by decide) (by omega) u3 x3_2 (⟨(-7), x5_2⟩ : S40) [.int .i64 (-7), .int .i64 x5_2] (fun _ => True) (fun _ => False) rfl rfl ?aP (fun _ hk => hk.elim) ?aF ?aO ?aB ?aS ?aL ?_; (case aP => exact k40_mkM _ _ _ (⟨(-7), x5_2⟩ : S40)); (case aB => exact (by repeat (first | (with_reducible first | exact HB.out | apply below_alloc | apply pw_below_drewN | apply below_drew1) | exact HB.out))); (case aF => exact (fun _ _ => trivial)); (case aO => exact (by (with_reducible repeat (first | apply Kd.R_alloc | apply Kd.R_drewN | apply Kd.R_drew)); exact HO_3.out)); (case aS => exact (below_size (by repeat (first | (with_reducible first | exact HB.out | apply below_alloc | apply pw_below_drewN | apply below_drew1) | exact HB.out)))); (case aL => have := LMc7.out; omega); intro v252 w8 ho hb hg hat; rw [← Ny251.out] at ho; have n0_ := Aside0.mk (hb); have n1_ := Aside0.mk (ho); clear HB; clear HO_3; have HB := n0_; have HO253 := n1_; clear n0_ n1_; clear ho hb hg hat))
        go_roundg k2
        case measure => have := HK1.out; have := HK2.out; omega
        case rel => exact ⟨(y251), (wrap64 (x5_2 + 1)), (by first | rfl | (simp; done) | (simp [*]; done)), H', ⟨by have := HK1.out; have := HK2.out; omega⟩, ⟨by (with_reducible repeat (first | apply Kd.R_alloc | apply Kd.R_drewN | apply Kd.R_drew)); exact HO253.out⟩, ⟨by repeat (first | (with_reducible first | exact HB.out | apply below_alloc | apply pw_below_drewN | apply below_drew1) | exact HB.out)⟩⟩
       ·rw [if_neg c7] at H
        exact absurd H (by simp)
      ·rw [if_neg c6] at H; have c6b0 : decide (x5_2 < 64) = false := decide_eq_false c6; clear c6; obtain rfl := Option.some.inj H; go_wp2; go_ret; exact ⟨_, by first | rfl | (simp [errW_none, errW_some] <;> rfl) | (simp [*, errW_none, errW_some] <;> rfl), by (with_reducible repeat (first | apply Kd.R_alloc | apply Kd.R_drewN | apply Kd.R_drew)); exact HO_3.out, by repeat (first | (with_reducible first | exact HB.out | apply below_alloc | apply pw_below_drewN | apply below_drew1) | exact HB.out)⟩
/-! ### portagekit_LentInstrs: function 42 -/
def portagekit_LentInstrs.f (k : Nat) (l0 : List (S40)) : Option ((List (S40))) := (portagekit_fullInstrs.f k l0).bind fun t254 => (some t254)
theorem portagekit_LentInstrs.mono : ∀ a0 k, LeO (portagekit_LentInstrs.f k a0) (portagekit_LentInstrs.f (k + 1) a0) := by
 intro a0 k; unfold portagekit_LentInstrs.f; repeat' first
  | (with_reducible exact portagekit_fullInstrs.mono _ _)
  | (with_reducible exact LeO.refl _)
  | (with_reducible exact LeO.none _)
  | (with_reducible refine LeO.ite ?_ ?_)
  | (with_reducible refine LeO.bind ?_ (fun _ => ?_))
  | exact portagekit_fullInstrs.mono _ _
  | exact LeO.none _
  | refine LeO.ite ?_ ?_
  | refine LeO.bind ?_ (fun _ => ?_)
set_option maxHeartbeats 8000000 in
set_option maxRecDepth 100000 in
theorem portagekit_LentInstrs.calls (k : Nat) (A0 : Option Addr) (c0 : Nat) (l0 : List (S40)) (r : List (S40)) (w : World) (hr0 : Kd.C k40 w A0 l0.length l0) (hc0 : l0.length ≤ c0) (h : portagekit_LentInstrs.f k l0 = some r) :
    Calls Try.prog 42 #[.slice A0 l0.length c0] w fun e w' => ∃ v0_ : Value, e = .returned (v0_) ∧ Kd.R k40 40 w' w.heap.size (fun _ => True) v0_ r ∧ Below w.heap.size w w' := by
 have HR0 := Aside0.mk hr0; have HC0 := Aside0.mk hc0; clear hr0 hc0; have HB := Aside0.mk (Below.refl w.heap.size w); have H : ((portagekit_fullInstrs.f k l0).bind fun t254 => (some t254)) = some r := h; clear h; replace H := Option.bind_eq_some_iff.mp H; obtain ⟨t254, A20, H⟩ := H; replace H : (some t254) = some r := H; have A2 := Aside0.mk A20; clear A20; obtain rfl := Option.some.inj H; go_enter Try.func42, Try.ntmps42; go_wp2_with (first | ((with_reducible refine gate_callee (f := 61) rfl ?_); refine goesL_ (some 4) rfl rfl Try.func61 (by kernel_rfl) rfl #[.slice A0 l0.length c0] rfl (by (try simp only [List.map_toArray, List.map_cons, List.map_nil]); first | done | rfl | (simp only [List.length_drop, List.length_take]; rfl)) ?_; (with_reducible refine (portagekit_fullInstrs.calls k _ _ l0 t254 _ ?side1 ?side2 A2.out).mono ?_); (case side1 => repeat (first | exact HR0.out | (with_reducible refine Kd.C_alloc ?_ _) | (with_reducible refine Kd.C_drewN ?_ _) | (with_reducible refine Kd.C_drew ?_))); (case side2 => exact HC0.out); rintro e w3 ⟨v255, rfl, ho0, hb⟩; refine ⟨_, rfl, ?_⟩; have n0_ := Aside0.mk (Kd.R_lower ho0 (below_size (by repeat (first | (with_reducible first | exact HB.out | apply below_alloc | apply pw_below_drewN | apply below_drew1) | exact HB.out)))); have n1_ := Aside0.mk (below_step (by repeat (first | (with_reducible first | exact HB.out | apply below_alloc | apply pw_below_drewN | apply below_drew1) | exact HB.out)) hb); clear HB; have HO256 := n0_; have HB := n1_; clear n0_ n1_; (try clear hb); (try clear hb2); (try clear hk); (try clear hi); (try clear ho0)))
 go_ret; exact ⟨_, by first | rfl | (simp [errW_none, errW_some] <;> rfl) | (simp [*, errW_none, errW_some] <;> rfl), by (with_reducible repeat (first | apply Kd.R_alloc | apply Kd.R_drewN | apply Kd.R_drew)); exact HO256.out, by repeat (first | (with_reducible first | exact HB.out | apply below_alloc | apply pw_below_drewN | apply below_drew1) | exact HB.out)⟩
-- NOT PRINTED: function 12 (portagelaw09_lent)

/-! ### portagekit_Num: function 14 -/
def portagekit_Num.f (a0 : Int) : Option (Int) := some a0
set_option maxHeartbeats 8000000 in
set_option maxRecDepth 100000 in
theorem portagekit_Num.calls (a0 : Int) (r : Int) (w : World) (h : portagekit_Num.f a0 = some r) :
    Calls Try.prog 14 #[.int .i64 a0] w fun e w' => e = .returned (.int .i64 r) ∧ Drawn0 w w' := by
 have H : (some a0) = some r := h; clear h; obtain rfl := Option.some.inj H; go_enter Try.func14, Try.ntmps14; go_wp2; go_ret; exact ⟨by first | rfl | (simp; done) | (simp [*]; done), by repeat (first | exact Drawn0.refl _ | apply Drawn0.step)⟩
end Go.Proofs.Ytmeaepmimnmjlaa.PGb
/- A function's copy, and what is lent: by their meaning. -/
namespace Go.Proofs.Ytmeaepmimnmjlaa.Ask
open Go.RowKit Go.Shelf Go.Proofs.Ytmeaepmimnmjlaa.PGb Go.Proofs.Ytmeaepmimnmjlaa.Lit Go.Proofs.Ytmeaepmimnmjlaa.OwnCells Go.Proofs.YtmeaepmimnmjlaaW.PrintWords Go.Proofs.YtmeaepmimnmjlaaW.PrintLast Go.Proofs.YtmeaepmimnmjlaaW.PrintMore
attribute [local go_sem] Oper.semAt_some
set_option linter.unusedVariables false
set_option linter.unusedSimpArgs false
def markI (i : Nat) : S40 := ⟨-7, (i : Int)⟩
def fullI (l : List S40) : List S40 := l ++ (List.range' 0 64).map markI
theorem wrapN {n : Nat} (h : n < 9223372036854775807) : wrap64 ((n : Int) + 1) = ((n + 1 : Nat) : Int) := by
  unfold wrap64
  omega
theorem range_cons (p n : Nat) : List.range' p (n + 1) = p :: List.range' (p + 1) n := rfl
theorem fi_l1 : ∀ (n p : Nat) (acc : List S40), p + n = 64 → acc.length + n < 8796093022208 → ∀ k, n + 1 ≤ k → portagekit_fullInstrs.l1 k acc (p : Int) = some (acc ++ (List.range' p n).map markI) := by
  intro n
  induction n with
  | zero =>
    intro p acc hp ha k hk
    obtain ⟨k, rfl⟩ : ∃ k', k = k' + 1 := ⟨k - 1, by omega⟩
    unfold portagekit_fullInstrs.l1
    rw [if_neg (by omega)]; simp
  | succ n ih =>
    intro p acc hp ha k hk
    obtain ⟨k, rfl⟩ : ∃ k', k = k' + 1 := ⟨k - 1, by omega⟩
    unfold portagekit_fullInstrs.l1
    rw [if_pos (by omega), if_pos (by omega), wrapN (by omega), ih (p + 1) _ (by omega) (by simp; omega) k (by omega), range_cons, List.map_cons, List.append_assoc]
    rfl
theorem fi_l0 {l : List S40} (hl : l.length ≤ 1048576) : ∀ (n p : Nat), p + n = l.length → ∀ k, n + 66 ≤ k → portagekit_fullInstrs.l0 k l (l.take p) (p : Int) = some (fullI l) := by
  intro n
  induction n with
  | zero =>
    intro p hp k hk
    obtain ⟨k, rfl⟩ : ∃ k', k = k' + 1 := ⟨k - 1, by omega⟩
    unfold portagekit_fullInstrs.l0
    rw [if_neg (by omega), List.take_of_length_le (by omega)]
    exact fi_l1 64 0 l (by omega) (by omega) k (by omega)
  | succ n ih =>
    intro p hp k hk
    obtain ⟨k, rfl⟩ : ∃ k', k = k' + 1 := ⟨k - 1, by omega⟩
    have hlt : p < l.length := by omega
    have e : l.take p ++ [(⟨(rd_T40 l (p : Int)).f0, (rd_T40 l (p : Int)).f1⟩ : S40)] = l.take (p + 1) := by
      rw [List.take_succ_eq_append_getElem hlt]
      have : rd_T40 l (p : Int) = l[p] := by unfold rd_T40; rw [Int.toNat_natCast, List.getD_eq_getElem?_getD, List.getElem?_eq_getElem hlt]; rfl
      rw [this]
    unfold portagekit_fullInstrs.l0
    rw [if_pos (by omega), if_pos (by omega), if_pos (by rw [List.length_take]; omega), wrapN (by omega), e]
    exact ih (p + 1) (by omega) k (by omega)
theorem fi_f {l : List S40} (hl : l.length ≤ 1048576) {k : Nat} (hk : 1048642 ≤ k) : portagekit_fullInstrs.f k l = some (fullI l) := fi_l0 hl l.length 0 (by omega) k (by omega)
theorem bodies (w : World) (o : Obj) : Below w.heap.size w (w.alloc o) := below_alloc (Below.refl _ _) o
theorem cell_set {w : World} {a : Addr} {v : Value} (h : w.cell? a = some v) {g : Nat} (hne : a.block ≠ g) (j : Nat) (u : Value) : (w.setCell ⟨g, j, none⟩ u).cell? a = some v := by
  have e := Below.heap_setCell w ⟨g, j, none⟩ u a.block hne
  rw [← h]
  unfold World.cell?
  rw [e]
theorem fullI_len (l : List S40) : (fullI l).length = l.length + 64 := by simp [fullI]
theorem fullI_low {l : List S40} {k : Nat} (h : k < l.length) : rd_T40 (fullI l) (k : Int) = rd_T40 l (k : Int) := by
  unfold rd_T40 fullI
  rw [Int.toNat_natCast, List.getD_eq_getElem?_getD, List.getD_eq_getElem?_getD, List.getElem?_append_left h]
theorem fullI_high {l : List S40} {k : Nat} (h : l.length ≤ k) (h2 : k < l.length + 64) : rd_T40 (fullI l) (k : Int) = ⟨-7, (k : Int) - (l.length : Int)⟩ := by
  unfold rd_T40 fullI
  rw [Int.toNat_natCast, List.getD_eq_getElem?_getD, List.getElem?_append_right h]
  have hk : k - l.length < 64 := by omega
  simp [hk, markI]
  omega
set_option maxHeartbeats 2000000 in
set_option maxRecDepth 100000 in
theorem kept_instrs (A B : Option Addr) (c d : Nat) (l : List S40) (w : World) (hA : k40.C w A (fullI l).length (fullI l)) (hB : k40.C w B l.length l) (hl : l.length ≤ 1048576) :
    Calls Try.prog 53 #[.slice A (fullI l).length c, .slice B l.length d] w fun e w' => e = .returned (.bool true) ∧ Below w.heap.size w w' := by
  have HA := Aside0.mk hA
  have HB := Aside0.mk hB
  have HFL := Aside0.mk (fullI_len l)
  clear hA hB
  obtain ⟨m, hm⟩ : ∃ m, m = (fullI l).length := ⟨_, rfl⟩
  rw [← hm]
  have hm2 : m = l.length + 64 := hm.trans HFL.out
  have HM := Aside0.mk hm
  have HM2 := Aside0.mk hm2
  have hml : m ≤ 1048640 := by omega
  have cm : ((m : Int) != (l.length : Int) + 64) = false := bne_eq_false_iff_eq.2 (by omega)
  clear hm hm2 HFL
  go_enter Try.func53, Try.ntmps53
  go_wp2
  clear cm
  go_loopw [5] (fun t wr => ∃ k : Nat, k ≤ m ∧ t = .int .i64 k ∧ Below w.heap.size w wr) (fun t _ => m - (intOf t).toNat)
  case atStart => exact ⟨0, Nat.zero_le _, rfl, Below.refl _ _⟩
  case round =>
    obtain ⟨k, hk, rfl, hb⟩ := hrel
    by_cases hlt : k < m
    · have hA2 := HA.out
      rw [← HM.out] at hA2
      obtain ⟨a, rfl, q0, q1⟩ := at_T40 hA2 (k : Int) (by omega) (by omega)
      rw [Int.toNat_natCast] at q0 q1
      have hab := World.block_lt_of_cell? _ _ q0
      have hadd : (a.add (k * 2)).block = a.block := add_block _ _
      rw [hadd] at hab
      have HAB := Aside0.mk hab
      have HBW := Aside0.mk hb
      have HK := Aside0.mk (show k < l.length + 64 by have := HM2.out; omega)
      replace q0 := pw_cell_below HBW.out q0
      replace q1 := pw_cell_below HBW.out q1
      clear hA2 hb hab hadd
      go_upto_region 7 with (fail)
      have hb := bodies wr (.cells #[.int .i64 (-7), .int .i64 ((k : Int) - (l.length : Int))] 40)
      have K := blk_new wr (.cells #[.int .i64 (-7), .int .i64 ((k : Int) - (l.length : Int))] 40)
      replace q0 := pw_cell_below hb q0
      replace q1 := pw_cell_below hb q1
      have HG := Aside0.mk HBW.out.size
      replace HBW := Aside0.mk (wB HBW.out hb)
      clear hb
      generalize wr.alloc (.cells #[.int .i64 (-7), .int .i64 ((k : Int) - (l.length : Int))] 40) = w1 at *
      generalize wr.heap.size = g at *
      by_cases hkl : k < l.length
      · have e := fullI_low hkl
        rw [e] at q0 q1
        obtain ⟨b, rfl, p0, p1⟩ := at_T40 (Kd.C_below HB.out HBW.out) (k : Int) (by omega) (by omega)
        rw [Int.toNat_natCast] at p0 p1
        generalize rd_T40 l (k : Int) = y at *
        clear e
        have gne : (a.add (k * 2)).block ≠ g := by rw [add_block]; have := HAB.out; have := HG.out; omega
        have c0 : w1.cell? ⟨g, 0, none⟩ = some (.int .i64 (-7)) := blk_cell K 0
        have f0 := blk_frozen K 0
        have c1 : w1.cell? ⟨g, 1, none⟩ = some (.int .i64 ((k : Int) - (l.length : Int))) := blk_cell K 1
        have f1 := blk_frozen K 1
        have HGN := Aside0.mk gne
        have HKK := Aside0.mk K
        clear K gne
        go_upto_region 9 with (fail)
        have K := HKK.out
        have gne := HGN.out
        have K0 := blk_put K 0 (.int .i64 y.f0) (cs' := #[.int .i64 y.f0, .int .i64 ((k : Int) - (l.length : Int))]) rfl
        have K1 := blk_put K0 1 (.int .i64 y.f1) (cs' := #[.int .i64 y.f0, .int .i64 y.f1]) rfl
        have HB2 := Aside0.mk (below_set (below_set HBW.out HG.out (j := 0) (v := .int .i64 y.f0)) HG.out (j := 1) (v := .int .i64 y.f1))
        replace q0 := (cell_set (cell_set q0 gne 0 (.int .i64 y.f0)) gne 1 (.int .i64 y.f1))
        replace q1 := (cell_set (cell_set q1 gne 0 (.int .i64 y.f0)) gne 1 (.int .i64 y.f1))
        clear c0 f0 c1 f1 p0 p1 gne
        generalize ((w1.setCell ⟨g, 0, none⟩ (.int .i64 y.f0)).setCell ⟨g, 1, none⟩ (.int .i64 y.f1)) = w2 at *
        have d0 : w2.cell? ⟨g, 0, none⟩ = some (.int .i64 y.f0) := blk_cell K1 0
        have d1 : w2.cell? ⟨g, 1, none⟩ = some (.int .i64 y.f1) := blk_cell K1 1
        clear K K0 K1
        go_quiet (fail)
        go_wp2
        go_roundw
        case rel => exact ⟨k + 1, by omega, by go_num, pw_below_drewN HB2.out _⟩
        case measure => simp [intOf]; omega
      · have e := fullI_high (l := l) (k := k) (by omega) HK.out
        rw [e] at q0 q1
        simp only at q0 q1
        clear e
        have c0 : w1.cell? ⟨g, 0, none⟩ = some (.int .i64 (-7)) := blk_cell K 0
        have f0 := blk_frozen K 0
        have c1 : w1.cell? ⟨g, 1, none⟩ = some (.int .i64 ((k : Int) - (l.length : Int))) := blk_cell K 1
        have f1 := blk_frozen K 1
        clear K
        go_upto_region 9 with (fail)
        go_quiet (fail)
        go_wp2
        go_roundw
        case rel => exact ⟨k + 1, by omega, by go_num, pw_below_drewN HBW.out _⟩
        case measure => simp [intOf]; omega
    · go_wp2
      go_ret
      exact ⟨rfl, hb⟩
theorem cut_cap {P : Program} (t e : TypeId) (kh : IntKind) {i : TypeInfo} (ht : P.underlying t = some (.slice e)) (hi : P.info? e = some i) (A : Option Addr) (n c : Nat) (j : Int) (h0 : 0 ≤ j) (hm : j ≤ c) :
    ∀ W : World, (Instr.slice t (.slice A n c) none (some (.int kh j)) none).run P W = .ok (.slice A j.toNat c) W := by
  intro W
  have hel : P.elem t = e := by simp [Program.elem, ht]
  have hu : P.underlying t = some (.slice (P.elem t)) := by rw [hel]; exact ht
  have ha : (A.map fun x => x.add 0) = A := by cases A <;> simp [Addr.add]
  rw [run_slice_h W t A n c hu kh j h0 (by omega), hel]
  simp [sizeOf, typeInfo, hi, sliced, Result.andThen, ha]
theorem ci_l0 {l : List S40} (hl : l.length ≤ 1048576) : ∀ (n p : Nat), p + n = l.length → ∀ k, n + 1 ≤ k → portageref0_CopyInstrs.l0 k l (l.take p) (p : Int) = some l := by
  intro n
  induction n with
  | zero =>
    intro p hp k hk
    obtain ⟨k, rfl⟩ : ∃ k', k = k' + 1 := ⟨k - 1, by omega⟩
    unfold portageref0_CopyInstrs.l0
    rw [if_neg (by omega), List.take_of_length_le (by omega)]
  | succ n ih =>
    intro p hp k hk
    obtain ⟨k, rfl⟩ : ∃ k', k = k' + 1 := ⟨k - 1, by omega⟩
    have hlt : p < l.length := by omega
    have e : l.take p ++ [(⟨(rd_T40 l (p : Int)).f0, (rd_T40 l (p : Int)).f1⟩ : S40)] = l.take (p + 1) := by
      rw [List.take_succ_eq_append_getElem hlt]
      have : rd_T40 l (p : Int) = l[p] := by unfold rd_T40; rw [Int.toNat_natCast, List.getD_eq_getElem?_getD, List.getElem?_eq_getElem hlt]; rfl
      rw [this]
    unfold portageref0_CopyInstrs.l0
    rw [if_pos (by omega), if_pos (by omega), if_pos (by rw [List.length_take]; omega), wrapN (by omega), e]
    exact ih (p + 1) (by omega) k (by omega)
theorem ci_f {l : List S40} (hl : l.length ≤ 1048576) {k : Nat} (hk : 1048577 ≤ k) : portageref0_CopyInstrs.f k l = some l := by
  have := ci_l0 hl l.length 0 (by omega) k (by omega)
  exact this
theorem cf_l0 {l : List S49} (hl : l.length ≤ 1048576) (a : ByteArray) (b c : Int) (d : List S40) (a' : ByteArray) (b' c' : Int) (d' : List S40) (e' : List S49) : ∀ (n p : Nat), p + n = l.length → ∀ k, n + 1 ≤ k → portageref0_CopyFunction.l0 k (l.take p) (p : Int) a b c d l a' b' c' d' e' = some (a', b', c', d', l) := by
  intro n
  induction n with
  | zero =>
    intro p hp k hk
    obtain ⟨k, rfl⟩ : ∃ k', k = k' + 1 := ⟨k - 1, by omega⟩
    unfold portageref0_CopyFunction.l0
    rw [if_neg (by omega), List.take_of_length_le (by omega)]
  | succ n ih =>
    intro p hp k hk
    obtain ⟨k, rfl⟩ : ∃ k', k = k' + 1 := ⟨k - 1, by omega⟩
    have hlt : p < l.length := by omega
    have e : l.take p ++ [(⟨(rd_T49 l (p : Int)).f0, (rd_T49 l (p : Int)).f1, (rd_T49 l (p : Int)).f2, (rd_T49 l (p : Int)).f3⟩ : S49)] = l.take (p + 1) := by
      rw [List.take_succ_eq_append_getElem hlt]
      have : rd_T49 l (p : Int) = l[p] := by unfold rd_T49; rw [Int.toNat_natCast, List.getD_eq_getElem?_getD, List.getElem?_eq_getElem hlt]; rfl
      rw [this]
    unfold portageref0_CopyFunction.l0
    rw [if_pos (by omega), if_pos (by omega), if_pos (by rw [List.length_take]; omega), wrapN (by omega), e]
    exact ih (p + 1) (by omega) k (by omega)
theorem cf_f (nm : ByteArray) (pa lo : Int) {code : List S40} {hs : List S49} (hc : code.length ≤ 1048576) (hh : hs.length ≤ 1048576) : portageref0_CopyFunction.f 1048642 nm pa lo code hs = some (nm, pa, lo, code, hs) := by
  unfold portageref0_CopyFunction.f
  rw [ci_f hc (by omega), Option.bind_some]
  have := cf_l0 hh nm pa lo code nm pa lo code hs hs.length 0 (by omega) 1048642 (by omega)
  exact this
theorem li_f {l : List S40} (hl : l.length ≤ 1048576) : portagekit_LentInstrs.f 1048642 l = some (fullI l) := by
  unfold portagekit_LentInstrs.f
  rw [fi_f hl (Nat.le_refl _), Option.bind_some]
theorem instrs_own {w : World} {A3 : Option Addr} {c3 : Nat} {code : List S40} (hn : code.length ≤ 1048576) (hC : k40.C w A3 code.length code) (hc3 : code.length ≤ c3) :
    Calls Try.prog 42 #[.slice A3 code.length c3] w fun e w' => ∃ A c, e = .returned (.slice A (fullI code).length c) ∧ k40.R 40 w' w.heap.size (fun _ => True) (.slice A (fullI code).length c) (fullI code) ∧ Below w.heap.size w w' := by
  refine (portagekit_LentInstrs.calls 1048642 A3 c3 code (fullI code) w hC hc3 (li_f hn)).mono ?_
  rintro e w' ⟨v3, rfl, h3, hb⟩
  obtain ⟨B3, d3, rfl⟩ := Kd.R_slice h3
  exact ⟨B3, d3, rfl, h3, hb⟩
theorem copy_own {w : World} {nm : ByteArray} {pa lo : Int} {A3 A4 : Option Addr} {c3 c4 : Nat} {code : List S40} {hs : List S49} (hn : code.length ≤ 1048576) (hhn : hs.length ≤ 1048576) (hC : k40.C w A3 code.length code) (hc3 : code.length ≤ c3) (hH : k49.C w A4 hs.length hs) (hc4 : hs.length ≤ c4) :
    Calls Try.prog 17 #[.agg #[.string nm, .int .i64 pa, .int .i64 lo, .slice A3 code.length c3, .slice A4 hs.length c4]] w fun e w' => ∃ B3 B4 d3 d4, e = .returned (.agg #[.string nm, .int .i64 pa, .int .i64 lo, .slice B3 code.length d3, .slice B4 hs.length d4]) ∧ k40.R 40 w' w.heap.size (fun _ => True) (.slice B3 code.length d3) code ∧ k49.R 49 w' w.heap.size (fun _ => True) (.slice B4 hs.length d4) hs ∧ Below w.heap.size w w' := by
  refine (portageref0_CopyFunction.calls 1048642 nm pa lo A3 c3 code A4 c4 hs nm pa lo code hs w hC hc3 hH hc4 (cf_f nm pa lo hn hhn)).mono ?_
  rintro e w' ⟨v3, v4, rfl, h3, h4, hb⟩
  obtain ⟨B3, d3, rfl⟩ := Kd.R_slice h3
  obtain ⟨B4, d4, rfl⟩ := Kd.R_slice h4
  exact ⟨B3, B4, d3, d4, rfl, h3, h4, hb⟩
def dL2 : Nat → Option Tmp
  | 0 => some 6
  | 1 => some 7
  | 2 => some 8
  | 3 => some 9
  | 4 => some 10
  | 5 => some 11
  | 6 => some 12
  | 7 => some 13
  | 8 => none
  | _ => none
def FL2 (g1 g3 c n : Nat) (A3 : Option Addr) (c3 hs : Nat) (l : List S40) : Nat → World → Value → Prop
  | 0, _, v => v = .pointer (some ⟨g1, 3, none⟩)
  | 1, _, v => v = .slice A3 n c3
  | 2, w, v => ∃ A9 c9, v = .slice A9 (fullI l).length c9 ∧ k40.R 40 w hs (fun _ => True) (.slice A9 (fullI l).length c9) (fullI l)
  | 3, _, v => v = .pointer (some ⟨g1, 3, none⟩)
  | 4, _, v => v = .slice A3 n c3
  | 5, _, v => v = .int .i64 (n : Int)
  | 6, w, v => ∃ A9 c9, v = .slice A9 n c9 ∧ k40.R 40 w hs (fun _ => True) (.slice A9 (fullI l).length c9) (fullI l)
  | 7, _, v => v = .pointer (some ⟨g3, 3, none⟩)
  | 8, _, v => v = undef
  | _, _, _ => True
theorem FL2_below (g1 g3 c n : Nat) (A3 : Option Addr) (c3 hs : Nat) (l : List S40) (i : Nat) (w w1 : World) (v : Value) (h : FL2 g1 g3 c n A3 c3 hs l i w v) (hb : Below w.heap.size w w1) : FL2 g1 g3 c n A3 c3 hs l i w1 v := by
  match i with
  | 0 | 1 | 3 | 4 | 5 | 7 | 8 => exact h
  | 2 => exact (by obtain ⟨A9, c9, h1, h2⟩ := h; exact ⟨A9, c9, h1, Kd.R_below h2 hb⟩)
  | 6 => exact (by obtain ⟨A9, c9, h1, h2⟩ := h; exact ⟨A9, c9, h1, Kd.R_below h2 hb⟩)
  | (n + 9) => exact h
set_option maxHeartbeats 4000000 in
set_option maxRecDepth 100000 in
theorem lent_own {w : World} {nm : ByteArray} {pa lo : Int} {A3 A4 : Option Addr} {c3 c4 : Nat} {code : List S40} {hs : List S49} (hn : code.length ≤ 1048576) (hhn : hs.length ≤ 1048576) (hC : k40.C w A3 code.length code) (hc3 : code.length ≤ c3) (hH : k49.C w A4 hs.length hs) (hc4 : hs.length ≤ c4) :
    Calls Try.prog 12 #[.agg #[.string nm, .int .i64 pa, .int .i64 lo, .slice A3 code.length c3, .slice A4 hs.length c4]] w fun e w' => ∃ B3 B4 d3 d4, e = .returned (.agg #[.string nm, .int .i64 pa, .int .i64 lo, .slice B3 code.length d3, .slice B4 hs.length d4]) ∧ k40.R 40 w' w.heap.size (fun _ => True) (.slice B3 (fullI code).length d3) (fullI code) ∧ k49.R 49 w' w.heap.size (fun _ => True) (.slice B4 hs.length d4) hs ∧ Below w.heap.size w w' := by
  have HC := Aside0.mk hC
  have HH := Aside0.mk hH
  have HC3 := Aside0.mk hc3
  have HC4 := Aside0.mk hc4
  have HN := Aside0.mk hn
  have HHN := Aside0.mk hhn
  clear hC hc3 hH hc4 hn hhn
  have hu25 := Try.underlying25
  go_enter Try.func12, Try.ntmps12
  go_upto_region 1 with (fail)
  obtain ⟨zc, hzc⟩ : ∃ zc : Array Value, #[Value.string ⟨#[]⟩, .int .i64 0, .int .i64 0, .slice none 0 0, .slice none 0 0] = zc := ⟨_, rfl⟩
  have hzs : zc.size = 5 := by rw [← hzc]; rfl
  obtain ⟨cf, hcf⟩ : ∃ cf : Array Value, (#[.string nm, .int .i64 pa, .int .i64 lo, .slice A3 code.length c3, .slice A4 hs.length c4] : Array Value) = cf := ⟨_, rfl⟩
  have kf0 : cf[0]? = some (.string nm) := by rw [← hcf]; rfl
  have kf1 : cf[1]? = some (.int .i64 pa) := by rw [← hcf]; rfl
  have kf2 : cf[2]? = some (.int .i64 lo) := by rw [← hcf]; rfl
  have kf3 : cf[3]? = some (.slice A3 code.length c3) := by rw [← hcf]; rfl
  have kf4 : cf[4]? = some (.slice A4 hs.length c4) := by rw [← hcf]; rfl
  rw [hcf]
  have hb : Below w.heap.size w ((w.alloc (.cells cf 25)).alloc (.cells #[Value.string ⟨#[]⟩, .int .i64 0, .int .i64 0, .slice none 0 0, .slice none 0 0] 25)) := below_alloc (below_alloc (Below.refl _ _) _) _
  have h1 : ((w.alloc (.cells cf 25)).alloc (.cells #[Value.string ⟨#[]⟩, .int .i64 0, .int .i64 0, .slice none 0 0, .slice none 0 0] 25)).heap[w.heap.size]? = some (.cells cf 25 (0, 0)) := ((World.grownBy_alloc (w.alloc _) _ none).block _ (by simp) (by simp)).trans (World.alloc_heap_new w _)
  have h2 : ((w.alloc (.cells cf 25)).alloc (.cells #[Value.string ⟨#[]⟩, .int .i64 0, .int .i64 0, .slice none 0 0, .slice none 0 0] 25)).heap[w.heap.size + 1]? = some (.cells #[Value.string ⟨#[]⟩, .int .i64 0, .int .i64 0, .slice none 0 0, .slice none 0 0] 25 (0, 0)) := by
    have := World.alloc_heap_new (w.alloc (.cells cf 25)) (.cells #[Value.string ⟨#[]⟩, .int .i64 0, .int .i64 0, .slice none 0 0, .slice none 0 0] 25)
    rw [World.size_alloc] at this
    exact this
  rw [hzc] at hb h1 h2 ⊢
  revert hb h1 h2
  generalize (w.alloc (.cells cf 25)).alloc (.cells zc 25) = W1
  intro hb h1 h2
  have f0 := cell_blk h1 kf0
  have f1 := cell_blk h1 kf1
  have f2 := cell_blk h1 kf2
  have f3 := cell_blk h1 kf3
  have f4 := cell_blk h1 kf4
  have HB1 := Aside0.mk hb
  have H1 := Aside0.mk h1
  have H2 := Aside0.mk h2
  have HKF := Aside0.mk (And.intro kf0 (And.intro kf1 (And.intro kf2 (And.intro kf3 kf4))))
  have HZC := Aside0.mk hzc
  clear kf0 kf1 kf2 kf3 kf4 hb h1 h2 hzc hcf
  go_wp2_with (fail)
  refine (copy_own HN.out HHN.out (Kd.C_below HC.out HB1.out) HC3.out (Kd.C_below HH.out HB1.out) HC4.out).mono ?_
  rintro e w3 ⟨B3, B4, d3, d4, rfl, hR3, hR4, hb3⟩
  clear f0 f1 f2 f3 f4
  go_upto_region 2 with (fail)
  have hr12 : Kd.R k40 40 w3 W1.heap.size (fun _ => True) (.slice B3 code.length d3) code := hR3
  have hb4 : Below w3.heap.size w3 (w3.alloc (.cells #[.string nm, .int .i64 pa, .int .i64 lo, .slice B3 code.length d3, .slice B4 hs.length d4] 25)) := below_alloc (Below.refl _ _) _
  have h4 := World.alloc_heap_new w3 (.cells #[.string nm, .int .i64 pa, .int .i64 lo, .slice B3 code.length d3, .slice B4 hs.length d4] 25)
  have hsz : (w3.alloc (.cells #[.string nm, .int .i64 pa, .int .i64 lo, .slice B3 code.length d3, .slice B4 hs.length d4] 25)).heap.size = w3.heap.size + 1 := by simp
  have HR4 := Aside0.mk (Kd.R_below hR4 hb4)
  have HB4 := Aside0.mk (HB1.out.trans ((hb3.mono HB1.out.size).trans (hb4.mono (Nat.le_trans HB1.out.size hb3.size))))
  have H1' := Aside0.mk (blk_below (blk_below H1.out hb3) hb4)
  have H2' := Aside0.mk (blk_below (blk_below H2.out hb3) hb4)
  have HLT := Aside0.mk (show w.heap.size + 1 < W1.heap.size ∧ W1.heap.size ≤ w3.heap.size from ⟨blk_lt H2.out, hb3.size⟩)
  obtain ⟨cn, hcn⟩ : ∃ cn : Array Value, #[Value.string nm, .int .i64 pa, .int .i64 lo, .slice B3 code.length d3, .slice B4 hs.length d4] = cn := ⟨_, rfl⟩
  rw [hcn] at h4 hsz HR4 HB4 H1' H2' ⊢
  have HCN := Aside0.mk hcn
  clear hR3 hR4 hb3 hb4 hr12 H1 H2 HB1 hcn
  revert H2'
  revert H1'
  revert HB4
  revert HR4
  revert hsz
  revert h4
  generalize w3.alloc (.cells cn 25) = W4
  generalize hg3 : w3.heap.size = g3
  intro h4 hsz HR4 HB4 H1' H2'
  rw [hg3] at HLT
  have H4 := Aside0.mk h4
  have HSZ := Aside0.mk hsz
  clear h4 hsz hg3
  obtain ⟨i40, hi40, hi41⟩ := info_parts info40
  rename_i hK
  refine RegInv.region_facts_p (by kernel_rfl) (by kernel_rfl) (fun a b => Below a.heap.size a b) (fun a b => Below a.heap.size a b) (fun a b c h k => h.trans (k.mono h.size)) (fun a b h => h) (fun a b c h k => h.trans (k.mono h.size)) (below_drew1 (Below.refl _ _)) dL2 8 99 (by rfl) (by kernel_rfl) (by kernel_rfl) (by kernel_rfl) (FL2 w.heap.size g3 0 code.length A3 c3 W4.heap.size code) (FL2_below w.heap.size g3 0 code.length A3 c3 W4.heap.size code) (fun iA wA wB vA _ h hb => FL2_below w.heap.size g3 0 code.length A3 c3 W4.heap.size code iA wA wB vA h hb) ?hsL2 ?heL2
  case hsL2 =>
    intro i o aX w8 hltI hi hM
    have hExt := hM.ext
    have f3 := cell_blk (blk_below H1'.out hExt) HKF.out.2.2.2.1
    rcases i with _ | _ | _ | _ | _ | _ | _ | _ | i
    · cases hi
      have h1 := gdq _ _ _ (show aX.tmps.getD 1 undef = .pointer (some ⟨w.heap.size, 0, none⟩) from hM.off 1 (by kernel_rfl))
      refine RegInv.op_value (by rfl) rfl (v := .pointer (some ⟨w.heap.size, 3, none⟩)) (w' := w8) ?_ ⟨_, rfl, rfl, Below.refl _ _, fun _ => Below.refl _ _⟩
      unfold execOp
      go_simp
    · cases hi
      have h6 := gdq _ _ _ (show aX.tmps.getD 6 undef = .pointer (some ⟨w.heap.size, 3, none⟩) from hM.at_ 0 (by decide) (by kernel_rfl))
      refine RegInv.op_value (by rfl) rfl (v := .slice A3 code.length c3) (w' := w8) ?_ ⟨_, rfl, rfl, Below.refl _ _, fun _ => Below.refl _ _⟩
      unfold execOp
      go_simp
    · cases hi
      have h7 := gdq _ _ _ (show aX.tmps.getD 7 undef = .slice A3 code.length c3 from hM.at_ 1 (by decide) (by kernel_rfl))
      refine RegInv.op_call (by rfl) rfl Try.func42 (by kernel_rfl) rfl rfl #[.slice A3 code.length c3] (by simp [Act.eval, h7]) ?_
      refine (instrs_own HN.out (Kd.C_below HC.out (HB4.out.trans (hExt.mono HB4.out.size))) HC3.out).mono ?_
      rintro e w9 ⟨A9, c9, rfl, hR9, b9⟩
      exact ⟨_, rfl, _, rfl, ⟨A9, c9, rfl, Kd.R_lower hR9 hExt.size⟩, b9, fun _ => b9⟩
    · cases hi
      have h1 := gdq _ _ _ (show aX.tmps.getD 1 undef = .pointer (some ⟨w.heap.size, 0, none⟩) from hM.off 1 (by kernel_rfl))
      refine RegInv.op_value (by rfl) rfl (v := .pointer (some ⟨w.heap.size, 3, none⟩)) (w' := w8) ?_ ⟨_, rfl, rfl, Below.refl _ _, fun _ => Below.refl _ _⟩
      unfold execOp
      go_simp
    · cases hi
      have h9 := gdq _ _ _ (show aX.tmps.getD 9 undef = .pointer (some ⟨w.heap.size, 3, none⟩) from hM.at_ 3 (by decide) (by kernel_rfl))
      refine RegInv.op_value (by rfl) rfl (v := .slice A3 code.length c3) (w' := w8) ?_ ⟨_, rfl, rfl, Below.refl _ _, fun _ => Below.refl _ _⟩
      unfold execOp
      go_simp
    · cases hi
      have h10 := gdq _ _ _ (show aX.tmps.getD 10 undef = .slice A3 code.length c3 from hM.at_ 4 (by decide) (by kernel_rfl))
      refine RegInv.op_value (by rfl) rfl (v := .int .i64 (code.length : Int)) (w' := w8) ?_ ⟨_, rfl, rfl, Below.refl _ _, fun _ => Below.refl _ _⟩
      unfold execOp
      go_simp
    · cases hi
      obtain ⟨A98, c98, hv8, hP8⟩ : ∃ A98 c98, aX.tmps.getD 8 undef = .slice A98 (fullI code).length c98 ∧ k40.R 40 w8 W4.heap.size (fun _ => True) (.slice A98 (fullI code).length c98) (fullI code) := hM.at_ 2 (by decide) (by kernel_rfl)
      replace hv8 := gdq _ _ _ hv8
      have h11 := gdq _ _ _ (show aX.tmps.getD 11 undef = .int .i64 (code.length : Int) from hM.at_ 5 (by decide) (by kernel_rfl))
      have hcap : code.length ≤ c98 := by have h1 := (Kd.R_reads' hP8).2.1; rw [fullI_len] at h1; omega
      have hcut := cut_cap (P := Try.prog) 22 40 .i64 Try.underlying22 hi40 A98 (fullI code).length c98 (code.length : Int) (by omega) (by omega)
      rw [Int.toNat_natCast] at hcut
      refine RegInv.op_value (by rfl) rfl (v := .slice A98 code.length c98) (w' := w8) ?_ ⟨_, rfl, ⟨A98, c98, rfl, hP8⟩, Below.refl _ _, fun _ => Below.refl _ _⟩
      unfold execOp
      go_simp
    · cases hi
      have h3 := gdq _ _ _ (show aX.tmps.getD 3 undef = .pointer (some ⟨g3, 0, none⟩) from hM.off 3 (by kernel_rfl))
      refine RegInv.op_value (by rfl) rfl (v := .pointer (some ⟨g3, 3, none⟩)) (w' := w8) ?_ ⟨_, rfl, rfl, Below.refl _ _, fun _ => Below.refl _ _⟩
      unfold execOp
      go_simp
    · exact absurd hltI (by omega)
  case heL2 =>
    intro vs w8 hExt hvs
    have v0 : vs 0 = .pointer (some ⟨w.heap.size, 3, none⟩) := hvs 0 (by decide)
    have v1 : vs 1 = .slice A3 code.length c3 := hvs 1 (by decide)
    obtain ⟨A92, c92, v2, hP2⟩ : ∃ A9 c9, vs 2 = .slice A9 (fullI code).length c9 ∧ k40.R 40 w8 W4.heap.size (fun _ => True) (.slice A9 (fullI code).length c9) (fullI code) := hvs 2 (by decide)
    have v3 : vs 3 = .pointer (some ⟨w.heap.size, 3, none⟩) := hvs 3 (by decide)
    have v4 : vs 4 = .slice A3 code.length c3 := hvs 4 (by decide)
    have v5 : vs 5 = .int .i64 (code.length : Int) := hvs 5 (by decide)
    obtain ⟨A96, c96, v6, hP6⟩ : ∃ A9 c9, vs 6 = .slice A9 code.length c9 ∧ k40.R 40 w8 W4.heap.size (fun _ => True) (.slice A9 (fullI code).length c9) (fullI code) := hvs 6 (by decide)
    have v7 : vs 7 = .pointer (some ⟨g3, 3, none⟩) := hvs 7 (by decide)
    simp only [RegInv.puts, dL2, Act.put, List.range, List.range.loop, List.setIfInBounds_toArray, List.set_cons_zero, List.set_cons_succ, v0, v1, v2, v3, v4, v5, v6, v7]
    clear hvs v0 v1 v2 v3 v4 v5 v6 v7
    have h4' := blk_below H4.out hExt
    have k3 := cell_blk h4' (i := 3) (v := .slice B3 code.length d3) (by rw [← HCN.out]; rfl)
    have fz3 : w8.frozen? ⟨g3, 3, none⟩ = false := by simp [World.frozen?, h4']
    have HB8 := Aside0.mk ((HB4.out.trans (hExt.mono HB4.out.size)).setCell (p := ⟨g3, 3, none⟩) (by show w.heap.size ≤ g3; have := HLT.out; omega) (.slice A96 code.length c96))
    have HR8 := Aside0.mk (Kd.R_far (p := ⟨g3, 3, none⟩) (Kd.R_mono (Kd.R_bound hP6) (ok' := fun k => g3 < k) (fun k hk => by have := hk.2.1; have := HSZ.out; omega)) (fun k hk => by show k ≠ g3; omega) (.slice A96 code.length c96))
    have HH8 := Aside0.mk (Kd.R_set (Kd.R_below HR4.out hExt) h4' (by decide) 3 (.slice A96 code.length c96))
    have H28 := Aside0.mk ((Below.heap_setCell w8 ⟨g3, 3, none⟩ (.slice A96 code.length c96) (w.heap.size + 1) (by have := HLT.out; simp; omega)).trans (blk_below H2'.out hExt))
    have HG8 := Aside0.mk (blk_set (j := 3) (v := .slice A96 code.length c96) h4')
    refine RegInv.op_skip (w' := w8.setCell ⟨g3, 3, none⟩ (.slice A96 code.length c96)) (by rfl) rfl ?_ ?_
    · unfold execOp
      go_simp
    · refine hK _ _ ?_
      simp only [Act.put, List.getElem_toArray, List.getElem_cons_succ, List.getElem_cons_zero]
      clear hK hExt hP2 hP6 h4' k3 fz3
      revert HB8
      revert HR8
      revert HH8
      revert H28
      revert HG8
      generalize w8.setCell ⟨g3, 3, none⟩ (.slice A96 code.length c96) = W9
      intro HG8 H28 HH8 HR8 HB8
      have q0 := cell_blk HG8.out (i := 0) (v := .string nm) (by rw [← HCN.out]; rfl)
      have q1 := cell_blk HG8.out (i := 1) (v := .int .i64 pa) (by rw [← HCN.out]; rfl)
      have q2 := cell_blk HG8.out (i := 2) (v := .int .i64 lo) (by rw [← HCN.out]; rfl)
      have q3 := cell_blk HG8.out (i := 3) (v := .slice A96 code.length c96) (by rw [← HCN.out]; rfl)
      have q4 := cell_blk HG8.out (i := 4) (v := .slice B4 hs.length d4) (by rw [← HCN.out]; rfl)
      have r0 := cell_blk H28.out (i := 0) (v := .string ⟨#[]⟩) (by rw [← HZC.out]; rfl)
      have r1 := cell_blk H28.out (i := 1) (v := .int .i64 0) (by rw [← HZC.out]; rfl)
      have r2 := cell_blk H28.out (i := 2) (v := .int .i64 0) (by rw [← HZC.out]; rfl)
      have r3 := cell_blk H28.out (i := 3) (v := .slice none 0 0) (by rw [← HZC.out]; rfl)
      have r4 := cell_blk H28.out (i := 4) (v := .slice none 0 0) (by rw [← HZC.out]; rfl)
      have z0 : W9.frozen? ⟨w.heap.size + 1, 0, none⟩ = false := by simp [World.frozen?, H28.out]
      have z1 : W9.frozen? ⟨w.heap.size + 1, 1, none⟩ = false := by simp [World.frozen?, H28.out]
      have z2 : W9.frozen? ⟨w.heap.size + 1, 2, none⟩ = false := by simp [World.frozen?, H28.out]
      have z3 : W9.frozen? ⟨w.heap.size + 1, 3, none⟩ = false := by simp [World.frozen?, H28.out]
      have z4 : W9.frozen? ⟨w.heap.size + 1, 4, none⟩ = false := by simp [World.frozen?, H28.out]
      go_wp2_with (fail)
      have hne : ∀ (W : World) (j : Nat) (v : Value) (k : Nat), k ≠ w.heap.size + 1 → (W.setCell ⟨w.heap.size + 1, j, none⟩ v).heap[k]? = W.heap[k]? := fun W j v k hk => Below.heap_setCell W ⟨w.heap.size + 1, j, none⟩ v k hk
      have hfin : ∀ k, k ≠ w.heap.size + 1 → (((((W9.setCell ⟨w.heap.size + 1, 0, none⟩ (.string nm)).setCell ⟨w.heap.size + 1, 1, none⟩ (.int .i64 pa)).setCell ⟨w.heap.size + 1, 2, none⟩ (.int .i64 lo)).setCell ⟨w.heap.size + 1, 3, none⟩ (.slice A96 code.length c96)).setCell ⟨w.heap.size + 1, 4, none⟩ (.slice B4 hs.length d4)).heap[k]? = W9.heap[k]? := fun k hk => by
        rw [hne _ _ _ _ hk, hne _ _ _ _ hk, hne _ _ _ _ hk, hne _ _ _ _ hk, hne _ _ _ _ hk]
      have hrbF := blk_set (j := 4) (v := .slice B4 hs.length d4) (blk_set (j := 3) (v := .slice A96 code.length c96) (blk_set (j := 2) (v := .int .i64 lo) (blk_set (j := 1) (v := .int .i64 pa) (blk_set (j := 0) (v := .string nm) H28.out))))
      have hbF : Below w.heap.size w (((((W9.setCell ⟨w.heap.size + 1, 0, none⟩ (.string nm)).setCell ⟨w.heap.size + 1, 1, none⟩ (.int .i64 pa)).setCell ⟨w.heap.size + 1, 2, none⟩ (.int .i64 lo)).setCell ⟨w.heap.size + 1, 3, none⟩ (.slice A96 code.length c96)).setCell ⟨w.heap.size + 1, 4, none⟩ (.slice B4 hs.length d4)) := by
        refine ((((HB8.out.setCell (p := ⟨w.heap.size + 1, 0, none⟩) ?_ _).setCell (p := ⟨w.heap.size + 1, 1, none⟩) ?_ _).setCell (p := ⟨w.heap.size + 1, 2, none⟩) ?_ _).setCell (p := ⟨w.heap.size + 1, 3, none⟩) ?_ _).setCell (p := ⟨w.heap.size + 1, 4, none⟩) ?_ _ <;> exact Nat.le_succ _
      clear q0 q1 q2 q3 q4 r0 r1 r2 r3 r4 z0 z1 z2 z3 z4 hne
      revert hfin hrbF hbF
      generalize (((((W9.setCell ⟨w.heap.size + 1, 0, none⟩ (.string nm)).setCell ⟨w.heap.size + 1, 1, none⟩ (.int .i64 pa)).setCell ⟨w.heap.size + 1, 2, none⟩ (.int .i64 lo)).setCell ⟨w.heap.size + 1, 3, none⟩ (.slice A96 code.length c96)).setCell ⟨w.heap.size + 1, 4, none⟩ (.slice B4 hs.length d4)) = wF
      intro hfin hrbF hbF
      have hL := HLT.out
      have hS := HSZ.out
      have hR := Kd.R_move (w1 := wF) HR8.out (fun k hk => hfin k (by omega))
      have hHs := Kd.R_move (w1 := wF) (Kd.R_bound HH8.out) (fun k hk => hfin k (by have := hk.2.1; omega))
      have hrb2 : wF.heap[w.heap.size + 1]? = some (.cells #[.string nm, .int .i64 pa, .int .i64 lo, .slice A96 code.length c96, .slice B4 hs.length d4] 25 (0, 0)) := by
        rw [hrbF, ← HZC.out]; rfl
      have HE := Aside0.mk (show k40.R 40 wF w.heap.size (fun _ => True) (.slice A96 (fullI code).length c96) (fullI code) ∧ k49.R 49 wF w.heap.size (fun _ => True) (.slice B4 hs.length d4) hs ∧ Below w.heap.size w wF from ⟨Kd.R_mono (Kd.R_lower hR (by omega)) (fun _ _ => trivial), Kd.R_mono (Kd.R_lower hHs (by omega)) (fun _ _ => trivial), hbF⟩)
      clear hfin hrbF hbF hR hHs
      refine bodyPost_ret (results_cell_row rfl _ _ (w.heap.size + 1) 25 #[.string nm, .int .i64 pa, .int .i64 lo, .slice A96 code.length c96, .slice B4 hs.length d4] (0, 0) _ rfl hrb2 Try.underlying25 rfl (by kernel_rfl)) rfl ?_
      exact ⟨A96, B4, c96, d4, rfl, HE.out⟩
end Go.Proofs.Ytmeaepmimnmjlaa.Ask
/- kept: what was lent is found kept. -/
namespace Go.Proofs.Ytmeaepmimnmjlaa.Ask
open Go.RowKit Go.Shelf Go.Proofs.Ytmeaepmimnmjlaa.PGb Go.Proofs.Ytmeaepmimnmjlaa.Lit Go.Proofs.Ytmeaepmimnmjlaa.OwnCells Go.Proofs.YtmeaepmimnmjlaaW.PrintWords Go.Proofs.YtmeaepmimnmjlaaW.PrintLast Go.Proofs.YtmeaepmimnmjlaaW.PrintMore
attribute [local go_sem] Oper.semAt_some
set_option linter.unusedVariables false
set_option linter.unusedSimpArgs false
def dK3 : Nat → Option Tmp
  | 0 => some 41
  | 1 => some 42
  | 2 => some 43
  | 3 => some 44
  | 4 => some 45
  | 5 => some 46
  | 6 => some 47
  | 7 => some 48
  | 8 => some 49
  | 9 => some 50
  | 10 => some 4
  | _ => none
def FK3 (g2 g3 n nf c3 d3 : Nat) (A3 B3 : Option Addr) : Nat → World → Value → Prop
  | 0, _, v => v = .pointer (some ⟨g2, 3, none⟩)
  | 1, _, v => v = .slice B3 n d3
  | 2, _, v => v = .pointer (some ⟨g3, 3, none⟩)
  | 3, _, v => v = .slice A3 n c3
  | 4, _, v => v = .int .i64 (n : Int)
  | 5, _, v => v = .int .i64 ((n : Int) + 64)
  | 6, _, v => v = .slice B3 nf d3
  | 7, _, v => v = .pointer (some ⟨g3, 3, none⟩)
  | 8, _, v => v = .slice A3 n c3
  | 9, _, v => v = .bool true
  | 10, _, v => v = .bool true
  | _, _, _ => True
theorem FK3_below (g2 g3 n nf c3 d3 : Nat) (A3 B3 : Option Addr) (i : Nat) (w w1 : World) (v : Value) (h : FK3 g2 g3 n nf c3 d3 A3 B3 i w v) (hb : Below w.heap.size w w1) : FK3 g2 g3 n nf c3 d3 A3 B3 i w1 v := by
  match i with
  | 0 | 1 | 2 | 3 | 4 | 5 | 6 | 7 | 8 | 9 | 10 => exact h
  | (n + 11) => exact h
set_option maxHeartbeats 4000000 in
set_option maxRecDepth 100000 in
theorem kept_own {w : World} {nm : ByteArray} {pa lo : Int} {A3 A4 B3 B4 : Option Addr} {c3 c4 d3 d4 : Nat} {code : List S40} {hs : List S49} (hn : code.length ≤ 1048576) (hhn : hs.length ≤ 1048576) (hK : k40.C w B3 (fullI code).length (fullI code)) (hk3 : (fullI code).length ≤ d3) (hK4 : k49.C w B4 hs.length hs) (hC : k40.C w A3 code.length code) (hH : k49.C w A4 hs.length hs) :
    Calls Try.prog 16 #[.agg #[.string nm, .int .i64 pa, .int .i64 lo, .slice B3 code.length d3, .slice B4 hs.length d4], .agg #[.string nm, .int .i64 pa, .int .i64 lo, .slice A3 code.length c3, .slice A4 hs.length c4]] w fun e w' => e = .returned (.bool true) ∧ Below w.heap.size w w' := by
  have HC := Aside0.mk hC
  have HH := Aside0.mk hH
  have HK := Aside0.mk hK
  have HK4 := Aside0.mk hK4
  have HK3 := Aside0.mk hk3
  have HN := Aside0.mk hn
  have HHN := Aside0.mk hhn
  clear hC hH hn hhn hK hK4 hk3
  have hu25 := Try.underlying25
  go_enter Try.func16, Try.ntmps16
  go_upto_region 1 with (fail)
  obtain ⟨cg, hcg⟩ : ∃ cg : Array Value, (#[.string nm, .int .i64 pa, .int .i64 lo, .slice B3 code.length d3, .slice B4 hs.length d4] : Array Value) = cg := ⟨_, rfl⟩
  obtain ⟨cf, hcf⟩ : ∃ cf : Array Value, (#[.string nm, .int .i64 pa, .int .i64 lo, .slice A3 code.length c3, .slice A4 hs.length c4] : Array Value) = cf := ⟨_, rfl⟩
  have kg0 : cg[0]? = some (.string nm) := by rw [← hcg]; rfl
  have kf0 : cf[0]? = some (.string nm) := by rw [← hcf]; rfl
  have kg1 : cg[1]? = some (.int .i64 pa) := by rw [← hcg]; rfl
  have kf1 : cf[1]? = some (.int .i64 pa) := by rw [← hcf]; rfl
  have kg2 : cg[2]? = some (.int .i64 lo) := by rw [← hcg]; rfl
  have kf2 : cf[2]? = some (.int .i64 lo) := by rw [← hcf]; rfl
  have kg3 : cg[3]? = some (.slice B3 code.length d3) := by rw [← hcg]; rfl
  have kf3 : cf[3]? = some (.slice A3 code.length c3) := by rw [← hcf]; rfl
  have kg4 : cg[4]? = some (.slice B4 hs.length d4) := by rw [← hcg]; rfl
  have kf4 : cf[4]? = some (.slice A4 hs.length c4) := by rw [← hcf]; rfl
  rw [hcg, hcf]
  have hb : Below w.heap.size w ((w.alloc (.cells cg 25)).alloc (.cells cf 25)) := below_alloc (below_alloc (Below.refl _ _) _) _
  have h1 : ((w.alloc (.cells cg 25)).alloc (.cells cf 25)).heap[w.heap.size]? = some (.cells cg 25 (0, 0)) := ((World.grownBy_alloc (w.alloc _) _ none).block _ (by simp) (by simp)).trans (World.alloc_heap_new w _)
  have h2 : ((w.alloc (.cells cg 25)).alloc (.cells cf 25)).heap[w.heap.size + 1]? = some (.cells cf 25 (0, 0)) := by
    have := World.alloc_heap_new (w.alloc (.cells cg 25)) (.cells cf 25)
    rw [World.size_alloc] at this
    exact this
  clear hcg hcf
  revert hb h1 h2
  generalize (w.alloc (.cells cg 25)).alloc (.cells cf 25) = W1
  intro hb h1 h2
  have HB1 := Aside0.mk hb
  have H1 := Aside0.mk h1
  have H2 := Aside0.mk h2
  have g0 := cell_blk h1 kg0
  have f0 := cell_blk h2 kf0
  have g1 := cell_blk h1 kg1
  have f1 := cell_blk h2 kf1
  have g2 := cell_blk h1 kg2
  have f2 := cell_blk h2 kf2
  have g3 := cell_blk h1 kg3
  have f3 := cell_blk h2 kf3
  have g4 := cell_blk h1 kg4
  have f4 := cell_blk h2 kf4
  have HKK2 := Aside0.mk (And.intro kg3 (And.intro kf3 trivial))
  clear kg0 kf0 kg1 kf1 kg2 kf2 kg3 kf3 kg4 kf4 hb h1 h2
  have hss : (nm.toList == nm.toList) = true := beq_self_eq_true _
  go_wp2_with (fail)
  refine (same_hands B4 A4 d4 c4 hs _ (Kd.C_below HK4.out HB1.out) (Kd.C_below HH.out HB1.out) (by have := HHN.out; omega)).mono ?_
  rintro e w3 ⟨rfl, m3, rfl⟩
  go_wp2_with (fail)
  have hbD : Below W1.heap.size W1 (W1.drewN m3) := pw_below_drewN (Below.refl _ _) m3
  have HB3 := Aside0.mk (HB1.out.trans (hbD.mono HB1.out.size))
  have H13 := Aside0.mk (blk_below H1.out hbD)
  have H23 := Aside0.mk (blk_below H2.out hbD)
  clear g0 f0 g1 f1 g2 f2 g3 f3 g4 f4 hss hbD
  revert H23
  revert H13
  revert HB3
  generalize W1.drewN m3 = W3
  intro HB3 H13 H23
  obtain ⟨i40, hi40, hi41⟩ := info_parts info40
  rename_i hKK
  have hfl := fullI_len code
  refine RegInv.region_facts (by kernel_rfl) (by kernel_rfl) (fun a b => Below a.heap.size a b) (fun a b c h k => h.trans (k.mono h.size)) (below_drew1 (Below.refl _ _)) dK3 11 (by kernel_rfl) (by kernel_rfl) (by kernel_rfl) (FK3 w.heap.size (w.heap.size + 1) code.length (fullI code).length c3 d3 A3 B3) (FK3_below w.heap.size (w.heap.size + 1) code.length (fullI code).length c3 d3 A3 B3) ?hsK3 ?heK3
  case hsK3 =>
    clear hKK
    intro i o aX w8 hi hM
    have hltI : i < 11 := (Array.getElem?_eq_some_iff.1 hi).1
    have hExt := hM.ext
    have g3 := cell_blk (blk_below H13.out hExt) HKK2.out.1
    have f3 := cell_blk (blk_below H23.out hExt) HKK2.out.2.1
    rcases i with _ | _ | _ | _ | _ | _ | _ | _ | _ | _ | _ | i
    · cases hi
      have h2 := gdq _ _ _ (show aX.tmps.getD 2 undef = .pointer (some ⟨w.heap.size, 0, none⟩) from hM.off 2 (by kernel_rfl))
      refine RegInv.op_value (by rfl) rfl (v := .pointer (some ⟨w.heap.size, 3, none⟩)) (w' := w8) ?_ ⟨_, rfl, rfl, Below.refl _ _⟩
      unfold execOp
      go_simp
    · cases hi
      have h41 := gdq _ _ _ (show aX.tmps.getD 41 undef = .pointer (some ⟨w.heap.size, 3, none⟩) from hM.at_ 0 (by decide) (by kernel_rfl))
      refine RegInv.op_value (by rfl) rfl (v := .slice B3 code.length d3) (w' := w8) ?_ ⟨_, rfl, rfl, Below.refl _ _⟩
      unfold execOp
      go_simp
    · cases hi
      have h3 := gdq _ _ _ (show aX.tmps.getD 3 undef = .pointer (some ⟨w.heap.size + 1, 0, none⟩) from hM.off 3 (by kernel_rfl))
      refine RegInv.op_value (by rfl) rfl (v := .pointer (some ⟨w.heap.size + 1, 3, none⟩)) (w' := w8) ?_ ⟨_, rfl, rfl, Below.refl _ _⟩
      unfold execOp
      go_simp
    · cases hi
      have h43 := gdq _ _ _ (show aX.tmps.getD 43 undef = .pointer (some ⟨w.heap.size + 1, 3, none⟩) from hM.at_ 2 (by decide) (by kernel_rfl))
      refine RegInv.op_value (by rfl) rfl (v := .slice A3 code.length c3) (w' := w8) ?_ ⟨_, rfl, rfl, Below.refl _ _⟩
      unfold execOp
      go_simp
    · cases hi
      have h44 := gdq _ _ _ (show aX.tmps.getD 44 undef = .slice A3 code.length c3 from hM.at_ 3 (by decide) (by kernel_rfl))
      refine RegInv.op_value (by rfl) rfl (v := .int .i64 (code.length : Int)) (w' := w8) ?_ ⟨_, rfl, rfl, Below.refl _ _⟩
      unfold execOp
      go_simp
    · cases hi
      have h45 := gdq _ _ _ (show aX.tmps.getD 45 undef = .int .i64 (code.length : Int) from hM.at_ 4 (by decide) (by kernel_rfl))
      have hwr : IntKind.i64.wrap ((code.length : Int) + 64) = (code.length : Int) + 64 := by have := HN.out; rw [IntKind.wrap_i64]; omega
      refine RegInv.op_value (by rfl) rfl (v := .int .i64 ((code.length : Int) + 64)) (w' := w8) ?_ ⟨_, rfl, rfl, Below.refl _ _⟩
      unfold execOp
      go_simp
    · cases hi
      have h42 := gdq _ _ _ (show aX.tmps.getD 42 undef = .slice B3 code.length d3 from hM.at_ 1 (by decide) (by kernel_rfl))
      have h46 := gdq _ _ _ (show aX.tmps.getD 46 undef = .int .i64 ((code.length : Int) + 64) from hM.at_ 5 (by decide) (by kernel_rfl))
      have hcut := cut_cap (P := Try.prog) 22 40 .i64 Try.underlying22 hi40 B3 code.length d3 ((code.length : Int) + 64) (by omega) (by have := HK3.out; omega)
      have e64 : ((code.length : Int) + 64).toNat = (fullI code).length := by omega
      rw [e64] at hcut
      refine RegInv.op_value (by rfl) rfl (v := .slice B3 (fullI code).length d3) (w' := w8) ?_ ⟨_, rfl, rfl, Below.refl _ _⟩
      unfold execOp
      go_simp
    · cases hi
      have h3 := gdq _ _ _ (show aX.tmps.getD 3 undef = .pointer (some ⟨w.heap.size + 1, 0, none⟩) from hM.off 3 (by kernel_rfl))
      refine RegInv.op_value (by rfl) rfl (v := .pointer (some ⟨w.heap.size + 1, 3, none⟩)) (w' := w8) ?_ ⟨_, rfl, rfl, Below.refl _ _⟩
      unfold execOp
      go_simp
    · cases hi
      have h48 := gdq _ _ _ (show aX.tmps.getD 48 undef = .pointer (some ⟨w.heap.size + 1, 3, none⟩) from hM.at_ 7 (by decide) (by kernel_rfl))
      refine RegInv.op_value (by rfl) rfl (v := .slice A3 code.length c3) (w' := w8) ?_ ⟨_, rfl, rfl, Below.refl _ _⟩
      unfold execOp
      go_simp
    · cases hi
      have h47 := gdq _ _ _ (show aX.tmps.getD 47 undef = .slice B3 (fullI code).length d3 from hM.at_ 6 (by decide) (by kernel_rfl))
      have h49 := gdq _ _ _ (show aX.tmps.getD 49 undef = .slice A3 code.length c3 from hM.at_ 8 (by decide) (by kernel_rfl))
      refine RegInv.op_call (by rfl) rfl Try.func53 (by kernel_rfl) rfl rfl #[.slice B3 (fullI code).length d3, .slice A3 code.length c3] (by simp [Act.eval, h47, h49]) ?_
      refine (kept_instrs B3 A3 d3 c3 code w8 (Kd.C_below HK.out (HB3.out.trans (hExt.mono HB3.out.size))) (Kd.C_below HC.out (HB3.out.trans (hExt.mono HB3.out.size))) HN.out).mono ?_
      rintro e w9 ⟨rfl, b9⟩
      exact ⟨_, rfl, _, rfl, rfl, b9⟩
    · cases hi
      have h50 := gdq _ _ _ (show aX.tmps.getD 50 undef = .bool true from hM.at_ 9 (by decide) (by kernel_rfl))
      refine RegInv.op_value (by rfl) rfl (v := .bool true) (w' := w8) ?_ ⟨_, rfl, rfl, Below.refl _ _⟩
      unfold execOp
      go_simp
    · exact absurd hltI (by omega)
  case heK3 =>
    intro vs w8 hExt hvs
    have v0 : vs 0 = .pointer (some ⟨w.heap.size, 3, none⟩) := hvs 0 (by decide)
    have v1 : vs 1 = .slice B3 code.length d3 := hvs 1 (by decide)
    have v2 : vs 2 = .pointer (some ⟨w.heap.size + 1, 3, none⟩) := hvs 2 (by decide)
    have v3 : vs 3 = .slice A3 code.length c3 := hvs 3 (by decide)
    have v4 : vs 4 = .int .i64 (code.length : Int) := hvs 4 (by decide)
    have v5 : vs 5 = .int .i64 ((code.length : Int) + 64) := hvs 5 (by decide)
    have v6 : vs 6 = .slice B3 (fullI code).length d3 := hvs 6 (by decide)
    have v7 : vs 7 = .pointer (some ⟨w.heap.size + 1, 3, none⟩) := hvs 7 (by decide)
    have v8 : vs 8 = .slice A3 code.length c3 := hvs 8 (by decide)
    have v9 : vs 9 = .bool true := hvs 9 (by decide)
    have v10 : vs 10 = .bool true := hvs 10 (by decide)
    simp only [RegInv.puts, dK3, Act.put, List.range, List.range.loop, List.setIfInBounds_toArray, List.set_cons_zero, List.set_cons_succ, v0, v1, v2, v3, v4, v5, v6, v7, v8, v9, v10]
    clear hvs v0 v1 v2 v3 v4 v5 v6 v7 v8 v9 v10
    have HB8 := Aside0.mk (HB3.out.trans (hExt.mono HB3.out.size))
    clear hExt
    refine hKK _ _ ?_
    (try simp only [Act.put, List.getElem_toArray, List.getElem_cons_succ, List.getElem_cons_zero])
    clear hKK
    go_wp2_with (fail)
    go_ret
    exact ⟨rfl, HB8.out⟩
end Go.Proofs.Ytmeaepmimnmjlaa.Ask
/- Proved: GraphBuild (P9.1 to P9.4): of every two functions that read 1048576 things at most, the program's Build answers the reference's graph and error, twice; what was lent is kept; written over, it is answered as9 what it is then. -/
namespace Go.Proofs.Ytmeaepmimnmjlaa.Ask
open Go.Proofs.Ytmeaepmimnmjlaa.Dfs Go.Proofs.Ytmeaepmimnmjlaa.Dom Go.Proofs.Ytmeaepmimnmjlaa.DomT Go.RowKit Go.Shelf Go.Proofs.Ytmeaepmimnmjlaa.PGb Go.Proofs.Ytmeaepmimnmjlaa.Lit Go.Proofs.Ytmeaepmimnmjlaa.OwnCells Go.Proofs.YtmeaepmimnmjlaaW.PrintWords Go.Proofs.YtmeaepmimnmjlaaW.PrintLast Go.Proofs.YtmeaepmimnmjlaaW.PrintMore
attribute [local go_sem] Oper.semAt_some
set_option linter.unusedVariables false
set_option linter.unusedSimpArgs false
/-- the two functions' boxes -/
structure LW (w W : World) (cf co : Array Value) : Prop where
  fb : W.heap[w.heap.size]? = some (.cells cf 25 (0, 0))
  ob : W.heap[w.heap.size + 1]? = some (.cells co 25 (0, 0))
  below : Below w.heap.size w W
theorem LW.from_ {w W W' : World} {cf co : Array Value} (h : LW w W cf co) (hb : Below W.heap.size W W') : LW w W' cf co := ⟨blk_below h.fb hb, blk_below h.ob hb, h.below.trans (hb.mono h.below.size)⟩
theorem lentC {W : World} {A : Option Addr} {c : Nat} {code : List S40} (h : (fullI code).length = (fullI code).length ∧ (fullI code).length ≤ c ∧ k40.C W A (fullI code).length (fullI code)) : k40.C W A code.length code ∧ code.length ≤ c := by
  have hl := fullI_len code
  refine ⟨?_, by omega⟩
  have := Kd.C_take (m := code.length) h.2.2 (by omega)
  have e : (fullI code).take code.length = code := by unfold fullI; simp
  rw [e] at this
  exact this
theorem Held.now {w w' : World} {v : Value} {st : List Int} {nx : List (List Int)} {ord l hd : List Int} (h : Held w w' v st nx ord l hd) : GR w' v st nx ord l hd := h w' (Nat.le_refl _) fun _ _ _ h _ => h
theorem Held.from_ {w w' W : World} {v : Value} {st : List Int} {nx : List (List Int)} {ord l hd : List Int} (h : Held w w' v st nx ord l hd) (hw : w.heap.size ≤ w'.heap.size) (hb : Below w'.heap.size w' W) : Held w W v st nx ord l hd := fun X h1 h2 => h X (Nat.le_trans hb.size h1) fun k o hk ho hc => h2 k o hk ((hb.block k (blk_lt ho)).trans ho) hc
theorem step40 {W1 W5 W : World} {g d3 n : Nat} {xs : List S40} (hR : k40.R 40 W W1.heap.size (fun _ => True) (.slice (some ⟨g, 0, none⟩) n d3) xs) (hB : Below W1.heap.size W1 W) (hK : Range.KBut W5.heap.size g W5 W) (k : Nat) (hk : k < n) (x : S40) :
    k40.R 40 ((W.setCell ⟨g, k * 2, none⟩ (.int .i64 x.f0)).setCell ⟨g, k * 2 + 1, none⟩ (.int .i64 x.f1)) W1.heap.size (fun _ => True) (.slice (some ⟨g, 0, none⟩) n d3) (xs.set k x) ∧ Below W1.heap.size W1 ((W.setCell ⟨g, k * 2, none⟩ (.int .i64 x.f0)).setCell ⟨g, k * 2 + 1, none⟩ (.int .i64 x.f1)) ∧ Range.KBut W5.heap.size g W5 ((W.setCell ⟨g, k * 2, none⟩ (.int .i64 x.f0)).setCell ⟨g, k * 2 + 1, none⟩ (.int .i64 x.f1)) := by
  have hbg : W1.heap.size ≤ g := Kd.R_base hR g rfl
  exact ⟨(put40 hR k hk x).1, (hB.setCell (p := ⟨g, k * 2, none⟩) hbg _).setCell (p := ⟨g, k * 2 + 1, none⟩) hbg _, (hK.set _ _).set _ _⟩
/-- what lies in memory when all three answers are there -/
structure S5 (w W : World) (cf co : Array Value) (G5 G7 G8 G10 L : Nat) (VA IA VB VC : Array Value) (st : List Int) (nx : List (List Int)) (ord l hd : List Int) (code : List S40) (hs : List S49) (B3 : Option Addr) (d3 : Nat) (B4 : Option Addr) (d4 : Nat) : Prop where
  lw : LW w W cf co
  b5 : W.heap[G5]? = some (.cells VA 29 (0, 0))
  b7 : W.heap[G7]? = some (.cells IA 25 (0, 0))
  b8 : W.heap[G8]? = some (.cells VB 29 (0, 0))
  b10 : W.heap[G10]? = some (.cells VC 29 (0, 0))
  rw_ : GR W (.agg VA) st nx ord l hd
  ra : GR W (.agg VB) st nx ord l hd
  rb : GR W (.agg VC) st nx ord l hd
  ri : k40.R 40 W L (fun _ => True) (.slice B3 (fullI code).length d3) (fullI code)
  rh : k49.R 49 W L (fun _ => True) (.slice B4 hs.length d4) hs
theorem S5.from_ {w W W' : World} {cf co : Array Value} {G5 G7 G8 G10 L : Nat} {VA IA VB VC : Array Value} {st : List Int} {nx : List (List Int)} {ord l hd : List Int} {code : List S40} {hs : List S49} {B3 : Option Addr} {d3 : Nat} {B4 : Option Addr} {d4 : Nat} (h : S5 w W cf co G5 G7 G8 G10 L VA IA VB VC st nx ord l hd code hs B3 d3 B4 d4) (hb : Below W.heap.size W W') : S5 w W' cf co G5 G7 G8 G10 L VA IA VB VC st nx ord l hd code hs B3 d3 B4 d4 :=
  ⟨h.lw.from_ hb, blk_below h.b5 hb, blk_below h.b7 hb, blk_below h.b8 hb, blk_below h.b10 hb, h.rw_.below hb, h.ra.below hb, h.rb.below hb, Kd.R_below h.ri hb, Kd.R_below h.rh hb⟩
def dS12 : Nat → Option Tmp
  | 0 => some 78
  | 1 => some 79
  | 2 => some 80
  | 3 => some 81
  | 4 => some 82
  | 5 => some 83
  | 6 => some 84
  | 7 => some 85
  | 8 => some 86
  | 9 => none
  | _ => none
def FS12 (G7 g k n d3 B m e3 : Nat) (ad2 : Addr) (y : S40) : Nat → World → Value → Prop
  | 0, _, v => v = .pointer (some ⟨G7, 3, none⟩)
  | 1, _, v => v = .slice (some ⟨g, 0, none⟩) n d3
  | 2, _, v => v = .int .i64 (k : Int)
  | 3, _, v => v = .pointer (some ⟨B, 3, none⟩)
  | 4, _, v => v = .slice (some ad2) m e3
  | 5, _, v => v = .int .i64 (k : Int)
  | 6, _, v => v = .pointer (some (ad2.add (k * 2)))
  | 7, _, v => v = .agg #[.int .i64 y.f0, .int .i64 y.f1]
  | 8, _, v => v = .pointer (some ⟨g, k * 2, none⟩)
  | 9, _, v => v = undef
  | _, _, _ => True
theorem FS12_below (G7 g k n d3 B m e3 : Nat) (ad2 : Addr) (y : S40) (i : Nat) (w w1 : World) (v : Value) (h : FS12 G7 g k n d3 B m e3 ad2 y i w v) (hb : Below w.heap.size w w1) : FS12 G7 g k n d3 B m e3 ad2 y i w1 v := by
  match i with
  | 0 | 1 | 2 | 3 | 4 | 5 | 6 | 7 | 8 | 9 => exact h
  | (n + 10) => exact h
set_option maxHeartbeats 16000000 in
set_option maxRecDepth 100000 in
theorem portagelaw09_GraphBuild.calls (nm : ByteArray) (pa lo : Int) (A3 : Option Addr) (c3 : Nat) (code : List S40) (A4 : Option Addr) (c4 : Nat) (hs : List S49) (nm2 : ByteArray) (pa2 lo2 : Int) (O3 : Option Addr) (e3 : Nat) (code2 : List S40) (O4 : Option Addr) (e4 : Nat) (hs2 : List S49) (r : Bool) (w : World) (hC : k40.C w A3 code.length code) (hc3 : code.length ≤ c3) (hH : k49.C w A4 hs.length hs) (hc4 : hs.length ≤ c4) (hO : k40.C w O3 code2.length code2) (ho3 : code2.length ≤ e3) (hO4 : k49.C w O4 hs2.length hs2) (ho4 : hs2.length ≤ e4) (h : (code.length ≤ 1048576 ∧ hs.length ≤ 1048576 ∧ code2.length ≤ 1048576) ∧ r = true) :
    Calls Try.prog 3 #[.agg #[.string nm, .int .i64 pa, .int .i64 lo, .slice A3 code.length c3, .slice A4 hs.length c4], .agg #[.string nm2, .int .i64 pa2, .int .i64 lo2, .slice O3 code2.length e3, .slice O4 hs2.length e4]] w fun e w' => e = .returned (.bool r) ∧ Below w.heap.size w w' := by
  obtain ⟨⟨hn, hh, hn2⟩, rfl⟩ := h
  have HC := Aside0.mk hC
  have HH := Aside0.mk hH
  have HC3 := Aside0.mk hc3
  have HC4 := Aside0.mk hc4
  have HO := Aside0.mk hO
  have HN := Aside0.mk hn
  have HHN := Aside0.mk hh
  have HN2 := Aside0.mk hn2
  clear hC hH hc3 hc4 hO ho3 hO4 ho4 hn hh hn2
  have hu25 := Try.underlying25
  have hu29 := Try.underlying29
  have hu40 := Try.underlying40
  go_enter Try.func3, Try.ntmps3
  go_upto_region 1 with (fail)
  obtain ⟨cf, hcf⟩ : ∃ cf : Array Value, (#[.string nm, .int .i64 pa, .int .i64 lo, .slice A3 code.length c3, .slice A4 hs.length c4] : Array Value) = cf := ⟨_, rfl⟩
  obtain ⟨co, hco⟩ : ∃ co : Array Value, (#[.string nm2, .int .i64 pa2, .int .i64 lo2, .slice O3 code2.length e3, .slice O4 hs2.length e4] : Array Value) = co := ⟨_, rfl⟩
  have kf0 : cf[0]? = some (.string nm) := by rw [← hcf]; rfl
  have kf1 : cf[1]? = some (.int .i64 pa) := by rw [← hcf]; rfl
  have kf2 : cf[2]? = some (.int .i64 lo) := by rw [← hcf]; rfl
  have kf3 : cf[3]? = some (.slice A3 code.length c3) := by rw [← hcf]; rfl
  have kf4 : cf[4]? = some (.slice A4 hs.length c4) := by rw [← hcf]; rfl
  have ko3 : co[3]? = some (.slice O3 code2.length e3) := by rw [← hco]; rfl
  rw [hcf, hco]
  have hb : Below w.heap.size w ((w.alloc (.cells cf 25)).alloc (.cells co 25)) := below_alloc (below_alloc (Below.refl _ _) _) _
  have h1 : ((w.alloc (.cells cf 25)).alloc (.cells co 25)).heap[w.heap.size]? = some (.cells cf 25 (0, 0)) := ((World.grownBy_alloc (w.alloc _) _ none).block _ (by simp) (by simp)).trans (World.alloc_heap_new w _)
  have h2 : ((w.alloc (.cells cf 25)).alloc (.cells co 25)).heap[w.heap.size + 1]? = some (.cells co 25 (0, 0)) := by
    have := World.alloc_heap_new (w.alloc (.cells cf 25)) (.cells co 25)
    rw [World.size_alloc] at this
    exact this
  have HL0 : Aside0 (LW w ((w.alloc (.cells cf 25)).alloc (.cells co 25)) cf co) := ⟨⟨h1, h2, hb⟩⟩
  have HKF := Aside0.mk (And.intro kf0 (And.intro kf1 (And.intro kf2 (And.intro kf3 kf4))))
  have HKO := Aside0.mk ko3
  clear kf0 kf1 kf2 kf3 kf4 ko3 hb h1 h2 hcf hco
  revert HL0
  generalize (w.alloc (.cells cf 25)).alloc (.cells co 25) = W0
  intro HL0
  have f0 := cell_blk HL0.out.fb HKF.out.1
  have f1 := cell_blk HL0.out.fb HKF.out.2.1
  have f2 := cell_blk HL0.out.fb HKF.out.2.2.1
  have f3 := cell_blk HL0.out.fb HKF.out.2.2.2.1
  have f4 := cell_blk HL0.out.fb HKF.out.2.2.2.2
  go_wp2_with (fail)
  refine (ref_build HN.out (by have := HHN.out; omega) (Kd.C_below HC.out HL0.out.below) HC3.out (Kd.C_below HH.out HL0.out.below) HC4.out).mono ?_
  rintro e w1 ⟨v1, st, nx, ord, l, hd, rfl, hz1, hr1, hb1⟩
  have HL1 := Aside0.mk (HL0.out.from_ hb1)
  have HZ1 := Aside0.mk hz1
  have HS1 := Aside0.mk (hz1.small HN.out)
  obtain ⟨a0, a1, a2, a3, a4, k0, k1, k2, k3, k4, ev1, _⟩ := id hr1
  subst ev1
  have HR1 := Aside0.mk hr1
  obtain ⟨E1, hE1⟩ : ∃ E1, errOf code hs = E1 := ⟨_, rfl⟩
  rw [hE1]
  have HE1 := Aside0.mk hE1
  clear hz1 hr1 hb1 hE1 HL0 f0 f1 f2 f3 f4
  go_upto_region 2 with (fail)
  have hb := below_alloc (Below.refl _ w1) (.cells #[.slice a0 st.length k0, .slice a1 nx.length k1, .slice a2 ord.length k2, .slice a3 l.length k3, .slice a4 hd.length k4] 29)
  have HB5 := Aside0.mk (World.alloc_heap_new w1 (.cells #[.slice a0 st.length k0, .slice a1 nx.length k1, .slice a2 ord.length k2, .slice a3 l.length k3, .slice a4 hd.length k4] 29))
  have HL1' := Aside0.mk (HL1.out.from_ hb)
  have HR1' := Aside0.mk (HR1.out.below hb)
  have HLT := Aside0.mk (show w.heap.size + 1 < w1.heap.size from blk_lt HL1.out.ob)
  have HSZ1 : Aside0 ((w1.alloc (.cells #[.slice a0 st.length k0, .slice a1 nx.length k1, .slice a2 ord.length k2, .slice a3 l.length k3, .slice a4 hd.length k4] 29)).heap.size = w1.heap.size + 1) := ⟨by simp⟩
  clear hb HL1 HR1
  revert HB5
  revert HL1'
  revert HR1'
  revert HSZ1
  generalize w1.alloc (.cells #[.slice a0 st.length k0, .slice a1 nx.length k1, .slice a2 ord.length k2, .slice a3 l.length k3, .slice a4 hd.length k4] 29) = W1
  generalize w1.heap.size = G5 at HLT ⊢
  intro HSZ1 HR1 HL1 HB5
  have f0 := cell_blk HL1.out.fb HKF.out.1
  have f1 := cell_blk HL1.out.fb HKF.out.2.1
  have f2 := cell_blk HL1.out.fb HKF.out.2.2.1
  have f3 := cell_blk HL1.out.fb HKF.out.2.2.2.1
  have f4 := cell_blk HL1.out.fb HKF.out.2.2.2.2
  go_wp2_with (fail)
  refine (lent_own HN.out HHN.out (Kd.C_below HC.out HL1.out.below) HC3.out (Kd.C_below HH.out HL1.out.below) HC4.out).mono ?_
  rintro e w2 ⟨B3, B4, d3, d4, rfl, hi3, hi4, hb2⟩
  have HI3 := Aside0.mk hi3
  have HI4 := Aside0.mk hi4
  have HB2 := Aside0.mk hb2
  clear hi3 hi4 hb2 f0 f1 f2 f3 f4
  go_upto_region 3 with (fail)
  have hb := below_alloc (Below.refl _ w2) (.cells #[.string nm, .int .i64 pa, .int .i64 lo, .slice B3 code.length d3, .slice B4 hs.length d4] 25)
  have HB7 := Aside0.mk (World.alloc_heap_new w2 (.cells #[.string nm, .int .i64 pa, .int .i64 lo, .slice B3 code.length d3, .slice B4 hs.length d4] 25))
  have HL2 := Aside0.mk ((HL1.out.from_ HB2.out).from_ hb)
  have HR2 := Aside0.mk ((HR1.out.below HB2.out).below hb)
  have HB52 := Aside0.mk (blk_below (blk_below HB5.out HB2.out) hb)
  have HI32 := Aside0.mk (Kd.R_below HI3.out hb)
  have HI42 := Aside0.mk (Kd.R_below HI4.out hb)
  have HSZ2 : Aside0 ((w2.alloc (.cells #[.string nm, .int .i64 pa, .int .i64 lo, .slice B3 code.length d3, .slice B4 hs.length d4] 25)).heap.size = w2.heap.size + 1 ∧ W1.heap.size ≤ w2.heap.size) := ⟨by simp, HB2.out.size⟩
  have HB12 := Aside0.mk (show Below W1.heap.size W1 (w2.alloc (.cells #[.string nm, .int .i64 pa, .int .i64 lo, .slice B3 code.length d3, .slice B4 hs.length d4] 25)) from HB2.out.trans (hb.mono HB2.out.size))
  have HGL : Aside0 (∀ k, (Value.slice B3 (fullI code).length d3).ownBlock = some k → k < w2.heap.size) := ⟨fun k hk => Kd.R_lt HI3.out k hk⟩
  clear hb HB2 HI3 HI4
  revert HB7
  revert HL2
  revert HR2
  revert HB52
  revert HI32
  revert HI42
  revert HSZ2
  revert HB12
  revert HGL
  generalize w2.alloc (.cells #[.string nm, .int .i64 pa, .int .i64 lo, .slice B3 code.length d3, .slice B4 hs.length d4] 25) = W2
  generalize w2.heap.size = G7
  intro HGL HB12 HSZ2 HI42 HI32 HB52 HR2 HL2 HB7
  have i0 := cell_blk HB7.out (i := 0) rfl
  have i1 := cell_blk HB7.out (i := 1) rfl
  have i2 := cell_blk HB7.out (i := 2) rfl
  have i3 := cell_blk HB7.out (i := 3) rfl
  have i4 := cell_blk HB7.out (i := 4) rfl
  have hCI := lentC (Kd.R_reads' HI32.out)
  have hHI := (Kd.R_reads' HI42.out).2.2
  have hhl := (Kd.R_reads' HI42.out).2.1
  have hg1 := graph_build (nm := nm) (pa := pa) (lo := lo) (code := code) (hs := hs) HN.out (by have := HHN.out; omega) hCI.1 hCI.2 hHI hhl
  clear hCI hHI hhl
  go_wp2_with (fail)
  refine hg1.mono ?_
  rintro e w3 ⟨v3, st3, nx3, ord3, l3, hd3, rfl, hz3, hh3, hb3⟩
  obtain ⟨e1, e2, e3, e4, e5⟩ := hz3.uniq HZ1.out
  subst e1 e2 e3 e4 e5
  obtain ⟨b0, b1, b2, b3, b4, m0, m1, m2, m3, m4, ev3, _⟩ := id hh3.now
  subst ev3
  rw [HE1.out]
  have HHA := Aside0.mk hh3
  have HB3 := Aside0.mk hb3
  clear hz3 hh3 hb3 hg1 i0 i1 i2 i3 i4
  go_upto_region 4 with (fail)
  have hb := below_alloc (Below.refl _ w3) (.cells #[.slice b0 st.length m0, .slice b1 nx.length m1, .slice b2 ord.length m2, .slice b3 l.length m3, .slice b4 hd.length m4] 29)
  have HB8 := Aside0.mk (World.alloc_heap_new w3 (.cells #[.slice b0 st.length m0, .slice b1 nx.length m1, .slice b2 ord.length m2, .slice b3 l.length m3, .slice b4 hd.length m4] 29))
  have HB23 := Aside0.mk (show Below W2.heap.size W2 (w3.alloc (.cells #[.slice b0 st.length m0, .slice b1 nx.length m1, .slice b2 ord.length m2, .slice b3 l.length m3, .slice b4 hd.length m4] 29)) from HB3.out.trans (hb.mono HB3.out.size))
  have HB33 := Aside0.mk hb
  have HSZ3 : Aside0 ((w3.alloc (.cells #[.slice b0 st.length m0, .slice b1 nx.length m1, .slice b2 ord.length m2, .slice b3 l.length m3, .slice b4 hd.length m4] 29)).heap.size = w3.heap.size + 1 ∧ W2.heap.size ≤ w3.heap.size) := ⟨by simp, HB3.out.size⟩
  clear hb
  revert HB8
  revert HB23
  revert HB33
  revert HSZ3
  generalize w3.alloc (.cells #[.slice b0 st.length m0, .slice b1 nx.length m1, .slice b2 ord.length m2, .slice b3 l.length m3, .slice b4 hd.length m4] 29) = W3
  generalize hG8 : w3.heap.size = G8
  intro HSZ3 HB33 HB23 HB8
  have HG8 := Aside0.mk hG8
  have HB33' := Aside0.mk (show Below w3.heap.size w3 W3 from HG8.out.symm ▸ HB33.out)
  clear hG8
  have HB73 := Aside0.mk (blk_below HB7.out HB23.out)
  have HI33 := Aside0.mk (Kd.R_below HI32.out HB23.out)
  have HI43 := Aside0.mk (Kd.R_below HI42.out HB23.out)
  have i0 := cell_blk HB73.out (i := 0) rfl
  have i1 := cell_blk HB73.out (i := 1) rfl
  have i2 := cell_blk HB73.out (i := 2) rfl
  have i3 := cell_blk HB73.out (i := 3) rfl
  have i4 := cell_blk HB73.out (i := 4) rfl
  have hCI := lentC (Kd.R_reads' HI33.out)
  have hHI := (Kd.R_reads' HI43.out).2.2
  have hhl := (Kd.R_reads' HI43.out).2.1
  have hg1 := graph_build (nm := nm) (pa := pa) (lo := lo) (code := code) (hs := hs) HN.out (by have := HHN.out; omega) hCI.1 hCI.2 hHI hhl
  clear hCI hHI hhl
  go_wp2_with (fail)
  refine hg1.mono ?_
  rintro e w4 ⟨v4, st4, nx4, ord4, l4, hd4, rfl, hz4, hh4, hb4⟩
  obtain ⟨e1, e2, e3, e4, e5⟩ := hz4.uniq HZ1.out
  subst e1 e2 e3 e4 e5
  obtain ⟨s0, s1, s2, s3, s4, n0, n1, n2, n3, n4, ev4, _⟩ := id hh4.now
  subst ev4
  rw [HE1.out]
  have HRB := Aside0.mk hh4.now
  have HB4 := Aside0.mk hb4
  clear hz4 hh4 hb4 hg1 i0 i1 i2 i3 i4
  go_upto_region 5 with (fail)
  have hb := below_alloc (Below.refl _ w4) (.cells #[.slice s0 st.length n0, .slice s1 nx.length n1, .slice s2 ord.length n2, .slice s3 l.length n3, .slice s4 hd.length n4] 29)
  have HB34 := Aside0.mk (show Below W3.heap.size W3 (w4.alloc (.cells #[.slice s0 st.length n0, .slice s1 nx.length n1, .slice s2 ord.length n2, .slice s3 l.length n3, .slice s4 hd.length n4] 29)) from HB4.out.trans (hb.mono HB4.out.size))
  have HS5 : Aside0 (S5 w (w4.alloc (.cells #[.slice s0 st.length n0, .slice s1 nx.length n1, .slice s2 ord.length n2, .slice s3 l.length n3, .slice s4 hd.length n4] 29)) cf co G5 G7 G8 w4.heap.size W1.heap.size #[.slice a0 st.length k0, .slice a1 nx.length k1, .slice a2 ord.length k2, .slice a3 l.length k3, .slice a4 hd.length k4] #[.string nm, .int .i64 pa, .int .i64 lo, .slice B3 code.length d3, .slice B4 hs.length d4] #[.slice b0 st.length m0, .slice b1 nx.length m1, .slice b2 ord.length m2, .slice b3 l.length m3, .slice b4 hd.length m4] #[.slice s0 st.length n0, .slice s1 nx.length n1, .slice s2 ord.length n2, .slice s3 l.length n3, .slice s4 hd.length n4] st nx ord l hd code hs B3 d3 B4 d4) := ⟨by
    have hb34 := HB4.out.trans (hb.mono HB4.out.size)
    have hb24 := HB23.out.trans (hb34.mono HB23.out.size)
    refine ⟨HL2.out.from_ hb24, blk_below HB52.out hb24, blk_below HB7.out hb24, blk_below HB8.out hb34, World.alloc_heap_new w4 _, HR2.out.below hb24, ?_, HRB.out.below hb, Kd.R_below HI32.out hb24, Kd.R_below HI42.out hb24⟩
    exact (HHA.out.now.below (HB33'.out)).below hb34⟩
  have HHAZ : Aside0 (Held W2 (w4.alloc (.cells #[.slice s0 st.length n0, .slice s1 nx.length n1, .slice s2 ord.length n2, .slice s3 l.length n3, .slice s4 hd.length n4] 29)) (.agg #[.slice b0 st.length m0, .slice b1 nx.length m1, .slice b2 ord.length m2, .slice b3 l.length m3, .slice b4 hd.length m4]) st nx ord l hd) := ⟨HHA.out.from_ HB3.out.size (HB33'.out.trans ((HB4.out.trans (hb.mono HB4.out.size)).mono HB33'.out.size))⟩
  have HB14 : Aside0 (Below W1.heap.size W1 (w4.alloc (.cells #[.slice s0 st.length n0, .slice s1 nx.length n1, .slice s2 ord.length n2, .slice s3 l.length n3, .slice s4 hd.length n4] 29))) := ⟨HB12.out.trans ((HB23.out.trans ((HB4.out.trans (hb.mono HB4.out.size)).mono HB23.out.size)).mono HB12.out.size)⟩
  clear hb HB4 HRB HHA HB33 HB33' HB23 HB73 HI33 HI43 HL2 HR2 HB52 HB7 HB8 HI32 HI42 HB12 HB3 HG8
  have HB24 : Aside0 (W2.heap.size ≤ (w4.alloc (.cells #[.slice s0 st.length n0, .slice s1 nx.length n1, .slice s2 ord.length n2, .slice s3 l.length n3, .slice s4 hd.length n4] 29)).heap.size) := ⟨by have := HB34.out.size; have := HSZ3.out; omega⟩
  have HORD : Aside0 (G7 < W2.heap.size ∧ W2.heap.size ≤ G8) := ⟨by have := HSZ2.out; have := HSZ3.out; omega⟩
  revert HB24
  revert HB34
  revert HS5
  revert HHAZ
  revert HB14
  generalize w4.alloc (.cells #[.slice s0 st.length n0, .slice s1 nx.length n1, .slice s2 ord.length n2, .slice s3 l.length n3, .slice s4 hd.length n4] 29) = W4
  generalize w4.heap.size = G10
  intro HB14 HHA HS5 HB34 HB24
  have hE : (E1 == E1) = true := beq_self_eq_true _
  have hE' : (E1 != E1) = false := by simp
  go_wp2_with (fail)
  refine (portagekit_Num.calls E1 E1 _ rfl).mono ?_
  rintro e u1 ⟨rfl, hdq⟩
  have HS1' := Aside0.mk (HS5.out.from_ hdq.below)
  have HB41 := Aside0.mk hdq.below
  clear hdq HS5
  go_wp2_with (fail)
  refine (portagekit_Num.calls E1 E1 _ rfl).mono ?_
  rintro e u2 ⟨rfl, hdq⟩
  have HS2 := Aside0.mk (HS1'.out.from_ hdq.below)
  have HB42 := Aside0.mk (HB41.out.trans (hdq.below.mono HB41.out.size))
  clear hdq HS1' HB41
  have x0 := cell_blk HS2.out.b8 (i := 0) rfl
  have x1 := cell_blk HS2.out.b8 (i := 1) rfl
  have x2 := cell_blk HS2.out.b8 (i := 2) rfl
  have x3 := cell_blk HS2.out.b8 (i := 3) rfl
  have x4 := cell_blk HS2.out.b8 (i := 4) rfl
  have y0 := cell_blk HS2.out.b5 (i := 0) rfl
  have y1 := cell_blk HS2.out.b5 (i := 1) rfl
  have y2 := cell_blk HS2.out.b5 (i := 2) rfl
  have y3 := cell_blk HS2.out.b5 (i := 3) rfl
  have y4 := cell_blk HS2.out.b5 (i := 4) rfl
  go_wp2_with (fail)
  refine (same_graph HS2.out.ra HS2.out.rw_ HS1.out).mono ?_
  rintro e u3 ⟨rfl, hbq⟩
  have HS3 := Aside0.mk (HS2.out.from_ hbq)
  have HB43 := Aside0.mk (HB42.out.trans (hbq.mono HB42.out.size))
  clear hbq HS2 HB42 x0 x1 x2 x3 x4 y0 y1 y2 y3 y4
  have x0 := cell_blk HS3.out.b10 (i := 0) rfl
  have x1 := cell_blk HS3.out.b10 (i := 1) rfl
  have x2 := cell_blk HS3.out.b10 (i := 2) rfl
  have x3 := cell_blk HS3.out.b10 (i := 3) rfl
  have x4 := cell_blk HS3.out.b10 (i := 4) rfl
  have y0 := cell_blk HS3.out.b5 (i := 0) rfl
  have y1 := cell_blk HS3.out.b5 (i := 1) rfl
  have y2 := cell_blk HS3.out.b5 (i := 2) rfl
  have y3 := cell_blk HS3.out.b5 (i := 3) rfl
  have y4 := cell_blk HS3.out.b5 (i := 4) rfl
  go_wp2_with (fail)
  refine (same_graph HS3.out.rb HS3.out.rw_ HS1.out).mono ?_
  rintro e u4 ⟨rfl, hbq⟩
  have HS4 := Aside0.mk (HS3.out.from_ hbq)
  have HB44 := Aside0.mk (HB43.out.trans (hbq.mono HB43.out.size))
  clear hbq HS3 HB43 x0 x1 x2 x3 x4 y0 y1 y2 y3 y4
  have i0 := cell_blk HS4.out.b7 (i := 0) rfl
  have i1 := cell_blk HS4.out.b7 (i := 1) rfl
  have i2 := cell_blk HS4.out.b7 (i := 2) rfl
  have i3 := cell_blk HS4.out.b7 (i := 3) rfl
  have i4 := cell_blk HS4.out.b7 (i := 4) rfl
  have f0 := cell_blk HS4.out.lw.fb HKF.out.1
  have f1 := cell_blk HS4.out.lw.fb HKF.out.2.1
  have f2 := cell_blk HS4.out.lw.fb HKF.out.2.2.1
  have f3 := cell_blk HS4.out.lw.fb HKF.out.2.2.2.1
  have f4 := cell_blk HS4.out.lw.fb HKF.out.2.2.2.2
  go_wp2_with (fail)
  refine (kept_own HN.out HHN.out (Kd.R_reads' HS4.out.ri).2.2 (Kd.R_reads' HS4.out.ri).2.1 (Kd.R_reads' HS4.out.rh).2.2 (Kd.C_below HC.out HS4.out.lw.below) (Kd.C_below HH.out HS4.out.lw.below)).mono ?_
  rintro e W5 ⟨rfl, hbq⟩
  have HS5 := Aside0.mk (HS4.out.from_ hbq)
  have HB45 := Aside0.mk (HB44.out.trans (hbq.mono HB44.out.size))
  have HHA5 := Aside0.mk (HHA.out.from_ HB24.out HB45.out)
  have HB15 := Aside0.mk (HB14.out.trans (HB45.out.mono HB14.out.size))
  have HSZ45 := Aside0.mk HB45.out.size
  clear hbq HS4 HB44 HB45 HB14 HHA i0 i1 i2 i3 i4 f0 f1 f2 f3 f4 hE hE'
  have hfl := fullI_len code
  obtain ⟨g, cap, eB3, _⟩ := Kd.R_form HS5.out.ri (by omega)
  injection eB3 with eB3 _ ecap
  subst eB3
  have HGLT : Aside0 (g < W2.heap.size) := ⟨by have := HGL.out g rfl; have := HORD.out; omega⟩
  have HBG7 : Aside0 (g < G7) := ⟨HGL.out g rfl⟩
  have HRH5 : Aside0 (k49.R 49 W5 W1.heap.size (fun k => k ≠ g ∧ k < W5.heap.size) (.slice B4 hs.length d4) hs) := ⟨by
    obtain ⟨cells, hcl⟩ := Kd.R_typed HS5.out.ri g rfl
    exact Kd.R_mono (Kd.R_bound (Kd.R_types HS5.out.rh hcl (by decide))) (fun k hk => ⟨hk.1.2, hk.2.2.1⟩)⟩
  have hri5 := HS5.out.ri
  rw [hfl] at hri5
  have HRI5 := Aside0.mk hri5
  have HXL : Aside0 ((fullI code).length = code.length + 64) := ⟨hfl⟩
  clear hri5 hfl ecap cap
  go_wp2_with (fail)
  go_loopw [12] (fun v wr => ∃ (k : Nat) (xs : List S40), k ≤ code.length ∧ v = .int .i64 (k : Int) ∧ xs.length = code.length + 64 ∧ k40.R 40 wr W1.heap.size (fun _ => True) (.slice (some ⟨g, 0, none⟩) (code.length + 64) d3) xs ∧ Below W1.heap.size W1 wr ∧ Range.KBut W5.heap.size g W5 wr) (fun v _ => ((code.length : Int) - intOf v).toNat)
  case atStart => exact ⟨0, _, Nat.zero_le _, rfl, HXL.out, HRI5.out, HB15.out, Range.KBut.refl _ _ _⟩
  case round =>
    obtain ⟨k, xs, hk, rfl, hxl, hR, hB, hK⟩ := hrel
    have HR := Aside0.mk hR
    have HBW := Aside0.mk hB
    have HKB := Aside0.mk hK
    have HXS := Aside0.mk hxl
    have hkm : k < 9223372036854775807 := by have := HN.out; omega
    have i3 := cell_blk (hK.blk HS5.out.b7 (blk_lt HS5.out.b7) (by have := HBG7.out; omega)) (i := 3) rfl
    by_cases hkl : k < code.length
    · have hkl' : (k : Int) < (code.length : Int) := by omega
      have hk0 : (0 : Int) ≤ (k : Int) := by omega
      have HKL := Aside0.mk hkl
      have hC := (Kd.R_reads' hR).2.2
      obtain ⟨ad, ha, q0, q1⟩ := at_T40 hC (k : Int) (by omega) (by omega)
      cases ha
      rw [Int.toNat_natCast] at q0 q1
      have eA : ((⟨g, 0, none⟩ : Addr).add (k * 2)) = ⟨g, k * 2, none⟩ := by by_cases h0 : k * 2 = 0 <;> simp [Addr.add, h0]
      rw [eA] at q0 q1
      obtain ⟨x, hx⟩ : ∃ x, rd_T40 xs (k : Int) = x := ⟨_, rfl⟩
      rw [hx] at q0 q1
      obtain ⟨cells, hcl⟩ := Kd.R_typed hR g rfl
      have z0 : wr.frozen? ⟨g, k * 2, none⟩ = false := by simp [World.frozen?, hcl]
      have z1 : wr.frozen? ⟨g, k * 2 + 1, none⟩ = false := by simp [World.frozen?, hcl]
      clear hk hkl hxl hR hB hK hC hx eA hcl
      go_upto_region 11 with (fail)
      obtain ⟨sR, sB, sK⟩ := step40 HR.out HBW.out HKB.out k (by have := HKL.out; omega) z40
      have HR1 := Aside0.mk sR
      have HBW1 := Aside0.mk sB
      have HKB1 := Aside0.mk sK
      have HXS1 : Aside0 ((xs.set k z40).length = code.length + 64) := ⟨by rw [List.length_set]; exact HXS.out⟩
      clear sR sB sK q0 q1 z0 z1 i3 HR HBW HKB HXS
      revert HR1
      revert HBW1
      revert HKB1
      revert HXS1
      generalize xs.set k z40 = ys
      rw [show (z40.f0 : Int) = 0 from rfl, show (z40.f1 : Int) = 0 from rfl]
      generalize (wr.setCell ⟨g, k * 2, none⟩ (.int .i64 0)).setCell ⟨g, k * 2 + 1, none⟩ (.int .i64 0) = Z
      intro HXS1 HKB1 HBW1 HR1
      have HLZ := Aside0.mk (HL1.out.from_ HBW1.out)
      have o3 := cell_blk HLZ.out.ob HKO.out
      by_cases hk2 : k < code2.length
      · have hk2' : (k : Int) < (code2.length : Int) := by omega
        obtain ⟨ad2, ea2, p0, p1⟩ := at_T40 (Kd.C_below HO.out HLZ.out.below) (k : Int) hk0 hk2'
        subst ea2
        rw [Int.toNat_natCast] at p0 p1
        obtain ⟨y, hy⟩ : ∃ y, rd_T40 code2 (k : Int) = y := ⟨_, rfl⟩
        rw [hy] at p0 p1
        clear hy hk2
        have HP := Aside0.mk (And.intro p0 p1)
        have HK7 := Aside0.mk (show Z.heap[G7]? = some (.cells #[.string nm, .int .i64 pa, .int .i64 lo, .slice (some ⟨g, 0, none⟩) code.length d3, .slice B4 hs.length d4] 25 (0, 0)) from HKB1.out.blk HS5.out.b7 (blk_lt HS5.out.b7) (by have := HBG7.out; omega))
        have HO3 := Aside0.mk o3
        clear p0 p1
        go_wp2_with (fail)
        clear o3
        rename_i hK
        refine RegInv.region_facts_p (by kernel_rfl) (by kernel_rfl) (fun a b => Below a.heap.size a b) (fun a b => Below a.heap.size a b) (fun a b c h k => h.trans (k.mono h.size)) (fun a b h => h) (fun a b c h k => h.trans (k.mono h.size)) (below_drew1 (Below.refl _ _)) dS12 9 99 (by rfl) (by kernel_rfl) (by kernel_rfl) (by kernel_rfl) (FS12 G7 g k code.length d3 (w.heap.size + 1) code2.length e3 ad2 y) (FS12_below G7 g k code.length d3 (w.heap.size + 1) code2.length e3 ad2 y) (fun iA wA wB vA _ h hb => FS12_below G7 g k code.length d3 (w.heap.size + 1) code2.length e3 ad2 y iA wA wB vA h hb) ?hsS12 ?heS12
        case hsS12 =>
          clear hK
          intro i o aX w8 hltI hi hM
          have hExt := hM.ext
          have i3 := cell_blk (blk_below HK7.out hExt) (i := 3) rfl
          have o3 := pw_cell_below hExt HO3.out
          have p0 := pw_cell_below hExt HP.out.1
          have p1 := pw_cell_below hExt HP.out.2
          rcases i with _ | _ | _ | _ | _ | _ | _ | _ | _ | i
          · cases hi
            have h7 := gdq _ _ _ (show aX.tmps.getD 7 undef = .pointer (some ⟨G7, 0, none⟩) from hM.off 7 (by kernel_rfl))
            refine RegInv.op_value (by rfl) rfl (v := .pointer (some ⟨G7, 3, none⟩)) (w' := w8) ?_ ⟨_, rfl, rfl, Below.refl _ _, fun _ => Below.refl _ _⟩
            unfold execOp
            go_simp
          · cases hi
            have h78 := gdq _ _ _ (show aX.tmps.getD 78 undef = .pointer (some ⟨G7, 3, none⟩) from hM.at_ 0 (by decide) (by kernel_rfl))
            refine RegInv.op_value (by rfl) rfl (v := .slice (some ⟨g, 0, none⟩) code.length d3) (w' := w8) ?_ ⟨_, rfl, rfl, Below.refl _ _, fun _ => Below.refl _ _⟩
            unfold execOp
            go_simp
          · cases hi
            have h12 := gdq _ _ _ (show aX.tmps.getD 12 undef = .int .i64 (k : Int) from hM.off 12 (by kernel_rfl))
            refine RegInv.op_value (by rfl) rfl (v := .int .i64 (k : Int)) (w' := w8) ?_ ⟨_, rfl, rfl, Below.refl _ _, fun _ => Below.refl _ _⟩
            unfold execOp
            go_simp
          · cases hi
            have h3 := gdq _ _ _ (show aX.tmps.getD 3 undef = .pointer (some ⟨w.heap.size + 1, 0, none⟩) from hM.off 3 (by kernel_rfl))
            refine RegInv.op_value (by rfl) rfl (v := .pointer (some ⟨w.heap.size + 1, 3, none⟩)) (w' := w8) ?_ ⟨_, rfl, rfl, Below.refl _ _, fun _ => Below.refl _ _⟩
            unfold execOp
            go_simp
          · cases hi
            have h81 := gdq _ _ _ (show aX.tmps.getD 81 undef = .pointer (some ⟨w.heap.size + 1, 3, none⟩) from hM.at_ 3 (by decide) (by kernel_rfl))
            refine RegInv.op_value (by rfl) rfl (v := .slice (some ad2) code2.length e3) (w' := w8) ?_ ⟨_, rfl, rfl, Below.refl _ _, fun _ => Below.refl _ _⟩
            unfold execOp
            go_simp
          · cases hi
            have h12 := gdq _ _ _ (show aX.tmps.getD 12 undef = .int .i64 (k : Int) from hM.off 12 (by kernel_rfl))
            refine RegInv.op_value (by rfl) rfl (v := .int .i64 (k : Int)) (w' := w8) ?_ ⟨_, rfl, rfl, Below.refl _ _, fun _ => Below.refl _ _⟩
            unfold execOp
            go_simp
          · cases hi
            have h82 := gdq _ _ _ (show aX.tmps.getD 82 undef = .slice (some ad2) code2.length e3 from hM.at_ 4 (by decide) (by kernel_rfl))
            have h83 := gdq _ _ _ (show aX.tmps.getD 83 undef = .int .i64 (k : Int) from hM.at_ 5 (by decide) (by kernel_rfl))
            refine RegInv.op_value (by rfl) rfl (v := .pointer (some (ad2.add (k * 2)))) (w' := w8) ?_ ⟨_, rfl, rfl, Below.refl _ _, fun _ => Below.refl _ _⟩
            unfold execOp
            go_simp
          · cases hi
            have h84 := gdq _ _ _ (show aX.tmps.getD 84 undef = .pointer (some (ad2.add (k * 2))) from hM.at_ 6 (by decide) (by kernel_rfl))
            refine RegInv.op_value (by rfl) rfl (v := .agg #[.int .i64 y.f0, .int .i64 y.f1]) (w' := w8) ?_ ⟨_, rfl, rfl, Below.refl _ _, fun _ => Below.refl _ _⟩
            unfold execOp
            go_simp
          · cases hi
            have h79 := gdq _ _ _ (show aX.tmps.getD 79 undef = .slice (some ⟨g, 0, none⟩) code.length d3 from hM.at_ 1 (by decide) (by kernel_rfl))
            have h80 := gdq _ _ _ (show aX.tmps.getD 80 undef = .int .i64 (k : Int) from hM.at_ 2 (by decide) (by kernel_rfl))
            refine RegInv.op_value (by rfl) rfl (v := .pointer (some ⟨g, k * 2, none⟩)) (w' := w8) ?_ ⟨_, rfl, rfl, Below.refl _ _, fun _ => Below.refl _ _⟩
            unfold execOp
            go_simp
          · exact absurd hltI (by omega)
        case heS12 =>
          intro vs w8 hExt hvs
          have v0 : vs 0 = .pointer (some ⟨G7, 3, none⟩) := hvs 0 (by decide)
          have v1 : vs 1 = .slice (some ⟨g, 0, none⟩) code.length d3 := hvs 1 (by decide)
          have v2 : vs 2 = .int .i64 (k : Int) := hvs 2 (by decide)
          have v3 : vs 3 = .pointer (some ⟨w.heap.size + 1, 3, none⟩) := hvs 3 (by decide)
          have v4 : vs 4 = .slice (some ad2) code2.length e3 := hvs 4 (by decide)
          have v5 : vs 5 = .int .i64 (k : Int) := hvs 5 (by decide)
          have v6 : vs 6 = .pointer (some (ad2.add (k * 2))) := hvs 6 (by decide)
          have v7 : vs 7 = .agg #[.int .i64 y.f0, .int .i64 y.f1] := hvs 7 (by decide)
          have v8 : vs 8 = .pointer (some ⟨g, k * 2, none⟩) := hvs 8 (by decide)
          simp only [RegInv.puts, dS12, Act.put, List.range, List.range.loop, List.setIfInBounds_toArray, List.set_cons_zero, List.set_cons_succ, v0, v1, v2, v3, v4, v5, v6, v7, v8]
          clear hvs v0 v1 v2 v3 v4 v5 v6 v7 v8
          obtain ⟨ad, ha, q0, q1⟩ := at_T40 (Kd.R_reads' (Kd.R_below HR1.out hExt)).2.2 (k : Int) (by omega) (by have := HXS1.out; have := HKL.out; omega)
          cases ha
          rw [Int.toNat_natCast] at q0 q1
          have eA : ((⟨g, 0, none⟩ : Addr).add (k * 2)) = ⟨g, k * 2, none⟩ := by by_cases h0 : k * 2 = 0 <;> simp [Addr.add, h0]
          rw [eA] at q0 q1
          obtain ⟨x9, hx9⟩ : ∃ x, rd_T40 ys (k : Int) = x := ⟨_, rfl⟩
          rw [hx9] at q0 q1
          obtain ⟨cells, hcl⟩ := Kd.R_typed (Kd.R_below HR1.out hExt) g rfl
          have z0 : w8.frozen? ⟨g, k * 2, none⟩ = false := by simp [World.frozen?, hcl]
          have z1 : w8.frozen? ⟨g, k * 2 + 1, none⟩ = false := by simp [World.frozen?, hcl]
          obtain ⟨sR, sB, sK⟩ := step40 (Kd.R_below HR1.out hExt) (HBW1.out.trans (hExt.mono HBW1.out.size)) (HKB1.out.trans (Range.KBut.of_below (hExt.mono HKB1.out.1))) k (by have := HKL.out; omega) y
          have HR2 := Aside0.mk sR
          have HBW2 := Aside0.mk sB
          have HKB2 := Aside0.mk sK
          have HXS2 : Aside0 ((ys.set k y).length = code.length + 64) := ⟨by rw [List.length_set]; exact HXS1.out⟩
          clear sR sB sK hx9 hcl eA
          refine RegInv.op_skip (w' := (w8.setCell ⟨g, k * 2, none⟩ (.int .i64 y.f0)).setCell ⟨g, k * 2 + 1, none⟩ (.int .i64 y.f1)) (by rfl) rfl ?_ ?_
          · unfold execOp
            go_simp
          · refine hK _ _ ?_
            (try simp only [Act.put, List.getElem_toArray, List.getElem_cons_succ, List.getElem_cons_zero])
            clear hK hExt q0 q1 z0 z1 HR1 HBW1 HKB1 HXS1
            go_wp2_with (fail)
            go_roundw
            case measure => simp [intOf]; omega
            case rel => exact ⟨k + 1, _, HKL.out, by first | rfl | go_num, HXS2.out, HR2.out, HBW2.out, HKB2.out⟩
      · have hk2' : (code2.length : Int) ≤ (k : Int) := by omega
        clear hk2
        go_wp2_with (fail)
        go_roundw
        case measure => simp [intOf]; omega
        case rel => exact ⟨k + 1, _, HKL.out, by first | rfl | go_num, HXS1.out, HR1.out, HBW1.out, HKB1.out⟩
    · have hkk : code.length = k := by omega
      have hkl' : (code.length : Int) ≤ (k : Int) := by omega
      clear hk hkl hR hB hK hxl hkk
      have hb7 := HKB.out.blk HS5.out.b7 (blk_lt HS5.out.b7) (by have := HBG7.out; omega)
      have i0 := cell_blk hb7 (i := 0) rfl
      have i1 := cell_blk hb7 (i := 1) rfl
      have i2 := cell_blk hb7 (i := 2) rfl
      have i3 := cell_blk hb7 (i := 3) rfl
      have i4 := cell_blk hb7 (i := 4) rfl
      obtain ⟨code', hc'⟩ : ∃ c, xs.take code.length = c := ⟨_, rfl⟩
      have hl' : code'.length = code.length := by rw [← hc', List.length_take, HXS.out]; omega
      have hCI : k40.C wr (some ⟨g, 0, none⟩) code'.length code' := by
        have := Kd.C_take (m := code.length) (Kd.R_reads' HR.out).2.2 (by have := HXS.out; omega)
        rw [hc'] at this
        exact this
      have hcap : code'.length ≤ d3 := by have := (Kd.R_reads' HR.out).2.1; omega
      have HRH := Aside0.mk (Kd.R_move HRH5.out (fun k hk => HKB.out.2 k hk.2 hk.1))
      have hcp := copy_own (nm := nm) (pa := pa) (lo := lo) (code := code') (hs := hs) (by have := HN.out; omega) HHN.out hCI hcap (Kd.R_reads' HRH.out).2.2 (Kd.R_reads' HRH.out).2.1
      rw [hl'] at hcp
      have HCI := Aside0.mk hCI
      have HCAP := Aside0.mk hcap
      have HL' := Aside0.mk hl'
      have HB7r := Aside0.mk hb7
      have HGA : Aside0 (∀ W, Below wr.heap.size wr W → GR W (.agg #[.slice b0 st.length m0, .slice b1 nx.length m1, .slice b2 ord.length m2, .slice b3 l.length m3, .slice b4 hd.length m4]) st nx ord l hd) := ⟨fun W hb => HHA5.out W (Nat.le_trans HKB.out.1 hb.size) fun k o h1 h2 h3 => by
        have hk := blk_lt h2
        have hne : k ≠ g := by have := HGLT.out; omega
        have h4 := (HKB.out.2 k hk hne).trans h2
        exact (hb.block k (blk_lt h4)).trans h4⟩
      have HB8r := Aside0.mk (HKB.out.blk HS5.out.b8 (blk_lt HS5.out.b8) (by have := HGLT.out; have := HORD.out; omega))
      clear hCI hcap hl' hb7 hc' HR HKB HXS i3 hkm HRI5 HRH5
      go_wp2_with (fail)
      refine hcp.mono ?_
      rintro e w6 ⟨C3, C4, f3, f4, rfl, hq3, hq4, hb6⟩
      have hrb := ref_build (nm := nm) (pa := pa) (lo := lo) (code := code') (hs := hs) (w := w6) (A3 := C3) (A4 := C4) (c3 := f3) (c4 := f4) (by have := HN.out; have := HL'.out; omega) (by have := HHN.out; omega) (Kd.R_reads' hq3).2.2 (by have := (Kd.R_reads' hq3).2.1; have := HL'.out; omega) (Kd.R_reads' hq4).2.2 (Kd.R_reads' hq4).2.1
      rw [HL'.out] at hrb
      have HB6 := Aside0.mk hb6
      clear hcp hq3 hq4 hb6 i0 i1 i2 i3 i4
      go_wp2_with (fail)
      refine hrb.mono ?_
      rintro e w7 ⟨v7, st', nx', ord', l', hd', rfl, hz7, hr7, hb7⟩
      obtain ⟨t0, t1, t2, t3, t4, y0, y1, y2, y3, y4, ev7, _⟩ := id hr7
      subst ev7
      obtain ⟨E2, hE2⟩ : ∃ E2, errOf code' hs = E2 := ⟨_, rfl⟩
      rw [hE2]
      have HE2 := Aside0.mk hE2
      have HZ7 := Aside0.mk hz7
      have HS7 := Aside0.mk (hz7.small (by have := HN.out; have := HL'.out; omega))
      have HR7 := Aside0.mk hr7
      have HB67 := Aside0.mk (HB6.out.trans (hb7.mono HB6.out.size))
      clear hrb hE2 hz7 hr7 hb7 HB6
      go_upto_region 14 with (fail)
      have hb := below_alloc (Below.refl _ w7) (.cells #[.slice t0 st'.length y0, .slice t1 nx'.length y1, .slice t2 ord'.length y2, .slice t3 l'.length y3, .slice t4 hd'.length y4] 29)
      have HB13 := Aside0.mk (World.alloc_heap_new w7 (.cells #[.slice t0 st'.length y0, .slice t1 nx'.length y1, .slice t2 ord'.length y2, .slice t3 l'.length y3, .slice t4 hd'.length y4] 29))
      have HR8 := Aside0.mk (HR7.out.below hb)
      have HBr8 := Aside0.mk (HB67.out.trans (hb.mono HB67.out.size))
      clear hb HR7 HB67
      revert HB13
      revert HR8
      revert HBr8
      generalize w7.alloc (.cells #[.slice t0 st'.length y0, .slice t1 nx'.length y1, .slice t2 ord'.length y2, .slice t3 l'.length y3, .slice t4 hd'.length y4] 29) = W7
      generalize w7.heap.size = G13
      intro HBr8 HR8 HB13
      have hb7' := blk_below HB7r.out HBr8.out
      have i0 := cell_blk hb7' (i := 0) rfl
      have i1 := cell_blk hb7' (i := 1) rfl
      have i2 := cell_blk hb7' (i := 2) rfl
      have i3 := cell_blk hb7' (i := 3) rfl
      have i4 := cell_blk hb7' (i := 4) rfl
      have hrh := Kd.R_below HRH.out (show Below wr.heap.size wr W7 from HBr8.out)
      have hg1 := graph_build (nm := nm) (pa := pa) (lo := lo) (code := code') (hs := hs) (by have := HN.out; have := HL'.out; omega) (by have := HHN.out; omega) (Kd.C_below HCI.out HBr8.out) HCAP.out (Kd.R_reads' hrh).2.2 (Kd.R_reads' hrh).2.1
      rw [HL'.out] at hg1
      clear hb7' hrh
      go_wp2_with (fail)
      refine hg1.mono ?_
      rintro e w8 ⟨v8, st8, nx8, ord8, l8, hd8, rfl, hz8, hh8, hb8⟩
      obtain ⟨e1, e2, e3', e4', e5⟩ := hz8.uniq HZ7.out
      subst e1 e2 e3' e4' e5
      obtain ⟨u0, u1, u2, u3, u4, j0, j1, j2, j3, j4, ev8, _⟩ := id hh8.now
      subst ev8
      rw [HE2.out]
      have HRC := Aside0.mk hh8.now
      have HB8 := Aside0.mk hb8
      clear hz8 hh8 hb8 hg1 i0 i1 i2 i3 i4
      go_upto_region 15 with (fail)
      have hb := below_alloc (Below.refl _ w8) (.cells #[.slice u0 st'.length j0, .slice u1 nx'.length j1, .slice u2 ord'.length j2, .slice u3 l'.length j3, .slice u4 hd'.length j4] 29)
      have HB15' := Aside0.mk (World.alloc_heap_new w8 (.cells #[.slice u0 st'.length j0, .slice u1 nx'.length j1, .slice u2 ord'.length j2, .slice u3 l'.length j3, .slice u4 hd'.length j4] 29))
      have HBr9 : Aside0 (Below wr.heap.size wr (w8.alloc (.cells #[.slice u0 st'.length j0, .slice u1 nx'.length j1, .slice u2 ord'.length j2, .slice u3 l'.length j3, .slice u4 hd'.length j4] 29))) := ⟨HBr8.out.trans ((HB8.out.trans (hb.mono HB8.out.size)).mono HBr8.out.size)⟩
      have HB139 := Aside0.mk (blk_below (blk_below HB13.out HB8.out) hb)
      have HR9 := Aside0.mk ((HR8.out.below HB8.out).below hb)
      have HRC9 := Aside0.mk (HRC.out.below hb)
      clear hb HB8 HRC HR8 HB13 HBr8
      revert HB15'
      revert HBr9
      revert HB139
      revert HR9
      revert HRC9
      generalize w8.alloc (.cells #[.slice u0 st'.length j0, .slice u1 nx'.length j1, .slice u2 ord'.length j2, .slice u3 l'.length j3, .slice u4 hd'.length j4] 29) = W9
      generalize w8.heap.size = G15
      intro HRC9 HR9 HB139 HBr9 HB15'
      have hE : (E2 == E2) = true := beq_self_eq_true _
      go_wp2_with (fail)
      refine (portagekit_Num.calls E2 E2 _ rfl).mono ?_
      rintro e q1 ⟨rfl, hdq⟩
      have HBq : Aside0 (Below W9.heap.size W9 q1) := ⟨hdq.below⟩
      have hx := blk_below HB15'.out hdq.below
      have hy := blk_below HB139.out hdq.below
      have x0 := cell_blk hx (i := 0) rfl
      have x1 := cell_blk hx (i := 1) rfl
      have x2 := cell_blk hx (i := 2) rfl
      have x3 := cell_blk hx (i := 3) rfl
      have x4 := cell_blk hx (i := 4) rfl
      have z0 := cell_blk hy (i := 0) rfl
      have z1 := cell_blk hy (i := 1) rfl
      have z2 := cell_blk hy (i := 2) rfl
      have z3 := cell_blk hy (i := 3) rfl
      have z4 := cell_blk hy (i := 4) rfl
      clear hx hy hdq
      go_wp2_with (fail)
      refine (same_graph (HRC9.out.below HBq.out) (HR9.out.below HBq.out) HS7.out).mono ?_
      rintro e q2 ⟨rfl, hbq⟩
      have HBq2 : Aside0 (Below wr.heap.size wr q2) := ⟨HBr9.out.trans ((HBq.out.trans (hbq.mono HBq.out.size)).mono HBr9.out.size)⟩
      have HB1q := Aside0.mk (HBW.out.trans (HBq2.out.mono HBW.out.size))
      have hx := blk_below HB8r.out HBq2.out
      have hy := blk_below HB5.out HB1q.out
      clear hbq x0 x1 x2 x3 x4 z0 z1 z2 z3 z4
      have x0 := cell_blk hx (i := 0) rfl
      have x1 := cell_blk hx (i := 1) rfl
      have x2 := cell_blk hx (i := 2) rfl
      have x3 := cell_blk hx (i := 3) rfl
      have x4 := cell_blk hx (i := 4) rfl
      have z0 := cell_blk hy (i := 0) rfl
      have z1 := cell_blk hy (i := 1) rfl
      have z2 := cell_blk hy (i := 2) rfl
      have z3 := cell_blk hy (i := 3) rfl
      have z4 := cell_blk hy (i := 4) rfl
      clear hx hy
      go_wp2_with (fail)
      refine (same_graph (HGA.out _ HBq2.out) (HR1.out.below HB1q.out) HS1.out).mono ?_
      rintro e q3 ⟨rfl, hbq⟩
      have HF : Aside0 (Below w.heap.size w q3) := ⟨HL1.out.below.trans ((HB1q.out.trans (hbq.mono HB1q.out.size)).mono HL1.out.below.size)⟩
      clear hbq x0 x1 x2 x3 x4 z0 z1 z2 z3 z4
      go_wp2_with (fail)
      go_ret
      exact ⟨rfl, HF.out⟩
end Go.Proofs.Ytmeaepmimnmjlaa.Ask
/- The same as Open, by the bulk of what is read: for the statements whose inputs are of a bulk of at most 1048576. -/
namespace Go.Proofs.Ytmeaepmimnmjlaa.OpenUpto
open Go.RowKit Go.Proofs.YtmeaepmimnmjlaaW.PrintWords
set_option linter.unusedVariables false
set_option linter.unusedSimpArgs false

/-- what is read is of a bulk of at most 1048576 -/
def few {H : Type} (d : DataW H) : Prop := Rows.uptoBulk d ≤ 1048576
theorem one_le {H : Type} (d : DataW H) : 1 ≤ Rows.uptoBulk d := by
  cases d with
  | lit l => cases l <;> simp [Rows.uptoBulk]
  | nil => simp [Rows.uptoBulk]
  | ptr d => simp [Rows.uptoBulk]
  | slice elems spare => simp [Rows.uptoBulk]
  | agg parts => simp [Rows.uptoBulk]
  | iface t d => simp [Rows.uptoBulk]
  | map entries => simp [Rows.uptoBulk]
  | held h => simp [Rows.uptoBulk]
theorem part_le {H : Type} {d : DataW H} {l : List (DataW H)} (h : d ∈ l) : Rows.uptoBulk d ≤ Rows.uptoBulkAll l := by
  induction l with
  | nil => cases h
  | cons x r ih =>
    simp only [Rows.uptoBulkAll]
    cases List.mem_cons.1 h with
    | inl e => subst e; omega
    | inr e => have := ih e; omega
theorem length_le {H : Type} (l : List (DataW H)) : l.length ≤ Rows.uptoBulkAll l := by
  induction l with
  | nil => simp [Rows.uptoBulkAll]
  | cons x r ih => have := one_le x; simp only [Rows.uptoBulkAll, List.length_cons]; omega

/-- What reads as data of type t is a value of kind d of which Q holds. -/
def Opens {α : Type} (d : Kd α) (P : Program) (t : TypeId) (Q : α → Prop) : Prop :=
  ∀ (H : Type) (enc : TypeId × Value → H) (W : World) (fuel : Nat) (cs : List Value) (x : DataW H × List MemPlace), DataW.trod enc P W 0 (fun _ => true) true fuel t cs = some x → few x.1 → ∃ a, d.K W a cs ∧ Q a
/-- .. of a struct's fields from one on. -/
def OpensF {α : Type} (d : Kd α) (P : Program) (fs : List Field) (off : Nat) (Q : α → Prop) : Prop :=
  ∀ (H : Type) (enc : TypeId × Value → H) (W : World) (fuel : Nat) (cs : List Value) (xs : List (DataW H × List MemPlace)), cs.length = d.sz → xs.length = fs.length →
    (∀ (i : Nat) (f : Field), fs[i]? = some f → DataW.trod enc P W 0 (fun _ => true) true fuel f.type ((cs.drop (f.offset - off)).take (P.cellsOf f.type)) = xs[i]?) →
    (∀ (i : Nat) (f : Field), fs[i]? = some f → off ≤ f.offset) →
    Rows.uptoBulkAll (xs.map (·.1)) ≤ 1048576 → ∃ a, d.K W a cs ∧ Q a

theorem Opens.mono {α : Type} {d : Kd α} {P : Program} {t : TypeId} {Q Q' : α → Prop} (h : Opens d P t Q) (hq : ∀ a, Q a → Q' a) : Opens d P t Q' := fun H enc W fuel cs x h1 h2 =>
  let ⟨a, h3, h4⟩ := h H enc W fuel cs x h1 h2; ⟨a, h3, hq a h4⟩

theorem opens_int {P : Program} {t : TypeId} (k : IntKind) (ht : P.underlying t = some (.int k)) : Opens (Kd.int k) P t (fun n => (Lit.int k n).wf = true) := by
  intro H enc W fuel cs x h _
  cases fuel with
  | zero => simp [DataW.trod] at h
  | succ n =>
    unfold DataW.trod at h
    rw [ht] at h
    split at h <;> simp_all
    obtain ⟨⟨rfl, hw⟩, _⟩ := h
    exact ⟨_, rfl, hw⟩
theorem opens_string {P : Program} {t : TypeId} (ht : P.underlying t = some .string) : Opens Kd.string P t (fun s => s.size ≤ 1048576) := by
  intro H enc W fuel cs x h hs
  cases fuel with
  | zero => simp [DataW.trod] at h
  | succ n =>
    unfold DataW.trod at h
    rw [ht] at h
    split at h <;> simp_all
    obtain ⟨hm, rfl⟩ := h
    refine ⟨_, rfl, ?_⟩
    have h1 : Rows.uptoBulk (DataW.lit (H := H) (.string _)) ≤ 1048576 := hs
    simp only [Rows.uptoBulk] at h1
    simp at h1
    have : ∀ b : ByteArray, b.data.size = b.size := fun b => rfl
    omega

theorem opens_slice {α : Type} {d : Kd α} {P : Program} {t e : TypeId} {Q : α → Prop} (ht : P.underlying t = some (.slice e)) (hd : Opens d P e Q) (hc : P.cellsOf e = d.sz) [Inhabited α] :
    Opens (Kd.slice e d) P t (fun l => l.length ≤ 1048576 ∧ ∀ a ∈ l, Q a) := by
  intro H enc W fuel cs x h hs
  rcases Go.Deep.open_slice ht h with ⟨rfl, rfl⟩ | ⟨a, len, cap, m, n, D, Pl, rfl, hb, hl, hm, hmm, rfl, hx⟩
  · refine ⟨[], ⟨none, 0, rfl, Nat.le_refl _, rfl, by simp, fun h => absurd h (by simp)⟩, ?_⟩
    exact ⟨by simp, fun a ha => by cases ha⟩
  · rw [if_pos rfl] at hmm
    subst hmm
    have hw : Rows.uptoBulkAll ((List.range len).map D) + Rows.uptoBulkAll ((List.range (m - len)).map fun j => D (len + j)) + 1 ≤ 1048576 := by
      have h1 : Rows.uptoBulk (DataW.slice ((List.range len).map D) ((List.range (m - len)).map fun j => D (len + j))) ≤ 1048576 := hs
      simpa only [Rows.uptoBulk] using h1
    have hall : ∀ d ∈ (List.range len).map D, few d := fun d hd => by
      have := part_le hd
      unfold few
      omega
    have hlen : len ≤ 1048576 := by
      have := length_le ((List.range len).map D)
      simp only [List.length_map, List.length_range] at this
      omega
    obtain ⟨V, hV⟩ := Go.Deep.choose_lt (α := α) (n := len) (p := fun i v => Q v ∧ ∃ c, d.K W v c ∧ c.length = d.sz ∧ W.cells? 0 (a.add (i * P.cellsOf e)) (P.cellsOf e) = some c) (fun i hi => by
      obtain ⟨c, h1, h2⟩ := hx i (by omega)
      obtain ⟨v, h3, h4⟩ := hd H enc W n c _ h2 (hall _ (List.mem_map.2 ⟨i, List.mem_range.2 hi, rfl⟩))
      exact ⟨v, h4, c, h3, d.K_len h3, h1⟩)
    refine ⟨(List.range len).map V, ⟨some a, m, by simp, by simpa using hl, by simp, by simp; unfold maxLen at hm; omega, fun _ => ⟨a, rfl, ?_⟩⟩, ?_, ?_⟩
    · intro j p hj
      rw [List.getElem?_map] at hj
      obtain ⟨j', hj', rfl⟩ := Option.map_eq_some_iff.1 hj
      have hjl : j < len := by
        have := (List.getElem?_eq_some_iff.1 hj').1
        simpa using this
      have : j' = j := by
        rw [List.getElem?_range hjl] at hj'
        exact (Option.some.inj hj').symm
      subst this
      obtain ⟨_, c, hK, hcl, hcells⟩ := hV j' hjl
      refine ⟨c, hcl, hK, fun i u hu => ?_⟩
      obtain ⟨_, hlen, hg⟩ := World.cells?_some hcells
      have hil : i < c.length := (List.getElem?_eq_some_iff.1 hu).1
      have := hg i (by rw [hc, ← hcl]; exact hil)
      rw [hu, hc, Go.Deep.add_add] at this
      exact this
    · simp only [List.length_map, List.length_range]; exact hlen
    · intro b hb2
      obtain ⟨i, hi, rfl⟩ := List.mem_map.1 hb2
      exact (hV i (List.mem_range.1 hi)).1

theorem opensF_last {α : Type} {d : Kd α} {P : Program} {f : Field} {off : Nat} {Q : α → Prop} (hd : Opens d P f.type Q) (ho : f.offset = off) (hc : P.cellsOf f.type = d.sz) : OpensF d P [f] off Q := by
  intro H enc W fuel cs xs hl hx hr _ hs
  match xs, hx with
  | [y], _ =>
    have h0 := hr 0 f rfl
    rw [ho, Nat.sub_self, List.drop_zero, hc, ← hl, List.take_length] at h0
    have hs' : Rows.uptoBulk y.1 + 0 ≤ 1048576 := hs
    exact hd H enc W fuel cs y h0 hs'
theorem opensF_cons {α β : Type} {d : Kd α} {d2 : Kd β} {P : Program} {f : Field} {fs : List Field} {off : Nat} {Q : α → Prop} {Q2 : β → Prop} (hd : Opens d P f.type Q) (ho : f.offset = off) (hc : P.cellsOf f.type = d.sz)
    (hf : OpensF d2 P fs (off + d.sz) Q2) (hofs : ∀ g ∈ fs, off + d.sz ≤ g.offset) : OpensF (Kd.pair d d2) P (f :: fs) off (fun p => Q p.1 ∧ Q2 p.2) := by
  intro H enc W fuel cs xs hl hx hr hoff hs
  have hl' : cs.length = d.sz + d2.sz := hl
  match xs, hx with
  | y :: ys, hx =>
    have h0 := hr 0 f rfl
    rw [ho, Nat.sub_self, List.drop_zero, hc] at h0
    have hs' : Rows.uptoBulk y.1 + Rows.uptoBulkAll (ys.map (·.1)) ≤ 1048576 := hs
    have s1 : few y.1 := by unfold few; omega
    have s2 : Rows.uptoBulkAll (ys.map (·.1)) ≤ 1048576 := by omega
    obtain ⟨a, ha, qa⟩ := hd H enc W fuel _ y h0 s1
    obtain ⟨b, hb, qb⟩ := hf H enc W fuel (cs.drop d.sz) ys (by rw [List.length_drop]; omega) (by simpa using hx) (fun i g hg => by
      have hge : off + d.sz ≤ g.offset := hofs g (List.mem_of_getElem? hg)
      have := hr (i+1) g (by simpa using hg)
      rw [List.drop_drop, show d.sz + (g.offset - (off + d.sz)) = g.offset - off by omega]
      simpa using this) (fun i g hg => hofs g (List.mem_of_getElem? hg)) s2
    exact ⟨(a, b), ⟨cs.take d.sz, cs.drop d.sz, (List.take_append_drop _ _).symm, ha, hb⟩, qa, qb⟩
theorem opens_struct {α β : Type} {d : Kd α} {P : Program} {t : TypeId} {fs : Array Field} {Q : α → Prop} (g : α → β) (f : β → α) (hfg : ∀ a, f (g a) = a) (ht : P.underlying t = some (.struct fs)) (hc : P.cellsOf t = d.sz) (h : OpensF d P fs.toList 0 Q) :
    Opens (Kd.iso d f) P t (fun b => Q (f b)) := by
  intro H enc W fuel cs x hx hs
  obtain ⟨xs, n, rfl, rfl, hl, hxl, hr⟩ := DataW.trod_struct ht hx
  have hs' : Rows.uptoBulkAll (xs.map (·.1)) ≤ 1048576 := by
    have h1 : Rows.uptoBulk (DataW.agg (xs.map (·.1))) ≤ 1048576 := hs
    simp only [Rows.uptoBulk] at h1
    omega
  obtain ⟨a, ha, qa⟩ := h H enc W n cs xs (by rw [hl, hc]) (by rw [hxl]; simp) (fun i f hf => by rw [Nat.sub_zero]; exact hr i f (by simpa using hf)) (fun _ _ _ => Nat.zero_le _) hs'
  exact ⟨g a, by show d.K W (f (g a)) cs; rw [hfg]; exact ha, by show Q (f (g a)); rw [hfg]; exact qa⟩
/-- an argument -/
theorem opens_arg {α : Type} {d : Kd α} {P : Program} {t : TypeId} {Q : α → Prop} (h : Opens d P t Q) {H : Type} {enc : TypeId × Value → H} {W : World} {v : Value} {dd : DataW H} {ps : List MemPlace} {ds : List (DataW H)} {j : Nat}
    (hk : Rows.uptoSmall H ds = true) (hd : ds[j]? = some dd) (ht2 : DataW.Trod enc P W 0 (fun _ => true) true t v dd ps) : ∃ a, d.K W a v.cells.toList ∧ Q a := by
  obtain ⟨fuel, hf⟩ := ht2
  refine h H enc W fuel _ _ hf ?_
  have h1 : Rows.uptoBulkAll ds ≤ 1048576 := of_decide_eq_true hk
  have h2 := part_le (List.mem_of_getElem? hd)
  exact Nat.le_trans h2 h1
end Go.Proofs.Ytmeaepmimnmjlaa.OpenUpto
/- GraphBuild, the row: the law returns true, and the input reads as it did. For every input of a bulk of at most 1048576. -/
namespace Go.Proofs.Ytmeaepmimnmjlaa.graphBuildUpto
open Go.ChangeShapes Go.WideShapes Go.ChangeAt Go.RowKit
open Go.Proofs.Ytmeaepmimnmjlaa.OpenUpto Go.Proofs.Ytmeaepmimnmjlaa.PGb Go.Proofs.Ytmeaepmimnmjlaa.Ask Go.Proofs.YtmeaepmimnmjlaaW.PrintWords
open Go.ChangeMaps (open_string shut_string)
set_option linter.unusedVariables false
set_option linter.unusedSimpArgs false
theorem own : ownKnob Try.prog.godebug = none := by kernel_rfl
theorem laidOut : laidOutB Try.prog = true := by kernel_rfl
instance : Inhabited S40 := ⟨z40⟩
instance : Inhabited S49 := ⟨z49⟩
theorem o9 : Opens Kd.string Try.prog 9 (fun _ => True) := (opens_string Try.underlying9).mono (fun _ _ => trivial)
theorem o3 : Opens (Kd.int .i64) Try.prog 3 (fun _ => True) := (opens_int .i64 Try.underlying3).mono (fun _ _ => trivial)
theorem o2 : Opens (Kd.int .i64) Try.prog 2 (fun _ => True) := (opens_int .i64 Try.underlying2).mono (fun _ _ => trivial)
theorem o40 : Opens k40 Try.prog 40 (fun x => True) := (opens_struct (fun p : Int × Int => (⟨p.1, p.2⟩ : S40)) (fun x : S40 => (x.f0, x.f1)) (fun _ => rfl) Try.underlying40 (by kernel_rfl) (opensF_cons o3 rfl (by kernel_rfl) (opensF_last o2 rfl (by kernel_rfl)) (by intro g hg; simp at hg; first | (subst hg; decide) | (rcases hg with rfl | rfl | rfl | rfl | rfl | rfl | rfl <;> decide)))).mono (fun _ _ => trivial)
theorem o22 : Opens (Kd.slice 40 (k40)) Try.prog 22 (fun l => l.length ≤ 1048576) := (opens_slice Try.underlying22 o40 (by kernel_rfl)).mono (fun _ h => h.1)
theorem o49 : Opens k49 Try.prog 49 (fun x => True) := (opens_struct (fun p : Int × Int × Int × Int => (⟨p.1, p.2.1, p.2.2.1, p.2.2.2⟩ : S49)) (fun x : S49 => (x.f0, x.f1, x.f2, x.f3)) (fun _ => rfl) Try.underlying49 (by kernel_rfl) (opensF_cons o3 rfl (by kernel_rfl) (opensF_cons o3 rfl (by kernel_rfl) (opensF_cons o3 rfl (by kernel_rfl) (opensF_last o3 rfl (by kernel_rfl)) (by intro g hg; simp at hg; first | (subst hg; decide) | (rcases hg with rfl | rfl | rfl | rfl | rfl | rfl | rfl <;> decide))) (by intro g hg; simp at hg; first | (subst hg; decide) | (rcases hg with rfl | rfl | rfl | rfl | rfl | rfl | rfl <;> decide))) (by intro g hg; simp at hg; first | (subst hg; decide) | (rcases hg with rfl | rfl | rfl | rfl | rfl | rfl | rfl <;> decide)))).mono (fun _ _ => trivial)
theorem o23 : Opens (Kd.slice 49 (k49)) Try.prog 23 (fun l => l.length ≤ 1048576) := (opens_slice Try.underlying23 o49 (by kernel_rfl)).mono (fun _ h => h.1)
theorem p25 : Opens (Kd.iso (Kd.pair (Kd.string) (Kd.pair (Kd.int .i64) (Kd.pair (Kd.int .i64) (Kd.pair (Kd.slice 40 (k40)) (Kd.slice 49 (k49)))))) (fun p : (ByteArray × Int × Int × (List (S40)) × (List (S49))) => p)) Try.prog 25 (fun p => (True ∧ True ∧ True ∧ p.2.2.2.1.length ≤ 1048576 ∧ p.2.2.2.2.length ≤ 1048576)) := (opens_struct (fun p : (ByteArray × Int × Int × (List (S40)) × (List (S49))) => p) (fun p : (ByteArray × Int × Int × (List (S40)) × (List (S49))) => p) (fun _ => rfl) Try.underlying25 (by kernel_rfl) (opensF_cons o9 rfl (by kernel_rfl) (opensF_cons o3 rfl (by kernel_rfl) (opensF_cons o3 rfl (by kernel_rfl) (opensF_cons o22 rfl (by kernel_rfl) (opensF_last o23 rfl (by kernel_rfl)) (by intro g hg; simp at hg; first | (subst hg; decide) | (rcases hg with rfl | rfl | rfl | rfl | rfl | rfl | rfl <;> decide))) (by intro g hg; simp at hg; first | (subst hg; decide) | (rcases hg with rfl | rfl | rfl | rfl | rfl | rfl | rfl <;> decide))) (by intro g hg; simp at hg; first | (subst hg; decide) | (rcases hg with rfl | rfl | rfl | rfl | rfl | rfl | rfl <;> decide))) (by intro g hg; simp at hg; first | (subst hg; decide) | (rcases hg with rfl | rfl | rfl | rfl | rfl | rfl | rfl <;> decide)))).mono (fun _ h => h)
set_option maxRecDepth 100000 in
set_option maxHeartbeats 1000000 in
theorem contract (H : Type) (enc : TypeId × Value → H) (W : World) (base : Nat) (args : Array Value) (ds gs : List (DataW H)) (before : List MemPlace)
  (hval0 : ∀ (j : Nat) t v, Try.f3.params[j]? = some t → args[j]? = some v → Value.okWide Try.prog W .any base t v)
  (hW : DataW.Whole enc Try.prog Try.f3.params.toList Rows.graphBuildSpec.vars false W args.toList ds gs before) (hsz0 : Rows.uptoSmall H (ds ++ gs) = true) :
    Calls Try.prog 3 args W fun e W' => ∃ v, e = .returned v ∧ Rows.graphBuildSpec.post enc Try.prog Try.f3 false true false false W args v W' := by
  have hsz := hsz0
  have hval := hval0
  have hW' := hW
  obtain ⟨p, q, hA0, hV, rfl, hfz, hnd⟩ := hW
  have hA : DataW.TrodAll enc Try.prog W 0 (fun _ => true) true Try.f3.params.toList args.toList ds p := hA0
  rw [Try.params3] at hA hval
  obtain ⟨v0, vs0, d0, ds0, p0, q0, hargs, rfl, rfl, h0, r0⟩ := trodAll_cons hA
  obtain ⟨v1, vs1, d1, ds1, p1, q1, rfl, rfl, rfl, h1, r1⟩ := trodAll_cons r0
  obtain ⟨rfl, rfl, rfl⟩ := trodAll_nil r1
  obtain rfl : args = #[v0, v1] := by cases args; simp_all
  obtain ⟨rfl, rfl⟩ := trodVars_none hV
  try simp only [List.append_nil] at hsz
  obtain ⟨cs0, rfl, hcs0⟩ := okWide_struct Try.underlying25 (hval 0 25 v0 rfl rfl)
  obtain ⟨cs1, rfl, hcs1⟩ := okWide_struct Try.underlying25 (hval 1 25 v1 rfl rfl)
  have k0_ := h0
  have lt0 : ∀ x ∈ p0, x.block < W.heap.size := by obtain ⟨m, hm⟩ := k0_; exact DataW.trod_lt m _ _ _ hm
  have k1_ := h1
  have lt1 : ∀ x ∈ p1, x.block < W.heap.size := by obtain ⟨m, hm⟩ := k1_; exact DataW.trod_lt m _ _ _ hm
  obtain ⟨⟨a0_0, a0_1, a0_2, l0_3, l0_4⟩, hK0, ⟨Q0_0, Q0_1, Q0_2, Q0_3, Q0_4⟩⟩ := opens_arg (j := 0) p25 hsz rfl h0
  obtain ⟨x0_0, y0_0, e0, rfl, ⟨x0_1, y0_1, rfl, rfl, ⟨x0_2, y0_2, rfl, rfl, ⟨x0_3, y0_3, rfl, ⟨A0_3, c0_3, rfl, hl0_3, hC0_3⟩, ⟨A0_4, c0_4, rfl, hl0_4, hC0_4⟩⟩⟩⟩⟩ := hK0
  have hc0 : cs0 = #[.string a0_0, .int .i64 a0_1, .int .i64 a0_2, .slice A0_3 l0_3.length c0_3, .slice A0_4 l0_4.length c0_4] := by
    have he : cs0.toList = [.string a0_0, .int .i64 a0_1, .int .i64 a0_2, .slice A0_3 l0_3.length c0_3, .slice A0_4 l0_4.length c0_4] := e0
    exact Array.toList_inj.1 he
  subst hc0
  obtain ⟨⟨a1_0, a1_1, a1_2, l1_3, l1_4⟩, hK1, ⟨Q1_0, Q1_1, Q1_2, Q1_3, Q1_4⟩⟩ := opens_arg (j := 1) p25 hsz rfl h1
  obtain ⟨x1_0, y1_0, e1, rfl, ⟨x1_1, y1_1, rfl, rfl, ⟨x1_2, y1_2, rfl, rfl, ⟨x1_3, y1_3, rfl, ⟨A1_3, c1_3, rfl, hl1_3, hC1_3⟩, ⟨A1_4, c1_4, rfl, hl1_4, hC1_4⟩⟩⟩⟩⟩ := hK1
  have hc1 : cs1 = #[.string a1_0, .int .i64 a1_1, .int .i64 a1_2, .slice A1_3 l1_3.length c1_3, .slice A1_4 l1_4.length c1_4] := by
    have he : cs1.toList = [.string a1_0, .int .i64 a1_1, .int .i64 a1_2, .slice A1_3 l1_3.length c1_3, .slice A1_4 l1_4.length c1_4] := e1
    exact Array.toList_inj.1 he
  subst hc1
  obtain hk := show (l0_3.length ≤ 1048576 ∧ l0_4.length ≤ 1048576 ∧ l1_3.length ≤ 1048576) ∧ true = true from ⟨⟨Q0_3, Q0_4, Q1_3⟩, rfl⟩
  refine (portagelaw09_GraphBuild.calls a0_0 a0_1 a0_2 _ _ l0_3 _ _ l0_4 a1_0 a1_1 a1_2 _ _ l1_3 _ _ l1_4 true W hC0_3 hl0_3 hC0_4 hl0_4 hC1_3 hl1_3 hC1_4 hl1_4 hk).mono fun e W' ⟨he, bel⟩ => ?_
  subst he
  exact ⟨_, rfl, _, _, _, [], _, [], hW', trodAll_mk1 (shut_bool Try.underlying4 _), (trodAll_cons_mk (Below.trod laidOut (by kernel_rfl) (of_decide_eq_true (by kernel_rfl)) k0_ bel lt0) (trodAll_cons_mk (Below.trod laidOut (by kernel_rfl) (of_decide_eq_true (by kernel_rfl)) k1_ bel lt1) trodAll_mk0)), rfl, bel.frame _, fun h => by cases h⟩
set_option maxRecDepth 100000 in
theorem lifted (os : Os) (started : os.Started) (H : Type) (enc : TypeId × Value → H) (F : Stop.Interp) :
    ReturnsInHanded {} Try.checked os 3 .any ((Rows.OpenSpec.upto Rows.graphBuildSpec).pre6 enc Try.prog Try.f3 Rows.graphBuildUptoRow.domain false) (((Rows.OpenSpec.upto Rows.graphBuildSpec).at F).post enc Try.prog Try.f3 false true false false) := by
  refine returnsInHanded_of_cond (C := Try.checked) (s := Rows.OpenSpec.upto Rows.graphBuildSpec) (k := Rows.uptoSmall) rfl own started (by kernel_rfl) Try.func3
    (OpenSpec.witness (enc := enc) (C := Try.checked) (s := Rows.OpenSpec.upto Rows.graphBuildSpec) (k := Rows.uptoSmall) rfl false ⟨#[], #[.agg #[.string .empty, .int .i64 0, .int .i64 0, .slice none 0 0, .slice none 0 0], .agg #[.string .empty, .int .i64 0, .int .i64 0, .slice none 0 0, .slice none 0 0]], []⟩ 8 (by kernel_rfl) (by kernel_rfl) (by kernel_rfl)
      (x := ([.agg [.lit (.string []), .lit (.int .i64 0), .lit (.int .i64 0), .nil, .nil], .agg [.lit (.string []), .lit (.int .i64 0), .lit (.int .i64 0), .nil, .nil]], [], [])) (by kernel_rfl) rfl (by kernel_rfl)) ?_
  intro W base args ds gs before hval hW _ hk _
  exact contract H enc W base args ds gs before hval hW hk
theorem proved : Rows.GraphBuildUptoSaid :=
  OpenClaim.holds_of_cond 3 Try.f3 rfl rfl rfl rfl rfl rfl rfl ⟨rfl, rfl, rfl, rfl, rfl⟩ rfl rfl rfl rfl rfl (by kernel_rfl) Try.func3 (by kernel_rfl)
    (of_decide_eq_true (by kernel_rfl)) (by unfold Func.isWrapper; first | (rw [if_pos (by decide +kernel)]; kernel_rfl) | (rw [if_neg (by decide +kernel)]; exact ⟨rfl, rfl⟩))
    (fun os started H enc _ F => lifted os started H enc F)
#print axioms proved
end Go.Proofs.Ytmeaepmimnmjlaa.graphBuildUpto
namespace Go.Proofs.Ytmeaepmimnmjlaa
/-- The row, under a short name, for the claim. -/
theorem graphBuild_holds : Rows.GraphBuildUptoSaid := graphBuildUpto.proved
end Go.Proofs.Ytmeaepmimnmjlaa
