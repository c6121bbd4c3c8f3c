/- works: two moves. -/
import Derived.Test.YtjekpkpmoanadaaRun2
import Derived.Test.YtjekpkpmoanadaaSame
namespace Go.Proofs.Ytjekpkpmoanadaa.PCop
open Go.RowKit Go.Proofs.Ytjekpkpmoanadaa.Lit Go.Proofs.Ytjekpkpmoanadaa.OwnCells Go.Proofs.YtjekpkpmoanadaaW.PrintWords Go.Proofs.YtjekpkpmoanadaaW.PrintLast Go.Proofs.YtjekpkpmoanadaaW.PrintMore
set_option linter.unusedVariables false
set_option linter.unusedSimpArgs false
def xw (d : Int) (n : Int) : S47 := ⟨1, 0, d, [⟨0, n⟩], 0, 0, 0, []⟩
def blw : S43 := ⟨0, [xw 1 0, xw 2 1], []⟩
def bly : S43 := ⟨0, [xw 1 0, xw 2 0], []⟩
theorem run_works : runS [blw] = [bly] := by rfl
theorem wf_small (n : Int) (h : n = 0 ∨ n = 1 ∨ n = 2) : WF n := by
  unfold WF
  rcases h with rfl | rfl | rfl <;> decide
theorem okx_works (d n : Int) (hd : d = 0 ∨ d = 1 ∨ d = 2) (hn : n = 0 ∨ n = 1 ∨ n = 2) : OkX (xw d n) where
  dst := wf_small d hd
  args := by show 1 * 16 ≤ _; decide
  exit := by show 0 * 40 ≤ _; decide
  slots := fun s hs => by cases hs
  wfa := fun o ho => by simp [xw] at ho; subst ho; exact wf_small n hn
  wfs := fun s hs => by cases hs
theorem ok_works : OkL [blw] where
  len := by decide
  ins := fun b hb => by simp at hb; subst hb; decide
  next := fun b hb => by simp at hb; subst hb; decide
  each := fun b hb x hx => by
    simp at hb; subst hb
    simp [blw] at hx
    rcases hx with rfl | rfl
    · exact okx_works 1 0 (by decide) (by decide)
    · exact okx_works 2 1 (by decide) (by decide)
set_option maxHeartbeats 1000000 in
set_option maxRecDepth 100000 in
theorem reg_calls (n : Int) (w : World) : Calls Try.prog 16 #[.int .i64 n] w fun e w' => e = .returned (.agg #[.int .i64 0, .int .i64 n]) ∧ Below w.heap.size w w' := by
  go_enter Try.func16, Try.ntmps16
  go_wp2
  refine bodyPost_ret (by simp [results, Try.results16, go_sem]; try rfl) rfl ?_
  exact ⟨rfl, below_alloc (Below.refl _ _) _⟩
theorem bodies (w : World) (o : Obj) : Below w.heap.size w (w.alloc o) := below_alloc (Below.refl _ _) o
set_option maxHeartbeats 1000000 in
set_option maxRecDepth 100000 in
theorem same_ops (A B : Option Addr) (c d : Nat) (w : World) (hA : k49.C w A 1 [⟨0, 0⟩]) (hB : k49.C w B 1 [⟨0, 0⟩]) :
    Calls Try.prog 23 #[.slice A 1 c, .slice B 1 d] w fun e w' => e = .returned (.bool true) ∧ Below w.heap.size w w' :=
  (same_opnds A B c d [⟨0, 0⟩] w hA hB (by decide)).mono (by rintro e w' ⟨rfl, m, rfl⟩; exact ⟨rfl, pw_below_drewN (Below.refl _ _) m⟩)
/-- the cells of a row of one's own, element by element -/
theorem R_cells {α : Type} {d : Kd α} {e base : Nat} {ok : Nat → Prop} {w : World} {v : Value} {xs : List α} (h : d.R e w base ok v xs) (hp : 0 < xs.length) : ∃ g cap, v = .slice (some ⟨g, 0, none⟩) xs.length cap ∧
    ∀ j p, xs[j]? = some p → ∃ cs, cs.length = d.sz ∧ d.M w base (fun k => ok k ∧ some k ≠ v.ownBlock) p cs ∧ ∀ i u, cs[i]? = some u → w.cell? ⟨g, j * d.sz + i, none⟩ = some u := by
  obtain ⟨g, cap, hv⟩ := Kd.R_slice1 h hp
  have h' := h
  obtain ⟨_, inner, ho, hr⟩ := h'
  rcases ho.2 with ⟨_, h0⟩ | ⟨g', cap', cur, he, _⟩
  · omega
  · rw [he] at hv
    injection hv with h1 h2 h3
    injection h1 with h1
    refine ⟨g', cap', he, fun j p hj => ⟨(inner.drop (j * d.sz)).take d.sz, ?_, hr.2 j p hj, fun i u hu => ?_⟩⟩
    · have hjl : j < xs.length := (List.getElem?_eq_some_iff.1 hj).1
      have hle : j * d.sz + d.sz ≤ inner.length := by
        rw [hr.1]
        calc j * d.sz + d.sz = (j + 1) * d.sz := by rw [Nat.add_mul, Nat.one_mul]
          _ ≤ xs.length * d.sz := Nat.mul_le_mul_right _ hjl
      rw [List.length_take, List.length_drop]; omega
    · have hil : i < d.sz := by
        have := (List.getElem?_eq_some_iff.1 hu).1
        rw [List.length_take] at this; omega
      rw [List.getElem?_take_of_lt hil, List.getElem?_drop] at hu
      subst he
      have := ho.cells (g := g') rfl (j * d.sz + i) u hu
      rwa [add_plain] at this
/-- what Run answers to works' code, cell by cell -/
theorem bly_cells {w : World} {base : Nat} {ok : Nat → Prop} {v : Value} (h : k43.R 43 w base ok v [bly]) : ∃ g c g1 c1 A c2 g3 c3 A7 c7 g4 c4 B7 d7, v = .slice (some ⟨g, 0, none⟩) 1 c ∧
    w.cell? ⟨g, 0, none⟩ = some (.int .i64 0) ∧ w.cell? ⟨g, 1, none⟩ = some (.slice (some ⟨g1, 0, none⟩) 2 c1) ∧ w.cell? ⟨g, 2, none⟩ = some (.slice A 0 c2) ∧
    (w.cell? ⟨g1, 0, none⟩ = some (.int .i64 1) ∧ w.cell? ⟨g1, 1, none⟩ = some (.int .i64 0) ∧ w.cell? ⟨g1, 2, none⟩ = some (.int .i64 1) ∧ w.cell? ⟨g1, 3, none⟩ = some (.slice (some ⟨g3, 0, none⟩) 1 c3) ∧ w.cell? ⟨g1, 4, none⟩ = some (.int .i64 0) ∧ w.cell? ⟨g1, 5, none⟩ = some (.int .i64 0) ∧ w.cell? ⟨g1, 6, none⟩ = some (.int .i64 0) ∧ w.cell? ⟨g1, 7, none⟩ = some (.slice A7 0 c7)) ∧
    (w.cell? ⟨g1, 8, none⟩ = some (.int .i64 1) ∧ w.cell? ⟨g1, 9, none⟩ = some (.int .i64 0) ∧ w.cell? ⟨g1, 10, none⟩ = some (.int .i64 2) ∧ w.cell? ⟨g1, 11, none⟩ = some (.slice (some ⟨g4, 0, none⟩) 1 c4) ∧ w.cell? ⟨g1, 12, none⟩ = some (.int .i64 0) ∧ w.cell? ⟨g1, 13, none⟩ = some (.int .i64 0) ∧ w.cell? ⟨g1, 14, none⟩ = some (.int .i64 0) ∧ w.cell? ⟨g1, 15, none⟩ = some (.slice B7 0 d7)) ∧
    k49.C w (some ⟨g3, 0, none⟩) 1 [⟨0, 0⟩] ∧ k49.C w (some ⟨g4, 0, none⟩) 1 [⟨0, 0⟩] := by
  obtain ⟨g, c, rfl, hc⟩ := R_cells h (by decide)
  obtain ⟨cs, _, hM, hcell⟩ := hc 0 bly rfl
  obtain ⟨v1, v2, rfl, h1, h2⟩ := k43_openM hM
  obtain ⟨g1, c1, rfl, hc1⟩ := R_cells h1 (by decide)
  obtain ⟨A, c2, rfl, _⟩ := Kd.R_reads h2
  obtain ⟨cs0, _, hM0, hcell0⟩ := hc1 0 (xw 1 0) rfl
  obtain ⟨cs1, _, hM1, hcell1⟩ := hc1 1 (xw 2 0) rfl
  obtain ⟨v3, v7, rfl, h3, h7⟩ := k47_openM hM0
  obtain ⟨u3, u7, rfl, h4, h8⟩ := k47_openM hM1
  obtain ⟨g3, c3, rfl, _⟩ := R_cells h3 (by decide)
  obtain ⟨g4, c4, rfl, _⟩ := R_cells h4 (by decide)
  obtain ⟨A7, c7, rfl, _⟩ := Kd.R_reads h7
  obtain ⟨B7, d7, rfl, _⟩ := Kd.R_reads h8
  exact ⟨g, c, g1, c1, A, c2, g3, c3, A7, c7, g4, c4, B7, d7, rfl, hcell 0 _ rfl, hcell 1 _ rfl, hcell 2 _ rfl, ⟨hcell0 0 _ rfl, hcell0 1 _ rfl, hcell0 2 _ rfl, hcell0 3 _ rfl, hcell0 4 _ rfl, hcell0 5 _ rfl, hcell0 6 _ rfl, hcell0 7 _ rfl⟩, ⟨hcell1 0 _ rfl, hcell1 1 _ rfl, hcell1 2 _ rfl, hcell1 3 _ rfl, hcell1 4 _ rfl, hcell1 5 _ rfl, hcell1 6 _ rfl, hcell1 7 _ rfl⟩, (Kd.R_reads' h3).2.2, (Kd.R_reads' h4).2.2⟩
def dW7 : Nat → Option Tmp
  | 0 => some 49
  | 1 => some 50
  | 2 => some 51
  | 3 => some 52
  | 4 => some 53
  | 5 => some 54
  | 6 => some 55
  | 7 => some 56
  | 8 => some 57
  | 9 => some 58
  | 10 => some 59
  | 11 => some 60
  | 12 => some 61
  | 13 => some 62
  | 14 => some 63
  | 15 => some 64
  | 16 => some 65
  | 17 => some 66
  | 18 => some 67
  | 19 => some 68
  | 20 => some 69
  | 21 => some 70
  | 22 => some 0
  | _ => none
def FW7 (ge gf ga gb ca cb : Nat) : Nat → World → Value → Prop
  | 0, _, v => v = .pointer (some ⟨ge, 3, none⟩)
  | 1, _, v => v = .slice (some ⟨ga, 0, none⟩) 1 ca
  | 2, _, v => v = .agg #[.int .i64 0, .int .i64 0]
  | 3, w, v => Sl k49 [⟨0, 0⟩] w v
  | 4, _, v => v = .bool true
  | 5, _, v => v = .bool true
  | 6, _, v => v = .pointer (some ⟨gf, 3, none⟩)
  | 7, _, v => v = .slice (some ⟨gb, 0, none⟩) 1 cb
  | 8, _, v => v = .agg #[.int .i64 0, .int .i64 0]
  | 9, w, v => Sl k49 [⟨0, 0⟩] w v
  | 10, _, v => v = .bool true
  | 11, _, v => v = .bool true
  | 12, _, v => v = .bool true
  | 13, _, v => v = .pointer (some ⟨ge, 2, none⟩)
  | 14, _, v => v = .int .i64 1
  | 15, _, v => v = .bool true
  | 16, _, v => v = .bool true
  | 17, _, v => v = .bool true
  | 18, _, v => v = .pointer (some ⟨gf, 2, none⟩)
  | 19, _, v => v = .int .i64 2
  | 20, _, v => v = .bool true
  | 21, _, v => v = .bool true
  | 22, _, v => v = .bool true
  | _, _, _ => True
theorem FW7_below (ge gf ga gb ca cb : Nat) (i : Nat) (w w1 : World) (v : Value) (h : FW7 ge gf ga gb ca cb  i w v) (hb : Below w.heap.size w w1) : FW7 ge gf ga gb ca cb  i w1 v := by
  match i with
  | 0 | 1 | 2 | 4 | 5 | 6 | 7 | 8 | 10 | 11 | 12 | 13 | 14 | 15 | 16 | 17 | 18 | 19 | 20 | 21 | 22 => exact h
  | 3 | 9 => exact Sl.below h hb
  | (n + 23) => exact h
set_option maxHeartbeats 4000000 in
set_option maxRecDepth 100000 in
theorem works_calls (w : World) : Calls Try.prog 8 #[] w fun e w' => e = .returned (.bool true) ∧ Below w.heap.size w w' := by
  go_enter Try.func8, Try.ntmps8
  go_wp2_with (fail)
  refine (reg_calls 0 w).mono ?_
  rintro e w1 ⟨rfl, hb⟩
  have HB := Aside0.mk hb
  clear hb
  go_wp2_with (fail)
  have s0 : k49.C (w1.alloc (.cells #[.int .i64 0, .int .i64 0] 49)) (some ⟨w1.heap.size, 0, none⟩) 1 [⟨0, 0⟩] := lit_C k49 w1 49 [⟨0, 0⟩] [.int .i64 0, .int .i64 0] (reps1 (k49_mk w1 ⟨0, 0⟩) rfl) (by decide)
  have hb := bodies w1 (.cells #[.int .i64 0, .int .i64 0] 49)
  replace HB := Aside0.mk (wB HB.out hb)
  have S0 := Aside0.mk s0
  clear hb s0
  generalize w1.alloc (.cells #[.int .i64 0, .int .i64 0] 49) = w2 at *
  generalize w1.heap.size = g0 at *
  refine (reg_calls 1 w2).mono ?_
  rintro e w3 ⟨rfl, hb⟩
  replace HB := Aside0.mk (wB HB.out hb)
  replace S0 := Aside0.mk (Kd.C_below S0.out hb)
  clear hb
  go_upto_region 2 with (fail)
  have s1 : k49.C (w3.alloc (.cells #[.int .i64 0, .int .i64 1] 49)) (some ⟨w3.heap.size, 0, none⟩) 1 [⟨0, 1⟩] := lit_C k49 w3 49 [⟨0, 1⟩] [.int .i64 0, .int .i64 1] (reps1 (k49_mk w3 ⟨0, 1⟩) rfl) (by decide)
  have hb := bodies w3 (.cells #[.int .i64 0, .int .i64 1] 49)
  have hz : (w3.alloc (.cells #[.int .i64 0, .int .i64 1] 49)).heap.size = w3.heap.size + 1 := World.size_alloc _ _
  replace HB := Aside0.mk (wB HB.out hb)
  replace S0 := Aside0.mk (Kd.C_below S0.out hb)
  have S1 := Aside0.mk s1
  clear hb s1
  generalize w3.alloc (.cells #[.int .i64 0, .int .i64 1] 49) = w4 at *
  rw [← hz]
  clear hz
  generalize w3.heap.size = g1 at *
  have s2 : k47.C (w4.alloc (.cells #[.int .i64 1, .int .i64 0, .int .i64 1, .slice (some ⟨g0, 0, none⟩) 1 1, .int .i64 0, .int .i64 0, .int .i64 0, .slice none 0 0, .int .i64 1, .int .i64 0, .int .i64 2, .slice (some ⟨g1, 0, none⟩) 1 1, .int .i64 0, .int .i64 0, .int .i64 0, .slice none 0 0] 47)) (some ⟨w4.heap.size, 0, none⟩) 2 [xw 1 0, xw 2 1] := lit_C k47 w4 47 [xw 1 0, xw 2 1] [.int .i64 1, .int .i64 0, .int .i64 1, .slice (some ⟨g0, 0, none⟩) 1 1, .int .i64 0, .int .i64 0, .int .i64 0, .slice none 0 0, .int .i64 1, .int .i64 0, .int .i64 2, .slice (some ⟨g1, 0, none⟩) 1 1, .int .i64 0, .int .i64 0, .int .i64 0, .slice none 0 0]
    (reps2 (c := [.int .i64 1, .int .i64 0, .int .i64 1, .slice (some ⟨g0, 0, none⟩) 1 1, .int .i64 0, .int .i64 0, .int .i64 0, .slice none 0 0]) (c' := [.int .i64 1, .int .i64 0, .int .i64 2, .slice (some ⟨g1, 0, none⟩) 1 1, .int .i64 0, .int .i64 0, .int .i64 0, .slice none 0 0]) (k47_mk w4 (xw 1 0) (Nat.le_refl 1) S0.out (Nat.le_refl 0) (nil_C w4)) rfl (k47_mk w4 (xw 2 1) (Nat.le_refl 1) S1.out (Nat.le_refl 0) (nil_C w4)) rfl) (by decide)
  have hb := bodies w4 (.cells #[.int .i64 1, .int .i64 0, .int .i64 1, .slice (some ⟨g0, 0, none⟩) 1 1, .int .i64 0, .int .i64 0, .int .i64 0, .slice none 0 0, .int .i64 1, .int .i64 0, .int .i64 2, .slice (some ⟨g1, 0, none⟩) 1 1, .int .i64 0, .int .i64 0, .int .i64 0, .slice none 0 0] 47)
  replace HB := Aside0.mk (wB HB.out hb)
  have S2 := Aside0.mk s2
  clear hb s2 S0 S1
  generalize w4.alloc (.cells #[.int .i64 1, .int .i64 0, .int .i64 1, .slice (some ⟨g0, 0, none⟩) 1 1, .int .i64 0, .int .i64 0, .int .i64 0, .slice none 0 0, .int .i64 1, .int .i64 0, .int .i64 2, .slice (some ⟨g1, 0, none⟩) 1 1, .int .i64 0, .int .i64 0, .int .i64 0, .slice none 0 0] 47) = w5 at *
  generalize w4.heap.size = g2 at *
  go_wp2_with (fail)
  have s3 : k43.C (w5.alloc (.cells #[.int .i64 0, .slice (some ⟨g2, 0, none⟩) 2 2, .slice none 0 0] 43)) (some ⟨w5.heap.size, 0, none⟩) 1 [blw] := lit_C k43 w5 43 [blw] [.int .i64 0, .slice (some ⟨g2, 0, none⟩) 2 2, .slice none 0 0] (reps1 (k43_mk w5 blw (Nat.le_refl 2) S2.out (Nat.le_refl 0) (nil_C w5)) rfl) (by decide)
  have hb := bodies w5 (.cells #[.int .i64 0, .slice (some ⟨g2, 0, none⟩) 2 2, .slice none 0 0] 43)
  replace HB := Aside0.mk (wB HB.out hb)
  clear hb S2
  generalize w5.alloc (.cells #[.int .i64 0, .slice (some ⟨g2, 0, none⟩) 2 2, .slice none 0 0] 43) = w6 at *
  generalize w5.heap.size = g3 at *
  refine (run_calls 0 3 (some ⟨g3, 0, none⟩) 1 [blw] w6 s3 ok_works).mono ?_
  rintro e w7 ⟨v, rfl, hr, hb⟩
  rw [run_works] at hr
  have hcs := bly_cells hr
  obtain ⟨gv, cv, gi, ci, AN, cn, ga, ca, A7, c7, gb, cb, B7, d7, rfl, x0, x1, x2, ⟨y0, y1, y2, y3, y4, y5, y6, y7⟩, ⟨z0, z1, z2, z3, z4, z5, z6, z7⟩, CA, CB⟩ := hcs
  replace HB := Aside0.mk (wB HB.out hb)
  clear hb hr s3
  go_upto_region 3 with (fail)
  have hb := bodies w7 (.cells #[.int .i64 0, .int .i64 3, .slice (some ⟨gv, 0, none⟩) 1 cv] 24)
  have KB := blk_new w7 (.cells #[.int .i64 0, .int .i64 3, .slice (some ⟨gv, 0, none⟩) 1 cv] 24)
  replace HB := Aside0.mk (wB HB.out hb)
  replace x0 := pw_cell_below hb x0
  replace x1 := pw_cell_below hb x1
  replace x2 := pw_cell_below hb x2
  replace y0 := pw_cell_below hb y0
  replace y1 := pw_cell_below hb y1
  replace y2 := pw_cell_below hb y2
  replace y3 := pw_cell_below hb y3
  replace y4 := pw_cell_below hb y4
  replace y5 := pw_cell_below hb y5
  replace y6 := pw_cell_below hb y6
  replace y7 := pw_cell_below hb y7
  replace z0 := pw_cell_below hb z0
  replace z1 := pw_cell_below hb z1
  replace z2 := pw_cell_below hb z2
  replace z3 := pw_cell_below hb z3
  replace z4 := pw_cell_below hb z4
  replace z5 := pw_cell_below hb z5
  replace z6 := pw_cell_below hb z6
  replace z7 := pw_cell_below hb z7
  replace CA := Aside0.mk (Kd.C_below CA hb)
  replace CB := Aside0.mk (Kd.C_below CB hb)
  clear hb
  generalize w7.alloc (.cells #[.int .i64 0, .int .i64 3, .slice (some ⟨gv, 0, none⟩) 1 cv] 24) = w8 at *
  generalize w7.heap.size = gd at *
  have d1 : w8.cell? ⟨gd, 1, none⟩ = some (.int .i64 3) := blk_cell KB 1
  have d2 : w8.cell? ⟨gd, 2, none⟩ = some (.slice (some ⟨gv, 0, none⟩) 1 cv) := blk_cell KB 2
  replace KB := Aside0.mk KB
  go_upto_region 6 with (fail)
  clear y0 y1 y2 y3 y4 y5 y6 y7 d1 d2 x0 x2
  have hb := bodies w8 (.cells #[.int .i64 1, .int .i64 0, .int .i64 1, .slice (some ⟨ga, 0, none⟩) 1 ca, .int .i64 0, .int .i64 0, .int .i64 0, .slice A7 0 c7] 47)
  have KE := blk_new w8 (.cells #[.int .i64 1, .int .i64 0, .int .i64 1, .slice (some ⟨ga, 0, none⟩) 1 ca, .int .i64 0, .int .i64 0, .int .i64 0, .slice A7 0 c7] 47)
  replace HB := Aside0.mk (wB HB.out hb)
  replace x1 := pw_cell_below hb x1
  replace z0 := pw_cell_below hb z0
  replace z1 := pw_cell_below hb z1
  replace z2 := pw_cell_below hb z2
  replace z3 := pw_cell_below hb z3
  replace z4 := pw_cell_below hb z4
  replace z5 := pw_cell_below hb z5
  replace z6 := pw_cell_below hb z6
  replace z7 := pw_cell_below hb z7
  replace CA := Kd.C_below CA.out hb
  replace CB := Kd.C_below CB.out hb
  replace KB := blk_below KB.out hb
  clear hb
  generalize w8.alloc (.cells #[.int .i64 1, .int .i64 0, .int .i64 1, .slice (some ⟨ga, 0, none⟩) 1 ca, .int .i64 0, .int .i64 0, .int .i64 0, .slice A7 0 c7] 47) = w9 at *
  generalize w8.heap.size = ge at *
  have d2 : w9.cell? ⟨gd, 2, none⟩ = some (.slice (some ⟨gv, 0, none⟩) 1 cv) := blk_cell KB 2
  have HKE := Aside0.mk KE
  have HCA := Aside0.mk CA
  have HCB := Aside0.mk CB
  clear KE CA CB KB
  go_upto_region 7 with (fail)
  have hb := bodies w9 (.cells #[.int .i64 1, .int .i64 0, .int .i64 2, .slice (some ⟨gb, 0, none⟩) 1 cb, .int .i64 0, .int .i64 0, .int .i64 0, .slice B7 0 d7] 47)
  have KF := blk_new w9 (.cells #[.int .i64 1, .int .i64 0, .int .i64 2, .slice (some ⟨gb, 0, none⟩) 1 cb, .int .i64 0, .int .i64 0, .int .i64 0, .slice B7 0 d7] 47)
  replace HB := Aside0.mk (wB HB.out hb)
  replace HCA := Aside0.mk (Kd.C_below HCA.out hb)
  replace HCB := Aside0.mk (Kd.C_below HCB.out hb)
  replace HKE := Aside0.mk (blk_below HKE.out hb)
  clear hb x1 z0 z1 z2 z3 z4 z5 z6 z7 d2
  generalize w9.alloc (.cells #[.int .i64 1, .int .i64 0, .int .i64 2, .slice (some ⟨gb, 0, none⟩) 1 cb, .int .i64 0, .int .i64 0, .int .i64 0, .slice B7 0 d7] 47) = wa at *
  generalize w9.heap.size = gf at *
  have HKF := Aside0.mk KF
  clear KF
  go_wp2_with (fail)
  rename_i hK
  refine RegInv.region_facts (by kernel_rfl) (by kernel_rfl) (fun a b => Below a.heap.size a b) (fun a b c h k => wB h k) (below_drew1 (Below.refl _ _)) dW7 23 (by kernel_rfl) (by kernel_rfl) (by kernel_rfl) (FW7 ge gf ga gb ca cb) (FW7_below ge gf ga gb ca cb) ?hsW7 ?heW7
  case hsW7 =>
    clear hK HB
    intro i o a w8 hi hM
    have hlt : i < 23 := (Array.getElem?_eq_some_iff.1 hi).1
    have KE' := blk_below HKE.out hM.ext
    have KF' := blk_below HKF.out hM.ext
    have CA' := Kd.C_below HCA.out hM.ext
    have CB' := Kd.C_below HCB.out hM.ext
    rcases i with _ | _ | _ | _ | _ | _ | _ | _ | _ | _ | _ | _ | _ | _ | _ | _ | _ | _ | _ | _ | _ | _ | _ | i
    · cases hi
      have h0 := gdq _ _ _ (show a.tmps.getD 3 undef = .pointer (some ⟨ge, 0, none⟩) from hM.off 3 (by kernel_rfl))
      refine RegInv.op_value (by rfl) rfl (v := .pointer (some ⟨ge, 3, none⟩)) (w' := w8) ?_ ⟨_, rfl, rfl, Below.refl _ _⟩
      unfold execOp
      go_simp
    · cases hi
      have h0 := gdq _ _ _ (show a.tmps.getD 49 undef = .pointer (some ⟨ge, 3, none⟩) from hM.at_ 0 (by decide) (by kernel_rfl))
      have y : w8.cell? ⟨ge, 3, none⟩ = some (.slice (some ⟨ga, 0, none⟩) 1 ca) := blk_cell KE' 3
      refine RegInv.op_value (by rfl) rfl (v := .slice (some ⟨ga, 0, none⟩) 1 ca) (w' := w8) ?_ ⟨_, rfl, rfl, Below.refl _ _⟩
      unfold execOp
      go_simp
    · cases hi
      refine RegInv.op_call (by rfl) rfl Try.func16 (by kernel_rfl) rfl rfl #[.int .i64 0] (by simp [Act.eval]) ?_
      refine (reg_calls 0 w8).mono ?_
      rintro e w9 ⟨rfl, b⟩
      exact ⟨_, rfl, _, rfl, rfl, b⟩
    · cases hi
      have h0 := gdq _ _ _ (show a.tmps.getD 51 undef = .agg #[.int .i64 0, .int .i64 0] from hM.at_ 2 (by decide) (by kernel_rfl))
      refine RegInv.op_value (by rfl) rfl (v := .slice (some ⟨w8.heap.size, 0, none⟩) 1 1) (w' := w8.alloc (.cells #[.int .i64 0, .int .i64 0] 49)) ?_ ⟨_, rfl, ⟨_, _, rfl, Nat.le_refl _, lit_C k49 w8 49 [⟨0, 0⟩] [.int .i64 0, .int .i64 0] (reps1 (k49_mk w8 ⟨0, 0⟩) rfl) (by decide)⟩, below_alloc (Below.refl _ _) _⟩
      unfold execOp
      go_simp
    · cases hi
      have h0 := gdq _ _ _ (show a.tmps.getD 50 undef = .slice (some ⟨ga, 0, none⟩) 1 ca from hM.at_ 1 (by decide) (by kernel_rfl))
      obtain ⟨A, c, hv, hl, hC⟩ : Sl k49 [⟨0, 0⟩] w8 (a.tmps.getD 52 undef) := hM.at_ 3 (by decide) (by kernel_rfl)
      replace hv := gdq _ _ _ hv
      refine RegInv.op_call (by rfl) rfl Try.func23 (by kernel_rfl) rfl rfl #[.slice (some ⟨ga, 0, none⟩) 1 ca, .slice A 1 c] (by simp [Act.eval, h0, hv]) ?_
      refine (same_ops (some ⟨ga, 0, none⟩) A ca c w8 CA' hC).mono ?_
      rintro e w9 ⟨rfl, b⟩
      exact ⟨_, rfl, _, rfl, rfl, b⟩
    · cases hi
      have h0 := gdq _ _ _ (show a.tmps.getD 53 undef = .bool true from hM.at_ 4 (by decide) (by kernel_rfl))
      refine RegInv.op_value (by rfl) rfl (v := .bool true) (w' := w8) ?_ ⟨_, rfl, rfl, Below.refl _ _⟩
      unfold execOp
      go_simp
    · cases hi
      have h0 := gdq _ _ _ (show a.tmps.getD 4 undef = .pointer (some ⟨gf, 0, none⟩) from hM.off 4 (by kernel_rfl))
      have hg : a.tmps.getD 54 undef = .bool true := hM.at_ 5 (by decide) (by kernel_rfl)
      refine RegInv.op_valueW (by rfl) (RegInv.wanted_of 54 rfl rfl hg) (v := .pointer (some ⟨gf, 3, none⟩)) (w' := w8) ?_ ⟨_, rfl, rfl, Below.refl _ _⟩
      unfold execOp
      go_simp
    · cases hi
      have h0 := gdq _ _ _ (show a.tmps.getD 55 undef = .pointer (some ⟨gf, 3, none⟩) from hM.at_ 6 (by decide) (by kernel_rfl))
      have hg : a.tmps.getD 54 undef = .bool true := hM.at_ 5 (by decide) (by kernel_rfl)
      have y : w8.cell? ⟨gf, 3, none⟩ = some (.slice (some ⟨gb, 0, none⟩) 1 cb) := blk_cell KF' 3
      refine RegInv.op_valueW (by rfl) (RegInv.wanted_of 54 rfl rfl hg) (v := .slice (some ⟨gb, 0, none⟩) 1 cb) (w' := w8) ?_ ⟨_, rfl, rfl, Below.refl _ _⟩
      unfold execOp
      go_simp
    · cases hi
      have hg : a.tmps.getD 54 undef = .bool true := hM.at_ 5 (by decide) (by kernel_rfl)
      refine RegInv.op_callW (by rfl) (RegInv.wanted_of 54 rfl rfl hg) Try.func16 (by kernel_rfl) rfl rfl #[.int .i64 0] (by simp [Act.eval]) ?_
      refine (reg_calls 0 w8).mono ?_
      rintro e w9 ⟨rfl, b⟩
      exact ⟨_, rfl, _, rfl, rfl, b⟩
    · cases hi
      have h0 := gdq _ _ _ (show a.tmps.getD 57 undef = .agg #[.int .i64 0, .int .i64 0] from hM.at_ 8 (by decide) (by kernel_rfl))
      have hg : a.tmps.getD 54 undef = .bool true := hM.at_ 5 (by decide) (by kernel_rfl)
      refine RegInv.op_valueW (by rfl) (RegInv.wanted_of 54 rfl rfl hg) (v := .slice (some ⟨w8.heap.size, 0, none⟩) 1 1) (w' := w8.alloc (.cells #[.int .i64 0, .int .i64 0] 49)) ?_ ⟨_, rfl, ⟨_, _, rfl, Nat.le_refl _, lit_C k49 w8 49 [⟨0, 0⟩] [.int .i64 0, .int .i64 0] (reps1 (k49_mk w8 ⟨0, 0⟩) rfl) (by decide)⟩, below_alloc (Below.refl _ _) _⟩
      unfold execOp
      go_simp
    · cases hi
      have h0 := gdq _ _ _ (show a.tmps.getD 56 undef = .slice (some ⟨gb, 0, none⟩) 1 cb from hM.at_ 7 (by decide) (by kernel_rfl))
      obtain ⟨A, c, hv, hl, hC⟩ : Sl k49 [⟨0, 0⟩] w8 (a.tmps.getD 58 undef) := hM.at_ 9 (by decide) (by kernel_rfl)
      replace hv := gdq _ _ _ hv
      have hg : a.tmps.getD 54 undef = .bool true := hM.at_ 5 (by decide) (by kernel_rfl)
      refine RegInv.op_callW (by rfl) (RegInv.wanted_of 54 rfl rfl hg) Try.func23 (by kernel_rfl) rfl rfl #[.slice (some ⟨gb, 0, none⟩) 1 cb, .slice A 1 c] (by simp [Act.eval, h0, hv]) ?_
      refine (same_ops (some ⟨gb, 0, none⟩) A cb c w8 CB' hC).mono ?_
      rintro e w9 ⟨rfl, b⟩
      exact ⟨_, rfl, _, rfl, rfl, b⟩
    · cases hi
      have h0 := gdq _ _ _ (show a.tmps.getD 54 undef = .bool true from hM.at_ 5 (by decide) (by kernel_rfl))
      have h1 := gdq _ _ _ (show a.tmps.getD 59 undef = .bool true from hM.at_ 10 (by decide) (by kernel_rfl))
      refine RegInv.op_value (by rfl) rfl (v := .bool true) (w' := w8) ?_ ⟨_, rfl, rfl, Below.refl _ _⟩
      unfold execOp
      go_simp
    · cases hi
      have h0 := gdq _ _ _ (show a.tmps.getD 60 undef = .bool true from hM.at_ 11 (by decide) (by kernel_rfl))
      refine RegInv.op_value (by rfl) rfl (v := .bool true) (w' := w8) ?_ ⟨_, rfl, rfl, Below.refl _ _⟩
      unfold execOp
      go_simp
    · cases hi
      have h0 := gdq _ _ _ (show a.tmps.getD 3 undef = .pointer (some ⟨ge, 0, none⟩) from hM.off 3 (by kernel_rfl))
      have hg : a.tmps.getD 61 undef = .bool true := hM.at_ 12 (by decide) (by kernel_rfl)
      refine RegInv.op_valueW (by rfl) (RegInv.wanted_of 61 rfl rfl hg) (v := .pointer (some ⟨ge, 2, none⟩)) (w' := w8) ?_ ⟨_, rfl, rfl, Below.refl _ _⟩
      unfold execOp
      go_simp
    · cases hi
      have h0 := gdq _ _ _ (show a.tmps.getD 62 undef = .pointer (some ⟨ge, 2, none⟩) from hM.at_ 13 (by decide) (by kernel_rfl))
      have hg : a.tmps.getD 61 undef = .bool true := hM.at_ 12 (by decide) (by kernel_rfl)
      have y : w8.cell? ⟨ge, 2, none⟩ = some (.int .i64 1) := blk_cell KE' 2
      refine RegInv.op_valueW (by rfl) (RegInv.wanted_of 61 rfl rfl hg) (v := .int .i64 1) (w' := w8) ?_ ⟨_, rfl, rfl, Below.refl _ _⟩
      unfold execOp
      go_simp
    · cases hi
      have h0 := gdq _ _ _ (show a.tmps.getD 63 undef = .int .i64 1 from hM.at_ 14 (by decide) (by kernel_rfl))
      have hg : a.tmps.getD 61 undef = .bool true := hM.at_ 12 (by decide) (by kernel_rfl)
      refine RegInv.op_valueW (by rfl) (RegInv.wanted_of 61 rfl rfl hg) (v := .bool true) (w' := w8) ?_ ⟨_, rfl, rfl, Below.refl _ _⟩
      unfold execOp
      go_simp
    · cases hi
      have h0 := gdq _ _ _ (show a.tmps.getD 61 undef = .bool true from hM.at_ 12 (by decide) (by kernel_rfl))
      have h1 := gdq _ _ _ (show a.tmps.getD 64 undef = .bool true from hM.at_ 15 (by decide) (by kernel_rfl))
      refine RegInv.op_value (by rfl) rfl (v := .bool true) (w' := w8) ?_ ⟨_, rfl, rfl, Below.refl _ _⟩
      unfold execOp
      go_simp
    · cases hi
      have h0 := gdq _ _ _ (show a.tmps.getD 65 undef = .bool true from hM.at_ 16 (by decide) (by kernel_rfl))
      refine RegInv.op_value (by rfl) rfl (v := .bool true) (w' := w8) ?_ ⟨_, rfl, rfl, Below.refl _ _⟩
      unfold execOp
      go_simp
    · cases hi
      have h0 := gdq _ _ _ (show a.tmps.getD 4 undef = .pointer (some ⟨gf, 0, none⟩) from hM.off 4 (by kernel_rfl))
      have hg : a.tmps.getD 66 undef = .bool true := hM.at_ 17 (by decide) (by kernel_rfl)
      refine RegInv.op_valueW (by rfl) (RegInv.wanted_of 66 rfl rfl hg) (v := .pointer (some ⟨gf, 2, none⟩)) (w' := w8) ?_ ⟨_, rfl, rfl, Below.refl _ _⟩
      unfold execOp
      go_simp
    · cases hi
      have h0 := gdq _ _ _ (show a.tmps.getD 67 undef = .pointer (some ⟨gf, 2, none⟩) from hM.at_ 18 (by decide) (by kernel_rfl))
      have hg : a.tmps.getD 66 undef = .bool true := hM.at_ 17 (by decide) (by kernel_rfl)
      have y : w8.cell? ⟨gf, 2, none⟩ = some (.int .i64 2) := blk_cell KF' 2
      refine RegInv.op_valueW (by rfl) (RegInv.wanted_of 66 rfl rfl hg) (v := .int .i64 2) (w' := w8) ?_ ⟨_, rfl, rfl, Below.refl _ _⟩
      unfold execOp
      go_simp
    · cases hi
      have h0 := gdq _ _ _ (show a.tmps.getD 68 undef = .int .i64 2 from hM.at_ 19 (by decide) (by kernel_rfl))
      have hg : a.tmps.getD 66 undef = .bool true := hM.at_ 17 (by decide) (by kernel_rfl)
      refine RegInv.op_valueW (by rfl) (RegInv.wanted_of 66 rfl rfl hg) (v := .bool true) (w' := w8) ?_ ⟨_, rfl, rfl, Below.refl _ _⟩
      unfold execOp
      go_simp
    · cases hi
      have h0 := gdq _ _ _ (show a.tmps.getD 66 undef = .bool true from hM.at_ 17 (by decide) (by kernel_rfl))
      have h1 := gdq _ _ _ (show a.tmps.getD 69 undef = .bool true from hM.at_ 20 (by decide) (by kernel_rfl))
      refine RegInv.op_value (by rfl) rfl (v := .bool true) (w' := w8) ?_ ⟨_, rfl, rfl, Below.refl _ _⟩
      unfold execOp
      go_simp
    · cases hi
      have h0 := gdq _ _ _ (show a.tmps.getD 70 undef = .bool true from hM.at_ 21 (by decide) (by kernel_rfl))
      refine RegInv.op_value (by rfl) rfl (v := .bool true) (w' := w8) ?_ ⟨_, rfl, rfl, Below.refl _ _⟩
      unfold execOp
      go_simp
    · exact absurd hlt (by omega)
  intro vs w10 b3 hF
  have e22 : vs 22 = .bool true := hF 22 (by omega)
  clear hF
  simp only [RegInv.puts, dW7, Act.put, List.range, List.range.loop, List.setIfInBounds_toArray, List.set_cons_zero, List.set_cons_succ]
  rw [e22]
  refine hK _ _ ?_
  clear hK
  go_wp2
  go_ret
  exact ⟨rfl, wB HB.out b3⟩
end Go.Proofs.Ytjekpkpmoanadaa.PCop
