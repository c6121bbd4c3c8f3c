/- KeptValues: a list as it was lent is found kept. For every world. -/
import Derived.Test.YtgbbcjooieggpaaRefRegs
namespace Go.Proofs.Ytgbbcjooieggpaa.PRegs
open Go.RowKit Go.Proofs.Ytgbbcjooieggpaa.Lit Go.Proofs.Ytgbbcjooieggpaa.OwnCells Go.Proofs.YtgbbcjooieggpaaW.PrintWords Go.Proofs.YtgbbcjooieggpaaW.PrintLast Go.Proofs.YtgbbcjooieggpaaW.PrintMore
set_option linter.unusedVariables false
set_option linter.unusedSimpArgs false
def sp35 (i : Nat) : List S35 := (List.range i).map fun (j : Nat) => (⟨-9, (j : Int)⟩ : S35)
theorem sp35_len (i : Nat) : (sp35 i).length = i := by unfold sp35; simp
theorem below_set2 {B : Nat} {w w1 : World} {g : Nat} (h : Below B w w1) (hg : B ≤ g) (a b : Value) : Below B w ((w1.setCell ⟨g, 0, none⟩ a).setCell ⟨g, 1, none⟩ b) := (h.setCell hg _).setCell hg _
set_option maxHeartbeats 2000000 in
set_option maxRecDepth 100000 in
theorem kept_values (A B : Option Addr) (c d : Nat) (v : List S35) (w : World) (hA : k35.C w A (v ++ sp35 64).length (v ++ sp35 64)) (hB : k35.C w B v.length v) (hv : v.length ≤ 8796093021952) :
    Calls Try.prog 15 #[.slice A (v ++ sp35 64).length c, .slice B v.length d] w fun e w' => e = .returned (.bool true) ∧ Below w.heap.size w w' := by
  have hlen : (v ++ sp35 64).length = v.length + 64 := by rw [List.length_append, sp35_len]
  rw [hlen] at hA ⊢
  have HL := Aside0.mk hlen
  have HA := Aside0.mk hA
  have HB := Aside0.mk hB
  clear hA hB hlen
  go_enter Try.func15, Try.ntmps15
  go_wp2
  go_loopw [5, 6] (fun t _ wr => ∃ i : Nat, i ≤ v.length + 64 ∧ t = .int .i64 i ∧ Below w.heap.size w wr) (fun t _ _ => v.length + 64 - (intOf t).toNat)
  case atStart => exact ⟨0, Nat.zero_le _, rfl, Below.refl _ _⟩
  case round =>
    obtain ⟨i, hi, rfl, hb⟩ := hrel
    have HW := Aside0.mk hb
    clear hb
    by_cases hlt : i < v.length + 64
    · obtain ⟨a, rfl, x0, x1⟩ := at_T35 (Kd.C_below HA.out HW.out) (i : Int) (by omega) (by omega)
      rw [Int.toNat_natCast] at x0 x1
      have hrd : rd_T35 (v ++ sp35 64) (i : Int) = if h : i < v.length then v[i] else ⟨-9, (i : Int) - (v.length : Int)⟩ := by
        have hl := HL.out
        rw [PureR.rd35 _ i (by omega)]
        split
        · rename_i h
          rw [List.getElem_append_left h]
        · rename_i h
          rw [List.getElem_append_right (by omega)]
          simp [sp35]
          omega
      go_upto_region 7 with (fail)
      have b3 := below_alloc (Below.refl _ wr) (.cells #[.int .i64 (-9), .int .i64 ((i : Int) - (v.length : Int))] 35)
      have K5 := blk_new wr (.cells #[.int .i64 (-9), .int .i64 ((i : Int) - (v.length : Int))] 35)
      generalize hw1 : wr.alloc (.cells #[.int .i64 (-9), .int .i64 ((i : Int) - (v.length : Int))] 35) = w1 at *
      generalize hg5 : wr.heap.size = g5 at *
      by_cases hiv : i < v.length
      · rw [dif_pos hiv] at hrd
        obtain ⟨b, rfl, y0, y1⟩ := at_T35 (Kd.C_below HB.out HW.out) (i : Int) (by omega) (by omega)
        rw [PureR.rd35 _ i hiv] at y0 y1
        rw [hrd] at x0 x1
        rw [Int.toNat_natCast] at y0 y1
        have z0 : w1.cell? ⟨g5, 0, none⟩ = some (.int .i64 (-9)) := blk_cell K5 0
        have z1 : w1.cell? ⟨g5, 1, none⟩ = some (.int .i64 ((i : Int) - (v.length : Int))) := blk_cell K5 1
        have f0 : w1.frozen? ⟨g5, 0, none⟩ = false := blk_frozen K5 0
        have f1 : w1.frozen? ⟨g5, 1, none⟩ = false := blk_frozen K5 1
        have b4 : Below wr.heap.size wr ((w1.setCell ⟨g5, 0, none⟩ (.int .i64 v[i].f0)).setCell ⟨g5, 1, none⟩ (.int .i64 v[i].f1)) := below_set2 (by rw [hg5]; exact b3) (by omega) _ _
        have x0' := pw_cell_below b4 x0
        have x1' := pw_cell_below b4 x1
        have K6 : ((w1.setCell ⟨g5, 0, none⟩ (.int .i64 v[i].f0)).setCell ⟨g5, 1, none⟩ (.int .i64 v[i].f1)).heap[g5]? = some (.cells #[.int .i64 v[i].f0, .int .i64 v[i].f1] 35 (0, 0)) := blk_put (blk_put K5 0 _ rfl) 1 _ rfl
        have y0' : w1.cell? (b.add (i * 2)) = some (.int .i64 v[i].f0) := pw_cell_below (by rw [hg5]; exact b3) y0
        have y1' : w1.cell? ⟨(b.add (i * 2)).block, (b.add (i * 2)).off + 1, none⟩ = some (.int .i64 v[i].f1) := pw_cell_below (by rw [hg5]; exact b3) y1
        have HX := Aside0.mk (And.intro x0' (And.intro x1' (And.intro K6 b4)))
        clear hrd x0 x1 x0' x1' y0 y1 K6 b4 b3 K5 hw1 hg5
        generalize v[i] = x at *
        go_upto_region 9 with (fail)
        obtain ⟨x0, x1, K6, b4⟩ := HX.out
        clear y0' y1' z0 z1 f0 f1 HX
        generalize (w1.setCell ⟨g5, 0, none⟩ (.int .i64 x.f0)).setCell ⟨g5, 1, none⟩ (.int .i64 x.f1) = w2 at *
        replace HW := Aside0.mk (wB HW.out b4)
        have z0 : w2.cell? ⟨g5, 0, none⟩ = some (.int .i64 x.f0) := blk_cell K6 0
        have z1 : w2.cell? ⟨g5, 1, none⟩ = some (.int .i64 x.f1) := blk_cell K6 1
        clear K6 b4
        go_quiet (fail)
        go_wp2
        go_roundw
        case rel => exact ⟨i + 1, by omega, by go_num, wB HW.out (pw_below_drewN (Below.refl _ _) _)⟩
        case measure => simp [intOf]; omega
      · rw [dif_neg hiv] at hrd
        rw [hrd] at x0 x1
        have z0 : w1.cell? ⟨g5, 0, none⟩ = some (.int .i64 (-9)) := blk_cell K5 0
        have z1 : w1.cell? ⟨g5, 1, none⟩ = some (.int .i64 ((i : Int) - (v.length : Int))) := blk_cell K5 1
        replace x0 : w1.cell? (a.add (i * 2)) = some (.int .i64 (-9)) := pw_cell_below (by rw [hg5]; exact b3) x0
        replace x1 : w1.cell? ⟨(a.add (i * 2)).block, (a.add (i * 2)).off + 1, none⟩ = some (.int .i64 ((i : Int) - (v.length : Int))) := pw_cell_below (by rw [hg5]; exact b3) x1
        replace HW := Aside0.mk (wB HW.out (by rw [hg5]; exact b3))
        have hd : decide (i < v.length) = false := decide_eq_false hiv
        clear hrd K5 b3 hw1 hg5 hiv
        go_wp2
        go_quiet (fail)
        go_wp2
        go_roundw
        case rel => exact ⟨i + 1, by omega, by go_num, wB HW.out (pw_below_drewN (Below.refl _ _) _)⟩
        case measure => simp [intOf]; omega
    · go_wp2
      go_ret
      exact ⟨rfl, HW.out⟩
end Go.Proofs.Ytgbbcjooieggpaa.PRegs
