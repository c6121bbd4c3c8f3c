/- shown's contract: the chapter's examples hold. For every world. -/
import Derived.Test.YtgbbcjooieggpaaPFramesx7
import Derived.Test.YtgbbcjooieggpaaPFramesx5
import Derived.Test.YtgbbcjooieggpaaLit
namespace Go.Proofs.Ytgbbcjooieggpaa.PFrames
set_option linter.unusedVariables false
set_option linter.unusedSimpArgs false
open Go.RowKit Go.Proofs.Ytgbbcjooieggpaa.Lit Go.Proofs.YtgbbcjooieggpaaW.PrintWords Go.Proofs.YtgbbcjooieggpaaW.PrintLast Go.Proofs.YtgbbcjooieggpaaW.PrintMore
theorem k27_K {w : World} {x : S27} {v : Value} (h : Sl k35 x.f2 w v) : k27.K w x [.int .i64 x.f0, .int .i64 x.f1, v] := by
  obtain ⟨A, c, rfl, h2, h3⟩ := h
  exact k27_mk w x h2 h3
def d4 : Nat → Option Tmp
  | 0 => some 28
  | 1 => some 29
  | 2 => some 30
  | 3 => some 31
  | 4 => some 32
  | 5 => some 33
  | 6 => some 34
  | 7 => some 35
  | 8 => some 36
  | 9 => some 37
  | 10 => some 4
  | _ => none
def F4 (g1 : Nat) : Nat → World → Value → Prop
  | 0, _, v => v = .agg #[.int .i64 2, .int .i64 7]
  | 1, w, v => Sl k35 [⟨2, 7⟩] w v
  | 2, w, v => ∃ u, v = .agg #[.int .i64 1, .int .i64 5, u] ∧ Sl k35 [⟨2, 7⟩] w u
  | 3, _, v => v = .agg #[.int .i64 2, .int .i64 3]
  | 4, _, v => v = .slice (some ⟨g1, 0, none⟩) 2 2
  | 5, _, v => v = .pointer (some ⟨g1, 2, none⟩)
  | 6, _, v => v = .agg #[.int .i64 1, .int .i64 1]
  | 7, w, v => Sl k35 [⟨2, 3⟩, ⟨1, 1⟩] w v
  | 8, w, v => ∃ u, v = .agg #[.int .i64 2, .int .i64 0, u] ∧ Sl k35 [⟨2, 3⟩, ⟨1, 1⟩] w u
  | _, w, v => Sl k27 [⟨1, 5, [⟨2, 7⟩]⟩, ⟨2, 0, [⟨2, 3⟩, ⟨1, 1⟩]⟩] w v
theorem F4_below (g1 : Nat) (i : Nat) (w w1 : World) (v : Value) (h : F4 g1 i w v) (hb : Below w.heap.size w w1) : F4 g1 i w1 v := by
  match i with
  | 0 | 3 | 4 | 5 | 6 => exact h
  | 1 | 7 | 9 => exact Sl.below h hb
  | 2 | 8 => obtain ⟨u, h1, h2⟩ := h; exact ⟨u, h1, h2.below hb⟩
  | (n + 10) => exact Sl.below h hb

def theShapes : List S67 := [⟨1, 5, [⟨0, 0⟩]⟩, ⟨2, 0, [⟨3, 3⟩, ⟨0, 1⟩]⟩]
def theBlocks : List S63 := [⟨0, [], []⟩, ⟨6, [⟨6, 0, -1, [], 0, 6, 0, [⟨1, 6, [⟨0, 0⟩, ⟨0, 2⟩]⟩]⟩], []⟩]
def theFrames : List S27 := [⟨1, 5, [⟨2, 7⟩]⟩, ⟨2, 0, [⟨2, 3⟩, ⟨1, 1⟩]⟩]
theorem k67_K {w : World} {x : S67} {v : Value} (h : Sl k44 x.f2 w v) : k67.K w x [.int .i64 x.f0, .int .i64 x.f1, v] := by
  obtain ⟨A, c, rfl, h2, h3⟩ := h
  exact k67_mk w x h2 h3
def d10 : Nat → Option Tmp
  | 0 => some 67
  | 1 => some 68
  | 2 => some 69
  | 3 => some 70
  | 4 => some 71
  | 5 => some 72
  | 6 => some 66
  | 7 => some 73
  | 8 => some 74
  | 9 => some 75
  | 10 => some 9
  | 11 => some 10
  | 12 => some 11
  | _ => none
def F10 (g : Nat) : Nat → World → Value → Prop
  | 0, _, v => v = .agg #[.int .i64 1, .int .i64 4, .slice (some ⟨g, 0, none⟩) 2 2]
  | 1, _, v => v = .agg #[.int .i64 0, .int .i64 0]
  | 2, _, v => v = .agg #[.int .i64 2, .int .i64 9]
  | 3, w, v => Sl k35 [⟨0, 0⟩, ⟨2, 9⟩] w v
  | 4, w, v => ∃ u, v = .agg #[.int .i64 1, .int .i64 6, u] ∧ Sl k35 [⟨0, 0⟩, ⟨2, 9⟩] w u
  | 5, w, v => ∃ u, v = .tuple #[u, .int .i64 1, .bool true] ∧ Sl k35 [⟨0, 0⟩, ⟨0, 0⟩, ⟨2, 9⟩, ⟨0, 0⟩] w u
  | 6, w, v => ∃ u, v = .tuple #[u, .int .i64 1, .bool true] ∧ Sl k35 [⟨0, 0⟩, ⟨0, 0⟩, ⟨2, 9⟩, ⟨0, 0⟩] w u
  | 7, w, v => Sl k35 [⟨0, 0⟩, ⟨0, 0⟩, ⟨2, 9⟩, ⟨0, 0⟩] w v
  | 8, _, v => v = .int .i64 1
  | 9, _, v => v = .bool true
  | 10, w, v => Sl k35 [⟨0, 0⟩, ⟨0, 0⟩, ⟨2, 9⟩, ⟨0, 0⟩] w v
  | 11, _, v => v = .int .i64 1
  | 12, _, v => v = .bool true
  | _, _, _ => True
theorem F10_below (g : Nat) (i : Nat) (w w1 : World) (v : Value) (h : F10 g i w v) (hb : Below w.heap.size w w1) : F10 g i w1 v := by
  match i with
  | 0 | 1 | 2 | 8 | 9 | 11 | 12 => exact h
  | 3 | 7 | 10 => exact Sl.below h hb
  | 4 | 5 | 6 => obtain ⟨u, h1, h2⟩ := h; exact ⟨u, h1, h2.below hb⟩
  | (n + 13) => exact h
def d11 : Nat → Option Tmp
  | 0 => some 77
  | 1 => some 78
  | 2 => some 79
  | 3 => some 80
  | 4 => some 81
  | 5 => some 76
  | 6 => some 82
  | 7 => some 83
  | 8 => some 84
  | 9 => some 12
  | 10 => some 13
  | 11 => some 14
  | _ => none
def F11 (g : Nat) : Nat → World → Value → Prop
  | 0, _, v => v = .agg #[.int .i64 1, .int .i64 4, .slice (some ⟨g, 0, none⟩) 2 2]
  | 1, _, v => v = .agg #[.int .i64 2, .int .i64 9]
  | 2, w, v => Sl k35 [⟨2, 9⟩] w v
  | 3, w, v => ∃ u, v = .agg #[.int .i64 1, .int .i64 6, u] ∧ Sl k35 [⟨2, 9⟩] w u
  | 4, w, v => ∃ u, v = .tuple #[u, .int .i64 0, .bool false] ∧ Sl k35 [] w u
  | 5, w, v => ∃ u, v = .tuple #[u, .int .i64 0, .bool false] ∧ Sl k35 [] w u
  | 6, w, v => Sl k35 [] w v
  | 7, _, v => v = .int .i64 0
  | 8, _, v => v = .bool false
  | 9, w, v => Sl k35 [] w v
  | 10, _, v => v = .int .i64 0
  | 11, _, v => v = .bool false
  | _, _, _ => True
theorem F11_below (g : Nat) (i : Nat) (w w1 : World) (v : Value) (h : F11 g i w v) (hb : Below w.heap.size w w1) : F11 g i w1 v := by
  match i with
  | 0 | 1 | 7 | 8 | 10 | 11 => exact h
  | 2 | 6 | 9 => exact Sl.below h hb
  | 3 | 4 | 5 => obtain ⟨u, h1, h2⟩ := h; exact ⟨u, h1, h2.below hb⟩
  | (n + 12) => exact h
def d12 : Nat → Option Tmp
  | 0 => some 86
  | 1 => some 87
  | 2 => some 88
  | 3 => some 89
  | 4 => some 90
  | 5 => some 91
  | 6 => some 85
  | 7 => some 92
  | 8 => some 93
  | 9 => some 94
  | 10 => some 15
  | 11 => some 16
  | 12 => some 17
  | _ => none
def F12 (g : Nat) : Nat → World → Value → Prop
  | 0, _, v => v = .agg #[.int .i64 1, .int .i64 4, .slice (some ⟨g, 0, none⟩) 2 2]
  | 1, _, v => v = .agg #[.int .i64 0, .int .i64 0]
  | 2, _, v => v = .agg #[.int .i64 2, .int .i64 9]
  | 3, w, v => Sl k35 [⟨0, 0⟩, ⟨2, 9⟩] w v
  | 4, w, v => ∃ u, v = .agg #[.int .i64 1, .int .i64 5, u] ∧ Sl k35 [⟨0, 0⟩, ⟨2, 9⟩] w u
  | 5, w, v => ∃ u, v = .tuple #[u, .int .i64 0, .bool false] ∧ Sl k35 [] w u
  | 6, w, v => ∃ u, v = .tuple #[u, .int .i64 0, .bool false] ∧ Sl k35 [] w u
  | 7, w, v => Sl k35 [] w v
  | 8, _, v => v = .int .i64 0
  | 9, _, v => v = .bool false
  | 10, w, v => Sl k35 [] w v
  | 11, _, v => v = .int .i64 0
  | 12, _, v => v = .bool false
  | _, _, _ => True
theorem F12_below (g : Nat) (i : Nat) (w w1 : World) (v : Value) (h : F12 g i w v) (hb : Below w.heap.size w w1) : F12 g i w1 v := by
  match i with
  | 0 | 1 | 2 | 8 | 9 | 11 | 12 => exact h
  | 3 | 7 | 10 => exact Sl.below h hb
  | 4 | 5 | 6 => obtain ⟨u, h1, h2⟩ := h; exact ⟨u, h1, h2.below hb⟩
  | (n + 13) => exact h
set_option maxHeartbeats 4000000 in
theorem shown_ (w : World) :
    Calls Try.prog 27 #[] w fun e w' => e = .returned (.bool true) ∧ Below w.heap.size w w' := by
  go_enter Try.func27, Try.ntmps27
  go_wp2_with (fail)
  refine (portagelaw26_whole.calls _ _ _ _ rfl).mono ?_
  rintro e w1 ⟨rfl, HB⟩
  go_wp2_with (fail)
  -- the registers
  have C1 := lit_C k35 w1 35 [⟨2, 7⟩, ⟨1, 1⟩] [.int .i64 2, .int .i64 7, .int .i64 1, .int .i64 1] (reps2 (k35_mk w1 ⟨2, 7⟩) rfl (k35_mk w1 ⟨1, 1⟩) rfl) (by decide)
  replace HB := below_alloc HB (.cells #[.int .i64 2, .int .i64 7, .int .i64 1, .int .i64 1] 35)
  have K1 := blk_new w1 (.cells #[.int .i64 2, .int .i64 7, .int .i64 1, .int .i64 1] 35)
  generalize w1.alloc (.cells #[.int .i64 2, .int .i64 7, .int .i64 1, .int .i64 1] 35) = w2 at C1 K1 HB ⊢
  generalize w1.heap.size = g1 at C1 K1 ⊢
  replace C1 := Aside0.mk C1
  replace K1 := Aside0.mk K1
  replace HB := Aside0.mk HB
  refine (portagelaw26_opnd.calls _ _ _ _ _ rfl).mono ?_
  rintro e w3 ⟨rfl, b3⟩
  replace C1 := Aside0.mk (Kd.C_below C1.out b3)
  replace K1 := Aside0.mk (blk_below K1.out b3)
  replace HB := Aside0.mk (wB HB.out b3)
  clear b3
  go_wp2_with (fail)
  -- one
  have b3 := e4 w3 (.cells #[.int .i64 0, .int .i64 0] 44) (.cells #[.int .i64 1, .int .i64 5, .slice (some ⟨w3.heap.size, 0, none⟩) 1 1] 67)
  have C2 := Kd.C_below (lit_C k44 w3 44 [⟨0, 0⟩] [.int .i64 0, .int .i64 0] (reps1 (k44_mk w3 ⟨0, 0⟩) rfl) (by decide)) (below_alloc (Below.refl _ _) (.cells #[.int .i64 1, .int .i64 5, .slice (some ⟨w3.heap.size, 0, none⟩) 1 1] 67))
  have K2 := blk_new (w3.alloc (.cells #[.int .i64 0, .int .i64 0] 44)) (.cells #[.int .i64 1, .int .i64 5, .slice (some ⟨w3.heap.size, 0, none⟩) 1 1] 67)
  rw [World.size_alloc] at K2
  generalize (w3.alloc (.cells #[.int .i64 0, .int .i64 0] 44)).alloc (.cells #[.int .i64 1, .int .i64 5, .slice (some ⟨w3.heap.size, 0, none⟩) 1 1] 67) = w4 at C2 K2 b3 ⊢
  replace C1 := Aside0.mk (Kd.C_below C1.out b3)
  replace K1 := Aside0.mk (blk_below K1.out b3)
  replace HB := Aside0.mk (wB HB.out b3)
  clear b3
  generalize w3.heap.size + 1 = g3 at K2 ⊢
  generalize w3.heap.size = g2 at C2 K2 ⊢
  replace C2 := Aside0.mk C2
  replace K2 := Aside0.mk K2
  refine (portagelaw26_opnd.calls _ _ _ _ _ rfl).mono ?_
  rintro e w5 ⟨rfl, b3⟩
  replace C1 := Aside0.mk (Kd.C_below C1.out b3)
  replace K1 := Aside0.mk (blk_below K1.out b3)
  replace C2 := Aside0.mk (Kd.C_below C2.out b3)
  replace K2 := Aside0.mk (blk_below K2.out b3)
  replace HB := Aside0.mk (wB HB.out b3)
  clear b3
  go_wp2_with (fail)
  refine (portagelaw26_opnd.calls _ _ _ _ _ rfl).mono ?_
  rintro e w6 ⟨rfl, b3⟩
  replace C1 := Aside0.mk (Kd.C_below C1.out b3)
  replace K1 := Aside0.mk (blk_below K1.out b3)
  replace C2 := Aside0.mk (Kd.C_below C2.out b3)
  replace K2 := Aside0.mk (blk_below K2.out b3)
  replace HB := Aside0.mk (wB HB.out b3)
  clear b3
  go_wp2_with (fail)
  -- two
  have b3 := e4 w6 (.cells #[.int .i64 3, .int .i64 3, .int .i64 0, .int .i64 1] 44) (.cells #[.int .i64 2, .int .i64 0, .slice (some ⟨w6.heap.size, 0, none⟩) 2 2] 67)
  have C4 := Kd.C_below (lit_C k44 w6 44 [⟨3, 3⟩, ⟨0, 1⟩] [.int .i64 3, .int .i64 3, .int .i64 0, .int .i64 1] (reps2 (k44_mk w6 ⟨3, 3⟩) rfl (k44_mk w6 ⟨0, 1⟩) rfl) (by decide)) (below_alloc (Below.refl _ _) (.cells #[.int .i64 2, .int .i64 0, .slice (some ⟨w6.heap.size, 0, none⟩) 2 2] 67))
  have K4 := blk_new (w6.alloc (.cells #[.int .i64 3, .int .i64 3, .int .i64 0, .int .i64 1] 44)) (.cells #[.int .i64 2, .int .i64 0, .slice (some ⟨w6.heap.size, 0, none⟩) 2 2] 67)
  rw [World.size_alloc] at K4
  generalize (w6.alloc (.cells #[.int .i64 3, .int .i64 3, .int .i64 0, .int .i64 1] 44)).alloc (.cells #[.int .i64 2, .int .i64 0, .slice (some ⟨w6.heap.size, 0, none⟩) 2 2] 67) = w7 at C4 K4 b3 ⊢
  replace C1 := Aside0.mk (Kd.C_below C1.out b3)
  replace K1 := Aside0.mk (blk_below K1.out b3)
  replace C2 := Aside0.mk (Kd.C_below C2.out b3)
  replace K2 := Aside0.mk (blk_below K2.out b3)
  replace HB := Aside0.mk (wB HB.out b3)
  clear b3
  generalize w6.heap.size + 1 = g5 at K4 ⊢
  generalize w6.heap.size = g4 at C4 K4 ⊢
  replace C4 := Aside0.mk C4
  replace K4 := Aside0.mk K4
  -- want: in any order
  rename_i hK
  refine RegInv.region_facts (by kernel_rfl) (by kernel_rfl) (fun a b => Below a.heap.size a b) (fun a b c h k => wB h k) (below_drew1 (Below.refl _ _)) d4 11 (by kernel_rfl) (by kernel_rfl) (by kernel_rfl) (F4 g1) (F4_below g1) ?hs ?he
  case hs =>

    clear HB C1 C2 K2 C4 K4 hK
    intro i o a w8 hi hM
    have hlt : i < 11 := (Array.getElem?_eq_some_iff.1 hi).1
    have K1' := blk_below K1.out hM.ext
    have h1 := gdq _ _ _ (show a.tmps.getD 1 undef = .slice (some ⟨g1, 0, none⟩) 2 2 from hM.off 1 (by kernel_rfl))
    rcases i with _ | _ | _ | _ | _ | _ | _ | _ | _ | _ | _ | i
    · cases hi
      refine RegInv.op_call (by rfl) rfl Try.func48 (by kernel_rfl) rfl rfl #[.int .i64 7] (by simp [Act.eval]) ?_
      refine (portagelaw26_whole.calls _ _ _ _ rfl).mono ?_
      rintro e w9 ⟨rfl, b⟩
      exact ⟨_, rfl, _, rfl, rfl, b⟩
    · cases hi
      have h0 := gdq _ _ _ (show a.tmps.getD 28 undef = .agg #[.int .i64 2, .int .i64 7] from hM.at_ 0 (by decide) (by kernel_rfl))
      refine RegInv.op_value (by rfl) rfl (v := .slice (some ⟨w8.heap.size, 0, none⟩) 1 1) (w' := w8.alloc (.cells #[.int .i64 2, .int .i64 7] 35)) ?_ ⟨_, rfl, ?_, ?_⟩
      · unfold execOp
        go_simp
      · exact ⟨_, _, rfl, Nat.le_refl _, lit_C k35 w8 35 [⟨2, 7⟩] [.int .i64 2, .int .i64 7] (reps1 (k35_mk w8 ⟨2, 7⟩) rfl) (by decide)⟩
      · exact below_alloc (Below.refl _ _) _
    · cases hi
      obtain ⟨A, c, hv, hl, hC⟩ : Sl k35 [⟨2, 7⟩] w8 (a.tmps.getD 29 undef) := hM.at_ 1 (by decide) (by kernel_rfl)
      replace hv := gdq _ _ _ hv
      refine RegInv.op_value (by rfl) rfl (v := .agg #[.int .i64 1, .int .i64 5, .slice A 1 c]) (w' := w8) ?_ ⟨_, rfl, ⟨_, rfl, A, c, rfl, hl, hC⟩, Below.refl _ _⟩
      clear hl hC
      unfold execOp
      go_simp
    · cases hi
      refine RegInv.op_call (by rfl) rfl Try.func48 (by kernel_rfl) rfl rfl #[.int .i64 3] (by simp [Act.eval]) ?_
      refine (portagelaw26_whole.calls _ _ _ _ rfl).mono ?_
      rintro e w9 ⟨rfl, b⟩
      exact ⟨_, rfl, _, rfl, rfl, b⟩
    · cases hi
      refine RegInv.op_value (by rfl) rfl (v := .slice (some ⟨g1, 0, none⟩) 2 2) (w' := w8) ?_ ⟨_, rfl, rfl, Below.refl _ _⟩
      unfold execOp
      go_simp
    · cases hi
      have h0 := gdq _ _ _ (show a.tmps.getD 32 undef = .slice (some ⟨g1, 0, none⟩) 2 2 from hM.at_ 4 (by decide) (by kernel_rfl))
      refine RegInv.op_value (by rfl) rfl (v := .pointer (some ⟨g1, 2, none⟩)) (w' := w8) ?_ ⟨_, rfl, rfl, Below.refl _ _⟩
      unfold execOp
      go_simp
    · cases hi
      have h0 := gdq _ _ _ (show a.tmps.getD 33 undef = .pointer (some ⟨g1, 2, none⟩) from hM.at_ 5 (by decide) (by kernel_rfl))
      have c2 : w8.cell? ⟨g1, 2, none⟩ = some (.int .i64 1) := blk_cell K1' 2
      have c3 : w8.cell? ⟨g1, 3, none⟩ = some (.int .i64 1) := blk_cell K1' 3
      refine RegInv.op_value (by rfl) rfl (v := .agg #[.int .i64 1, .int .i64 1]) (w' := w8) ?_ ⟨_, rfl, rfl, Below.refl _ _⟩
      unfold execOp
      go_simp
    · cases hi
      have h0 := gdq _ _ _ (show a.tmps.getD 31 undef = .agg #[.int .i64 2, .int .i64 3] from hM.at_ 3 (by decide) (by kernel_rfl))
      have h6 := gdq _ _ _ (show a.tmps.getD 34 undef = .agg #[.int .i64 1, .int .i64 1] from hM.at_ 6 (by decide) (by kernel_rfl))
      refine RegInv.op_value (by rfl) rfl (v := .slice (some ⟨w8.heap.size, 0, none⟩) 2 2) (w' := w8.alloc (.cells #[.int .i64 2, .int .i64 3, .int .i64 1, .int .i64 1] 35)) ?_ ⟨_, rfl, ?_, ?_⟩
      · unfold execOp
        go_simp
      · exact ⟨_, _, rfl, Nat.le_refl _, lit_C k35 w8 35 [⟨2, 3⟩, ⟨1, 1⟩] [.int .i64 2, .int .i64 3, .int .i64 1, .int .i64 1] (reps2 (k35_mk w8 ⟨2, 3⟩) rfl (k35_mk w8 ⟨1, 1⟩) rfl) (by decide)⟩
      · exact below_alloc (Below.refl _ _) _
    · cases hi
      obtain ⟨A, c, hv, hl, hC⟩ : Sl k35 [⟨2, 3⟩, ⟨1, 1⟩] w8 (a.tmps.getD 35 undef) := hM.at_ 7 (by decide) (by kernel_rfl)
      replace hv := gdq _ _ _ hv
      refine RegInv.op_value (by rfl) rfl (v := .agg #[.int .i64 2, .int .i64 0, .slice A 2 c]) (w' := w8) ?_ ⟨_, rfl, ⟨_, rfl, A, c, rfl, hl, hC⟩, Below.refl _ _⟩
      clear hl hC
      unfold execOp
      go_simp
    · cases hi
      obtain ⟨u, hu, hU⟩ : ∃ u, a.tmps.getD 30 undef = .agg #[.int .i64 1, .int .i64 5, u] ∧ Sl k35 [⟨2, 7⟩] w8 u := hM.at_ 2 (by decide) (by kernel_rfl)
      obtain ⟨v, hv, hV⟩ : ∃ u, a.tmps.getD 36 undef = .agg #[.int .i64 2, .int .i64 0, u] ∧ Sl k35 [⟨2, 3⟩, ⟨1, 1⟩] w8 u := hM.at_ 8 (by decide) (by kernel_rfl)
      replace hu := gdq _ _ _ hu
      replace hv := gdq _ _ _ hv
      have hU1 := Aside0.mk hU
      have hV1 := Aside0.mk hV
      obtain ⟨A, c, rfl, _, _⟩ := hU
      obtain ⟨A', c', rfl, _, _⟩ := hV
      refine RegInv.op_value (by rfl) rfl (v := .slice (some ⟨w8.heap.size, 0, none⟩) 2 2) (w' := w8.alloc (.cells #[.int .i64 1, .int .i64 5, .slice A 1 c, .int .i64 2, .int .i64 0, .slice A' 2 c'] 27)) ?_ ⟨_, rfl, ?_, ?_⟩
      · unfold execOp
        go_simp
      · exact ⟨_, _, rfl, Nat.le_refl _, lit_C k27 w8 27 [⟨1, 5, [⟨2, 7⟩]⟩, ⟨2, 0, [⟨2, 3⟩, ⟨1, 1⟩]⟩] [.int .i64 1, .int .i64 5, .slice A 1 c, .int .i64 2, .int .i64 0, .slice A' 2 c'] (reps2 (k27_K (x := ⟨1, 5, [⟨2, 7⟩]⟩) hU1.out) rfl (k27_K (x := ⟨2, 0, [⟨2, 3⟩, ⟨1, 1⟩]⟩) hV1.out) rfl) (by decide)⟩
      · exact below_alloc (Below.refl _ _) _
    · cases hi
      have hS : Sl k27 [⟨1, 5, [⟨2, 7⟩]⟩, ⟨2, 0, [⟨2, 3⟩, ⟨1, 1⟩]⟩] w8 (a.tmps.getD 37 undef) := hM.at_ 9 (by decide) (by kernel_rfl)
      obtain ⟨A, c, hv, hl, hC⟩ := hS
      replace hv := gdq _ _ _ hv
      refine RegInv.op_value (by rfl) rfl (v := .slice A 2 c) (w' := w8) ?_ ⟨_, rfl, ⟨A, c, rfl, hl, hC⟩, Below.refl _ _⟩
      clear hl hC
      unfold execOp
      go_simp
    · exact absurd hlt (by omega)
  case he =>
    intro vs w8 b3 hF
    obtain ⟨A9, c9, e9, l9, C9⟩ : Sl k27 [⟨1, 5, [⟨2, 7⟩]⟩, ⟨2, 0, [⟨2, 3⟩, ⟨1, 1⟩]⟩] w8 (vs 10) := hF 10 (by omega)
    clear hF
    simp only [RegInv.puts, d4, Act.put, List.range, List.range.loop, List.setIfInBounds_toArray, List.set_cons_zero, List.set_cons_succ]
    rw [e9]
    clear e9
    replace C9 := Aside0.mk C9
    replace l9 := Aside0.mk l9
    replace C1 := Aside0.mk (Kd.C_below C1.out b3)
    replace C2 := Aside0.mk (Kd.C_below C2.out b3)
    replace C4 := Aside0.mk (Kd.C_below C4.out b3)
    replace HB := Aside0.mk (wB HB.out b3)
    have q0 : w8.cell? ⟨g3, 0, none⟩ = some (.int .i64 1) := blk_cell (blk_below K2.out b3) 0
    have q1 : w8.cell? ⟨g3, 1, none⟩ = some (.int .i64 5) := blk_cell (blk_below K2.out b3) 1
    have q2 : w8.cell? ⟨g3, 2, none⟩ = some (.slice (some ⟨g2, 0, none⟩) 1 1) := blk_cell (blk_below K2.out b3) 2
    have q3 : w8.cell? ⟨g5, 0, none⟩ = some (.int .i64 2) := blk_cell (blk_below K4.out b3) 0
    have q4 : w8.cell? ⟨g5, 1, none⟩ = some (.int .i64 0) := blk_cell (blk_below K4.out b3) 1
    have q5 : w8.cell? ⟨g5, 2, none⟩ = some (.slice (some ⟨g4, 0, none⟩) 2 2) := blk_cell (blk_below K4.out b3) 2
    clear K1 K2 K4 b3
    generalize vs 0 = u0
    generalize vs 1 = u1
    generalize vs 2 = u2
    generalize vs 3 = u3
    generalize vs 4 = u4
    generalize vs 5 = u5
    generalize vs 6 = u6
    generalize vs 7 = u7
    generalize vs 8 = u8
    generalize vs 9 = u9
    refine hK _ _ ?_
    go_wp2_with (fail)
    clear q0 q1 q2 q3 q4 q5
    have b3 := below_alloc (Below.refl w8.heap.size w8) (.cells #[.int .i64 1, .int .i64 5, .slice (some ⟨g2, 0, none⟩) 1 1, .int .i64 2, .int .i64 0, .slice (some ⟨g4, 0, none⟩) 2 2] 67)
    have C6 := lit_C k67 w8 67 theShapes [.int .i64 1, .int .i64 5, .slice (some ⟨g2, 0, none⟩) 1 1, .int .i64 2, .int .i64 0, .slice (some ⟨g4, 0, none⟩) 2 2] (reps2 (k67_K (x := ⟨1, 5, [⟨0, 0⟩]⟩) ⟨_, _, rfl, Nat.le_refl _, C2.out⟩) rfl (k67_K (x := ⟨2, 0, [⟨3, 3⟩, ⟨0, 1⟩]⟩) ⟨_, _, rfl, Nat.le_refl _, C4.out⟩) rfl) (by decide)
    replace C1 := Aside0.mk (Kd.C_below C1.out b3)
    replace C9 := Aside0.mk (Kd.C_below C9.out b3)
    replace HB := Aside0.mk (wB HB.out b3)
    clear C2 C4 b3
    generalize w8.alloc (.cells #[.int .i64 1, .int .i64 5, .slice (some ⟨g2, 0, none⟩) 1 1, .int .i64 2, .int .i64 0, .slice (some ⟨g4, 0, none⟩) 2 2] 67) = w9 at C1 C6 C9 HB ⊢
    generalize w8.heap.size = g6 at C6 ⊢
    refine (deopt_Frames.calls 20 (some ⟨g6, 0, none⟩) 2 theShapes (some ⟨g1, 0, none⟩) 2 [⟨2, 7⟩, ⟨1, 1⟩] none 0 [] theFrames true w9 C6 (Nat.le_refl _) C1.out (Nat.le_refl _) (nil_C w9) (Nat.le_refl _) (by kernel_rfl)).mono ?_
    rintro e w10 ⟨v10, rfl, hN, b3⟩
    clear C6
    obtain ⟨A10, c10, rfl, l10, C10⟩ := Kd.N_reads hN
    clear hN
    replace C9 := Aside0.mk (Kd.C_below C9.out b3)
    replace HB := Aside0.mk (wB HB.out b3)
    clear C1 b3
    go_wp2_with (fail)
    refine (portageref0_SameFrames.calls 20 A10 c10 theFrames A9 c9 theFrames true w10 C10 l10 C9.out l9.out (by kernel_rfl)).mono ?_
    rintro e w11 ⟨rfl, b3⟩
    replace HB := Aside0.mk (wB HB.out b3)
    clear b3 C9 C10 l9 l10
    go_wp2_with (fail)
    -- the code
    refine (portagelaw26_opnd.calls _ _ _ _ _ rfl).mono ?_
    rintro e w12 ⟨rfl, b3⟩
    replace HB := Aside0.mk (wB HB.out b3)
    clear b3
    go_wp2_with (fail)
    refine (portagelaw26_opnd.calls _ _ _ _ _ rfl).mono ?_
    rintro e w13 ⟨rfl, b3⟩
    replace HB := Aside0.mk (wB HB.out b3)
    clear b3
    go_upto_region 9 with (fail)
    -- the world behind the point
    have c5 := lit_C k44 w13 44 [⟨0, 0⟩, ⟨0, 2⟩] [.int .i64 0, .int .i64 0, .int .i64 0, .int .i64 2] (reps2 (k44_mk w13 ⟨0, 0⟩) rfl (k44_mk w13 ⟨0, 2⟩) rfl) (by decide)
    have b3 := below_alloc (Below.refl _ w13) (.cells #[.int .i64 0, .int .i64 0, .int .i64 0, .int .i64 2] 44)
    have z1 : (w13.alloc (.cells #[.int .i64 0, .int .i64 0, .int .i64 0, .int .i64 2] 44)).heap.size = w13.heap.size + 1 := World.size_alloc _ _
    generalize w13.alloc (.cells #[.int .i64 0, .int .i64 0, .int .i64 0, .int .i64 2] 44) = w14 at c5 b3 z1 ⊢
    rw [← z1]
    have z1' := Aside0.mk z1
    clear z1
    replace HB := Aside0.mk (wB HB.out b3)
    clear b3
    have c6 := lit_C k67 w14 67 [⟨1, 6, [⟨0, 0⟩, ⟨0, 2⟩]⟩] [.int .i64 1, .int .i64 6, .slice (some ⟨w13.heap.size, 0, none⟩) 2 2] (reps1 (k67_K (x := ⟨1, 6, [⟨0, 0⟩, ⟨0, 2⟩]⟩) ⟨_, _, rfl, Nat.le_refl _, c5⟩) rfl) (by decide)
    clear c5
    have b3 := below_alloc (Below.refl _ w14) (.cells #[.int .i64 1, .int .i64 6, .slice (some ⟨w13.heap.size, 0, none⟩) 2 2] 67)
    have z1 : (w14.alloc (.cells #[.int .i64 1, .int .i64 6, .slice (some ⟨w13.heap.size, 0, none⟩) 2 2] 67)).heap.size = w14.heap.size + 1 := World.size_alloc _ _
    generalize w14.alloc (.cells #[.int .i64 1, .int .i64 6, .slice (some ⟨w13.heap.size, 0, none⟩) 2 2] 67) = w15 at c6 b3 z1 ⊢
    rw [← z1]
    clear z1 z1'
    replace HB := Aside0.mk (wB HB.out b3)
    clear b3
    generalize w14.heap.size = g11 at c6 ⊢
    generalize w13.heap.size = g10 at ⊢
    have K7 := blk_new w15 (.cells #[.int .i64 6, .int .i64 0, .int .i64 (-1), .slice none 0 0, .int .i64 0, .int .i64 6, .int .i64 0, .slice (some ⟨g11, 0, none⟩) 1 1] 65)
    have b3 := below_alloc (Below.refl _ w15) (.cells #[.int .i64 6, .int .i64 0, .int .i64 (-1), .slice none 0 0, .int .i64 0, .int .i64 6, .int .i64 0, .slice (some ⟨g11, 0, none⟩) 1 1] 65)
    generalize w15.alloc (.cells #[.int .i64 6, .int .i64 0, .int .i64 (-1), .slice none 0 0, .int .i64 0, .int .i64 6, .int .i64 0, .slice (some ⟨g11, 0, none⟩) 1 1] 65) = w16 at K7 b3 ⊢
    replace HB := Aside0.mk (wB HB.out b3)
    replace c6 := Kd.C_below c6 b3
    clear b3
    generalize w15.heap.size = g12 at K7 ⊢
    have q0 : w16.cell? ⟨g12, 0, none⟩ = some (.int .i64 6) := blk_cell K7 0
    have q1 : w16.cell? ⟨g12, 1, none⟩ = some (.int .i64 0) := blk_cell K7 1
    have q2 : w16.cell? ⟨g12, 2, none⟩ = some (.int .i64 (-1)) := blk_cell K7 2
    have q3 : w16.cell? ⟨g12, 3, none⟩ = some (.slice none 0 0) := blk_cell K7 3
    have q4 : w16.cell? ⟨g12, 4, none⟩ = some (.int .i64 0) := blk_cell K7 4
    have q5 : w16.cell? ⟨g12, 5, none⟩ = some (.int .i64 6) := blk_cell K7 5
    have q6 : w16.cell? ⟨g12, 6, none⟩ = some (.int .i64 0) := blk_cell K7 6
    have q7 : w16.cell? ⟨g12, 7, none⟩ = some (.slice (some ⟨g11, 0, none⟩) 1 1) := blk_cell K7 7
    clear K7
    replace c6 := Aside0.mk c6
    go_upto_region 10 with (fail)
    clear q0 q1 q2 q3 q4 q5 q6 q7
    have c7 := lit_C k65 w16 65 [⟨6, 0, -1, [], 0, 6, 0, [⟨1, 6, [⟨0, 0⟩, ⟨0, 2⟩]⟩]⟩] [.int .i64 6, .int .i64 0, .int .i64 (-1), .slice none 0 0, .int .i64 0, .int .i64 6, .int .i64 0, .slice (some ⟨g11, 0, none⟩) 1 1] (reps1 (k65_mk w16 ⟨6, 0, -1, [], 0, 6, 0, [⟨1, 6, [⟨0, 0⟩, ⟨0, 2⟩]⟩]⟩ (Nat.le_refl _) (nil_C w16) (Nat.le_refl _) c6.out) rfl) (by decide)
    clear c6
    have b3 := below_alloc (Below.refl _ w16) (.cells #[.int .i64 6, .int .i64 0, .int .i64 (-1), .slice none 0 0, .int .i64 0, .int .i64 6, .int .i64 0, .slice (some ⟨g11, 0, none⟩) 1 1] 65)
    have z1 : (w16.alloc (.cells #[.int .i64 6, .int .i64 0, .int .i64 (-1), .slice none 0 0, .int .i64 0, .int .i64 6, .int .i64 0, .slice (some ⟨g11, 0, none⟩) 1 1] 65)).heap.size = w16.heap.size + 1 := World.size_alloc _ _
    generalize w16.alloc (.cells #[.int .i64 6, .int .i64 0, .int .i64 (-1), .slice none 0 0, .int .i64 0, .int .i64 6, .int .i64 0, .slice (some ⟨g11, 0, none⟩) 1 1] 65) = w17 at c7 b3 z1 ⊢
    rw [← z1]
    have z1' := Aside0.mk z1
    clear z1
    replace HB := Aside0.mk (wB HB.out b3)
    clear b3
    have c8 := lit_C k63 w17 63 theBlocks [.int .i64 0, .slice none 0 0, .slice none 0 0, .int .i64 6, .slice (some ⟨w16.heap.size, 0, none⟩) 1 1, .slice none 0 0] (reps2 (k63_mk w17 ⟨0, [], []⟩ (Nat.le_refl _) (nil_C w17) (Nat.le_refl _) (nil_C w17)) rfl (k63_mk w17 ⟨6, [⟨6, 0, -1, [], 0, 6, 0, [⟨1, 6, [⟨0, 0⟩, ⟨0, 2⟩]⟩]⟩], []⟩ (Nat.le_refl _) c7 (Nat.le_refl _) (nil_C w17)) rfl) (by decide)
    clear c7
    have b3 := below_alloc (Below.refl _ w17) (.cells #[.int .i64 0, .slice none 0 0, .slice none 0 0, .int .i64 6, .slice (some ⟨w16.heap.size, 0, none⟩) 1 1, .slice none 0 0] 63)
    have z1 : (w17.alloc (.cells #[.int .i64 0, .slice none 0 0, .slice none 0 0, .int .i64 6, .slice (some ⟨w16.heap.size, 0, none⟩) 1 1, .slice none 0 0] 63)).heap.size = w17.heap.size + 1 := World.size_alloc _ _
    generalize w17.alloc (.cells #[.int .i64 0, .slice none 0 0, .slice none 0 0, .int .i64 6, .slice (some ⟨w16.heap.size, 0, none⟩) 1 1, .slice none 0 0] 63) = w18 at c8 b3 z1 ⊢
    rw [← z1]
    clear z1
    replace HB := Aside0.mk (wB HB.out b3)
    clear b3
    generalize w17.heap.size = g7 at c8 ⊢
    have K8 := blk_new w18 (.cells #[.int .i64 1, .int .i64 4, .slice (some ⟨g7, 0, none⟩) 2 2] 24)
    have b3 := below_alloc (Below.refl _ w18) (.cells #[.int .i64 1, .int .i64 4, .slice (some ⟨g7, 0, none⟩) 2 2] 24)
    generalize w18.alloc (.cells #[.int .i64 1, .int .i64 4, .slice (some ⟨g7, 0, none⟩) 2 2] 24) = w19 at K8 b3 ⊢
    generalize w18.heap.size = g8 at K8 ⊢
    generalize w16.heap.size = g9 at ⊢
    replace HB := Aside0.mk (wB HB.out b3)
    have C7 := Aside0.mk (Kd.C_below c8 b3)
    replace K8 := Aside0.mk K8
    clear c8 b3 z1'
    rename_i hK
    refine RegInv.region_facts (by kernel_rfl) (by kernel_rfl) (fun a b => Below a.heap.size a b) (fun a b c h k => wB h k) (below_drew1 (Below.refl _ _)) d10 13 (by kernel_rfl) (by kernel_rfl) (by kernel_rfl) (F10 g7) (F10_below g7) ?hs10 ?he10
    case hs10 =>
      clear HB hK
      intro i o a w8 hi hM
      have hlt : i < 13 := (Array.getElem?_eq_some_iff.1 hi).1
      have K8' := blk_below K8.out hM.ext
      have C7' := Kd.C_below C7.out hM.ext
      rcases i with _ | _ | _ | _ | _ | _ | _ | _ | _ | _ | _ | _ | _ | i
      · cases hi
        have h8 := gdq _ _ _ (show a.tmps.getD 8 undef = .pointer (some ⟨g8, 0, none⟩) from hM.off 8 (by kernel_rfl))
        have c0 : w8.cell? ⟨g8, 0, none⟩ = some (.int .i64 1) := blk_cell K8' 0
        have c1 : w8.cell? ⟨g8, 1, none⟩ = some (.int .i64 4) := blk_cell K8' 1
        have c2 : w8.cell? ⟨g8, 2, none⟩ = some (.slice (some ⟨g7, 0, none⟩) 2 2) := blk_cell K8' 2
        refine RegInv.op_value (by rfl) rfl (v := .agg #[.int .i64 1, .int .i64 4, .slice (some ⟨g7, 0, none⟩) 2 2]) (w' := w8) ?_ ⟨_, rfl, rfl, Below.refl _ _⟩
        unfold execOp
        go_simp
      · cases hi
        refine RegInv.op_value (by rfl) rfl (v := .agg #[.int .i64 0, .int .i64 0]) (w' := w8) ?_ ⟨_, rfl, rfl, Below.refl _ _⟩
        unfold execOp
        go_simp
      · cases hi
        refine RegInv.op_call (by rfl) rfl Try.func48 (by kernel_rfl) rfl rfl #[.int .i64 9] (by simp [Act.eval]) ?_
        refine (portagelaw26_whole.calls _ _ _ _ rfl).mono ?_
        rintro e w9 ⟨rfl, b⟩
        exact ⟨_, rfl, _, rfl, rfl, b⟩
      · cases hi
        have h0 := gdq _ _ _ (show a.tmps.getD 68 undef = .agg #[.int .i64 0, .int .i64 0] from hM.at_ 1 (by decide) (by kernel_rfl))
        have h6 := gdq _ _ _ (show a.tmps.getD 69 undef = .agg #[.int .i64 2, .int .i64 9] from hM.at_ 2 (by decide) (by kernel_rfl))
        refine RegInv.op_value (by rfl) rfl (v := .slice (some ⟨w8.heap.size, 0, none⟩) 2 2) (w' := w8.alloc (.cells #[.int .i64 0, .int .i64 0, .int .i64 2, .int .i64 9] 35)) ?_ ⟨_, rfl, ?_, ?_⟩
        · unfold execOp
          go_simp
        · exact ⟨_, _, rfl, Nat.le_refl _, lit_C k35 w8 35 [⟨0, 0⟩, ⟨2, 9⟩] [.int .i64 0, .int .i64 0, .int .i64 2, .int .i64 9] (reps2 (k35_mk w8 ⟨0, 0⟩) rfl (k35_mk w8 ⟨2, 9⟩) rfl) (by decide)⟩
        · exact below_alloc (Below.refl _ _) _
      · cases hi
        obtain ⟨A, c, hv, hl, hC⟩ : Sl k35 [⟨0, 0⟩, ⟨2, 9⟩] w8 (a.tmps.getD 70 undef) := hM.at_ 3 (by decide) (by kernel_rfl)
        replace hv := gdq _ _ _ hv
        refine RegInv.op_value (by rfl) rfl (v := .agg #[.int .i64 1, .int .i64 6, .slice A 2 c]) (w' := w8) ?_ ⟨_, rfl, ⟨_, rfl, A, c, rfl, hl, hC⟩, Below.refl _ _⟩
        clear hl hC
        unfold execOp
        go_simp
      · cases hi
        have h0 := gdq _ _ _ (show a.tmps.getD 67 undef = .agg #[.int .i64 1, .int .i64 4, .slice (some ⟨g7, 0, none⟩) 2 2] from hM.at_ 0 (by decide) (by kernel_rfl))
        obtain ⟨u, hu, hU⟩ : ∃ u, a.tmps.getD 71 undef = .agg #[.int .i64 1, .int .i64 6, u] ∧ Sl k35 [⟨0, 0⟩, ⟨2, 9⟩] w8 u := hM.at_ 4 (by decide) (by kernel_rfl)
        obtain ⟨A, c, rfl, hl, hC⟩ := hU
        replace hu := gdq _ _ _ hu
        refine RegInv.op_call (by rfl) rfl Try.func13 (by kernel_rfl) rfl rfl #[.agg #[.int .i64 1, .int .i64 4, .slice (some ⟨g7, 0, none⟩) 2 2], .agg #[.int .i64 1, .int .i64 6, .slice A 2 c]] (by simp [Act.eval, h0, hu]) ?_
        refine (deopt_Registers.calls 20 1 4 (some ⟨g7, 0, none⟩) 2 theBlocks 1 6 A c [⟨0, 0⟩, ⟨2, 9⟩] [⟨0, 0⟩, ⟨0, 0⟩, ⟨2, 9⟩, ⟨0, 0⟩] 1 true w8 C7' (Nat.le_refl _) hC hl (by kernel_rfl)).mono ?_
        rintro e w9 ⟨v0, rfl, hR, b⟩
        exact ⟨_, rfl, _, rfl, ⟨v0, rfl, Kd.R_reads hR⟩, b⟩
      · cases hi
        obtain ⟨u, hu, hU⟩ : ∃ u, a.tmps.getD 72 undef = .tuple #[u, .int .i64 1, .bool true] ∧ Sl k35 [⟨0, 0⟩, ⟨0, 0⟩, ⟨2, 9⟩, ⟨0, 0⟩] w8 u := hM.at_ 5 (by decide) (by kernel_rfl)
        replace hu := gdq _ _ _ hu
        refine RegInv.op_value (by rfl) rfl (v := .tuple #[u, .int .i64 1, .bool true]) (w' := w8) ?_ ⟨_, rfl, ⟨u, rfl, hU⟩, Below.refl _ _⟩
        clear hU
        unfold execOp
        go_simp
      · cases hi
        obtain ⟨u, hu, hU⟩ : ∃ u, a.tmps.getD 66 undef = .tuple #[u, .int .i64 1, .bool true] ∧ Sl k35 [⟨0, 0⟩, ⟨0, 0⟩, ⟨2, 9⟩, ⟨0, 0⟩] w8 u := hM.at_ 6 (by decide) (by kernel_rfl)
        replace hu := gdq _ _ _ hu
        refine RegInv.op_value (by rfl) rfl (v := u) (w' := w8) ?_ ⟨_, rfl, hU, Below.refl _ _⟩
        clear hU
        unfold execOp
        go_simp
      · cases hi
        obtain ⟨u, hu, hU⟩ : ∃ u, a.tmps.getD 66 undef = .tuple #[u, .int .i64 1, .bool true] ∧ Sl k35 [⟨0, 0⟩, ⟨0, 0⟩, ⟨2, 9⟩, ⟨0, 0⟩] w8 u := hM.at_ 6 (by decide) (by kernel_rfl)
        replace hu := gdq _ _ _ hu
        refine RegInv.op_value (by rfl) rfl (v := .int .i64 1) (w' := w8) ?_ ⟨_, rfl, rfl, Below.refl _ _⟩
        clear hU
        unfold execOp
        go_simp
      · cases hi
        obtain ⟨u, hu, hU⟩ : ∃ u, a.tmps.getD 66 undef = .tuple #[u, .int .i64 1, .bool true] ∧ Sl k35 [⟨0, 0⟩, ⟨0, 0⟩, ⟨2, 9⟩, ⟨0, 0⟩] w8 u := hM.at_ 6 (by decide) (by kernel_rfl)
        replace hu := gdq _ _ _ hu
        refine RegInv.op_value (by rfl) rfl (v := .bool true) (w' := w8) ?_ ⟨_, rfl, rfl, Below.refl _ _⟩
        clear hU
        unfold execOp
        go_simp
      · cases hi
        obtain ⟨A, c, hv, hl, hC⟩ : Sl k35 [⟨0, 0⟩, ⟨0, 0⟩, ⟨2, 9⟩, ⟨0, 0⟩] w8 (a.tmps.getD 73 undef) := hM.at_ 7 (by decide) (by kernel_rfl)
        replace hv := gdq _ _ _ hv
        refine RegInv.op_value (by rfl) rfl (v := .slice A 4 c) (w' := w8) ?_ ⟨_, rfl, ⟨A, c, rfl, hl, hC⟩, Below.refl _ _⟩
        clear hl hC
        unfold execOp
        go_simp
      · cases hi
        have h0 := gdq _ _ _ (show a.tmps.getD 74 undef = .int .i64 1 from hM.at_ 8 (by decide) (by kernel_rfl))
        refine RegInv.op_value (by rfl) rfl (v := .int .i64 1) (w' := w8) ?_ ⟨_, rfl, rfl, Below.refl _ _⟩
        unfold execOp
        go_simp
      · cases hi
        have h0 := gdq _ _ _ (show a.tmps.getD 75 undef = .bool true from hM.at_ 9 (by decide) (by kernel_rfl))
        refine RegInv.op_value (by rfl) rfl (v := .bool true) (w' := w8) ?_ ⟨_, rfl, rfl, Below.refl _ _⟩
        unfold execOp
        go_simp
      · exact absurd hlt (by omega)
    intro vs w20 b3 hF
    obtain ⟨A10, c10, e9, l10, D10⟩ : Sl k35 [⟨0, 0⟩, ⟨0, 0⟩, ⟨2, 9⟩, ⟨0, 0⟩] w20 (vs 10) := hF 10 (by omega)
    have e10 : vs 11 = .int .i64 1 := hF 11 (by omega)
    have e11 : vs 12 = .bool true := hF 12 (by omega)
    clear hF
    simp only [RegInv.puts, d10, Act.put, List.range, List.range.loop, List.setIfInBounds_toArray, List.set_cons_zero, List.set_cons_succ]
    rw [e9, e10, e11]
    clear e9 e10 e11
    replace HB := Aside0.mk (wB HB.out b3)
    replace C7 := Aside0.mk (Kd.C_below C7.out b3)
    replace K8 := Aside0.mk (blk_below K8.out b3)
    replace l10 := Aside0.mk l10
    replace D10 := Aside0.mk D10
    clear b3
    generalize vs 0 = x0
    generalize vs 1 = x1
    generalize vs 2 = x2
    generalize vs 3 = x3
    generalize vs 4 = x4
    generalize vs 5 = x5
    generalize vs 6 = x6
    generalize vs 7 = x7
    generalize vs 8 = x8
    generalize vs 9 = x9
    refine hK _ _ ?_
    clear hK
    go_upto_region 11 with (fail)
    rename_i hK
    refine RegInv.region_facts (by kernel_rfl) (by kernel_rfl) (fun a b => Below a.heap.size a b) (fun a b c h k => wB h k) (below_drew1 (Below.refl _ _)) d11 12 (by kernel_rfl) (by kernel_rfl) (by kernel_rfl) (F11 g7) (F11_below g7) ?hs11 ?he11
    case hs11 =>
      clear HB hK l10 D10
      intro i o a w8 hi hM
      have hlt : i < 12 := (Array.getElem?_eq_some_iff.1 hi).1
      have K8' := blk_below K8.out hM.ext
      have C7' := Kd.C_below C7.out hM.ext
      rcases i with _ | _ | _ | _ | _ | _ | _ | _ | _ | _ | _ | _ | i
      · cases hi
        have h8 := gdq _ _ _ (show a.tmps.getD 8 undef = .pointer (some ⟨g8, 0, none⟩) from hM.off 8 (by kernel_rfl))
        have c0 : w8.cell? ⟨g8, 0, none⟩ = some (.int .i64 1) := blk_cell K8' 0
        have c1 : w8.cell? ⟨g8, 1, none⟩ = some (.int .i64 4) := blk_cell K8' 1
        have c2 : w8.cell? ⟨g8, 2, none⟩ = some (.slice (some ⟨g7, 0, none⟩) 2 2) := blk_cell K8' 2
        refine RegInv.op_value (by rfl) rfl (v := .agg #[.int .i64 1, .int .i64 4, .slice (some ⟨g7, 0, none⟩) 2 2]) (w' := w8) ?_ ⟨_, rfl, rfl, Below.refl _ _⟩
        unfold execOp
        go_simp
      · cases hi
        refine RegInv.op_call (by rfl) rfl Try.func48 (by kernel_rfl) rfl rfl #[.int .i64 9] (by simp [Act.eval]) ?_
        refine (portagelaw26_whole.calls _ _ _ _ rfl).mono ?_
        rintro e w9 ⟨rfl, b⟩
        exact ⟨_, rfl, _, rfl, rfl, b⟩
      · cases hi
        have h6 := gdq _ _ _ (show a.tmps.getD 78 undef = .agg #[.int .i64 2, .int .i64 9] from hM.at_ 1 (by decide) (by kernel_rfl))
        refine RegInv.op_value (by rfl) rfl (v := .slice (some ⟨w8.heap.size, 0, none⟩) 1 1) (w' := w8.alloc (.cells #[.int .i64 2, .int .i64 9] 35)) ?_ ⟨_, rfl, ?_, ?_⟩
        · unfold execOp
          go_simp
        · exact ⟨_, _, rfl, Nat.le_refl _, lit_C k35 w8 35 [⟨2, 9⟩] [.int .i64 2, .int .i64 9] (reps1 (k35_mk w8 ⟨2, 9⟩) rfl) (by decide)⟩
        · exact below_alloc (Below.refl _ _) _
      · cases hi
        obtain ⟨A, c, hv, hl, hC⟩ : Sl k35 [⟨2, 9⟩] w8 (a.tmps.getD 79 undef) := hM.at_ 2 (by decide) (by kernel_rfl)
        replace hv := gdq _ _ _ hv
        refine RegInv.op_value (by rfl) rfl (v := .agg #[.int .i64 1, .int .i64 6, .slice A 1 c]) (w' := w8) ?_ ⟨_, rfl, ⟨_, rfl, A, c, rfl, hl, hC⟩, Below.refl _ _⟩
        clear hl hC
        unfold execOp
        go_simp
      · cases hi
        have h0 := gdq _ _ _ (show a.tmps.getD 77 undef = .agg #[.int .i64 1, .int .i64 4, .slice (some ⟨g7, 0, none⟩) 2 2] from hM.at_ 0 (by decide) (by kernel_rfl))
        obtain ⟨u, hu, hU⟩ : ∃ u, a.tmps.getD 80 undef = .agg #[.int .i64 1, .int .i64 6, u] ∧ Sl k35 [⟨2, 9⟩] w8 u := hM.at_ 3 (by decide) (by kernel_rfl)
        obtain ⟨A, c, rfl, hl, hC⟩ := hU
        replace hu := gdq _ _ _ hu
        refine RegInv.op_call (by rfl) rfl Try.func13 (by kernel_rfl) rfl rfl #[.agg #[.int .i64 1, .int .i64 4, .slice (some ⟨g7, 0, none⟩) 2 2], .agg #[.int .i64 1, .int .i64 6, .slice A 1 c]] (by simp [Act.eval, h0, hu]) ?_
        refine (deopt_Registers.calls 20 1 4 (some ⟨g7, 0, none⟩) 2 theBlocks 1 6 A c [⟨2, 9⟩] [] 0 false w8 C7' (Nat.le_refl _) hC hl (by kernel_rfl)).mono ?_
        rintro e w9 ⟨v0, rfl, hR, b⟩
        exact ⟨_, rfl, _, rfl, ⟨v0, rfl, Kd.R_reads hR⟩, b⟩
      · cases hi
        obtain ⟨u, hu, hU⟩ : ∃ u, a.tmps.getD 81 undef = .tuple #[u, .int .i64 0, .bool false] ∧ Sl k35 [] w8 u := hM.at_ 4 (by decide) (by kernel_rfl)
        replace hu := gdq _ _ _ hu
        refine RegInv.op_value (by rfl) rfl (v := .tuple #[u, .int .i64 0, .bool false]) (w' := w8) ?_ ⟨_, rfl, ⟨u, rfl, hU⟩, Below.refl _ _⟩
        clear hU
        unfold execOp
        go_simp
      · cases hi
        obtain ⟨u, hu, hU⟩ : ∃ u, a.tmps.getD 76 undef = .tuple #[u, .int .i64 0, .bool false] ∧ Sl k35 [] w8 u := hM.at_ 5 (by decide) (by kernel_rfl)
        replace hu := gdq _ _ _ hu
        refine RegInv.op_value (by rfl) rfl (v := u) (w' := w8) ?_ ⟨_, rfl, hU, Below.refl _ _⟩
        clear hU
        unfold execOp
        go_simp
      · cases hi
        obtain ⟨u, hu, hU⟩ : ∃ u, a.tmps.getD 76 undef = .tuple #[u, .int .i64 0, .bool false] ∧ Sl k35 [] w8 u := hM.at_ 5 (by decide) (by kernel_rfl)
        replace hu := gdq _ _ _ hu
        refine RegInv.op_value (by rfl) rfl (v := .int .i64 0) (w' := w8) ?_ ⟨_, rfl, rfl, Below.refl _ _⟩
        clear hU
        unfold execOp
        go_simp
      · cases hi
        obtain ⟨u, hu, hU⟩ : ∃ u, a.tmps.getD 76 undef = .tuple #[u, .int .i64 0, .bool false] ∧ Sl k35 [] w8 u := hM.at_ 5 (by decide) (by kernel_rfl)
        replace hu := gdq _ _ _ hu
        refine RegInv.op_value (by rfl) rfl (v := .bool false) (w' := w8) ?_ ⟨_, rfl, rfl, Below.refl _ _⟩
        clear hU
        unfold execOp
        go_simp
      · cases hi
        obtain ⟨A, c, hv, hl, hC⟩ : Sl k35 [] w8 (a.tmps.getD 82 undef) := hM.at_ 6 (by decide) (by kernel_rfl)
        replace hv := gdq _ _ _ hv
        refine RegInv.op_value (by rfl) rfl (v := .slice A 0 c) (w' := w8) ?_ ⟨_, rfl, ⟨A, c, rfl, hl, hC⟩, Below.refl _ _⟩
        clear hl hC
        unfold execOp
        go_simp
      · cases hi
        have h0 := gdq _ _ _ (show a.tmps.getD 83 undef = .int .i64 0 from hM.at_ 7 (by decide) (by kernel_rfl))
        refine RegInv.op_value (by rfl) rfl (v := .int .i64 0) (w' := w8) ?_ ⟨_, rfl, rfl, Below.refl _ _⟩
        unfold execOp
        go_simp
      · cases hi
        have h0 := gdq _ _ _ (show a.tmps.getD 84 undef = .bool false from hM.at_ 8 (by decide) (by kernel_rfl))
        refine RegInv.op_value (by rfl) rfl (v := .bool false) (w' := w8) ?_ ⟨_, rfl, rfl, Below.refl _ _⟩
        unfold execOp
        go_simp
      · exact absurd hlt (by omega)
    intro vs w21 b3 hF
    obtain ⟨A11, c11, e9, l11, D11⟩ : Sl k35 [] w21 (vs 9) := hF 9 (by omega)
    have e10 : vs 10 = .int .i64 0 := hF 10 (by omega)
    have e11 : vs 11 = .bool false := hF 11 (by omega)
    clear hF
    simp only [RegInv.puts, d11, Act.put, List.range, List.range.loop, List.setIfInBounds_toArray, List.set_cons_zero, List.set_cons_succ]
    rw [e9, e10, e11]
    clear e9 e10 e11
    replace HB := Aside0.mk (wB HB.out b3)
    replace C7 := Aside0.mk (Kd.C_below C7.out b3)
    replace K8 := Aside0.mk (blk_below K8.out b3)
    replace l11 := Aside0.mk l11
    replace D11 := Aside0.mk D11
    replace D10 := Aside0.mk (Kd.C_below D10.out b3)
    clear b3
    generalize vs 0 = y0
    generalize vs 1 = y1
    generalize vs 2 = y2
    generalize vs 3 = y3
    generalize vs 4 = y4
    generalize vs 5 = y5
    generalize vs 6 = y6
    generalize vs 7 = y7
    generalize vs 8 = y8
    refine hK _ _ ?_
    clear hK
    go_upto_region 12 with (fail)
    rename_i hK
    refine RegInv.region_facts (by kernel_rfl) (by kernel_rfl) (fun a b => Below a.heap.size a b) (fun a b c h k => wB h k) (below_drew1 (Below.refl _ _)) d12 13 (by kernel_rfl) (by kernel_rfl) (by kernel_rfl) (F12 g7) (F12_below g7) ?hs12 ?he12
    case hs12 =>
      clear HB hK l10 D10 l11 D11
      intro i o a w8 hi hM
      have hlt : i < 13 := (Array.getElem?_eq_some_iff.1 hi).1
      have K8' := blk_below K8.out hM.ext
      have C7' := Kd.C_below C7.out hM.ext
      rcases i with _ | _ | _ | _ | _ | _ | _ | _ | _ | _ | _ | _ | _ | i
      · cases hi
        have h8 := gdq _ _ _ (show a.tmps.getD 8 undef = .pointer (some ⟨g8, 0, none⟩) from hM.off 8 (by kernel_rfl))
        have c0 : w8.cell? ⟨g8, 0, none⟩ = some (.int .i64 1) := blk_cell K8' 0
        have c1 : w8.cell? ⟨g8, 1, none⟩ = some (.int .i64 4) := blk_cell K8' 1
        have c2 : w8.cell? ⟨g8, 2, none⟩ = some (.slice (some ⟨g7, 0, none⟩) 2 2) := blk_cell K8' 2
        refine RegInv.op_value (by rfl) rfl (v := .agg #[.int .i64 1, .int .i64 4, .slice (some ⟨g7, 0, none⟩) 2 2]) (w' := w8) ?_ ⟨_, rfl, rfl, Below.refl _ _⟩
        unfold execOp
        go_simp
      · cases hi
        refine RegInv.op_value (by rfl) rfl (v := .agg #[.int .i64 0, .int .i64 0]) (w' := w8) ?_ ⟨_, rfl, rfl, Below.refl _ _⟩
        unfold execOp
        go_simp
      · cases hi
        refine RegInv.op_call (by rfl) rfl Try.func48 (by kernel_rfl) rfl rfl #[.int .i64 9] (by simp [Act.eval]) ?_
        refine (portagelaw26_whole.calls _ _ _ _ rfl).mono ?_
        rintro e w9 ⟨rfl, b⟩
        exact ⟨_, rfl, _, rfl, rfl, b⟩
      · cases hi
        have h0 := gdq _ _ _ (show a.tmps.getD 87 undef = .agg #[.int .i64 0, .int .i64 0] from hM.at_ 1 (by decide) (by kernel_rfl))
        have h6 := gdq _ _ _ (show a.tmps.getD 88 undef = .agg #[.int .i64 2, .int .i64 9] from hM.at_ 2 (by decide) (by kernel_rfl))
        refine RegInv.op_value (by rfl) rfl (v := .slice (some ⟨w8.heap.size, 0, none⟩) 2 2) (w' := w8.alloc (.cells #[.int .i64 0, .int .i64 0, .int .i64 2, .int .i64 9] 35)) ?_ ⟨_, rfl, ?_, ?_⟩
        · unfold execOp
          go_simp
        · exact ⟨_, _, rfl, Nat.le_refl _, lit_C k35 w8 35 [⟨0, 0⟩, ⟨2, 9⟩] [.int .i64 0, .int .i64 0, .int .i64 2, .int .i64 9] (reps2 (k35_mk w8 ⟨0, 0⟩) rfl (k35_mk w8 ⟨2, 9⟩) rfl) (by decide)⟩
        · exact below_alloc (Below.refl _ _) _
      · cases hi
        obtain ⟨A, c, hv, hl, hC⟩ : Sl k35 [⟨0, 0⟩, ⟨2, 9⟩] w8 (a.tmps.getD 89 undef) := hM.at_ 3 (by decide) (by kernel_rfl)
        replace hv := gdq _ _ _ hv
        refine RegInv.op_value (by rfl) rfl (v := .agg #[.int .i64 1, .int .i64 5, .slice A 2 c]) (w' := w8) ?_ ⟨_, rfl, ⟨_, rfl, A, c, rfl, hl, hC⟩, Below.refl _ _⟩
        clear hl hC
        unfold execOp
        go_simp
      · cases hi
        have h0 := gdq _ _ _ (show a.tmps.getD 86 undef = .agg #[.int .i64 1, .int .i64 4, .slice (some ⟨g7, 0, none⟩) 2 2] from hM.at_ 0 (by decide) (by kernel_rfl))
        obtain ⟨u, hu, hU⟩ : ∃ u, a.tmps.getD 90 undef = .agg #[.int .i64 1, .int .i64 5, u] ∧ Sl k35 [⟨0, 0⟩, ⟨2, 9⟩] w8 u := hM.at_ 4 (by decide) (by kernel_rfl)
        obtain ⟨A, c, rfl, hl, hC⟩ := hU
        replace hu := gdq _ _ _ hu
        refine RegInv.op_call (by rfl) rfl Try.func13 (by kernel_rfl) rfl rfl #[.agg #[.int .i64 1, .int .i64 4, .slice (some ⟨g7, 0, none⟩) 2 2], .agg #[.int .i64 1, .int .i64 5, .slice A 2 c]] (by simp [Act.eval, h0, hu]) ?_
        refine (deopt_Registers.calls 20 1 4 (some ⟨g7, 0, none⟩) 2 theBlocks 1 5 A c [⟨0, 0⟩, ⟨2, 9⟩] [] 0 false w8 C7' (Nat.le_refl _) hC hl (by kernel_rfl)).mono ?_
        rintro e w9 ⟨v0, rfl, hR, b⟩
        exact ⟨_, rfl, _, rfl, ⟨v0, rfl, Kd.R_reads hR⟩, b⟩
      · cases hi
        obtain ⟨u, hu, hU⟩ : ∃ u, a.tmps.getD 91 undef = .tuple #[u, .int .i64 0, .bool false] ∧ Sl k35 [] w8 u := hM.at_ 5 (by decide) (by kernel_rfl)
        replace hu := gdq _ _ _ hu
        refine RegInv.op_value (by rfl) rfl (v := .tuple #[u, .int .i64 0, .bool false]) (w' := w8) ?_ ⟨_, rfl, ⟨u, rfl, hU⟩, Below.refl _ _⟩
        clear hU
        unfold execOp
        go_simp
      · cases hi
        obtain ⟨u, hu, hU⟩ : ∃ u, a.tmps.getD 85 undef = .tuple #[u, .int .i64 0, .bool false] ∧ Sl k35 [] w8 u := hM.at_ 6 (by decide) (by kernel_rfl)
        replace hu := gdq _ _ _ hu
        refine RegInv.op_value (by rfl) rfl (v := u) (w' := w8) ?_ ⟨_, rfl, hU, Below.refl _ _⟩
        clear hU
        unfold execOp
        go_simp
      · cases hi
        obtain ⟨u, hu, hU⟩ : ∃ u, a.tmps.getD 85 undef = .tuple #[u, .int .i64 0, .bool false] ∧ Sl k35 [] w8 u := hM.at_ 6 (by decide) (by kernel_rfl)
        replace hu := gdq _ _ _ hu
        refine RegInv.op_value (by rfl) rfl (v := .int .i64 0) (w' := w8) ?_ ⟨_, rfl, rfl, Below.refl _ _⟩
        clear hU
        unfold execOp
        go_simp
      · cases hi
        obtain ⟨u, hu, hU⟩ : ∃ u, a.tmps.getD 85 undef = .tuple #[u, .int .i64 0, .bool false] ∧ Sl k35 [] w8 u := hM.at_ 6 (by decide) (by kernel_rfl)
        replace hu := gdq _ _ _ hu
        refine RegInv.op_value (by rfl) rfl (v := .bool false) (w' := w8) ?_ ⟨_, rfl, rfl, Below.refl _ _⟩
        clear hU
        unfold execOp
        go_simp
      · cases hi
        obtain ⟨A, c, hv, hl, hC⟩ : Sl k35 [] w8 (a.tmps.getD 92 undef) := hM.at_ 7 (by decide) (by kernel_rfl)
        replace hv := gdq _ _ _ hv
        refine RegInv.op_value (by rfl) rfl (v := .slice A 0 c) (w' := w8) ?_ ⟨_, rfl, ⟨A, c, rfl, hl, hC⟩, Below.refl _ _⟩
        clear hl hC
        unfold execOp
        go_simp
      · cases hi
        have h0 := gdq _ _ _ (show a.tmps.getD 93 undef = .int .i64 0 from hM.at_ 8 (by decide) (by kernel_rfl))
        refine RegInv.op_value (by rfl) rfl (v := .int .i64 0) (w' := w8) ?_ ⟨_, rfl, rfl, Below.refl _ _⟩
        unfold execOp
        go_simp
      · cases hi
        have h0 := gdq _ _ _ (show a.tmps.getD 94 undef = .bool false from hM.at_ 9 (by decide) (by kernel_rfl))
        refine RegInv.op_value (by rfl) rfl (v := .bool false) (w' := w8) ?_ ⟨_, rfl, rfl, Below.refl _ _⟩
        unfold execOp
        go_simp
      · exact absurd hlt (by omega)
    intro vs w22 b3 hF
    obtain ⟨A12, c12, e9, l12, D12⟩ : Sl k35 [] w22 (vs 10) := hF 10 (by omega)
    have e10 : vs 11 = .int .i64 0 := hF 11 (by omega)
    have e11 : vs 12 = .bool false := hF 12 (by omega)
    clear hF
    simp only [RegInv.puts, d12, Act.put, List.range, List.range.loop, List.setIfInBounds_toArray, List.set_cons_zero, List.set_cons_succ]
    rw [e9, e10, e11]
    clear e9 e10 e11
    replace HB := Aside0.mk (wB HB.out b3)
    replace C7 := Aside0.mk (Kd.C_below C7.out b3)
    replace K8 := Aside0.mk (blk_below K8.out b3)
    replace l12 := Aside0.mk l12
    replace D12 := Aside0.mk D12
    replace D10 := Aside0.mk (Kd.C_below D10.out b3)
    clear b3
    generalize vs 0 = z0
    generalize vs 1 = z1
    generalize vs 2 = z2
    generalize vs 3 = z3
    generalize vs 4 = z4
    generalize vs 5 = z5
    generalize vs 6 = z6
    generalize vs 7 = z7
    generalize vs 8 = z8
    generalize vs 9 = z9
    refine hK _ _ ?_
    clear hK
    go_wp2_with (fail)
    refine (portagelaw26_whole.calls _ _ _ _ rfl).mono ?_
    rintro e w23 ⟨rfl, b3⟩
    replace HB := Aside0.mk (wB HB.out b3)
    replace D10 := Aside0.mk (Kd.C_below D10.out b3)
    clear b3
    go_wp2_with (fail)
    have c24 := lit_C k35 w23 35 [⟨0, 0⟩, ⟨0, 0⟩, ⟨2, 9⟩, ⟨0, 0⟩] [.int .i64 0, .int .i64 0, .int .i64 0, .int .i64 0, .int .i64 2, .int .i64 9, .int .i64 0, .int .i64 0] (reps4 (k35_mk w23 ⟨0, 0⟩) rfl (k35_mk w23 ⟨0, 0⟩) rfl (k35_mk w23 ⟨2, 9⟩) rfl (k35_mk w23 ⟨0, 0⟩) rfl) (by decide)
    have b3 := below_alloc (Below.refl _ w23) (.cells #[.int .i64 0, .int .i64 0, .int .i64 0, .int .i64 0, .int .i64 2, .int .i64 9, .int .i64 0, .int .i64 0] 35)
    replace HB := Aside0.mk (wB HB.out b3)
    refine (portageref0_SameValues.calls 20 A10 c10 [⟨0, 0⟩, ⟨0, 0⟩, ⟨2, 9⟩, ⟨0, 0⟩] (some ⟨w23.heap.size, 0, none⟩) 4 [⟨0, 0⟩, ⟨0, 0⟩, ⟨2, 9⟩, ⟨0, 0⟩] true _ (Kd.C_below D10.out b3) l10.out c24 (Nat.le_refl _) (by kernel_rfl)).mono ?_
    rintro e w25 ⟨rfl, hd⟩
    replace HB := Aside0.mk (wB HB.out hd.below)
    clear hd b3 c24
    go_wp2_with (fail)
    go_ret
    exact ⟨rfl, HB.out⟩
/-- 'shown' -/
def portagelaw26_shown.f : Option Bool := some true
theorem portagelaw26_shown.calls (r : Bool) (w : World) (h : portagelaw26_shown.f = some r) :
    Calls Try.prog 27 #[] w fun e w' => e = .returned (.bool r) ∧ Below w.heap.size w w' := by
  obtain rfl : true = r := Option.some.inj h
  exact shown_ w
end Go.Proofs.Ytgbbcjooieggpaa.PFrames
