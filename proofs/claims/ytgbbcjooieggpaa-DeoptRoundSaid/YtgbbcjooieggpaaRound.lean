/- DeoptRound's contract: what is entered out of a frame and left at once is the frame. For every input of a length that memory can hold. -/
import Derived.Test.YtgbbcjooieggpaaPureDeoptRound
import Derived.Test.YtgbbcjooieggpaaShown
import Derived.Test.YtgbbcjooieggpaaRegInv2
import Derived.BigQuiet
import Derived.Deep.QuietTactic
namespace Go.Proofs.Ytgbbcjooieggpaa.PFrames
open Go.RowKit Go.Proofs.Ytgbbcjooieggpaa.Lit Go.Proofs.YtgbbcjooieggpaaW.PrintWords Go.Proofs.YtgbbcjooieggpaaW.PrintLast Go.Proofs.YtgbbcjooieggpaaW.PrintMore
set_option linter.unusedVariables false
set_option linter.unusedSimpArgs false
def dR1 : Nat → Option Tmp
  | 0 => some 14
  | 1 => some 15
  | 2 => some 16
  | 3 => some 17
  | 4 => some 18
  | 5 => some 13
  | 6 => some 19
  | 7 => some 20
  | 8 => some 21
  | 9 => some 7
  | 10 => some 8
  | 11 => some 9
  | _ => none
def FR1 (c0 c1 f0 f1 : Int) (A : Option Addr) (cA : Nat) (l : List S63) (B : Option Addr) (cB : Nat) (s : List S35) (r1 : List S35) (r2 : Int) (r3 : Bool) : Nat → World → Value → Prop
  | 0, _, v => v = .agg #[.int .i64 c0, .int .i64 c1, .slice A l.length cA]
  | 1, w, v => ∃ u, v = .agg #[.int .i64 c0, .int .i64 c1, u] ∧ Sl k63 l w u
  | 2, _, v => v = .agg #[.int .i64 f0, .int .i64 f1, .slice B s.length cB]
  | 3, w, v => ∃ u, v = .agg #[.int .i64 f0, .int .i64 f1, u] ∧ Sl k35 s w u
  | 4, w, v => ∃ u, v = .tuple #[u, .int .i64 r2, .bool r3] ∧ Sl k35 r1 w u
  | 5, w, v => ∃ u, v = .tuple #[u, .int .i64 r2, .bool r3] ∧ Sl k35 r1 w u
  | 6, w, v => Sl k35 r1 w v
  | 7, _, v => v = .int .i64 r2
  | 8, _, v => v = .bool r3
  | 9, w, v => Sl k35 r1 w v
  | 10, _, v => v = .int .i64 r2
  | 11, _, v => v = .bool r3
  | _, _, _ => True
theorem FR1_below (c0 c1 f0 f1 : Int) (A : Option Addr) (cA : Nat) (l : List S63) (B : Option Addr) (cB : Nat) (s : List S35) (r1 : List S35) (r2 : Int) (r3 : Bool) (i : Nat) (w w1 : World) (v : Value) (h : FR1 c0 c1 f0 f1  A  cA  l  B  cB  s  r1  r2  r3  i w v) (hb : Below w.heap.size w w1) : FR1 c0 c1 f0 f1  A  cA  l  B  cB  s  r1  r2  r3  i w1 v := by
  match i with
  | 0 | 2 | 7 | 8 | 10 | 11 => exact h
  | 6 | 9 => exact Sl.below h hb
  | 1 | 3 | 4 | 5 => obtain ⟨u, h1, h2⟩ := h; exact ⟨u, h1, h2.below hb⟩
  | (n + 12) => exact h
def dR10 : Nat → Option Tmp
  | 0 => some 113
  | 1 => some 114
  | 2 => some 115
  | 3 => some 116
  | 4 => some 117
  | 5 => some 118
  | 6 => some 119
  | 7 => some 120
  | 8 => some 121
  | 9 => some 122
  | 10 => some 123
  | 11 => some 124
  | 12 => some 125
  | 13 => some 6
  | _ => none
def FR10 (f0 f1 : Int) (B : Option Addr) (cB : Nat) (s : List S35) (A7 : Option Addr) (c7 : Nat) (A8 : Option Addr) (c8 : Nat) (ac : Addr) : Nat → World → Value → Prop
  | 0, _, v => v = .bool true
  | 1, _, v => v = .bool true
  | 2, _, v => v = .slice A7 1 c7
  | 3, _, v => v = .int .i64 1
  | 4, _, v => v = .bool true
  | 5, _, v => v = .bool true
  | 6, _, v => v = .bool true
  | 7, _, v => v = .slice A7 1 c7
  | 8, _, v => v = .pointer (some ac)
  | 9, _, v => v = .agg #[.int .i64 f0, .int .i64 f1, .slice A8 s.length c8]
  | 10, _, v => v = .agg #[.int .i64 f0, .int .i64 f1, .slice B s.length cB]
  | 11, _, v => v = .bool true
  | 12, _, v => v = .bool true
  | 13, _, v => v = .bool true
  | _, _, _ => True
theorem FR10_below (f0 f1 : Int) (B : Option Addr) (cB : Nat) (s : List S35) (A7 : Option Addr) (c7 : Nat) (A8 : Option Addr) (c8 : Nat) (ac : Addr) (i : Nat) (w w1 : World) (v : Value) (h : FR10 f0 f1  B  cB  s  A7  c7  A8  c8  ac  i w v) (hb : Below w.heap.size w w1) : FR10 f0 f1  B  cB  s  A7  c7  A8  c8  ac  i w1 v := by
  match i with
  | 0 | 1 | 2 | 3 | 4 | 5 | 6 | 7 | 8 | 9 | 10 | 11 | 12 | 13 => exact h
  | (n + 14) => exact h

theorem add0 (a : Addr) : a.add 0 = a := by simp [Addr.add]
structure RoundOk (l : List S63) (s c : List S35) : Prop where
  blocks : PureF.SmallB l
  slots : s.length * 16 ≤ 140737488351232
  consts : c.length * 16 ≤ 140737488351232
set_option maxHeartbeats 4000000 in
set_option maxRecDepth 100000 in
theorem portagelaw26_DeoptRound.calls (c0 c1 : Int) (A : Option Addr) (cA : Nat) (l : List S63) (f0 f1 : Int) (B : Option Addr) (cB : Nat) (s : List S35) (D : Option Addr) (cD : Nat) (cs : List S35) (r : Bool) (w : World)
    (hA : Kd.C k63 w A l.length l) (hlA : l.length ≤ cA) (hB : Kd.C k35 w B s.length s) (hlB : s.length ≤ cB) (hD : Kd.C k35 w D cs.length cs) (hlD : cs.length ≤ cD) (h : RoundOk l s cs ∧ r = true) :
    Calls Try.prog 7 #[.agg #[.int .i64 c0, .int .i64 c1, .slice A l.length cA], .agg #[.int .i64 f0, .int .i64 f1, .slice B s.length cB], .slice D cs.length cD] w fun e w' => e = .returned (.bool r) ∧ Below w.heap.size w w' := by
  obtain ⟨hOK, rfl⟩ := h
  obtain ⟨K1, p1⟩ := PureF.copyB c0 c1 l hOK.blocks
  obtain ⟨K2, p2⟩ := PureF.copyF f0 f1 s (by have := hOK.slots; omega)
  obtain ⟨K3, p3⟩ := PureF.reg_ev c0 c1 f0 f1 l s hOK.blocks (by have := hOK.slots; omega)
  generalize hk : K1 + K2 + K3 = k
  have H1 := Aside0.mk (p1 k (by omega))
  have H2 := Aside0.mk (p2 k (by omega))
  have H3 := Aside0.mk (p3 k (by omega))
  have HT := Aside0.mk (fun r n (h : PureF.regOf c0 c1 l f0 f1 s = (r, n, true)) => PureF.reg_told c0 c1 f0 f1 l s r n h)
  clear p1 p2 p3 hk
  have HA := Aside0.mk hA
  have HlA := hlA
  have HB := Aside0.mk hB
  have HlB := hlB
  have HD := Aside0.mk hD
  have HlD := hlD
  have HOK := Aside0.mk hOK
  clear hA hB hD hOK hlA hlB hlD
  rcases hR : PureF.regOf c0 c1 l f0 f1 s with ⟨r1, r2, r3⟩
  have HR := Aside0.mk hR
  replace H3 : Aside0 (deopt_Registers.f k c0 c1 l f0 f1 s = some (r1, r2, r3)) := ⟨H3.out.trans (by rw [hR])⟩
  clear hR
  go_enter Try.func7, Try.ntmps7
  go_wp2_with (fail)
  have K3 := blk_new w (.cells #[.int .i64 c0, .int .i64 c1, .slice A l.length cA] 24)
  have b1 := below_alloc (Below.refl _ w) (.cells #[.int .i64 c0, .int .i64 c1, .slice A l.length cA] 24)
  have z1 : (w.alloc (.cells #[.int .i64 c0, .int .i64 c1, .slice A l.length cA] 24)).heap.size = w.heap.size + 1 := World.size_alloc _ _
  generalize w.alloc (.cells #[.int .i64 c0, .int .i64 c1, .slice A l.length cA] 24) = w1 at K3 b1 z1 ⊢
  rw [← z1]
  clear z1
  have HW := Aside0.mk b1
  clear b1
  have K4 := blk_new w1 (.cells #[.int .i64 f0, .int .i64 f1, .slice B s.length cB] 27)
  have b1 := below_alloc (Below.refl _ w1) (.cells #[.int .i64 f0, .int .i64 f1, .slice B s.length cB] 27)
  replace K3 := blk_below K3 b1
  replace HW := Aside0.mk (wB HW.out b1)
  generalize w1.alloc (.cells #[.int .i64 f0, .int .i64 f1, .slice B s.length cB] 27) = w2 at K3 K4 HW ⊢
  generalize w1.heap.size = g4 at K4 ⊢
  generalize w.heap.size = g3 at K3 ⊢
  replace HA := Aside0.mk (Kd.C_below HA.out HW.out)
  replace HB := Aside0.mk (Kd.C_below HB.out HW.out)
  replace HD := Aside0.mk (Kd.C_below HD.out HW.out)
  replace K3 := Aside0.mk K3
  replace K4 := Aside0.mk K4
  clear b1
  rename_i hK
  refine RegInv.region_facts (by kernel_rfl) (by kernel_rfl) (fun a b => Below a.heap.size a b) (fun a b c h k => wB h k) (below_drew1 (Below.refl _ _)) dR1 12 (by kernel_rfl) (by kernel_rfl) (by kernel_rfl) (FR1 c0 c1 f0 f1 A cA l B cB s r1 r2 r3) (FR1_below c0 c1 f0 f1 A cA l B cB s r1 r2 r3) ?hsR1 ?heR1
  case hsR1 =>
    clear hK HW HD HOK HT HR
    intro i o a w8 hi hM
    have hlt : i < 12 := (Array.getElem?_eq_some_iff.1 hi).1
    have K3' := blk_below K3.out hM.ext
    have K4' := blk_below K4.out hM.ext
    have HA' := Kd.C_below HA.out hM.ext
    have HB' := Kd.C_below HB.out hM.ext
    rcases i with _ | _ | _ | _ | _ | _ | _ | _ | _ | _ | _ | _ | i
    · cases hi
      have h3 := gdq _ _ _ (show a.tmps.getD 3 undef = .pointer (some ⟨g3, 0, none⟩) from hM.off 3 (by kernel_rfl))
      have q0 : w8.cell? ⟨g3, 0, none⟩ = some (.int .i64 c0) := blk_cell K3' 0
      have q1 : w8.cell? ⟨g3, 1, none⟩ = some (.int .i64 c1) := blk_cell K3' 1
      have q2 : w8.cell? ⟨g3, 2, none⟩ = some (.slice A l.length cA) := blk_cell K3' 2
      refine RegInv.op_value (by rfl) rfl (v := .agg #[.int .i64 c0, .int .i64 c1, .slice A l.length cA]) (w' := w8) ?_ ⟨_, rfl, rfl, Below.refl _ _⟩
      unfold execOp
      go_simp
    · cases hi
      have h0 := gdq _ _ _ (show a.tmps.getD 14 undef = .agg #[.int .i64 c0, .int .i64 c1, .slice A l.length cA] from hM.at_ 0 (by decide) (by kernel_rfl))
      refine RegInv.op_call (by rfl) rfl Try.func10 (by kernel_rfl) rfl rfl #[.agg #[.int .i64 c0, .int .i64 c1, .slice A l.length cA]] (by simp [Act.eval, h0]) ?_
      refine (portageref0_CopyRegs.calls k c0 c1 A cA l c0 c1 l w8 HA' HlA (H1.out)).mono ?_
      rintro e w9 ⟨v0, rfl, hR, b⟩
      exact ⟨_, rfl, _, rfl, ⟨v0, rfl, Kd.R_reads hR⟩, b⟩
    · cases hi
      have h3 := gdq _ _ _ (show a.tmps.getD 4 undef = .pointer (some ⟨g4, 0, none⟩) from hM.off 4 (by kernel_rfl))
      have q0 : w8.cell? ⟨g4, 0, none⟩ = some (.int .i64 f0) := blk_cell K4' 0
      have q1 : w8.cell? ⟨g4, 1, none⟩ = some (.int .i64 f1) := blk_cell K4' 1
      have q2 : w8.cell? ⟨g4, 2, none⟩ = some (.slice B s.length cB) := blk_cell K4' 2
      refine RegInv.op_value (by rfl) rfl (v := .agg #[.int .i64 f0, .int .i64 f1, .slice B s.length cB]) (w' := w8) ?_ ⟨_, rfl, rfl, Below.refl _ _⟩
      unfold execOp
      go_simp
    · cases hi
      have h0 := gdq _ _ _ (show a.tmps.getD 16 undef = .agg #[.int .i64 f0, .int .i64 f1, .slice B s.length cB] from hM.at_ 2 (by decide) (by kernel_rfl))
      refine RegInv.op_call (by rfl) rfl Try.func29 (by kernel_rfl) rfl rfl #[.agg #[.int .i64 f0, .int .i64 f1, .slice B s.length cB]] (by simp [Act.eval, h0]) ?_
      refine (portageref0_CopyFrame.calls k f0 f1 B cB s f0 f1 s w8 HB' HlB (H2.out)).mono ?_
      rintro e w9 ⟨v0, rfl, hR, b⟩
      exact ⟨_, rfl, _, rfl, ⟨v0, rfl, Kd.R_reads hR⟩, b⟩
    · cases hi
      obtain ⟨_, hux, ⟨A1, cc, rfl, hlx, hCx⟩⟩ : ∃ u, a.tmps.getD 15 undef = .agg #[.int .i64 c0, .int .i64 c1, u] ∧ Sl k63 l w8 u := hM.at_ 1 (by decide) (by kernel_rfl)
      replace hux := gdq _ _ _ hux
      obtain ⟨_, huy, ⟨B1, cd, rfl, hly, hCy⟩⟩ : ∃ u', a.tmps.getD 17 undef = .agg #[.int .i64 f0, .int .i64 f1, u'] ∧ Sl k35 s w8 u' := hM.at_ 3 (by decide) (by kernel_rfl)
      replace huy := gdq _ _ _ huy
      refine RegInv.op_call (by rfl) rfl Try.func13 (by kernel_rfl) rfl rfl #[.agg #[.int .i64 c0, .int .i64 c1, .slice A1 l.length cc], .agg #[.int .i64 f0, .int .i64 f1, .slice B1 s.length cd]] (by simp [Act.eval, hux, huy]) ?_
      refine (deopt_Registers.calls k c0 c1 A1 cc l f0 f1 B1 cd s r1 r2 r3 w8 hCx hlx hCy hly (H3.out)).mono ?_
      rintro e w9 ⟨v0, rfl, hR, b⟩
      exact ⟨_, rfl, _, rfl, ⟨v0, rfl, Kd.R_reads hR⟩, b⟩
    · cases hi
      obtain ⟨u, hu, hU⟩ : ∃ u, a.tmps.getD 18 undef = .tuple #[u, .int .i64 r2, .bool r3] ∧ Sl k35 r1 w8 u := hM.at_ 4 (by decide) (by kernel_rfl)
      replace hu := gdq _ _ _ hu
      refine RegInv.op_value (by rfl) rfl (v := .tuple #[u, .int .i64 r2, .bool r3]) (w' := w8) ?_ ⟨_, rfl, ⟨u, rfl, hU⟩, Below.refl _ _⟩
      clear hU
      unfold execOp
      go_simp
    · cases hi
      obtain ⟨u, hu, hU⟩ : ∃ u, a.tmps.getD 13 undef = .tuple #[u, .int .i64 r2, .bool r3] ∧ Sl k35 r1 w8 u := hM.at_ 5 (by decide) (by kernel_rfl)
      replace hu := gdq _ _ _ hu
      refine RegInv.op_value (by rfl) rfl (v := u) (w' := w8) ?_ ⟨_, rfl, hU, Below.refl _ _⟩
      clear hU
      unfold execOp
      go_simp
    · cases hi
      obtain ⟨u, hu, hU⟩ : ∃ u, a.tmps.getD 13 undef = .tuple #[u, .int .i64 r2, .bool r3] ∧ Sl k35 r1 w8 u := hM.at_ 5 (by decide) (by kernel_rfl)
      replace hu := gdq _ _ _ hu
      refine RegInv.op_value (by rfl) rfl (v := .int .i64 r2) (w' := w8) ?_ ⟨_, rfl, rfl, Below.refl _ _⟩
      clear hU
      unfold execOp
      go_simp
    · cases hi
      obtain ⟨u, hu, hU⟩ : ∃ u, a.tmps.getD 13 undef = .tuple #[u, .int .i64 r2, .bool r3] ∧ Sl k35 r1 w8 u := hM.at_ 5 (by decide) (by kernel_rfl)
      replace hu := gdq _ _ _ hu
      refine RegInv.op_value (by rfl) rfl (v := .bool r3) (w' := w8) ?_ ⟨_, rfl, rfl, Below.refl _ _⟩
      clear hU
      unfold execOp
      go_simp
    · cases hi
      obtain ⟨A1, c, hv, hl, hC⟩ : Sl k35 r1 w8 (a.tmps.getD 19 undef) := hM.at_ 6 (by decide) (by kernel_rfl)
      replace hv := gdq _ _ _ hv
      refine RegInv.op_value (by rfl) rfl (v := .slice A1 r1.length c) (w' := w8) ?_ ⟨_, rfl, ⟨A1, c, rfl, hl, hC⟩, Below.refl _ _⟩
      clear hl hC
      unfold execOp
      go_simp
    · cases hi
      have h0 := gdq _ _ _ (show a.tmps.getD 20 undef = .int .i64 r2 from hM.at_ 7 (by decide) (by kernel_rfl))
      refine RegInv.op_value (by rfl) rfl (v := .int .i64 r2) (w' := w8) ?_ ⟨_, rfl, rfl, Below.refl _ _⟩
      unfold execOp
      go_simp
    · cases hi
      have h0 := gdq _ _ _ (show a.tmps.getD 21 undef = .bool r3 from hM.at_ 8 (by decide) (by kernel_rfl))
      refine RegInv.op_value (by rfl) rfl (v := .bool r3) (w' := w8) ?_ ⟨_, rfl, rfl, Below.refl _ _⟩
      unfold execOp
      go_simp
    · exact absurd hlt (by omega)
  intro vs w10 b3 hF
  obtain ⟨A1, cc, e9, l9, C9⟩ : Sl k35 r1 w10 (vs 9) := hF 9 (by omega)
  have e10 : vs 10 = .int .i64 r2 := hF 10 (by omega)
  have e11 : vs 11 = .bool r3 := hF 11 (by omega)
  clear hF
  simp only [RegInv.puts, dR1, Act.put, List.range, List.range.loop, List.setIfInBounds_toArray, List.set_cons_zero, List.set_cons_succ]
  rw [e9, e10, e11]
  clear e9 e10 e11
  replace C9 := Aside0.mk C9
  replace l9 := Aside0.mk l9
  replace HA := Aside0.mk (Kd.C_below HA.out b3)
  replace HD := Aside0.mk (Kd.C_below HD.out b3)
  replace HB := Aside0.mk (Kd.C_below HB.out b3)
  replace HW := Aside0.mk (wB HW.out b3)
  replace K3 := Aside0.mk (blk_below K3.out b3)
  replace K4 := Aside0.mk (blk_below K4.out b3)
  clear b3 H1 H2 H3
  generalize vs 0 = u0
  generalize vs 1 = u1
  generalize vs 2 = u2
  generalize vs 3 = u3
  generalize vs 4 = u4
  generalize vs 5 = u5
  generalize vs 6 = u6
  generalize vs 7 = u7
  generalize vs 8 = u8
  refine hK _ _ ?_
  clear hK
  cases r3 with
  | false =>
    go_wp2_with (fail)
    refine (portagelaw26_shown.calls true w10 rfl).mono ?_
    rintro e w11 ⟨rfl, b3⟩
    replace HW := Aside0.mk (wB HW.out b3)
    clear b3
    go_wp2_with (fail)
    go_ret
    exact ⟨rfl, HW.out⟩
  | true =>
    obtain ⟨i, sh, hr2, hT⟩ := HT.out r1 r2 HR.out
    have hlt := hT.lt
    have hrd : rd_T63 l r2 = l[i] := by rw [hr2]; exact PureF.rd63 l i hlt
    have hpc := hT.pc
    have hlen := hT.len
    obtain ⟨x, t, hb, h7⟩ := hT.ins
    obtain ⟨ad, A2, c2, A3, c3, rfl, q0, q1, q2, h1, C65, _, _⟩ := at_T63 HA.out r2 (by omega) (by omega)
    rw [hrd] at q0 q1 q2 h1 C65
    rw [hpc] at q0
    rw [hb] at q1 h1 C65
    obtain ⟨ae, A4, c4, A5, c5, rfl, p0, p1, p2, p3, p4, p5, p6, p7, _, _, h2, C67⟩ := at_T65 C65 0 (by decide) (by simp only [List.length_cons]; omega)
    rw [show rd_T65 (x :: t) 0 = x from rfl, h7] at p7 h2 C67
    obtain ⟨af, A6, c6, rfl, y0, y1, y2, h3, C44⟩ := at_T67 C67 0 (by decide) (by simp)
    rw [show rd_T67 [sh] 0 = sh from rfl] at y0 y1 y2 h3 C44
    have e0 : w10.cell? ⟨g3, 1, none⟩ = some (.int .i64 c1) := blk_cell K3.out 1
    have e1 : w10.cell? ⟨g3, 2, none⟩ = some (.slice (some ad) l.length cA) := blk_cell K3.out 2
    have e2 : w10.cell? ⟨g4, 1, none⟩ = some (.int .i64 f1) := blk_cell K4.out 1
    have d0 : decide (r2 < 0) = false := decide_eq_false (by omega)
    have d1 : decide ((l.length : Int) ≤ r2) = false := decide_eq_false (by omega)
    have d2 : ((r1.length : Int) != c1) = false := by rw [bne_eq_false_iff_eq]; exact hlen
    have d3 : ((t.length : Int) + 1 == 0) = false := by rw [beq_eq_false_iff_ne]; omega
    have n0 : 0 ≤ r2 := by omega
    have n1 : r2 < (l.length : Int) := by omega
    have n2 : (0 : Int) < (t.length : Int) + 1 := by omega
    have HT' := Aside0.mk hT
    have HS := Aside0.mk (show c5 = c5 ∧ ([sh] : List S67).length ≤ c5 from ⟨rfl, h2⟩)
    replace C44 := Aside0.mk C44
    replace h3 := Aside0.mk h3
    clear hlen hpc hrd hb h7 hT HT HR hr2 p0 p1 p2 p3 p4 p5 p6 q2 C65 C67 h1 h2
    go_wp2_with (fail)
    rw [show (0 : Int).toNat * 8 = 0 from rfl, add0] at p7
    rw [show (0 : Int).toNat * 3 = 0 from rfl, add0] at y0 y1 y2
    go_quiet (fail)
    rename_i nq
    have b3 : Below w10.heap.size w10 (w10.drewN nq) := pw_below_drewN (Below.refl _ _) nq
    replace HB := Aside0.mk (Kd.C_below HB.out b3)
    replace HD := Aside0.mk (Kd.C_below HD.out b3)
    replace C9 := Aside0.mk (Kd.C_below C9.out b3)
    replace C44 := Aside0.mk (Kd.C_below C44.out b3)
    replace HW := Aside0.mk (wB HW.out b3)
    replace K4 := Aside0.mk (blk_below K4.out b3)
    clear b3 HA e0 e2 d1 d2 d3 K3
    have e1' : (w10.drewN nq).cell? ⟨g3, 2, none⟩ = some (.slice (some ad) l.length cA) := e1
    have q1' : (w10.drewN nq).cell? ⟨(ad.add (r2.toNat * 3)).block, (ad.add (r2.toNat * 3)).off + 1, none⟩ = some (.slice (some ae) (x :: t).length c2) := q1
    have p7' : (w10.drewN nq).cell? ⟨ae.block, ae.off + 7, none⟩ = some (.slice (some af) [sh].length c5) := p7
    have y0' : (w10.drewN nq).cell? af = some (.int .i64 sh.f0) := y0
    have y1' : (w10.drewN nq).cell? ⟨af.block, af.off + 1, none⟩ = some (.int .i64 sh.f1) := y1
    have y2' : (w10.drewN nq).cell? ⟨af.block, af.off + 2, none⟩ = some (.slice A6 sh.f2.length c6) := y2
    clear e1 q0 q1 p7 y0 y1 y2
    generalize w10.drewN nq = w11 at HB HD C9 C44 HW K4 e1' q1' p7' y0' y1' y2' ⊢
    go_upto_region 7 with (fail)
    clear e1' q1' p7' y0' y1' y2'
    have K10 := blk_new w11 (.cells #[.int .i64 sh.f0, .int .i64 sh.f1, .slice A6 sh.f2.length c6] 67)
    have b3 := below_alloc (Below.refl _ w11) (.cells #[.int .i64 sh.f0, .int .i64 sh.f1, .slice A6 sh.f2.length c6] 67)
    generalize w11.alloc (.cells #[.int .i64 sh.f0, .int .i64 sh.f1, .slice A6 sh.f2.length c6] 67) = w12 at K10 b3 ⊢
    generalize w11.heap.size = g10 at K10 ⊢
    replace HB := Aside0.mk (Kd.C_below HB.out b3)
    replace HD := Aside0.mk (Kd.C_below HD.out b3)
    replace C9 := Aside0.mk (Kd.C_below C9.out b3)
    replace C44 := Aside0.mk (Kd.C_below C44.out b3)
    replace HW := Aside0.mk (wB HW.out b3)
    replace K4 := Aside0.mk (blk_below K4.out b3)
    clear b3
    have r0 : w12.cell? ⟨g10, 0, none⟩ = some (.int .i64 sh.f0) := blk_cell K10 0
    have r1' : w12.cell? ⟨g10, 1, none⟩ = some (.int .i64 sh.f1) := blk_cell K10 1
    have r2' : w12.cell? ⟨g10, 2, none⟩ = some (.slice A6 sh.f2.length c6) := blk_cell K10 2
    have r3 : w12.cell? ⟨g4, 0, none⟩ = some (.int .i64 f0) := blk_cell K4.out 0
    have r4 : w12.cell? ⟨g4, 1, none⟩ = some (.int .i64 f1) := blk_cell K4.out 1
    replace K10 := Aside0.mk K10
    have fin : ∀ w13, Below w12.heap.size w12 w13 → Below w.heap.size w w13 := fun w13 b => wB HW.out b
    have FIN := Aside0.mk fin
    clear fin
    by_cases ha : sh.f0 = f0
    case neg =>
      have ha' : (sh.f0 != f0) = true := by rw [bne_iff_ne]; exact ha
      clear ha
      go_wp2_with (fail)
      refine (portagelaw26_shown.calls true w12 rfl).mono ?_
      rintro e w13 ⟨rfl, b3⟩
      replace FIN := Aside0.mk (FIN.out w13 b3)
      clear b3 r0 r1' r2' r3 r4
      go_wp2_with (fail)
      go_ret
      exact ⟨rfl, FIN.out⟩
    subst ha
    by_cases hb : sh.f1 = f1
    case neg =>
      have hb' : (sh.f1 != f1) = true := by rw [bne_iff_ne]; exact hb
      clear hb
      go_wp2_with (fail)
      refine (portagelaw26_shown.calls true w12 rfl).mono ?_
      rintro e w13 ⟨rfl, b3⟩
      replace FIN := Aside0.mk (FIN.out w13 b3)
      clear b3 r0 r1' r2' r3 r4
      go_wp2_with (fail)
      go_ret
      exact ⟨rfl, FIN.out⟩
    subst hb
    have hsl := HT'.out.slots
    have hos := HOK.out.slots
    obtain ⟨u, ⟨K5, p5⟩, hu⟩ := PureF.un_ev sh.f2 (by omega)
    have hu' := Aside0.mk hu
    clear hu hsl hos
    have H5 := Aside0.mk (p5 K5 (Nat.le_refl _))
    clear p5
    go_wp2_with (fail)
    refine (portagelaw26_unlike.calls K5 A6 c6 sh.f2 u w12 C44.out h3.out H5.out).mono ?_
    rintro e w13 ⟨rfl, hd⟩
    have b3 := hd.below
    clear hd
    cases u with
    | false =>
      clear r0 r1' r2' r3 r4
      go_wp2_with (fail)
      refine (portagelaw26_shown.calls true w13 rfl).mono ?_
      rintro e w14 ⟨rfl, b4⟩
      replace FIN := Aside0.mk (FIN.out w14 (wB b3 b4))
      clear b3 b4
      go_wp2_with (fail)
      go_ret
      exact ⟨rfl, FIN.out⟩
    | true =>
      have hun := hu'.out rfl
      have hbk := Aside0.mk (PureF.back 0 c1 0 sh.f1 l s r1 cs _ sh HT'.out hun)
      have hsl := HT'.out.slots
      have hos := HOK.out.slots
      obtain ⟨K6, p6⟩ := PureF.frames_ev r1 cs [sh] (by simp) (by intro q hq; rw [List.mem_singleton.1 hq]; omega)
      have H6 := Aside0.mk ((p6 K6 (Nat.le_refl _)).trans (by rw [hbk.out]))
      obtain ⟨K7, p7⟩ := PureF.sameF ⟨sh.f0, sh.f1, s⟩ (by show s.length ≤ _; omega)
      have H7 := Aside0.mk (p7 K7 (Nat.le_refl _))
      clear hun hbk hu' p6 p7 hsl hos HT' HOK r0 r1' r2' r3 r4 H5
      replace HB := Aside0.mk (Kd.C_below HB.out b3)
      replace HD := Aside0.mk (Kd.C_below HD.out b3)
      replace C9 := Aside0.mk (Kd.C_below C9.out b3)
      replace C44 := Aside0.mk (Kd.C_below C44.out b3)
      replace K4 := Aside0.mk (blk_below K4.out b3)
      replace K10 := Aside0.mk (blk_below K10.out b3)
      have HW13 := Aside0.mk (FIN.out w13 b3)
      clear b3 FIN HW
      have r0 : w13.cell? ⟨g10, 0, none⟩ = some (.int .i64 sh.f0) := blk_cell K10.out 0
      have r1' : w13.cell? ⟨g10, 1, none⟩ = some (.int .i64 sh.f1) := blk_cell K10.out 1
      have r2' : w13.cell? ⟨g10, 2, none⟩ = some (.slice A6 sh.f2.length c6) := blk_cell K10.out 2
      go_wp2_with (fail)
      clear r0 r1' r2'
      have c6' := lit_C k67 w13 67 [sh] [.int .i64 sh.f0, .int .i64 sh.f1, .slice A6 sh.f2.length c6] (reps1 (k67_K ⟨_, _, rfl, h3.out, C44.out⟩) rfl) (by simp)
      have b3 := below_alloc (Below.refl _ w13) (.cells #[.int .i64 sh.f0, .int .i64 sh.f1, .slice A6 sh.f2.length c6] 67)
      generalize w13.alloc (.cells #[.int .i64 sh.f0, .int .i64 sh.f1, .slice A6 sh.f2.length c6] 67) = w14 at c6' b3 ⊢
      generalize w13.heap.size = g14 at c6' ⊢
      replace HB := Aside0.mk (Kd.C_below HB.out b3)
      replace HD := Aside0.mk (Kd.C_below HD.out b3)
      replace C9 := Aside0.mk (Kd.C_below C9.out b3)
      replace K4 := Aside0.mk (blk_below K4.out b3)
      replace HW13 := Aside0.mk (wB HW13.out b3)
      clear b3 K10 C44 h3
      refine (deopt_Frames.calls K6 (some ⟨g14, 0, none⟩) 1 [sh] A1 cc r1 D cD cs [⟨sh.f0, sh.f1, s⟩] true w14 c6' (Nat.le_refl _) C9.out l9.out HD.out HlD H6.out).mono ?_
      rintro e w15 ⟨v0, rfl, hN, b3⟩
      obtain ⟨A7, c7, rfl, l7, C7⟩ := Kd.N_reads hN
      obtain ⟨ac, A8, c8, rfl, z0, z1, z2, hl8, E8⟩ := at_T27 C7 0 (by decide) (by simp)
      rw [show rd_T27 [(⟨sh.f0, sh.f1, s⟩ : S27)] 0 = ⟨sh.f0, sh.f1, s⟩ from rfl] at z0 z1 z2 hl8 E8
      rw [show (0 : Int).toNat * 3 = 0 from rfl, add0] at z0 z1 z2
      have E8' := Aside0.mk E8
      have Z0 : ∀ w8, Below w15.heap.size w15 w8 → w8.cell? ac = some (.int .i64 sh.f0) := fun w8 b => pw_cell_below b z0
      have Z1 : ∀ w8, Below w15.heap.size w15 w8 → w8.cell? ⟨ac.block, ac.off + 1, none⟩ = some (.int .i64 sh.f1) := fun w8 b => pw_cell_below b z1
      have Z2 : ∀ w8, Below w15.heap.size w15 w8 → w8.cell? ⟨ac.block, ac.off + 2, none⟩ = some (.slice A8 s.length c8) := fun w8 b => pw_cell_below b z2
      have ZZ := Aside0.mk (And.intro Z0 (And.intro Z1 Z2))
      have HL8 := Aside0.mk hl8
      replace HB := Aside0.mk (Kd.C_below HB.out b3)
      replace K4 := Aside0.mk (blk_below K4.out b3)
      replace HW13 := Aside0.mk (wB HW13.out b3)
      clear Z0 Z1 Z2 z0 z1 z2 hN C7 E8 hl8 b3 HD C9 c6' l7 H6
      have H4 := H7
      clear H7
      go_wp2_with (fail)
      rename_i hK
      refine RegInv.region_facts (by kernel_rfl) (by kernel_rfl) (fun a b => Below a.heap.size a b) (fun a b c h k => wB h k) (below_drew1 (Below.refl _ _)) dR10 14 (by kernel_rfl) (by kernel_rfl) (by kernel_rfl) (FR10 sh.f0 sh.f1 B cB s (some ac) c7 A8 c8 ac) (FR10_below sh.f0 sh.f1 B cB s (some ac) c7 A8 c8 ac) ?hsR10 ?heR10
      case hsR10 =>
        clear hK HW13
        intro i o a w8 hi hM
        have hlt : i < 14 := (Array.getElem?_eq_some_iff.1 hi).1
        have K4' := blk_below K4.out hM.ext
        have HB' := Kd.C_below HB.out hM.ext
        have E8' := Kd.C_below E8'.out hM.ext
        obtain ⟨Z0, Z1, Z2⟩ := ZZ.out
        have hl8 := HL8.out
        rcases i with _ | _ | _ | _ | _ | _ | _ | _ | _ | _ | _ | _ | _ | _ | i
        · cases hi
          have h0 := gdq _ _ _ (show a.tmps.getD 12 undef = .bool true from hM.off 12 (by kernel_rfl))
          refine RegInv.op_value (by rfl) rfl (v := .bool true) (w' := w8) ?_ ⟨_, rfl, rfl, Below.refl _ _⟩
          unfold execOp
          go_simp
        · cases hi
          have h0 := gdq _ _ _ (show a.tmps.getD 113 undef = .bool true from hM.at_ 0 (by decide) (by kernel_rfl))
          refine RegInv.op_value (by rfl) rfl (v := .bool true) (w' := w8) ?_ ⟨_, rfl, rfl, Below.refl _ _⟩
          unfold execOp
          go_simp
        · cases hi
          have h0 := gdq _ _ _ (show a.tmps.getD 11 undef = .slice (some ac) 1 c7 from hM.off 11 (by kernel_rfl))
          have hg : a.tmps.getD 114 undef = .bool true := hM.at_ 1 (by decide) (by kernel_rfl)
          refine RegInv.op_valueW (by rfl) (RegInv.wanted_of 114 rfl rfl hg) (v := .slice (some ac) 1 c7) (w' := w8) ?_ ⟨_, rfl, rfl, Below.refl _ _⟩
          unfold execOp
          go_simp
        · cases hi
          have h0 := gdq _ _ _ (show a.tmps.getD 115 undef = .slice (some ac) 1 c7 from hM.at_ 2 (by decide) (by kernel_rfl))
          have hg : a.tmps.getD 114 undef = .bool true := hM.at_ 1 (by decide) (by kernel_rfl)
          refine RegInv.op_valueW (by rfl) (RegInv.wanted_of 114 rfl rfl hg) (v := .int .i64 1) (w' := w8) ?_ ⟨_, rfl, rfl, Below.refl _ _⟩
          unfold execOp
          go_simp
        · cases hi
          have h0 := gdq _ _ _ (show a.tmps.getD 116 undef = .int .i64 1 from hM.at_ 3 (by decide) (by kernel_rfl))
          have hg : a.tmps.getD 114 undef = .bool true := hM.at_ 1 (by decide) (by kernel_rfl)
          refine RegInv.op_valueW (by rfl) (RegInv.wanted_of 114 rfl rfl hg) (v := .bool true) (w' := w8) ?_ ⟨_, rfl, rfl, Below.refl _ _⟩
          unfold execOp
          go_simp
        · cases hi
          have h0 := gdq _ _ _ (show a.tmps.getD 114 undef = .bool true from hM.at_ 1 (by decide) (by kernel_rfl))
          have h1 := gdq _ _ _ (show a.tmps.getD 117 undef = .bool true from hM.at_ 4 (by decide) (by kernel_rfl))
          refine RegInv.op_value (by rfl) rfl (v := .bool true) (w' := w8) ?_ ⟨_, rfl, rfl, Below.refl _ _⟩
          unfold execOp
          go_simp
        · cases hi
          have h0 := gdq _ _ _ (show a.tmps.getD 118 undef = .bool true from hM.at_ 5 (by decide) (by kernel_rfl))
          refine RegInv.op_value (by rfl) rfl (v := .bool true) (w' := w8) ?_ ⟨_, rfl, rfl, Below.refl _ _⟩
          unfold execOp
          go_simp
        · cases hi
          have h0 := gdq _ _ _ (show a.tmps.getD 11 undef = .slice (some ac) 1 c7 from hM.off 11 (by kernel_rfl))
          have hg : a.tmps.getD 119 undef = .bool true := hM.at_ 6 (by decide) (by kernel_rfl)
          refine RegInv.op_valueW (by rfl) (RegInv.wanted_of 119 rfl rfl hg) (v := .slice (some ac) 1 c7) (w' := w8) ?_ ⟨_, rfl, rfl, Below.refl _ _⟩
          unfold execOp
          go_simp
        · cases hi
          have h0 := gdq _ _ _ (show a.tmps.getD 120 undef = .slice (some ac) 1 c7 from hM.at_ 7 (by decide) (by kernel_rfl))
          have hg : a.tmps.getD 119 undef = .bool true := hM.at_ 6 (by decide) (by kernel_rfl)
          refine RegInv.op_valueW (by rfl) (RegInv.wanted_of 119 rfl rfl hg) (v := .pointer (some ac)) (w' := w8) ?_ ⟨_, rfl, rfl, Below.refl _ _⟩
          unfold execOp
          go_simp
        · cases hi
          have h0 := gdq _ _ _ (show a.tmps.getD 121 undef = .pointer (some ac) from hM.at_ 8 (by decide) (by kernel_rfl))
          have hg : a.tmps.getD 119 undef = .bool true := hM.at_ 6 (by decide) (by kernel_rfl)
          have x0 := Z0 w8 hM.ext
          have x1 := Z1 w8 hM.ext
          have x2 := Z2 w8 hM.ext
          clear Z0 Z1 Z2
          refine RegInv.op_valueW (by rfl) (RegInv.wanted_of 119 rfl rfl hg) (v := .agg #[.int .i64 sh.f0, .int .i64 sh.f1, .slice A8 s.length c8]) (w' := w8) ?_ ⟨_, rfl, rfl, Below.refl _ _⟩
          unfold execOp
          go_simp
        · cases hi
          have hg : a.tmps.getD 119 undef = .bool true := hM.at_ 6 (by decide) (by kernel_rfl)
          have h3 := gdq _ _ _ (show a.tmps.getD 4 undef = .pointer (some ⟨g4, 0, none⟩) from hM.off 4 (by kernel_rfl))
          have y0 : w8.cell? ⟨g4, 0, none⟩ = some (.int .i64 sh.f0) := blk_cell K4' 0
          have y1 : w8.cell? ⟨g4, 1, none⟩ = some (.int .i64 sh.f1) := blk_cell K4' 1
          have y2 : w8.cell? ⟨g4, 2, none⟩ = some (.slice B s.length cB) := blk_cell K4' 2
          refine RegInv.op_valueW (by rfl) (RegInv.wanted_of 119 rfl rfl hg) (v := .agg #[.int .i64 sh.f0, .int .i64 sh.f1, .slice B s.length cB]) (w' := w8) ?_ ⟨_, rfl, rfl, Below.refl _ _⟩
          unfold execOp
          go_simp
        · cases hi
          have h0 := gdq _ _ _ (show a.tmps.getD 122 undef = .agg #[.int .i64 sh.f0, .int .i64 sh.f1, .slice A8 s.length c8] from hM.at_ 9 (by decide) (by kernel_rfl))
          have h1 := gdq _ _ _ (show a.tmps.getD 123 undef = .agg #[.int .i64 sh.f0, .int .i64 sh.f1, .slice B s.length cB] from hM.at_ 10 (by decide) (by kernel_rfl))
          have hg : a.tmps.getD 119 undef = .bool true := hM.at_ 6 (by decide) (by kernel_rfl)
          refine RegInv.op_callW (by rfl) (RegInv.wanted_of 119 rfl rfl hg) Try.func31 (by kernel_rfl) rfl rfl #[.agg #[.int .i64 sh.f0, .int .i64 sh.f1, .slice A8 s.length c8], .agg #[.int .i64 sh.f0, .int .i64 sh.f1, .slice B s.length cB]] (by simp [Act.eval, h0, h1]) ?_
          refine (portageref0_SameFrame.calls K7 sh.f0 sh.f1 A8 c8 s sh.f0 sh.f1 B cB s true w8 E8' hl8 HB' HlB (H4.out)).mono ?_
          rintro e w9 ⟨rfl, b⟩
          exact ⟨_, rfl, _, rfl, rfl, b⟩
        · cases hi
          have h0 := gdq _ _ _ (show a.tmps.getD 119 undef = .bool true from hM.at_ 6 (by decide) (by kernel_rfl))
          have h1 := gdq _ _ _ (show a.tmps.getD 124 undef = .bool true from hM.at_ 11 (by decide) (by kernel_rfl))
          refine RegInv.op_value (by rfl) rfl (v := .bool true) (w' := w8) ?_ ⟨_, rfl, rfl, Below.refl _ _⟩
          unfold execOp
          go_simp
        · cases hi
          have h0 := gdq _ _ _ (show a.tmps.getD 125 undef = .bool true from hM.at_ 12 (by decide) (by kernel_rfl))
          refine RegInv.op_value (by rfl) rfl (v := .bool true) (w' := w8) ?_ ⟨_, rfl, rfl, Below.refl _ _⟩
          unfold execOp
          go_simp
        · exact absurd hlt (by omega)

      intro vs w16 b3 hF
      have e13 : vs 13 = .bool true := hF 13 (by omega)
      clear hF
      simp only [RegInv.puts, dR10, Act.put, List.range, List.range.loop, List.setIfInBounds_toArray, List.set_cons_zero, List.set_cons_succ]
      rw [e13]
      clear e13
      generalize vs 0 = t0
      generalize vs 1 = t1
      generalize vs 2 = t2
      generalize vs 3 = t3
      generalize vs 4 = t4
      generalize vs 5 = t5
      generalize vs 6 = t6
      generalize vs 7 = t7
      generalize vs 8 = t8
      generalize vs 9 = t9
      generalize vs 10 = t10
      generalize vs 11 = t11
      generalize vs 12 = t12
      refine hK _ _ ?_
      clear hK
      go_wp2_with (fail)
      go_ret
      exact ⟨rfl, wB HW13.out b3⟩
end Go.Proofs.Ytgbbcjooieggpaa.PFrames
