/- Kept: code that was handed out by HandCode is found as it was. For every world. -/
import Derived.Test.YtdjpamgjmpibnaaMarked
import Derived.Test.YtdjpamgjmpibnaaSameEv
namespace Go.Proofs.Ytdjpamgjmpibnaa.PHc
open Go.RowKit Go.Proofs.Ytdjpamgjmpibnaa.Lit Go.Proofs.Ytdjpamgjmpibnaa.OwnCells Go.Proofs.YtdjpamgjmpibnaaW.PrintWords Go.Proofs.YtdjpamgjmpibnaaW.PrintLast Go.Proofs.YtdjpamgjmpibnaaW.PrintMore
set_option linter.unusedVariables false
set_option linter.unusedSimpArgs false
def dKT : Nat → Option Tmp
  | 0 => some 5
  | 1 => some 6
  | 2 => some 7
  | 3 => some 8
  | 4 => some 9
  | 5 => some 10
  | 6 => some 11
  | 7 => some 12
  | 8 => some 13
  | 9 => some 14
  | 10 => some 15
  | 11 => some 16
  | 12 => some 17
  | 13 => some 18
  | 14 => some 19
  | 15 => some 4
  | _ => none
def FKT (g g3 : Nat) (PB AB : Option Addr) (n nf dB cB : Nat) : Nat → World → Value → Prop
  | 0, _, v => v = .pointer (some ⟨g, 0, none⟩)
  | 1, _, v => v = .bool true
  | 2, _, v => v = .bool true
  | 3, _, v => v = .pointer (some ⟨g, 0, none⟩)
  | 4, _, v => v = .pointer (some ⟨g, 0, none⟩)
  | 5, _, v => v = .pointer (some ⟨g, 7, none⟩)
  | 6, _, v => v = .slice PB nf dB
  | 7, _, v => v = .pointer (some ⟨g3, 2, none⟩)
  | 8, _, v => v = .slice AB n cB
  | 9, _, v => v = .int .i64 (n : Int)
  | 10, _, v => v = .slice PB n dB
  | 11, _, v => v = .pointer (some ⟨g3, 2, none⟩)
  | 12, _, v => v = .slice AB n cB
  | 13, _, v => v = .bool true
  | 14, _, v => v = .bool true
  | 15, _, v => v = .bool true
  | _, _, _ => True
theorem FKT_below (g g3 : Nat) (PB AB : Option Addr) (n nf dB cB : Nat) (i : Nat) (w w1 : World) (v : Value) (h : FKT g g3  PB AB  n nf dB cB  i w v) (hb : Below w.heap.size w w1) : FKT g g3  PB AB  n nf dB cB  i w1 v := by
  match i with
  | 0 | 1 | 2 | 3 | 4 | 5 | 6 | 7 | 8 | 9 | 10 | 11 | 12 | 13 | 14 | 15 => exact h
  | (n + 16) => exact h
set_option maxHeartbeats 16000000 in
set_option maxRecDepth 100000 in
theorem kept_calls (b g : Nat) (w : World) (fn regs f' r' : Int) (PB AB : Option Addr) (dB cB : Nat) (vO vS vN vI : Value) (O : List (List S70)) (S : List (List S72)) (NX : List (List Int)) (I : List (List S52)) (l : List S25) (hM : Made b g w fn regs PB dB vO vS vN vI O S NX I l) (hA : k25.C w AB l.length l) (hc : l.length ≤ cB) (hs : SmallC l) :
    Calls Try.prog 10 #[.pointer (some ⟨g, 0, none⟩), .agg #[.int .i64 f', .int .i64 r', .slice AB l.length cB]] w fun e w' => e = .returned (.bool true) ∧ Below w.heap.size w w' := by
  have HM := Aside0.mk hM
  have HAB := Aside0.mk hA
  have HCB := Aside0.mk hc
  have HS := Aside0.mk hs
  obtain ⟨i25, hi25, _⟩ := Option.map_eq_some_iff.1 inf25
  have hge := (Kd.R_reads' hM.rb).2.1
  rw [full_len] at hge
  have hcut := cut_cap (P := Try.prog) 26 25 .i64 Try.underlying26 hi25 PB (full mkB l).length dB (l.length : Int) (by omega) (by omega)
  rw [Int.toNat_natCast] at hcut
  have HCUT := Aside0.mk hcut
  have HLE := Aside0.mk (show l.length ≤ dB by omega)
  have hcc : k25.C w PB l.length l := by
    have := Kd.C_take (Kd.R_reads' hM.rb).2.2 (m := l.length) (by rw [full_len]; omega)
    rwa [full_take] at this
  have HCC := Aside0.mk hcc
  clear hM hA hc hs hi25 hge hcut hcc
  go_enter Try.func10, Try.ntmps10
  go_upto_region 1 with (fail)
  have hb := bodies w (.cells #[.int .i64 f', .int .i64 r', .slice AB l.length cB] 28)
  have K3 := blk_new w (.cells #[.int .i64 f', .int .i64 r', .slice AB l.length cB] 28)
  replace HM := Aside0.mk (HM.out.below hb)
  replace HAB := Aside0.mk (Kd.C_below HAB.out hb)
  replace HCC := Aside0.mk (Kd.C_below HCC.out hb)
  have HB := Aside0.mk hb
  clear hb
  generalize w.alloc (.cells #[.int .i64 f', .int .i64 r', .slice AB l.length cB] 28) = w1 at *
  obtain ⟨g3, hg3⟩ : ∃ q, q = w.heap.size := ⟨_, rfl⟩
  rw [← hg3] at K3 ⊢
  clear hg3
  have HK3 := Aside0.mk K3
  clear K3
  rename_i hK
  refine RegInv.region_facts (by kernel_rfl) (by kernel_rfl) (fun a b => Below a.heap.size a b) (fun a b c h k => wB h k) (below_drew1 (Below.refl _ _)) dKT 16 (by kernel_rfl) (by kernel_rfl) (by kernel_rfl) (FKT g g3 PB AB l.length (full mkB l).length dB cB) (FKT_below g g3 PB AB l.length (full mkB l).length dB cB) ?hsKT ?heKT
  case hsKT =>
    clear hK
    intro i o a w8 hi hM
    have hlt : i < 16 := (Array.getElem?_eq_some_iff.1 hi).1
    rcases i with _ | _ | _ | _ | _ | _ | _ | _ | _ | _ | _ | _ | _ | _ | _ | _ | i
    · cases hi
      have h0 := gdq _ _ _ (show a.tmps.getD 0 undef = .pointer (some ⟨g, 0, none⟩) from hM.off 0 (by kernel_rfl))
      refine RegInv.op_value (by rfl) rfl (v := .pointer (some ⟨g, 0, none⟩)) (w' := w8) ?_ ⟨_, rfl, rfl, Below.refl _ _⟩
      unfold execOp
      go_simp
    · cases hi
      have h0 := gdq _ _ _ (show a.tmps.getD 5 undef = .pointer (some ⟨g, 0, none⟩) from hM.at_ 0 (by decide) (by kernel_rfl))
      refine RegInv.op_call (by rfl) rfl Try.func16 (by kernel_rfl) rfl rfl #[.pointer (some ⟨g, 0, none⟩)] (by simp [Act.eval, h0]) ?_
      refine (marked_calls b g w8 fn regs PB dB vO vS vN vI O S NX I l (HM.out.below hM.ext) HS.out.len).mono ?_
      rintro e w9 ⟨rfl, b⟩
      exact ⟨_, rfl, _, rfl, rfl, b⟩
    · cases hi
      have h0 := gdq _ _ _ (show a.tmps.getD 6 undef = .bool true from hM.at_ 1 (by decide) (by kernel_rfl))
      refine RegInv.op_value (by rfl) rfl (v := .bool true) (w' := w8) ?_ ⟨_, rfl, rfl, Below.refl _ _⟩
      unfold execOp
      go_simp
    · cases hi
      have hg : a.tmps.getD 7 undef = .bool true := hM.at_ 2 (by decide) (by kernel_rfl)
      have h0 := gdq _ _ _ (show a.tmps.getD 0 undef = .pointer (some ⟨g, 0, none⟩) from hM.off 0 (by kernel_rfl))
      refine RegInv.op_valueW (by rfl) (RegInv.wanted_of 7 rfl rfl hg) (v := .pointer (some ⟨g, 0, none⟩)) (w' := w8) ?_ ⟨_, rfl, rfl, Below.refl _ _⟩
      unfold execOp
      go_simp
    · cases hi
      have hg : a.tmps.getD 7 undef = .bool true := hM.at_ 2 (by decide) (by kernel_rfl)
      have h0 := gdq _ _ _ (show a.tmps.getD 8 undef = .pointer (some ⟨g, 0, none⟩) from hM.at_ 3 (by decide) (by kernel_rfl))
      refine RegInv.op_valueW (by rfl) (RegInv.wanted_of 7 rfl rfl hg) (v := .pointer (some ⟨g, 0, none⟩)) (w' := w8) ?_ ⟨_, rfl, rfl, Below.refl _ _⟩
      unfold execOp
      go_simp
    · cases hi
      have hg : a.tmps.getD 7 undef = .bool true := hM.at_ 2 (by decide) (by kernel_rfl)
      have h0 := gdq _ _ _ (show a.tmps.getD 9 undef = .pointer (some ⟨g, 0, none⟩) from hM.at_ 4 (by decide) (by kernel_rfl))
      refine RegInv.op_valueW (by rfl) (RegInv.wanted_of 7 rfl rfl hg) (v := .pointer (some ⟨g, 7, none⟩)) (w' := w8) ?_ ⟨_, rfl, rfl, Below.refl _ _⟩
      unfold execOp
      go_simp
    · cases hi
      have hg : a.tmps.getD 7 undef = .bool true := hM.at_ 2 (by decide) (by kernel_rfl)
      have h0 := gdq _ _ _ (show a.tmps.getD 10 undef = .pointer (some ⟨g, 7, none⟩) from hM.at_ 5 (by decide) (by kernel_rfl))
      have y : w8.cell? ⟨g, 7, none⟩ = some (.slice PB (full mkB l).length dB) := blk_cell (HM.out.below hM.ext).blk 7
      refine RegInv.op_valueW (by rfl) (RegInv.wanted_of 7 rfl rfl hg) (v := .slice PB (full mkB l).length dB) (w' := w8) ?_ ⟨_, rfl, rfl, Below.refl _ _⟩
      unfold execOp
      go_simp
    · cases hi
      have hg : a.tmps.getD 7 undef = .bool true := hM.at_ 2 (by decide) (by kernel_rfl)
      have h0 := gdq _ _ _ (show a.tmps.getD 3 undef = .pointer (some ⟨g3, 0, none⟩) from hM.off 3 (by kernel_rfl))
      refine RegInv.op_valueW (by rfl) (RegInv.wanted_of 7 rfl rfl hg) (v := .pointer (some ⟨g3, 2, none⟩)) (w' := w8) ?_ ⟨_, rfl, rfl, Below.refl _ _⟩
      unfold execOp
      go_simp
    · cases hi
      have hg : a.tmps.getD 7 undef = .bool true := hM.at_ 2 (by decide) (by kernel_rfl)
      have h0 := gdq _ _ _ (show a.tmps.getD 12 undef = .pointer (some ⟨g3, 2, none⟩) from hM.at_ 7 (by decide) (by kernel_rfl))
      have y : w8.cell? ⟨g3, 2, none⟩ = some (.slice AB l.length cB) := blk_cell (blk_below HK3.out hM.ext) 2
      refine RegInv.op_valueW (by rfl) (RegInv.wanted_of 7 rfl rfl hg) (v := .slice AB l.length cB) (w' := w8) ?_ ⟨_, rfl, rfl, Below.refl _ _⟩
      unfold execOp
      go_simp
    · cases hi
      have hg : a.tmps.getD 7 undef = .bool true := hM.at_ 2 (by decide) (by kernel_rfl)
      have h0 := gdq _ _ _ (show a.tmps.getD 13 undef = .slice AB l.length cB from hM.at_ 8 (by decide) (by kernel_rfl))
      refine RegInv.op_valueW (by rfl) (RegInv.wanted_of 7 rfl rfl hg) (v := .int .i64 (l.length : Int)) (w' := w8) ?_ ⟨_, rfl, rfl, Below.refl _ _⟩
      unfold execOp
      go_simp
    · cases hi
      have hg : a.tmps.getD 7 undef = .bool true := hM.at_ 2 (by decide) (by kernel_rfl)
      have h0 := gdq _ _ _ (show a.tmps.getD 11 undef = .slice PB (full mkB l).length dB from hM.at_ 6 (by decide) (by kernel_rfl))
      have h1 := gdq _ _ _ (show a.tmps.getD 14 undef = .int .i64 (l.length : Int) from hM.at_ 9 (by decide) (by kernel_rfl))
      have hcB := HCUT.out
      refine RegInv.op_valueW (by rfl) (RegInv.wanted_of 7 rfl rfl hg) (v := .slice PB l.length dB) (w' := w8) ?_ ⟨_, rfl, rfl, Below.refl _ _⟩
      unfold execOp
      go_simp
    · cases hi
      have hg : a.tmps.getD 7 undef = .bool true := hM.at_ 2 (by decide) (by kernel_rfl)
      have h0 := gdq _ _ _ (show a.tmps.getD 3 undef = .pointer (some ⟨g3, 0, none⟩) from hM.off 3 (by kernel_rfl))
      refine RegInv.op_valueW (by rfl) (RegInv.wanted_of 7 rfl rfl hg) (v := .pointer (some ⟨g3, 2, none⟩)) (w' := w8) ?_ ⟨_, rfl, rfl, Below.refl _ _⟩
      unfold execOp
      go_simp
    · cases hi
      have hg : a.tmps.getD 7 undef = .bool true := hM.at_ 2 (by decide) (by kernel_rfl)
      have h0 := gdq _ _ _ (show a.tmps.getD 16 undef = .pointer (some ⟨g3, 2, none⟩) from hM.at_ 11 (by decide) (by kernel_rfl))
      have y : w8.cell? ⟨g3, 2, none⟩ = some (.slice AB l.length cB) := blk_cell (blk_below HK3.out hM.ext) 2
      refine RegInv.op_valueW (by rfl) (RegInv.wanted_of 7 rfl rfl hg) (v := .slice AB l.length cB) (w' := w8) ?_ ⟨_, rfl, rfl, Below.refl _ _⟩
      unfold execOp
      go_simp
    · cases hi
      have hg : a.tmps.getD 7 undef = .bool true := hM.at_ 2 (by decide) (by kernel_rfl)
      have h0 := gdq _ _ _ (show a.tmps.getD 15 undef = .slice PB l.length dB from hM.at_ 10 (by decide) (by kernel_rfl))
      have h1 := gdq _ _ _ (show a.tmps.getD 17 undef = .slice AB l.length cB from hM.at_ 12 (by decide) (by kernel_rfl))
      refine RegInv.op_callW (by rfl) (RegInv.wanted_of 7 rfl rfl hg) Try.func17 (by kernel_rfl) rfl rfl #[.slice PB l.length dB, .slice AB l.length cB] (by simp [Act.eval, h0, h1]) ?_
      refine (same_blocks PB AB dB cB l w8 (Kd.C_below HCC.out hM.ext) HLE.out (Kd.C_below HAB.out hM.ext) HCB.out HS.out.len HS.out.each).mono ?_
      rintro e w9 ⟨rfl, b⟩
      exact ⟨_, rfl, _, rfl, rfl, b⟩
    · cases hi
      have h0 := gdq _ _ _ (show a.tmps.getD 7 undef = .bool true from hM.at_ 2 (by decide) (by kernel_rfl))
      have h1 := gdq _ _ _ (show a.tmps.getD 18 undef = .bool true from hM.at_ 13 (by decide) (by kernel_rfl))
      refine RegInv.op_value (by rfl) rfl (v := .bool true) (w' := w8) ?_ ⟨_, rfl, rfl, Below.refl _ _⟩
      unfold execOp
      go_simp
    · cases hi
      have h0 := gdq _ _ _ (show a.tmps.getD 19 undef = .bool true from hM.at_ 14 (by decide) (by kernel_rfl))
      refine RegInv.op_value (by rfl) rfl (v := .bool true) (w' := w8) ?_ ⟨_, rfl, rfl, Below.refl _ _⟩
      unfold execOp
      go_simp
    · exact absurd hlt (by omega)
  intro vs w9 bF hF
  have eL : vs 15 = .bool true := hF 15 (by omega)
  clear hF
  simp only [RegInv.puts, dKT, Act.put, List.range, List.range.loop, List.setIfInBounds_toArray, List.set_cons_zero, List.set_cons_succ]
  rw [eL]
  clear eL
  generalize vs 0 = t0
  generalize vs 1 = t1
  generalize vs 2 = t2
  generalize vs 3 = t3
  generalize vs 4 = t4
  generalize vs 5 = t5
  generalize vs 6 = t6
  generalize vs 7 = t7
  generalize vs 8 = t8
  generalize vs 9 = t9
  generalize vs 10 = t10
  generalize vs 11 = t11
  generalize vs 12 = t12
  generalize vs 13 = t13
  generalize vs 14 = t14
  replace HB := Aside0.mk (wB HB.out bF)
  clear bF
  refine hK _ _ ?_
  clear hK
  go_wp2
  go_ret
  exact ⟨rfl, HB.out⟩
end Go.Proofs.Ytdjpamgjmpibnaa.PHc
