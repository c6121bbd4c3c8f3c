/- Values, operands, shapes, frames that read the same are found the same; shapes that were lent are found as they were. For every world. -/
import Derived.Test.YtgbbcjooieggpaaLentS
import Derived.LoopTactic
import Derived.BigQuiet
import Derived.Deep.QuietTactic
namespace Go.Proofs.Ytgbbcjooieggpaa.PFr
open Go.RowKit Go.Proofs.Ytgbbcjooieggpaa.Lit Go.Proofs.YtgbbcjooieggpaaW.PrintWords Go.Proofs.YtgbbcjooieggpaaW.PrintLast Go.Proofs.YtgbbcjooieggpaaW.PrintMore
set_option linter.unusedVariables false
set_option linter.unusedSimpArgs false
theorem C_drewN' {α : Type} {d : Kd α} {w : World} {A : Option Addr} {n : Nat} {xs : List α} (h : d.C w A n xs) (m : Nat) : d.C (w.drewN m) A n xs := Kd.C_below h (pw_below_drewN (Below.refl _ _) m)
set_option maxHeartbeats 2000000 in
set_option maxRecDepth 100000 in
theorem same_opnds (A B : Option Addr) (c d : Nat) (l : List S44) (w : World) (hA : k44.C w A l.length l) (hB : k44.C w B l.length l) (hl : l.length ≤ 17592186044416) :
    Calls Try.prog 47 #[.slice A l.length c, .slice B l.length d] w fun e w' => e = .returned (.bool true) ∧ ∃ m, w' = w.drewN m := by
  have HA := Aside0.mk hA
  have HB := Aside0.mk hB
  clear hA hB
  go_enter Try.func47, Try.ntmps47
  go_wp2
  go_loopw [5] (fun t wr => ∃ k : Nat, k ≤ l.length ∧ t = .int .i64 k ∧ ∃ m, wr = w.drewN m) (fun t _ => l.length - (intOf t).toNat)
  case atStart => exact ⟨0, Nat.zero_le _, rfl, 0, rfl⟩
  case round =>
    obtain ⟨k, hk, rfl, m, rfl⟩ := hrel
    by_cases hlt : k < l.length
    · obtain ⟨a, rfl, q0, q1⟩ := at_T44 HA.out (k : Int) (by omega) (by omega)
      obtain ⟨b, rfl, q2, q3⟩ := at_T44 HB.out (k : Int) (by omega) (by omega)
      rw [Int.toNat_natCast] at q0 q1 q2 q3
      go_wp2
      go_quiet (fail)
      go_wp2
      go_roundw
      case rel => exact ⟨k + 1, by omega, by go_num, _, rfl⟩
      case measure => simp [intOf]; omega
    · go_wp2
      go_ret
      exact ⟨rfl, m, rfl⟩
set_option maxHeartbeats 2000000 in
set_option maxRecDepth 100000 in
theorem same_values (A B : Option Addr) (c d : Nat) (l : List S35) (w : World) (hA : k35.C w A l.length l) (hB : k35.C w B l.length l) (hl : l.length ≤ 17592186044416) :
    Calls Try.prog 14 #[.slice A l.length c, .slice B l.length d] w fun e w' => e = .returned (.bool true) ∧ ∃ m, w' = w.drewN m := by
  have HA := Aside0.mk hA
  have HB := Aside0.mk hB
  clear hA hB
  go_enter Try.func14, Try.ntmps14
  go_wp2
  go_loopw [5] (fun t wr => ∃ k : Nat, k ≤ l.length ∧ t = .int .i64 k ∧ ∃ m, wr = w.drewN m) (fun t _ => l.length - (intOf t).toNat)
  case atStart => exact ⟨0, Nat.zero_le _, rfl, 0, rfl⟩
  case round =>
    obtain ⟨k, hk, rfl, m, rfl⟩ := hrel
    by_cases hlt : k < l.length
    · obtain ⟨a, rfl, q0, q1⟩ := at_T35 HA.out (k : Int) (by omega) (by omega)
      obtain ⟨b, rfl, q2, q3⟩ := at_T35 HB.out (k : Int) (by omega) (by omega)
      rw [Int.toNat_natCast] at q0 q1 q2 q3
      go_wp2
      go_quiet (fail)
      go_wp2
      go_roundw
      case rel => exact ⟨k + 1, by omega, by go_num, _, rfl⟩
      case measure => simp [intOf]; omega
    · go_wp2
      go_ret
      exact ⟨rfl, m, rfl⟩
set_option maxHeartbeats 2000000 in
set_option maxRecDepth 100000 in
theorem same_shapes (A B : Option Addr) (c d : Nat) (l : List S67) (w : World) (hA : k67.C w A l.length l) (hB : k67.C w B l.length l) (hl : l.length ≤ 17592186044416) (hs : ∀ s ∈ l, s.f2.length ≤ 17592186044416) :
    Calls Try.prog 46 #[.slice A l.length c, .slice B l.length d] w fun e w' => e = .returned (.bool true) ∧ ∃ m, w' = w.drewN m := by
  have HA := Aside0.mk hA
  have HB := Aside0.mk hB
  have HS := Aside0.mk hs
  clear hA hB hs
  go_enter Try.func46, Try.ntmps46
  go_wp2
  go_loopw [5] (fun t wr => ∃ k : Nat, k ≤ l.length ∧ t = .int .i64 k ∧ ∃ m, wr = w.drewN m) (fun t _ => l.length - (intOf t).toNat)
  case atStart => exact ⟨0, Nat.zero_le _, rfl, 0, rfl⟩
  case round =>
    obtain ⟨k, hk, rfl, m, hm⟩ := hrel
    have HM := Aside0.mk hm
    have HA1 := Aside0.mk (show k67.C wr A l.length l from hm ▸ C_drewN' HA.out m)
    have HB1 := Aside0.mk (show k67.C wr B l.length l from hm ▸ C_drewN' HB.out m)
    clear hm
    by_cases hlt : k < l.length
    · obtain ⟨a, A2, c2, rfl, q0, q1, q2, _, g0⟩ := at_T67 HA1.out (k : Int) (by omega) (by omega)
      obtain ⟨b, B2, d2, rfl, r0, r1, r2, _, g1⟩ := at_T67 HB1.out (k : Int) (by omega) (by omega)
      have hrd : rd_T67 l (k : Int) ∈ l := by
        unfold rd_T67
        rw [Int.toNat_natCast, List.getD_eq_getElem?_getD, List.getElem?_eq_getElem hlt]
        exact List.getElem_mem hlt
      have hx := HS.out _ hrd
      rw [Int.toNat_natCast] at q0 q1 q2 r0 r1 r2
      generalize rd_T67 l (k : Int) = x at q0 q1 q2 r0 r1 r2 g0 g1 hx hrd
      have G0 := Aside0.mk g0
      have G1 := Aside0.mk g1
      have HX := Aside0.mk hx
      clear g0 g1 hrd hx
      go_wp2
      go_quiet ((go_at_call 47; exact Calls.quiet_of (same_opnds _ _ _ _ x.f2 _ (C_drewN' G0.out _) (C_drewN' G1.out _) HX.out)))
      go_wp2
      go_roundw
      case rel => exact ⟨k + 1, by omega, by go_num, _, by rw [HM.out]; exact World.drewN_drewN _ _ _⟩
      case measure => simp [intOf]; omega
    · go_wp2
      go_ret
      exact ⟨rfl, m, HM.out⟩
set_option maxHeartbeats 2000000 in
set_option maxRecDepth 100000 in
theorem same_frame (x : S27) (A B : Option Addr) (c d : Nat) (w : World) (hA : k35.C w A x.f2.length x.f2) (hB : k35.C w B x.f2.length x.f2) (hl : x.f2.length ≤ 17592186044416) :
    Calls Try.prog 31 #[.agg #[.int .i64 x.f0, .int .i64 x.f1, .slice A x.f2.length c], .agg #[.int .i64 x.f0, .int .i64 x.f1, .slice B x.f2.length d]] w fun e w' => e = .returned (.bool true) ∧ Below w.heap.size w w' := by
  have HA := Aside0.mk hA
  have HB := Aside0.mk hB
  have HL := Aside0.mk hl
  clear hA hB hl
  go_enter Try.func31, Try.ntmps31
  go_upto_region 1 with (fail)
  have hb := e4 w (.cells #[.int .i64 x.f0, .int .i64 x.f1, .slice A x.f2.length c] 27) (.cells #[.int .i64 x.f0, .int .i64 x.f1, .slice B x.f2.length d] 27)
  have K0 := blk_alloc (blk_new w (.cells #[.int .i64 x.f0, .int .i64 x.f1, .slice A x.f2.length c] 27)) (.cells #[.int .i64 x.f0, .int .i64 x.f1, .slice B x.f2.length d] 27)
  have K1 := blk_new (w.alloc (.cells #[.int .i64 x.f0, .int .i64 x.f1, .slice A x.f2.length c] 27)) (.cells #[.int .i64 x.f0, .int .i64 x.f1, .slice B x.f2.length d] 27)
  rw [World.size_alloc] at K1
  generalize (w.alloc (.cells #[.int .i64 x.f0, .int .i64 x.f1, .slice A x.f2.length c] 27)).alloc (.cells #[.int .i64 x.f0, .int .i64 x.f1, .slice B x.f2.length d] 27) = w1 at *
  have HBE := Aside0.mk hb
  clear hb
  generalize w.heap.size + 1 = g1 at *
  obtain ⟨g0, hg0⟩ : ∃ g0, g0 = w.heap.size := ⟨_, rfl⟩
  rw [← hg0] at K0 ⊢
  clear hg0
  have q0 : w1.cell? ⟨g0, 0, none⟩ = some (.int .i64 x.f0) := blk_cell K0 0
  have q1 : w1.cell? ⟨g0, 1, none⟩ = some (.int .i64 x.f1) := blk_cell K0 1
  have q2 : w1.cell? ⟨g0, 2, none⟩ = some (.slice A x.f2.length c) := blk_cell K0 2
  have r0 : w1.cell? ⟨g1, 0, none⟩ = some (.int .i64 x.f0) := blk_cell K1 0
  have r1 : w1.cell? ⟨g1, 1, none⟩ = some (.int .i64 x.f1) := blk_cell K1 1
  have r2 : w1.cell? ⟨g1, 2, none⟩ = some (.slice B x.f2.length d) := blk_cell K1 2
  clear K0 K1
  go_wp2_with (fail)
  refine (same_values A B c d x.f2 w1 (Kd.C_below HA.out HBE.out) (Kd.C_below HB.out HBE.out) HL.out).mono ?_
  rintro e w2 ⟨rfl, m, rfl⟩
  clear q0 q1 q2 r0 r1 r2
  go_wp2_with (fail)
  go_ret
  exact ⟨rfl, by first | exact pw_below_drewN HBE.out m | (have := pw_below_drewN HBE.out m; simpa using this)⟩
def dSF : Nat → Option Tmp
  | 0 => some 17
  | 1 => some 18
  | 2 => some 19
  | 3 => some 20
  | 4 => some 21
  | 5 => some 22
  | 6 => some 23
  | 7 => some 24
  | 8 => some 25
  | 9 => some 26
  | _ => none
def FSF (aa bb : Addr) (k n c d : Nat) (x : S27) (A2 B2 : Option Addr) (c2 d2 : Nat) : Nat → World → Value → Prop
  | 0, _, v => v = .slice (some aa) n c
  | 1, _, v => v = .int .i64 (k : Int)
  | 2, _, v => v = .pointer (some (aa.add (k * 3)))
  | 3, _, v => v = .agg #[.int .i64 x.f0, .int .i64 x.f1, .slice A2 x.f2.length c2]
  | 4, _, v => v = .slice (some bb) n d
  | 5, _, v => v = .int .i64 (k : Int)
  | 6, _, v => v = .pointer (some (bb.add (k * 3)))
  | 7, _, v => v = .agg #[.int .i64 x.f0, .int .i64 x.f1, .slice B2 x.f2.length d2]
  | 8, _, v => v = .bool true
  | 9, _, v => v = .bool false
  | _, _, _ => True
theorem FSF_below (aa bb : Addr) (k n c d : Nat) (x : S27) (A2 B2 : Option Addr) (c2 d2 : Nat) (i : Nat) (w w1 : World) (v : Value) (h : FSF aa bb  k n c d  x  A2 B2  c2 d2  i w v) (hb : Below w.heap.size w w1) : FSF aa bb  k n c d  x  A2 B2  c2 d2  i w1 v := by
  match i with
  | 0 | 1 | 2 | 3 | 4 | 5 | 6 | 7 | 8 | 9 => exact h
  | (n + 10) => exact h
set_option maxHeartbeats 2000000 in
set_option maxRecDepth 100000 in
theorem same_frames (A B : Option Addr) (c d : Nat) (l : List S27) (w : World) (hA : k27.C w A l.length l) (hB : k27.C w B l.length l) (hl : l.length ≤ 17592186044416) (hs : ∀ s ∈ l, s.f2.length ≤ 17592186044416) :
    Calls Try.prog 24 #[.slice A l.length c, .slice B l.length d] w fun e w' => e = .returned (.bool true) ∧ Below w.heap.size w w' := by
  have HA := Aside0.mk hA
  have HB := Aside0.mk hB
  have HS := Aside0.mk hs
  clear hA hB hs
  go_enter Try.func24, Try.ntmps24
  go_wp2_with (fail)
  go_loopw [5] (fun t wr => ∃ k : Nat, k ≤ l.length ∧ t = .int .i64 k ∧ Below w.heap.size w wr) (fun t _ => l.length - (intOf t).toNat)
  case atStart => exact ⟨0, Nat.zero_le _, rfl, Below.refl _ _⟩
  case round =>
    obtain ⟨k, hk, rfl, hb⟩ := hrel
    have HBE := Aside0.mk hb
    have HA1 := Aside0.mk (Kd.C_below HA.out hb)
    have HB1 := Aside0.mk (Kd.C_below HB.out hb)
    clear hb
    by_cases hlt : k < l.length
    · obtain ⟨aa, A2, c2, rfl, q0, q1, q2, _, g0⟩ := at_T27 HA1.out (k : Int) (by omega) (by omega)
      obtain ⟨bb, B2, d2, rfl, r0, r1, r2, _, g1⟩ := at_T27 HB1.out (k : Int) (by omega) (by omega)
      have hrd : rd_T27 l (k : Int) ∈ l := by
        unfold rd_T27
        rw [Int.toNat_natCast, List.getD_eq_getElem?_getD, List.getElem?_eq_getElem hlt]
        exact List.getElem_mem hlt
      have hx := HS.out _ hrd
      rw [Int.toNat_natCast] at q0 q1 q2 r0 r1 r2
      generalize rd_T27 l (k : Int) = x at q0 q1 q2 r0 r1 r2 g0 g1 hx hrd
      have XC := Aside0.mk (fun W (hb : Below wr.heap.size wr W) => And.intro (pw_cell_below hb q0) (And.intro (pw_cell_below hb q1) (And.intro (pw_cell_below hb q2) (And.intro (pw_cell_below hb r0) (And.intro (pw_cell_below hb r1) (And.intro (pw_cell_below hb r2) (And.intro (Kd.C_below g0 hb) (Kd.C_below g1 hb))))))))
      have HX := Aside0.mk hx
      have HKL := Aside0.mk hlt
      clear g0 g1 hrd hx q0 q1 q2 r0 r1 r2
      go_wp2_with (fail)
      refine RegInv.region_facts (by kernel_rfl) (by kernel_rfl) (fun a b => Below a.heap.size a b) (fun a b c h k => wB h k) (below_drew1 (Below.refl _ _)) dSF 10 (by kernel_rfl) (by kernel_rfl) (by kernel_rfl) (FSF aa bb k l.length c d x A2 B2 c2 d2) (FSF_below aa bb k l.length c d x A2 B2 c2 d2) ?hsSF ?heSF
      case hsSF =>
        intro i o a w8 hi hM
        have hlt : i < 10 := (Array.getElem?_eq_some_iff.1 hi).1
        rcases i with _ | _ | _ | _ | _ | _ | _ | _ | _ | _ | i
        · cases hi
          have h0 := gdq _ _ _ (show a.tmps.getD 0 undef = .slice (some aa) l.length c from hM.off 0 (by kernel_rfl))
          refine RegInv.op_value (by rfl) rfl (v := .slice (some aa) l.length c) (w' := w8) ?_ ⟨_, rfl, rfl, Below.refl _ _⟩
          unfold execOp
          go_simp
        · cases hi
          have h0 := gdq _ _ _ (show a.tmps.getD 5 undef = .int .i64 (k : Int) from hM.off 5 (by kernel_rfl))
          refine RegInv.op_value (by rfl) rfl (v := .int .i64 (k : Int)) (w' := w8) ?_ ⟨_, rfl, rfl, Below.refl _ _⟩
          unfold execOp
          go_simp
        · cases hi
          have h0 := gdq _ _ _ (show a.tmps.getD 17 undef = .slice (some aa) l.length c from hM.at_ 0 (by decide) (by kernel_rfl))
          have h1 := gdq _ _ _ (show a.tmps.getD 18 undef = .int .i64 (k : Int) from hM.at_ 1 (by decide) (by kernel_rfl))
          have hkl := HKL.out
          refine RegInv.op_value (by rfl) rfl (v := .pointer (some (aa.add (k * 3)))) (w' := w8) ?_ ⟨_, rfl, rfl, Below.refl _ _⟩
          unfold execOp
          go_simp
        · cases hi
          have h0 := gdq _ _ _ (show a.tmps.getD 19 undef = .pointer (some (aa.add (k * 3))) from hM.at_ 2 (by decide) (by kernel_rfl))
          obtain ⟨q0, q1, q2, _⟩ := XC.out w8 hM.ext
          refine RegInv.op_value (by rfl) rfl (v := .agg #[.int .i64 x.f0, .int .i64 x.f1, .slice A2 x.f2.length c2]) (w' := w8) ?_ ⟨_, rfl, rfl, Below.refl _ _⟩
          unfold execOp
          go_simp
        · cases hi
          have h0 := gdq _ _ _ (show a.tmps.getD 1 undef = .slice (some bb) l.length d from hM.off 1 (by kernel_rfl))
          refine RegInv.op_value (by rfl) rfl (v := .slice (some bb) l.length d) (w' := w8) ?_ ⟨_, rfl, rfl, Below.refl _ _⟩
          unfold execOp
          go_simp
        · cases hi
          have h0 := gdq _ _ _ (show a.tmps.getD 5 undef = .int .i64 (k : Int) from hM.off 5 (by kernel_rfl))
          refine RegInv.op_value (by rfl) rfl (v := .int .i64 (k : Int)) (w' := w8) ?_ ⟨_, rfl, rfl, Below.refl _ _⟩
          unfold execOp
          go_simp
        · cases hi
          have h0 := gdq _ _ _ (show a.tmps.getD 21 undef = .slice (some bb) l.length d from hM.at_ 4 (by decide) (by kernel_rfl))
          have h1 := gdq _ _ _ (show a.tmps.getD 22 undef = .int .i64 (k : Int) from hM.at_ 5 (by decide) (by kernel_rfl))
          have hkl := HKL.out
          refine RegInv.op_value (by rfl) rfl (v := .pointer (some (bb.add (k * 3)))) (w' := w8) ?_ ⟨_, rfl, rfl, Below.refl _ _⟩
          unfold execOp
          go_simp
        · cases hi
          have h0 := gdq _ _ _ (show a.tmps.getD 23 undef = .pointer (some (bb.add (k * 3))) from hM.at_ 6 (by decide) (by kernel_rfl))
          obtain ⟨_, _, _, r0, r1, r2, _⟩ := XC.out w8 hM.ext
          refine RegInv.op_value (by rfl) rfl (v := .agg #[.int .i64 x.f0, .int .i64 x.f1, .slice B2 x.f2.length d2]) (w' := w8) ?_ ⟨_, rfl, rfl, Below.refl _ _⟩
          unfold execOp
          go_simp
        · cases hi
          have h0 := gdq _ _ _ (show a.tmps.getD 20 undef = .agg #[.int .i64 x.f0, .int .i64 x.f1, .slice A2 x.f2.length c2] from hM.at_ 3 (by decide) (by kernel_rfl))
          have h1 := gdq _ _ _ (show a.tmps.getD 24 undef = .agg #[.int .i64 x.f0, .int .i64 x.f1, .slice B2 x.f2.length d2] from hM.at_ 7 (by decide) (by kernel_rfl))
          refine RegInv.op_call (by rfl) rfl Try.func31 (by kernel_rfl) rfl rfl #[.agg #[.int .i64 x.f0, .int .i64 x.f1, .slice A2 x.f2.length c2], .agg #[.int .i64 x.f0, .int .i64 x.f1, .slice B2 x.f2.length d2]] (by simp [Act.eval, h0, h1]) ?_
          refine (same_frame x A2 B2 c2 d2 w8 (XC.out w8 hM.ext).2.2.2.2.2.2.1 (XC.out w8 hM.ext).2.2.2.2.2.2.2 HX.out).mono ?_
          rintro e w9 ⟨rfl, b⟩
          exact ⟨_, rfl, _, rfl, rfl, b⟩
        · cases hi
          have h0 := gdq _ _ _ (show a.tmps.getD 25 undef = .bool true from hM.at_ 8 (by decide) (by kernel_rfl))
          refine RegInv.op_value (by rfl) rfl (v := .bool false) (w' := w8) ?_ ⟨_, rfl, rfl, Below.refl _ _⟩
          unfold execOp
          go_simp
        · exact absurd hlt (by omega)
      intro vs w8 hb8 hF
      have e9 : vs 9 = .bool false := hF 9 (by omega)
      clear hF
      simp only [RegInv.puts, dSF, Act.put, List.range, List.range.loop, List.setIfInBounds_toArray, List.set_cons_zero, List.set_cons_succ]
      rw [e9]
      clear e9
      generalize vs 0 = t0
      generalize vs 1 = t1
      generalize vs 2 = t2
      generalize vs 3 = t3
      generalize vs 4 = t4
      generalize vs 5 = t5
      generalize vs 6 = t6
      generalize vs 7 = t7
      generalize vs 8 = t8
      go_wp2_with (fail)
      go_roundw
      case rel => exact ⟨k + 1, by omega, by go_num, HBE.out.trans (hb8.mono HBE.out.size)⟩
      case measure => simp [intOf]; omega
    · go_wp2_with (fail)
      go_ret
      exact ⟨rfl, HBE.out⟩
end Go.Proofs.Ytgbbcjooieggpaa.PFr
