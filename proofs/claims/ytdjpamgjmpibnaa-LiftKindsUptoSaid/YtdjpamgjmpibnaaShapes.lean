/- handShapes: the same shapes, with marks; what it leaves. For every world. -/
import Derived.Test.YtdjpamgjmpibnaaHand0
namespace Go.Proofs.Ytdjpamgjmpibnaa.PHc
open Go.RowKit Go.Proofs.Ytdjpamgjmpibnaa.Lit Go.Proofs.Ytdjpamgjmpibnaa.OwnCells Go.Proofs.YtdjpamgjmpibnaaW.PrintWords Go.Proofs.YtdjpamgjmpibnaaW.PrintLast Go.Proofs.YtdjpamgjmpibnaaW.PrintMore
set_option linter.unusedVariables false
set_option linter.unusedSimpArgs false
theorem cut_cap {P : Program} (t e : TypeId) (kh : IntKind) {i : TypeInfo} (ht : P.underlying t = some (.slice e)) (hi : P.info? e = some i) (A : Option Addr) (n c : Nat) (j : Int) (h0 : 0 ≤ j) (hm : j ≤ c) :
    ∀ W : World, (Instr.slice t (.slice A n c) none (some (.int kh j)) none).run P W = .ok (.slice A j.toNat c) W := by
  intro W
  have hel : P.elem t = e := by simp [Program.elem, ht]
  have hu : P.underlying t = some (.slice (P.elem t)) := by rw [hel]; exact ht
  have ha : (A.map fun x => x.add 0) = A := by cases A <;> simp [Addr.add]
  rw [run_slice_h W t A n c hu kh j h0 (by omega), hel]
  simp [sizeOf, typeInfo, hi, sliced, Result.andThen, ha]
theorem bodies (w : World) (o : Obj) : Below w.heap.size w (w.alloc o) := below_alloc (Below.refl _ _) o
theorem inf72 : (Try.prog.info? 72).map (fun i => (i.zero, i.size, i.bytes)) = some (some (.agg #[(.int .i64 0), (.int .i64 0), (.slice none 0 0)]), 3, 40) := by kernel_rfl
theorem ge49 {n d : Nat} {w : World} {base : Nat} {α : Type} {dd : Kd α} {e : Nat} {ok : Nat → Prop} {B : Option Addr} {xs : List α} (h : dd.R e w base ok (.slice B n d) xs) : n ≤ d := (Kd.R_reads' h).2.1
structure SmallS (l : List S72) : Prop where
  len : l.length ≤ 1048576
  each : ∀ s ∈ l, s.f2.length ≤ 1048576
set_option maxHeartbeats 8000000 in
set_option maxRecDepth 100000 in
theorem hand_shapes (w0 : World) (g : Nat) (AL : Option Addr) (cL : Nat) (l : List S72) (w : World) (pN pI pB : Nat → Prop) (vO vS vN vI vB : Value) (O : List (List S70)) (S : List (List S72)) (NX : List (List Int)) (I : List (List S52)) (B : List S25)
    (hl : k72.C w0 AL l.length l) (hcl : l.length ≤ cL) (hs : SmallS l) (hb : Below w0.heap.size w0 w) (hH : H w0.heap.size g (fun _ => True) (fun _ => True) pN pI pB w vO vS vN vI vB O S NX I B) (hOl : O.length + l.length ≤ 2199023255552) (hSl : S.length + 1 ≤ 2199023255552) :
    Calls Try.prog 27 #[.pointer (some ⟨g, 0, none⟩), .slice AL l.length cL] w fun e w' => ∃ A c vO' vS' O' S', e = .returned (.slice A l.length c) ∧ k72.R 72 w' w.heap.size (fun _ => True) (.slice A (full mkS l).length c) (full mkS l) ∧ H w0.heap.size g (fun _ => True) (fun _ => True) pN pI pB w' vO' vS' vN vI vB O' S' NX I B ∧ O'.length = O.length + l.length ∧ S'.length = S.length + 1 ∧ Below w0.heap.size w0 w' ∧ Ty [37, 49, 50] w w' := by
  have HL := Aside0.mk hl
  have HSM := Aside0.mk hs
  have hlen := hs.len
  have HN0 := Aside0.mk hb.size
  obtain ⟨i70, hi70, _⟩ := Option.map_eq_some_iff.1 info70
  obtain ⟨i72, hi72, _⟩ := Option.map_eq_some_iff.1 inf72
  have HI70 := Aside0.mk hi70
  have HI72 := Aside0.mk hi72
  have HSZ := Aside0.mk (And.intro hOl hSl)
  have HST := Aside0.mk (hH.mono (qO := fun _ => True) (qS := fun k => k < w.heap.size) (qN := fun k => pN k ∧ k < w.heap.size) (qI := fun k => pI k ∧ k < w.heap.size) (qB := fun k => pB k ∧ k < w.heap.size) (fun _ _ _ => trivial) (fun _ _ h => h) (fun _ h h2 => ⟨h, h2⟩) (fun _ h h2 => ⟨h, h2⟩) (fun _ h h2 => ⟨h, h2⟩))
  have HBB := Aside0.mk hb
  clear hl hs hOl hSl hH hb hi70 hi72
  go_enter Try.func27, Try.ntmps27
  go_upto_region 2 with (fail)
  go_wp2_with (fail)
  go_loopw [5, 6, 7, 8] (fun v t _ _ wr => ∃ k : Nat, k ≤ l.length ∧ t = .int .i64 k ∧ ∃ vO' O', H w0.heap.size g (fun _ => True) (fun k => k < w.heap.size) (fun k => pN k ∧ k < w.heap.size) (fun k => pI k ∧ k < w.heap.size) (fun k => pB k ∧ k < w.heap.size) wr vO' vS vN vI vB O' S NX I B ∧ O'.length = O.length + k ∧ k72.R 72 wr w.heap.size (fun _ => True) v (l.take k) ∧ Below w0.heap.size w0 wr ∧ Ty [37, 49, 50] w wr ∧ w.heap.size ≤ wr.heap.size) (fun _ t _ _ _ => l.length - (intOf t).toNat)
  case atStart => exact ⟨0, Nat.zero_le _, rfl, vO, O, HST.out, rfl, Kd.R_nil _ _ _ _ _, HBB.out, Ty.refl _ _, Nat.le_refl _⟩
  case round =>
    clear HST HBB
    obtain ⟨k, hk, rfl, vO', O', hH, hOl, hR, hb, hy, hsz⟩ := hrel
    have HST := Aside0.mk hH
    have HOL := Aside0.mk hOl
    have HR := Aside0.mk hR
    have HBB := Aside0.mk hb
    have HTY := Aside0.mk hy
    have HSW := Aside0.mk hsz
    clear hH hOl hR hb hy hsz
    obtain ⟨PV, mV, dV, rfl⟩ : ∃ P m d, u5 = .slice P m d := let ⟨A, c, h, _⟩ := Kd.R_reads HR.out; ⟨_, _, _, h⟩
    by_cases hlt : k < l.length
    · obtain ⟨ad, A2, c2, rfl, x0, x1, x2, hA2, hC2⟩ := at_T72 HL.out (k : Int) (by omega) (by omega)
      rw [Int.toNat_natCast] at x0 x1 x2
      have hx2 : (rd_T72 l (k : Int)).f2.length ≤ 1048576 := by rw [rd72_at hlt]; exact HSM.out.each _ (List.getElem_mem _)
      have hxe : l.take k ++ [rd_T72 l (k : Int)] = l.take (k + 1) := by rw [List.take_succ_eq_append_getElem hlt, rd72_at hlt]
      generalize rd_T72 l (k : Int) = x at *
      have HX2 := Aside0.mk hx2
      have HXE := Aside0.mk hxe
      have XC := Aside0.mk (fun W (b : Below w0.heap.size w0 W) => And.intro (pw_cell_below b x0) (And.intro (pw_cell_below b x1) (pw_cell_below b x2)))
      have HCA := Aside0.mk hA2
      have HCC := Aside0.mk hC2
      clear x0 x1 x2 hA2 hC2 hx2 hxe
      obtain ⟨x0, x1, x2⟩ := XC.out wr HBB.out
      go_upto_region 6 with (fail)
      clear x0 x1 x2
      have HG7 := Aside0.mk HSW.out
      have hb2 := bodies wr (.cells #[.int .i64 x.f0, .int .i64 x.f1, .slice A2 x.f2.length c2] 72)
      have K7 := blk_new wr (.cells #[.int .i64 x.f0, .int .i64 x.f1, .slice A2 x.f2.length c2] 72)
      replace HST := Aside0.mk (HST.out.below hb2)
      replace HR := Aside0.mk (Kd.R_below (Kd.R_elderB HR.out wr.heap.size (Nat.le_refl _)) hb2)
      replace HBB := Aside0.mk (HBB.out.trans (hb2.mono HBB.out.size))
      replace HTY := Aside0.mk (HTY.out.trans (Ty.below hb2))
      replace HSW := Aside0.mk (Nat.le_trans HSW.out hb2.size)
      clear hb2
      generalize wr.alloc (.cells #[.int .i64 x.f0, .int .i64 x.f1, .slice A2 x.f2.length c2] 72) = w2 at *
      generalize wr.heap.size = g7 at *
      have HK7 := Aside0.mk K7
      clear K7
      obtain ⟨x0, x1, x2⟩ := XC.out w2 HBB.out
      go_wp2_with (fail)
      refine (marked_opnds A2 c2 x.f2 w2 (Kd.C_below HCC.out HBB.out) HCA.out HX2.out).mono ?_
      rintro e w3 ⟨B8, d8, rfl, hR8, hb3⟩
      have HR8 := Aside0.mk (Kd.R_lower hR8 HSW.out)
      replace HST := Aside0.mk (HST.out.below hb3)
      replace HR := Aside0.mk (Kd.R_below HR.out hb3)
      replace HBB := Aside0.mk (HBB.out.trans (hb3.mono HBB.out.size))
      replace HTY := Aside0.mk (HTY.out.trans (Ty.below hb3))
      replace HSW := Aside0.mk (Nat.le_trans HSW.out hb3.size)
      replace HK7 := Aside0.mk (blk_below HK7.out hb3)
      clear hR8 hb3 x0 x1 x2
      obtain ⟨PO, mO, dO, rfl⟩ : ∃ P m d, vO' = .slice P m d := let ⟨A, c, h, _⟩ := Kd.R_reads HST.out.ro; ⟨_, _, _, h⟩
      have p3 : w3.cell? ⟨g, 3, none⟩ = some (.slice PO mO dO) := blk_cell HST.out.blk 3
      go_wp2_with (first | ((with_reducible refine gate_builtin (b := .append) rfl ?_); refine Classical.byContradiction (fun hcon => ?hstA)) | go_in)
      refine hcon ?_
      clear hcon p3
      refine Kd.R_append (Kd.slice 70 k70) (w0 := w3) w0.heap.size rfl _ _ 32 49 (.slice none 0 0) 24 rfl Try.underlying32 (by kernel_rfl) rfl (by decide) (by decide) (.slice PO mO dO) O' (full mkO x.f2) [.slice B8 (full mkO x.f2).length d8] (fun _ => True) _ rfl rfl (M_apart (d := Kd.slice 70 k70) ⟨_, rfl, Kd.R_lower HR8.out HN0.out⟩ HST.out.ro (by decide)) (fun _ h => h) (fun _ _ => trivial) HST.out.ro (Below.refl _ _) (Nat.le_trans HN0.out HSW.out) (by have := HOL.out; have := HSZ.out.1; omega) ?_
      intro v1 w4 hR1 _ hg1 _
      obtain ⟨P1, m1, d1, rfl⟩ : ∃ P m d, v1 = .slice P m d := let ⟨A, c, h, _⟩ := Kd.R_reads hR1; ⟨_, _, _, h⟩
      have hkg := blk_grown HST.out.blk hg1 (Kd.R_ne HST.out.ro HST.out.blk (by decide))
      have p3 : w4.cell? ⟨g, 3, none⟩ = some (.slice PO mO dO) := blk_cell hkg 3
      have f3 := blk_frozen hkg 3
      have hb4 : Below w0.heap.size w0 w4 := HBB.out.grown hg1 (Nat.le_trans HN0.out HSW.out) (Kd.R_base HST.out.ro)
      go_upto_region 8 with (fail)
      have HB5 := Aside0.mk (below_set (j := 3) (v := .slice P1 m1 d1) hb4 HST.out.hg)
      have HT5 := Aside0.mk (Ty.put (Ty.grown HTY.out hg1 (fun q hq => .inr (let ⟨c, h⟩ := Kd.R_typed HST.out.ro q hq; ⟨c, 49, h, by decide⟩))) hkg (by decide) 3 (.slice P1 m1 d1))
      have HK5 := Aside0.mk (blk_far (blk_grown HK7.out hg1 (Kd.R_ne HST.out.ro HK7.out (by decide))) (p := ⟨g, 3, none⟩) (blk_ne (blk_grown HK7.out hg1 (Kd.R_ne HST.out.ro HK7.out (by decide))) hkg (by decide)) (.slice P1 m1 d1))
      have HR85 := Aside0.mk (Kd.R_set (Kd.R_over HR8.out HST.out.ro (by decide) hg1) hkg (by decide) 3 (.slice P1 m1 d1))
      have HR5 := Aside0.mk (Kd.R_set (Kd.R_over HR.out HST.out.ro (by decide) hg1) hkg (by decide) 3 (.slice P1 m1 d1))
      have HS5 : Aside0 (w.heap.size ≤ (w4.setCell ⟨g, 3, none⟩ (.slice P1 m1 d1)).heap.size) := ⟨Nat.le_trans HSW.out (Nat.le_trans hg1.size (by simp [World.setCell]))⟩
      have HH5 := Aside0.mk (HST.out.putO hR1 hg1 ⟨x.f2, HX2.out, rfl⟩)
      clear hkg p3 f3 hb4 hR1 hg1 HST HR HBB HTY HSW HK7 HR8
      generalize w4.setCell ⟨g, 3, none⟩ (.slice P1 m1 d1) = w5 at *
      have hcut := cut_cap (P := Try.prog) 49 70 .i64 Try.underlying49 HI70.out B8 (full mkO x.f2).length d8 (x.f2.length : Int) (by omega) (by have := ge49 HR85.out; rw [full_len] at this; omega)
      rw [Int.toNat_natCast] at hcut
      obtain ⟨x0, x1, x2⟩ := XC.out w5 HB5.out
      have y2 : w5.cell? ⟨g7, 2, none⟩ = some (.slice A2 x.f2.length c2) := blk_cell HK5.out 2
      have f2 := blk_frozen HK5.out 2
      go_upto_region 9 with (fail)
      clear hcut x0 x1 x2 y2 f2
      have hg7 := grown_set w5 g7 2 (.slice B8 x.f2.length d8)
      have HB6 := Aside0.mk (below_set (j := 2) (v := .slice B8 x.f2.length d8) HB5.out (Nat.le_trans HN0.out HG7.out))
      have HT6 := Aside0.mk (Ty.grown HT5.out hg7 (fun q hq => .inl (by injection hq with hq; rw [← hq]; exact HG7.out)))
      have HK6 := Aside0.mk (blk_put HK5.out 2 (.slice B8 x.f2.length d8) (cs' := #[.int .i64 x.f0, .int .i64 x.f1, .slice B8 x.f2.length d8]) rfl)
      have HR86 := Aside0.mk (Kd.R_set HR85.out HK5.out (by decide) 2 (.slice B8 x.f2.length d8))
      have HR6 := Aside0.mk (Kd.R_mono (ok' := fun _ => True) (Kd.R_far HR5.out (p := ⟨g7, 2, none⟩) (fun q hq => hq.2) (.slice B8 x.f2.length d8)) (fun _ _ => trivial))
      have HH6 := Aside0.mk (HH5.out.grown (e := 72) (b' := w.heap.size) hg7 (fun q hq => by injection hq with hq; rw [← hq]; exact ⟨_, HK5.out⟩) (fun q hq => by injection hq with hq; rw [← hq]; exact HG7.out) (by decide) (.inl (by decide)) (.inr (fun _ h => h)) (.inl (by decide)) (.inr (fun _ h => h.2)) (.inr (fun _ h => h.2)))
      have HS6 : Aside0 (w.heap.size ≤ (w5.setCell ⟨g7, 2, none⟩ (.slice B8 x.f2.length d8)).heap.size) := ⟨Nat.le_trans HS5.out hg7.size⟩
      clear hg7 HH5 HR5 HR85 HK5 HT5 HB5 HS5
      generalize w5.setCell ⟨g7, 2, none⟩ (.slice B8 x.f2.length d8) = w6 at *
      have y0 : w6.cell? ⟨g7, 0, none⟩ = some (.int .i64 x.f0) := blk_cell HK6.out 0
      have y1 : w6.cell? ⟨g7, 1, none⟩ = some (.int .i64 x.f1) := blk_cell HK6.out 1
      have y2 : w6.cell? ⟨g7, 2, none⟩ = some (.slice B8 x.f2.length d8) := blk_cell HK6.out 2
      have hcut8 := Kd.R_take (m := x.f2.length) HR86.out (by rw [full_len]; omega)
      rw [full_take] at hcut8
      have HC8 := Aside0.mk hcut8
      clear hcut8
      go_wp2_with (first | ((with_reducible refine gate_builtin (b := .append) rfl ?_); refine Classical.byContradiction (fun hcon => ?hstB)) | go_in)
      refine hcon ?_
      clear hcon y0 y1 y2
      refine Kd.R_append k72 (w0 := w6) w.heap.size rfl _ _ 50 72 (.agg #[(.int .i64 0), (.int .i64 0), (.slice none 0 0)]) 40 rfl Try.underlying50 (by kernel_rfl) rfl (by decide) (by decide) (.slice PV mV dV) (l.take k) x [.int .i64 x.f0, .int .i64 x.f1, .slice B8 x.f2.length d8] (fun _ => True) _ rfl rfl (M_apart (d := k72) (k72_mkM _ _ _ x HC8.out) HR6.out (by decide)) (fun _ h => h) (fun _ _ => trivial) HR6.out (Below.refl _ _) HS6.out (by rw [List.length_take]; omega) ?_
      intro v1 w7 hR1 _ hg1 _
      have HB7 := Aside0.mk (HB6.out.grown hg1 (Nat.le_trans HN0.out HS6.out) (fun q hq => Nat.le_trans HN0.out (Kd.R_base HR6.out q hq)))
      have HT7 := Aside0.mk (Ty.grown HT6.out hg1 (fun q hq => .inl (Kd.R_base HR6.out q hq)))
      have HH7 := Aside0.mk (HH6.out.grown (e := 72) (b' := w.heap.size) hg1 (Kd.R_typed HR6.out) (Kd.R_base HR6.out) (by decide) (.inl (by decide)) (.inr (fun _ h => h)) (.inl (by decide)) (.inr (fun _ h => h.2)) (.inr (fun _ h => h.2)))
      rw [HXE.out] at hR1
      have HR7 := Aside0.mk hR1
      have HS7 := Aside0.mk (Nat.le_trans HS6.out hg1.size)
      clear hR1 hg1 HB6 HT6 HH6 HR6 HS6 HK6 HR86 HC8
      go_wp2
      go_roundw
      case rel => exact ⟨k + 1, by omega, by go_num, _, _, HH7.out, by rw [List.length_append, HOL.out]; rfl, HR7.out, HB7.out, HT7.out, HS7.out⟩
      case measure => simp [intOf]; omega
    · obtain rfl : k = l.length := by omega
      rw [List.take_length] at HR
      go_wp2_with (fail)
      clear hlt hk
      generalize wr = wM at *
      go_loopw [5, 9] (fun v t wr => ∃ k : Nat, k ≤ 16 ∧ t = .int .i64 k ∧ H w0.heap.size g (fun _ => True) (fun k => k < w.heap.size) (fun k => pN k ∧ k < w.heap.size) (fun k => pI k ∧ k < w.heap.size) (fun k => pB k ∧ k < w.heap.size) wr vO' vS vN vI vB O' S NX I B ∧ k72.R 72 wr w.heap.size (fun _ => True) v (l ++ (List.range' 0 k).map mkS) ∧ Below w0.heap.size w0 wr ∧ Ty [37, 49, 50] w wr ∧ w.heap.size ≤ wr.heap.size) (fun _ t _ => 16 - (intOf t).toNat)
      case atStart => exact ⟨0, by omega, rfl, HST.out, by simpa using HR.out, HBB.out, HTY.out, HSW.out⟩
      case round =>
        clear HST HR HBB HTY HSW
        obtain ⟨i, hi, rfl, hH, hR, hb, hy, hsz⟩ := hrel
        have HST := Aside0.mk hH
        have HR := Aside0.mk hR
        have HBB := Aside0.mk hb
        have HTY := Aside0.mk hy
        have HSW := Aside0.mk hsz
        clear hH hR hb hy hsz
        obtain ⟨PV, mV, dV, rfl⟩ : ∃ P m d, u5 = .slice P m d := let ⟨A, c, h, _⟩ := Kd.R_reads HR.out; ⟨_, _, _, h⟩
        by_cases hlt : i < 16
        · go_wp2_with (first | ((with_reducible refine gate_builtin (b := .append) rfl ?_); refine Classical.byContradiction (fun hcon => ?hstC)) | go_in)
          refine hcon ?_
          clear hcon
          refine Kd.R_append k72 (w0 := wr) w.heap.size rfl _ _ 50 72 (.agg #[(.int .i64 0), (.int .i64 0), (.slice none 0 0)]) 40 rfl Try.underlying50 (by kernel_rfl) rfl (by decide) (by decide) (.slice PV mV dV) (l ++ (List.range' 0 i).map mkS) (mkS i) [.int .i64 (-7), .int .i64 (i : Int), .slice none 0 0] (fun _ => True) _ rfl rfl (M_apart (d := k72) (k72_mkM _ _ (fun _ => True) (mkS i) (Kd.R_nil _ _ _ _ _)) HR.out (by decide)) (fun _ h => h) (fun _ _ => trivial) HR.out (Below.refl _ _) HSW.out (by simp; omega) ?_
          intro v1 w7 hR1 _ hg1 _
          have HB7 := Aside0.mk (HBB.out.grown hg1 (Nat.le_trans HN0.out HSW.out) (fun q hq => Nat.le_trans HN0.out (Kd.R_base HR.out q hq)))
          have HT7 := Aside0.mk (Ty.grown HTY.out hg1 (fun q hq => .inl (Kd.R_base HR.out q hq)))
          have HH7 := Aside0.mk (HST.out.grown (e := 72) (b' := w.heap.size) hg1 (Kd.R_typed HR.out) (Kd.R_base HR.out) (by decide) (.inl (by decide)) (.inr (fun _ h => h)) (.inl (by decide)) (.inr (fun _ h => h.2)) (.inr (fun _ h => h.2)))
          rw [← full_snoc] at hR1
          have HR7 := Aside0.mk hR1
          have HS7 := Aside0.mk (Nat.le_trans HSW.out hg1.size)
          clear hR1 hg1 HBB HTY HST HR HSW
          go_wp2
          go_roundw
          case rel => exact ⟨i + 1, by omega, by go_num, HH7.out, HR7.out, HB7.out, HT7.out, HS7.out⟩
          case measure => simp [intOf]; omega
        · obtain rfl : i = 16 := by omega
          obtain ⟨PS, mS, dS, rfl⟩ : ∃ P m d, vS = .slice P m d := let ⟨A, c, h, _⟩ := Kd.R_reads HST.out.rs; ⟨_, _, _, h⟩
          have p4 : wr.cell? ⟨g, 4, none⟩ = some (.slice PS mS dS) := blk_cell HST.out.blk 4
          have HF : Aside0 (k72.R 72 wr w.heap.size (fun _ => True) (.slice PV mV dV) (full mkS l)) := ⟨HR.out⟩
          have HST' := Aside0.mk (HST.out.mono (qO := fun _ => True) (qS := fun _ => True) (qN := pN) (qI := pI) (qB := pB) (fun _ _ _ => trivial) (fun _ _ _ => trivial) (fun _ h _ => h.1) (fun _ h _ => h.1) (fun _ h _ => h.1))
          clear HST HR
          go_wp2_with (first | ((with_reducible refine gate_builtin (b := .append) rfl ?_); refine Classical.byContradiction (fun hcon => ?hstD)) | go_in)
          refine hcon ?_
          clear hcon p4
          refine Kd.R_append (Kd.slice 72 k72) (w0 := wr) w0.heap.size rfl _ _ 33 50 (.slice none 0 0) 24 rfl Try.underlying33 (by kernel_rfl) rfl (by decide) (by decide) (.slice PS mS dS) S (full mkS l) [.slice PV mV dV] (fun _ => True) _ rfl rfl (M_apart (d := Kd.slice 72 k72) ⟨_, rfl, Kd.R_lower HF.out HN0.out⟩ HST'.out.rs (by decide)) (fun _ h => h) (fun _ _ => trivial) HST'.out.rs (Below.refl _ _) (Nat.le_trans HN0.out HSW.out) (by have := HSZ.out.2; omega) ?_
          intro v1 w7 hR1 _ hg1 _
          obtain ⟨P1, m1, d1, rfl⟩ : ∃ P m d, v1 = .slice P m d := let ⟨A, c, h, _⟩ := Kd.R_reads hR1; ⟨_, _, _, h⟩
          have hkg := blk_grown HST'.out.blk hg1 (Kd.R_ne HST'.out.rs HST'.out.blk (by decide))
          have p4 : w7.cell? ⟨g, 4, none⟩ = some (.slice PS mS dS) := blk_cell hkg 4
          have f4 := blk_frozen hkg 4
          have hb7 : Below w0.heap.size w0 w7 := HBB.out.grown hg1 (Nat.le_trans HN0.out HSW.out) (Kd.R_base HST'.out.rs)
          go_upto_region 15 with (fail)
          have HB8 := Aside0.mk (below_set (j := 4) (v := .slice P1 m1 d1) hb7 HST'.out.hg)
          have HT8 := Aside0.mk (Ty.put (Ty.grown HTY.out hg1 (fun q hq => .inr (let ⟨c, h⟩ := Kd.R_typed HST'.out.rs q hq; ⟨c, 50, h, by decide⟩))) hkg (by decide) 4 (.slice P1 m1 d1))
          have HF8 := Aside0.mk (Kd.R_set (Kd.R_over HF.out HST'.out.rs (by decide) hg1) hkg (by decide) 4 (.slice P1 m1 d1))
          have HH8 := Aside0.mk (HST'.out.putS hR1 hg1 ⟨l, hlen, rfl⟩)
          clear hkg p4 f4 hb7 hR1 hg1 HST' HF HBB HTY
          generalize w7.setCell ⟨g, 4, none⟩ (.slice P1 m1 d1) = w8 at *
          obtain rfl : mV = (full mkS l).length := (Kd.R_reads' HF8.out).1
          have hcut := cut_cap (P := Try.prog) 50 72 .i64 Try.underlying50 HI72.out PV (full mkS l).length dV (l.length : Int) (by omega) (by have := ge49 HF8.out; rw [full_len] at this; omega)
          rw [Int.toNat_natCast] at hcut
          go_wp2_with (fail)
          go_ret
          exact ⟨PV, dV, _, _, _, _, rfl, HF8.out, HH8.out, HOL.out, by simp, HB8.out, HT8.out⟩
end Go.Proofs.Ytdjpamgjmpibnaa.PHc
