/- GraphOrders: the law's walk. -/
import Derived.Test.YtmeaepmimnmjlaaOrdP
namespace Go.Proofs.Ytmeaepmimnmjlaa.Ask
open Go.Proofs.Ytmeaepmimnmjlaa.Dfs Go.Proofs.Ytmeaepmimnmjlaa.Dom Go.Proofs.Ytmeaepmimnmjlaa.DomT Go.RowKit Go.Shelf Go.Proofs.Ytmeaepmimnmjlaa.PGb Go.Proofs.Ytmeaepmimnmjlaa.Lit Go.Proofs.Ytmeaepmimnmjlaa.OwnCells Go.Proofs.YtmeaepmimnmjlaaW.PrintWords Go.Proofs.YtmeaepmimnmjlaaW.PrintLast Go.Proofs.YtmeaepmimnmjlaaW.PrintMore
attribute [local go_sem] Oper.semAt_some
attribute [local go_sem] run_store_fn
attribute [local go_sem] run_eql_fn
set_option linter.unusedVariables false
set_option linter.unusedSimpArgs false
theorem add0 (g k : Nat) : (⟨g, 0, none⟩ : Addr).add k = ⟨g, k, none⟩ := by by_cases h : k = 0 <;> simp [Addr.add, h]
def dO33 : Nat → Option Tmp
  | 0 => some 169
  | 1 => some 170
  | 2 => some 171
  | 3 => some 172
  | 4 => some 173
  | 5 => some 174
  | 6 => some 175
  | 7 => some 176
  | 8 => some 177
  | 9 => some 178
  | 10 => some 179
  | 11 => some 180
  | 12 => some 181
  | 13 => some 182
  | 14 => some 183
  | 15 => some 184
  | 16 => some 185
  | 17 => some 186
  | _ => none
def FO33 (r0 r1 r2 r3 : Addr) (a4 : Option Addr) (d0 d1 d2 d3 d4 n m g8 c8 cn b : Nat) (pc pb : Int) (nx : List (List Int)) : Nat → World → Value → Prop
  | 0, _, v => v = .slice (some ⟨g8, 0, none⟩) n c8
  | 1, _, v => v = .int .i64 (cn : Int)
  | 2, _, v => v = .pointer (some ⟨g8, cn, none⟩)
  | 3, _, v => v = .int .i64 pc
  | 4, _, v => v = .slice (some ⟨g8, 0, none⟩) n c8
  | 5, _, v => v = .int .i64 (b : Int)
  | 6, _, v => v = .pointer (some ⟨g8, b, none⟩)
  | 7, _, v => v = .int .i64 pb
  | 8, _, v => v = .bool true
  | 9, _, v => v = .bool true
  | 10, _, v => v = .agg #[.slice (some r0) n d0, .slice (some r1) n d1, .slice (some r2) n d2, .slice (some r3) n d3, .slice a4 m d4]
  | 11, _, v => v = .int .i64 (cn : Int)
  | 12, w, v => ∃ A c is, v = .slice A n c ∧ MarksAt w A c n nx (cn : Int) (-1) is
  | 13, _, v => v = .int .i64 (b : Int)
  | 14, w, v => ∃ ad, v = .pointer (some ad) ∧ w.cell? ad = some (.bool true)
  | 15, _, v => v = .bool true
  | 16, _, v => v = .bool false
  | 17, _, v => v = .bool false
  | _, _, _ => True
theorem FO33_below (r0 r1 r2 r3 : Addr) (a4 : Option Addr) (d0 d1 d2 d3 d4 n m g8 c8 cn b : Nat) (pc pb : Int) (nx : List (List Int)) (i : Nat) (w w1 : World) (v : Value) (h : FO33 r0 r1 r2 r3 a4 d0 d1 d2 d3 d4 n m g8 c8 cn b pc pb nx i w v) (hb : Below w.heap.size w w1) : FO33 r0 r1 r2 r3 a4 d0 d1 d2 d3 d4 n m g8 c8 cn b pc pb nx i w1 v := by
  match i with
  | 0 | 1 | 2 | 3 | 4 | 5 | 6 | 7 | 8 | 9 | 10 | 11 | 13 | 15 | 16 | 17 => exact h
  | 12 => exact (by obtain ⟨A, c, is, e, hm⟩ := h; exact ⟨A, c, is, e, hm.below hb⟩)
  | 14 => exact (by obtain ⟨ad, e, hm⟩ := h; exact ⟨ad, e, pw_cell_below hb hm⟩)
  | (n + 18) => exact h
set_option maxRecDepth 100000 in
set_option maxHeartbeats 16000000 in
theorem portagelaw09_GraphOrders.calls (nm : ByteArray) (pa lo : Int) (A3 : Option Addr) (c3 : Nat) (code : List S40) (A4 : Option Addr) (c4 : Nat) (hs : List S49) (r : Bool) (w : World) (hC : k40.C w A3 code.length code) (hc3 : code.length ≤ c3) (hH : k49.C w A4 hs.length hs) (hc4 : hs.length ≤ c4) (h : (code.length * 16 ≤ 140737488351232 ∧ hs.length * 32 ≤ 140737488351232) ∧ r = true) :
    Calls Try.prog 8 #[.agg #[.string nm, .int .i64 pa, .int .i64 lo, .slice A3 code.length c3, .slice A4 hs.length c4]] w fun e w' => e = .returned (.bool r) ∧ Below w.heap.size w w' := by
  obtain ⟨⟨hn0, hh0⟩, rfl⟩ := h
  have hn : code.length ≤ 8796093022207 := by omega
  have hh : hs.length ≤ 8796093022208 := by omega
  have HC := Aside0.mk hC
  have HH := Aside0.mk hH
  have HC3 := Aside0.mk hc3
  have HC4 := Aside0.mk hc4
  have HN := Aside0.mk hn
  have HHN := Aside0.mk hh
  clear hC hH hc3 hc4 hn hh hn0 hh0
  have hu25 := Try.underlying25
  have hu29 := Try.underlying29
  have hu40 := Try.underlying40
  have hu49 := Try.underlying49
  go_enter Try.func8, Try.ntmps8
  go_upto_region 1 with (fail)
  obtain ⟨W0, hW0⟩ : ∃ W0, w.alloc (.cells #[.string nm, .int .i64 pa, .int .i64 lo, .slice A3 code.length c3, .slice A4 hs.length c4] 25) = W0 := ⟨_, rfl⟩
  have hb0 : Below w.heap.size w W0 := by rw [← hW0]; exact below_alloc (Below.refl _ _) _
  have hfb0 : W0.heap[w.heap.size]? = some (.cells #[.string nm, .int .i64 pa, .int .i64 lo, .slice A3 code.length c3, .slice A4 hs.length c4] 25 (0, 0)) := by
    rw [← hW0]; exact World.alloc_heap_new w _
  rw [hW0]
  clear hW0
  have f0 := cell_blk hfb0 (i := 0) rfl
  have f1 := cell_blk hfb0 (i := 1) rfl
  have f2 := cell_blk hfb0 (i := 2) rfl
  have f3 := cell_blk hfb0 (i := 3) rfl
  have f4 := cell_blk hfb0 (i := 4) rfl
  have HFB := Aside0.mk hfb0
  have HB0 := Aside0.mk hb0
  clear hfb0 hb0
  go_wp2_with (fail)
  by_cases hfit : FitsP code hs
  · refine (flow_yes nm pa lo A3 A4 c3 c4 code hs W0 (Kd.C_below HC.out HB0.out) HC3.out (Kd.C_below HH.out HB0.out) HC4.out hfit HN.out HHN.out).mono ?_
    rintro e w1 ⟨a0, a1, a2, a3, a4, d0, d1, d2, d3, d4, n, m, st, nx, ord, l, hd, rfl, gv, gf, hb1⟩
    have hfb1 := blk_below HFB.out hb1
    have HB1 := Aside0.mk (HB0.out.trans (hb1.mono HB0.out.size))
    have HG := Aside0.mk gf
    have HV1 := Aside0.mk gv
    have HF := Aside0.mk hfit
    have HFB1 := Aside0.mk hfb1
    clear hb1 hfb1 gf gv hfit f0 f1 f2 f3 f4 HFB HB0
    go_upto_region 2 with (fail)
    obtain ⟨GB, hGB⟩ : ∃ GB, w1.heap.size = GB := ⟨_, rfl⟩
    obtain ⟨cf, hcf⟩ : ∃ cf, #[Value.string nm, .int .i64 pa, .int .i64 lo, .slice A3 code.length c3, .slice A4 hs.length c4] = cf := ⟨_, rfl⟩
    obtain ⟨gc, hgc⟩ : ∃ gc, #[Value.slice a0 n d0, .slice a1 n d1, .slice a2 n d2, .slice a3 n d3, .slice a4 m d4] = gc := ⟨_, rfl⟩
    have hb2 : Below w1.heap.size w1 (w1.alloc (.cells gc 29)) := below_alloc (Below.refl _ _) _
    have HBS : Aside0 (LB w (w1.alloc (.cells gc 29)) GB cf gc) := ⟨⟨hcf ▸ blk_below HFB1.out hb2, hGB ▸ World.alloc_heap_new w1 _, HB1.out.trans (hb2.mono HB1.out.size)⟩⟩
    have HV := Aside0.mk (HV1.out.below hb2)
    rw [hgc, hGB]
    have kf0 : cf[0]? = some (.string nm) := by rw [← hcf]; rfl
    have kf1 : cf[1]? = some (.int .i64 pa) := by rw [← hcf]; rfl
    have kf2 : cf[2]? = some (.int .i64 lo) := by rw [← hcf]; rfl
    have kf3 : cf[3]? = some (.slice A3 code.length c3) := by rw [← hcf]; rfl
    have kf4 : cf[4]? = some (.slice A4 hs.length c4) := by rw [← hcf]; rfl
    have kg0 : gc[0]? = some (.slice a0 n d0) := by rw [← hgc]; rfl
    have kg1 : gc[1]? = some (.slice a1 n d1) := by rw [← hgc]; rfl
    have kg2 : gc[2]? = some (.slice a2 n d2) := by rw [← hgc]; rfl
    have kg3 : gc[3]? = some (.slice a3 n d3) := by rw [← hgc]; rfl
    have kg4 : gc[4]? = some (.slice a4 m d4) := by rw [← hgc]; rfl
    have HKG := Aside0.mk (And.intro kg0 (And.intro kg1 (And.intro kg2 (And.intro kg3 kg4))))
    have HKF := Aside0.mk (And.intro kf0 (And.intro kf1 (And.intro kf2 (And.intro kf3 kf4))))
    clear kf0 kf1 kf2 kf3 kf4 kg0 kg1 kg2 kg3 kg4
    revert HBS HV
    generalize w1.alloc (.cells gc 29) = W2
    intro HBS HV
    have hp := HG.out.pos
    have HGC := Aside0.mk hgc
    have HCF := Aside0.mk hcf
    clear hb2 hGB hcf hgc HFB1 HB1 HV1
    obtain ⟨r0, rfl, _⟩ := Kd.at_int HV.out.r0 0 (by omega) (by omega)
    obtain ⟨r1, _, _, rfl, _⟩ := at_L3 HV.out.r1 0 (by omega) (by omega)
    obtain ⟨r2, rfl, _⟩ := Kd.at_int HV.out.r2 0 (by omega) (by omega)
    obtain ⟨r3, rfl, _⟩ := Kd.at_int HV.out.r3 0 (by omega) (by omega)
    have g0 := cell_blk HBS.out.gb HKG.out.1
    have g1 := cell_blk HBS.out.gb HKG.out.2.1
    have g2 := cell_blk HBS.out.gb HKG.out.2.2.1
    have g3 := cell_blk HBS.out.gb HKG.out.2.2.2.1
    have g4 := cell_blk HBS.out.gb HKG.out.2.2.2.2
    go_wp2_with (fail)
    refine (reached_own HG.out HV.out HN.out (-1)).mono ?_
    rintro e wb ⟨A6, c6, all, rfl, hM6, hb3⟩
    obtain ⟨x6, rfl, _⟩ := Kd.at_bool hM6.2.1 0 (by omega) (by omega)
    have HBS3 := Aside0.mk (HBS.out.from_ hb3)
    have HV3 := Aside0.mk (HV.out.below hb3)
    have HM3 := Aside0.mk hM6
    clear hb3 hM6 g0 g1 g2 g3 g4 HBS HV
    go_wp2_with (fail)
    obtain ⟨i3, hi3, hz30, hz31, hz32⟩ := info_parts info3
    have HI := Aside0.mk hi3
    have HZ0 := Aside0.mk hz30
    have HZ1 := Aside0.mk hz31
    have HZ2 := Aside0.mk hz32
    clear hi3 hz30 hz31 hz32
    go_loopw [8, 9] (fun v8 i wr => ∃ k : Nat, k ≤ n ∧ i = .int .i64 (k : Int) ∧ wr.ownsRow wb.heap.size 3 1 v8 k ((List.replicate k (-1 : Int)).map (Value.int .i64)) ∧ Below wb.heap.size wb wr) (fun _ i _ => ((n : Int) - intOf i).toNat)
    case atStart => exact ⟨0, Nat.zero_le _, rfl, World.ownsRow_nil _ _ _ _, Below.refl _ _⟩
    case round =>
      obtain ⟨k, hk, rfl, hO, hB⟩ := hrel
      have HO := Aside0.mk hO
      have HBW := Aside0.mk hB
      have hkm : k < 9223372036854775807 := by have := HN.out; have := HG.out.short; omega
      by_cases hkn : k < n
      · have hkn' : (k : Int) < (n : Int) := by omega
        have HKN := Aside0.mk hkn
        have HSH := Aside0.mk HG.out.short
        obtain ⟨A8, c8, rfl⟩ := row_slice hO
        clear hk hkn hO hB
        go_wp2_with (first | (at_builtin; refine wpList_append_own _ rfl _ _ 26 rfl wb.heap.size 3 i3 (.int .i64 0) 1 8 Try.underlying26 HI.out HZ0.out HZ1.out HZ2.out rfl (by decide) _ _ _ rfl (World.ownsRow.alloc HO.out _) ⟨wr.heap.size, 0, none⟩ 1 1 [.int .i64 (-1)] rfl rfl (cell_one_new _ _ _) (by simp [Value.oneCell']) (by have := HSH.out; have := HN.out; have := HKN.out; unfold maxLen; omega) (by have := HSH.out; have := HN.out; have := HKN.out; omega) (by rw [World.size_alloc]; have := HBW.out.size; omega) ?_; intro v9 w9 hown9 hgrow9 _; refine Classical.byContradiction (fun hcon => ?hst)) | go_in)
        refine hcon ?_
        have HO9 : Aside0 (w9.ownsRow wb.heap.size 3 1 v9 (k + 1) ((List.replicate (k + 1) (-1 : Int)).map (Value.int .i64))) := ⟨by rw [List.replicate_succ', List.map_append]; exact hown9⟩
        have HB9 : Aside0 (Below wb.heap.size wb w9) := ⟨HBW.out.grown ((World.grownBy_alloc wr _ _).trans hgrow9) HBW.out.size (fun j e => own_base HO.out j e)⟩
        clear hown9 hgrow9 hcon HO HBW
        go_wp2_with (fail)
        go_roundw
        case measure => simp [intOf]; omega
        case rel => exact ⟨k + 1, HKN.out, by first | rfl | go_num, HO9.out, HB9.out⟩
      · have hkn' : (n : Int) ≤ (k : Int) := by omega
        have hkk : n = k := by omega
        subst hkk
        have hpl : PL n ord 0 (List.replicate n (-1)) := PL.start n ord
        obtain ⟨pl0, hp0⟩ : ∃ pl, List.replicate n (-1 : Int) = pl := ⟨_, rfl⟩
        rw [hp0] at hO hpl
        have HO0 := Aside0.mk hO
        have HPL := Aside0.mk hpl
        obtain ⟨A8, c8, rfl⟩ := row_slice hO
        obtain ⟨g8, rfl⟩ : ∃ g8, A8 = some ⟨g8, 0, none⟩ := by
          rcases hO.2 with ⟨e, _⟩ | ⟨g, cap, cur, e, _⟩
          · cases e; exact absurd hp (by omega)
          · cases e; exact ⟨_, rfl⟩
        clear hk hkn hO hB hpl hp0 HO
        go_wp2_with (fail)
        (try rw [show decide (n < n) = false from decide_eq_false (by omega)])
        go_loopw [10] (fun v wr => ∃ (i : Nat) (pl : List Int), i ≤ n ∧ v = .int .i64 (i : Int) ∧ PL n ord i pl ∧ wr.ownsRow wb.heap.size 3 1 (.slice (some ⟨g8, 0, none⟩) n c8) n (pl.map (Value.int .i64)) ∧ Below wb.heap.size wb wr) (fun v _ => ((n : Int) - intOf v).toNat)
        case atStart => exact ⟨0, pl0, Nat.zero_le _, rfl, HPL.out, HO0.out, HBW.out⟩
        case round =>
          clear HBW HO0 HPL pl0
          obtain ⟨i, pl, hi, rfl, hPL, hO, hB⟩ := hrel
          have HO := Aside0.mk hO
          have HPL := Aside0.mk hPL
          have HBW := Aside0.mk hB
          have HBS := Aside0.mk (HBS3.out.from_ hB)
          have HV := Aside0.mk (HV3.out.below hB)
          have HM := Aside0.mk (HM3.out.below hB)
          have him : i < 9223372036854775807 := by have := HN.out; have := HG.out.short; omega
          by_cases hin : i < n
          · have hin' : (i : Int) < (n : Int) := by omega
            have hi0 : (0 : Int) ≤ (i : Int) := by omega
            have HIN := Aside0.mk hin
            obtain ⟨x, e, q2⟩ := Kd.at_int HV.out.r2 (i : Int) hi0 hin'
            cases e
            rw [Int.toNat_natCast] at q2
            have hob := HG.out.ord_in hin
            obtain ⟨bb, hbb⟩ : ∃ bb : Nat, rd ord (i : Int) = (bb : Int) := ⟨(rd ord (i : Int)).toNat, by omega⟩
            rw [hbb] at q2 hob
            have hfr := HPL.out.fresh HG.out hin
            have hinp := HG.out.in_post hin
            rw [hbb] at hfr hinp
            have HBB := Aside0.mk hbb
            have hb1 : (bb : Int) < (n : Int) := hob.2
            have hb0 : (0 : Int) ≤ (bb : Int) := by omega
            have hlen := HPL.out.len
            have p8 := hO.cellAt bb (by omega)
            rw [List.getElem?_map, List.getElem?_eq_getElem (show bb < pl.length by omega)] at p8
            have e8 : pl[bb]'(by omega) = -1 := by rw [← hfr]; simp [rd, show bb < pl.length by omega]
            rw [e8] at p8
            have p8' : wr.cell? ⟨g8, bb, none⟩ = some (.int .i64 (-1)) := p8
            have f8 := hO.frozenAt bb
            obtain ⟨x, e, q6⟩ := Kd.at_bool HM.out.2.1 (bb : Int) hb0 hb1
            cases e
            have hal := HM.out.2.2.2 bb (by omega)
            rw [goes_all HG.out.wf, hinp] at hal
            rw [Int.toNat_natCast] at q6
            obtain ⟨ab, hab⟩ : ∃ x, rdOf false all (bb : Int) = x := ⟨_, rfl⟩
            rw [hab] at q6 hal
            have HAL := Aside0.mk hal
            have hst : ∀ W : World, W.ownsRow wb.heap.size 3 1 (.slice (some ⟨g8, 0, none⟩) n c8) n (pl.map (Value.int .i64)) → (W.setCell ⟨g8, bb, none⟩ (.int .i64 (i : Int))).ownsRow wb.heap.size 3 1 (.slice (some ⟨g8, 0, none⟩) n c8) n ((pl.set bb (i : Int)).map (Value.int .i64)) := fun W h => by
              rw [List.map_set]; exact (h.stored bb (.int .i64 (i : Int))).1
            have HST := Aside0.mk hst
            have hpl2 : PL n ord (i + 1) (pl.set bb (i : Int)) := by
              have := HPL.out.put HG.out hin
              rw [hbb] at this; exact this
            have HPL2 := Aside0.mk hpl2
            have hbs2 : ∀ W : World, Below wb.heap.size wb W → Below wb.heap.size wb (W.setCell ⟨g8, bb, none⟩ (.int .i64 (i : Int))) := fun W h => h.setCell (p := ⟨g8, bb, none⟩) (own_base HO.out g8 rfl) _
            have HBS2 := Aside0.mk hbs2
            have g2 := cell_blk HBS.out.gb HKG.out.2.2.1
            clear hi hO hPL hB hin hob hfr hinp hal hab p8 e8 hst hpl2 hbs2 hlen hbb
            by_cases hz : i = 0
            · subst hz
              rw [show ((0 : Nat) : Int) = 0 from rfl] at hin' ⊢
              have q2' : wr.cell? r2 = some (.int .i64 (bb : Int)) := by simpa [Addr.add] using q2
              go_upto_region 13 with (fail)
              have HO9 := Aside0.mk (HST.out _ HO.out)
              have HB9 := Aside0.mk (HBS2.out _ HBW.out)
              clear HO HBW HBS HV HM p8' f8 q6 q2 g2
              go_wp2_with (fail)
              go_roundw
              case measure => simp [intOf]; omega
              case rel => exact ⟨0 + 1, _, HIN.out, by first | rfl | go_num, HPL2.out, HO9.out, HB9.out⟩
            · obtain ⟨i', hi'⟩ : ∃ i' : Nat, i = i' + 1 := ⟨i - 1, by omega⟩
              have HII := Aside0.mk hi'
              have z1 : decide ((0 : Int) < (i : Int)) = true := decide_eq_true (by omega)
              have z1' : decide (0 < i) = true := decide_eq_true (by omega)
              have z2 : IntKind.i64.wrap ((i : Int) - 1) = (i' : Int) := by rw [i64_w]; unfold wrap64; omega
              have hj0 : (0 : Int) ≤ (i' : Int) := by omega
              have hj1 : (i' : Int) < (n : Int) := by omega
              obtain ⟨x, e, q3⟩ := Kd.at_int HV.out.r2 (i' : Int) hj0 hj1
              cases e
              rw [Int.toNat_natCast] at q3
              have hob := HG.out.ord_in (b := i') (by omega)
              have hinp := HG.out.in_post (i := i') (by omega)
              have hrise := HG.out.rise_off (i := i') (by omega)
              rw [← hi', HBB.out] at hrise
              obtain ⟨pp, hpp⟩ : ∃ pp : Nat, rd ord (i' : Int) = (pp : Int) := ⟨(rd ord (i' : Int)).toNat, by omega⟩
              rw [hpp] at q3 hob hinp hrise
              have hp0 : (0 : Int) ≤ (pp : Int) := by omega
              have hp1 : (pp : Int) < (n : Int) := hob.2
              obtain ⟨x, e, q7⟩ := Kd.at_bool HM.out.2.1 (pp : Int) hp0 hp1
              cases e
              have hpl := HM.out.2.2.2 pp (by omega)
              rw [goes_all HG.out.wf] at hpl
              rw [Int.toNat_natCast] at q7
              obtain ⟨pb, hpb⟩ : ∃ x, rdOf false all (pp : Int) = x := ⟨_, rfl⟩
              rw [hpb] at q7 hpl
              cases ab with
              | true =>
                have : pb = true := hpl.2 (hinp.2 (by have := HAL.out.1 rfl; omega))
                subst this
                clear hob hinp hrise hpp hpl hpb hi' hz
                go_upto_region 13 with (fail)
                have HO9 := Aside0.mk (HST.out _ HO.out)
                have HB9 := Aside0.mk (HBS2.out _ HBW.out)
                clear HO HBW HBS HV HM p8' f8 q6 q2 g2
                go_wp2_with (fail)
                go_roundw
                case measure => simp [intOf]; omega
                case rel => exact ⟨i + 1, _, HIN.out, by first | rfl | go_num, HPL2.out, HO9.out, HB9.out⟩
              | false =>
                cases pb with
                | true =>
                  clear hob hinp hrise hpp hpl hpb hi' hz
                  go_upto_region 13 with (fail)
                  have HO9 := Aside0.mk (HST.out _ HO.out)
                  have HB9 := Aside0.mk (HBS2.out _ HBW.out)
                  clear HO HBW HBS HV HM p8' f8 q6 q2 g2
                  go_wp2_with (fail)
                  go_roundw
                  case measure => simp [intOf]; omega
                  case rel => exact ⟨i + 1, _, HIN.out, by first | rfl | go_num, HPL2.out, HO9.out, HB9.out⟩
                | false =>
                  have hr := hrise (fun h => absurd (hpl.2 h) (by decide))
                  have t1 : decide ((bb : Int) < (pp : Int)) = false := decide_eq_false (by omega)
                  have t2 : decide (bb < pp) = false := decide_eq_false (by omega)
                  clear hob hinp hrise hpp hpl hpb hi' hz hr
                  go_upto_region 13 with (fail)
                  have HO9 := Aside0.mk (HST.out _ HO.out)
                  have HB9 := Aside0.mk (HBS2.out _ HBW.out)
                  clear HO HBW HBS HV HM p8' f8 q6 q2 g2
                  go_wp2_with (fail)
                  go_roundw
                  case measure => simp [intOf]; omega
                  case rel => exact ⟨i + 1, _, HIN.out, by first | rfl | go_num, HPL2.out, HO9.out, HB9.out⟩
          · have hin' : (n : Int) ≤ (i : Int) := by omega
            have hii : n = i := by omega
            subst hii
            clear hi hin
            have HPL2 := Aside0.mk hPL
            obtain ⟨hPC, hPK⟩ := row_C (A := some ⟨g8, 0, none⟩) (c := c8) (l := pl) (by rw [hPL.len]; exact hO)
            rw [hPL.len] at hPC
            have HPC := Aside0.mk hPC
            have g2 := cell_blk HBS.out.gb HKG.out.2.2.1
            obtain ⟨x, e, q2⟩ := Kd.at_int HV.out.r2 0 (by omega) (by omega)
            cases e
            rw [HG.out.ord_zero] at q2
            have q2' : wr.cell? r2 = some (.int .i64 0) := by simpa [Addr.add] using q2
            clear hPC hPK hPL hO hB q2 HPL HO HBW
            go_wp2_with (fail)
            (try rw [show decide (n < n) = false from decide_eq_false (by omega)])
            have HBZ : Aside0 (LB w wr GB cf gc) := HBS
            have HVZ : Aside0 (GV wr (some r0) (some r1) (some r2) (some r3) a4 d0 d1 d2 d3 d4 n m st nx ord l hd) := HV
            have HMZ := HM
            clear HBS HV HM q2' g2
            revert HBZ HVZ HMZ HPC
            generalize hwz : wr = wz
            intro HPC HBZ HVZ HMZ
            clear hwz
            go_loopw [12] (fun v wr => ∃ b : Nat, b ≤ n ∧ v = .int .i64 (b : Int) ∧ Below wz.heap.size wz wr) (fun v _ => ((n : Int) - intOf v).toNat)
            case atStart => exact ⟨0, Nat.zero_le _, rfl, Below.refl _ _⟩
            case round =>
              obtain ⟨b, hb, rfl, hB⟩ := hrel
              have HBW := Aside0.mk hB
              have HBS := Aside0.mk (HBZ.out.from_ hB)
              have HV := Aside0.mk (HVZ.out.below hB)
              have HM := Aside0.mk (HMZ.out.below hB)
              have HP := Aside0.mk (Kd.C_below HPC.out hB)
              have hbm : b < 9223372036854775807 := by have := HN.out; have := HG.out.short; omega
              by_cases hbl : b < n
              · have hbn : (b : Int) < (n : Int) := by omega
                have hb0 : (0 : Int) ≤ (b : Int) := by omega
                have HBN := Aside0.mk hbl
                obtain ⟨x, e, q6⟩ := Kd.at_bool HM.out.2.1 (b : Int) hb0 hbn
                cases e
                rw [Int.toNat_natCast] at q6
                have hal := HM.out.2.2.2 b hbl
                rw [goes_all HG.out.wf] at hal
                obtain ⟨ab, hab⟩ : ∃ x, rdOf false all (b : Int) = x := ⟨_, rfl⟩
                rw [hab] at q6 hal
                clear hab hb hbl hB
                cases ab with
                | false =>
                  clear hal
                  go_wp2_with (fail)
                  go_roundw
                  case measure => simp [intOf]; omega
                  case rel => exact ⟨b + 1, HBN.out, by first | rfl | go_num, HBW.out⟩
                | true =>
                  have hbp := hal.1 rfl
                  have HBP := Aside0.mk hbp
                  have g3 := cell_blk HBS.out.gb HKG.out.2.2.2.1
                  obtain ⟨x, e, q3⟩ := Kd.at_int HV.out.r3 (b : Int) hb0 hbn
                  cases e
                  rw [Int.toNat_natCast] at q3
                  obtain ⟨d, hd_⟩ : ∃ d, rd l (b : Int) = d := ⟨_, rfl⟩
                  rw [hd_] at q3
                  obtain ⟨ad4, e4, q4⟩ := Kd.at_int HP.out (b : Int) hb0 hbn
                  cases e4
                  rw [Int.toNat_natCast, HPL2.out.post HG.out hbp] at q4
                  have q4' : wr.cell? ⟨g8, b, none⟩ = some (.int .i64 (posx nx (b : Int) : Int)) := by rw [add0] at q4; exact q4
                  have HQ4 := Aside0.mk q4'
                  have HD := Aside0.mk hd_
                  clear hal hbp q4 q4' hd_
                  go_upto_region 27 with (fail)
                  clear g3 q3 q6
                  go_cut [150] (fun v150 wc => v150 = .bool false ∧ Below wr.heap.size wr wc)
                  case first =>
                    by_cases hz : b = 0
                    · subst hz
                      rw [show ((0 : Nat) : Int) = 0 from rfl] at hbn ⊢
                      go_big_quiet (fail)
                      go_wp2_with (fail)
                      go_meet
                      case rel => exact ⟨rfl, pw_below_drewN (Below.refl _ _) _⟩
                    · obtain ⟨hup1, hup2⟩ := HG.out.dom.up (b : Int) HBP.out (by omega)
                      rw [HD.out] at hup1 hup2
                      have hdb := post_bound nx HG.out.wf hup1
                      rw [HG.out.lnx] at hdb
                      obtain ⟨dn, rfl⟩ : ∃ dn : Nat, d = (dn : Int) := ⟨d.toNat, by omega⟩
                      obtain ⟨ad5, e5, q5⟩ := Kd.at_int HP.out (dn : Int) hdb.1 hdb.2
                      cases e5
                      rw [Int.toNat_natCast, HPL2.out.post HG.out hup1] at q5
                      have q5' : wr.cell? ⟨g8, dn, none⟩ = some (.int .i64 (posx nx (dn : Int) : Int)) := by rw [add0] at q5; exact q5
                      have q4' := HQ4.out
                      have hd0 : (0 : Int) ≤ (dn : Int) := by omega
                      have hd1 : (dn : Int) < (n : Int) := hdb.2
                      obtain ⟨pbv, hpb⟩ : ∃ p : Nat, posx nx (b : Int) = p := ⟨_, rfl⟩
                      obtain ⟨pdv, hpd⟩ : ∃ p : Nat, posx nx (dn : Int) = p := ⟨_, rfl⟩
                      rw [hpb] at q4' hup2
                      rw [hpd] at q5' hup2
                      have z1 : decide ((0 : Int) < (b : Int)) = true := decide_eq_true (by omega)
                      have z1' : decide (0 < b) = true := decide_eq_true (by omega)
                      have z3 : decide ((dn : Int) < 0) = false := decide_eq_false (by omega)
                      have z4 : decide ((pbv : Int) ≤ (pdv : Int)) = false := decide_eq_false (by omega)
                      have z4' : decide (pbv ≤ pdv) = false := decide_eq_false (by omega)
                      clear hup1 hup2 hdb hz q5 hpb hpd
                      go_big_quiet (fail)
                      go_wp2_with (fail)
                      go_meet
                      case rel => exact ⟨rfl, pw_below_drewN (Below.refl _ _) _⟩
                  case rest =>
                    obtain ⟨rfl, hbc⟩ := hcut
                    have HBWc := Aside0.mk (HBW.out.trans (hbc.mono HBW.out.size))
                    clear hbc HQ4 HBW HBS HV HM HP
                    go_wp2_with (fail)
                    obtain ⟨row, hrow⟩ : ∃ row, rd_L3 nx (b : Int) = row := ⟨_, rfl⟩
                    have hlr := HG.out.row_len HBN.out
                    rw [hrow] at hlr
                    have HRW := Aside0.mk hrow
                    have HLR := Aside0.mk hlr
                    clear hrow hlr
                    go_loopw [14] (fun v wr => ∃ k : Nat, k ≤ row.length ∧ v = .int .i64 (k : Int) ∧ Below wz.heap.size wz wr) (fun v _ => ((row.length : Int) - intOf v).toNat)
                    case atStart => exact ⟨0, Nat.zero_le _, rfl, HBWc.out⟩
                    case round =>
                      clear HBWc
                      obtain ⟨k, hk, rfl, hB⟩ := hrel
                      have HBW := Aside0.mk hB
                      have HBS := Aside0.mk (HBZ.out.from_ hB)
                      have HV := Aside0.mk (HVZ.out.below hB)
                      have HP := Aside0.mk (Kd.C_below HPC.out hB)
                      have hkm : k < 9223372036854775807 := by have := HN.out; have := HG.out.short; have := HLR.out; omega
                      obtain ⟨x, A9, c9, e, q1, hc9, hC9⟩ := at_L3 HV.out.r1 (b : Int) hb0 hbn
                      cases e
                      rw [HRW.out] at q1 hC9
                      rw [Int.toNat_natCast] at q1
                      have g1 := cell_blk HBS.out.gb HKG.out.2.1
                      by_cases hkl : k < row.length
                      · have hkr : (k : Int) < (row.length : Int) := by omega
                        have hk0 : (0 : Int) ≤ (k : Int) := by omega
                        have HKL := Aside0.mk hkl
                        obtain ⟨ad, e, q2⟩ := Kd.at_int hC9 (k : Int) hk0 hkr
                        subst e
                        rw [Int.toNat_natCast] at q2
                        have hmem : rd row (k : Int) ∈ nb nx (b : Int) := by
                          have : rd (rd_L3 nx (b : Int)) (k : Int) ∈ rd_L3 nx (b : Int) := by rw [HRW.out]; exact rd_mem hkl
                          rw [HRW.out] at this
                          have e9 : nb nx (b : Int) = row := HRW.out
                          rw [e9]; exact this
                        have hcb := HG.out.wf.in_ _ _ hmem
                        rw [HG.out.lnx] at hcb
                        obtain ⟨cn, hcn⟩ : ∃ cn : Nat, rd row (k : Int) = (cn : Int) := ⟨(rd row (k : Int)).toNat, by omega⟩
                        rw [hcn] at q2 hcb hmem
                        obtain ⟨hcn0, hcn1⟩ := hcb
                        obtain ⟨hcp, hce⟩ := edge_pos HG.out.wf HBP.out hmem
                        obtain ⟨ad4, e4, q4⟩ := Kd.at_int HP.out (cn : Int) hcn0 hcn1
                        cases e4
                        rw [Int.toNat_natCast, HPL2.out.post HG.out hcp] at q4
                        have q4' : wr.cell? ⟨g8, cn, none⟩ = some (.int .i64 (posx nx (cn : Int) : Int)) := by rw [add0] at q4; exact q4
                        obtain ⟨ad5, e5, q5⟩ := Kd.at_int HP.out (b : Int) hb0 hbn
                        cases e5
                        rw [Int.toNat_natCast, HPL2.out.post HG.out HBP.out] at q5
                        have q5' : wr.cell? ⟨g8, b, none⟩ = some (.int .i64 (posx nx (b : Int) : Int)) := by rw [add0] at q5; exact q5
                        obtain ⟨pbv, hpb⟩ : ∃ p : Nat, posx nx (b : Int) = p := ⟨_, rfl⟩
                        obtain ⟨pcv, hpc⟩ : ∃ p : Nat, posx nx (cn : Int) = p := ⟨_, rfl⟩
                        rw [hpb] at q5' hce
                        rw [hpc] at q4' hce
                        have HCE := Aside0.mk hce
                        clear hk hkl hB hC9 hmem hcp hce q4 q5 hpb hpc hcn
                        go_upto_region 33 with (fail)
                        clear q1 q2 g1
                        go_cut [186] (fun v186 wc => v186 = .bool false ∧ Below wr.heap.size wr wc)
                        case first =>
                          by_cases hle : pcv ≤ pbv
                          · have HREACH := Aside0.mk (reach_goes HG.out.wf hcn0 (HCE.out.resolve_left (by omega)))
                            have z1 : decide ((pcv : Int) ≤ (pbv : Int)) = true := decide_eq_true (by omega)
                            have z1' : decide (pcv ≤ pbv) = true := decide_eq_true hle
                            have HQ4 := Aside0.mk q4'
                            have HQ5 := Aside0.mk q5'
                            obtain ⟨pc, hpcE⟩ : ∃ x : Int, (pcv : Int) = x := ⟨_, rfl⟩
                            obtain ⟨pb, hpbE⟩ : ∃ x : Int, (pbv : Int) = x := ⟨_, rfl⟩
                            rw [hpcE, hpbE] at z1
                            rw [hpcE] at HQ4
                            rw [hpbE] at HQ5
                            clear q4' q5' hle hpcE hpbE z1'
                            refine RegInv.region_facts (by kernel_rfl) (by kernel_rfl) (fun a b => Below a.heap.size a b) (fun a b c h k => h.trans (k.mono h.size)) (below_drew1 (Below.refl _ _)) dO33 18 (by kernel_rfl) (by kernel_rfl) (by kernel_rfl) (FO33 r0 r1 r2 r3 a4 d0 d1 d2 d3 d4 n m g8 c8 cn b pc pb nx) (FO33_below r0 r1 r2 r3 a4 d0 d1 d2 d3 d4 n m g8 c8 cn b pc pb nx) ?hsO33 ?heO33
                            case hsO33 =>
                              intro i o aX w8 hi hM
                              have hltI : i < 18 := (Array.getElem?_eq_some_iff.1 hi).1
                              have hExt := hM.ext
                              have q4 := pw_cell_below hExt HQ4.out
                              have q5 := pw_cell_below hExt HQ5.out
                              have g0 := cell_blk (blk_below HBS.out.gb hExt) HKG.out.1
                              have g1 := cell_blk (blk_below HBS.out.gb hExt) HKG.out.2.1
                              have g2 := cell_blk (blk_below HBS.out.gb hExt) HKG.out.2.2.1
                              have g3 := cell_blk (blk_below HBS.out.gb hExt) HKG.out.2.2.2.1
                              have g4 := cell_blk (blk_below HBS.out.gb hExt) HKG.out.2.2.2.2
                              rcases i with _ | _ | _ | _ | _ | _ | _ | _ | _ | _ | _ | _ | _ | _ | _ | _ | _ | _ | i
                              · cases hi
                                have h8 := gdq _ _ _ (show aX.tmps.getD 8 undef = .slice (some ⟨g8, 0, none⟩) n c8 from hM.off 8 (by kernel_rfl))
                                refine RegInv.op_value (by rfl) rfl (v := .slice (some ⟨g8, 0, none⟩) n c8) (w' := w8) ?_ ⟨_, rfl, rfl, Below.refl _ _⟩
                                unfold execOp
                                go_simp
                              · cases hi
                                have h15 := gdq _ _ _ (show aX.tmps.getD 15 undef = .int .i64 (cn : Int) from hM.off 15 (by kernel_rfl))
                                refine RegInv.op_value (by rfl) rfl (v := .int .i64 (cn : Int)) (w' := w8) ?_ ⟨_, rfl, rfl, Below.refl _ _⟩
                                unfold execOp
                                go_simp
                              · cases hi
                                have h169 := gdq _ _ _ (show aX.tmps.getD 169 undef = .slice (some ⟨g8, 0, none⟩) n c8 from hM.at_ 0 (by decide) (by kernel_rfl))
                                have h170 := gdq _ _ _ (show aX.tmps.getD 170 undef = .int .i64 (cn : Int) from hM.at_ 1 (by decide) (by kernel_rfl))
                                refine RegInv.op_value (by rfl) rfl (v := .pointer (some ⟨g8, cn, none⟩)) (w' := w8) ?_ ⟨_, rfl, rfl, Below.refl _ _⟩
                                unfold execOp
                                go_simp
                              · cases hi
                                have h171 := gdq _ _ _ (show aX.tmps.getD 171 undef = .pointer (some ⟨g8, cn, none⟩) from hM.at_ 2 (by decide) (by kernel_rfl))
                                refine RegInv.op_value (by rfl) rfl (v := .int .i64 pc) (w' := w8) ?_ ⟨_, rfl, rfl, Below.refl _ _⟩
                                unfold execOp
                                go_simp
                              · cases hi
                                have h8 := gdq _ _ _ (show aX.tmps.getD 8 undef = .slice (some ⟨g8, 0, none⟩) n c8 from hM.off 8 (by kernel_rfl))
                                refine RegInv.op_value (by rfl) rfl (v := .slice (some ⟨g8, 0, none⟩) n c8) (w' := w8) ?_ ⟨_, rfl, rfl, Below.refl _ _⟩
                                unfold execOp
                                go_simp
                              · cases hi
                                have h12 := gdq _ _ _ (show aX.tmps.getD 12 undef = .int .i64 (b : Int) from hM.off 12 (by kernel_rfl))
                                refine RegInv.op_value (by rfl) rfl (v := .int .i64 (b : Int)) (w' := w8) ?_ ⟨_, rfl, rfl, Below.refl _ _⟩
                                unfold execOp
                                go_simp
                              · cases hi
                                have h173 := gdq _ _ _ (show aX.tmps.getD 173 undef = .slice (some ⟨g8, 0, none⟩) n c8 from hM.at_ 4 (by decide) (by kernel_rfl))
                                have h174 := gdq _ _ _ (show aX.tmps.getD 174 undef = .int .i64 (b : Int) from hM.at_ 5 (by decide) (by kernel_rfl))
                                refine RegInv.op_value (by rfl) rfl (v := .pointer (some ⟨g8, b, none⟩)) (w' := w8) ?_ ⟨_, rfl, rfl, Below.refl _ _⟩
                                unfold execOp
                                go_simp
                              · cases hi
                                have h175 := gdq _ _ _ (show aX.tmps.getD 175 undef = .pointer (some ⟨g8, b, none⟩) from hM.at_ 6 (by decide) (by kernel_rfl))
                                refine RegInv.op_value (by rfl) rfl (v := .int .i64 pb) (w' := w8) ?_ ⟨_, rfl, rfl, Below.refl _ _⟩
                                unfold execOp
                                go_simp
                              · cases hi
                                have h172 := gdq _ _ _ (show aX.tmps.getD 172 undef = .int .i64 pc from hM.at_ 3 (by decide) (by kernel_rfl))
                                have h176 := gdq _ _ _ (show aX.tmps.getD 176 undef = .int .i64 pb from hM.at_ 7 (by decide) (by kernel_rfl))
                                refine RegInv.op_value (by rfl) rfl (v := .bool true) (w' := w8) ?_ ⟨_, rfl, rfl, Below.refl _ _⟩
                                unfold execOp
                                go_simp
                              · cases hi
                                have h177 := gdq _ _ _ (show aX.tmps.getD 177 undef = .bool true from hM.at_ 8 (by decide) (by kernel_rfl))
                                refine RegInv.op_value (by rfl) rfl (v := .bool true) (w' := w8) ?_ ⟨_, rfl, rfl, Below.refl _ _⟩
                                unfold execOp
                                go_simp
                              · cases hi
                                have h3 := gdq _ _ _ (show aX.tmps.getD 3 undef = .pointer (some ⟨GB, 0, none⟩) from hM.off 3 (by kernel_rfl))
                                have h178 := gdq _ _ _ (show aX.tmps.getD 178 undef = .bool true from hM.at_ 9 (by decide) (by kernel_rfl))
                                have hg : aX.tmps.getD 178 undef = .bool true := hM.at_ 9 (by decide) (by kernel_rfl)
                                refine RegInv.op_valueW (by rfl) (RegInv.wanted_of 178 rfl rfl hg) (v := .agg #[.slice (some r0) n d0, .slice (some r1) n d1, .slice (some r2) n d2, .slice (some r3) n d3, .slice a4 m d4]) (w' := w8) ?_ ⟨_, rfl, rfl, Below.refl _ _⟩
                                unfold execOp
                                go_simp
                              · cases hi
                                have h15 := gdq _ _ _ (show aX.tmps.getD 15 undef = .int .i64 (cn : Int) from hM.off 15 (by kernel_rfl))
                                have h178 := gdq _ _ _ (show aX.tmps.getD 178 undef = .bool true from hM.at_ 9 (by decide) (by kernel_rfl))
                                have hg : aX.tmps.getD 178 undef = .bool true := hM.at_ 9 (by decide) (by kernel_rfl)
                                refine RegInv.op_valueW (by rfl) (RegInv.wanted_of 178 rfl rfl hg) (v := .int .i64 (cn : Int)) (w' := w8) ?_ ⟨_, rfl, rfl, Below.refl _ _⟩
                                unfold execOp
                                go_simp
                              · cases hi
                                have h179 := gdq _ _ _ (show aX.tmps.getD 179 undef = .agg #[.slice (some r0) n d0, .slice (some r1) n d1, .slice (some r2) n d2, .slice (some r3) n d3, .slice a4 m d4] from hM.at_ 10 (by decide) (by kernel_rfl))
                                have h180 := gdq _ _ _ (show aX.tmps.getD 180 undef = .int .i64 (cn : Int) from hM.at_ 11 (by decide) (by kernel_rfl))
                                have h178 := gdq _ _ _ (show aX.tmps.getD 178 undef = .bool true from hM.at_ 9 (by decide) (by kernel_rfl))
                                have hg : aX.tmps.getD 178 undef = .bool true := hM.at_ 9 (by decide) (by kernel_rfl)
                                refine RegInv.op_callW (by rfl) (RegInv.wanted_of 178 rfl rfl hg) Try.func28 (by kernel_rfl) rfl rfl #[.agg #[.slice (some r0) n d0, .slice (some r1) n d1, .slice (some r2) n d2, .slice (some r3) n d3, .slice a4 m d4], .int .i64 (cn : Int), Go.Value.int Go.IntKind.i64 (-1)] (by simp [Act.eval, h179, h180, h178]) ?_
                                refine (from_own HG.out (HV.out.below hExt) HN.out (cn : Int) (-1) hcn0 hcn1).mono ?_
                                rintro e w9 ⟨A9, c9, is9, rfl, hm9, b9⟩
                                exact ⟨_, rfl, _, rfl, ⟨A9, c9, is9, rfl, hm9⟩, b9⟩
                              · cases hi
                                have h12 := gdq _ _ _ (show aX.tmps.getD 12 undef = .int .i64 (b : Int) from hM.off 12 (by kernel_rfl))
                                have h178 := gdq _ _ _ (show aX.tmps.getD 178 undef = .bool true from hM.at_ 9 (by decide) (by kernel_rfl))
                                have hg : aX.tmps.getD 178 undef = .bool true := hM.at_ 9 (by decide) (by kernel_rfl)
                                refine RegInv.op_valueW (by rfl) (RegInv.wanted_of 178 rfl rfl hg) (v := .int .i64 (b : Int)) (w' := w8) ?_ ⟨_, rfl, rfl, Below.refl _ _⟩
                                unfold execOp
                                go_simp
                              · cases hi
                                obtain ⟨A181, c181, is181, hv181, hP181⟩ : ∃ A181 c181 is181, aX.tmps.getD 181 undef = .slice A181 n c181 ∧ MarksAt w8 A181 c181 n nx (cn : Int) (-1) is181 := hM.at_ 12 (by decide) (by kernel_rfl)
                                replace hv181 := gdq _ _ _ hv181
                                have h182 := gdq _ _ _ (show aX.tmps.getD 182 undef = .int .i64 (b : Int) from hM.at_ 13 (by decide) (by kernel_rfl))
                                have h178 := gdq _ _ _ (show aX.tmps.getD 178 undef = .bool true from hM.at_ 9 (by decide) (by kernel_rfl))
                                have hg : aX.tmps.getD 178 undef = .bool true := hM.at_ 9 (by decide) (by kernel_rfl)
                                obtain ⟨x9, e9, q9⟩ := Kd.at_bool hP181.2.1 (b : Int) hb0 hbn
                                subst e9
                                rw [Int.toNat_natCast, (hP181.2.2.2 b (by omega)).2 HREACH.out] at q9
                                refine RegInv.op_valueW (by rfl) (RegInv.wanted_of 178 rfl rfl hg) (v := .pointer (some (x9.add b))) (w' := w8) ?_ ⟨_, rfl, ⟨x9.add b, rfl, q9⟩, Below.refl _ _⟩
                                unfold execOp
                                go_simp
                              · cases hi
                                obtain ⟨ad183, hv183, hP183⟩ : ∃ ad183, aX.tmps.getD 183 undef = .pointer (some ad183) ∧ w8.cell? ad183 = some (.bool true) := hM.at_ 14 (by decide) (by kernel_rfl)
                                replace hv183 := gdq _ _ _ hv183
                                have h178 := gdq _ _ _ (show aX.tmps.getD 178 undef = .bool true from hM.at_ 9 (by decide) (by kernel_rfl))
                                have hg : aX.tmps.getD 178 undef = .bool true := hM.at_ 9 (by decide) (by kernel_rfl)
                                refine RegInv.op_valueW (by rfl) (RegInv.wanted_of 178 rfl rfl hg) (v := .bool true) (w' := w8) ?_ ⟨_, rfl, rfl, Below.refl _ _⟩
                                unfold execOp
                                go_simp
                              · cases hi
                                have h184 := gdq _ _ _ (show aX.tmps.getD 184 undef = .bool true from hM.at_ 15 (by decide) (by kernel_rfl))
                                have h178 := gdq _ _ _ (show aX.tmps.getD 178 undef = .bool true from hM.at_ 9 (by decide) (by kernel_rfl))
                                have hg : aX.tmps.getD 178 undef = .bool true := hM.at_ 9 (by decide) (by kernel_rfl)
                                refine RegInv.op_valueW (by rfl) (RegInv.wanted_of 178 rfl rfl hg) (v := .bool false) (w' := w8) ?_ ⟨_, rfl, rfl, Below.refl _ _⟩
                                unfold execOp
                                go_simp
                              · cases hi
                                have h178 := gdq _ _ _ (show aX.tmps.getD 178 undef = .bool true from hM.at_ 9 (by decide) (by kernel_rfl))
                                have h185 := gdq _ _ _ (show aX.tmps.getD 185 undef = .bool false from hM.at_ 16 (by decide) (by kernel_rfl))
                                refine RegInv.op_value (by rfl) rfl (v := .bool false) (w' := w8) ?_ ⟨_, rfl, rfl, Below.refl _ _⟩
                                unfold execOp
                                go_simp
                              · exact absurd hltI (by omega)
                            case heO33 =>
                              intro vs w8 hExt hvs
                              have v0 : vs 0 = .slice (some ⟨g8, 0, none⟩) n c8 := hvs 0 (by decide)
                              have v1 : vs 1 = .int .i64 (cn : Int) := hvs 1 (by decide)
                              have v2 : vs 2 = .pointer (some ⟨g8, cn, none⟩) := hvs 2 (by decide)
                              have v3 : vs 3 = .int .i64 pc := hvs 3 (by decide)
                              have v4 : vs 4 = .slice (some ⟨g8, 0, none⟩) n c8 := hvs 4 (by decide)
                              have v5 : vs 5 = .int .i64 (b : Int) := hvs 5 (by decide)
                              have v6 : vs 6 = .pointer (some ⟨g8, b, none⟩) := hvs 6 (by decide)
                              have v7 : vs 7 = .int .i64 pb := hvs 7 (by decide)
                              have v8 : vs 8 = .bool true := hvs 8 (by decide)
                              have v9 : vs 9 = .bool true := hvs 9 (by decide)
                              have v10 : vs 10 = .agg #[.slice (some r0) n d0, .slice (some r1) n d1, .slice (some r2) n d2, .slice (some r3) n d3, .slice a4 m d4] := hvs 10 (by decide)
                              have v11 : vs 11 = .int .i64 (cn : Int) := hvs 11 (by decide)
                              obtain ⟨A12, c12, is12, v12, hP12⟩ : ∃ A c is, vs 12 = .slice A n c ∧ MarksAt w8 A c n nx (cn : Int) (-1) is := hvs 12 (by decide)
                              have v13 : vs 13 = .int .i64 (b : Int) := hvs 13 (by decide)
                              obtain ⟨ad14, v14, hP14⟩ : ∃ ad, vs 14 = .pointer (some ad) ∧ w8.cell? ad = some (.bool true) := hvs 14 (by decide)
                              have v15 : vs 15 = .bool true := hvs 15 (by decide)
                              have v16 : vs 16 = .bool false := hvs 16 (by decide)
                              have v17 : vs 17 = .bool false := hvs 17 (by decide)
                              simp only [RegInv.puts, dO33, Act.put, List.range, List.range.loop, List.setIfInBounds_toArray, List.set_cons_zero, List.set_cons_succ, v0, v1, v2, v3, v4, v5, v6, v7, v8, v9, v10, v11, v12, v13, v14, v15, v16, v17]
                              clear hvs v0 v1 v2 v3 v4 v5 v6 v7 v8 v9 v10 v11 v12 v13 v14 v15 v16 v17
                              go_wp2_with (fail)
                              go_meet
                              case rel => exact ⟨rfl, hExt⟩
                          · have z1 : decide ((pcv : Int) ≤ (pbv : Int)) = false := decide_eq_false (by omega)
                            have z1' : decide (pcv ≤ pbv) = false := decide_eq_false hle
                            clear hle
                            go_big_quiet (fail)
                            go_wp2_with (fail)
                            go_meet
                            case rel => exact ⟨rfl, pw_below_drewN (Below.refl _ _) _⟩
                        case rest =>
                          obtain ⟨rfl, hbc⟩ := hcut
                          have HBWc := Aside0.mk (HBW.out.trans (hbc.mono HBW.out.size))
                          clear hbc HBW HBS HV HP q4' q5'
                          go_wp2_with (fail)
                          go_roundw
                          case measure => simp [intOf]; omega
                          case rel => exact ⟨k + 1, HKL.out, by first | rfl | go_num, HBWc.out⟩
                      · have hkr : (row.length : Int) ≤ (k : Int) := by omega
                        clear hk hkl hB hC9
                        go_wp2_with (fail)
                        go_roundw
                        case measure => simp [intOf]; omega
                        case rel => exact ⟨b + 1, HBN.out, by first | rfl | go_num, HBW.out⟩
              · have hbn : (n : Int) ≤ (b : Int) := by omega
                clear hb hbl hB
                go_wp2_with (fail)
                go_ret
                exact ⟨rfl, HBS.out.below⟩

  · refine (flow_no nm pa lo A3 A4 c3 c4 code hs W0 (Kd.C_below HC.out HB0.out) HC3.out (Kd.C_below HH.out HB0.out) HC4.out hfit (by have := HN.out; omega) (by have := HHN.out; omega)).mono ?_
    rintro e w1 ⟨rfl, hb1⟩
    have HB1 := Aside0.mk (HB0.out.trans (hb1.mono HB0.out.size))
    clear hb1 f0 f1 f2 f3 f4 HFB HB0
    go_wp2_with (fail)
    go_ret
    exact ⟨rfl, below_alloc HB1.out _⟩
end Go.Proofs.Ytmeaepmimnmjlaa.Ask
