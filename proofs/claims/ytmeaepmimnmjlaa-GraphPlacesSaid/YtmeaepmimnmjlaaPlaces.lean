/- GraphPlaces: the law's walk: every place in its block, every start for a reason. -/
import Derived.Test.YtmeaepmimnmjlaaPartsP
import Derived.Test.YtmeaepmimnmjlaaKf
namespace Go.Proofs.Ytmeaepmimnmjlaa.Ask
open Go.Proofs.Ytmeaepmimnmjlaa.Dfs Go.Proofs.Ytmeaepmimnmjlaa.Dom Go.Proofs.Ytmeaepmimnmjlaa.DomT Go.RowKit Go.Shelf Go.Proofs.Ytmeaepmimnmjlaa.PGb Go.Proofs.Ytmeaepmimnmjlaa.Lit Go.Proofs.Ytmeaepmimnmjlaa.OwnCells Go.Proofs.YtmeaepmimnmjlaaW.PrintWords Go.Proofs.YtmeaepmimnmjlaaW.PrintLast Go.Proofs.YtmeaepmimnmjlaaW.PrintMore
attribute [local go_sem] Oper.semAt_some
attribute [local go_sem] run_store_fn
attribute [local go_sem] run_eql_fn
set_option linter.unusedVariables false
set_option linter.unusedSimpArgs false
theorem quiet_dr {P : Program} {f : FuncId} {args : Array Value} {w : World} {n : Nat} {v : Value} (h : Calls P f args (w.drewN n) fun e w' => e = .returned v ∧ Drawn0 (w.drewN n) w') : Calls P f args (w.drewN n) fun e w'' => e = .returned v ∧ ∃ m, w'' = w.drewN m := Calls.quiet_of (h.mono fun _ _ h => ⟨h.1, h.2.out⟩)
set_option maxRecDepth 100000 in
set_option maxHeartbeats 16000000 in
theorem portagelaw09_GraphPlaces.calls (nm : ByteArray) (pa lo : Int) (A3 : Option Addr) (c3 : Nat) (code : List S40) (A4 : Option Addr) (c4 : Nat) (hs : List S49) (r : Bool) (w : World) (hC : k40.C w A3 code.length code) (hc3 : code.length ≤ c3) (hH : k49.C w A4 hs.length hs) (hc4 : hs.length ≤ c4) (h : (code.length * 16 ≤ 140737488351232 ∧ hs.length * 32 ≤ 140737488351232) ∧ r = true) :
    Calls Try.prog 5 #[.agg #[.string nm, .int .i64 pa, .int .i64 lo, .slice A3 code.length c3, .slice A4 hs.length c4]] w fun e w' => e = .returned (.bool r) ∧ Below w.heap.size w w' := by
  obtain ⟨⟨hn0, hh0⟩, rfl⟩ := h
  have hn : code.length ≤ 8796093022207 := by omega
  have hh : hs.length ≤ 8796093022208 := by omega
  have HC := Aside0.mk hC
  have HH := Aside0.mk hH
  have HC3 := Aside0.mk hc3
  have HC4 := Aside0.mk hc4
  have HN := Aside0.mk hn
  have HHN := Aside0.mk hh
  clear hC hH hc3 hc4 hn hh hn0 hh0
  have hu25 := Try.underlying25
  have hu29 := Try.underlying29
  have hu40 := Try.underlying40
  have hu49 := Try.underlying49
  go_enter Try.func5, Try.ntmps5
  go_upto_region 1 with (fail)
  obtain ⟨W0, hW0⟩ : ∃ W0, w.alloc (.cells #[.string nm, .int .i64 pa, .int .i64 lo, .slice A3 code.length c3, .slice A4 hs.length c4] 25) = W0 := ⟨_, rfl⟩
  have hb0 : Below w.heap.size w W0 := by rw [← hW0]; exact below_alloc (Below.refl _ _) _
  have hfb0 : W0.heap[w.heap.size]? = some (.cells #[.string nm, .int .i64 pa, .int .i64 lo, .slice A3 code.length c3, .slice A4 hs.length c4] 25 (0, 0)) := by
    rw [← hW0]; exact World.alloc_heap_new w _
  rw [hW0]
  clear hW0
  have f0 := cell_blk hfb0 (i := 0) rfl
  have f1 := cell_blk hfb0 (i := 1) rfl
  have f2 := cell_blk hfb0 (i := 2) rfl
  have f3 := cell_blk hfb0 (i := 3) rfl
  have f4 := cell_blk hfb0 (i := 4) rfl
  have HFB := Aside0.mk hfb0
  have HB0 := Aside0.mk hb0
  clear hfb0 hb0
  go_wp2_with (fail)
  by_cases hfit : FitsP code hs
  · refine (flow_yes nm pa lo A3 A4 c3 c4 code hs W0 (Kd.C_below HC.out HB0.out) HC3.out (Kd.C_below HH.out HB0.out) HC4.out hfit HN.out HHN.out).mono ?_
    rintro e w1 ⟨a0, a1, a2, a3, a4, d0, d1, d2, d3, d4, n, m, st, nx, ord, l, hd, rfl, gv, gf, hb1⟩
    have hfb1 := blk_below HFB.out hb1
    have HB1 := Aside0.mk (HB0.out.trans (hb1.mono HB0.out.size))
    have HG := Aside0.mk gf
    have HV1 := Aside0.mk gv
    have HF := Aside0.mk hfit
    have HFB1 := Aside0.mk hfb1
    clear hb1 hfb1 gf gv hfit f0 f1 f2 f3 f4 HFB HB0
    go_upto_region 2 with (fail)
    obtain ⟨GB, hGB⟩ : ∃ GB, w1.heap.size = GB := ⟨_, rfl⟩
    obtain ⟨cf, hcf⟩ : ∃ cf, #[Value.string nm, .int .i64 pa, .int .i64 lo, .slice A3 code.length c3, .slice A4 hs.length c4] = cf := ⟨_, rfl⟩
    obtain ⟨gc, hgc⟩ : ∃ gc, #[Value.slice a0 n d0, .slice a1 n d1, .slice a2 n d2, .slice a3 n d3, .slice a4 m d4] = gc := ⟨_, rfl⟩
    have hb2 : Below w1.heap.size w1 (w1.alloc (.cells gc 29)) := below_alloc (Below.refl _ _) _
    have HBS : Aside0 (LB w (w1.alloc (.cells gc 29)) GB cf gc) := ⟨⟨hcf ▸ blk_below HFB1.out hb2, hGB ▸ World.alloc_heap_new w1 _, HB1.out.trans (hb2.mono HB1.out.size)⟩⟩
    have HV := Aside0.mk (HV1.out.below hb2)
    rw [hgc, hGB]
    have kf0 : cf[0]? = some (.string nm) := by rw [← hcf]; rfl
    have kf1 : cf[1]? = some (.int .i64 pa) := by rw [← hcf]; rfl
    have kf2 : cf[2]? = some (.int .i64 lo) := by rw [← hcf]; rfl
    have kf3 : cf[3]? = some (.slice A3 code.length c3) := by rw [← hcf]; rfl
    have kf4 : cf[4]? = some (.slice A4 hs.length c4) := by rw [← hcf]; rfl
    have kg0 : gc[0]? = some (.slice a0 n d0) := by rw [← hgc]; rfl
    have kg1 : gc[1]? = some (.slice a1 n d1) := by rw [← hgc]; rfl
    have kg2 : gc[2]? = some (.slice a2 n d2) := by rw [← hgc]; rfl
    have kg3 : gc[3]? = some (.slice a3 n d3) := by rw [← hgc]; rfl
    have kg4 : gc[4]? = some (.slice a4 m d4) := by rw [← hgc]; rfl
    have HKG := Aside0.mk (And.intro kg0 (And.intro kg1 (And.intro kg2 (And.intro kg3 kg4))))
    have HKF := Aside0.mk (And.intro kf0 (And.intro kf1 (And.intro kf2 (And.intro kf3 kf4))))
    clear kf0 kf1 kf2 kf3 kf4 kg0 kg1 kg2 kg3 kg4
    revert HBS HV
    generalize w1.alloc (.cells gc 29) = W2
    intro HBS HV
    have hp := HG.out.pos
    have HGC := Aside0.mk hgc
    have HCF := Aside0.mk hcf
    clear hb2 hGB hcf hgc HFB1 HB1 HV1
    obtain ⟨r0, rfl, _⟩ := Kd.at_int HV.out.r0 0 (by omega) (by omega)
    obtain ⟨r1, _, _, rfl, _⟩ := at_L3 HV.out.r1 0 (by omega) (by omega)
    obtain ⟨r2, rfl, _⟩ := Kd.at_int HV.out.r2 0 (by omega) (by omega)
    obtain ⟨r3, rfl, _⟩ := Kd.at_int HV.out.r3 0 (by omega) (by omega)
    have hcp := HF.out.pos
    obtain ⟨ac, rfl, _⟩ := at_T40 HC.out 0 (by omega) (by omega)
    clear hcp
    go_wp2_with (fail)
    go_loopw [6] (fun i wr => ∃ b : Nat, b ≤ n ∧ i = .int .i64 (b : Int) ∧ LB w wr GB cf gc ∧ GV wr (some r0) (some r1) (some r2) (some r3) a4 d0 d1 d2 d3 d4 n m st nx ord l hd) (fun i _ => ((n : Int) - intOf i).toNat)
    case atStart => exact ⟨0, Nat.zero_le _, rfl, HBS.out, HV.out⟩
    case round =>
      clear HBS HV
      obtain ⟨b, hb, rfl, hBS, hV⟩ := hrel
      have HBS := Aside0.mk hBS
      have HV := Aside0.mk hV
      have g0 := cell_blk hBS.gb HKG.out.1
      by_cases hlt : b < n
      · have hbn : (b : Int) < (n : Int) := by omega
        have hb0 : (0 : Int) ≤ (b : Int) := by omega
        have HBN := Aside0.mk hlt
        obtain ⟨x, e0, q0⟩ := Kd.at_int hV.r0 (b : Int) hb0 hbn
        cases e0
        rw [Int.toNat_natCast] at q0
        have hin := HG.out.st_in hlt
        have hen := HG.out.end_in hlt
        obtain ⟨s, hs⟩ : ∃ s : Nat, rd st (b : Int) = (s : Int) := ⟨(rd st (b : Int)).toNat, by omega⟩
        obtain ⟨ee, hee⟩ : ∃ ee : Nat, endOf code st b = (ee : Int) := ⟨(endOf code st b).toNat, by omega⟩
        rw [hs] at q0 hin
        rw [hs, hee] at hen
        have HS := Aside0.mk hs
        have HE := Aside0.mk hee
        have HIN := Aside0.mk hin
        have HEN := Aside0.mk hen
        clear hs hee hin hen hb hlt hBS hV
        go_upto_region 8 with (fail)
        skip
        go_loopw [7] (fun i wr => ∃ p : Nat, s ≤ p ∧ p ≤ ee ∧ i = .int .i64 (p : Int) ∧ LB w wr GB cf gc ∧ GV wr (some r0) (some r1) (some r2) (some r3) a4 d0 d1 d2 d3 d4 n m st nx ord l hd) (fun i _ => ((ee : Int) - intOf i).toNat)
        case atStart => exact ⟨s, Nat.le_refl _, by have := HEN.out; omega, rfl, HBS.out, HV.out⟩
        case round =>
          clear HBS HV q0 g0
          obtain ⟨p, hp0, hp1, rfl, hBS, hV⟩ := hrel
          have HBS := Aside0.mk hBS
          have HV := Aside0.mk hV
          have HP := Aside0.mk (And.intro hp0 hp1)
          have f0 := cell_blk HBS.out.fb HKF.out.1
          have f1 := cell_blk HBS.out.fb HKF.out.2.1
          have f2 := cell_blk HBS.out.fb HKF.out.2.2.1
          have f3 := cell_blk HBS.out.fb HKF.out.2.2.2.1
          have f4 := cell_blk HBS.out.fb HKF.out.2.2.2.2
          have g0 := cell_blk HBS.out.gb HKG.out.1
          have g1 := cell_blk HBS.out.gb HKG.out.2.1
          have g2 := cell_blk HBS.out.gb HKG.out.2.2.1
          have g3 := cell_blk HBS.out.gb HKG.out.2.2.2.1
          have g4 := cell_blk HBS.out.gb HKG.out.2.2.2.2
          clear hBS hV hp0 hp1
          go_wp2_with (fail)
          have hend := end_own HG.out HV.out HN.out (nm := nm) (pa := pa) (lo := lo) (Kd.C_below HC.out HBS.out.below) HC3.out (Kd.C_below HH.out HBS.out.below) HC4.out HBN.out
          rw [HE.out] at hend
          refine hend.mono ?_
          rintro e w3 ⟨rfl, hb3⟩
          have HBS3 := Aside0.mk (HBS.out.from_ hb3)
          have HV3 := Aside0.mk (HV.out.below hb3)
          clear hend hb3 HBS HV f0 f1 f2 f3 f4 g0 g1 g2 g3 g4
          by_cases hpe : p < ee
          · have hpe' : (p : Int) < (ee : Int) := by omega
            have HPE := Aside0.mk hpe
            have g0 := cell_blk HBS3.out.gb HKG.out.1
            have g1 := cell_blk HBS3.out.gb HKG.out.2.1
            have g2 := cell_blk HBS3.out.gb HKG.out.2.2.1
            have g3 := cell_blk HBS3.out.gb HKG.out.2.2.2.1
            have g4 := cell_blk HBS3.out.gb HKG.out.2.2.2.2
            clear hpe
            go_wp2_with (fail)
            have hblk := block_calls (some r0) (some r1) (some r2) (some r3) a4 d0 d1 d2 d3 d4 n n n m st (p : Int) w3 (HG.out.ln.symm ▸ HV3.out.r0) (by rw [HG.out.ln]; have := HN.out; have := HG.out.short; omega)
            rw [HG.out.block_of HBN.out (by rw [HS.out]; have := HP.out; omega) (by rw [HE.out]; exact hpe'), HG.out.ln] at hblk
            refine hblk.mono ?_
            rintro e w4 ⟨rfl, hb4⟩
            have HBS4 := Aside0.mk (HBS3.out.from_ hb4)
            have HV4 := Aside0.mk (HV3.out.below hb4)
            have hpc : (p : Int) < (code.length : Int) := by have := HEN.out; omega
            have hp0 : (0 : Int) ≤ (p : Int) := by omega
            obtain ⟨x, e0, h0, h1⟩ := at_T40 (Kd.C_below HC.out HBS4.out.below) (p : Int) hp0 hpc
            cases e0
            rw [Int.toNat_natCast] at h0 h1
            have f3 := cell_blk HBS4.out.fb HKF.out.2.2.2.1
            have hlast := HG.out.parts_last (p := p) HBN.out (by rw [HS.out]; have := HP.out; omega) (by rw [HE.out]; exact hpe')
            rw [HE.out] at hlast
            obtain ⟨i, hi⟩ : ∃ i, rd_T40 code (p : Int) = i := ⟨_, rfl⟩
            rw [hi] at h0 h1 hlast
            have HLAST := Aside0.mk hlast
            clear hlast hblk hb4 HBS3 HV3 g0 g1 g2 g3 g4
            go_wp2_with (fail)
            refine (portagelaw09_parts.calls _ _ _ (lparts_f _)).mono ?_
            rintro e w9 ⟨rfl, hd9⟩
            have HBS9 := Aside0.mk (HBS4.out.from_ hd9.below)
            have HV9 := Aside0.mk (HV4.out.below hd9.below)
            obtain ⟨pb, hpb⟩ : ∃ pb, partsP i.f0 = pb := ⟨_, rfl⟩
            rw [hpb]
            have HPB := Aside0.mk hpb
            have hpm : p < 9223372036854775807 := by have := HN.out; omega
            clear hd9 hpb HBS4 HV4 f3 h0 h1 hi
            cases pb with
            | false =>
              go_wp2_with (fail)
              go_roundw
              case measure => simp [intOf]; omega
              case rel => exact ⟨p + 1, by have := HP.out; omega, HPE.out, by first | rfl | go_num, HBS9.out, HV9.out⟩
            | true =>
              have hnl := HLAST.out HPB.out
              have f0 := cell_blk HBS9.out.fb HKF.out.1
              have f1 := cell_blk HBS9.out.fb HKF.out.2.1
              have f2 := cell_blk HBS9.out.fb HKF.out.2.2.1
              have f3 := cell_blk HBS9.out.fb HKF.out.2.2.2.1
              have f4 := cell_blk HBS9.out.fb HKF.out.2.2.2.2
              have g0 := cell_blk HBS9.out.gb HKG.out.1
              have g1 := cell_blk HBS9.out.gb HKG.out.2.1
              have g2 := cell_blk HBS9.out.gb HKG.out.2.2.1
              have g3 := cell_blk HBS9.out.gb HKG.out.2.2.2.1
              have g4 := cell_blk HBS9.out.gb HKG.out.2.2.2.2
              go_wp2_with (fail)
              have hend := end_own HG.out HV9.out HN.out (nm := nm) (pa := pa) (lo := lo) (Kd.C_below HC.out HBS9.out.below) HC3.out (Kd.C_below HH.out HBS9.out.below) HC4.out HBN.out
              rw [HE.out] at hend
              refine hend.mono ?_
              rintro e w5 ⟨rfl, hb5⟩
              have HBS5 := Aside0.mk (HBS9.out.from_ hb5)
              have HV5 := Aside0.mk (HV9.out.below hb5)
              have t1 : decide ((p : Int) + 1 < (ee : Int)) = false := decide_eq_false (by omega)
              have t2 : decide (p + 1 < ee) = false := decide_eq_false (by omega)
              clear hend hb5 HBS9 HV9 f0 f1 f2 f3 f4 g0 g1 g2 g3 g4 hnl
              go_wp2_with (fail)
              go_roundw
              case measure => simp [intOf]; omega
              case rel => exact ⟨p + 1, by have := HP.out; omega, HPE.out, by first | rfl | go_num, HBS5.out, HV5.out⟩
          · have hpe' : (ee : Int) ≤ (p : Int) := by omega
            obtain ⟨x, e0, q0⟩ := Kd.at_int HV3.out.r0 (b : Int) hb0 hbn
            cases e0
            rw [Int.toNat_natCast, HS.out] at q0
            have g0 := cell_blk HBS3.out.gb HKG.out.1
            clear hpe
            go_upto_region 13 with (fail)
            go_cut [9] (fun v9 wc => ∃ wb : Bool, v9 = .bool wb ∧ (R0 code (s : Int) → wb = true) ∧ LB w wc GB cf gc ∧ GV wc (some r0) (some r1) (some r2) (some r3) a4 d0 d1 d2 d3 d4 n m st nx ord l hd)
            case first =>
              by_cases hs0 : s = 0
              · subst hs0
                clear q0 g0
                go_wp2_with (fail)
                go_meet
                case rel => exact ⟨true, rfl, fun _ => rfl, HBS3.out, HV3.out⟩
              · obtain ⟨s', hs'⟩ : ∃ s' : Nat, s = s' + 1 := ⟨s - 1, by omega⟩
                have t1 : ((s : Int) == 0) = false := by simp; omega
                have t1' : (s == 0) = false := by simp; omega
                have z2 : IntKind.i64.wrap ((s : Int) - 1) = (s' : Int) := by rw [i64_w]; have := HN.out; have := HIN.out; unfold wrap64; omega
                have hp0 : (0 : Int) ≤ (s' : Int) := by omega
                have hpc : (s' : Int) < (code.length : Int) := by have := HIN.out; omega
                obtain ⟨x, e0, h0, h1⟩ := at_T40 (Kd.C_below HC.out HBS3.out.below) (s' : Int) hp0 hpc
                cases e0
                rw [Int.toNat_natCast] at h0 h1
                have f3 := cell_blk HBS3.out.fb HKF.out.2.2.2.1
                obtain ⟨i, hi⟩ : ∃ i, rd_T40 code (s' : Int) = i := ⟨_, rfl⟩
                rw [hi] at h0 h1
                have HR0 : Aside0 (R0 code (s : Int) → partsP i.f0 = true) := ⟨by
                  rintro (h | ⟨q, i', hq, hp, h⟩)
                  · omega
                  · have : q = s' := by omega
                    subst this
                    rw [get40 (by omega), hi] at hq
                    cases hq
                    exact hp⟩
                clear hs' hs0 q0 g0 hi
                go_wp2_with (fail)
                refine (portagelaw09_parts.calls _ _ _ (lparts_f _)).mono ?_
                rintro e w9 ⟨rfl, hd9⟩
                have HBS9 := Aside0.mk (HBS3.out.from_ hd9.below)
                have HV9 := Aside0.mk (HV3.out.below hd9.below)
                clear hd9
                go_wp2_with (fail)
                go_meet
                case rel => exact ⟨_, rfl, HR0.out, HBS9.out, HV9.out⟩
            case rest =>
              obtain ⟨wb, rfl, hwb, hBS, hV⟩ := hcut
              have HWB := Aside0.mk hwb
              have HBS := Aside0.mk hBS
              have HV := Aside0.mk hV
              clear hwb hBS hV HBS3 HV3 q0 g0
              go_wp2_with (fail)
              go_loopw [9, 10] (fun v i wr => ∃ (k : Nat) (wb : Bool), k ≤ code.length ∧ v = .bool wb ∧ i = .int .i64 (k : Int) ∧ ((R0 code (s : Int) ∨ RJ code k (s : Int)) → wb = true) ∧ LB w wr GB cf gc ∧ GV wr (some r0) (some r1) (some r2) (some r3) a4 d0 d1 d2 d3 d4 n m st nx ord l hd) (fun _ i _ => ((code.length : Int) - intOf i).toNat)
              case atStart =>
                refine ⟨0, wb, Nat.zero_le _, rfl, rfl, ?_, HBS.out, HV.out⟩
                rintro (h | ⟨q, i, hq, _⟩)
                · exact HWB.out h
                · omega
              case round =>
                clear HBS HV HWB
                obtain ⟨k, wb, hk, rfl, rfl, hwb, hBS, hV⟩ := hrel
                have HBS := Aside0.mk hBS
                have HV := Aside0.mk hV
                have HWB := Aside0.mk hwb
                have f3 := cell_blk hBS.fb HKF.out.2.2.2.1
                by_cases hkc : k < code.length
                · have hkc' : (k : Int) < (code.length : Int) := by omega
                  have hk0 : (0 : Int) ≤ (k : Int) := by omega
                  have HKC := Aside0.mk hkc
                  have hkm : k < 9223372036854775807 := by have := HN.out; omega
                  obtain ⟨x, e0, h0, h1⟩ := at_T40 (Kd.C_below HC.out hBS.below) (k : Int) hk0 hkc'
                  cases e0
                  rw [Int.toNat_natCast] at h0 h1
                  have hst := RJ_step hkc (s : Int)
                  obtain ⟨i, hi⟩ : ∃ i, rd_T40 code (k : Int) = i := ⟨_, rfl⟩
                  rw [hi] at h0 h1 hst
                  have HST := Aside0.mk hst
                  clear hst hi hk hkc hwb hBS hV
                  cases wb with
                  | true =>
                    clear h0 h1
                    go_wp2_with (fail)
                    go_roundw
                    case measure => simp [intOf]; omega
                    case rel => exact ⟨k + 1, true, HKC.out, rfl, by first | rfl | go_num, fun _ => rfl, HBS.out, HV.out⟩
                  | false =>
                    go_wp2_with (fail)
                    refine (portagelaw09_jumps.calls _ _ _ (ljumps_f _)).mono ?_
                    rintro e w9 ⟨rfl, hd9⟩
                    have HBS9 := Aside0.mk (HBS.out.from_ hd9.below)
                    have HV9 := Aside0.mk (HV.out.below hd9.below)
                    obtain ⟨d9, rfl⟩ := hd9.out
                    obtain ⟨jb, hjb⟩ : ∃ jb, jumpsP i.f0 = jb := ⟨_, rfl⟩
                    rw [hjb]
                    have HJB := Aside0.mk hjb
                    clear hd9 hjb HBS HV
                    cases jb with
                    | false =>
                      clear h0 h1
                      go_wp2_with (fail)
                      go_roundw
                      case measure => simp [intOf]; omega
                      case rel =>
                        refine ⟨k + 1, false, HKC.out, rfl, by first | rfl | go_num, ?_, HBS9.out, HV9.out⟩
                        rintro (h | h)
                        · exact HWB.out (.inl h)
                        · rcases HST.out.1 h with h | h
                          · exact HWB.out (.inr h)
                          · rw [HJB.out] at h; exact absurd h.1 (by decide)
                    | true =>
                      by_cases hes : i.f1 = (s : Int)
                      · have t1 : (i.f1 == (s : Int)) = true := by simpa using hes
                        have HES := Aside0.mk hes
                        clear hes
                        go_wp2_with (fail)
                        go_roundw
                        case measure => simp [intOf]; omega
                        case rel => exact ⟨k + 1, true, HKC.out, rfl, by first | rfl | go_num, fun _ => rfl, HBS9.out, HV9.out⟩
                      · have t1 : (i.f1 == (s : Int)) = false := by simpa using hes
                        have HES := Aside0.mk hes
                        clear hes
                        go_wp2_with (fail)
                        go_roundw
                        case measure => simp [intOf]; omega
                        case rel =>
                          refine ⟨k + 1, false, HKC.out, rfl, by first | rfl | go_num, ?_, HBS9.out, HV9.out⟩
                          rintro (h | h)
                          · exact HWB.out (.inl h)
                          · rcases HST.out.1 h with h | h
                            · exact HWB.out (.inr h)
                            · exact absurd h.2 HES.out
                · have hkc' : (code.length : Int) ≤ (k : Int) := by omega
                  have hkk : k = code.length := by omega
                  subst hkk
                  clear hk hkc hBS hV hwb
                  go_wp2_with (fail)
                  go_loopw [9, 11] (fun v i wr => ∃ (k : Nat) (wb : Bool), k ≤ hs.length ∧ v = .bool wb ∧ i = .int .i64 (k : Int) ∧ (((R0 code (s : Int) ∨ RJ code code.length (s : Int)) ∨ RH hs k (s : Int)) → wb = true) ∧ LB w wr GB cf gc ∧ GV wr (some r0) (some r1) (some r2) (some r3) a4 d0 d1 d2 d3 d4 n m st nx ord l hd) (fun _ i _ => ((hs.length : Int) - intOf i).toNat)
                  case atStart =>
                    refine ⟨0, wb, Nat.zero_le _, rfl, rfl, ?_, HBS.out, HV.out⟩
                    rintro (h | ⟨q, i, hq, _⟩)
                    · exact HWB.out h
                    · omega
                  case round =>
                    clear HBS HV HWB f3 hkc'
                    obtain ⟨k, wb, hk, rfl, rfl, hwb, hBS, hV⟩ := hrel
                    have HBS := Aside0.mk hBS
                    have HV := Aside0.mk hV
                    have HWB := Aside0.mk hwb
                    have f4 := cell_blk hBS.fb HKF.out.2.2.2.2
                    by_cases hkc : k < hs.length
                    · have hkc' : (k : Int) < (hs.length : Int) := by omega
                      have hk0 : (0 : Int) ≤ (k : Int) := by omega
                      have HKC := Aside0.mk hkc
                      have hkm : k < 9223372036854775807 := by have := HHN.out; omega
                      obtain ⟨x, e0, h0, h1, h2, h3⟩ := at_T49 (Kd.C_below HH.out hBS.below) (k : Int) hk0 hkc'
                      subst e0
                      rw [Int.toNat_natCast] at h0 h1 h2 h3
                      have hst := RH_step hkc (s : Int)
                      obtain ⟨i, hi⟩ : ∃ i, rd_T49 hs (k : Int) = i := ⟨_, rfl⟩
                      rw [hi] at h0 h1 h2 h3 hst
                      have HST := Aside0.mk hst
                      clear hst hi hk hkc hwb hBS hV h0 h1 h3
                      cases wb with
                      | true =>
                        clear h2
                        go_wp2_with (fail)
                        go_roundw
                        case measure => simp [intOf]; omega
                        case rel => exact ⟨k + 1, true, HKC.out, rfl, by first | rfl | go_num, fun _ => rfl, HBS.out, HV.out⟩
                      | false =>
                        by_cases hes : i.f2 = (s : Int)
                        · have t1 : (i.f2 == (s : Int)) = true := by simpa using hes
                          have HES := Aside0.mk hes
                          clear hes
                          go_wp2_with (fail)
                          go_roundw
                          case measure => simp [intOf]; omega
                          case rel => exact ⟨k + 1, true, HKC.out, rfl, by first | rfl | go_num, fun _ => rfl, HBS.out, HV.out⟩
                        · have t1 : (i.f2 == (s : Int)) = false := by simpa using hes
                          have HES := Aside0.mk hes
                          clear hes
                          go_wp2_with (fail)
                          go_roundw
                          case measure => simp [intOf]; omega
                          case rel =>
                            refine ⟨k + 1, false, HKC.out, rfl, by first | rfl | go_num, ?_, HBS.out, HV.out⟩
                            rintro (h | h)
                            · exact HWB.out (.inl h)
                            · rcases HST.out.1 h with h | h
                              · exact HWB.out (.inr h)
                              · exact absurd h HES.out
                    · have hkc' : (hs.length : Int) ≤ (k : Int) := by omega
                      have hkk : k = hs.length := by omega
                      subst hkk
                      have hwt : wb = true := hwb (by rw [← HS.out]; exact HG.out.reason HBN.out)
                      subst hwt
                      have hbm : b < 9223372036854775807 := by have := HN.out; have := HG.out.short; have := HBN.out; omega
                      clear hk hkc hBS hV hwb HWB
                      go_wp2_with (fail)
                      go_roundw
                      case measure => simp [intOf]; omega
                      case rel => exact ⟨b + 1, HBN.out, by first | rfl | go_num, HBS.out, HV.out⟩
      · have hbn : (n : Int) ≤ (b : Int) := by omega
        clear hb hBS hV hlt
        go_wp2_with (fail)
        (try rw [show decide (b < n) = false from decide_eq_false (by omega)])
        go_loopw [12] (fun i wr => ∃ k : Nat, k ≤ code.length ∧ i = .int .i64 (k : Int) ∧ LB w wr GB cf gc ∧ GV wr (some r0) (some r1) (some r2) (some r3) a4 d0 d1 d2 d3 d4 n m st nx ord l hd) (fun i _ => ((code.length : Int) - intOf i).toNat)
        case atStart => exact ⟨0, Nat.zero_le _, rfl, HBS.out, HV.out⟩
        case round =>
          clear HBS HV g0 hbn
          obtain ⟨k, hk, rfl, hBS, hV⟩ := hrel
          have HBS := Aside0.mk hBS
          have HV := Aside0.mk hV
          have f3 := cell_blk hBS.fb HKF.out.2.2.2.1
          by_cases hkc : k < code.length
          · have hkc' : (k : Int) < (code.length : Int) := by omega
            have hk0 : (0 : Int) ≤ (k : Int) := by omega
            have HKC := Aside0.mk hkc
            have hkm : k < 9223372036854775807 := by have := HN.out; omega
            obtain ⟨x, e0, h0, h1⟩ := at_T40 (Kd.C_below HC.out hBS.below) (k : Int) hk0 hkc'
            cases e0
            rw [Int.toNat_natCast] at h0 h1
            have hmem := List.mem_of_getElem? (get40 hkc)
            obtain ⟨i, hi⟩ : ∃ i, rd_T40 code (k : Int) = i := ⟨_, rfl⟩
            rw [hi] at h0 h1 hmem
            have g0 := cell_blk hBS.gb HKG.out.1
            obtain ⟨jb, hjb⟩ : ∃ jb, jumpsP i.f0 = jb := ⟨_, rfl⟩
            have hjf : portagelaw09_jumps.f i.f0 = some jb := by rw [ljumps_f, hjb]
            have hin : jb = true → ∀ nq, Calls Try.prog 24 #[.slice (some r0) n d0, .int .i64 i.f1] (wr.drewN nq) fun e w' => e = .returned (.bool true) ∧ Drawn0 (wr.drewN nq) w' := fun h nq => by
              have := in_own (c := d0) (A := some r0) (l := st) (W := wr.drewN nq) i.f1 (HG.out.ln.symm ▸ (hV.below (pw_below_drewN (Below.refl _ _) nq)).r0) (by rw [HG.out.ln]; exact hV.k0) (by rw [HG.out.ln]; have := HN.out; have := HG.out.short; omega)
              rw [HG.out.ln, decide_eq_true (HG.out.jump_in hmem (hjb.trans h))] at this
              exact this
            have HJF := Aside0.mk hjf
            have HIN := Aside0.mk hin
            clear hjf hin hjb hmem hi hk hkc hBS hV
            go_upto_region 27 with (fail)
            go_cut [159] (fun v159 wc => v159 = .bool false ∧ LB w wc GB cf gc ∧ GV wc (some r0) (some r1) (some r2) (some r3) a4 d0 d1 d2 d3 d4 n m st nx ord l hd)
            case first =>
              cases jb with
              | false =>
                go_big_quiet (first | (go_at_call 23; exact quiet_dr (portagelaw09_jumps.calls _ _ _ HJF.out)))
                go_wp2_with (fail)
                go_meet
                case rel => exact ⟨rfl, HBS.out.from_ (pw_below_drewN (Below.refl _ _) _), HV.out.below (pw_below_drewN (Below.refl _ _) _)⟩
              | true =>
                go_big_quiet (first | (go_at_call 23; exact quiet_dr (portagelaw09_jumps.calls _ _ _ HJF.out)) | (go_at_call 24; exact quiet_dr (HIN.out rfl _)))
                go_wp2_with (fail)
                go_meet
                case rel => exact ⟨rfl, HBS.out.from_ (pw_below_drewN (Below.refl _ _) _), HV.out.below (pw_below_drewN (Below.refl _ _) _)⟩
            case rest =>
              obtain ⟨rfl, hBS, hV⟩ := hcut
              have HBS := Aside0.mk hBS
              have HV := Aside0.mk hV
              clear hBS hV h0 h1 g0 f3 HIN HJF
              go_wp2_with (fail)
              go_roundw
              case measure => simp [intOf]; omega
              case rel => exact ⟨k + 1, HKC.out, by first | rfl | go_num, HBS.out, HV.out⟩
          · have hkc' : (code.length : Int) ≤ (k : Int) := by omega
            clear hk hkc hBS hV
            go_wp2_with (fail)
            (try rw [show decide (k < code.length) = false from decide_eq_false (by omega)])
            go_loopw [13] (fun i wr => ∃ k : Nat, k ≤ hs.length ∧ i = .int .i64 (k : Int) ∧ LB w wr GB cf gc ∧ GV wr (some r0) (some r1) (some r2) (some r3) a4 d0 d1 d2 d3 d4 n m st nx ord l hd) (fun i _ => ((hs.length : Int) - intOf i).toNat)
            case atStart => exact ⟨0, Nat.zero_le _, rfl, HBS.out, HV.out⟩
            case round =>
              clear HBS HV f3 hkc'
              obtain ⟨k, hk, rfl, hBS, hV⟩ := hrel
              have HBS := Aside0.mk hBS
              have HV := Aside0.mk hV
              have f4 := cell_blk hBS.fb HKF.out.2.2.2.2
              by_cases hkc : k < hs.length
              · have hkc' : (k : Int) < (hs.length : Int) := by omega
                have hk0 : (0 : Int) ≤ (k : Int) := by omega
                have HKC := Aside0.mk hkc
                have hkm : k < 9223372036854775807 := by have := HHN.out; omega
                obtain ⟨x, e0, h0, h1, h2, h3⟩ := at_T49 (Kd.C_below HH.out hBS.below) (k : Int) hk0 hkc'
                subst e0
                rw [Int.toNat_natCast] at h0 h1 h2 h3
                have hmem := List.mem_of_getElem? (get49 hkc)
                obtain ⟨i, hi⟩ : ∃ i, rd_T49 hs (k : Int) = i := ⟨_, rfl⟩
                rw [hi] at h0 h1 h2 h3 hmem
                have g0 := cell_blk hBS.gb HKG.out.1
                have hin : ∀ nq, Calls Try.prog 24 #[.slice (some r0) n d0, .int .i64 i.f2] (wr.drewN nq) fun e w' => e = .returned (.bool true) ∧ Drawn0 (wr.drewN nq) w' := fun nq => by
                  have := in_own (c := d0) (A := some r0) (l := st) (W := wr.drewN nq) i.f2 (HG.out.ln.symm ▸ (hV.below (pw_below_drewN (Below.refl _ _) nq)).r0) (by rw [HG.out.ln]; exact hV.k0) (by rw [HG.out.ln]; have := HN.out; have := HG.out.short; omega)
                  rw [HG.out.ln, decide_eq_true (HG.out.target_in hmem)] at this
                  exact this
                have HIN := Aside0.mk hin
                clear hin hmem hi hk hkc hBS hV h0 h1 h3
                go_upto_region 32 with (fail)
                go_cut [176] (fun v176 wc => v176 = .bool false ∧ LB w wc GB cf gc ∧ GV wc (some r0) (some r1) (some r2) (some r3) a4 d0 d1 d2 d3 d4 n m st nx ord l hd)
                case first =>
                  go_big_quiet (first | (go_at_call 24; exact quiet_dr (HIN.out _)))
                  go_wp2_with (fail)
                  go_meet
                  case rel => exact ⟨rfl, HBS.out.from_ (pw_below_drewN (Below.refl _ _) _), HV.out.below (pw_below_drewN (Below.refl _ _) _)⟩
                case rest =>
                  obtain ⟨rfl, hBS, hV⟩ := hcut
                  have HBS := Aside0.mk hBS
                  have HV := Aside0.mk hV
                  clear hBS hV h2 g0 f4 HIN
                  go_wp2_with (fail)
                  go_roundw
                  case measure => simp [intOf]; omega
                  case rel => exact ⟨k + 1, HKC.out, by first | rfl | go_num, HBS.out, HV.out⟩
              · have hkc' : (hs.length : Int) ≤ (k : Int) := by omega
                clear hk hkc hBS hV
                go_wp2_with (fail)
                go_ret
                exact ⟨rfl, HBS.out.below⟩
  · refine (flow_no nm pa lo A3 A4 c3 c4 code hs W0 (Kd.C_below HC.out HB0.out) HC3.out (Kd.C_below HH.out HB0.out) HC4.out hfit (by have := HN.out; omega) (by have := HHN.out; omega)).mono ?_
    rintro e w1 ⟨rfl, hb1⟩
    have HB1 := Aside0.mk (HB0.out.trans (hb1.mono HB0.out.size))
    clear hb1 f0 f1 f2 f3 f4 HFB HB0
    go_wp2_with (fail)
    go_ret
    exact ⟨rfl, below_alloc HB1.out _⟩
end Go.Proofs.Ytmeaepmimnmjlaa.Ask
