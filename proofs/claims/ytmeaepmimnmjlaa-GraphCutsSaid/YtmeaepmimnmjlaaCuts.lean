/- GraphCuts: the law's walk: a block dominates a reached one just where that one is not reached without it. -/
import Derived.Test.YtmeaepmimnmjlaaKf
namespace Go.Proofs.Ytmeaepmimnmjlaa.Ask
open Go.Proofs.Ytmeaepmimnmjlaa.Dfs Go.Proofs.Ytmeaepmimnmjlaa.Dom Go.Proofs.Ytmeaepmimnmjlaa.DomT Go.RowKit Go.Shelf Go.Proofs.Ytmeaepmimnmjlaa.PGb Go.Proofs.Ytmeaepmimnmjlaa.Lit Go.Proofs.Ytmeaepmimnmjlaa.OwnCells Go.Proofs.YtmeaepmimnmjlaaW.PrintWords Go.Proofs.YtmeaepmimnmjlaaW.PrintLast Go.Proofs.YtmeaepmimnmjlaaW.PrintMore
attribute [local go_sem] Oper.semAt_some
attribute [local go_sem] run_store_fn
attribute [local go_sem] run_eql_fn
set_option linter.unusedVariables false
set_option linter.unusedSimpArgs false
set_option maxRecDepth 100000 in
set_option maxHeartbeats 16000000 in
theorem portagelaw09_GraphCuts.calls (nm : ByteArray) (pa lo : Int) (A3 : Option Addr) (c3 : Nat) (code : List S40) (A4 : Option Addr) (c4 : Nat) (hs : List S49) (r : Bool) (w : World) (hC : k40.C w A3 code.length code) (hc3 : code.length ≤ c3) (hH : k49.C w A4 hs.length hs) (hc4 : hs.length ≤ c4) (h : (code.length * 16 ≤ 140737488351232 ∧ hs.length * 32 ≤ 140737488351232) ∧ r = true) :
    Calls Try.prog 9 #[.agg #[.string nm, .int .i64 pa, .int .i64 lo, .slice A3 code.length c3, .slice A4 hs.length c4]] w fun e w' => e = .returned (.bool r) ∧ Below w.heap.size w w' := by
  obtain ⟨⟨hn0, hh0⟩, rfl⟩ := h
  have hn : code.length ≤ 8796093022207 := by omega
  have hh : hs.length ≤ 8796093022208 := by omega
  have HC := Aside0.mk hC
  have HH := Aside0.mk hH
  have HC3 := Aside0.mk hc3
  have HC4 := Aside0.mk hc4
  have HN := Aside0.mk hn
  have HHN := Aside0.mk hh
  clear hC hH hc3 hc4 hn hh hn0 hh0
  have hu25 := Try.underlying25
  have hu29 := Try.underlying29
  have hu40 := Try.underlying40
  have hu49 := Try.underlying49
  go_enter Try.func9, Try.ntmps9
  go_upto_region 1 with (fail)
  obtain ⟨W0, hW0⟩ : ∃ W0, w.alloc (.cells #[.string nm, .int .i64 pa, .int .i64 lo, .slice A3 code.length c3, .slice A4 hs.length c4] 25) = W0 := ⟨_, rfl⟩
  have hb0 : Below w.heap.size w W0 := by rw [← hW0]; exact below_alloc (Below.refl _ _) _
  have hfb0 : W0.heap[w.heap.size]? = some (.cells #[.string nm, .int .i64 pa, .int .i64 lo, .slice A3 code.length c3, .slice A4 hs.length c4] 25 (0, 0)) := by
    rw [← hW0]; exact World.alloc_heap_new w _
  rw [hW0]
  clear hW0
  have f0 := cell_blk hfb0 (i := 0) rfl
  have f1 := cell_blk hfb0 (i := 1) rfl
  have f2 := cell_blk hfb0 (i := 2) rfl
  have f3 := cell_blk hfb0 (i := 3) rfl
  have f4 := cell_blk hfb0 (i := 4) rfl
  have HFB := Aside0.mk hfb0
  have HB0 := Aside0.mk hb0
  clear hfb0 hb0
  go_wp2_with (fail)
  by_cases hfit : FitsP code hs
  · refine (flow_yes nm pa lo A3 A4 c3 c4 code hs W0 (Kd.C_below HC.out HB0.out) HC3.out (Kd.C_below HH.out HB0.out) HC4.out hfit HN.out HHN.out).mono ?_
    rintro e w1 ⟨a0, a1, a2, a3, a4, d0, d1, d2, d3, d4, n, m, st, nx, ord, l, hd, rfl, gv, gf, hb1⟩
    have hfb1 := blk_below HFB.out hb1
    have HB1 := Aside0.mk (HB0.out.trans (hb1.mono HB0.out.size))
    have HG := Aside0.mk gf
    have HV1 := Aside0.mk gv
    have HF := Aside0.mk hfit
    have HFB1 := Aside0.mk hfb1
    clear hb1 hfb1 gf gv hfit f0 f1 f2 f3 f4 HFB HB0
    go_upto_region 2 with (fail)
    obtain ⟨GB, hGB⟩ : ∃ GB, w1.heap.size = GB := ⟨_, rfl⟩
    obtain ⟨cf, hcf⟩ : ∃ cf, #[Value.string nm, .int .i64 pa, .int .i64 lo, .slice A3 code.length c3, .slice A4 hs.length c4] = cf := ⟨_, rfl⟩
    obtain ⟨gc, hgc⟩ : ∃ gc, #[Value.slice a0 n d0, .slice a1 n d1, .slice a2 n d2, .slice a3 n d3, .slice a4 m d4] = gc := ⟨_, rfl⟩
    have hb2 : Below w1.heap.size w1 (w1.alloc (.cells gc 29)) := below_alloc (Below.refl _ _) _
    have HBS : Aside0 (LB w (w1.alloc (.cells gc 29)) GB cf gc) := ⟨⟨hcf ▸ blk_below HFB1.out hb2, hGB ▸ World.alloc_heap_new w1 _, HB1.out.trans (hb2.mono HB1.out.size)⟩⟩
    have HV := Aside0.mk (HV1.out.below hb2)
    rw [hgc, hGB]
    have kf0 : cf[0]? = some (.string nm) := by rw [← hcf]; rfl
    have kf1 : cf[1]? = some (.int .i64 pa) := by rw [← hcf]; rfl
    have kf2 : cf[2]? = some (.int .i64 lo) := by rw [← hcf]; rfl
    have kf3 : cf[3]? = some (.slice A3 code.length c3) := by rw [← hcf]; rfl
    have kf4 : cf[4]? = some (.slice A4 hs.length c4) := by rw [← hcf]; rfl
    have kg0 : gc[0]? = some (.slice a0 n d0) := by rw [← hgc]; rfl
    have kg1 : gc[1]? = some (.slice a1 n d1) := by rw [← hgc]; rfl
    have kg2 : gc[2]? = some (.slice a2 n d2) := by rw [← hgc]; rfl
    have kg3 : gc[3]? = some (.slice a3 n d3) := by rw [← hgc]; rfl
    have kg4 : gc[4]? = some (.slice a4 m d4) := by rw [← hgc]; rfl
    have HKG := Aside0.mk (And.intro kg0 (And.intro kg1 (And.intro kg2 (And.intro kg3 kg4))))
    have HKF := Aside0.mk (And.intro kf0 (And.intro kf1 (And.intro kf2 (And.intro kf3 kf4))))
    clear kf0 kf1 kf2 kf3 kf4 kg0 kg1 kg2 kg3 kg4
    revert HBS HV
    generalize w1.alloc (.cells gc 29) = W2
    intro HBS HV
    have hp := HG.out.pos
    have HGC := Aside0.mk hgc
    have HCF := Aside0.mk hcf
    clear hb2 hGB hcf hgc HFB1 HB1 HV1
    have g0 := cell_blk HBS.out.gb HKG.out.1
    have g1 := cell_blk HBS.out.gb HKG.out.2.1
    have g2 := cell_blk HBS.out.gb HKG.out.2.2.1
    have g3 := cell_blk HBS.out.gb HKG.out.2.2.2.1
    have g4 := cell_blk HBS.out.gb HKG.out.2.2.2.2
    go_wp2_with (fail)
    refine (reached_own HG.out HV.out HN.out (-1)).mono ?_
    rintro e w3 ⟨A6, c6, all, rfl, hM6, hb3⟩
    have HBS3 := Aside0.mk (HBS.out.from_ hb3)
    have HV3 := Aside0.mk (HV.out.below hb3)
    have HM6 := Aside0.mk hM6
    clear hb3 hM6 g0 g1 g2 g3 g4 HBS HV
    go_wp2_with (fail)
    go_loopw [7] (fun i wr => ∃ a : Nat, a ≤ n ∧ i = .int .i64 (a : Int) ∧ LB w wr GB cf gc ∧ GV wr a0 a1 a2 a3 a4 d0 d1 d2 d3 d4 n m st nx ord l hd ∧ MarksAt wr A6 c6 n nx 0 (-1) all) (fun i _ => ((n : Int) - intOf i).toNat)
    case atStart => exact ⟨0, Nat.zero_le _, rfl, HBS3.out, HV3.out, HM6.out⟩
    case round =>
      clear HBS3 HV3 HM6
      obtain ⟨a, ha, rfl, hBS, hV, hM6⟩ := hrel
      have HBS := Aside0.mk hBS
      have HV := Aside0.mk hV
      have HM6 := Aside0.mk hM6
      have g0 := cell_blk hBS.gb HKG.out.1
      by_cases hlt : a < n
      · have han : (a : Int) < (n : Int) := by omega
        have HAN := Aside0.mk hlt
        have g1 := cell_blk hBS.gb HKG.out.2.1
        have g2 := cell_blk hBS.gb HKG.out.2.2.1
        have g3 := cell_blk hBS.gb HKG.out.2.2.2.1
        have g4 := cell_blk hBS.gb HKG.out.2.2.2.2
        clear ha hBS hV hM6 hlt
        go_wp2_with (fail)
        refine (reached_own HG.out HV.out HN.out (a : Int)).mono ?_
        rintro e w3 ⟨A8, c8, left, rfl, hM8, hb3⟩
        have HBS3 := Aside0.mk (HBS.out.from_ hb3)
        have HV3 := Aside0.mk (HV.out.below hb3)
        have HM63 := Aside0.mk (HM6.out.below hb3)
        have HM8 := Aside0.mk hM8
        clear hb3 hM8 g0 g1 g2 g3 g4 HBS HV HM6
        go_wp2_with (fail)
        go_loopw [9] (fun i wr => ∃ b : Nat, b ≤ n ∧ i = .int .i64 (b : Int) ∧ LB w wr GB cf gc ∧ GV wr a0 a1 a2 a3 a4 d0 d1 d2 d3 d4 n m st nx ord l hd ∧ MarksAt wr A6 c6 n nx 0 (-1) all ∧ MarksAt wr A8 c8 n nx 0 (a : Int) left) (fun i _ => ((n : Int) - intOf i).toNat)
        case atStart => exact ⟨0, Nat.zero_le _, rfl, HBS3.out, HV3.out, HM63.out, HM8.out⟩
        case round =>
          clear HBS3 HV3 HM63 HM8
          obtain ⟨b, hb, rfl, hBS, hV, hM6, hM8⟩ := hrel
          have HBS := Aside0.mk hBS
          have HV := Aside0.mk hV
          have HM6 := Aside0.mk hM6
          have HM8 := Aside0.mk hM8
          have g0 := cell_blk hBS.gb HKG.out.1
          by_cases hbl : b < n
          · have hbn : (b : Int) < (n : Int) := by omega
            have hb0 : (0 : Int) ≤ (b : Int) := by omega
            have HBN := Aside0.mk hbl
            obtain ⟨x6, rfl, q6⟩ := Kd.at_bool hM6.2.1 (b : Int) hb0 hbn
            obtain ⟨x8, rfl, q8⟩ := Kd.at_bool hM8.2.1 (b : Int) hb0 hbn
            rw [Int.toNat_natCast] at q6 q8
            have h6 := hM6.2.2.2 b hbl
            have h8 := hM8.2.2.2 b hbl
            have hbm : b < 9223372036854775807 := by have := HN.out; have := HG.out.short; omega
            obtain ⟨ab, hab⟩ : ∃ x, rdOf false all (b : Int) = x := ⟨_, rfl⟩
            rw [hab] at q6 h6
            clear hab hb hBS hV hM6 hM8
            cases ab with
            | false =>
              clear q8 h6 h8
              clear hbl
              go_wp2_with (fail)
              go_roundw
              case measure => simp [intOf]; omega
              case rel => exact ⟨b + 1, HBN.out, by first | rfl | go_num, HBS.out, HV.out, HM6.out, HM8.out⟩
            | true =>
              have hcut := HG.out.cuts (a := a) ((goes_all HG.out.wf _).1 (h6.1 rfl)) h8
              have HCUT := Aside0.mk hcut
              have g1 := cell_blk HBS.out.gb HKG.out.2.1
              have g2 := cell_blk HBS.out.gb HKG.out.2.2.1
              have g3 := cell_blk HBS.out.gb HKG.out.2.2.2.1
              have g4 := cell_blk HBS.out.gb HKG.out.2.2.2.2
              clear h6 h8 hcut hbl
              go_wp2_with (fail)
              have hdm := dominates_calls a0 a1 a2 a3 a4 d0 d1 d2 d3 d4 n n n m l (a : Int) (b : Int) wr (HG.out.ll.symm ▸ HV.out.r3) (by rw [HG.out.ll]; have := HN.out; have := HG.out.short; omega)
              rw [HG.out.ll, HCUT.out] at hdm
              refine hdm.mono ?_
              rintro e w5 ⟨rfl, hb5⟩
              have HBS5 := Aside0.mk (HBS.out.from_ hb5)
              have HV5 := Aside0.mk (HV.out.below hb5)
              have HM65 := Aside0.mk (HM6.out.below hb5)
              have HM85 := Aside0.mk (HM8.out.below hb5)
              obtain ⟨x8', e8, q8'⟩ := Kd.at_bool HM85.out.2.1 (b : Int) hb0 hbn
              cases e8
              rw [Int.toNat_natCast] at q8'
              obtain ⟨lb, hlb⟩ : ∃ x, rdOf false left (b : Int) = x := ⟨_, rfl⟩
              rw [hlb] at q8' ⊢
              clear hlb q6 q8 g0 g1 g2 g3 g4 hb5 HBS HV HM6 HM8 HCUT hdm
              by_cases hab : (a : Int) = (b : Int)
              · have t1 : ((a : Int) == (b : Int)) = true := by simpa using hab
                have t2 : (a == b) = true := by have : a = b := by omega
                                                simpa using this
                have t3 : decide ((a : Int) = (b : Int)) = true := decide_eq_true hab
                have t4 : decide (a = b) = true := decide_eq_true (by omega)
                rw [t3, Bool.true_or]
                clear hab
                go_wp2_with (fail)
                go_roundw
                case measure => simp [intOf]; omega
                case rel => exact ⟨b + 1, HBN.out, by first | rfl | go_num, HBS5.out, HV5.out, HM65.out, HM85.out⟩
              · have t1 : ((a : Int) == (b : Int)) = false := by simpa using hab
                have t2 : (a == b) = false := by have : ¬ a = b := by omega
                                                 simpa using this
                have t3 : decide ((a : Int) = (b : Int)) = false := decide_eq_false hab
                rw [t3, Bool.false_or]
                clear hab
                cases lb with
                | true =>
                  rw [Bool.not_true]
                  go_wp2_with (fail)
                  go_roundw
                  case measure => simp [intOf]; omega
                  case rel => exact ⟨b + 1, HBN.out, by first | rfl | go_num, HBS5.out, HV5.out, HM65.out, HM85.out⟩
                | false =>
                  rw [Bool.not_false]
                  go_wp2_with (fail)
                  go_roundw
                  case measure => simp [intOf]; omega
                  case rel => exact ⟨b + 1, HBN.out, by first | rfl | go_num, HBS5.out, HV5.out, HM65.out, HM85.out⟩
          · have hbn : (n : Int) ≤ (b : Int) := by omega
            have ham : a < 9223372036854775807 := by have := HN.out; have := HG.out.short; have := HAN.out; omega
            clear hb hBS hV hM6 hM8 hbl
            go_wp2_with (fail)
            go_roundw
            case measure => simp [intOf]; omega
            case rel => exact ⟨a + 1, HAN.out, by first | rfl | go_num, HBS.out, HV.out, HM6.out⟩
      · have han : (n : Int) ≤ (a : Int) := by omega
        clear ha hBS hV hM6 hlt
        go_wp2_with (fail)
        go_ret
        exact ⟨rfl, HBS.out.below⟩
  · refine (flow_no nm pa lo A3 A4 c3 c4 code hs W0 (Kd.C_below HC.out HB0.out) HC3.out (Kd.C_below HH.out HB0.out) HC4.out hfit (by have := HN.out; omega) (by have := HHN.out; omega)).mono ?_
    rintro e w1 ⟨rfl, hb1⟩
    have HB1 := Aside0.mk (HB0.out.trans (hb1.mono HB0.out.size))
    clear hb1 f0 f1 f2 f3 f4 HFB HB0
    go_wp2_with (fail)
    go_ret
    exact ⟨rfl, below_alloc HB1.out _⟩
end Go.Proofs.Ytmeaepmimnmjlaa.Ask
