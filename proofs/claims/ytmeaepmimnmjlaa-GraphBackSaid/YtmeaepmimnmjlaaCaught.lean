/- caught, by its meaning. -/
import Derived.Test.YtmeaepmimnmjlaaPartsP
import Derived.Test.YtmeaepmimnmjlaaKf
namespace Go.Proofs.Ytmeaepmimnmjlaa.Ask
open Go.Proofs.Ytmeaepmimnmjlaa.Dfs Go.Proofs.Ytmeaepmimnmjlaa.Dom Go.Proofs.Ytmeaepmimnmjlaa.DomT Go.RowKit Go.Shelf Go.Proofs.Ytmeaepmimnmjlaa.PGb Go.Proofs.Ytmeaepmimnmjlaa.Lit Go.Proofs.Ytmeaepmimnmjlaa.OwnCells Go.Proofs.YtmeaepmimnmjlaaW.PrintWords Go.Proofs.YtmeaepmimnmjlaaW.PrintLast Go.Proofs.YtmeaepmimnmjlaaW.PrintMore
attribute [local go_sem] Oper.semAt_some
attribute [local go_sem] run_store_fn
attribute [local go_sem] run_eql_fn
set_option linter.unusedVariables false
set_option linter.unusedSimpArgs false
/-- a handler leads from a place of block b to the start of block c -/
def CaughtTo (code : List S40) (hs : List S49) (st : List Int) (k : Nat) (b c : Nat) : Prop := ∃ (q : Nat) (x : S49) (p : Nat), q < k ∧ hs[q]? = some x ∧ rd st (b : Int) ≤ (p : Int) ∧ (p : Int) < endOf code st b ∧ x.f0 ≤ (p : Int) ∧ (p : Int) < x.f1 ∧ x.f2 = rd st (c : Int)
set_option maxRecDepth 100000 in
set_option maxHeartbeats 16000000 in
theorem caught_own {code : List S40} {hs : List S49} {n m : Nat} {st : List Int} {nx : List (List Int)} {ord l hd : List Int} {w : World} {a0 a1 a2 a3 a4 : Option Addr} {d0 d1 d2 d3 d4 : Nat} {nm : ByteArray} {pa lo : Int} {A3 A4 : Option Addr} {c3 c4 b c : Nat} (g : GF code hs n m st nx ord l hd) (v : GV w a0 a1 a2 a3 a4 d0 d1 d2 d3 d4 n m st nx ord l hd) (hn : code.length ≤ 8796093022207) (hhn : hs.length ≤ 8796093022208) (hC : k40.C w A3 code.length code) (hc3 : code.length ≤ c3) (hH : k49.C w A4 hs.length hs) (hc4 : hs.length ≤ c4) (hb : b < n) (hc : c < n) :
    Calls Try.prog 26 #[.agg #[.string nm, .int .i64 pa, .int .i64 lo, .slice A3 code.length c3, .slice A4 hs.length c4], .agg #[.slice a0 n d0, .slice a1 n d1, .slice a2 n d2, .slice a3 n d3, .slice a4 m d4], .int .i64 (b : Int), .int .i64 (c : Int)] w fun e w' => ∃ r : Bool, e = .returned (.bool r) ∧ (r = true ↔ CaughtTo code hs st hs.length b c) ∧ Below w.heap.size w w' := by
  have hp := g.pos
  obtain ⟨r0, rfl, _⟩ := Kd.at_int v.r0 0 (by omega) (by omega)
  obtain ⟨r1, _, _, rfl, _⟩ := at_L3 v.r1 0 (by omega) (by omega)
  obtain ⟨r2, rfl, _⟩ := Kd.at_int v.r2 0 (by omega) (by omega)
  obtain ⟨r3, rfl, _⟩ := Kd.at_int v.r3 0 (by omega) (by omega)
  have HC := Aside0.mk hC
  have HH := Aside0.mk hH
  have HC3 := Aside0.mk hc3
  have HC4 := Aside0.mk hc4
  have HN := Aside0.mk hn
  have HHN := Aside0.mk hhn
  have HG := Aside0.mk g
  have HV0 := Aside0.mk v
  have HBN := Aside0.mk hb
  have HCN := Aside0.mk hc
  have hbn : (b : Int) < (n : Int) := by omega
  have hb0 : (0 : Int) ≤ (b : Int) := by omega
  have hcn : (c : Int) < (n : Int) := by omega
  have hc0 : (0 : Int) ≤ (c : Int) := by omega
  clear hC hc3 hH hc4 hn hhn g v hb hc
  have hu25 := Try.underlying25
  have hu29 := Try.underlying29
  have hu40 := Try.underlying40
  have hu49 := Try.underlying49
  go_enter Try.func26, Try.ntmps26
  go_upto_region 1 with (fail)
  obtain ⟨cf, hcf⟩ : ∃ cf : Array Value, (#[.string nm, .int .i64 pa, .int .i64 lo, .slice A3 code.length c3, .slice A4 hs.length c4] : Array Value) = cf := ⟨_, rfl⟩
  obtain ⟨gc, hgc⟩ : ∃ gc : Array Value, (#[.slice (some r0) n d0, .slice (some r1) n d1, .slice (some r2) n d2, .slice (some r3) n d3, .slice a4 m d4] : Array Value) = gc := ⟨_, rfl⟩
  have kf3 : cf[3]? = some (.slice A3 code.length c3) := by rw [← hcf]; rfl
  have kf4 : cf[4]? = some (.slice A4 hs.length c4) := by rw [← hcf]; rfl
  have kf0 : cf[0]? = some (.string nm) := by rw [← hcf]; rfl
  have kf1 : cf[1]? = some (.int .i64 pa) := by rw [← hcf]; rfl
  have kf2 : cf[2]? = some (.int .i64 lo) := by rw [← hcf]; rfl
  have kg0 : gc[0]? = some (.slice (some r0) n d0) := by rw [← hgc]; rfl
  have kg1 : gc[1]? = some (.slice (some r1) n d1) := by rw [← hgc]; rfl
  have kg2 : gc[2]? = some (.slice (some r2) n d2) := by rw [← hgc]; rfl
  have kg3 : gc[3]? = some (.slice (some r3) n d3) := by rw [← hgc]; rfl
  have kg4 : gc[4]? = some (.slice a4 m d4) := by rw [← hgc]; rfl
  have HKG := Aside0.mk (And.intro kg0 (And.intro kg1 (And.intro kg2 (And.intro kg3 kg4))))
  have HKF := Aside0.mk (And.intro kf0 (And.intro kf1 (And.intro kf2 (And.intro kf3 kf4))))
  have hb1 : Below w.heap.size w ((w.alloc (.cells cf 25)).alloc (.cells gc 29)) := below_alloc (below_alloc (Below.refl _ _) _) _
  have HBS : Aside0 (LB w ((w.alloc (.cells cf 25)).alloc (.cells gc 29)) (w.heap.size + 1) cf gc) := ⟨⟨((World.grownBy_alloc (w.alloc _) _ none).block _ (by simp) (by simp)).trans (World.alloc_heap_new w _), by
    have := World.alloc_heap_new (w.alloc (.cells cf 25)) (.cells gc 29)
    rw [World.size_alloc] at this
    exact this, hb1⟩⟩
  have HV := Aside0.mk (HV0.out.below hb1)
  obtain ⟨GB, hGB⟩ : ∃ GB, w.heap.size + 1 = GB := ⟨_, rfl⟩
  rw [hcf, hgc]
  rw [hGB] at HBS ⊢
  have HGC := Aside0.mk hgc
  have HCF := Aside0.mk hcf
  clear kf0 kf1 kf2 kf3 kf4 kg0 kg1 kg2 kg3 kg4 hcf hgc hb1 hGB HV0
  revert HBS HV
  generalize (w.alloc (.cells cf 25)).alloc (.cells gc 29) = W2
  intro HV HBS
  go_wp2_with (fail)
  go_loopw [9] (fun v wr => ∃ q : Nat, q ≤ hs.length ∧ v = .int .i64 (q : Int) ∧ ¬ CaughtTo code hs st q b c ∧ LB w wr GB cf gc ∧ GV wr (some r0) (some r1) (some r2) (some r3) a4 d0 d1 d2 d3 d4 n m st nx ord l hd) (fun v _ => ((hs.length : Int) - intOf v).toNat)
  case atStart => exact ⟨0, Nat.zero_le _, rfl, (by rintro ⟨q, _, _, h, _⟩; omega), HBS.out, HV.out⟩
  case round =>
    clear HBS HV
    obtain ⟨q, hq, rfl, hno, hBS, hV⟩ := hrel
    have HBS := Aside0.mk hBS
    have HV := Aside0.mk hV
    have HNO := Aside0.mk hno
    have f4 := cell_blk hBS.fb HKF.out.2.2.2.2
    have hqm : q < 9223372036854775807 := by have := HHN.out; omega
    by_cases hql : q < hs.length
    · have hql' : (q : Int) < (hs.length : Int) := by omega
      have hq0 : (0 : Int) ≤ (q : Int) := by omega
      have HQL := Aside0.mk hql
      obtain ⟨y, e0, h0, h1, h2, h3⟩ := at_T49 (Kd.C_below HH.out hBS.below) (q : Int) hq0 hql'
      subst e0
      rw [Int.toNat_natCast] at h0 h1 h2 h3
      have hget := get49 hql
      obtain ⟨x, hx⟩ : ∃ x, rd_T49 hs (q : Int) = x := ⟨_, rfl⟩
      rw [hx] at h0 h1 h2 h3 hget
      have HGET := Aside0.mk hget
      clear hget hx hq hql hno hBS hV
      go_upto_region 5 with (fail)
      obtain ⟨XB, hXB⟩ : ∃ XB, wr.heap.size = XB := ⟨_, rfl⟩
      have hb2 : Below wr.heap.size wr (wr.alloc (.cells #[.int .i64 x.f0, .int .i64 x.f1, .int .i64 x.f2, .int .i64 x.f3] 49)) := below_alloc (Below.refl _ _) _
      have HX : Aside0 ((wr.alloc (.cells #[.int .i64 x.f0, .int .i64 x.f1, .int .i64 x.f2, .int .i64 x.f3] 49)).heap[XB]? = some (.cells #[.int .i64 x.f0, .int .i64 x.f1, .int .i64 x.f2, .int .i64 x.f3] 49 (0, 0))) := ⟨hXB ▸ World.alloc_heap_new wr _⟩
      have HBS2 := Aside0.mk (HBS.out.from_ hb2)
      have HV2 := Aside0.mk (HV.out.below hb2)
      rw [hXB]
      revert HX HBS2 HV2
      generalize wr.alloc (.cells #[.int .i64 x.f0, .int .i64 x.f1, .int .i64 x.f2, .int .i64 x.f3] 49) = W3
      intro HX HBS2 HV2
      clear hb2 h0 h1 h2 h3 f4 HBS HV hXB
      have g0 := cell_blk HBS2.out.gb HKG.out.1
      obtain ⟨z, e0, q0⟩ := Kd.at_int HV2.out.r0 (b : Int) hb0 hbn
      cases e0
      rw [Int.toNat_natCast] at q0
      have hin := HG.out.st_in HBN.out
      have hen := HG.out.end_in HBN.out
      obtain ⟨s, hs_⟩ : ∃ s : Nat, rd st (b : Int) = (s : Int) := ⟨(rd st (b : Int)).toNat, by omega⟩
      obtain ⟨ee, hee⟩ : ∃ ee : Nat, endOf code st b = (ee : Int) := ⟨(endOf code st b).toNat, by omega⟩
      rw [hs_] at q0 hen hin
      rw [hee] at hen
      have HS := Aside0.mk hs_
      have HE := Aside0.mk hee
      have HEN := Aside0.mk hen
      clear hs_ hee hen hin
      go_upto_region 6 with (fail)
      skip
      clear q0 g0
      go_loopw [11] (fun v wr => ∃ p : Nat, s ≤ p ∧ p ≤ ee ∧ v = .int .i64 (p : Int) ∧ (∀ p' : Nat, s ≤ p' → p' < p → ¬ (x.f0 ≤ (p' : Int) ∧ (p' : Int) < x.f1 ∧ x.f2 = rd st (c : Int))) ∧ wr.heap[XB]? = some (.cells #[.int .i64 x.f0, .int .i64 x.f1, .int .i64 x.f2, .int .i64 x.f3] 49 (0, 0)) ∧ LB w wr GB cf gc ∧ GV wr (some r0) (some r1) (some r2) (some r3) a4 d0 d1 d2 d3 d4 n m st nx ord l hd) (fun v _ => ((ee : Int) - intOf v).toNat)
      case atStart => exact ⟨s, Nat.le_refl _, by have := HEN.out; omega, rfl, fun p' h1 h2 => by omega, HX.out, HBS2.out, HV2.out⟩
      case round =>
        clear HBS2 HV2 HX
        obtain ⟨p, hp0, hp1, rfl, hnp, hX, hBS, hV⟩ := hrel
        have HBS := Aside0.mk hBS
        have HV := Aside0.mk hV
        have HNP := Aside0.mk hnp
        have HX := Aside0.mk hX
        have HP := Aside0.mk (And.intro hp0 hp1)
        have hpm : p < 9223372036854775807 := by have := HN.out; have := HEN.out; omega
        have f0 := cell_blk HBS.out.fb HKF.out.1
        have f1 := cell_blk HBS.out.fb HKF.out.2.1
        have f2 := cell_blk HBS.out.fb HKF.out.2.2.1
        have f3 := cell_blk HBS.out.fb HKF.out.2.2.2.1
        have f4 := cell_blk HBS.out.fb HKF.out.2.2.2.2
        have g0 := cell_blk HBS.out.gb HKG.out.1
        have g1 := cell_blk HBS.out.gb HKG.out.2.1
        have g2 := cell_blk HBS.out.gb HKG.out.2.2.1
        have g3 := cell_blk HBS.out.gb HKG.out.2.2.2.1
        have g4 := cell_blk HBS.out.gb HKG.out.2.2.2.2
        clear hBS hV hp0 hp1 hnp hX
        go_wp2_with (fail)
        have hend := end_own HG.out HV.out HN.out (nm := nm) (pa := pa) (lo := lo) (Kd.C_below HC.out HBS.out.below) HC3.out (Kd.C_below HH.out HBS.out.below) HC4.out HBN.out
        rw [HE.out] at hend
        refine hend.mono ?_
        rintro e w3 ⟨rfl, hb3⟩
        have HBS3 := Aside0.mk (HBS.out.from_ hb3)
        have HV3 := Aside0.mk (HV.out.below hb3)
        have HX3 := Aside0.mk (blk_below HX.out hb3)
        clear hend hb3 HBS HV HX f0 f1 f2 f3 f4 g0 g1 g2 g3 g4
        by_cases hpe : p < ee
        · have hpe' : (p : Int) < (ee : Int) := by omega
          have HPE := Aside0.mk hpe
          have g0 := cell_blk HBS3.out.gb HKG.out.1
          have x0 := cell_blk HX3.out (i := 0) rfl
          have x1 := cell_blk HX3.out (i := 1) rfl
          have x2 := cell_blk HX3.out (i := 2) rfl
          obtain ⟨z, e0, q1⟩ := Kd.at_int HV3.out.r0 (c : Int) hc0 hcn
          cases e0
          rw [Int.toNat_natCast] at q1
          obtain ⟨sc, hsc⟩ : ∃ sc, rd st (c : Int) = sc := ⟨_, rfl⟩
          rw [hsc] at q1
          have HSC := Aside0.mk hsc
          clear hpe hsc
          go_upto_region 8 with (fail)
          go_cut [56] (fun v56 wc => ∃ t : Bool, v56 = .bool t ∧ (t = true ↔ (x.f0 ≤ (p : Int) ∧ (p : Int) < x.f1 ∧ x.f2 = sc)) ∧ Below w3.heap.size w3 wc)
          case first =>
            by_cases h1 : x.f0 ≤ (p : Int)
            · have t1 : decide (x.f0 ≤ (p : Int)) = true := decide_eq_true h1
              by_cases h2 : (p : Int) < x.f1
              · have t2 : decide ((p : Int) < x.f1) = true := decide_eq_true h2
                by_cases h3 : x.f2 = sc
                · have t3 : (x.f2 == sc) = true := by simpa using h3
                  have HR := Aside0.mk (And.intro h1 (And.intro h2 h3))
                  clear h1 h2 h3
                  go_big_quiet (fail)
                  go_wp2_with (fail)
                  go_meet
                  case rel => exact ⟨true, rfl, ⟨fun _ => HR.out, fun _ => rfl⟩, pw_below_drewN (Below.refl _ _) _⟩
                · have t3 : (x.f2 == sc) = false := by simpa using h3
                  have HR := Aside0.mk h3
                  clear h1 h2 h3
                  go_big_quiet (fail)
                  go_wp2_with (fail)
                  go_meet
                  case rel => exact ⟨false, rfl, ⟨fun h => (by cases h), fun h => absurd h.2.2 HR.out⟩, pw_below_drewN (Below.refl _ _) _⟩
              · have t2 : decide ((p : Int) < x.f1) = false := decide_eq_false h2
                have HR := Aside0.mk h2
                clear h1 h2
                go_big_quiet (fail)
                go_wp2_with (fail)
                go_meet
                case rel => exact ⟨false, rfl, ⟨fun h => (by cases h), fun h => absurd h.2.1 (by have := HR.out; omega)⟩, pw_below_drewN (Below.refl _ _) _⟩
            · have t1 : decide (x.f0 ≤ (p : Int)) = false := decide_eq_false h1
              have HR := Aside0.mk h1
              clear h1
              go_big_quiet (fail)
              go_wp2_with (fail)
              go_meet
              case rel => exact ⟨false, rfl, ⟨fun h => (by cases h), fun h => absurd h.1 (by have := HR.out; omega)⟩, pw_below_drewN (Below.refl _ _) _⟩
          case rest =>
            obtain ⟨t, rfl, ht, hbc⟩ := hcut
            have HT := Aside0.mk ht
            have HBS4 := Aside0.mk (HBS3.out.from_ hbc)
            have HV4 := Aside0.mk (HV3.out.below hbc)
            have HX4 := Aside0.mk (blk_below HX3.out hbc)
            clear ht hbc HBS3 HV3 HX3 g0 x0 x1 x2 q1
            cases t with
            | true =>
              go_wp2_with (fail)
              go_ret
              refine .inr ⟨rfl, ?_, HBS4.out.below⟩
              obtain ⟨y1, y2, y3⟩ := HT.out.1 (by first | rfl | trivial)
              have hp := HP.out.1
              exact ⟨q, x, p, HQL.out, HGET.out, by rw [HS.out]; exact Int.ofNat_le.2 hp, by rw [HE.out]; exact hpe', y1, y2, by rw [HSC.out]; exact y3⟩
            | false =>
              go_wp2_with (fail)
              go_roundw
              case measure => simp [intOf]; omega
              case rel =>
                refine ⟨p + 1, by have := HP.out; omega, HPE.out, by first | rfl | go_num, fun p' h1 h2 => ?_, HX4.out, HBS4.out, HV4.out⟩
                by_cases e : p' = p
                · subst e; rw [HSC.out]; exact fun h => absurd (HT.out.2 h) (by decide)
                · exact HNP.out p' h1 (by omega)
        · have hpe' : (ee : Int) ≤ (p : Int) := by omega
          have HPE := Aside0.mk hpe
          clear hpe
          go_wp2_with (fail)
          go_roundw
          case measure => simp [intOf]; omega
          case rel =>
            refine ⟨q + 1, HQL.out, by first | rfl | go_num, ?_, HBS3.out, HV3.out⟩
            rintro ⟨q', x', p', hq', hg', y0, y1, y2, y3, y4⟩
            by_cases e : q' = q
            · subst e
              have hgx := hg'.symm.trans HGET.out
              cases hgx
              rw [HS.out] at y0
              rw [HE.out] at y1
              exact HNP.out p' (by omega) (by have := HPE.out; omega) ⟨y2, y3, y4⟩
            · exact HNO.out ⟨q', x', p', by omega, hg', y0, y1, y2, y3, y4⟩
    · have hql' : (hs.length : Int) ≤ (q : Int) := by omega
      have hqq : q = hs.length := by omega
      have HQQ := Aside0.mk hqq
      clear hq hql hno hBS hV hqq
      go_wp2_with (fail)
      go_ret
      exact ⟨false, rfl, ⟨fun h => (by cases h), fun h => absurd (HQQ.out ▸ h) HNO.out⟩, HBS.out.below⟩
end Go.Proofs.Ytmeaepmimnmjlaa.Ask
