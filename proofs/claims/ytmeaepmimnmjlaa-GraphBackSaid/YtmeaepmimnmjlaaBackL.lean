/- GraphBack: the law's walk. -/
import Derived.Test.YtmeaepmimnmjlaaBackP
namespace Go.Proofs.Ytmeaepmimnmjlaa.Ask
open Go.Proofs.Ytmeaepmimnmjlaa.Dfs Go.Proofs.Ytmeaepmimnmjlaa.Dom Go.Proofs.Ytmeaepmimnmjlaa.DomT Go.RowKit Go.Shelf Go.Proofs.Ytmeaepmimnmjlaa.PGb Go.Proofs.Ytmeaepmimnmjlaa.Lit Go.Proofs.Ytmeaepmimnmjlaa.OwnCells Go.Proofs.YtmeaepmimnmjlaaW.PrintWords Go.Proofs.YtmeaepmimnmjlaaW.PrintLast Go.Proofs.YtmeaepmimnmjlaaW.PrintMore
attribute [local go_sem] Oper.semAt_some
attribute [local go_sem] run_store_fn
attribute [local go_sem] run_eql_fn
set_option linter.unusedVariables false
set_option linter.unusedSimpArgs false
theorem RegInv.op_unwanted {P : Program} {ops : Array Oper} {Q : Exit → Act → World → Prop} {i : Nat} {o : Oper} {K : Act → World → Prop} {a : Act} {w : World} (hi : ops[i]? = some o) (hg : Region.wanted o (yielded ops a.tmps) = false) (h : K (a.put o.dst undef) w) : wpOp P ops Q i K a w := by
  unfold wpOp
  rw [hi]
  simp only
  rw [if_neg (by rw [hg]; decide)]
  exact h
theorem RegInv.wanted_not {ops : Array Oper} {o : Oper} {a : Act} {g : Nat} {b : Bool} {v : Value} (t : Tmp) (hg : o.guard = some (g, b)) (hd : (ops[g]?).bind (·.dst) = some t) (hv : a.tmps.getD t undef = v) (hne : v ≠ .bool b) : Region.wanted o (yielded ops a.tmps) = false := by
  unfold Region.wanted yielded
  rw [hg]
  simp only
  rw [hd]
  simp only [Option.bind_some]
  rw [Array.getD_eq_getD_getElem?] at hv
  cases hx : a.tmps[t]? with
  | none => simp
  | some u =>
    rw [hx] at hv
    simp only [Option.getD_some] at hv
    subst hv
    cases u <;> simp
    exact fun he => hne (by rw [he])
def dBC : Nat → Option Tmp
  | 0 => some 72
  | 1 => some 73
  | 2 => some 74
  | 3 => some 75
  | 4 => some 76
  | 5 => some 77
  | 6 => some 78
  | 7 => some 79
  | 8 => some 80
  | 9 => some 81
  | 10 => some 82
  | 11 => some 83
  | 12 => some 84
  | 13 => some 85
  | 14 => some 86
  | 15 => some 87
  | 16 => some 88
  | 17 => some 89
  | 18 => some 90
  | 19 => some 91
  | 20 => some 92
  | 21 => some 93
  | _ => none
def FBC (nm : ByteArray) (pa lo : Int) (ac : Addr) (A4 : Option Addr) (c3 c4 lc lh : Nat) (r0 r1 r2 r3 : Addr) (a4 : Option Addr) (d0 d1 d2 d3 d4 n m GB b c : Nat) (sc : Int) : Nat → World → Value → Prop
  | 0, _, v => v = .int .i64 (c : Int)
  | 1, _, v => v = .int .i64 (b : Int)
  | 2, _, v => v = .bool true
  | 3, _, v => v = .bool true
  | 4, _, v => v = .agg #[.string nm, .int .i64 pa, .int .i64 lo, .slice (some ac) lc c3, .slice A4 lh c4]
  | 5, _, v => v = .agg #[.slice (some r0) n d0, .slice (some r1) n d1, .slice (some r2) n d2, .slice (some r3) n d3, .slice a4 m d4]
  | 6, _, v => v = .int .i64 (b : Int)
  | 7, _, v => v = .int .i64 (c : Int)
  | 8, _, v => v = .bool true
  | 9, _, v => v = .bool false
  | 10, _, v => v = .bool false
  | 11, _, v => v = .bool false
  | 12, _, v => v = undef
  | 13, _, v => v = undef
  | 14, _, v => v = undef
  | 15, _, v => v = undef
  | 16, _, v => v = undef
  | 17, _, v => v = undef
  | 18, _, v => v = undef
  | 19, _, v => v = undef
  | 20, _, v => v = undef
  | 21, _, v => v = .bool false
  | _, _, _ => True
theorem FBC_below (nm : ByteArray) (pa lo : Int) (ac : Addr) (A4 : Option Addr) (c3 c4 lc lh : Nat) (r0 r1 r2 r3 : Addr) (a4 : Option Addr) (d0 d1 d2 d3 d4 n m GB b c : Nat) (sc : Int) (i : Nat) (w w1 : World) (v : Value) (h : FBC nm pa lo ac A4 c3 c4 lc lh r0 r1 r2 r3 a4 d0 d1 d2 d3 d4 n m GB b c sc i w v) (hb : Below w.heap.size w w1) : FBC nm pa lo ac A4 c3 c4 lc lh r0 r1 r2 r3 a4 d0 d1 d2 d3 d4 n m GB b c sc i w1 v := by
  match i with
  | 0 | 1 | 2 | 3 | 4 | 5 | 6 | 7 | 8 | 9 | 10 | 11 | 12 | 13 | 14 | 15 | 16 | 17 | 18 | 19 | 20 | 21 => exact h
  | (n + 22) => exact h
def dBN : Nat → Option Tmp
  | 0 => some 72
  | 1 => some 73
  | 2 => some 74
  | 3 => some 75
  | 4 => some 76
  | 5 => some 77
  | 6 => some 78
  | 7 => some 79
  | 8 => some 80
  | 9 => some 81
  | 10 => some 82
  | 11 => some 83
  | 12 => some 84
  | 13 => some 85
  | 14 => some 86
  | 15 => some 87
  | 16 => some 88
  | 17 => some 89
  | 18 => some 90
  | 19 => some 91
  | 20 => some 92
  | 21 => some 93
  | _ => none
def FBN (nm : ByteArray) (pa lo : Int) (ac : Addr) (A4 : Option Addr) (c3 c4 lc lh : Nat) (r0 r1 r2 r3 : Addr) (a4 : Option Addr) (d0 d1 d2 d3 d4 n m GB b c : Nat) (sc : Int) : Nat → World → Value → Prop
  | 0, _, v => v = .int .i64 (c : Int)
  | 1, _, v => v = .int .i64 (b : Int)
  | 2, _, v => v = .bool true
  | 3, _, v => v = .bool true
  | 4, _, v => v = .agg #[.string nm, .int .i64 pa, .int .i64 lo, .slice (some ac) lc c3, .slice A4 lh c4]
  | 5, _, v => v = .agg #[.slice (some r0) n d0, .slice (some r1) n d1, .slice (some r2) n d2, .slice (some r3) n d3, .slice a4 m d4]
  | 6, _, v => v = .int .i64 (b : Int)
  | 7, _, v => v = .int .i64 (c : Int)
  | 8, _, v => v = .bool false
  | 9, _, v => v = .bool true
  | 10, _, v => v = .bool true
  | 11, _, v => v = .bool true
  | 12, _, v => v = .pointer (some ⟨GB, 4, none⟩)
  | 13, _, v => v = .slice a4 m d4
  | 14, _, v => v = .pointer (some ⟨GB, 0, none⟩)
  | 15, _, v => v = .slice (some r0) n d0
  | 16, _, v => v = .int .i64 (c : Int)
  | 17, _, v => v = .pointer (some (r0.add c))
  | 18, _, v => v = .int .i64 sc
  | 19, _, v => v = .bool true
  | 20, _, v => v = .bool false
  | 21, _, v => v = .bool false
  | _, _, _ => True
theorem FBN_below (nm : ByteArray) (pa lo : Int) (ac : Addr) (A4 : Option Addr) (c3 c4 lc lh : Nat) (r0 r1 r2 r3 : Addr) (a4 : Option Addr) (d0 d1 d2 d3 d4 n m GB b c : Nat) (sc : Int) (i : Nat) (w w1 : World) (v : Value) (h : FBN nm pa lo ac A4 c3 c4 lc lh r0 r1 r2 r3 a4 d0 d1 d2 d3 d4 n m GB b c sc i w v) (hb : Below w.heap.size w w1) : FBN nm pa lo ac A4 c3 c4 lc lh r0 r1 r2 r3 a4 d0 d1 d2 d3 d4 n m GB b c sc i w1 v := by
  match i with
  | 0 | 1 | 2 | 3 | 4 | 5 | 6 | 7 | 8 | 9 | 10 | 11 | 12 | 13 | 14 | 15 | 16 | 17 | 18 | 19 | 20 | 21 => exact h
  | (n + 22) => exact h
set_option maxRecDepth 100000 in
set_option maxHeartbeats 16000000 in
theorem portagelaw09_GraphBack.calls (nm : ByteArray) (pa lo : Int) (A3 : Option Addr) (c3 : Nat) (code : List S40) (A4 : Option Addr) (c4 : Nat) (hs : List S49) (r : Bool) (w : World) (hC : k40.C w A3 code.length code) (hc3 : code.length ≤ c3) (hH : k49.C w A4 hs.length hs) (hc4 : hs.length ≤ c4) (h : (code.length * 16 ≤ 140737488351232 ∧ hs.length * 32 ≤ 140737488351232) ∧ r = true) :
    Calls Try.prog 6 #[.agg #[.string nm, .int .i64 pa, .int .i64 lo, .slice A3 code.length c3, .slice A4 hs.length c4]] w fun e w' => e = .returned (.bool r) ∧ Below w.heap.size w w' := by
  obtain ⟨⟨hn0, hh0⟩, rfl⟩ := h
  have hn : code.length ≤ 8796093022207 := by omega
  have hh : hs.length ≤ 8796093022208 := by omega
  have HC := Aside0.mk hC
  have HH := Aside0.mk hH
  have HC3 := Aside0.mk hc3
  have HC4 := Aside0.mk hc4
  have HN := Aside0.mk hn
  have HHN := Aside0.mk hh
  clear hC hH hc3 hc4 hn hh hn0 hh0
  have hu25 := Try.underlying25
  have hu29 := Try.underlying29
  have hu40 := Try.underlying40
  have hu49 := Try.underlying49
  go_enter Try.func6, Try.ntmps6
  go_upto_region 1 with (fail)
  obtain ⟨W0, hW0⟩ : ∃ W0, w.alloc (.cells #[.string nm, .int .i64 pa, .int .i64 lo, .slice A3 code.length c3, .slice A4 hs.length c4] 25) = W0 := ⟨_, rfl⟩
  have hb0 : Below w.heap.size w W0 := by rw [← hW0]; exact below_alloc (Below.refl _ _) _
  have hfb0 : W0.heap[w.heap.size]? = some (.cells #[.string nm, .int .i64 pa, .int .i64 lo, .slice A3 code.length c3, .slice A4 hs.length c4] 25 (0, 0)) := by
    rw [← hW0]; exact World.alloc_heap_new w _
  rw [hW0]
  clear hW0
  have f0 := cell_blk hfb0 (i := 0) rfl
  have f1 := cell_blk hfb0 (i := 1) rfl
  have f2 := cell_blk hfb0 (i := 2) rfl
  have f3 := cell_blk hfb0 (i := 3) rfl
  have f4 := cell_blk hfb0 (i := 4) rfl
  have HFB := Aside0.mk hfb0
  have HB0 := Aside0.mk hb0
  clear hfb0 hb0
  go_wp2_with (fail)
  by_cases hfit : FitsP code hs
  · refine (flow_yes nm pa lo A3 A4 c3 c4 code hs W0 (Kd.C_below HC.out HB0.out) HC3.out (Kd.C_below HH.out HB0.out) HC4.out hfit HN.out HHN.out).mono ?_
    rintro e w1 ⟨a0, a1, a2, a3, a4, d0, d1, d2, d3, d4, n, m, st, nx, ord, l, hd, rfl, gv, gf, hb1⟩
    have hfb1 := blk_below HFB.out hb1
    have HB1 := Aside0.mk (HB0.out.trans (hb1.mono HB0.out.size))
    have HG := Aside0.mk gf
    have HV1 := Aside0.mk gv
    have HF := Aside0.mk hfit
    have HFB1 := Aside0.mk hfb1
    clear hb1 hfb1 gf gv hfit f0 f1 f2 f3 f4 HFB HB0
    go_upto_region 2 with (fail)
    obtain ⟨GB, hGB⟩ : ∃ GB, w1.heap.size = GB := ⟨_, rfl⟩
    obtain ⟨cf, hcf⟩ : ∃ cf, #[Value.string nm, .int .i64 pa, .int .i64 lo, .slice A3 code.length c3, .slice A4 hs.length c4] = cf := ⟨_, rfl⟩
    obtain ⟨gc, hgc⟩ : ∃ gc, #[Value.slice a0 n d0, .slice a1 n d1, .slice a2 n d2, .slice a3 n d3, .slice a4 m d4] = gc := ⟨_, rfl⟩
    have hb2 : Below w1.heap.size w1 (w1.alloc (.cells gc 29)) := below_alloc (Below.refl _ _) _
    have HBS : Aside0 (LB w (w1.alloc (.cells gc 29)) GB cf gc) := ⟨⟨hcf ▸ blk_below HFB1.out hb2, hGB ▸ World.alloc_heap_new w1 _, HB1.out.trans (hb2.mono HB1.out.size)⟩⟩
    have HV := Aside0.mk (HV1.out.below hb2)
    rw [hgc, hGB]
    have kf0 : cf[0]? = some (.string nm) := by rw [← hcf]; rfl
    have kf1 : cf[1]? = some (.int .i64 pa) := by rw [← hcf]; rfl
    have kf2 : cf[2]? = some (.int .i64 lo) := by rw [← hcf]; rfl
    have kf3 : cf[3]? = some (.slice A3 code.length c3) := by rw [← hcf]; rfl
    have kf4 : cf[4]? = some (.slice A4 hs.length c4) := by rw [← hcf]; rfl
    have kg0 : gc[0]? = some (.slice a0 n d0) := by rw [← hgc]; rfl
    have kg1 : gc[1]? = some (.slice a1 n d1) := by rw [← hgc]; rfl
    have kg2 : gc[2]? = some (.slice a2 n d2) := by rw [← hgc]; rfl
    have kg3 : gc[3]? = some (.slice a3 n d3) := by rw [← hgc]; rfl
    have kg4 : gc[4]? = some (.slice a4 m d4) := by rw [← hgc]; rfl
    have HKG := Aside0.mk (And.intro kg0 (And.intro kg1 (And.intro kg2 (And.intro kg3 kg4))))
    have HKF := Aside0.mk (And.intro kf0 (And.intro kf1 (And.intro kf2 (And.intro kf3 kf4))))
    clear kf0 kf1 kf2 kf3 kf4 kg0 kg1 kg2 kg3 kg4
    revert HBS HV
    generalize w1.alloc (.cells gc 29) = W2
    intro HBS HV
    have hp := HG.out.pos
    have HGC := Aside0.mk hgc
    have HCF := Aside0.mk hcf
    clear hb2 hGB hcf hgc HFB1 HB1 HV1
    obtain ⟨r0, rfl, _⟩ := Kd.at_int HV.out.r0 0 (by omega) (by omega)
    obtain ⟨r1, _, _, rfl, _⟩ := at_L3 HV.out.r1 0 (by omega) (by omega)
    obtain ⟨r2, rfl, _⟩ := Kd.at_int HV.out.r2 0 (by omega) (by omega)
    obtain ⟨r3, rfl, _⟩ := Kd.at_int HV.out.r3 0 (by omega) (by omega)
    have hcp := HF.out.pos
    obtain ⟨ac, rfl, _⟩ := at_T40 HC.out 0 (by omega) (by omega)
    clear hcp
    have HNB : Aside0 (n ≤ 8796093022207) := ⟨by have := HG.out.short; have := HN.out; omega⟩
    have HMB : Aside0 (m ≤ 8796093022207) := ⟨by have := HG.out.shorth; have := HN.out; omega⟩
    have g0 := cell_blk HBS.out.gb HKG.out.1
    go_wp2_with (fail)
    clear g0
    have HBZ := HBS
    have HVZ := HV
    clear HBS HV
    go_loopw [7] (fun v wr => ∃ b : Nat, b ≤ n ∧ v = .int .i64 (b : Int) ∧ Below W2.heap.size W2 wr) (fun v _ => ((n : Int) - intOf v).toNat)
    case atStart => exact ⟨0, Nat.zero_le _, rfl, Below.refl _ _⟩
    case round =>
      obtain ⟨b, hb, rfl, hB⟩ := hrel
      have HBW := Aside0.mk hB
      have hbm : b < 9223372036854775807 := by have := HNB.out; omega
      by_cases hbl : b < n
      · have hbn : (b : Int) < (n : Int) := by omega
        have hb0 : (0 : Int) ≤ (b : Int) := by omega
        have HBN := Aside0.mk hbl
        obtain ⟨row, hrow⟩ : ∃ row, rd_L3 nx (b : Int) = row := ⟨_, rfl⟩
        have hlr := HG.out.row_len hbl
        have hrise := HG.out.nx_rise hbl
        have hat0 := AtP.start HG.out (b := b)
        rw [hrow] at hlr hrise hat0
        have HRW := Aside0.mk hrow
        have HLR := Aside0.mk hlr
        have HRISE := Aside0.mk hrise
        have HAT0 := Aside0.mk hat0
        clear hb hbl hB hrow hlr hrise hat0
        go_wp2_with (fail)
        go_loopw [8, 9] (fun v8 v9 wr => ∃ (c k : Nat), c ≤ n ∧ v9 = .int .i64 (c : Int) ∧ v8 = .int .i64 (k : Int) ∧ AtP row c k ∧ Below W2.heap.size W2 wr) (fun _ v _ => ((n : Int) - intOf v).toNat)
        case atStart => exact ⟨0, 0, Nat.zero_le _, rfl, rfl, HAT0.out, HBW.out⟩
        case round =>
          clear HBW HAT0
          obtain ⟨c, k, hc, rfl, rfl, hat, hB⟩ := hrel
          have HBW := Aside0.mk hB
          have HBS := Aside0.mk (HBZ.out.from_ hB)
          have HV := Aside0.mk (HVZ.out.below hB)
          have HAT := Aside0.mk hat
          have hcm : c < 9223372036854775807 := by have := HNB.out; omega
          by_cases hcl : c < n
          · have hcn : (c : Int) < (n : Int) := by omega
            have hc0 : (0 : Int) ≤ (c : Int) := by omega
            have HCN := Aside0.mk hcl
            have hkm : k < 9223372036854775807 := by have := HNB.out; have := HLR.out; have := hat.le; omega
            obtain ⟨x, A9, c9, e, q1, hc9, hC9⟩ := at_L3 HV.out.r1 (b : Int) hb0 hbn
            cases e
            rw [HRW.out] at q1 hC9
            rw [Int.toNat_natCast] at q1
            have hmem := hat.mem HRISE.out
            have hmay2 := HG.out.may_iff HBN.out hcl
            rw [HRW.out, hmem] at hmay2
            have HMAY := Aside0.mk hmay2
            have f0 := cell_blk HBS.out.fb HKF.out.1
            have f1 := cell_blk HBS.out.fb HKF.out.2.1
            have f2 := cell_blk HBS.out.fb HKF.out.2.2.1
            have f3 := cell_blk HBS.out.fb HKF.out.2.2.2.1
            have f4 := cell_blk HBS.out.fb HKF.out.2.2.2.2
            have g0 := cell_blk HBS.out.gb HKG.out.1
            have g1 := cell_blk HBS.out.gb HKG.out.2.1
            have g2 := cell_blk HBS.out.gb HKG.out.2.2.1
            have g3 := cell_blk HBS.out.gb HKG.out.2.2.2.1
            have g4 := cell_blk HBS.out.gb HKG.out.2.2.2.2
            clear hc hcl hB hat hmem hmay2
            by_cases hyes : k < row.length ∧ rd row (k : Int) = (c : Int)
            · obtain ⟨hkl, hkc⟩ := hyes
              have hkr : (k : Int) < (row.length : Int) := by omega
              have hk0 : (0 : Int) ≤ (k : Int) := by omega
              obtain ⟨ad, e, q2⟩ := Kd.at_int hC9 (k : Int) hk0 hkr
              subst e
              rw [Int.toNat_natCast, hkc] at q2
              have HY := Aside0.mk (And.intro hkl hkc)
              clear hC9 hkl hkc
              go_wp2_with (fail)
              have hmay := may_own HG.out HV.out HN.out HHN.out (Kd.C_below HC.out HBS.out.below) HC3.out (Kd.C_below HH.out HBS.out.below) HC4.out HBN.out HCN.out (nm := nm) (pa := pa) (lo := lo)
              refine hmay.mono ?_
              rintro e w5 ⟨r, rfl, hr, hb5⟩
              have hrt : r = true := hr.2 (HMAY.out.1 HY.out)
              subst hrt
              have HBW5 := Aside0.mk (HBW.out.trans (hb5.mono HBW.out.size))
              clear hmay hr hb5 HBS HV HBW q1 q2 f0 f1 f2 f3 f4 g0 g1 g2 g3 g4
              go_upto_region 17 with (fail)
              have HBS := Aside0.mk (HBZ.out.from_ HBW5.out)
              have HV := Aside0.mk (HVZ.out.below HBW5.out)
              go_cut [93] (fun v93 wc => v93 = .bool false ∧ Below w5.heap.size w5 wc)
              case first =>
                by_cases hle : c ≤ b
                · have z1 : decide ((c : Int) ≤ (b : Int)) = true := decide_eq_true (by omega)
                  have z1' : decide (c ≤ b) = true := decide_eq_true hle
                  obtain ⟨z, e0, q1⟩ := Kd.at_int HV.out.r0 (c : Int) hc0 hcn
                  cases e0
                  rw [Int.toNat_natCast] at q1
                  obtain ⟨sc, hsc⟩ : ∃ sc, rd st (c : Int) = sc := ⟨_, rfl⟩
                  rw [hsc] at q1
                  have HQ1 := Aside0.mk q1
                  by_cases hca : CaughtTo code hs st hs.length b c
                  · have HCC : Aside0 (∀ w8 : World, Below w5.heap.size w5 w8 → Calls Try.prog 26 #[.agg #[.string nm, .int .i64 pa, .int .i64 lo, .slice (some ac) code.length c3, .slice A4 hs.length c4], .agg #[.slice (some r0) n d0, .slice (some r1) n d1, .slice (some r2) n d2, .slice (some r3) n d3, .slice a4 m d4], .int .i64 (b : Int), .int .i64 (c : Int)] w8 fun e w' => e = .returned (.bool true) ∧ Below w8.heap.size w8 w') := ⟨fun w8 h8 => (caught_own HG.out (HV.out.below h8) HN.out HHN.out (Kd.C_below (Kd.C_below HC.out HBS.out.below) h8) HC3.out (Kd.C_below (Kd.C_below HH.out HBS.out.below) h8) HC4.out HBN.out HCN.out).mono fun e w' ⟨r, he, hr, hb⟩ => ⟨by rw [he, hr.2 hca], hb⟩⟩
                    clear q1 hsc hca hle
                    refine RegInv.region_facts (by kernel_rfl) (by kernel_rfl) (fun a b => Below a.heap.size a b) (fun a b c h k => h.trans (k.mono h.size)) (below_drew1 (Below.refl _ _)) dBC 22 (by kernel_rfl) (by kernel_rfl) (by kernel_rfl) (FBC nm pa lo ac A4 c3 c4 code.length hs.length r0 r1 r2 r3 a4 d0 d1 d2 d3 d4 n m GB b c sc) (FBC_below nm pa lo ac A4 c3 c4 code.length hs.length r0 r1 r2 r3 a4 d0 d1 d2 d3 d4 n m GB b c sc) ?hsBC ?heBC
                    case hsBC =>
                      intro i o aX w8 hi hM
                      have hltI : i < 22 := (Array.getElem?_eq_some_iff.1 hi).1
                      have hExt := hM.ext
                      have q1 := pw_cell_below hExt HQ1.out
                      have g0 := cell_blk (blk_below HBS.out.gb hExt) HKG.out.1
                      have g1 := cell_blk (blk_below HBS.out.gb hExt) HKG.out.2.1
                      have g2 := cell_blk (blk_below HBS.out.gb hExt) HKG.out.2.2.1
                      have g3 := cell_blk (blk_below HBS.out.gb hExt) HKG.out.2.2.2.1
                      have g4 := cell_blk (blk_below HBS.out.gb hExt) HKG.out.2.2.2.2
                      have f0 := cell_blk (blk_below HBS.out.fb hExt) HKF.out.1
                      have f1 := cell_blk (blk_below HBS.out.fb hExt) HKF.out.2.1
                      have f2 := cell_blk (blk_below HBS.out.fb hExt) HKF.out.2.2.1
                      have f3 := cell_blk (blk_below HBS.out.fb hExt) HKF.out.2.2.2.1
                      have f4 := cell_blk (blk_below HBS.out.fb hExt) HKF.out.2.2.2.2
                      rcases i with _ | _ | _ | _ | _ | _ | _ | _ | _ | _ | _ | _ | _ | _ | _ | _ | _ | _ | _ | _ | _ | _ | i
                      · cases hi
                        have h9 := gdq _ _ _ (show aX.tmps.getD 9 undef = .int .i64 (c : Int) from hM.off 9 (by kernel_rfl))
                        refine RegInv.op_value (by rfl) rfl (v := .int .i64 (c : Int)) (w' := w8) ?_ ⟨_, rfl, rfl, Below.refl _ _⟩
                        unfold execOp
                        go_simp
                      · cases hi
                        have h7 := gdq _ _ _ (show aX.tmps.getD 7 undef = .int .i64 (b : Int) from hM.off 7 (by kernel_rfl))
                        refine RegInv.op_value (by rfl) rfl (v := .int .i64 (b : Int)) (w' := w8) ?_ ⟨_, rfl, rfl, Below.refl _ _⟩
                        unfold execOp
                        go_simp
                      · cases hi
                        have h72 := gdq _ _ _ (show aX.tmps.getD 72 undef = .int .i64 (c : Int) from hM.at_ 0 (by decide) (by kernel_rfl))
                        have h73 := gdq _ _ _ (show aX.tmps.getD 73 undef = .int .i64 (b : Int) from hM.at_ 1 (by decide) (by kernel_rfl))
                        refine RegInv.op_value (by rfl) rfl (v := .bool true) (w' := w8) ?_ ⟨_, rfl, rfl, Below.refl _ _⟩
                        unfold execOp
                        go_simp
                      · cases hi
                        have h74 := gdq _ _ _ (show aX.tmps.getD 74 undef = .bool true from hM.at_ 2 (by decide) (by kernel_rfl))
                        refine RegInv.op_value (by rfl) rfl (v := .bool true) (w' := w8) ?_ ⟨_, rfl, rfl, Below.refl _ _⟩
                        unfold execOp
                        go_simp
                      · cases hi
                        have h1 := gdq _ _ _ (show aX.tmps.getD 1 undef = .pointer (some ⟨w.heap.size, 0, none⟩) from hM.off 1 (by kernel_rfl))
                        have h75 := gdq _ _ _ (show aX.tmps.getD 75 undef = .bool true from hM.at_ 3 (by decide) (by kernel_rfl))
                        have hg : aX.tmps.getD 75 undef = .bool true := hM.at_ 3 (by decide) (by kernel_rfl)
                        refine RegInv.op_valueW (by rfl) (RegInv.wanted_of 75 rfl rfl hg) (v := .agg #[.string nm, .int .i64 pa, .int .i64 lo, .slice (some ac) code.length c3, .slice A4 hs.length c4]) (w' := w8) ?_ ⟨_, rfl, rfl, Below.refl _ _⟩
                        unfold execOp
                        go_simp
                      · cases hi
                        have h3 := gdq _ _ _ (show aX.tmps.getD 3 undef = .pointer (some ⟨GB, 0, none⟩) from hM.off 3 (by kernel_rfl))
                        have h75 := gdq _ _ _ (show aX.tmps.getD 75 undef = .bool true from hM.at_ 3 (by decide) (by kernel_rfl))
                        have hg : aX.tmps.getD 75 undef = .bool true := hM.at_ 3 (by decide) (by kernel_rfl)
                        refine RegInv.op_valueW (by rfl) (RegInv.wanted_of 75 rfl rfl hg) (v := .agg #[.slice (some r0) n d0, .slice (some r1) n d1, .slice (some r2) n d2, .slice (some r3) n d3, .slice a4 m d4]) (w' := w8) ?_ ⟨_, rfl, rfl, Below.refl _ _⟩
                        unfold execOp
                        go_simp
                      · cases hi
                        have h7 := gdq _ _ _ (show aX.tmps.getD 7 undef = .int .i64 (b : Int) from hM.off 7 (by kernel_rfl))
                        have h75 := gdq _ _ _ (show aX.tmps.getD 75 undef = .bool true from hM.at_ 3 (by decide) (by kernel_rfl))
                        have hg : aX.tmps.getD 75 undef = .bool true := hM.at_ 3 (by decide) (by kernel_rfl)
                        refine RegInv.op_valueW (by rfl) (RegInv.wanted_of 75 rfl rfl hg) (v := .int .i64 (b : Int)) (w' := w8) ?_ ⟨_, rfl, rfl, Below.refl _ _⟩
                        unfold execOp
                        go_simp
                      · cases hi
                        have h9 := gdq _ _ _ (show aX.tmps.getD 9 undef = .int .i64 (c : Int) from hM.off 9 (by kernel_rfl))
                        have h75 := gdq _ _ _ (show aX.tmps.getD 75 undef = .bool true from hM.at_ 3 (by decide) (by kernel_rfl))
                        have hg : aX.tmps.getD 75 undef = .bool true := hM.at_ 3 (by decide) (by kernel_rfl)
                        refine RegInv.op_valueW (by rfl) (RegInv.wanted_of 75 rfl rfl hg) (v := .int .i64 (c : Int)) (w' := w8) ?_ ⟨_, rfl, rfl, Below.refl _ _⟩
                        unfold execOp
                        go_simp
                      · cases hi
                        have h76 := gdq _ _ _ (show aX.tmps.getD 76 undef = .agg #[.string nm, .int .i64 pa, .int .i64 lo, .slice (some ac) code.length c3, .slice A4 hs.length c4] from hM.at_ 4 (by decide) (by kernel_rfl))
                        have h77 := gdq _ _ _ (show aX.tmps.getD 77 undef = .agg #[.slice (some r0) n d0, .slice (some r1) n d1, .slice (some r2) n d2, .slice (some r3) n d3, .slice a4 m d4] from hM.at_ 5 (by decide) (by kernel_rfl))
                        have h78 := gdq _ _ _ (show aX.tmps.getD 78 undef = .int .i64 (b : Int) from hM.at_ 6 (by decide) (by kernel_rfl))
                        have h79 := gdq _ _ _ (show aX.tmps.getD 79 undef = .int .i64 (c : Int) from hM.at_ 7 (by decide) (by kernel_rfl))
                        have h75 := gdq _ _ _ (show aX.tmps.getD 75 undef = .bool true from hM.at_ 3 (by decide) (by kernel_rfl))
                        have hg : aX.tmps.getD 75 undef = .bool true := hM.at_ 3 (by decide) (by kernel_rfl)
                        refine RegInv.op_callW (by rfl) (RegInv.wanted_of 75 rfl rfl hg) Try.func26 (by kernel_rfl) rfl rfl #[.agg #[.string nm, .int .i64 pa, .int .i64 lo, .slice (some ac) code.length c3, .slice A4 hs.length c4], .agg #[.slice (some r0) n d0, .slice (some r1) n d1, .slice (some r2) n d2, .slice (some r3) n d3, .slice a4 m d4], .int .i64 (b : Int), .int .i64 (c : Int)] (by simp [Act.eval, h76, h77, h78, h79, h75]) ?_
                        refine (HCC.out w8 hExt).mono ?_
                        rintro e w9 ⟨rfl, b9⟩
                        exact ⟨_, rfl, _, rfl, rfl, b9⟩
                      · cases hi
                        have h80 := gdq _ _ _ (show aX.tmps.getD 80 undef = .bool true from hM.at_ 8 (by decide) (by kernel_rfl))
                        have h75 := gdq _ _ _ (show aX.tmps.getD 75 undef = .bool true from hM.at_ 3 (by decide) (by kernel_rfl))
                        have hg : aX.tmps.getD 75 undef = .bool true := hM.at_ 3 (by decide) (by kernel_rfl)
                        refine RegInv.op_valueW (by rfl) (RegInv.wanted_of 75 rfl rfl hg) (v := .bool false) (w' := w8) ?_ ⟨_, rfl, rfl, Below.refl _ _⟩
                        unfold execOp
                        go_simp
                      · cases hi
                        have h75 := gdq _ _ _ (show aX.tmps.getD 75 undef = .bool true from hM.at_ 3 (by decide) (by kernel_rfl))
                        have h81 := gdq _ _ _ (show aX.tmps.getD 81 undef = .bool false from hM.at_ 9 (by decide) (by kernel_rfl))
                        refine RegInv.op_value (by rfl) rfl (v := .bool false) (w' := w8) ?_ ⟨_, rfl, rfl, Below.refl _ _⟩
                        unfold execOp
                        go_simp
                      · cases hi
                        have h82 := gdq _ _ _ (show aX.tmps.getD 82 undef = .bool false from hM.at_ 10 (by decide) (by kernel_rfl))
                        refine RegInv.op_value (by rfl) rfl (v := .bool false) (w' := w8) ?_ ⟨_, rfl, rfl, Below.refl _ _⟩
                        unfold execOp
                        go_simp
                      · cases hi
                        have hg : aX.tmps.getD 83 undef = .bool false := hM.at_ 11 (by decide) (by kernel_rfl)
                        refine RegInv.op_unwanted (by rfl) (RegInv.wanted_not (b := true) 83 rfl rfl hg (by simp [undef])) ⟨undef, rfl, rfl, Below.refl _ _⟩
                      · cases hi
                        have hg : aX.tmps.getD 83 undef = .bool false := hM.at_ 11 (by decide) (by kernel_rfl)
                        refine RegInv.op_unwanted (by rfl) (RegInv.wanted_not (b := true) 83 rfl rfl hg (by simp [undef])) ⟨undef, rfl, rfl, Below.refl _ _⟩
                      · cases hi
                        have hg : aX.tmps.getD 83 undef = .bool false := hM.at_ 11 (by decide) (by kernel_rfl)
                        refine RegInv.op_unwanted (by rfl) (RegInv.wanted_not (b := true) 83 rfl rfl hg (by simp [undef])) ⟨undef, rfl, rfl, Below.refl _ _⟩
                      · cases hi
                        have hg : aX.tmps.getD 83 undef = .bool false := hM.at_ 11 (by decide) (by kernel_rfl)
                        refine RegInv.op_unwanted (by rfl) (RegInv.wanted_not (b := true) 83 rfl rfl hg (by simp [undef])) ⟨undef, rfl, rfl, Below.refl _ _⟩
                      · cases hi
                        have hg : aX.tmps.getD 83 undef = .bool false := hM.at_ 11 (by decide) (by kernel_rfl)
                        refine RegInv.op_unwanted (by rfl) (RegInv.wanted_not (b := true) 83 rfl rfl hg (by simp [undef])) ⟨undef, rfl, rfl, Below.refl _ _⟩
                      · cases hi
                        have hg : aX.tmps.getD 83 undef = .bool false := hM.at_ 11 (by decide) (by kernel_rfl)
                        refine RegInv.op_unwanted (by rfl) (RegInv.wanted_not (b := true) 83 rfl rfl hg (by simp [undef])) ⟨undef, rfl, rfl, Below.refl _ _⟩
                      · cases hi
                        have hg : aX.tmps.getD 83 undef = .bool false := hM.at_ 11 (by decide) (by kernel_rfl)
                        refine RegInv.op_unwanted (by rfl) (RegInv.wanted_not (b := true) 83 rfl rfl hg (by simp [undef])) ⟨undef, rfl, rfl, Below.refl _ _⟩
                      · cases hi
                        have hg : aX.tmps.getD 83 undef = .bool false := hM.at_ 11 (by decide) (by kernel_rfl)
                        refine RegInv.op_unwanted (by rfl) (RegInv.wanted_not (b := true) 83 rfl rfl hg (by simp [undef])) ⟨undef, rfl, rfl, Below.refl _ _⟩
                      · cases hi
                        have hg : aX.tmps.getD 83 undef = .bool false := hM.at_ 11 (by decide) (by kernel_rfl)
                        refine RegInv.op_unwanted (by rfl) (RegInv.wanted_not (b := true) 83 rfl rfl hg (by simp [undef])) ⟨undef, rfl, rfl, Below.refl _ _⟩
                      · cases hi
                        have h83 := gdq _ _ _ (show aX.tmps.getD 83 undef = .bool false from hM.at_ 11 (by decide) (by kernel_rfl))
                        have h92 := gdq _ _ _ (show aX.tmps.getD 92 undef = undef from hM.at_ 20 (by decide) (by kernel_rfl))
                        refine RegInv.op_value (by rfl) rfl (v := .bool false) (w' := w8) ?_ ⟨_, rfl, rfl, Below.refl _ _⟩
                        unfold execOp
                        go_simp
                      · exact absurd hltI (by omega)
                    case heBC =>
                      intro vs w8 hExt hvs
                      have v0 : vs 0 = .int .i64 (c : Int) := hvs 0 (by decide)
                      have v1 : vs 1 = .int .i64 (b : Int) := hvs 1 (by decide)
                      have v2 : vs 2 = .bool true := hvs 2 (by decide)
                      have v3 : vs 3 = .bool true := hvs 3 (by decide)
                      have v4 : vs 4 = .agg #[.string nm, .int .i64 pa, .int .i64 lo, .slice (some ac) code.length c3, .slice A4 hs.length c4] := hvs 4 (by decide)
                      have v5 : vs 5 = .agg #[.slice (some r0) n d0, .slice (some r1) n d1, .slice (some r2) n d2, .slice (some r3) n d3, .slice a4 m d4] := hvs 5 (by decide)
                      have v6 : vs 6 = .int .i64 (b : Int) := hvs 6 (by decide)
                      have v7 : vs 7 = .int .i64 (c : Int) := hvs 7 (by decide)
                      have v8 : vs 8 = .bool true := hvs 8 (by decide)
                      have v9 : vs 9 = .bool false := hvs 9 (by decide)
                      have v10 : vs 10 = .bool false := hvs 10 (by decide)
                      have v11 : vs 11 = .bool false := hvs 11 (by decide)
                      have v12 : vs 12 = undef := hvs 12 (by decide)
                      have v13 : vs 13 = undef := hvs 13 (by decide)
                      have v14 : vs 14 = undef := hvs 14 (by decide)
                      have v15 : vs 15 = undef := hvs 15 (by decide)
                      have v16 : vs 16 = undef := hvs 16 (by decide)
                      have v17 : vs 17 = undef := hvs 17 (by decide)
                      have v18 : vs 18 = undef := hvs 18 (by decide)
                      have v19 : vs 19 = undef := hvs 19 (by decide)
                      have v20 : vs 20 = undef := hvs 20 (by decide)
                      have v21 : vs 21 = .bool false := hvs 21 (by decide)
                      simp only [RegInv.puts, dBC, Act.put, List.range, List.range.loop, List.setIfInBounds_toArray, List.set_cons_zero, List.set_cons_succ, v0, v1, v2, v3, v4, v5, v6, v7, v8, v9, v10, v11, v12, v13, v14, v15, v16, v17, v18, v19, v20, v21]
                      clear hvs v0 v1 v2 v3 v4 v5 v6 v7 v8 v9 v10 v11 v12 v13 v14 v15 v16 v17 v18 v19 v20 v21
                      go_wp2_with (fail)
                      go_meet
                      case rel => exact ⟨rfl, hExt⟩
                  · have hin := HG.out.head_in HBN.out HCN.out hle (HMAY.out.1 HY.out) hca
                    rw [hsc] at hin
                    have HCC : Aside0 (∀ w8 : World, Below w5.heap.size w5 w8 → Calls Try.prog 26 #[.agg #[.string nm, .int .i64 pa, .int .i64 lo, .slice (some ac) code.length c3, .slice A4 hs.length c4], .agg #[.slice (some r0) n d0, .slice (some r1) n d1, .slice (some r2) n d2, .slice (some r3) n d3, .slice a4 m d4], .int .i64 (b : Int), .int .i64 (c : Int)] w8 fun e w' => e = .returned (.bool false) ∧ Below w8.heap.size w8 w') := ⟨fun w8 h8 => (caught_own HG.out (HV.out.below h8) HN.out HHN.out (Kd.C_below (Kd.C_below HC.out HBS.out.below) h8) HC3.out (Kd.C_below (Kd.C_below HH.out HBS.out.below) h8) HC4.out HBN.out HCN.out).mono fun e w' ⟨r, he, hr, hb⟩ => ⟨by
                      have : r = false := by
                        cases r with
                        | false => rfl
                        | true => exact absurd (hr.1 rfl) hca
                      rw [he, this], hb⟩⟩
                    have HIN : Aside0 (∀ w8 : World, Below w5.heap.size w5 w8 → Calls Try.prog 24 #[.slice a4 m d4, .int .i64 sc] w8 fun e w' => e = .returned (.bool true) ∧ Drawn0 w8 w') := ⟨fun w8 h8 => by
                      have h9 := in_own (c := d4) (A := a4) (l := hd) (W := w8) sc (HG.out.lm.symm ▸ (HV.out.below h8).r4) (by rw [HG.out.lm]; exact HV.out.k4) (by rw [HG.out.lm]; have := HMB.out; omega)
                      rw [HG.out.lm, decide_eq_true hin] at h9
                      exact h9⟩
                    clear q1 hsc hca hle hin
                    refine RegInv.region_facts (by kernel_rfl) (by kernel_rfl) (fun a b => Below a.heap.size a b) (fun a b c h k => h.trans (k.mono h.size)) (below_drew1 (Below.refl _ _)) dBN 22 (by kernel_rfl) (by kernel_rfl) (by kernel_rfl) (FBN nm pa lo ac A4 c3 c4 code.length hs.length r0 r1 r2 r3 a4 d0 d1 d2 d3 d4 n m GB b c sc) (FBN_below nm pa lo ac A4 c3 c4 code.length hs.length r0 r1 r2 r3 a4 d0 d1 d2 d3 d4 n m GB b c sc) ?hsBN ?heBN
                    case hsBN =>
                      intro i o aX w8 hi hM
                      have hltI : i < 22 := (Array.getElem?_eq_some_iff.1 hi).1
                      have hExt := hM.ext
                      have q1 := pw_cell_below hExt HQ1.out
                      have g0 := cell_blk (blk_below HBS.out.gb hExt) HKG.out.1
                      have g1 := cell_blk (blk_below HBS.out.gb hExt) HKG.out.2.1
                      have g2 := cell_blk (blk_below HBS.out.gb hExt) HKG.out.2.2.1
                      have g3 := cell_blk (blk_below HBS.out.gb hExt) HKG.out.2.2.2.1
                      have g4 := cell_blk (blk_below HBS.out.gb hExt) HKG.out.2.2.2.2
                      have f0 := cell_blk (blk_below HBS.out.fb hExt) HKF.out.1
                      have f1 := cell_blk (blk_below HBS.out.fb hExt) HKF.out.2.1
                      have f2 := cell_blk (blk_below HBS.out.fb hExt) HKF.out.2.2.1
                      have f3 := cell_blk (blk_below HBS.out.fb hExt) HKF.out.2.2.2.1
                      have f4 := cell_blk (blk_below HBS.out.fb hExt) HKF.out.2.2.2.2
                      rcases i with _ | _ | _ | _ | _ | _ | _ | _ | _ | _ | _ | _ | _ | _ | _ | _ | _ | _ | _ | _ | _ | _ | i
                      · cases hi
                        have h9 := gdq _ _ _ (show aX.tmps.getD 9 undef = .int .i64 (c : Int) from hM.off 9 (by kernel_rfl))
                        refine RegInv.op_value (by rfl) rfl (v := .int .i64 (c : Int)) (w' := w8) ?_ ⟨_, rfl, rfl, Below.refl _ _⟩
                        unfold execOp
                        go_simp
                      · cases hi
                        have h7 := gdq _ _ _ (show aX.tmps.getD 7 undef = .int .i64 (b : Int) from hM.off 7 (by kernel_rfl))
                        refine RegInv.op_value (by rfl) rfl (v := .int .i64 (b : Int)) (w' := w8) ?_ ⟨_, rfl, rfl, Below.refl _ _⟩
                        unfold execOp
                        go_simp
                      · cases hi
                        have h72 := gdq _ _ _ (show aX.tmps.getD 72 undef = .int .i64 (c : Int) from hM.at_ 0 (by decide) (by kernel_rfl))
                        have h73 := gdq _ _ _ (show aX.tmps.getD 73 undef = .int .i64 (b : Int) from hM.at_ 1 (by decide) (by kernel_rfl))
                        refine RegInv.op_value (by rfl) rfl (v := .bool true) (w' := w8) ?_ ⟨_, rfl, rfl, Below.refl _ _⟩
                        unfold execOp
                        go_simp
                      · cases hi
                        have h74 := gdq _ _ _ (show aX.tmps.getD 74 undef = .bool true from hM.at_ 2 (by decide) (by kernel_rfl))
                        refine RegInv.op_value (by rfl) rfl (v := .bool true) (w' := w8) ?_ ⟨_, rfl, rfl, Below.refl _ _⟩
                        unfold execOp
                        go_simp
                      · cases hi
                        have h1 := gdq _ _ _ (show aX.tmps.getD 1 undef = .pointer (some ⟨w.heap.size, 0, none⟩) from hM.off 1 (by kernel_rfl))
                        have h75 := gdq _ _ _ (show aX.tmps.getD 75 undef = .bool true from hM.at_ 3 (by decide) (by kernel_rfl))
                        have hg : aX.tmps.getD 75 undef = .bool true := hM.at_ 3 (by decide) (by kernel_rfl)
                        refine RegInv.op_valueW (by rfl) (RegInv.wanted_of 75 rfl rfl hg) (v := .agg #[.string nm, .int .i64 pa, .int .i64 lo, .slice (some ac) code.length c3, .slice A4 hs.length c4]) (w' := w8) ?_ ⟨_, rfl, rfl, Below.refl _ _⟩
                        unfold execOp
                        go_simp
                      · cases hi
                        have h3 := gdq _ _ _ (show aX.tmps.getD 3 undef = .pointer (some ⟨GB, 0, none⟩) from hM.off 3 (by kernel_rfl))
                        have h75 := gdq _ _ _ (show aX.tmps.getD 75 undef = .bool true from hM.at_ 3 (by decide) (by kernel_rfl))
                        have hg : aX.tmps.getD 75 undef = .bool true := hM.at_ 3 (by decide) (by kernel_rfl)
                        refine RegInv.op_valueW (by rfl) (RegInv.wanted_of 75 rfl rfl hg) (v := .agg #[.slice (some r0) n d0, .slice (some r1) n d1, .slice (some r2) n d2, .slice (some r3) n d3, .slice a4 m d4]) (w' := w8) ?_ ⟨_, rfl, rfl, Below.refl _ _⟩
                        unfold execOp
                        go_simp
                      · cases hi
                        have h7 := gdq _ _ _ (show aX.tmps.getD 7 undef = .int .i64 (b : Int) from hM.off 7 (by kernel_rfl))
                        have h75 := gdq _ _ _ (show aX.tmps.getD 75 undef = .bool true from hM.at_ 3 (by decide) (by kernel_rfl))
                        have hg : aX.tmps.getD 75 undef = .bool true := hM.at_ 3 (by decide) (by kernel_rfl)
                        refine RegInv.op_valueW (by rfl) (RegInv.wanted_of 75 rfl rfl hg) (v := .int .i64 (b : Int)) (w' := w8) ?_ ⟨_, rfl, rfl, Below.refl _ _⟩
                        unfold execOp
                        go_simp
                      · cases hi
                        have h9 := gdq _ _ _ (show aX.tmps.getD 9 undef = .int .i64 (c : Int) from hM.off 9 (by kernel_rfl))
                        have h75 := gdq _ _ _ (show aX.tmps.getD 75 undef = .bool true from hM.at_ 3 (by decide) (by kernel_rfl))
                        have hg : aX.tmps.getD 75 undef = .bool true := hM.at_ 3 (by decide) (by kernel_rfl)
                        refine RegInv.op_valueW (by rfl) (RegInv.wanted_of 75 rfl rfl hg) (v := .int .i64 (c : Int)) (w' := w8) ?_ ⟨_, rfl, rfl, Below.refl _ _⟩
                        unfold execOp
                        go_simp
                      · cases hi
                        have h76 := gdq _ _ _ (show aX.tmps.getD 76 undef = .agg #[.string nm, .int .i64 pa, .int .i64 lo, .slice (some ac) code.length c3, .slice A4 hs.length c4] from hM.at_ 4 (by decide) (by kernel_rfl))
                        have h77 := gdq _ _ _ (show aX.tmps.getD 77 undef = .agg #[.slice (some r0) n d0, .slice (some r1) n d1, .slice (some r2) n d2, .slice (some r3) n d3, .slice a4 m d4] from hM.at_ 5 (by decide) (by kernel_rfl))
                        have h78 := gdq _ _ _ (show aX.tmps.getD 78 undef = .int .i64 (b : Int) from hM.at_ 6 (by decide) (by kernel_rfl))
                        have h79 := gdq _ _ _ (show aX.tmps.getD 79 undef = .int .i64 (c : Int) from hM.at_ 7 (by decide) (by kernel_rfl))
                        have h75 := gdq _ _ _ (show aX.tmps.getD 75 undef = .bool true from hM.at_ 3 (by decide) (by kernel_rfl))
                        have hg : aX.tmps.getD 75 undef = .bool true := hM.at_ 3 (by decide) (by kernel_rfl)
                        refine RegInv.op_callW (by rfl) (RegInv.wanted_of 75 rfl rfl hg) Try.func26 (by kernel_rfl) rfl rfl #[.agg #[.string nm, .int .i64 pa, .int .i64 lo, .slice (some ac) code.length c3, .slice A4 hs.length c4], .agg #[.slice (some r0) n d0, .slice (some r1) n d1, .slice (some r2) n d2, .slice (some r3) n d3, .slice a4 m d4], .int .i64 (b : Int), .int .i64 (c : Int)] (by simp [Act.eval, h76, h77, h78, h79, h75]) ?_
                        refine (HCC.out w8 hExt).mono ?_
                        rintro e w9 ⟨rfl, b9⟩
                        exact ⟨_, rfl, _, rfl, rfl, b9⟩
                      · cases hi
                        have h80 := gdq _ _ _ (show aX.tmps.getD 80 undef = .bool false from hM.at_ 8 (by decide) (by kernel_rfl))
                        have h75 := gdq _ _ _ (show aX.tmps.getD 75 undef = .bool true from hM.at_ 3 (by decide) (by kernel_rfl))
                        have hg : aX.tmps.getD 75 undef = .bool true := hM.at_ 3 (by decide) (by kernel_rfl)
                        refine RegInv.op_valueW (by rfl) (RegInv.wanted_of 75 rfl rfl hg) (v := .bool true) (w' := w8) ?_ ⟨_, rfl, rfl, Below.refl _ _⟩
                        unfold execOp
                        go_simp
                      · cases hi
                        have h75 := gdq _ _ _ (show aX.tmps.getD 75 undef = .bool true from hM.at_ 3 (by decide) (by kernel_rfl))
                        have h81 := gdq _ _ _ (show aX.tmps.getD 81 undef = .bool true from hM.at_ 9 (by decide) (by kernel_rfl))
                        refine RegInv.op_value (by rfl) rfl (v := .bool true) (w' := w8) ?_ ⟨_, rfl, rfl, Below.refl _ _⟩
                        unfold execOp
                        go_simp
                      · cases hi
                        have h82 := gdq _ _ _ (show aX.tmps.getD 82 undef = .bool true from hM.at_ 10 (by decide) (by kernel_rfl))
                        refine RegInv.op_value (by rfl) rfl (v := .bool true) (w' := w8) ?_ ⟨_, rfl, rfl, Below.refl _ _⟩
                        unfold execOp
                        go_simp
                      · cases hi
                        have h3 := gdq _ _ _ (show aX.tmps.getD 3 undef = .pointer (some ⟨GB, 0, none⟩) from hM.off 3 (by kernel_rfl))
                        have h83 := gdq _ _ _ (show aX.tmps.getD 83 undef = .bool true from hM.at_ 11 (by decide) (by kernel_rfl))
                        have hg : aX.tmps.getD 83 undef = .bool true := hM.at_ 11 (by decide) (by kernel_rfl)
                        refine RegInv.op_valueW (by rfl) (RegInv.wanted_of 83 rfl rfl hg) (v := .pointer (some ⟨GB, 4, none⟩)) (w' := w8) ?_ ⟨_, rfl, rfl, Below.refl _ _⟩
                        unfold execOp
                        go_simp
                      · cases hi
                        have h84 := gdq _ _ _ (show aX.tmps.getD 84 undef = .pointer (some ⟨GB, 4, none⟩) from hM.at_ 12 (by decide) (by kernel_rfl))
                        have h83 := gdq _ _ _ (show aX.tmps.getD 83 undef = .bool true from hM.at_ 11 (by decide) (by kernel_rfl))
                        have hg : aX.tmps.getD 83 undef = .bool true := hM.at_ 11 (by decide) (by kernel_rfl)
                        refine RegInv.op_valueW (by rfl) (RegInv.wanted_of 83 rfl rfl hg) (v := .slice a4 m d4) (w' := w8) ?_ ⟨_, rfl, rfl, Below.refl _ _⟩
                        unfold execOp
                        go_simp
                      · cases hi
                        have h3 := gdq _ _ _ (show aX.tmps.getD 3 undef = .pointer (some ⟨GB, 0, none⟩) from hM.off 3 (by kernel_rfl))
                        have h83 := gdq _ _ _ (show aX.tmps.getD 83 undef = .bool true from hM.at_ 11 (by decide) (by kernel_rfl))
                        have hg : aX.tmps.getD 83 undef = .bool true := hM.at_ 11 (by decide) (by kernel_rfl)
                        refine RegInv.op_valueW (by rfl) (RegInv.wanted_of 83 rfl rfl hg) (v := .pointer (some ⟨GB, 0, none⟩)) (w' := w8) ?_ ⟨_, rfl, rfl, Below.refl _ _⟩
                        unfold execOp
                        go_simp
                      · cases hi
                        have h86 := gdq _ _ _ (show aX.tmps.getD 86 undef = .pointer (some ⟨GB, 0, none⟩) from hM.at_ 14 (by decide) (by kernel_rfl))
                        have h83 := gdq _ _ _ (show aX.tmps.getD 83 undef = .bool true from hM.at_ 11 (by decide) (by kernel_rfl))
                        have hg : aX.tmps.getD 83 undef = .bool true := hM.at_ 11 (by decide) (by kernel_rfl)
                        refine RegInv.op_valueW (by rfl) (RegInv.wanted_of 83 rfl rfl hg) (v := .slice (some r0) n d0) (w' := w8) ?_ ⟨_, rfl, rfl, Below.refl _ _⟩
                        unfold execOp
                        go_simp
                      · cases hi
                        have h9 := gdq _ _ _ (show aX.tmps.getD 9 undef = .int .i64 (c : Int) from hM.off 9 (by kernel_rfl))
                        have h83 := gdq _ _ _ (show aX.tmps.getD 83 undef = .bool true from hM.at_ 11 (by decide) (by kernel_rfl))
                        have hg : aX.tmps.getD 83 undef = .bool true := hM.at_ 11 (by decide) (by kernel_rfl)
                        refine RegInv.op_valueW (by rfl) (RegInv.wanted_of 83 rfl rfl hg) (v := .int .i64 (c : Int)) (w' := w8) ?_ ⟨_, rfl, rfl, Below.refl _ _⟩
                        unfold execOp
                        go_simp
                      · cases hi
                        have h87 := gdq _ _ _ (show aX.tmps.getD 87 undef = .slice (some r0) n d0 from hM.at_ 15 (by decide) (by kernel_rfl))
                        have h88 := gdq _ _ _ (show aX.tmps.getD 88 undef = .int .i64 (c : Int) from hM.at_ 16 (by decide) (by kernel_rfl))
                        have h83 := gdq _ _ _ (show aX.tmps.getD 83 undef = .bool true from hM.at_ 11 (by decide) (by kernel_rfl))
                        have hg : aX.tmps.getD 83 undef = .bool true := hM.at_ 11 (by decide) (by kernel_rfl)
                        refine RegInv.op_valueW (by rfl) (RegInv.wanted_of 83 rfl rfl hg) (v := .pointer (some (r0.add c))) (w' := w8) ?_ ⟨_, rfl, rfl, Below.refl _ _⟩
                        unfold execOp
                        go_simp
                      · cases hi
                        have h89 := gdq _ _ _ (show aX.tmps.getD 89 undef = .pointer (some (r0.add c)) from hM.at_ 17 (by decide) (by kernel_rfl))
                        have h83 := gdq _ _ _ (show aX.tmps.getD 83 undef = .bool true from hM.at_ 11 (by decide) (by kernel_rfl))
                        have hg : aX.tmps.getD 83 undef = .bool true := hM.at_ 11 (by decide) (by kernel_rfl)
                        refine RegInv.op_valueW (by rfl) (RegInv.wanted_of 83 rfl rfl hg) (v := .int .i64 sc) (w' := w8) ?_ ⟨_, rfl, rfl, Below.refl _ _⟩
                        unfold execOp
                        go_simp
                      · cases hi
                        have h85 := gdq _ _ _ (show aX.tmps.getD 85 undef = .slice a4 m d4 from hM.at_ 13 (by decide) (by kernel_rfl))
                        have h90 := gdq _ _ _ (show aX.tmps.getD 90 undef = .int .i64 sc from hM.at_ 18 (by decide) (by kernel_rfl))
                        have h83 := gdq _ _ _ (show aX.tmps.getD 83 undef = .bool true from hM.at_ 11 (by decide) (by kernel_rfl))
                        have hg : aX.tmps.getD 83 undef = .bool true := hM.at_ 11 (by decide) (by kernel_rfl)
                        refine RegInv.op_callW (by rfl) (RegInv.wanted_of 83 rfl rfl hg) Try.func24 (by kernel_rfl) rfl rfl #[.slice a4 m d4, .int .i64 sc] (by simp [Act.eval, h85, h90, h83]) ?_
                        refine (HIN.out w8 hExt).mono ?_
                        rintro e w9 ⟨rfl, b9⟩
                        exact ⟨_, rfl, _, rfl, rfl, b9.below⟩
                      · cases hi
                        have h91 := gdq _ _ _ (show aX.tmps.getD 91 undef = .bool true from hM.at_ 19 (by decide) (by kernel_rfl))
                        have h83 := gdq _ _ _ (show aX.tmps.getD 83 undef = .bool true from hM.at_ 11 (by decide) (by kernel_rfl))
                        have hg : aX.tmps.getD 83 undef = .bool true := hM.at_ 11 (by decide) (by kernel_rfl)
                        refine RegInv.op_valueW (by rfl) (RegInv.wanted_of 83 rfl rfl hg) (v := .bool false) (w' := w8) ?_ ⟨_, rfl, rfl, Below.refl _ _⟩
                        unfold execOp
                        go_simp
                      · cases hi
                        have h83 := gdq _ _ _ (show aX.tmps.getD 83 undef = .bool true from hM.at_ 11 (by decide) (by kernel_rfl))
                        have h92 := gdq _ _ _ (show aX.tmps.getD 92 undef = .bool false from hM.at_ 20 (by decide) (by kernel_rfl))
                        refine RegInv.op_value (by rfl) rfl (v := .bool false) (w' := w8) ?_ ⟨_, rfl, rfl, Below.refl _ _⟩
                        unfold execOp
                        go_simp
                      · exact absurd hltI (by omega)
                    case heBN =>
                      intro vs w8 hExt hvs
                      have v0 : vs 0 = .int .i64 (c : Int) := hvs 0 (by decide)
                      have v1 : vs 1 = .int .i64 (b : Int) := hvs 1 (by decide)
                      have v2 : vs 2 = .bool true := hvs 2 (by decide)
                      have v3 : vs 3 = .bool true := hvs 3 (by decide)
                      have v4 : vs 4 = .agg #[.string nm, .int .i64 pa, .int .i64 lo, .slice (some ac) code.length c3, .slice A4 hs.length c4] := hvs 4 (by decide)
                      have v5 : vs 5 = .agg #[.slice (some r0) n d0, .slice (some r1) n d1, .slice (some r2) n d2, .slice (some r3) n d3, .slice a4 m d4] := hvs 5 (by decide)
                      have v6 : vs 6 = .int .i64 (b : Int) := hvs 6 (by decide)
                      have v7 : vs 7 = .int .i64 (c : Int) := hvs 7 (by decide)
                      have v8 : vs 8 = .bool false := hvs 8 (by decide)
                      have v9 : vs 9 = .bool true := hvs 9 (by decide)
                      have v10 : vs 10 = .bool true := hvs 10 (by decide)
                      have v11 : vs 11 = .bool true := hvs 11 (by decide)
                      have v12 : vs 12 = .pointer (some ⟨GB, 4, none⟩) := hvs 12 (by decide)
                      have v13 : vs 13 = .slice a4 m d4 := hvs 13 (by decide)
                      have v14 : vs 14 = .pointer (some ⟨GB, 0, none⟩) := hvs 14 (by decide)
                      have v15 : vs 15 = .slice (some r0) n d0 := hvs 15 (by decide)
                      have v16 : vs 16 = .int .i64 (c : Int) := hvs 16 (by decide)
                      have v17 : vs 17 = .pointer (some (r0.add c)) := hvs 17 (by decide)
                      have v18 : vs 18 = .int .i64 sc := hvs 18 (by decide)
                      have v19 : vs 19 = .bool true := hvs 19 (by decide)
                      have v20 : vs 20 = .bool false := hvs 20 (by decide)
                      have v21 : vs 21 = .bool false := hvs 21 (by decide)
                      simp only [RegInv.puts, dBN, Act.put, List.range, List.range.loop, List.setIfInBounds_toArray, List.set_cons_zero, List.set_cons_succ, v0, v1, v2, v3, v4, v5, v6, v7, v8, v9, v10, v11, v12, v13, v14, v15, v16, v17, v18, v19, v20, v21]
                      clear hvs v0 v1 v2 v3 v4 v5 v6 v7 v8 v9 v10 v11 v12 v13 v14 v15 v16 v17 v18 v19 v20 v21
                      go_wp2_with (fail)
                      go_meet
                      case rel => exact ⟨rfl, hExt⟩
                · have z1 : decide ((c : Int) ≤ (b : Int)) = false := decide_eq_false (by omega)
                  have z1' : decide (c ≤ b) = false := decide_eq_false hle
                  clear hle
                  go_big_quiet (fail)
                  go_wp2_with (fail)
                  go_meet
                  case rel => exact ⟨rfl, pw_below_drewN (Below.refl _ _) _⟩
              case rest =>
                obtain ⟨rfl, hbc⟩ := hcut
                have HB6 := Aside0.mk (HBW5.out.trans (hbc.mono HBW5.out.size))
                clear hbc HBW5 HBS HV
                go_wp2_with (fail)
                go_roundw
                case measure => simp [intOf]; omega
                case rel => exact ⟨c + 1, k + 1, HCN.out, by first | rfl | go_num, by first | rfl | go_num, HAT.out.yes HRISE.out HY.out.1 HY.out.2, HB6.out⟩
            · have HNY := Aside0.mk hyes
              by_cases hkl : k < row.length
              · have hkr : (k : Int) < (row.length : Int) := by omega
                have hk0 : (0 : Int) ≤ (k : Int) := by omega
                obtain ⟨ad, e, q2⟩ := Kd.at_int hC9 (k : Int) hk0 hkr
                subst e
                obtain ⟨x, hx⟩ : ∃ x, rd row (k : Int) = x := ⟨_, rfl⟩
                rw [Int.toNat_natCast, hx] at q2
                have t1 : (x == (c : Int)) = false := by simp; exact fun e => hyes ⟨hkl, hx.trans e⟩
                clear hC9 hkl hyes hx
                go_wp2_with (fail)
                have hmay := may_own HG.out HV.out HN.out HHN.out (Kd.C_below HC.out HBS.out.below) HC3.out (Kd.C_below HH.out HBS.out.below) HC4.out HBN.out HCN.out (nm := nm) (pa := pa) (lo := lo)
                refine hmay.mono ?_
                rintro e w5 ⟨r, rfl, hr, hb5⟩
                have hrt : r = false := by
                  cases r with
                  | false => rfl
                  | true => exact absurd (HMAY.out.2 (hr.1 rfl)) HNY.out
                subst hrt
                have HBW5 := Aside0.mk (HBW.out.trans (hb5.mono HBW.out.size))
                clear hmay hr hb5 HBS HV HBW q1 q2 f0 f1 f2 f3 f4 g0 g1 g2 g3 g4
                go_wp2_with (fail)
                go_roundw
                case measure => simp [intOf]; omega
                case rel => exact ⟨c + 1, k, HCN.out, by first | rfl | go_num, by first | rfl | go_num, HAT.out.no HRISE.out HNY.out, HBW5.out⟩
              · have hkr : (row.length : Int) ≤ (k : Int) := by omega
                clear hC9 hkl hyes
                go_wp2_with (fail)
                have hmay := may_own HG.out HV.out HN.out HHN.out (Kd.C_below HC.out HBS.out.below) HC3.out (Kd.C_below HH.out HBS.out.below) HC4.out HBN.out HCN.out (nm := nm) (pa := pa) (lo := lo)
                refine hmay.mono ?_
                rintro e w5 ⟨r, rfl, hr, hb5⟩
                have hrt : r = false := by
                  cases r with
                  | false => rfl
                  | true => exact absurd (HMAY.out.2 (hr.1 rfl)) HNY.out
                subst hrt
                have HBW5 := Aside0.mk (HBW.out.trans (hb5.mono HBW.out.size))
                clear hmay hr hb5 HBS HV HBW q1 f0 f1 f2 f3 f4 g0 g1 g2 g3 g4
                go_wp2_with (fail)
                go_roundw
                case measure => simp [intOf]; omega
                case rel => exact ⟨c + 1, k, HCN.out, by first | rfl | go_num, by first | rfl | go_num, HAT.out.no HRISE.out HNY.out, HBW5.out⟩
          · have hcn : (n : Int) ≤ (c : Int) := by omega
            clear hc hcl hB hat
            go_wp2_with (fail)
            go_roundw
            case measure => simp [intOf]; omega
            case rel => exact ⟨b + 1, HBN.out, by first | rfl | go_num, HBW.out⟩
      · have hbn : (n : Int) ≤ (b : Int) := by omega
        clear hb hbl hB
        go_wp2_with (fail)
        (try rw [show decide (b < n) = false from decide_eq_false (by omega)])
        go_loopw [11] (fun v wr => ∃ i : Nat, i ≤ m ∧ v = .int .i64 (i : Int) ∧ Below W2.heap.size W2 wr) (fun v _ => ((m : Int) - intOf v).toNat)
        case atStart => exact ⟨0, Nat.zero_le _, rfl, HBW.out⟩
        case round =>
          clear HBW
          obtain ⟨i, hi, rfl, hB⟩ := hrel
          have HBW := Aside0.mk hB
          have HBS := Aside0.mk (HBZ.out.from_ hB)
          have HV := Aside0.mk (HVZ.out.below hB)
          have him : i < 9223372036854775807 := by have := HMB.out; omega
          have g4 := cell_blk HBS.out.gb HKG.out.2.2.2.2
          by_cases hil : i < m
          · have hin : (i : Int) < (m : Int) := by omega
            have hi0 : (0 : Int) ≤ (i : Int) := by omega
            have HIL := Aside0.mk hil
            obtain ⟨r4, e, q4⟩ := Kd.at_int HV.out.r4 (i : Int) hi0 hin
            subst e
            rw [Int.toNat_natCast] at q4
            obtain ⟨p, hp_⟩ : ∃ p, rd hd (i : Int) = p := ⟨_, rfl⟩
            have hled := HG.out.head_led hil
            rw [hp_] at q4 hled
            have HP := Aside0.mk hp_
            have HLED := Aside0.mk hled
            clear hi hil hB hp_ hled
            go_wp2_with (fail)
            clear q4 g4
            go_loopw [13, 14] (fun v i wr => ∃ (k : Nat) (wb : Bool), k ≤ code.length ∧ v = .bool wb ∧ i = .int .i64 (k : Int) ∧ (LedTo code k p → wb = true) ∧ Below W2.heap.size W2 wr) (fun _ i _ => ((code.length : Int) - intOf i).toNat)
            case atStart => exact ⟨0, false, Nat.zero_le _, rfl, rfl, (by rintro ⟨q, i, hq, _⟩; omega), HBW.out⟩
            case round =>
              clear HBW HBS HV
              obtain ⟨k, wb, hk, rfl, rfl, hwb, hB⟩ := hrel
              have HBW := Aside0.mk hB
              have HBS := Aside0.mk (HBZ.out.from_ hB)
              have HWB := Aside0.mk hwb
              have f3 := cell_blk HBS.out.fb HKF.out.2.2.2.1
              by_cases hkc : k < code.length
              · have hkc' : (k : Int) < (code.length : Int) := by omega
                have hk0 : (0 : Int) ≤ (k : Int) := by omega
                have HKC := Aside0.mk hkc
                have hkm : k < 9223372036854775807 := by have := HN.out; omega
                obtain ⟨x, e0, h0, h1⟩ := at_T40 (Kd.C_below HC.out HBS.out.below) (k : Int) hk0 hkc'
                cases e0
                rw [Int.toNat_natCast] at h0 h1
                have hst := LedTo_step hkc p
                obtain ⟨y, hy⟩ : ∃ i, rd_T40 code (k : Int) = i := ⟨_, rfl⟩
                rw [hy] at h0 h1 hst
                have HST := Aside0.mk hst
                clear hst hy hk hkc hwb hB
                cases wb with
                | true =>
                  clear h0 h1
                  go_wp2_with (fail)
                  go_roundw
                  case measure => simp [intOf]; omega
                  case rel => exact ⟨k + 1, true, HKC.out, rfl, by first | rfl | go_num, fun _ => rfl, HBW.out⟩
                | false =>
                  go_wp2_with (fail)
                  refine (portagelaw09_jumps.calls _ _ _ (ljumps_f _)).mono ?_
                  rintro e w9 ⟨rfl, hd9⟩
                  have HB9 := Aside0.mk (HBW.out.trans (hd9.below.mono HBW.out.size))
                  obtain ⟨d9, rfl⟩ := hd9.out
                  obtain ⟨jb, hjb⟩ : ∃ jb, jumpsP y.f0 = jb := ⟨_, rfl⟩
                  rw [hjb]
                  have HJB := Aside0.mk hjb
                  clear hd9 hjb HBS HBW
                  cases jb with
                  | false =>
                    clear h0 h1
                    go_wp2_with (fail)
                    go_roundw
                    case measure => simp [intOf]; omega
                    case rel =>
                      refine ⟨k + 1, false, HKC.out, rfl, by first | rfl | go_num, fun h => ?_, HB9.out⟩
                      rcases HST.out.1 h with h | h
                      · exact HWB.out h
                      · rw [HJB.out] at h; exact absurd h.1 (by decide)
                  | true =>
                    by_cases hes : y.f1 = p
                    · have t1 : (y.f1 == p) = true := by simpa using hes
                      by_cases hpk : p ≤ (k : Int)
                      · have t2 : decide (p ≤ (k : Int)) = true := decide_eq_true hpk
                        clear hes hpk
                        go_wp2_with (fail)
                        go_roundw
                        case measure => simp [intOf]; omega
                        case rel => exact ⟨k + 1, true, HKC.out, rfl, by first | rfl | go_num, fun _ => rfl, HB9.out⟩
                      · have t2 : decide (p ≤ (k : Int)) = false := decide_eq_false hpk
                        have HPK := Aside0.mk hpk
                        clear hes hpk
                        go_wp2_with (fail)
                        go_roundw
                        case measure => simp [intOf]; omega
                        case rel =>
                          refine ⟨k + 1, false, HKC.out, rfl, by first | rfl | go_num, fun h => ?_, HB9.out⟩
                          rcases HST.out.1 h with h | h
                          · exact HWB.out h
                          · exact absurd h.2.2 (by have := HPK.out; omega)
                    · have t1 : (y.f1 == p) = false := by simpa using hes
                      have HES := Aside0.mk hes
                      clear hes
                      go_wp2_with (fail)
                      go_roundw
                      case measure => simp [intOf]; omega
                      case rel =>
                        refine ⟨k + 1, false, HKC.out, rfl, by first | rfl | go_num, fun h => ?_, HB9.out⟩
                        rcases HST.out.1 h with h | h
                        · exact HWB.out h
                        · exact absurd h.2.1 HES.out
              · have hkc' : (code.length : Int) ≤ (k : Int) := by omega
                have hkk : k = code.length := by omega
                subst hkk
                have hwt : wb = true := hwb HLED.out
                subst hwt
                have g4 := cell_blk HBS.out.gb HKG.out.2.2.2.2
                clear hk hkc hB hwb HWB
                by_cases hz : i = 0
                · subst hz
                  rw [show ((0 : Nat) : Int) = 0 from rfl] at hin ⊢
                  go_wp2_with (fail)
                  go_roundw
                  case measure => simp [intOf]; omega
                  case rel => exact ⟨1, by have := HIL.out; omega, by first | rfl | go_num, HBW.out⟩
                · obtain ⟨i', hi'⟩ : ∃ i' : Nat, i = i' + 1 := ⟨i - 1, by omega⟩
                  have z1 : decide ((0 : Int) < (i : Int)) = true := decide_eq_true (by omega)
                  have z1' : decide (0 < i) = true := decide_eq_true (by omega)
                  have z2 : IntKind.i64.wrap ((i : Int) - 1) = (i' : Int) := by rw [i64_w]; unfold wrap64; omega
                  have hj0 : (0 : Int) ≤ (i' : Int) := by omega
                  have hj1 : (i' : Int) < (m : Int) := by omega
                  obtain ⟨x, e, q5⟩ := Kd.at_int (HVZ.out.below HBW.out).r4 (i' : Int) hj0 hj1
                  cases e
                  rw [Int.toNat_natCast] at q5
                  have hup := HG.out.head_up (i := i') (by omega)
                  rw [← hi', HP.out] at hup
                  obtain ⟨p', hp'⟩ : ∃ p', rd hd (i' : Int) = p' := ⟨_, rfl⟩
                  rw [hp'] at q5 hup
                  have t1 : decide (p ≤ p') = false := decide_eq_false (by omega)
                  clear hz hi' hup hp'
                  go_wp2_with (fail)
                  go_roundw
                  case measure => simp [intOf]; omega
                  case rel => exact ⟨i + 1, HIL.out, by first | rfl | go_num, HBW.out⟩
          · have hin : (m : Int) ≤ (i : Int) := by omega
            clear hi hil hB
            go_wp2_with (fail)
            go_ret
            exact ⟨rfl, HBS.out.below⟩

  · refine (flow_no nm pa lo A3 A4 c3 c4 code hs W0 (Kd.C_below HC.out HB0.out) HC3.out (Kd.C_below HH.out HB0.out) HC4.out hfit (by have := HN.out; omega) (by have := HHN.out; omega)).mono ?_
    rintro e w1 ⟨rfl, hb1⟩
    have HB1 := Aside0.mk (HB0.out.trans (hb1.mono HB0.out.size))
    clear hb1 f0 f1 f2 f3 f4 HFB HB0
    go_wp2_with (fail)
    go_ret
    exact ⟨rfl, below_alloc HB1.out _⟩
end Go.Proofs.Ytmeaepmimnmjlaa.Ask
