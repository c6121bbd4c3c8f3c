/- GraphAtOnce: the law's walk. -/
import Derived.Test.YtmeaepmimnmjlaaKf
namespace Go.Proofs.Ytmeaepmimnmjlaa.Ask
open Go.Proofs.Ytmeaepmimnmjlaa.Dfs Go.Proofs.Ytmeaepmimnmjlaa.Dom Go.Proofs.Ytmeaepmimnmjlaa.DomT Go.RowKit Go.Shelf Go.Proofs.Ytmeaepmimnmjlaa.PGb Go.Proofs.Ytmeaepmimnmjlaa.Lit Go.Proofs.Ytmeaepmimnmjlaa.OwnCells Go.Proofs.YtmeaepmimnmjlaaW.PrintWords Go.Proofs.YtmeaepmimnmjlaaW.PrintLast Go.Proofs.YtmeaepmimnmjlaaW.PrintMore
attribute [local go_sem] Oper.semAt_some
attribute [local go_sem] run_store_fn
attribute [local go_sem] run_eql_fn
set_option linter.unusedVariables false
set_option linter.unusedSimpArgs false
theorem add0 (g k : Nat) : (⟨g, 0, none⟩ : Addr).add k = ⟨g, k, none⟩ := by by_cases h : k = 0 <;> simp [Addr.add, h]
theorem row_Cb {w : World} {base : Nat} {A : Option Addr} {c : Nat} {l : List Bool} (h : w.ownsRow base 4 1 (.slice A l.length c) l.length (l.map Value.bool)) : Kd.bool.C w A l.length l ∧ l.length ≤ c := by
  have hR : Kd.bool.R 4 w base (fun _ => True) (.slice A l.length c) l := Kd.R_of_own h (fun _ _ => trivial)
  obtain ⟨_, h1, h2⟩ := Kd.R_reads' hR
  exact ⟨h2, h1⟩
/-- a list of marks of the call's own -/
structure MR (W : World) (base n : Nat) (nx : List (List Int)) (d : Int) (v : Value) (is : List Bool) : Prop where
  own : W.ownsRow base 4 1 v n (is.map Value.bool)
  len : is.length = n
  mean : ∀ x : Nat, x < n → (rdOf false is (x : Int) = true ↔ Goes nx 0 d (x : Int))
theorem MR.below {W W' : World} {base n : Nat} {nx : List (List Int)} {d : Int} {v : Value} {is : List Bool} (h : MR W base n nx d v is) (hb : Below W.heap.size W W') : MR W' base n nx d v is := ⟨own_move h.own fun k hk => hb.block k (own_lt h.own k hk), h.len, h.mean⟩
/-- the lists, one for each block -/
structure LF (W : World) (base n k : Nat) (nx : List (List Int)) (vs : List Value) : Prop where
  len : vs.length = k
  each : ∀ j : Nat, j < k → ∃ is, MR W base n nx (j : Int) (vs.getD j undef) is
theorem LF.below {W W' : World} {base n k : Nat} {nx : List (List Int)} {vs : List Value} (h : LF W base n k nx vs) (hb : Below W.heap.size W W') : LF W' base n k nx vs := ⟨h.len, fun j hj => (h.each j hj).imp fun _ hm => hm.below hb⟩
theorem LF.more {W W' : World} {base n k : Nat} {nx : List (List Int)} {vs : List Value} {v7 v : Value} {is : List Bool} (h : LF W base n k nx vs) (hm : MR W base n nx (k : Int) v is) (h7 : W.ownsRow base 53 1 v7 k vs) (hg : W.grownBy W' v7.ownBlock) : LF W' base n (k + 1) nx (vs ++ [v]) := by
  have hl := h.len
  have key : ∀ {d : Int} {u : Value} {is : List Bool}, MR W base n nx d u is → MR W' base n nx d u is := fun hm => ⟨hm.own.kept hg (own_ne hm.own h7 (by decide)), hm.len, hm.mean⟩
  refine ⟨by rw [List.length_append, hl]; rfl, fun j hj => ?_⟩
  by_cases e : j = k
  · subst e
    refine ⟨is, ?_⟩
    have : (vs ++ [v]).getD j undef = v := by rw [List.getD_eq_getElem?_getD, List.getElem?_append_right (by omega)]; simp [hl]
    rw [this]; exact key hm
  · obtain ⟨is', hm'⟩ := h.each j (by omega)
    refine ⟨is', ?_⟩
    have : (vs ++ [v]).getD j undef = vs.getD j undef := by rw [List.getD_eq_getElem?_getD, List.getD_eq_getElem?_getD, List.getElem?_append_left (by omega)]
    rw [this]; exact key hm'
theorem reached_row {code : List S40} {hs : List S49} {n m : Nat} {st : List Int} {nx : List (List Int)} {ord l hd : List Int} {W : World} {a0 a1 a2 a3 a4 : Option Addr} {c0 c1 c2 c3 c4 : Nat} (g : GF code hs n m st nx ord l hd) (v : GV W a0 a1 a2 a3 a4 c0 c1 c2 c3 c4 n m st nx ord l hd) (hn : code.length ≤ 8796093022207) (d : Int) :
    Calls Try.prog 27 #[.agg #[.slice a0 n c0, .slice a1 n c1, .slice a2 n c2, .slice a3 n c3, .slice a4 m c4], .int .i64 d] W fun e w' => ∃ A c is, e = .returned (.slice A n c) ∧ MR w' W.heap.size n nx d (.slice A n c) is ∧ Below W.heap.size W w' := by
  have e0 := g.ln
  have e1 := g.lnx
  have e2 := g.lord
  have e3 := g.ll
  have e4 := g.lm
  have hsh := g.short
  obtain ⟨k, r, hk, hr, hsp⟩ := reached_f (d := d) st ord l hd g.wf (by omega) g.rows
  have := portagelaw09_reached.calls k a0 c0 st a1 c1 nx a2 c2 ord a3 c3 l a4 c4 hd d r W (e0.symm ▸ v.r0) (e0.symm ▸ v.k0) (e1.symm ▸ v.r1) (e1.symm ▸ v.k1) (e2.symm ▸ v.r2) (e2.symm ▸ v.k2) (e3.symm ▸ v.r3) (e3.symm ▸ v.k3) (e4.symm ▸ v.r4) (e4.symm ▸ v.k4) hk
  rw [e0, e1, e2, e3, e4] at this
  refine this.mono ?_
  rintro e w' ⟨v0, rfl, hR, hb⟩
  have ho := Kd.own_of_R hR
  have hrn := hr.trans e1
  obtain ⟨A, c, rfl, _, _⟩ := Kd.R_reads hR
  rw [hrn] at ho ⊢
  exact ⟨A, c, r, rfl, ⟨ho, hrn, fun x hx => hsp x (by omega)⟩, hb⟩
/-- what dominates at once -/
theorem GF.once {code : List S40} {hs : List S49} {n m : Nat} {st : List Int} {nx : List (List Int)} {ord l hd : List Int} (g : GF code hs n m st nx ord l hd) {b : Int} (hb : b ∈ post nx) (hb0 : b ≠ 0) : 0 ≤ rd l b ∧ rd l b < (n : Int) ∧ rd l b ≠ b ∧ ¬ Goes nx 0 (rd l b) b ∧ ∀ a : Int, a ≠ b → a ≠ rd l b → ¬ Goes nx 0 a b → ¬ Goes nx 0 a (rd l b) := by
  obtain ⟨h1, h2⟩ := g.dom.up b hb hb0
  have hd := post_bound nx g.wf h1
  rw [g.lnx] at hd
  refine ⟨hd.1, hd.2, fun e => (by rw [e] at h2; omega), fun h => ?_, fun a hab had hn h => ?_⟩
  · have := (g.dom.anc b hb (rd l b)).1 (.step hd.1 (.refl _))
    exact this ((goes_ar g.wf).1 h)
  · have h3 : Anc (rd l) b a := (g.dom.anc b hb a).2 (fun h => hn ((goes_ar g.wf).2 h))
    cases h3 with
    | refl => exact hab rfl
    | step _ h4 => exact (g.dom.anc _ h1 a).1 h4 ((goes_ar g.wf).1 h)
set_option maxRecDepth 100000 in
set_option maxHeartbeats 16000000 in
theorem portagelaw09_GraphAtOnce.calls (nm : ByteArray) (pa lo : Int) (A3 : Option Addr) (c3 : Nat) (code : List S40) (A4 : Option Addr) (c4 : Nat) (hs : List S49) (r : Bool) (w : World) (hC : k40.C w A3 code.length code) (hc3 : code.length ≤ c3) (hH : k49.C w A4 hs.length hs) (hc4 : hs.length ≤ c4) (h : (code.length ≤ 1048576 ∧ hs.length ≤ 1048576) ∧ r = true) :
    Calls Try.prog 7 #[.agg #[.string nm, .int .i64 pa, .int .i64 lo, .slice A3 code.length c3, .slice A4 hs.length c4]] w fun e w' => e = .returned (.bool r) ∧ Below w.heap.size w w' := by
  obtain ⟨⟨hn0, hh0⟩, rfl⟩ := h
  have hn : code.length ≤ 8796093022207 := by omega
  have hh : hs.length ≤ 8796093022208 := by omega
  have HUP := Aside0.mk hn0
  have HC := Aside0.mk hC
  have HH := Aside0.mk hH
  have HC3 := Aside0.mk hc3
  have HC4 := Aside0.mk hc4
  have HN := Aside0.mk hn
  have HHN := Aside0.mk hh
  clear hC hH hc3 hc4 hn hh hn0 hh0
  have hu25 := Try.underlying25
  have hu29 := Try.underlying29
  have hu40 := Try.underlying40
  have hu49 := Try.underlying49
  go_enter Try.func7, Try.ntmps7
  go_upto_region 1 with (fail)
  obtain ⟨W0, hW0⟩ : ∃ W0, w.alloc (.cells #[.string nm, .int .i64 pa, .int .i64 lo, .slice A3 code.length c3, .slice A4 hs.length c4] 25) = W0 := ⟨_, rfl⟩
  have hb0 : Below w.heap.size w W0 := by rw [← hW0]; exact below_alloc (Below.refl _ _) _
  have hfb0 : W0.heap[w.heap.size]? = some (.cells #[.string nm, .int .i64 pa, .int .i64 lo, .slice A3 code.length c3, .slice A4 hs.length c4] 25 (0, 0)) := by
    rw [← hW0]; exact World.alloc_heap_new w _
  rw [hW0]
  clear hW0
  have f0 := cell_blk hfb0 (i := 0) rfl
  have f1 := cell_blk hfb0 (i := 1) rfl
  have f2 := cell_blk hfb0 (i := 2) rfl
  have f3 := cell_blk hfb0 (i := 3) rfl
  have f4 := cell_blk hfb0 (i := 4) rfl
  have HFB := Aside0.mk hfb0
  have HB0 := Aside0.mk hb0
  clear hfb0 hb0
  go_wp2_with (fail)
  by_cases hfit : FitsP code hs
  · refine (flow_yes nm pa lo A3 A4 c3 c4 code hs W0 (Kd.C_below HC.out HB0.out) HC3.out (Kd.C_below HH.out HB0.out) HC4.out hfit HN.out HHN.out).mono ?_
    rintro e w1 ⟨a0, a1, a2, a3, a4, d0, d1, d2, d3, d4, n, m, st, nx, ord, l, hd, rfl, gv, gf, hb1⟩
    have hfb1 := blk_below HFB.out hb1
    have HB1 := Aside0.mk (HB0.out.trans (hb1.mono HB0.out.size))
    have HG := Aside0.mk gf
    have HV1 := Aside0.mk gv
    have HF := Aside0.mk hfit
    have HFB1 := Aside0.mk hfb1
    clear hb1 hfb1 gf gv hfit f0 f1 f2 f3 f4 HFB HB0
    go_upto_region 2 with (fail)
    obtain ⟨GB, hGB⟩ : ∃ GB, w1.heap.size = GB := ⟨_, rfl⟩
    obtain ⟨cf, hcf⟩ : ∃ cf, #[Value.string nm, .int .i64 pa, .int .i64 lo, .slice A3 code.length c3, .slice A4 hs.length c4] = cf := ⟨_, rfl⟩
    obtain ⟨gc, hgc⟩ : ∃ gc, #[Value.slice a0 n d0, .slice a1 n d1, .slice a2 n d2, .slice a3 n d3, .slice a4 m d4] = gc := ⟨_, rfl⟩
    have hb2 : Below w1.heap.size w1 (w1.alloc (.cells gc 29)) := below_alloc (Below.refl _ _) _
    have HBS : Aside0 (LB w (w1.alloc (.cells gc 29)) GB cf gc) := ⟨⟨hcf ▸ blk_below HFB1.out hb2, hGB ▸ World.alloc_heap_new w1 _, HB1.out.trans (hb2.mono HB1.out.size)⟩⟩
    have HV := Aside0.mk (HV1.out.below hb2)
    rw [hgc, hGB]
    have kf0 : cf[0]? = some (.string nm) := by rw [← hcf]; rfl
    have kf1 : cf[1]? = some (.int .i64 pa) := by rw [← hcf]; rfl
    have kf2 : cf[2]? = some (.int .i64 lo) := by rw [← hcf]; rfl
    have kf3 : cf[3]? = some (.slice A3 code.length c3) := by rw [← hcf]; rfl
    have kf4 : cf[4]? = some (.slice A4 hs.length c4) := by rw [← hcf]; rfl
    have kg0 : gc[0]? = some (.slice a0 n d0) := by rw [← hgc]; rfl
    have kg1 : gc[1]? = some (.slice a1 n d1) := by rw [← hgc]; rfl
    have kg2 : gc[2]? = some (.slice a2 n d2) := by rw [← hgc]; rfl
    have kg3 : gc[3]? = some (.slice a3 n d3) := by rw [← hgc]; rfl
    have kg4 : gc[4]? = some (.slice a4 m d4) := by rw [← hgc]; rfl
    have HKG := Aside0.mk (And.intro kg0 (And.intro kg1 (And.intro kg2 (And.intro kg3 kg4))))
    have HKF := Aside0.mk (And.intro kf0 (And.intro kf1 (And.intro kf2 (And.intro kf3 kf4))))
    clear kf0 kf1 kf2 kf3 kf4 kg0 kg1 kg2 kg3 kg4
    revert HBS HV
    generalize w1.alloc (.cells gc 29) = W2
    intro HBS HV
    have hp := HG.out.pos
    have HGC := Aside0.mk hgc
    have HCF := Aside0.mk hcf
    clear hb2 hGB hcf hgc HFB1 HB1 HV1
    obtain ⟨r0, rfl, _⟩ := Kd.at_int HV.out.r0 0 (by omega) (by omega)
    obtain ⟨r1, _, _, rfl, _⟩ := at_L3 HV.out.r1 0 (by omega) (by omega)
    obtain ⟨r2, rfl, _⟩ := Kd.at_int HV.out.r2 0 (by omega) (by omega)
    obtain ⟨r3, rfl, _⟩ := Kd.at_int HV.out.r3 0 (by omega) (by omega)
    have g0 := cell_blk HBS.out.gb HKG.out.1
    have g1 := cell_blk HBS.out.gb HKG.out.2.1
    have g2 := cell_blk HBS.out.gb HKG.out.2.2.1
    have g3 := cell_blk HBS.out.gb HKG.out.2.2.2.1
    have g4 := cell_blk HBS.out.gb HKG.out.2.2.2.2
    go_wp2_with (fail)
    refine (reached_own HG.out HV.out HN.out (-1)).mono ?_
    rintro e wb ⟨A6, c6, all, rfl, hM6, hb3⟩
    obtain ⟨x6, rfl, _⟩ := Kd.at_bool hM6.2.1 0 (by omega) (by omega)
    have HBS3 := Aside0.mk (HBS.out.from_ hb3)
    have HV3 := Aside0.mk (HV.out.below hb3)
    have HM3 := Aside0.mk hM6
    clear hb3 hM6 g0 g1 g2 g3 g4 HBS HV
    go_wp2_with (fail)
    obtain ⟨i3, hi3, hz30, hz31, hz32⟩ := info_parts info53
    have HI := Aside0.mk hi3
    have HZ0 := Aside0.mk hz30
    have HZ1 := Aside0.mk hz31
    have HZ2 := Aside0.mk hz32
    have HNN : Aside0 (n ≤ 1048576) := ⟨by have := HG.out.short; have := HUP.out; omega⟩
    clear hi3 hz30 hz31 hz32
    go_loopw [7, 8] (fun v7 i wr => ∃ (k : Nat) (vs : List Value), k ≤ n ∧ i = .int .i64 (k : Int) ∧ wr.ownsRow wb.heap.size 53 1 v7 k vs ∧ LF wr wb.heap.size n k nx vs ∧ Below wb.heap.size wb wr) (fun _ i _ => ((n : Int) - intOf i).toNat)
    case atStart => exact ⟨0, [], Nat.zero_le _, rfl, World.ownsRow_nil _ _ _ _, ⟨rfl, fun j hj => by omega⟩, Below.refl _ _⟩
    case round =>
      obtain ⟨k, vs, hk, rfl, hO, hL, hB⟩ := hrel
      have HO := Aside0.mk hO
      have HL := Aside0.mk hL
      have HBW := Aside0.mk hB
      have HBS := Aside0.mk (HBS3.out.from_ hB)
      have HV := Aside0.mk (HV3.out.below hB)
      have hkm : k < 9223372036854775807 := by have := HNN.out; omega
      have g0 := cell_blk HBS.out.gb HKG.out.1
      by_cases hkn : k < n
      · have hkn' : (k : Int) < (n : Int) := by omega
        have HKN := Aside0.mk hkn
        obtain ⟨A7, c7, rfl⟩ := row_slice hO
        have g1 := cell_blk HBS.out.gb HKG.out.2.1
        have g2 := cell_blk HBS.out.gb HKG.out.2.2.1
        have g3 := cell_blk HBS.out.gb HKG.out.2.2.2.1
        have g4 := cell_blk HBS.out.gb HKG.out.2.2.2.2
        clear hk hkn hO hL hB
        go_wp2_with (fail)
        refine (reached_row HG.out HV.out HN.out (k : Int)).mono ?_
        rintro e w3 ⟨A9, c9, is, rfl, hM, hb3⟩
        have HO3 : Aside0 (w3.ownsRow wb.heap.size 53 1 (.slice A7 k c7) k vs) := ⟨own_move HO.out fun k hk => hb3.block k (own_lt HO.out k hk)⟩
        have HL3 := Aside0.mk (HL.out.below hb3)
        have HM : Aside0 (MR w3 wb.heap.size n nx (k : Int) (.slice A9 n c9) is) := ⟨own_weaken hM.own HBW.out.size, hM.len, hM.mean⟩
        have HB3 := Aside0.mk (HBW.out.trans (hb3.mono HBW.out.size))
        clear hM hb3 g0 g1 g2 g3 g4 HBS HV HO HL HBW
        go_wp2_with (first | (at_builtin; refine wpList_append_own _ rfl _ _ 55 rfl wb.heap.size 53 i3 (.slice none 0 0) 1 24 Try.underlying55 HI.out HZ0.out HZ1.out HZ2.out rfl (by decide) _ _ _ rfl (World.ownsRow.alloc HO3.out _) ⟨w3.heap.size, 0, none⟩ 1 1 [.slice A9 n c9] rfl rfl (cell_one_new _ _ _) (by simp [Value.oneCell']) (by have := HNN.out; have := HKN.out; unfold maxLen; omega) (by have := HNN.out; have := HKN.out; omega) (by rw [World.size_alloc]; have := HB3.out.size; omega) ?_; intro v9 w9 hown9 hgrow9 _; refine Classical.byContradiction (fun hcon => ?hst)) | go_in)
        refine hcon ?_
        have hg9 := (World.grownBy_alloc w3 (.cells #[.slice A9 n c9] 53) (Value.slice A7 k c7).ownBlock).trans hgrow9
        have HO9 := Aside0.mk hown9
        have HL9 := Aside0.mk (HL3.out.more HM.out HO3.out hg9)
        have HB9 : Aside0 (Below wb.heap.size wb w9) := ⟨HB3.out.grown hg9 HB3.out.size (fun j e => own_base HO3.out j e)⟩
        clear hown9 hgrow9 hcon hg9 HO3 HL3 HB3 HM
        go_wp2_with (fail)
        go_roundw
        case measure => simp [intOf]; omega
        case rel => exact ⟨k + 1, _, HKN.out, by first | rfl | go_num, HO9.out, HL9.out, HB9.out⟩
      · have hkn' : (n : Int) ≤ (k : Int) := by omega
        have hkk : n = k := by omega
        subst hkk
        obtain ⟨A7, c7, rfl⟩ := row_slice hO
        obtain ⟨g7, rfl⟩ : ∃ g7, A7 = some ⟨g7, 0, none⟩ := by
          rcases hO.2 with ⟨e, _⟩ | ⟨g, cap, cur, e, _⟩
          · cases e; exact absurd hp (by omega)
          · cases e; exact ⟨_, rfl⟩
        have HM := Aside0.mk (HM3.out.below hB)
        clear hk hkn hO hL hB
        go_wp2_with (fail)
        (try rw [show decide (n < n) = false from decide_eq_false (by omega)])
        clear g0
        have HOZ := HO
        have HLZ := HL
        have HBZ := HBS
        have HVZ := HV
        have HMZ := HM
        clear HO HL HBW HBS HV HM
        revert HOZ HLZ HBZ HVZ HMZ
        generalize hwz : wr = wz
        intro HOZ HLZ HBZ HVZ HMZ
        clear hwz
        go_loopw [9] (fun v wr => ∃ b : Nat, b ≤ n ∧ v = .int .i64 (b : Int) ∧ Below wz.heap.size wz wr) (fun v _ => ((n : Int) - intOf v).toNat)
        case atStart => exact ⟨0, Nat.zero_le _, rfl, Below.refl _ _⟩
        case round =>
          obtain ⟨b, hb, rfl, hB⟩ := hrel
          have HBW := Aside0.mk hB
          have HBS := Aside0.mk (HBZ.out.from_ hB)
          have HV := Aside0.mk (HVZ.out.below hB)
          have HM := Aside0.mk (HMZ.out.below hB)
          have hbm : b < 9223372036854775807 := by have := HNN.out; omega
          have g0 := cell_blk HBS.out.gb HKG.out.1
          by_cases hbl : b < n
          · have hbn : (b : Int) < (n : Int) := by omega
            have hb0 : (0 : Int) ≤ (b : Int) := by omega
            have HBN := Aside0.mk hbl
            have g3 := cell_blk HBS.out.gb HKG.out.2.2.2.1
            obtain ⟨x, e, q3⟩ := Kd.at_int HV.out.r3 (b : Int) hb0 hbn
            cases e
            obtain ⟨x, e, q6⟩ := Kd.at_bool HM.out.2.1 (b : Int) hb0 hbn
            cases e
            rw [Int.toNat_natCast] at q3 q6
            have hal := HM.out.2.2.2 b hbl
            rw [goes_all HG.out.wf] at hal
            obtain ⟨ab, hab⟩ : ∃ x, rdOf false all (b : Int) = x := ⟨_, rfl⟩
            rw [hab] at q6 hal
            clear hab hb hbl hB
            by_cases hz : b = 0
            · subst hz
              have hd0 : rd l ((0 : Nat) : Int) = -1 := HG.out.dom.zero
              rw [hd0] at q3
              rw [show ((0 : Nat) : Int) = 0 from rfl] at hbn ⊢
              have q3' : wr.cell? r3 = some (.int .i64 (-1)) := by simpa [Addr.add] using q3
              clear hal q6 hd0
              go_wp2_with (fail)
              go_roundw
              case measure => simp [intOf]; omega
              case rel => exact ⟨1, by have := HBN.out; omega, by first | rfl | go_num, HBW.out⟩
            · have z1 : ((b : Int) == 0) = false := by simp; omega
              have z1' : (b == 0) = false := by simp; omega
              cases ab with
              | false =>
                have hd0 : rd l (b : Int) = -1 := HG.out.dom.off (b : Int) hb0 (by rw [HG.out.lnx]; exact hbn) (fun h => absurd (hal.2 h) (by decide))
                rw [hd0] at q3
                clear hal hz hd0
                go_wp2_with (fail)
                go_roundw
                case measure => simp [intOf]; omega
                case rel => exact ⟨b + 1, HBN.out, by first | rfl | go_num, HBW.out⟩
              | true =>
                have hbp := hal.1 rfl
                obtain ⟨o1, o2, o3, o4, o5⟩ := HG.out.once hbp (by omega)
                obtain ⟨d, hd_⟩ : ∃ d : Nat, rd l (b : Int) = (d : Int) := ⟨(rd l (b : Int)).toNat, by omega⟩
                rw [hd_] at q3 o1 o2 o3 o4 o5
                have hdn : d < n := by omega
                have t1 : decide ((d : Int) < 0) = false := decide_eq_false (by omega)
                have t2 : ((d : Int) == (b : Int)) = false := by simpa using o3
                have t2' : (d == b) = false := by simp; omega
                have HO5 := Aside0.mk o5
                obtain ⟨isd, hmd⟩ := HLZ.out.each d hdn
                have hmd' := hmd.below HBW.out
                obtain ⟨Ad, cd, ed⟩ := row_slice hmd.own
                have hcd := (show wr.ownsRow wb.heap.size 53 1 (.slice (some ⟨g7, 0, none⟩) n c7) n vs from own_move HOZ.out fun k hk => HBW.out.block k (own_lt HOZ.out k hk)).cellAt d (by omega)
                have hvd : vs[d]? = some (.slice Ad n cd) := by
                  have h9 : d < vs.length := by rw [HLZ.out.len]; exact hdn
                  rw [List.getElem?_eq_getElem h9, ← ed, List.getD_eq_getElem?_getD, List.getElem?_eq_getElem h9]; rfl
                rw [hvd] at hcd
                have hcd' : wr.cell? ⟨g7, d, none⟩ = some (.slice Ad n cd) := hcd
                have hdC : Kd.bool.C wr Ad n isd := by
                  have h9 := (row_Cb (A := Ad) (c := cd) (l := isd) (by rw [hmd.len, ← ed]; exact hmd'.own)).1
                  rw [hmd.len] at h9; exact h9
                obtain ⟨xd, exd, qd⟩ := Kd.at_bool hdC (b : Int) hb0 hbn
                subst exd
                rw [Int.toNat_natCast] at qd
                have hdf : rdOf false isd (b : Int) = false := by
                  cases hx : rdOf false isd (b : Int) with
                  | true => exact absurd ((hmd.mean b HBN.out).1 hx) o4
                  | false => rfl
                rw [hdf] at qd
                have hd1 : (d : Int) < (n : Int) := o2
                have HBP := Aside0.mk hbp
                have HDN := Aside0.mk hdn
                clear hal hz hbp o2 o3 o4 o5 hmd hmd' ed hcd hvd hdC hdf hd_ hdn
                go_upto_region 19 with (fail)
                clear q3 q6 hcd' qd g3
                go_wp2_with (fail)
                clear g0
                go_loopw [11] (fun v wr => ∃ a : Nat, a ≤ n ∧ v = .int .i64 (a : Int) ∧ Below wz.heap.size wz wr) (fun v _ => ((n : Int) - intOf v).toNat)
                case atStart => exact ⟨0, Nat.zero_le _, rfl, HBW.out⟩
                case round =>
                  clear HBW HBS HV HM
                  obtain ⟨a, ha, rfl, hB⟩ := hrel
                  have HBW := Aside0.mk hB
                  have HBS := Aside0.mk (HBZ.out.from_ hB)
                  have ham : a < 9223372036854775807 := by have := HNN.out; omega
                  have g0 := cell_blk HBS.out.gb HKG.out.1
                  by_cases hal : a < n
                  · have han : (a : Int) < (n : Int) := by omega
                    have ha0 : (0 : Int) ≤ (a : Int) := by omega
                    have HAN := Aside0.mk hal
                    clear ha hB
                    by_cases hab : a = b
                    · subst hab
                      clear hal
                      go_wp2_with (fail)
                      go_roundw
                      case measure => simp [intOf]; omega
                      case rel => exact ⟨a + 1, HAN.out, by first | rfl | go_num, HBW.out⟩
                    · have u1 : ((a : Int) != (b : Int)) = true := by simp; omega
                      have u1' : (a != b) = true := by simp; omega
                      have u1b : ((a : Int) == (b : Int)) = false := by simp; omega
                      have u1c : (a == b) = false := by simp; omega
                      have HAB := Aside0.mk hab
                      by_cases had : a = d
                      · subst had
                        clear hal hab
                        go_wp2_with (fail)
                        go_roundw
                        case measure => simp [intOf]; omega
                        case rel => exact ⟨a + 1, HAN.out, by first | rfl | go_num, HBW.out⟩
                      · have u2 : ((a : Int) != (d : Int)) = true := by simp; omega
                        have u2' : (a != d) = true := by simp; omega
                        have u2b : ((a : Int) == (d : Int)) = false := by simp; omega
                        have u2c : (a == d) = false := by simp; omega
                        have HAD := Aside0.mk had
                        obtain ⟨isa, hma⟩ := HLZ.out.each a hal
                        have hma' := hma.below HBW.out
                        obtain ⟨Aa, ca, ea⟩ := row_slice hma.own
                        have hca := (show wr.ownsRow wb.heap.size 53 1 (.slice (some ⟨g7, 0, none⟩) n c7) n vs from own_move HOZ.out fun k hk => HBW.out.block k (own_lt HOZ.out k hk)).cellAt a (by omega)
                        have hva : vs[a]? = some (.slice Aa n ca) := by
                          have h9 : a < vs.length := by rw [HLZ.out.len]; exact hal
                          rw [List.getElem?_eq_getElem h9, ← ea, List.getD_eq_getElem?_getD, List.getElem?_eq_getElem h9]; rfl
                        rw [hva] at hca
                        have hca' : wr.cell? ⟨g7, a, none⟩ = some (.slice Aa n ca) := hca
                        have haC : Kd.bool.C wr Aa n isa := by
                          have h9 := (row_Cb (A := Aa) (c := ca) (l := isa) (by rw [hma.len, ← ea]; exact hma'.own)).1
                          rw [hma.len] at h9; exact h9
                        obtain ⟨xa, exa, qa⟩ := Kd.at_bool haC (b : Int) hb0 hbn
                        obtain ⟨xa2, exa2, qa2⟩ := Kd.at_bool haC (d : Int) o1 hd1
                        subst exa
                        cases exa2
                        rw [Int.toNat_natCast] at qa qa2
                        have hmb := hma.mean b HBN.out
                        have hmd := hma.mean d HDN.out
                        obtain ⟨lb, hlb⟩ : ∃ x, rdOf false isa (b : Int) = x := ⟨_, rfl⟩
                        obtain ⟨ld, hld⟩ : ∃ x, rdOf false isa (d : Int) = x := ⟨_, rfl⟩
                        rw [hlb] at qa hmb
                        rw [hld] at qa2 hmd
                        cases lb with
                        | true =>
                          clear hal hab had hma hma' ea hca hva haC hmb hmd hlb hld
                          go_wp2_with (fail)
                          go_roundw
                          case measure => simp [intOf]; omega
                          case rel => exact ⟨a + 1, HAN.out, by first | rfl | go_num, HBW.out⟩
                        | false =>
                          have : ld = false := by
                            cases ld with
                            | false => rfl
                            | true => exact absurd (hmd.1 rfl) (HO5.out (a : Int) (by omega) (by omega) (fun h => absurd (hmb.2 h) (by decide)))
                          subst this
                          clear hal hab had hma hma' ea hca hva haC hmb hmd hlb hld
                          go_wp2_with (fail)
                          go_roundw
                          case measure => simp [intOf]; omega
                          case rel => exact ⟨a + 1, HAN.out, by first | rfl | go_num, HBW.out⟩
                  · have han : (n : Int) ≤ (a : Int) := by omega
                    clear ha hal hB
                    go_wp2_with (fail)
                    go_roundw
                    case measure => simp [intOf]; omega
                    case rel => exact ⟨b + 1, HBN.out, by first | rfl | go_num, HBW.out⟩
          · have hbn : (n : Int) ≤ (b : Int) := by omega
            clear hb hbl hB
            go_wp2_with (fail)
            go_ret
            exact ⟨rfl, HBS.out.below⟩

  · refine (flow_no nm pa lo A3 A4 c3 c4 code hs W0 (Kd.C_below HC.out HB0.out) HC3.out (Kd.C_below HH.out HB0.out) HC4.out hfit (by have := HN.out; omega) (by have := HHN.out; omega)).mono ?_
    rintro e w1 ⟨rfl, hb1⟩
    have HB1 := Aside0.mk (HB0.out.trans (hb1.mono HB0.out.size))
    clear hb1 f0 f1 f2 f3 f4 HFB HB0
    go_wp2_with (fail)
    go_ret
    exact ⟨rfl, below_alloc HB1.out _⟩
end Go.Proofs.Ytmeaepmimnmjlaa.Ask
