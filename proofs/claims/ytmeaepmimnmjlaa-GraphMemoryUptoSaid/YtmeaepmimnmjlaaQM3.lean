/- The texts of a claim, one behind the other: RBehind RReach RIdom ROrder RRows RBuild RBuildNo SameG BothG MemG. -/
import Derived.Test.YtmeaepmimnmjlaaQM2
/- The reference: behind, by its meaning. -/
namespace Go.Proofs.Ytmeaepmimnmjlaa.Ask
open Go.Proofs.Ytmeaepmimnmjlaa.Dfs Go.Proofs.Ytmeaepmimnmjlaa.Dom Go.Proofs.Ytmeaepmimnmjlaa.DomT Go.RowKit Go.Shelf Go.Proofs.Ytmeaepmimnmjlaa.PGb Go.Proofs.Ytmeaepmimnmjlaa.Lit Go.Proofs.Ytmeaepmimnmjlaa.OwnCells Go.Proofs.YtmeaepmimnmjlaaW.PrintWords Go.Proofs.YtmeaepmimnmjlaaW.PrintLast Go.Proofs.YtmeaepmimnmjlaaW.PrintMore
attribute [local go_sem] Oper.semAt_some
attribute [local go_sem] run_store_fn
attribute [local go_sem] run_eql_fn
set_option linter.unusedVariables false
set_option linter.unusedSimpArgs false
theorem quiet_dr {P : Program} {f : FuncId} {args : Array Value} {w : World} {n : Nat} {v : Value} (h : Calls P f args (w.drewN n) fun e w' => e = .returned v ∧ Drawn0 (w.drewN n) w') : Calls P f args (w.drewN n) fun e w'' => e = .returned v ∧ ∃ m, w'' = w.drewN m := Calls.quiet_of (h.mono fun _ _ h => ⟨h.1, h.2.out⟩)
/-- a handler leads from block b to block c -/
def HB (hs : List S49) (st : List Int) (ee : Int) (k b c : Nat) : Prop := ∃ (q : Nat) (x : S49), q < k ∧ hs[q]? = some x ∧ x.f2 = rd st (c : Int) ∧ x.f0 < ee ∧ rd st (b : Int) < x.f1
section
variable {code : List S40} {hs : List S49} {n m : Nat} {st : List Int} {nx : List (List Int)} {ord l hd : List Int}
theorem GF.end_in (g : GF code hs n m st nx ord l hd) {b : Nat} (hb : b < n) : rd st (b : Int) < endOf code st b ∧ endOf code st b ≤ (code.length : Int) := g.sts.sts.end_ (by rw [g.ln]; exact hb)
theorem GF.jump_in (g : GF code hs n m st nx ord l hd) {i : S40} (hi : i ∈ code) (hj : jumpsP i.f0 = true) : i.f1 ∈ st := by
  have := g.fit.jmp i hi hj
  obtain ⟨q, hq, e⟩ := List.getElem_of_mem hi
  exact (g.sts.mem _).2 ⟨i.f1.toNat, by omega, by omega, .inl (.inr ⟨q, i, hq, by rw [List.getElem?_eq_getElem hq, e], .inr ⟨hj, by omega⟩⟩)⟩
theorem GF.target_in (g : GF code hs n m st nx ord l hd) {x : S49} (hx : x ∈ hs) : x.f2 ∈ st := by
  have := g.fit.hnd x hx
  exact (g.sts.mem _).2 ⟨x.f2.toNat, by omega, by omega, .inr ⟨x, hx, by omega⟩⟩
theorem GF.block_eq (g : GF code hs n m st nx ord l hd) {x : Int} (hx : x ∈ st) {c : Nat} (hc : c < n) : blockOf st x = (c : Int) ↔ x = rd st (c : Int) := by
  obtain ⟨j, hj, e⟩ := List.getElem_of_mem hx
  have e2 : rd st (j : Int) = x := by simp [rd, hj, e]
  have hb := g.sts.block_start hj
  rw [e2] at hb
  constructor
  · intro h
    have : (j : Int) = (c : Int) := hb.symm.trans h
    rw [← this, e2]
  · intro h
    rw [h]
    exact g.sts.block_start (by rw [g.ln]; exact hc)
theorem GF.row_iff (g : GF code hs n m st nx ord l hd) {b c : Nat} (hb : b < n) (hc : c < n) : (c : Int) ∈ rd_L3 nx (b : Int) ↔ (((jumpsP (rd_T40 code (endOf code st b - 1)).f0 = true ∧ (rd_T40 code (endOf code st b - 1)).f1 = rd st (c : Int)) ∨ (c = b + 1 ∧ stopsP (rd_T40 code (endOf code st b - 1)).f0 = false)) ∨ HB hs st (endOf code st b) hs.length b c) := by
  rw [g.row hb, (tidy_facts _).2, raw_mem, or_assoc]
  refine or_congr ?_ (or_congr ?_ ?_)
  · constructor
    · rintro ⟨h1, h2⟩
      exact ⟨h1, (g.block_eq (g.jump_in (g.sts.last (by rw [g.ln]; exact hb)) h1) hc).1 h2.symm⟩
    · rintro ⟨h1, h2⟩
      exact ⟨h1, ((g.block_eq (g.jump_in (g.sts.last (by rw [g.ln]; exact hb)) h1) hc).2 h2).symm⟩
  · constructor
    · rintro ⟨h1, h2, h3⟩
      exact ⟨by omega, h1⟩
    · rintro ⟨h1, h2⟩
      exact ⟨h2, by rw [g.ln]; omega, by omega⟩
  · constructor
    · rintro ⟨h, hh, h1, h2, h3⟩
      obtain ⟨q, hq, e⟩ := List.getElem_of_mem hh
      exact ⟨q, h, hq, by rw [List.getElem?_eq_getElem hq, e], (g.block_eq (g.target_in hh) hc).1 h3.symm, h1, h2⟩
    · rintro ⟨q, h, hq, hg, h4, h1, h2⟩
      have hh := List.mem_of_getElem? hg
      exact ⟨h, hh, h1, h2, ((g.block_eq (g.target_in hh) hc).2 h4).symm⟩
theorem GF.row_upTo (g : GF code hs n m st nx ord l hd) {b : Nat} (hb : b < n) : upTo (fun c => (c : Int) ∈ rd_L3 nx (b : Int)) n = rd_L3 nx (b : Int) := by
  refine rise_ext _ _ (upTo_rise _ _) (g.nx_rise hb) (fun x => (upTo_mem _ _ x).trans ⟨?_, fun h => ?_⟩)
  · rintro ⟨p, _, rfl, h⟩; exact h
  · have := g.wf.in_ (b : Int) x h
    rw [g.lnx] at this
    exact ⟨x.toNat, by omega, by omega, by rw [show ((x.toNat : Nat) : Int) = x by omega]; exact h⟩
end
set_option maxRecDepth 100000 in
set_option maxHeartbeats 16000000 in
theorem behind_own {code : List S40} {hs : List S49} {w : World} {nm : ByteArray} {pa lo : Int} {A3 A4 : Option Addr} {c3 c4 : Nat} {n m : Nat} {st : List Int} {nx : List (List Int)} {ord l hd : List Int} {As : Option Addr} {cs b : Nat} (g : GF code hs n m st nx ord l hd) (hA : (Kd.int .i64).C w As n st) (hb : b < n) (hn : code.length ≤ 8796093022207) (hhn : hs.length ≤ 8796093022208) (hC : k40.C w A3 code.length code) (hc3 : code.length ≤ c3) (hH : k49.C w A4 hs.length hs) (hc4 : hs.length ≤ c4) :
    Calls Try.prog 37 #[.agg #[.string nm, .int .i64 pa, .int .i64 lo, .slice A3 code.length c3, .slice A4 hs.length c4], .slice As n cs, .int .i64 (b : Int)] w fun e w' => ∃ A c, e = .returned (.slice A (rd_L3 nx (b : Int)).length c) ∧ w'.ownsRow w.heap.size 3 1 (.slice A (rd_L3 nx (b : Int)).length c) (rd_L3 nx (b : Int)).length ((rd_L3 nx (b : Int)).map (Value.int .i64)) ∧ Below w.heap.size w w' := by
  have hp := g.pos
  obtain ⟨s0, rfl, _⟩ := Kd.at_int hA 0 (by omega) (by omega)
  have HG := Aside0.mk g
  have HA := Aside0.mk hA
  have HBN := Aside0.mk hb
  have hbn : (b : Int) < (n : Int) := by omega
  have hb0 : (0 : Int) ≤ (b : Int) := by omega
  clear g hA hb
  have HC := Aside0.mk hC
  have HH := Aside0.mk hH
  have HC3 := Aside0.mk hc3
  have HC4 := Aside0.mk hc4
  have HN := Aside0.mk hn
  have HHN := Aside0.mk hhn
  clear hC hc3 hH hc4 hn hhn
  have hu25 := Try.underlying25
  have hu29 := Try.underlying29
  have hu40 := Try.underlying40
  have hu49 := Try.underlying49
  go_enter Try.func37, Try.ntmps37
  go_upto_region 1 with (fail)
  obtain ⟨cf, hcf⟩ : ∃ cf : Array Value, (#[.string nm, .int .i64 pa, .int .i64 lo, .slice A3 code.length c3, .slice A4 hs.length c4] : Array Value) = cf := ⟨_, rfl⟩
  have kf3 : cf[3]? = some (.slice A3 code.length c3) := by rw [← hcf]; rfl
  have kf4 : cf[4]? = some (.slice A4 hs.length c4) := by rw [← hcf]; rfl
  have kf0 : cf[0]? = some (.string nm) := by rw [← hcf]; rfl
  have kf1 : cf[1]? = some (.int .i64 pa) := by rw [← hcf]; rfl
  have kf2 : cf[2]? = some (.int .i64 lo) := by rw [← hcf]; rfl
  have HKF := Aside0.mk (And.intro kf0 (And.intro kf1 (And.intro kf2 (And.intro kf3 kf4))))
  have hb1 : Below w.heap.size w (w.alloc (.cells cf 25)) := below_alloc (Below.refl _ _) _
  have HBS : Aside0 (FB w (w.alloc (.cells cf 25)) cf) := ⟨⟨World.alloc_heap_new w _, hb1⟩⟩
  rw [hcf]
  have HCF := Aside0.mk hcf
  clear kf0 kf1 kf2 kf3 kf4 hcf hb1
  revert HBS
  generalize w.alloc (.cells cf 25) = W2
  intro HBS
  have f3 := cell_blk HBS.out.fb HKF.out.2.2.2.1
  have hin := HG.out.st_in HBN.out
  have hen := HG.out.end_in HBN.out
  obtain ⟨ee, hee⟩ : ∃ ee : Nat, endOf code st b = (ee : Int) := ⟨(endOf code st b).toNat, by omega⟩
  have hrow := fun c (hc : c < n) => HG.out.row_iff (b := b) (c := c) HBN.out hc
  rw [hee] at hen
  obtain ⟨e1, he1⟩ : ∃ e1 : Nat, ee = e1 + 1 := ⟨ee - 1, by omega⟩
  have he0 : (0 : Int) ≤ (e1 : Int) := by omega
  have hec : (e1 : Int) < (code.length : Int) := by omega
  have hz : IntKind.i64.wrap ((ee : Int) - 1) = (e1 : Int) := by rw [i64_w]; have := HN.out; unfold wrap64; omega
  have hbm : b < 9223372036854775807 := by have := HN.out; have := HG.out.short; have := HBN.out; omega
  have HEE := Aside0.mk hee
  have HE1 := Aside0.mk he1
  have HIN := Aside0.mk hin
  have HEN := Aside0.mk hen
  clear hin hen
  go_upto_if 21 with (fail)
  clear f3
  go_cut [7] (fun v7 wc => v7 = .int .i64 (ee : Int) ∧ wc = W2)
  case first =>
    have hEE := HEE.out
    unfold endOf at hEE
    by_cases hlt : b + 1 < st.length
    · rw [if_pos hlt] at hEE
      rw [HG.out.ln] at hlt
      have t1 : decide ((b : Int) + 1 < (n : Int)) = true := decide_eq_true (by omega)
      have t1' : decide (b + 1 < n) = true := decide_eq_true (by omega)
      have hb10 : (0 : Int) ≤ (b : Int) + 1 := by omega
      have hb11 : (b : Int) + 1 < (n : Int) := by omega
      obtain ⟨z, e0, q0⟩ := Kd.at_int (Kd.C_below HA.out HBS.out.below) ((b + 1 : Nat) : Int) (by omega) (by omega)
      cases e0
      rw [Int.toNat_natCast, hEE] at q0
      simp only [Addr.add, Nat.add_eq_zero_iff, Nat.one_ne_zero, and_false, if_false] at q0
      rw [t1]
      clear hEE hlt hee he1 hrow
      go_wp2_with (fail)
      go_meet
      case rel => exact ⟨rfl, rfl⟩
    · rw [if_neg hlt] at hEE
      rw [HG.out.ln] at hlt
      have t1 : decide ((b : Int) + 1 < (n : Int)) = false := decide_eq_false (by omega)
      have t1' : decide (b + 1 < n) = false := decide_eq_false (by omega)
      have HEE2 := Aside0.mk hEE
      rw [t1]
      clear hEE hlt hee he1 hrow
      go_wp2_with (fail)
      go_meet
      case rel => exact ⟨by rw [← HEE2.out], rfl⟩
  case rest =>
    obtain ⟨rfl, rfl⟩ := hcut
    obtain ⟨y, e0, h0, h1⟩ := at_T40 (Kd.C_below HC.out HBS.out.below) (e1 : Int) he0 hec
    subst e0
    rw [Int.toNat_natCast] at h0 h1
    rw [hee] at hrow
    rw [show ((ee : Int) - 1) = (e1 : Int) by omega] at hrow
    obtain ⟨i, hi⟩ : ∃ i, rd_T40 code (e1 : Int) = i := ⟨_, rfl⟩
    rw [hi] at h0 h1 hrow
    obtain ⟨x0, hx0⟩ : ∃ x, i.f0 = x := ⟨_, rfl⟩
    obtain ⟨x1, hx1⟩ : ∃ x, i.f1 = x := ⟨_, rfl⟩
    rw [hx0] at h0 hrow
    rw [hx1] at h1 hrow
    have HROW := Aside0.mk hrow
    have f3 := cell_blk HBS.out.fb HKF.out.2.2.2.1
    clear hrow hi hx0 hx1 hee he1
    go_upto_region 5 with (fail)
    obtain ⟨LK, hLK⟩ : ∃ LK, wc.heap.size = LK := ⟨_, rfl⟩
    have hb2 : Below wc.heap.size wc (wc.alloc (.cells #[.int .i64 x0, .int .i64 x1] 40)) := below_alloc (Below.refl _ _) _
    have HX : Aside0 ((wc.alloc (.cells #[.int .i64 x0, .int .i64 x1] 40)).heap[LK]? = some (.cells #[.int .i64 x0, .int .i64 x1] 40 (0, 0))) := ⟨hLK ▸ World.alloc_heap_new wc _⟩
    have HBS2 := Aside0.mk (HBS.out.from_ hb2)
    rw [hLK]
    revert HX HBS2
    generalize wc.alloc (.cells #[.int .i64 x0, .int .i64 x1] 40) = W3
    intro HX HBS2
    obtain ⟨jb, hjb⟩ : ∃ x, jumpsP x0 = x := ⟨_, rfl⟩
    obtain ⟨sb, hsb⟩ : ∃ x, stopsP x0 = x := ⟨_, rfl⟩
    have hjf : portageref09_jumps.f x0 = some jb := by rw [rjumps_f, hjb]
    have HJB := Aside0.mk hjb
    have HSB := Aside0.mk hsb
    have HJF := Aside0.mk hjf
    obtain ⟨i3, hi3, hz30, hz31, hz32⟩ := info_parts info3
    have HI := Aside0.mk hi3
    have HZ0 := Aside0.mk hz30
    have HZ1 := Aside0.mk hz31
    have HZ2 := Aside0.mk hz32
    have HNB : Aside0 (n ≤ 8796093022207) := ⟨by have := HG.out.short; have := HN.out; omega⟩
    obtain ⟨sb0, hsb0⟩ : ∃ x, rd st (b : Int) = x := ⟨_, rfl⟩
    have HSB0 := Aside0.mk hsb0
    clear hb2 hLK HBS f3 h0 h1 hz hjb hsb hjf hi3 hz30 hz31 hz32 hsb0
    go_wp2_with (fail)
    go_loopw [9, 10] (fun v9 v wr => ∃ c : Nat, c ≤ n ∧ v = .int .i64 (c : Int) ∧ wr.ownsRow w.heap.size 3 1 v9 (upTo (fun c => (c : Int) ∈ rd_L3 nx (b : Int)) c).length ((upTo (fun c => (c : Int) ∈ rd_L3 nx (b : Int)) c).map (Value.int .i64)) ∧ FB w wr cf ∧ wr.heap[LK]? = some (.cells #[.int .i64 x0, .int .i64 x1] 40 (0, 0))) (fun _ v _ => ((n : Int) - intOf v).toNat)
    case atStart => exact ⟨0, Nat.zero_le _, rfl, World.ownsRow_nil _ _ _ _, HBS2.out, HX.out⟩
    case round =>
      clear HBS2 HX
      obtain ⟨c, hc, rfl, hO, hBS, hX⟩ := hrel
      obtain ⟨wo, rfl⟩ : ∃ wo, wo = wr := ⟨_, rfl⟩
      have HBS := Aside0.mk hBS
      have HX := Aside0.mk hX
      obtain ⟨A9', c9', rfl⟩ := row_slice hO
      have HO := Aside0.mk hO
      have hcm : c < 9223372036854775807 := by have := HNB.out; omega
      by_cases hcl : c < n
      · have hcn : (c : Int) < (n : Int) := by omega
        have hc0 : (0 : Int) ≤ (c : Int) := by omega
        have HCL := Aside0.mk hcl
        have HLN := Aside0.mk (upTo_len (fun c => (c : Int) ∈ rd_L3 nx (b : Int)) c)
        have HR := Aside0.mk (HROW.out c hcl)
        have v0 := cell_blk hX (i := 0) rfl
        have v1 := cell_blk hX (i := 1) rfl
        obtain ⟨z, e0, q1⟩ := Kd.at_int (Kd.C_below HA.out hBS.below) (c : Int) hc0 hcn
        cases e0
        rw [Int.toNat_natCast] at q1
        obtain ⟨sc, hsc⟩ : ∃ sc, rd st (c : Int) = sc := ⟨_, rfl⟩
        rw [hsc] at q1
        have HSC := Aside0.mk hsc
        clear hc hcl hO hBS hX hsc
        go_upto_region 9 with (fail)
        go_cut [11] (fun v11 wc => ∃ t : Bool, v11 = .bool t ∧ (t = true ↔ (jumpsP x0 = true ∧ x1 = sc)) ∧ Below wo.heap.size wo wc)
        case first =>
          cases jb with
          | true =>
            by_cases h1 : x1 = sc
            · have t1 : (x1 == sc) = true := by simpa using h1
              have H1 := Aside0.mk h1
              clear h1
              go_big_quiet (first | (go_at_call 35; exact quiet_dr (portageref09_jumps.calls _ _ _ HJF.out)))
              go_wp2_with (fail)
              go_meet
              case rel => exact ⟨true, rfl, ⟨fun _ => ⟨HJB.out, H1.out⟩, fun _ => rfl⟩, pw_below_drewN (Below.refl _ _) _⟩
            · have t1 : (x1 == sc) = false := by simpa using h1
              have H1 := Aside0.mk h1
              clear h1
              go_big_quiet (first | (go_at_call 35; exact quiet_dr (portageref09_jumps.calls _ _ _ HJF.out)))
              go_wp2_with (fail)
              go_meet
              case rel => exact ⟨false, rfl, ⟨fun h => (by cases h), fun h => absurd h.2 H1.out⟩, pw_below_drewN (Below.refl _ _) _⟩
          | false =>
            go_big_quiet (first | (go_at_call 35; exact quiet_dr (portageref09_jumps.calls _ _ _ HJF.out)))
            go_wp2_with (fail)
            go_meet
            case rel => exact ⟨false, rfl, ⟨fun h => (by cases h), fun h => absurd (h.1.symm.trans HJB.out) (by decide)⟩, pw_below_drewN (Below.refl _ _) _⟩
        case rest =>
          obtain ⟨t, rfl, ht, hbc⟩ := hcut
          have HT := Aside0.mk ht
          have HBW := Aside0.mk hbc
          have HX1 := Aside0.mk (blk_below HX.out hbc)
          clear ht hbc v0 v1 q1
          go_upto_region 10 with (fail)
          go_cut [60] (fun v60 wd => ∃ u : Bool, v60 = .bool u ∧ (u = true ↔ (c = b + 1 ∧ stopsP x0 = false)) ∧ Below wc.heap.size wc wd)
          case first =>
            by_cases h1 : c = b + 1
            · have t1 : ((c : Int) == (b : Int) + 1) = true := by simp; omega
              have H1 := Aside0.mk h1
              have v0 := cell_blk HX1.out (i := 0) rfl
              have v1 := cell_blk HX1.out (i := 1) rfl
              clear h1
              go_wp2_with (fail)
              refine (portageref09_stops.calls _ _ _ (rstops_f _)).mono ?_
              rintro e w9 ⟨rfl, hd9⟩
              have HD := Aside0.mk hd9.below
              rw [HSB.out]
              clear hd9
              cases sb with
              | true =>
                go_wp2_with (fail)
                go_meet
                case rel => exact ⟨false, rfl, ⟨fun h => (by cases h), fun h => absurd (h.2.symm.trans HSB.out) (by decide)⟩, HD.out⟩
              | false =>
                go_wp2_with (fail)
                go_meet
                case rel => exact ⟨true, rfl, ⟨fun _ => ⟨H1.out, HSB.out⟩, fun _ => rfl⟩, HD.out⟩
            · have t1 : ((c : Int) == (b : Int) + 1) = false := by simp; omega
              have H1 := Aside0.mk h1
              clear h1
              go_wp2_with (fail)
              go_meet
              case rel => exact ⟨false, rfl, ⟨fun h => (by cases h), fun h => absurd h.1 H1.out⟩, Below.refl _ _⟩
          case rest =>
            obtain ⟨u, rfl, hu, hbd⟩ := hcut
            have HU := Aside0.mk hu
            have HBW2 := Aside0.mk (HBW.out.trans (hbd.mono HBW.out.size))
            clear hu hbd HBW HX1
            go_upto_if 60 with (fail)
            go_cut [11] (fun v11 we => v11 = .bool (t || u) ∧ we = wc)
            case first =>
              cases u with
              | true =>
                go_wp2_with (fail)
                go_meet
                case rel => exact ⟨by simp, rfl⟩
              | false =>
                go_wp2_with (fail)
                go_meet
                case rel => exact ⟨by simp, rfl⟩
            case rest =>
              obtain ⟨rfl, rfl⟩ := hcut
              obtain ⟨b0, hb0⟩ : ∃ b0, (t || u) = b0 := ⟨_, rfl⟩
              have HM0 : Aside0 (b0 = true ↔ ((jumpsP x0 = true ∧ x1 = sc) ∨ (c = b + 1 ∧ stopsP x0 = false))) := ⟨by rw [← hb0, Bool.or_eq_true, HT.out, HU.out]⟩
              rw [hb0]
              clear hb0 HT HU
              go_wp2_with (fail)
              go_loopw [11, 12] (fun v11 v wr2 => ∃ (q : Nat) (t : Bool), q ≤ hs.length ∧ v11 = .bool t ∧ v = .int .i64 (q : Int) ∧ (t = true ↔ (((jumpsP x0 = true ∧ x1 = sc) ∨ (c = b + 1 ∧ stopsP x0 = false)) ∨ HB hs st (ee : Int) q b c)) ∧ Below wo.heap.size wo wr2) (fun _ v _ => ((hs.length : Int) - intOf v).toNat)
              case atStart =>
                refine ⟨0, b0, Nat.zero_le _, rfl, rfl, HM0.out.trans ⟨.inl, ?_⟩, HBW2.out⟩
                rintro (h | ⟨q, _, h, _⟩)
                · exact h
                · omega
              case round =>
                clear HBW2 HM0
                obtain ⟨q, t, hq, rfl, rfl, htq, hB⟩ := hrel
                have HTQ := Aside0.mk htq
                have HBW := Aside0.mk hB
                have HBS2 := Aside0.mk (HBS.out.from_ hB)
                have f4 := cell_blk HBS2.out.fb HKF.out.2.2.2.2
                have hqm : q < 9223372036854775807 := by have := HHN.out; omega
                by_cases hql : q < hs.length
                · have hql' : (q : Int) < (hs.length : Int) := by omega
                  have hq0 : (0 : Int) ≤ (q : Int) := by omega
                  have HQL := Aside0.mk hql
                  obtain ⟨y4, e0, h0, h1, h2, h3⟩ := at_T49 (Kd.C_below HH.out HBS2.out.below) (q : Int) hq0 hql'
                  subst e0
                  rw [Int.toNat_natCast] at h0 h1 h2 h3
                  have hget := get49 hql
                  obtain ⟨x, hx⟩ : ∃ x, rd_T49 hs (q : Int) = x := ⟨_, rfl⟩
                  rw [hx] at h0 h1 h2 h3 hget
                  have HSTEP : Aside0 (HB hs st (ee : Int) (q + 1) b c ↔ (HB hs st (ee : Int) q b c ∨ (x.f2 = sc ∧ x.f0 < (ee : Int) ∧ sb0 < x.f1))) := ⟨by
                    have e8 := HSC.out
                    have e9 := HSB0.out
                    constructor
                    · rintro ⟨q', i, k1, k2, k3⟩
                      by_cases e : q' = q
                      · subst e
                        have h9 := k2.symm.trans hget
                        cases h9
                        rw [e8, e9] at k3
                        exact .inr k3
                      · exact .inl ⟨q', i, by omega, k2, k3⟩
                    · rintro (⟨q', i, k1, k2, k3⟩ | k3)
                      · exact ⟨q', i, by omega, k2, k3⟩
                      · exact ⟨q, x, by omega, hget, by rw [e8, e9]; exact k3⟩⟩
                  clear hget hx hq hql htq hB
                  go_upto_region 16 with (fail)
                  obtain ⟨XB, hXB⟩ : ∃ XB, wr.heap.size = XB := ⟨_, rfl⟩
                  have hb2 : Below wr.heap.size wr (wr.alloc (.cells #[.int .i64 x.f0, .int .i64 x.f1, .int .i64 x.f2, .int .i64 x.f3] 49)) := below_alloc (Below.refl _ _) _
                  have HXX : Aside0 ((wr.alloc (.cells #[.int .i64 x.f0, .int .i64 x.f1, .int .i64 x.f2, .int .i64 x.f3] 49)).heap[XB]? = some (.cells #[.int .i64 x.f0, .int .i64 x.f1, .int .i64 x.f2, .int .i64 x.f3] 49 (0, 0))) := ⟨hXB ▸ World.alloc_heap_new wr _⟩
                  have HBW3 := Aside0.mk (HBW.out.trans (hb2.mono HBW.out.size))
                  rw [hXB]
                  revert HXX HBW3
                  generalize wr.alloc (.cells #[.int .i64 x.f0, .int .i64 x.f1, .int .i64 x.f2, .int .i64 x.f3] 49) = W5
                  intro HXX HBW3
                  clear hb2 hXB h0 h1 h2 h3 f4 HBW HBS2
                  have HBS5 := Aside0.mk (HBS.out.from_ HBW3.out)
                  have y0 := cell_blk HXX.out (i := 0) rfl
                  have y1 := cell_blk HXX.out (i := 1) rfl
                  have y2 := cell_blk HXX.out (i := 2) rfl
                  obtain ⟨z, e0, q1⟩ := Kd.at_int (Kd.C_below HA.out HBS5.out.below) (c : Int) hc0 hcn
                  cases e0
                  obtain ⟨z, e0, q2⟩ := Kd.at_int (Kd.C_below HA.out HBS5.out.below) (b : Int) hb0 hbn
                  cases e0
                  rw [Int.toNat_natCast, HSC.out] at q1
                  rw [Int.toNat_natCast, HSB0.out] at q2
                  go_cut [94] (fun v94 wd => ∃ u : Bool, v94 = .bool u ∧ (u = true ↔ (x.f2 = sc ∧ x.f0 < (ee : Int) ∧ sb0 < x.f1)) ∧ Below W5.heap.size W5 wd)
                  case first =>
                    by_cases h1 : x.f2 = sc
                    · have t1 : (x.f2 == sc) = true := by simpa using h1
                      by_cases h2 : x.f0 < (ee : Int)
                      · have t2 : decide (x.f0 < (ee : Int)) = true := decide_eq_true h2
                        by_cases h3 : sb0 < x.f1
                        · have t3 : decide (sb0 < x.f1) = true := decide_eq_true h3
                          have H1 := Aside0.mk (And.intro h1 (And.intro h2 h3))
                          clear h1 h2 h3
                          go_big_quiet (fail)
                          go_wp2_with (fail)
                          go_meet
                          case rel => exact ⟨true, rfl, ⟨fun _ => H1.out, fun _ => rfl⟩, pw_below_drewN (Below.refl _ _) _⟩
                        · have t3 : decide (sb0 < x.f1) = false := decide_eq_false h3
                          have H1 := Aside0.mk h3
                          clear h1 h2 h3
                          go_big_quiet (fail)
                          go_wp2_with (fail)
                          go_meet
                          case rel => exact ⟨false, rfl, ⟨fun h => (by cases h), fun h => absurd h.2.2 (by have := H1.out; omega)⟩, pw_below_drewN (Below.refl _ _) _⟩
                      · have t2 : decide (x.f0 < (ee : Int)) = false := decide_eq_false h2
                        have H1 := Aside0.mk h2
                        clear h1 h2
                        go_big_quiet (fail)
                        go_wp2_with (fail)
                        go_meet
                        case rel => exact ⟨false, rfl, ⟨fun h => (by cases h), fun h => absurd h.2.1 (by have := H1.out; omega)⟩, pw_below_drewN (Below.refl _ _) _⟩
                    · have t1 : (x.f2 == sc) = false := by simpa using h1
                      have H1 := Aside0.mk h1
                      clear h1
                      go_big_quiet (fail)
                      go_wp2_with (fail)
                      go_meet
                      case rel => exact ⟨false, rfl, ⟨fun h => (by cases h), fun h => absurd h.1 H1.out⟩, pw_below_drewN (Below.refl _ _) _⟩
                  case rest =>
                    obtain ⟨u, rfl, hu, hbd⟩ := hcut
                    have HU := Aside0.mk hu
                    have HBW4 := Aside0.mk (HBW3.out.trans (hbd.mono HBW3.out.size))
                    have HBS6 := Aside0.mk (HBS.out.from_ HBW4.out)
                    have f4 := cell_blk HBS6.out.fb HKF.out.2.2.2.2
                    clear hu hbd HBW3 HXX HBS5 y0 y1 y2 q1 q2
                    cases u with
                    | true =>
                      go_wp2_with (fail)
                      go_roundw
                      case measure => simp [intOf]; omega
                      case rel => exact ⟨q + 1, true, HQL.out, rfl, by first | rfl | go_num, ⟨fun _ => .inr (HSTEP.out.2 (.inr (HU.out.1 (by first | rfl | trivial)))), fun _ => rfl⟩, HBW4.out⟩
                    | false =>
                      go_wp2_with (fail)
                      go_roundw
                      case measure => simp [intOf]; omega
                      case rel =>
                        refine ⟨q + 1, t, HQL.out, rfl, by first | rfl | go_num, HTQ.out.trans (or_congr Iff.rfl ⟨fun h => HSTEP.out.2 (.inl h), fun h => (HSTEP.out.1 h).resolve_right (fun h => absurd (HU.out.2 h) (by decide))⟩), HBW4.out⟩
                · have hql' : (hs.length : Int) ≤ (q : Int) := by omega
                  have hqq : q = hs.length := by omega
                  subst hqq
                  have HBP : Aside0 (t = true ↔ (c : Int) ∈ rd_L3 nx (b : Int)) := ⟨by rw [HTQ.out, ← HSC.out]; exact HR.out.symm⟩
                  have HO2 := Aside0.mk (own_move HO.out fun k hk => HBW.out.block k (own_lt HO.out k hk))
                  have HX2 := Aside0.mk (blk_below HX.out HBW.out)
                  clear hq hql htq hB
                  cases t with
                  | false =>
                    go_wp2_with (fail)
                    go_roundw
                    case measure => simp [intOf]; omega
                    case rel =>
                      have hno : ¬ ((c : Int) ∈ rd_L3 nx (b : Int)) := fun h => absurd (HBP.out.2 h) (by decide)
                      refine ⟨c + 1, HCL.out, by first | rfl | go_num, ?_, HBS2.out, HX2.out⟩
                      rw [upTo_no (P := fun c => (c : Int) ∈ rd_L3 nx (b : Int)) hno]
                      exact HO2.out
                  | true =>
                    have HYES := Aside0.mk (HBP.out.1 rfl)
                    obtain ⟨U, hU⟩ : ∃ U, upTo (fun c => (c : Int) ∈ rd_L3 nx (b : Int)) c = U := ⟨_, rfl⟩
                    rw [hU] at HO2 HLN ⊢
                    have HUU := Aside0.mk hU
                    clear hU
                    go_wp2_with (first | (at_builtin; refine wpList_append_own _ rfl _ _ 26 rfl w.heap.size 3 i3 (.int .i64 0) 1 8 Try.underlying26 HI.out HZ0.out HZ1.out HZ2.out rfl (by decide) _ _ _ rfl (World.ownsRow.alloc HO2.out _) ⟨wr.heap.size, 0, none⟩ 1 1 [.int .i64 (c : Int)] rfl rfl (cell_one_new _ _ _) (by simp [Value.oneCell']) (by have := HLN.out; have := HNB.out; have := HCL.out; unfold maxLen; omega) (by have := HLN.out; have := HNB.out; have := HCL.out; omega) (by rw [World.size_alloc]; have := HBS2.out.below.size; omega) ?_; intro v9 w9 hown9 hgrow9 _; refine Classical.byContradiction (fun hcon => ?hst)) | go_in)
                    refine hcon ?_
                    have hg9 := (World.grownBy_alloc wr (.cells #[.int .i64 (c : Int)] 3) (Value.slice A9' U.length c9').ownBlock).trans hgrow9
                    have HO9 : Aside0 (w9.ownsRow w.heap.size 3 1 v9 (U ++ [(c : Int)]).length ((U ++ [(c : Int)]).map (Value.int .i64))) := ⟨by rw [List.map_append, List.length_append]; exact hown9⟩
                    have HBS9 : Aside0 (FB w w9 cf) := ⟨⟨(hg9.block _ (blk_lt HBS2.out.fb) (own_ne_box HO2.out HBS2.out.fb (by decide))).trans HBS2.out.fb, HBS2.out.below.grown hg9 HBS2.out.below.size (fun j e => own_base HO2.out j e)⟩⟩
                    have HX9 := Aside0.mk ((hg9.block _ (blk_lt HX2.out) (own_ne_box HO2.out HX2.out (by decide))).trans HX2.out)
                    clear hown9 hgrow9 hcon hg9 HO2 HBS2 HBW HX2
                    go_wp2_with (fail)
                    go_roundw
                    case measure => simp [intOf]; omega
                    case rel =>
                      refine ⟨c + 1, HCL.out, by first | rfl | go_num, ?_, HBS9.out, HX9.out⟩
                      rw [upTo_yes (P := fun c => (c : Int) ∈ rd_L3 nx (b : Int)) HYES.out, HUU.out]
                      exact HO9.out
      · have hcn : (n : Int) ≤ (c : Int) := by omega
        have hcc : c = n := by omega
        have e := HG.out.row_upTo HBN.out
        rw [hcc, e] at hO
        rw [hcc, e]
        have HO2 := Aside0.mk hO
        clear hc hcl hO hBS hX e HO hcc
        go_wp2_with (fail)
        go_ret
        exact ⟨_, _, rfl, HO2.out, HBS.out.below⟩
end Go.Proofs.Ytmeaepmimnmjlaa.Ask
/- The reference: Reached, by its meaning. -/
namespace Go.Proofs.Ytmeaepmimnmjlaa.Ask
open Go.Proofs.Ytmeaepmimnmjlaa.Dfs Go.Proofs.Ytmeaepmimnmjlaa.Dom Go.Proofs.Ytmeaepmimnmjlaa.DomT Go.RowKit Go.Shelf Go.Proofs.Ytmeaepmimnmjlaa.PGb Go.Proofs.Ytmeaepmimnmjlaa.Lit Go.Proofs.Ytmeaepmimnmjlaa.OwnCells Go.Proofs.YtmeaepmimnmjlaaW.PrintWords Go.Proofs.YtmeaepmimnmjlaaW.PrintLast Go.Proofs.YtmeaepmimnmjlaaW.PrintMore
attribute [local go_sem] Oper.semAt_some
attribute [local go_sem] run_store_fn
attribute [local go_sem] run_eql_fn
set_option linter.unusedVariables false
set_option linter.unusedSimpArgs false
def cntF (l : List Bool) : Nat := (l.filter fun x => !x).length
theorem cntF_set : ∀ (l : List Bool) (c : Nat), c < l.length → l.getD c false = false → cntF (l.set c true) + 1 = cntF l
  | [], c, h, _ => by simp at h
  | x :: l, 0, _, h => by
    have hx : x = false := h
    subst hx
    simp [cntF]
  | x :: l, c + 1, h, hf => by
    have := cntF_set l c (by simpa using h) (by simpa using hf)
    unfold cntF at this ⊢
    rw [List.set_cons_succ, List.filter_cons, List.filter_cons]
    cases x <;> simp <;> omega
theorem ar_post {nx : List (List Int)} (hw : Wf nx) {d x : Int} (h : AR (Ex nx) d x) : x ∈ post nx := by
  induction h with
  | zero _ => exact post_zero nx hw
  | step _ he _ _ => exact (post_mem nx hw _).2 (.step ((post_mem nx hw _).1 he.1) he.2)
/-- marks that are right so far -/
structure MI (nx : List (List Int)) (d : Int) (n : Nat) (is : List Bool) : Prop where
  len : is.length = n
  sound : ∀ x : Nat, x < n → is.getD x false = true → AR (Ex nx) d (x : Int)
  zero : d ≠ 0 → is.getD 0 false = true
/-- whatever may come behind a marked block is marked -/
def ClosedAt (nx : List (List Int)) (d : Int) (is : List Bool) (b : Nat) : Prop := is.getD b false = true → ∀ c ∈ nb nx (b : Int), c = d ∨ is.getD c.toNat false = true
theorem MI.done {nx : List (List Int)} {d : Int} {n : Nat} {is : List Bool} (hw : Wf nx) (hn : nx.length = n) (h : MI nx d n is) (hc : ∀ b, b < n → ClosedAt nx d is b) : ∀ x : Nat, x < n → (is.getD x false = true ↔ AR (Ex nx) d (x : Int)) := by
  have key : ∀ y, AR (Ex nx) d y → is.getD y.toNat false = true := by
    intro y hy
    induction hy with
    | zero hne => exact h.zero hne
    | @step a b h1 he hne ih =>
      have hb := post_bound nx hw he.1
      have := hc a.toNat (by omega) ih b (by rw [show ((a.toNat : Nat) : Int) = a by omega]; exact he.2)
      exact this.resolve_left hne
  exact fun x hx => ⟨h.sound x hx, fun ha => by have := key _ ha; rwa [Int.toNat_natCast] at this⟩
theorem MI.set {nx : List (List Int)} {d : Int} {n : Nat} {is : List Bool} (hw : Wf nx) (hn : nx.length = n) (h : MI nx d n is) {b c : Nat} (hb : b < n) (hm : is.getD b false = true) (hc : (c : Int) ∈ nb nx (b : Int)) (hcd : (c : Int) ≠ d) : MI nx d n (is.set c true) := by
  have hcn := hw.in_ _ _ hc
  have hl := h.len
  have ha := h.sound b hb hm
  refine ⟨by rw [List.length_set]; exact hl, fun x hx hx2 => ?_, fun hd => ?_⟩
  · rw [getD_set (by omega)] at hx2
    by_cases e : c = x
    · subst e; exact .step ha ⟨ar_post hw ha, hc⟩ hcd
    · rw [if_neg e] at hx2; exact h.sound x hx hx2
  · rw [getD_set (by omega)]
    split
    · rfl
    · exact h.zero hd
def is0 (d : Int) (k : Nat) : List Bool := (List.range k).map fun i => decide (i = 0) && decide (d ≠ 0)
theorem is0_succ (d : Int) (k : Nat) : is0 d (k + 1) = is0 d k ++ [decide (k = 0) && decide (d ≠ 0)] := by
  unfold is0; rw [List.range_succ, List.map_append]; rfl
theorem is0_one {d : Int} {b : Bool} (h : decide (d ≠ 0) = b) : (is0 d (0 + 1)).map Value.bool = (is0 d 0).map Value.bool ++ [.bool b] := by
  rw [is0_succ, List.map_append, h]; rfl
theorem is0_getD (d : Int) {k x : Nat} (hx : x < k) : (is0 d k).getD x false = (decide (x = 0) && decide (d ≠ 0)) := by
  unfold is0; rw [List.getD_eq_getElem?_getD, List.getElem?_map, List.getElem?_range hx]; rfl
theorem MI.start {nx : List (List Int)} (hw : Wf nx) {n : Nat} (hp : 0 < n) (d : Int) : MI nx d n (is0 d n) := by
  refine ⟨by simp [is0], fun x hx h => ?_, fun hd => ?_⟩
  · rw [is0_getD d hx, Bool.and_eq_true, decide_eq_true_eq, decide_eq_true_eq] at h
    rw [h.1]; exact .zero h.2
  · rw [is0_getD d hp]; simp [hd]
theorem cntF_le (l : List Bool) : cntF l ≤ l.length := List.length_filter_le _ _
set_option maxRecDepth 100000 in
set_option maxHeartbeats 16000000 in
theorem reachedR_own {w : World} {nx : List (List Int)} {n d1 : Nat} {a1 : Option Addr} {d : Int} (hw : Wf nx) (hl : nx.length = n) (hn : n ≤ 8796093022207) (hrow : ∀ b : Int, (nb nx b).length ≤ n) (hA : (Kd.slice 3 (Kd.int .i64)).C w a1 n nx) :
    Calls Try.prog 39 #[.slice a1 n d1, .int .i64 d] w fun e w' => ∃ (A : Option Addr) (c : Nat) (is : List Bool), e = .returned (.slice A n c) ∧ w'.ownsRow w.heap.size 4 1 (.slice A n c) n (is.map Value.bool) ∧ is.length = n ∧ (∀ x : Nat, x < n → (is.getD x false = true ↔ AR (Ex nx) d (x : Int))) ∧ Below w.heap.size w w' := by
  have hp : 0 < n := by have := hw.pos; omega
  obtain ⟨r1, _, _, rfl, _⟩ := at_L3 hA 0 (by omega) (by omega)
  have HA := Aside0.mk hA
  have HW := Aside0.mk hw
  have HLX := Aside0.mk hl
  have HN := Aside0.mk hn
  have HRL := Aside0.mk hrow
  clear hA hw hl hn hrow
  go_enter Try.func39, Try.ntmps39
  go_wp2_with (fail)
  obtain ⟨i3, hi3, hz30, hz31, hz32⟩ := info_parts info4
  have HI := Aside0.mk hi3
  have HZ0 := Aside0.mk hz30
  have HZ1 := Aside0.mk hz31
  have HZ2 := Aside0.mk hz32
  clear hi3 hz30 hz31 hz32
  go_loopw [5, 6] (fun v5 v wr => ∃ k : Nat, k ≤ n ∧ v = .int .i64 (k : Int) ∧ wr.ownsRow w.heap.size 4 1 v5 k ((is0 d k).map Value.bool) ∧ Below w.heap.size w wr) (fun _ v _ => ((n : Int) - intOf v).toNat)
  case atStart => exact ⟨0, Nat.zero_le _, rfl, World.ownsRow_nil _ _ _ _, Below.refl _ _⟩
  case round =>
    obtain ⟨k, hk, rfl, hO, hB⟩ := hrel
    have HO := Aside0.mk hO
    have HBW := Aside0.mk hB
    have hkm : k < 9223372036854775807 := by have := HN.out; omega
    by_cases hkn : k < n
    · have hkn' : (k : Int) < (n : Int) := by omega
      have HKN := Aside0.mk hkn
      obtain ⟨A8, c8, rfl⟩ := row_slice hO
      obtain ⟨bb, hbb⟩ : ∃ bb, (decide (k = 0) && decide (d ≠ 0)) = bb := ⟨_, rfl⟩
      have HBB := Aside0.mk hbb
      clear hk hkn hO hB
      by_cases hz : k = 0
      · subst hz
        rw [show ((0 : Nat) : Int) = 0 from rfl] at hkn' ⊢
        by_cases hd0 : d = 0
        · have t1 : (d != 0) = false := by simpa using hd0
          have HD0 : Aside0 (decide (d ≠ 0) = false) := ⟨by simp [hd0]⟩
          have e9 : bb = false := by rw [← hbb]; simp [hd0]
          subst e9
          clear hd0 hbb
          go_wp2_with (first | (at_builtin; refine wpList_append_own _ rfl _ _ 53 rfl w.heap.size 4 i3 (.bool false) 1 1 Try.underlying53 HI.out HZ0.out HZ1.out HZ2.out rfl (by decide) _ _ _ rfl (World.ownsRow.alloc HO.out _) ⟨wr.heap.size, 0, none⟩ 1 1 [.bool false] rfl rfl (cell_one_new _ _ _) (by simp [Value.oneCell']) (by unfold maxLen; omega) (by omega) (by rw [World.size_alloc]; have := HBW.out.size; omega) ?_; intro v9 w9 hown9 hgrow9 _; refine Classical.byContradiction (fun hcon => ?hst)) | go_in)
          refine hcon ?_
          have hg9 := (World.grownBy_alloc wr (.cells #[.bool false] 4) (Value.slice A8 0 c8).ownBlock).trans hgrow9
          have HO9 : Aside0 (w9.ownsRow w.heap.size 4 1 v9 (0 + 1) ((is0 d (0 + 1)).map Value.bool)) := ⟨by rw [is0_one HD0.out]; exact hown9⟩
          have HB9 : Aside0 (Below w.heap.size w w9) := ⟨HBW.out.grown hg9 HBW.out.size (fun j e => own_base HO.out j e)⟩
          clear hown9 hgrow9 hcon hg9 HO HBW
          go_wp2_with (fail)
          go_roundw
          case measure => simp [intOf]; omega
          case rel => exact ⟨0 + 1, HKN.out, by first | rfl | go_num, HO9.out, HB9.out⟩
        · have t1 : (d != 0) = true := by simpa using hd0
          have HD0 : Aside0 (decide (d ≠ 0) = true) := ⟨by simp [hd0]⟩
          have e9 : bb = true := by rw [← hbb]; simp [hd0]
          subst e9
          clear hd0 hbb
          go_wp2_with (first | (at_builtin; refine wpList_append_own _ rfl _ _ 53 rfl w.heap.size 4 i3 (.bool false) 1 1 Try.underlying53 HI.out HZ0.out HZ1.out HZ2.out rfl (by decide) _ _ _ rfl (World.ownsRow.alloc HO.out _) ⟨wr.heap.size, 0, none⟩ 1 1 [.bool true] rfl rfl (cell_one_new _ _ _) (by simp [Value.oneCell']) (by unfold maxLen; omega) (by omega) (by rw [World.size_alloc]; have := HBW.out.size; omega) ?_; intro v9 w9 hown9 hgrow9 _; refine Classical.byContradiction (fun hcon => ?hst2)) | go_in)
          refine hcon ?_
          have hg9 := (World.grownBy_alloc wr (.cells #[.bool true] 4) (Value.slice A8 0 c8).ownBlock).trans hgrow9
          have HO9 : Aside0 (w9.ownsRow w.heap.size 4 1 v9 (0 + 1) ((is0 d (0 + 1)).map Value.bool)) := ⟨by rw [is0_one HD0.out]; exact hown9⟩
          have HB9 : Aside0 (Below w.heap.size w w9) := ⟨HBW.out.grown hg9 HBW.out.size (fun j e => own_base HO.out j e)⟩
          clear hown9 hgrow9 hcon hg9 HO HBW
          go_wp2_with (fail)
          go_roundw
          case measure => simp [intOf]; omega
          case rel => exact ⟨0 + 1, HKN.out, by first | rfl | go_num, HO9.out, HB9.out⟩
      · have t1 : ((k : Int) == 0) = false := by simp; omega
        have t1' : (k == 0) = false := by simp; omega
        have e9 : bb = false := by rw [← hbb]; simp [hz]
        subst e9
        clear hz hbb
        go_wp2_with (first | (at_builtin; refine wpList_append_own _ rfl _ _ 53 rfl w.heap.size 4 i3 (.bool false) 1 1 Try.underlying53 HI.out HZ0.out HZ1.out HZ2.out rfl (by decide) _ _ _ rfl (World.ownsRow.alloc HO.out _) ⟨wr.heap.size, 0, none⟩ 1 1 [.bool false] rfl rfl (cell_one_new _ _ _) (by simp [Value.oneCell']) (by have := HN.out; have := HKN.out; unfold maxLen; omega) (by have := HN.out; have := HKN.out; omega) (by rw [World.size_alloc]; have := HBW.out.size; omega) ?_; intro v9 w9 hown9 hgrow9 _; refine Classical.byContradiction (fun hcon => ?hst3)) | go_in)
        refine hcon ?_
        have hg9 := (World.grownBy_alloc wr (.cells #[.bool false] 4) (Value.slice A8 k c8).ownBlock).trans hgrow9
        have HO9 : Aside0 (w9.ownsRow w.heap.size 4 1 v9 (k + 1) ((is0 d (k + 1)).map Value.bool)) := ⟨by rw [is0_succ, List.map_append, HBB.out]; exact hown9⟩
        have HB9 : Aside0 (Below w.heap.size w w9) := ⟨HBW.out.grown hg9 HBW.out.size (fun j e => own_base HO.out j e)⟩
        clear hown9 hgrow9 hcon hg9 HO HBW
        go_wp2_with (fail)
        go_roundw
        case measure => simp [intOf]; omega
        case rel => exact ⟨k + 1, HKN.out, by first | rfl | go_num, HO9.out, HB9.out⟩
    · have hkn' : (n : Int) ≤ (k : Int) := by omega
      have hkk : n = k := by omega
      subst hkk
      obtain ⟨A5, c5, rfl⟩ := row_slice hO
      obtain ⟨g5, rfl⟩ : ∃ g5, A5 = some ⟨g5, 0, none⟩ := by
        rcases hO.2 with ⟨e, _⟩ | ⟨g, cap, cur, e, _⟩
        · cases e; exact absurd hp (by omega)
        · cases e; exact ⟨_, rfl⟩
      clear hk hkn hO hB
      go_wp2_with (fail)
      (try rw [show decide (n < n) = false from decide_eq_false (by omega)])
      go_loopg [7, 8, 9, 10] (2 * n + 1) (fun gm v7 v8 v9 v10 wr => ∃ (ag : Bool) (is : List Bool), v7 = .bool ag ∧ MI nx d n is ∧ (ag = false → ∀ b, b < n → ClosedAt nx d is b) ∧ 2 * cntF is + (if ag = true then 1 else 0) ≤ gm ∧ wr.ownsRow w.heap.size 4 1 (.slice (some ⟨g5, 0, none⟩) n c5) n (is.map Value.bool) ∧ Below w.heap.size w wr)
      case atStart => exact ⟨true, is0 d n, rfl, MI.start HW.out hp d, fun h => (by cases h), by have := cntF_le (is0 d n); have := (MI.start HW.out hp d).len; simp; omega, HO.out, HBW.out⟩
      case round =>
        clear HO HBW
        obtain ⟨ag, is, rfl, hM, hcl, hms, hO, hB⟩ := hrel
        have HO := Aside0.mk hO
        have HBW := Aside0.mk hB
        have HM := Aside0.mk hM
        have HCL := Aside0.mk hcl
        have HMS := Aside0.mk hms
        clear hM hcl hms hO hB
        cases ag with
        | false =>
          have HFIN := Aside0.mk (HM.out.done HW.out HLX.out (HCL.out rfl))
          clear HCL
          go_wp2_with (fail)
          go_ret
          exact ⟨_, _, is, rfl, HO.out, HM.out.len, HFIN.out, HBW.out⟩
        | true =>
          clear HCL
          go_wp2_with (fail)
          go_loopw [7, 8] (fun v7 v wr => ∃ (b : Nat) (ag : Bool) (is' : List Bool), b ≤ n ∧ v = .int .i64 (b : Int) ∧ v7 = .bool ag ∧ MI nx d n is' ∧ cntF is' + (if ag = true then 1 else 0) ≤ cntF is ∧ (ag = false → ∀ b', b' < b → ClosedAt nx d is' b') ∧ wr.ownsRow w.heap.size 4 1 (.slice (some ⟨g5, 0, none⟩) n c5) n (is'.map Value.bool) ∧ Below w.heap.size w wr) (fun _ v _ => ((n : Int) - intOf v).toNat)
          case atStart => exact ⟨0, false, is, Nat.zero_le _, rfl, rfl, HM.out, by simp, fun _ b' h => by omega, HO.out, HBW.out⟩
          case round =>
            clear HO HBW HM
            obtain ⟨b, ag, is', hb, rfl, rfl, hM, hcn, hcl, hO, hB⟩ := hrel
            have HO := Aside0.mk hO
            have HBW := Aside0.mk hB
            have HM := Aside0.mk hM
            have HCN := Aside0.mk hcn
            have HCL := Aside0.mk hcl
            have hbm : b < 9223372036854775807 := by have := HN.out; omega
            by_cases hbl : b < n
            · have hbn : (b : Int) < (n : Int) := by omega
              have hb0 : (0 : Int) ≤ (b : Int) := by omega
              have HBN := Aside0.mk hbl
              have hl := hM.len
              have c5b := hO.cellAt b (by omega)
              obtain ⟨ib, hib⟩ : ∃ x, is'.getD b false = x := ⟨_, rfl⟩
              have e5 : is'[b]? = some ib := by
                have h9 : b < is'.length := by omega
                rw [← hib, List.getD_eq_getElem?_getD, List.getElem?_eq_getElem h9]; rfl
              rw [List.getElem?_map, e5] at c5b
              have c5b' : wr.cell? ⟨g5, b, none⟩ = some (.bool ib) := c5b
              have HIB := Aside0.mk hib
              clear hb hbl hM hcn hcl hO hB c5b e5 hib hl
              cases ib with
              | false =>
                go_wp2_with (fail)
                go_roundw
                case measure => simp [intOf]; omega
                case rel =>
                  refine ⟨b + 1, ag, is', HBN.out, by first | rfl | go_num, rfl, HM.out, HCN.out, fun ha b' h => ?_, HO.out, HBW.out⟩
                  by_cases e : b' = b
                  · subst e; exact fun h9 => absurd (h9.symm.trans HIB.out) (by decide)
                  · exact HCL.out ha b' (by omega)
              | true =>
                go_wp2_with (fail)
                clear c5b'
                obtain ⟨row, hrow⟩ : ∃ row, nb nx (b : Int) = row := ⟨_, rfl⟩
                have hlr := HRL.out (b : Int)
                rw [hrow] at hlr
                have HRW := Aside0.mk hrow
                have HLR := Aside0.mk hlr
                clear hrow hlr
                go_loopw [7, 9] (fun v7 v wr => ∃ (k : Nat) (ag : Bool) (is' : List Bool), k ≤ row.length ∧ v = .int .i64 (k : Int) ∧ v7 = .bool ag ∧ MI nx d n is' ∧ is'.getD b false = true ∧ cntF is' + (if ag = true then 1 else 0) ≤ cntF is ∧ (ag = false → (∀ b', b' < b → ClosedAt nx d is' b') ∧ ∀ k', k' < k → ∀ c, row[k']? = some c → c = d ∨ is'.getD c.toNat false = true) ∧ wr.ownsRow w.heap.size 4 1 (.slice (some ⟨g5, 0, none⟩) n c5) n (is'.map Value.bool) ∧ Below w.heap.size w wr) (fun _ v _ => ((row.length : Int) - intOf v).toNat)
                case atStart => exact ⟨0, ag, is', Nat.zero_le _, rfl, rfl, HM.out, HIB.out, HCN.out, fun ha => ⟨HCL.out ha, fun k' h => by omega⟩, HO.out, HBW.out⟩
                case round =>
                  clear HO HBW HM HCN HCL HIB
                  obtain ⟨k, ag, is', hk, rfl, rfl, hM, hib, hcn, hcl, hO, hB⟩ := hrel
                  have HO := Aside0.mk hO
                  have HBW := Aside0.mk hB
                  have HM := Aside0.mk hM
                  have HIB := Aside0.mk hib
                  have HCN := Aside0.mk hcn
                  have HCL := Aside0.mk hcl
                  have hkm : k < 9223372036854775807 := by have := HN.out; have := HLR.out; omega
                  obtain ⟨x, A9, c9, e, q1, hc9, hC9⟩ := at_L3 (Kd.C_below HA.out hB) (b : Int) hb0 hbn
                  cases e
                  have e9 : rd_L3 nx (b : Int) = row := HRW.out
                  rw [e9] at q1 hC9
                  rw [Int.toNat_natCast] at q1
                  by_cases hkl : k < row.length
                  · have hkr : (k : Int) < (row.length : Int) := by omega
                    have hk0 : (0 : Int) ≤ (k : Int) := by omega
                    have HKL := Aside0.mk hkl
                    obtain ⟨ad, e, q2⟩ := Kd.at_int hC9 (k : Int) hk0 hkr
                    subst e
                    rw [Int.toNat_natCast] at q2
                    have hmem : rd row (k : Int) ∈ nb nx (b : Int) := by rw [HRW.out]; exact rd_mem hkl
                    have hcb := HW.out.in_ _ _ hmem
                    rw [HLX.out] at hcb
                    obtain ⟨c, hc⟩ : ∃ c : Nat, rd row (k : Int) = (c : Int) := ⟨(rd row (k : Int)).toNat, by omega⟩
                    have hget : row[k]? = some (c : Int) := by rw [← hc, List.getElem?_eq_getElem hkl]; simp [rd, hkl]
                    rw [hc] at q2 hmem hcb
                    have HGET := Aside0.mk hget
                    have HMEM := Aside0.mk hmem
                    obtain ⟨hc0, hc1⟩ := hcb
                    have hl := hM.len
                    have c5c := hO.cellAt c (by omega)
                    obtain ⟨ic, hic⟩ : ∃ x, is'.getD c false = x := ⟨_, rfl⟩
                    have e5 : is'[c]? = some ic := by
                      have h9 : c < is'.length := by omega
                      rw [← hic, List.getD_eq_getElem?_getD, List.getElem?_eq_getElem h9]; rfl
                    rw [List.getElem?_map, e5] at c5c
                    have c5c' : wr.cell? ⟨g5, c, none⟩ = some (.bool ic) := c5c
                    have f5 := hO.frozenAt c
                    have HIC := Aside0.mk hic
                    have hHO2 : (wr.setCell ⟨g5, c, none⟩ (.bool true)).ownsRow w.heap.size 4 1 (.slice (some ⟨g5, 0, none⟩) n c5) n ((is'.set c true).map Value.bool) := by rw [List.map_set]; exact (hO.stored c (.bool true)).1
                    have HO2 := Aside0.mk hHO2
                    have HB2 : Aside0 (Below w.heap.size w (wr.setCell ⟨g5, c, none⟩ (.bool true))) := ⟨HBW.out.setCell (p := ⟨g5, c, none⟩) (own_base HO.out g5 rfl) _⟩
                    clear hk hkl hM hib hcn hcl hO hB c5c e5 hic hl hHO2 hget hmem hc hC9 e9
                    have hkeep : Aside0 (∀ k', k' < k + 1 → ∀ c', row[k']? = some c' → (k' < k) ∨ c' = (c : Int)) := ⟨fun k' h c' hg => by
                      by_cases e : k' = k
                      · subst e
                        have := hg.symm.trans HGET.out
                        cases this
                        exact .inr rfl
                      · exact .inl (by omega)⟩
                    cases ic with
                    | true =>
                      go_wp2_with (fail)
                      go_roundw
                      case measure => simp [intOf]; omega
                      case rel =>
                        refine ⟨k + 1, ag, is', HKL.out, by first | rfl | go_num, rfl, HM.out, HIB.out, HCN.out, fun ha => ⟨(HCL.out ha).1, fun k' h c' hg => ?_⟩, HO.out, HBW.out⟩
                        rcases hkeep.out k' h c' hg with h9 | h9
                        · exact (HCL.out ha).2 k' h9 c' hg
                        · subst h9; exact .inr (by rw [Int.toNat_natCast]; exact HIC.out)
                    | false =>
                      by_cases hcd : (c : Int) = d
                      · have t1 : ((c : Int) != d) = false := by simpa using hcd
                        have t1b : ((c : Int) == d) = true := by simpa using hcd
                        have HCD := Aside0.mk hcd
                        clear hcd
                        go_wp2_with (fail)
                        go_roundw
                        case measure => simp [intOf]; omega
                        case rel =>
                          refine ⟨k + 1, ag, is', HKL.out, by first | rfl | go_num, rfl, HM.out, HIB.out, HCN.out, fun ha => ⟨(HCL.out ha).1, fun k' h c' hg => ?_⟩, HO.out, HBW.out⟩
                          rcases hkeep.out k' h c' hg with h9 | h9
                          · exact (HCL.out ha).2 k' h9 c' hg
                          · subst h9; exact .inl HCD.out
                      · have t1 : ((c : Int) != d) = true := by simpa using hcd
                        have t1b : ((c : Int) == d) = false := by simpa using hcd
                        have HM2 := Aside0.mk (HM.out.set HW.out HLX.out HBN.out HIB.out HMEM.out hcd)
                        have hcs := cntF_set is' c (by rw [HM.out.len]; omega) HIC.out
                        have HCS := Aside0.mk hcs
                        have HIB2 : Aside0 ((is'.set c true).getD b false = true) := ⟨by
                          rw [getD_set (by rw [HM.out.len]; omega)]
                          split
                          · rfl
                          · exact HIB.out⟩
                        clear hcd hcs
                        go_wp2_with (fail)
                        go_roundw
                        case measure => simp [intOf]; omega
                        case rel => exact ⟨k + 1, true, _, HKL.out, by first | rfl | go_num, rfl, HM2.out, HIB2.out, by have := HCS.out; have := HCN.out; simp; omega, fun ha => (by cases ha), HO2.out, HB2.out⟩
                  · have hkr : (row.length : Int) ≤ (k : Int) := by omega
                    have hkk : k = row.length := by omega
                    have HKK := Aside0.mk hkk
                    clear hk hkl hM hib hcn hcl hO hB hC9 hkk e9
                    go_wp2_with (fail)
                    go_roundw
                    case measure => simp [intOf]; omega
                    case rel =>
                      refine ⟨b + 1, ag, is', HBN.out, by first | rfl | go_num, rfl, HM.out, HCN.out, fun ha b' h => ?_, HO.out, HBW.out⟩
                      by_cases e : b' = b
                      · subst e
                        intro _ c hc
                        rw [HRW.out] at hc
                        obtain ⟨q, hq, e2⟩ := List.getElem_of_mem hc
                        exact (HCL.out ha).2 q (by rw [HKK.out]; exact hq) c (by rw [List.getElem?_eq_getElem hq, e2])
                      · exact (HCL.out ha).1 b' (by omega)
            · have hbn : (n : Int) ≤ (b : Int) := by omega
              have hbb : b = n := by omega
              have HBB2 := Aside0.mk hbb
              clear hb hbl hM hcn hcl hO hB hbb
              go_wp2_with (fail)
              go_roundg (2 * cntF is' + (if ag = true then 1 else 0))
              case measure =>
                have h1 := HMS.out
                have h2 := HCN.out
                cases ag <;> simp at * <;> omega
              case rel =>
                refine ⟨ag, is', rfl, HM.out, fun ha b' h => HCL.out ha b' (by have := HBB2.out; omega), Nat.le_refl _, HO.out, HBW.out⟩
end Go.Proofs.Ytmeaepmimnmjlaa.Ask
/- The reference: idom, by its meaning. -/
namespace Go.Proofs.Ytmeaepmimnmjlaa.Ask
open Go.Proofs.Ytmeaepmimnmjlaa.Dfs Go.Proofs.Ytmeaepmimnmjlaa.Dom Go.Proofs.Ytmeaepmimnmjlaa.DomT Go.RowKit Go.Shelf Go.Proofs.Ytmeaepmimnmjlaa.PGb Go.Proofs.Ytmeaepmimnmjlaa.Lit Go.Proofs.Ytmeaepmimnmjlaa.OwnCells Go.Proofs.YtmeaepmimnmjlaaW.PrintWords Go.Proofs.YtmeaepmimnmjlaaW.PrintLast Go.Proofs.YtmeaepmimnmjlaaW.PrintMore
attribute [local go_sem] Oper.semAt_some
attribute [local go_sem] run_store_fn
attribute [local go_sem] run_eql_fn
set_option linter.unusedVariables false
set_option linter.unusedSimpArgs false
section
variable {code : List S40} {hs : List S49} {n m : Nat} {st : List Int} {nx : List (List Int)} {ord l hd : List Int}
theorem anc_low {u : Int → Int} {nx : List (List Int)} {l : List Int} (h : IsDom nx l) (hw : Wf nx) {x y : Int} (hx : x ∈ post nx) (ha : Anc (rd l) x y) (hne : x ≠ y) : posx nx y < posx nx x := by
  rcases anc_cases ha with e | ⟨h0, h1⟩
  · exact absurd e hne
  · have hx0 : x ≠ 0 := fun e => by subst e; rw [h.zero] at h0; omega
    obtain ⟨h2, h3⟩ := h.up x hx hx0
    have := (dom_low h hw h1 h2).2
    omega
/-- strictly above b -/
def Above (nx : List (List Int)) (b : Nat) (a : Nat) : Prop := (a : Int) ≠ (b : Int) ∧ (a : Int) ∈ post nx ∧ ¬ AR (Ex nx) (a : Int) (b : Int)
theorem GF.above_top (g : GF code hs n m st nx ord l hd) {b : Nat} (hb : (b : Int) ∈ post nx) (hb0 : (b : Int) ≠ 0) : ∃ u : Nat, u < n ∧ rd l (b : Int) = (u : Int) ∧ Above nx b u ∧ ∀ a : Nat, Above nx b a → a ≠ u → ¬ AR (Ex nx) (a : Int) (u : Int) ∧ AR (Ex nx) (u : Int) (a : Int) := by
  have hw := g.wf
  obtain ⟨h1, h2⟩ := g.dom.up _ hb hb0
  have hd := post_bound nx hw h1
  rw [g.lnx] at hd
  obtain ⟨u, hu⟩ : ∃ u : Nat, rd l (b : Int) = (u : Int) := ⟨(rd l (b : Int)).toNat, by omega⟩
  have hanc : Anc (rd l) (b : Int) (rd l (b : Int)) := .step hd.1 (.refl _)
  refine ⟨u, by omega, hu, ⟨?_, hu ▸ h1, hu ▸ (g.dom.anc _ hb _).1 hanc⟩, fun a ha hau => ?_⟩
  · intro e; rw [hu, e] at h2; omega
  · obtain ⟨a1, a2, a3⟩ := ha
    have h3 := (g.dom.anc _ hb (a : Int)).2 a3
    rcases anc_cases h3 with e | ⟨_, h4⟩
    · exact absurd e.symm a1
    · refine ⟨hu ▸ (g.dom.anc _ h1 _).1 h4, ?_⟩
      refine Classical.byContradiction fun hno => ?_
      have h5 := (g.dom.anc _ a2 (u : Int)).2 hno
      rw [hu] at h4
      have p1 := anc_low (u := rd l) g.dom hw (hu ▸ h1) h4 (by omega)
      have p2 := anc_low (u := rd l) g.dom hw a2 h5 (by omega)
      omega
end
set_option maxRecDepth 100000 in
set_option maxHeartbeats 16000000 in
theorem idomR_own {code : List S40} {hs : List S49} {n m : Nat} {st : List Int} {nx : List (List Int)} {ord l hd : List Int} {w : World} {A6 A7 : Option Addr} {c6 c7 b : Nat} {all : List Bool} {cuts : List (List Bool)} (g : GF code hs n m st nx ord l hd) (hn : n ≤ 8796093022207) (hb : b < n) (h6 : Kd.bool.C w A6 n all) (m6 : ∀ x : Nat, x < n → (rdOf false all (x : Int) = true ↔ (x : Int) ∈ post nx)) (h7 : (Kd.slice 4 Kd.bool).C w A7 n cuts) (m7 : ∀ a : Nat, a < n → (rd_L5 cuts (a : Int)).length = n ∧ ∀ x : Nat, x < n → (rdOf false (rd_L5 cuts (a : Int)) (x : Int) = true ↔ AR (Ex nx) (a : Int) (x : Int))) :
    Calls Try.prog 40 #[.slice A6 n c6, .slice A7 n c7, .int .i64 (b : Int)] w fun e w' => e = .returned (.int .i64 (rd l (b : Int))) ∧ Below w.heap.size w w' := by
  have hp := g.pos
  obtain ⟨r6, rfl, _⟩ := Kd.at_bool h6 0 (by omega) (by omega)
  obtain ⟨r7, _, _, rfl, _⟩ := at_L5 h7 0 (by omega) (by omega)
  have HG := Aside0.mk g
  have HN := Aside0.mk hn
  have HBN := Aside0.mk hb
  have H6 := Aside0.mk h6
  have M6 := Aside0.mk m6
  have H7 := Aside0.mk h7
  have M7 := Aside0.mk m7
  have hbn : (b : Int) < (n : Int) := by omega
  have hb0 : (0 : Int) ≤ (b : Int) := by omega
  have hbm : b < 9223372036854775807 := by omega
  obtain ⟨z, e, q6⟩ := Kd.at_bool h6 (b : Int) hb0 hbn
  cases e
  rw [Int.toNat_natCast] at q6
  have hal := m6 b hb
  obtain ⟨ab, hab⟩ : ∃ x, rdOf false all (b : Int) = x := ⟨_, rfl⟩
  rw [hab] at q6 hal
  clear g hn h6 m6 h7 m7 hb hab
  go_enter Try.func40, Try.ntmps40
  by_cases hz : b = 0
  · subst hz
    have hd0 : rd l ((0 : Nat) : Int) = -1 := HG.out.dom.zero
    rw [hd0]
    rw [show ((0 : Nat) : Int) = 0 from rfl] at hbn ⊢
    clear hal q6 hd0
    go_wp2_with (fail)
    go_ret
    exact ⟨rfl, Below.refl _ _⟩
  · have z1 : ((b : Int) == 0) = false := by simp; omega
    have z1' : (b == 0) = false := by simp; omega
    cases ab with
    | false =>
      have hd0 : rd l (b : Int) = -1 := HG.out.dom.off (b : Int) hb0 (by rw [HG.out.lnx]; exact hbn) (fun h => absurd (hal.2 h) (by decide))
      rw [hd0]
      clear hal hz hd0
      go_wp2_with (fail)
      go_ret
      exact ⟨rfl, Below.refl _ _⟩
    | true =>
      obtain ⟨u, hun, hu, hab, htop⟩ := HG.out.above_top (hal.1 rfl) (by omega)
      rw [hu]
      have HU := Aside0.mk hun
      have HAB := Aside0.mk hab
      have HTOP := Aside0.mk htop
      clear hal hz hu hun hab htop
      go_wp2_with (fail)
      clear q6 z1 z1'
      obtain ⟨i3, hi3, hz30, hz31, hz32⟩ := info_parts info3
      have HI := Aside0.mk hi3
      have HZ0 := Aside0.mk hz30
      have HZ1 := Aside0.mk hz31
      have HZ2 := Aside0.mk hz32
      clear hi3 hz30 hz31 hz32
      go_loopw [7, 8] (fun v7 v wr => ∃ a : Nat, a ≤ n ∧ v = .int .i64 (a : Int) ∧ wr.ownsRow w.heap.size 3 1 v7 (upTo (Above nx b) a).length ((upTo (Above nx b) a).map (Value.int .i64)) ∧ Below w.heap.size w wr) (fun _ v _ => ((n : Int) - intOf v).toNat)
      case atStart => exact ⟨0, Nat.zero_le _, rfl, World.ownsRow_nil _ _ _ _, Below.refl _ _⟩
      case round =>
        obtain ⟨a, ha, rfl, hO, hB⟩ := hrel
        have HO := Aside0.mk hO
        have HBW := Aside0.mk hB
        have ham : a < 9223372036854775807 := by have := HN.out; omega
        obtain ⟨A8, c8, rfl⟩ := row_slice hO
        by_cases hal : a < n
        · have han : (a : Int) < (n : Int) := by omega
          have ha0 : (0 : Int) ≤ (a : Int) := by omega
          have HAN := Aside0.mk hal
          have HLN := Aside0.mk (upTo_len (Above nx b) a)
          obtain ⟨z, e, q6⟩ := Kd.at_bool (Kd.C_below H6.out hB) (a : Int) ha0 han
          cases e
          rw [Int.toNat_natCast] at q6
          have hm6 := M6.out a hal
          obtain ⟨pb, hpb⟩ : ∃ x, rdOf false all (a : Int) = x := ⟨_, rfl⟩
          rw [hpb] at q6 hm6
          obtain ⟨z, Ac, cc, e, q7, hcc, hCc⟩ := at_L5 (Kd.C_below H7.out hB) (a : Int) ha0 han
          cases e
          obtain ⟨hcl, hcm⟩ := M7.out a hal
          rw [hcl] at q7 hCc
          obtain ⟨zc, e, q8⟩ := Kd.at_bool hCc (b : Int) hb0 hbn
          subst e
          rw [Int.toNat_natCast] at q7 q8
          have hm7 := hcm b HBN.out
          obtain ⟨cb, hcb⟩ : ∃ x, rdOf false (rd_L5 cuts (a : Int)) (b : Int) = x := ⟨_, rfl⟩
          rw [hcb] at q8 hm7
          have HM6 := Aside0.mk hm6
          have HM7 := Aside0.mk hm7
          clear ha hal hO hB hpb hcc hCc hcl hcm hcb hm6 hm7
          by_cases hab : a = b
          · subst hab
            go_wp2_with (fail)
            go_roundw
            case measure => simp [intOf]; omega
            case rel =>
              refine ⟨a + 1, HAN.out, by first | rfl | go_num, ?_, HBW.out⟩
              rw [upTo_no (fun h => h.1 rfl)]
              exact HO.out
          · have t1 : ((a : Int) != (b : Int)) = true := by simp; omega
            have t1' : (a != b) = true := by simp; omega
            have t1b : ((a : Int) == (b : Int)) = false := by simp; omega
            have t1c : (a == b) = false := by simp; omega
            have HNE := Aside0.mk hab
            clear hab
            cases pb with
            | false =>
              go_wp2_with (fail)
              go_roundw
              case measure => simp [intOf]; omega
              case rel =>
                refine ⟨a + 1, HAN.out, by first | rfl | go_num, ?_, HBW.out⟩
                rw [upTo_no (fun h => absurd (HM6.out.2 h.2.1) (by decide))]
                exact HO.out
            | true =>
              cases cb with
              | true =>
                go_wp2_with (fail)
                go_roundw
                case measure => simp [intOf]; omega
                case rel =>
                  refine ⟨a + 1, HAN.out, by first | rfl | go_num, ?_, HBW.out⟩
                  rw [upTo_no (fun h => h.2.2 (HM7.out.1 rfl))]
                  exact HO.out
              | false =>
                have HYES : Aside0 (Above nx b a) := ⟨⟨by have := HNE.out; omega, HM6.out.1 rfl, fun h => absurd (HM7.out.2 h) (by decide)⟩⟩
                obtain ⟨U, hU⟩ : ∃ U, upTo (Above nx b) a = U := ⟨_, rfl⟩
                rw [hU] at HO HLN ⊢
                have HUU := Aside0.mk hU
                clear hU
                go_wp2_with (first | (at_builtin; refine wpList_append_own _ rfl _ _ 26 rfl w.heap.size 3 i3 (.int .i64 0) 1 8 Try.underlying26 HI.out HZ0.out HZ1.out HZ2.out rfl (by decide) _ _ _ rfl (World.ownsRow.alloc HO.out _) ⟨wr.heap.size, 0, none⟩ 1 1 [.int .i64 (a : Int)] rfl rfl (cell_one_new _ _ _) (by simp [Value.oneCell']) (by have := HLN.out; have := HN.out; have := HAN.out; unfold maxLen; omega) (by have := HLN.out; have := HN.out; have := HAN.out; omega) (by rw [World.size_alloc]; have := HBW.out.size; omega) ?_; intro v9 w9 hown9 hgrow9 _; refine Classical.byContradiction (fun hcon => ?hst)) | go_in)
                refine hcon ?_
                have hg9 := (World.grownBy_alloc wr (.cells #[.int .i64 (a : Int)] 3) (Value.slice A8 U.length c8).ownBlock).trans hgrow9
                have HO9 : Aside0 (w9.ownsRow w.heap.size 3 1 v9 (U ++ [(a : Int)]).length ((U ++ [(a : Int)]).map (Value.int .i64))) := ⟨by rw [List.map_append, List.length_append]; exact hown9⟩
                have HB9 : Aside0 (Below w.heap.size w w9) := ⟨HBW.out.grown hg9 HBW.out.size (fun j e => own_base HO.out j e)⟩
                clear hown9 hgrow9 hcon hg9 HO HBW
                go_wp2_with (fail)
                go_roundw
                case measure => simp [intOf]; omega
                case rel =>
                  refine ⟨a + 1, HAN.out, by first | rfl | go_num, ?_, HB9.out⟩
                  rw [upTo_yes HYES.out, HUU.out]
                  exact HO9.out
        · have han : (n : Int) ≤ (a : Int) := by omega
          have haa : n = a := by omega
          subst haa
          obtain ⟨D, hD⟩ : ∃ D, upTo (Above nx b) n = D := ⟨_, rfl⟩
          have hDm : ∀ x : Int, x ∈ D ↔ ∃ p : Nat, p < n ∧ x = (p : Int) ∧ Above nx b p := fun x => by rw [← hD]; exact upTo_mem _ _ x
          have hDr : D.Pairwise (· < ·) := by rw [← hD]; exact upTo_rise _ _
          have hDl : D.length ≤ n := by rw [← hD]; exact upTo_len _ _
          rw [hD] at hO HO ⊢
          have hDC := (row_C (A := A8) (c := c8) (l := D) hO).1
          have HDM := Aside0.mk hDm
          have HDR := Aside0.mk hDr
          have HDL := Aside0.mk hDl
          have HDC := Aside0.mk hDC
          clear ha hal hO hB hD hDm hDr hDl hDC HO
          go_wp2_with (fail)
          (try rw [show decide (n < n) = false from decide_eq_false (by omega)])
          have hUD : ∃ k : Nat, k < D.length ∧ rd D (k : Int) = (u : Int) := by
            have h9 := (HDM.out (u : Int)).2 ⟨u, HU.out, rfl, HAB.out⟩
            obtain ⟨k, hk, e⟩ := List.getElem_of_mem h9
            exact ⟨k, hk, by simp [rd, hk, e]⟩
          have HUD := Aside0.mk hUD
          have hDe : ∀ k : Nat, k < D.length → ∃ p : Nat, p < n ∧ rd D (k : Int) = (p : Int) ∧ Above nx b p := fun k hk => (HDM.out _).1 (rd_mem hk)
          have HDE := Aside0.mk hDe
          clear hUD hDe
          obtain ⟨wz, hwz⟩ : ∃ wz, wr = wz := ⟨_, rfl⟩
          rw [hwz] at HDC HBW ⊢
          clear hwz
          go_loopw [9, 10, 11] (fun v _ _ wr => ∃ i : Nat, i ≤ D.length ∧ v = .int .i64 (i : Int) ∧ (∀ i' : Nat, i' < i → rd D (i' : Int) ≠ (u : Int)) ∧ Below wz.heap.size wz wr) (fun v _ _ _ => ((D.length : Int) - intOf v).toNat)
          case atStart => exact ⟨0, Nat.zero_le _, rfl, fun i' h => by omega, Below.refl _ _⟩
          case round =>
            obtain ⟨i, hi, rfl, hno, hB⟩ := hrel
            have HB2 := Aside0.mk hB
            have HNO := Aside0.mk hno
            have him : i < 9223372036854775807 := by have := HDL.out; have := HN.out; omega
            by_cases hil : i < D.length
            · have hin : (i : Int) < (D.length : Int) := by omega
              have hi0 : (0 : Int) ≤ (i : Int) := by omega
              have HIL := Aside0.mk hil
              obtain ⟨xi, hxn, hx, hxa⟩ := HDE.out i hil
              have HX := Aside0.mk hx
              have HXA := Aside0.mk hxa
              have HXN := Aside0.mk hxn
              clear hi hil hno hB hx hxa hxn
              go_wp2_with (fail)
              go_loopw [10, 11] (fun v10 v wr => ∃ (k : Nat) (lb : Bool), k ≤ D.length ∧ v10 = .bool lb ∧ v = .int .i64 (k : Int) ∧ (xi = u → lb = true) ∧ (xi ≠ u → (∃ k' : Nat, k' < k ∧ rd D (k' : Int) = (u : Int)) → lb = false) ∧ Below wz.heap.size wz wr) (fun _ v _ => ((D.length : Int) - intOf v).toNat)
              case atStart => exact ⟨0, true, Nat.zero_le _, rfl, rfl, fun _ => rfl, (by rintro _ ⟨k', h, _⟩; omega), HB2.out⟩
              case round =>
                clear HB2
                obtain ⟨k, lb, hk, rfl, rfl, hl1, hl2, hB⟩ := hrel
                have HB2 := Aside0.mk hB
                have HL1 := Aside0.mk hl1
                have HL2 := Aside0.mk hl2
                have hkm : k < 9223372036854775807 := by have := HDL.out; have := HN.out; omega
                by_cases hkl : k < D.length
                · have hkn : (k : Int) < (D.length : Int) := by omega
                  have hk0 : (0 : Int) ≤ (k : Int) := by omega
                  have HKL := Aside0.mk hkl
                  obtain ⟨yk, hyn, hy, hya⟩ := HDE.out k hkl
                  have HDCr := Kd.C_below HDC.out hB
                  obtain ⟨dd, e, q1⟩ := Kd.at_int HDCr (k : Int) hk0 hkn
                  subst e
                  obtain ⟨dd2, e, q2⟩ := Kd.at_int HDCr (i : Int) hi0 hin
                  cases e
                  rw [Int.toNat_natCast, hy] at q1
                  rw [Int.toNat_natCast, HX.out] at q2
                  have hy0 : (0 : Int) ≤ (yk : Int) := by omega
                  have hy1 : (yk : Int) < (n : Int) := by omega
                  have hx0 : (0 : Int) ≤ (xi : Int) := by omega
                  have hx1 : (xi : Int) < (n : Int) := by have := HXN.out; omega
                  have hBz : Below w.heap.size w wr := HBW.out.trans (hB.mono HBW.out.size)
                  obtain ⟨z, Ac, cc, e, q7, hcc, hCc⟩ := at_L5 (Kd.C_below H7.out hBz) (yk : Int) hy0 hy1
                  cases e
                  obtain ⟨hcl, hcm⟩ := M7.out yk hyn
                  rw [hcl] at q7 hCc
                  obtain ⟨zc, e, q8⟩ := Kd.at_bool hCc (xi : Int) hx0 hx1
                  subst e
                  rw [Int.toNat_natCast] at q7 q8
                  have hm7 := hcm xi HXN.out
                  obtain ⟨cb, hcb⟩ : ∃ x, rdOf false (rd_L5 cuts (yk : Int)) (xi : Int) = x := ⟨_, rfl⟩
                  rw [hcb] at q8 hm7
                  have HM7 := Aside0.mk hm7
                  have HY := Aside0.mk hy
                  have HYA := Aside0.mk hya
                  have hne : k ≠ i → yk ≠ xi := fun h e => by
                    have e1 := HX.out
                    rw [e] at hy
                    rcases Nat.lt_or_gt_of_ne h with h9 | h9
                    · have := rise_rd HDR.out h9 HIL.out; omega
                    · have := rise_rd HDR.out h9 hkl; omega
                  have HNE := Aside0.mk hne
                  clear hk hkl hl1 hl2 hB HDCr hyn hy hya hcc hCc hcl hcm hcb hm7 hBz hne
                  go_upto_region 16 with (fail)
                  go_cut [79] (fun v79 wd => ∃ t : Bool, v79 = .bool t ∧ (t = true ↔ (k ≠ i ∧ cb = true)) ∧ Below wr.heap.size wr wd)
                  case first =>
                    by_cases hki : k = i
                    · have t1 : ((k : Int) != (i : Int)) = false := by simp; omega
                      have t1' : (k != i) = false := by simp; omega
                      have t1b : ((k : Int) == (i : Int)) = true := by simp; omega
                      have t1c : (k == i) = true := by simpa using hki
                      have HKI := Aside0.mk hki
                      clear hki
                      go_big_quiet (fail)
                      go_wp2_with (fail)
                      go_meet
                      case rel => exact ⟨false, rfl, ⟨fun h => (by cases h), fun h => absurd HKI.out h.1⟩, pw_below_drewN (Below.refl _ _) _⟩
                    · have t1 : ((k : Int) != (i : Int)) = true := by simp; omega
                      have t1' : (k != i) = true := by simp; omega
                      have t1b : ((k : Int) == (i : Int)) = false := by simp; omega
                      have t1c : (k == i) = false := by simp; omega
                      have HKI := Aside0.mk hki
                      clear hki
                      go_big_quiet (fail)
                      go_wp2_with (fail)
                      go_meet
                      case rel => exact ⟨cb, rfl, ⟨fun h => ⟨HKI.out, h⟩, fun h => h.2⟩, pw_below_drewN (Below.refl _ _) _⟩
                  case rest =>
                    obtain ⟨t, rfl, ht, hbd⟩ := hcut
                    have HT := Aside0.mk ht
                    have HB3 := Aside0.mk (HB2.out.trans (hbd.mono HB2.out.size))
                    clear ht hbd HB2 q1 q2 q7 q8
                    cases t with
                    | true =>
                      go_wp2_with (fail)
                      go_roundw
                      case measure => simp [intOf]; omega
                      case rel =>
                        obtain ⟨h1, h2⟩ := HT.out.1 (by first | rfl | trivial)
                        refine ⟨k + 1, false, HKL.out, rfl, by first | rfl | go_num, fun hxu => ?_, fun _ _ => rfl, HB3.out⟩
                        exfalso
                        have h3 := HM7.out.1 h2
                        rw [hxu] at h3
                        exact (HTOP.out yk HYA.out (by have := HNE.out h1; omega)).1 h3
                    | false =>
                      go_wp2_with (fail)
                      go_roundw
                      case measure => simp [intOf]; omega
                      case rel =>
                        refine ⟨k + 1, lb, HKL.out, rfl, by first | rfl | go_num, HL1.out, fun hxu ⟨k', hk', e⟩ => ?_, HB3.out⟩
                        by_cases e2 : k' = k
                        · subst e2
                          exfalso
                          have hyu : yk = u := by have := HY.out; omega
                          have hki : k' ≠ i := fun e3 => by subst e3; have := HX.out; omega
                          have h3 := (HTOP.out xi HXA.out hxu).2
                          rw [← hyu] at h3
                          exact absurd (HT.out.2 ⟨hki, HM7.out.2 h3⟩) (by decide)
                        · exact HL2.out hxu ⟨k', by omega, e⟩
                · have hkn : (D.length : Int) ≤ (k : Int) := by omega
                  have hkk : k = D.length := by omega
                  have HKK := Aside0.mk hkk
                  clear hk hkl hl1 hl2 hB hkk
                  cases lb with
                  | true =>
                    have hxu : xi = u := by
                      refine Classical.byContradiction fun hne => ?_
                      obtain ⟨k', h1, h2⟩ := HUD.out
                      exact absurd (HL2.out hne ⟨k', by rw [HKK.out]; exact h1, h2⟩) (by decide)
                    obtain ⟨dd2, e, q2⟩ := Kd.at_int (Kd.C_below HDC.out HB2.out) (i : Int) hi0 hin
                    subst e
                    rw [Int.toNat_natCast, HX.out, hxu] at q2
                    have HBF := Aside0.mk (HBW.out.trans (HB2.out.mono HBW.out.size))
                    clear hxu
                    go_wp2_with (fail)
                    go_ret
                    exact ⟨rfl, HBF.out⟩
                  | false =>
                    have HXU : Aside0 (xi ≠ u) := ⟨fun e => absurd (HL1.out e) (by decide)⟩
                    go_wp2_with (fail)
                    go_roundw
                    case measure => simp [intOf]; omega
                    case rel =>
                      refine ⟨i + 1, HIL.out, by first | rfl | go_num, fun i' h => ?_, HB2.out⟩
                      by_cases e : i' = i
                      · subst e; rw [HX.out]; have := HXU.out; omega
                      · exact HNO.out i' (by omega)
            · exfalso
              obtain ⟨k', h1, h2⟩ := HUD.out
              exact hno k' (by omega) h2
end Go.Proofs.Ytmeaepmimnmjlaa.Ask
/- The reference: order, by its meaning. -/
namespace Go.Proofs.Ytmeaepmimnmjlaa.Ask
open Go.Proofs.Ytmeaepmimnmjlaa.Dfs Go.Proofs.Ytmeaepmimnmjlaa.Dom Go.Proofs.Ytmeaepmimnmjlaa.DomT Go.RowKit Go.Shelf Go.Proofs.Ytmeaepmimnmjlaa.PGb Go.Proofs.Ytmeaepmimnmjlaa.Lit Go.Proofs.Ytmeaepmimnmjlaa.OwnCells Go.Proofs.YtmeaepmimnmjlaaW.PrintWords Go.Proofs.YtmeaepmimnmjlaaW.PrintLast Go.Proofs.YtmeaepmimnmjlaaW.PrintMore
attribute [local go_sem] Oper.semAt_some
attribute [local go_sem] run_store_fn
attribute [local go_sem] run_eql_fn
set_option linter.unusedVariables false
set_option linter.unusedSimpArgs false
def mk0 (k : Nat) : List Bool := (List.range k).map fun i => decide (i = 0)
theorem mk0_succ (k : Nat) : mk0 (k + 1) = mk0 k ++ [decide (k = 0)] := by
  unfold mk0; rw [List.range_succ, List.map_append]; rfl
theorem mk0_all {n : Nat} (hp : 0 < n) : mk0 n = (dinit n).mks := by
  unfold mk0 dinit
  apply List.ext_getElem
  · simp
  · intro i h1 h2
    simp at h1
    rw [List.getElem_map, List.getElem_range, List.getElem_set]
    by_cases e : 0 = i
    · subst e; simp
    · rw [if_neg e]; simp; omega
/-- two rows lie in different blocks -/
def Ap (v u : Value) : Prop := ∀ k, v.ownBlock = some k → u.ownBlock ≠ some k
theorem Ap.symm {v u : Value} (h : Ap v u) : Ap u v := fun k hk e => h k e hk
theorem Ap.ne {v u : Value} (h : Ap v u) : v.ownBlock = none ∨ v.ownBlock ≠ u.ownBlock := by
  cases hv : v.ownBlock with
  | none => exact .inl rfl
  | some k => exact .inr (fun e => h k hv e.symm)
theorem Ap.grown {W : World} {B n s : Nat} {e : TypeId} {u v v' : Value} {xs : List Value} (hu : W.ownsRow B e s u n xs) (h : Ap u v) (hat : v'.ownBlock = v.ownBlock ∨ ∃ k, v'.ownBlock = some k ∧ W.heap.size ≤ k) : Ap u v' := by
  intro k hk e
  rcases hat with h1 | ⟨k', h1, h2⟩
  · exact h k hk (h1 ▸ e)
  · have := own_lt hu k hk
    rw [h1] at e
    cases e
    omega
theorem below_alloc2 {w W : World} {o o' : Obj} (h : Below w.heap.size w W) : Below w.heap.size w ((W.alloc o).alloc o') := below_alloc (below_alloc h o) o'
/-- the four lists: marked, open, through, written -/
structure OR (w W : World) (n : Nat) (v3 v5 v6 v7 : Value) (M : List Bool) (O T X : List Int) : Prop where
  mks : W.ownsRow w.heap.size 4 1 v3 n (M.map Value.bool)
  op : W.ownsRow w.heap.size 3 1 v5 O.length (O.map (Value.int .i64))
  th : W.ownsRow w.heap.size 3 1 v6 T.length (T.map (Value.int .i64))
  out : W.ownsRow w.heap.size 3 1 v7 X.length (X.map (Value.int .i64))
  a56 : Ap v5 v6
  a57 : Ap v5 v7
  a67 : Ap v6 v7
  below : Below w.heap.size w W
section
variable {w W W' : World} {n : Nat} {v3 v5 v6 v7 v9 : Value} {M : List Bool} {O T X : List Int}
theorem OR.from_ (h : OR w W n v3 v5 v6 v7 M O T X) (hb : Below W.heap.size W W') : OR w W' n v3 v5 v6 v7 M O T X :=
  ⟨own_move h.mks fun k hk => hb.block k (own_lt h.mks k hk), own_move h.op fun k hk => hb.block k (own_lt h.op k hk), own_move h.th fun k hk => hb.block k (own_lt h.th k hk), own_move h.out fun k hk => hb.block k (own_lt h.out k hk), h.a56, h.a57, h.a67, h.below.trans (hb.mono h.below.size)⟩
theorem OR.growX (h : OR w W n v3 v5 v6 v7 M O T X) {x : Int} (ho : W'.ownsRow w.heap.size 3 1 v9 (X.length + 1) (X.map (Value.int .i64) ++ [.int .i64 x])) (hg : W.grownBy W' v7.ownBlock) (hat : v9.ownBlock = v7.ownBlock ∨ ∃ k, v9.ownBlock = some k ∧ W.heap.size ≤ k) : OR w W' n v3 v5 v6 v9 M O T (X ++ [x]) :=
  ⟨h.mks.kept hg (own_ne h.mks h.out (by decide)), h.op.kept hg h.a57.ne, h.th.kept hg h.a67.ne, by rw [List.length_append, List.map_append]; exact ho, h.a56, Ap.grown h.op h.a57 hat, Ap.grown h.th h.a67 hat, h.below.grown hg h.below.size (fun k e => own_base h.out k e)⟩
theorem OR.growO (h : OR w W n v3 v5 v6 v7 M O T X) {x : Int} (ho : W'.ownsRow w.heap.size 3 1 v9 (O.length + 1) (O.map (Value.int .i64) ++ [.int .i64 x])) (hg : W.grownBy W' v5.ownBlock) (hat : v9.ownBlock = v5.ownBlock ∨ ∃ k, v9.ownBlock = some k ∧ W.heap.size ≤ k) : OR w W' n v3 v9 v6 v7 M (O ++ [x]) T X :=
  ⟨h.mks.kept hg (own_ne h.mks h.op (by decide)), by rw [List.length_append, List.map_append]; exact ho, h.th.kept hg h.a56.symm.ne, h.out.kept hg h.a57.symm.ne, (Ap.grown h.th h.a56.symm hat).symm, (Ap.grown h.out h.a57.symm hat).symm, h.a67, h.below.grown hg h.below.size (fun k e => own_base h.op k e)⟩
theorem OR.growT (h : OR w W n v3 v5 v6 v7 M O T X) {x : Int} (ho : W'.ownsRow w.heap.size 3 1 v9 (T.length + 1) (T.map (Value.int .i64) ++ [.int .i64 x])) (hg : W.grownBy W' v6.ownBlock) (hat : v9.ownBlock = v6.ownBlock ∨ ∃ k, v9.ownBlock = some k ∧ W.heap.size ≤ k) : OR w W' n v3 v5 v9 v7 M O (T ++ [x]) X :=
  ⟨h.mks.kept hg (own_ne h.mks h.th (by decide)), h.op.kept hg h.a56.ne, by rw [List.length_append, List.map_append]; exact ho, h.out.kept hg h.a67.symm.ne, Ap.grown h.op h.a56 hat, h.a57, (Ap.grown h.out h.a67.symm hat).symm, h.below.grown hg h.below.size (fun k e => own_base h.th k e)⟩
theorem OR.storeM {g c : Nat} (h : OR w W n (.slice (some ⟨g, 0, none⟩) n c) v5 v6 v7 M O T X) (q : Nat) : OR w (W.setCell ⟨g, q, none⟩ (.bool true)) n (.slice (some ⟨g, 0, none⟩) n c) v5 v6 v7 (M.set q true) O T X := by
  obtain ⟨h1, h2⟩ := h.mks.stored q (.bool true)
  exact ⟨by rw [List.map_set]; exact h1, h.op.kept h2 (own_ne h.op h.mks (by decide)), h.th.kept h2 (own_ne h.th h.mks (by decide)), h.out.kept h2 (own_ne h.out h.mks (by decide)), h.a56, h.a57, h.a67, h.below.setCell (p := ⟨g, q, none⟩) (own_base h.mks g rfl) _⟩
theorem OR.storeT {g c t : Nat} (h : OR w W n v3 v5 (.slice (some ⟨g, 0, none⟩) t c) v7 M O T X) (q : Nat) (x : Int) : OR w (W.setCell ⟨g, q, none⟩ (.int .i64 x)) n v3 v5 (.slice (some ⟨g, 0, none⟩) t c) v7 M O (T.set q x) X := by
  have ht : t = T.length := by
    rcases h.th.2 with ⟨e, _⟩ | ⟨_, _, _, e, _⟩
    · cases e
    · cases e; rfl
  subst ht
  obtain ⟨h1, h2⟩ := h.th.stored q (.int .i64 x)
  exact ⟨h.mks.kept h2 (own_ne h.mks h.th (by decide)), h.op.kept h2 h.a56.ne, by rw [List.length_set, List.map_set]; exact h1, h.out.kept h2 h.a67.symm.ne, h.a56, h.a57, h.a67, h.below.setCell (p := ⟨g, q, none⟩) (own_base h.th g rfl) _⟩
theorem OR.pop {g5 c5 g6 c6 t : Nat} {x y : Int} (h : OR w W n v3 (.slice (some ⟨g5, 0, none⟩) (t + 1) c5) (.slice (some ⟨g6, 0, none⟩) (t + 1) c6) v7 M (O ++ [x]) (T ++ [y]) X) (ho : O.length = t) (ht : T.length = t) : OR w W n v3 (.slice (some ⟨g5, 0, none⟩) t c5) (.slice (some ⟨g6, 0, none⟩) t c6) v7 M O T X := by
  have h5 := h.op
  have h6 := h.th
  rw [List.length_append, List.map_append, ho] at h5
  rw [List.length_append, List.map_append, ht] at h6
  subst ho
  refine ⟨h.mks, ownsRow_pop (by simp) h5, ?_, h.out, h.a56, h.a57, h.a67, h.below⟩
  rw [ht]
  exact ownsRow_pop (by simp [ht]) h6
end
set_option maxRecDepth 100000 in
set_option maxHeartbeats 16000000 in
theorem orderR_own {w : World} {nx : List (List Int)} {n d1 : Nat} {a1 : Option Addr} (hw : Wf nx) (hl : nx.length = n) (hn : n ≤ 8796093022207) (hrow : ∀ b : Int, (nb nx b).length ≤ n) (hA : (Kd.slice 3 (Kd.int .i64)).C w a1 n nx) :
    Calls Try.prog 38 #[.slice a1 n d1] w fun e w' => ∃ (A : Option Addr) (c : Nat), e = .returned (.slice A ((post nx).reverse ++ unr nx n).length c) ∧ w'.ownsRow w.heap.size 3 1 (.slice A ((post nx).reverse ++ unr nx n).length c) ((post nx).reverse ++ unr nx n).length (((post nx).reverse ++ unr nx n).map (Value.int .i64)) ∧ Below w.heap.size w w' := by
  subst hl
  have hp : 0 < nx.length := hw.pos
  obtain ⟨r1, _, _, rfl, _⟩ := at_L3 hA 0 (by omega) (by omega)
  have HA := Aside0.mk hA
  have HW := Aside0.mk hw
  have HN := Aside0.mk hn
  have HRL := Aside0.mk hrow
  clear hA hw hn hrow
  obtain ⟨i3, hi3, hz30, hz31, hz32⟩ := info_parts info3
  have HI3 := Aside0.mk hi3
  have HY3 := Aside0.mk hz30
  have HZ3 := Aside0.mk hz31
  have HX3 := Aside0.mk hz32
  obtain ⟨i4, hi4, hz40, hz41, hz42⟩ := info_parts info4
  have HI4 := Aside0.mk hi4
  have HY4 := Aside0.mk hz40
  have HZ4 := Aside0.mk hz41
  have HX4 := Aside0.mk hz42
  clear hi3 hz30 hz31 hz32 hi4 hz40 hz41 hz42
  obtain ⟨n, hnl⟩ : ∃ n, nx.length = n := ⟨_, rfl⟩
  have HNL := Aside0.mk hnl
  rw [hnl] at HA HN hp ⊢
  clear hnl
  go_enter Try.func38, Try.ntmps38
  go_wp2_with (fail)
  go_loopw [3, 4] (fun v3 v wr => ∃ k : Nat, k ≤ n ∧ v = .int .i64 (k : Int) ∧ wr.ownsRow w.heap.size 4 1 v3 k ((mk0 k).map Value.bool) ∧ Below w.heap.size w wr) (fun _ v _ => ((n : Int) - intOf v).toNat)
  case atStart => exact ⟨0, Nat.zero_le _, rfl, World.ownsRow_nil _ _ _ _, Below.refl _ _⟩
  case round =>
    obtain ⟨k, hk, rfl, hO, hB⟩ := hrel
    have HO := Aside0.mk hO
    have HB := Aside0.mk hB
    have hkm : k < 9223372036854775807 := by have := HN.out; omega
    by_cases hkn : k < n
    · have hkn' : (k : Int) < (n : Int) := by omega
      have HLEN := Aside0.mk hkn
      obtain ⟨A8, c8, rfl⟩ := row_slice hO
      obtain ⟨bb, hbb⟩ : ∃ bb, decide (k = 0) = bb := ⟨_, rfl⟩
      have t1 : ((k : Int) == 0) = bb := by rw [← hbb]; by_cases h : k = 0 <;> simp [h]
      have t1' : (k == 0) = bb := by rw [← hbb]; by_cases h : k = 0 <;> simp [h]
      have HBB : Aside0 ((mk0 (k + 1)).map Value.bool = (mk0 k).map Value.bool ++ [.bool bb]) := ⟨by rw [mk0_succ, List.map_append, hbb]; rfl⟩
      clear hk hkn hO hB hbb
      go_wp2_with (first | (at_builtin; refine wpList_append_own_at _ rfl _ _ 53 rfl w.heap.size 4 i4 (.bool false) 1 1 Try.underlying53 HI4.out HY4.out HZ4.out HX4.out rfl (by decide) _ _ _ rfl (World.ownsRow.alloc HO.out _) ⟨wr.heap.size, 0, none⟩ 1 1 [.bool bb] rfl rfl (cell_one_new _ _ _) (by simp [Value.oneCell']) (by have := HN.out; have := HLEN.out; unfold maxLen; omega) (by have := HN.out; have := HLEN.out; omega) (by rw [World.size_alloc]; have := HB.out.size; omega) ?_; intro v9 w9 hown9 hgrow9 _ hat9; refine Classical.byContradiction (fun hcon => ?hst1)) | go_in)
      refine hcon ?_
      have hg9 := (World.grownBy_alloc wr (.cells #[.bool bb] 4) (Value.slice A8 k c8).ownBlock).trans hgrow9
      have HO9 : Aside0 (w9.ownsRow w.heap.size 4 1 v9 (k + 1) ((mk0 (k + 1)).map Value.bool)) := ⟨by rw [HBB.out]; exact hown9⟩
      have HB9 : Aside0 (Below w.heap.size w w9) := ⟨HB.out.grown hg9 HB.out.size (fun j e => own_base HO.out j e)⟩
      clear hown9 hgrow9 hcon hg9 HO HB hat9 t1 t1'
      go_wp2_with (fail)
      go_roundw
      case measure => first | (simp [intOf]; done) | (simp [intOf]; omega)
      case rel => exact ⟨k + 1, HLEN.out, by first | rfl | go_num, HO9.out, HB9.out⟩
    · have hkn' : (n : Int) ≤ (k : Int) := by omega
      have hkk : n = k := by omega
      subst hkk
      obtain ⟨A3, c3, rfl⟩ := row_slice hO
      obtain ⟨g3, rfl⟩ : ∃ g3, A3 = some ⟨g3, 0, none⟩ := by
        rcases hO.2 with ⟨e, _⟩ | ⟨g, cap, cur, e, _⟩
        · cases e; exact absurd hp (by omega)
        · cases e; exact ⟨_, rfl⟩
      have hOR : OR w ((wr.alloc (.cells #[.int .i64 0] 3)).alloc (.cells #[.int .i64 0] 3)) n (.slice (some ⟨g3, 0, none⟩) n c3) (.slice (some ⟨wr.heap.size, 0, none⟩) 1 1) (.slice (some ⟨wr.heap.size + 1, 0, none⟩) 1 1) (.slice none 0 0) (dinit n).mks [0] [0] [] := by
        have l5 := World.ownsRow_lit (base := w.heap.size) (e := 3) (size := 1) wr #[.int .i64 0] 1 hB.size (by decide) rfl
        have l6 := World.ownsRow_lit (base := w.heap.size) (e := 3) (size := 1) (wr.alloc (.cells #[.int .i64 0] 3)) #[.int .i64 0] 1 (by have := hB.size; simp; omega) (by decide) rfl
        rw [World.size_alloc] at l6
        refine ⟨?_, l5.alloc _, l6, World.ownsRow_nil _ _ _ _, fun k hk e => ?_, fun k hk e => (by simp [Value.ownBlock] at e), fun k hk e => (by simp [Value.ownBlock] at e), below_alloc2 hB⟩
        · rw [← mk0_all hp]; exact (hO.alloc _).alloc _
        · simp [Value.ownBlock] at hk e; omega
      have HOR := Aside0.mk hOR
      clear hk hkn hO hB hOR HO HB
      go_wp2_with (fail)
      (try rw [show decide (n < n) = false from decide_eq_false (by omega)])
      revert HOR
      generalize (wr.alloc (.cells #[.int .i64 0] 3)).alloc (.cells #[.int .i64 0] 3) = W0
      generalize wr.heap.size = q0
      intro HOR
      go_loopg [5, 6, 7, 8, 9, 10] (meas nx (dinit nx.length)) (fun gm v5 v6 v7 _ _ _ wr => ∃ s : DS, OR w wr n (.slice (some ⟨g3, 0, none⟩) n c3) v5 v6 v7 s.mks (s.st.reverse.map fun t => t.1) (s.st.reverse.map fun t => (t.2 : Int)) s.out ∧ Dfs.Inv nx s ∧ Tgt nx s ∧ (∀ b d, (b, d) ∈ s.st → d ≤ (nb nx b).length) ∧ meas nx s ≤ gm)
      case atStart =>
        refine ⟨dinit nx.length, ?_, inv_init nx HW.out, tgt_init nx HW.out, fun b d h => ?_, Nat.le_refl _⟩
        · rw [HNL.out]; exact HOR.out
        · simp [dinit] at h; rw [h.2]; exact Nat.zero_le _
      case round =>
        clear HOR
        obtain ⟨s, hO, hI, hT, hD, hm⟩ := hrel
        have HI' := Aside0.mk hI
        have HT := Aside0.mk hT
        have HD := Aside0.mk hD
        have HM := Aside0.mk hm
        cases hs : s.st with
        | nil =>
          rw [hs] at hO
          have hout : s.out = post nx := tgt_end nx hT hs
          have hmem : ∀ x : Nat, x < n → (s.mks.getD x false = true ↔ (x : Int) ∈ post nx) := fun x hx => by
            have h9 := hI.mem (x : Int) (by omega)
            rw [Int.toNat_natCast, hout, hs] at h9
            rw [h9]
            constructor
            · rintro (h | ⟨_, h⟩)
              · exact h
              · cases h
            · exact .inl
          have hMl := hI.len
          rw [HNL.out] at hMl
          obtain ⟨M, hM⟩ : ∃ M, s.mks = M := ⟨_, rfl⟩
          rw [hout] at hO
          rw [hM] at hO hmem hMl
          obtain ⟨P, hP⟩ : ∃ P, (post nx).length = P := ⟨_, rfl⟩
          have hP0 : 0 < P := by rw [← hP]; exact List.length_pos_of_mem (post_zero nx HW.out)
          have hPn : P ≤ n := by rw [← hP, ← HNL.out]; exact post_length nx HW.out
          have h5 := hO.op
          simp only [hs, List.reverse_nil, List.map_nil, List.length_nil] at h5
          obtain ⟨A5, c5, rfl⟩ := row_slice h5
          clear h5
          have h7 := hO.out
          rw [hP] at h7
          obtain ⟨A7, c7, rfl⟩ := row_slice h7
          have h7C := (row_C (A := A7) (c := c7) (l := post nx) (by rw [hP]; exact h7)).1
          rw [hP] at h7C
          have H7 := Aside0.mk h7C
          have H3 := Aside0.mk hO.mks
          have HBZ := Aside0.mk hO.below
          have HMEM := Aside0.mk hmem
          have HML := Aside0.mk hMl
          have HP := Aside0.mk hP
          have hPm : P < 9223372036854775807 := by have := HN.out; omega
          clear hO hI hT hD hm hs hout hmem hM h7 h7C hMl hP HI' HT HD HM
          go_wp2_with (fail)
          obtain ⟨wz, hwz⟩ : ∃ wz, wr = wz := ⟨_, rfl⟩
          rw [hwz] at H7 H3 HBZ ⊢
          clear hwz
          go_loopw [11, 12] (fun v11 v wr => ∃ (x : Int) (j : Nat), x = (j : Int) - 1 ∧ j ≤ P ∧ v = .int .i64 x ∧ wr.ownsRow wz.heap.size 3 1 v11 (((post nx).drop j).reverse).length ((((post nx).drop j).reverse).map (Value.int .i64)) ∧ Below wz.heap.size wz wr) (fun _ v _ => (intOf v + 1).toNat)
          case atStart =>
            refine ⟨(P : Int) - 1, P, rfl, Nat.le_refl _, rfl, ?_, Below.refl _ _⟩
            rw [← HP.out, List.drop_length]
            exact World.ownsRow_nil _ _ _ _
          case round =>
            obtain ⟨x, j, hx, hj, rfl, hO, hB⟩ := hrel
            have HO := Aside0.mk hO
            have HB := Aside0.mk hB
            cases j with
            | succ j' =>
              have hxj : x = (j' : Int) := by omega
              subst hxj
              have hj0 : (0 : Int) ≤ (j' : Int) := by omega
              have hj1 : (j' : Int) < (P : Int) := by omega
              have hjm : j' < 9223372036854775807 := by omega
              obtain ⟨dd, e, q1⟩ := Kd.at_int (Kd.C_below H7.out hB) (j' : Int) hj0 hj1
              subst e
              rw [Int.toNat_natCast] at q1
              obtain ⟨y, hy⟩ : ∃ y, rd (post nx) (j' : Int) = y := ⟨_, rfl⟩
              rw [hy] at q1
              have hjl : j' < (post nx).length := by rw [HP.out]; omega
              have hdrop : (post nx).drop j' = y :: (post nx).drop (j' + 1) := by
                rw [List.drop_eq_getElem_cons hjl]
                congr 1
                rw [← hy]; simp [rd, hjl]
              obtain ⟨A8, c8, rfl⟩ := row_slice hO
              obtain ⟨U, hU⟩ : ∃ U, ((post nx).drop (j' + 1)).reverse = U := ⟨_, rfl⟩
              have hUl : U.length ≤ P := by rw [← hU, ← HP.out]; simp
              have HDR : Aside0 (((post nx).drop j').reverse = U ++ [y]) := ⟨by rw [hdrop, List.reverse_cons, hU]⟩
              rw [hU] at HO ⊢
              have HX := HO
              have HLEN := Aside0.mk (show U.length < n by
                have h9 := congrArg List.length hdrop
                have h8 := congrArg List.length hU
                simp at h9 h8
                have := HP.out
                omega)
              clear hx hj hO hB hy hjl hdrop hU hUl
              go_wp2_with (first | (at_builtin; refine wpList_append_own_at _ rfl _ _ 26 rfl wz.heap.size 3 i3 (.int .i64 0) 1 8 Try.underlying26 HI3.out HY3.out HZ3.out HX3.out rfl (by decide) _ _ _ rfl (World.ownsRow.alloc HX.out _) ⟨wr.heap.size, 0, none⟩ 1 1 [.int .i64 y] rfl rfl (cell_one_new _ _ _) (by simp [Value.oneCell']) (by have := HN.out; have := HLEN.out; unfold maxLen; omega) (by have := HN.out; have := HLEN.out; omega) (by rw [World.size_alloc]; have := HB.out.size; omega) ?_; intro v9 w9 hown9 hgrow9 _ hat9; refine Classical.byContradiction (fun hcon => ?hst10)) | go_in)
              refine hcon ?_
              have hg9 := (World.grownBy_alloc wr (.cells #[.int .i64 y] 3) (Value.slice A8 U.length c8).ownBlock).trans hgrow9
              have HO9 : Aside0 (w9.ownsRow wz.heap.size 3 1 v9 (U ++ [y]).length ((U ++ [y]).map (Value.int .i64))) := ⟨by rw [List.map_append, List.length_append]; exact hown9⟩
              have HB9 : Aside0 (Below wz.heap.size wz w9) := ⟨HB.out.grown hg9 HB.out.size (fun j e => own_base HO.out j e)⟩
              clear hown9 hgrow9 hcon hg9 HO HB HX hat9 q1
              go_wp2_with (fail)
              go_roundw
              case measure => first | (simp [intOf]; done) | (simp [intOf]; omega)
              case rel =>
                refine ⟨(j' : Int) - 1, j', rfl, by omega, by first | rfl | go_num, ?_, HB9.out⟩
                rw [HDR.out]
                exact HO9.out
            | zero =>
              have hx1 : x = -1 := by omega
              subst hx1
              rw [List.drop_zero] at hO HO
              clear hx hj hO hB
              obtain ⟨A8, c8, rfl⟩ := row_slice HO.out
              go_wp2_with (fail)
              go_loopw [11, 13] (fun v11 v wr => ∃ b : Nat, b ≤ n ∧ v = .int .i64 (b : Int) ∧ wr.ownsRow wz.heap.size 3 1 v11 ((post nx).reverse ++ unr nx b).length (((post nx).reverse ++ unr nx b).map (Value.int .i64)) ∧ Below wz.heap.size wz wr) (fun _ v _ => ((n : Int) - intOf v).toNat)
              case atStart =>
                refine ⟨0, Nat.zero_le _, rfl, ?_, HB.out⟩
                rw [show unr nx 0 = [] from rfl, List.append_nil]
                exact HO.out
              case round =>
                clear HO HB
                obtain ⟨b, hb, rfl, hO, hB⟩ := hrel
                have HO := Aside0.mk hO
                have HB := Aside0.mk hB
                have hbm : b < 9223372036854775807 := by have := HN.out; omega
                by_cases hbl : b < n
                · have hbn : (b : Int) < (n : Int) := by omega
                  have hb0 : (0 : Int) ≤ (b : Int) := by omega
                  have HBL := Aside0.mk hbl
                  have hmc := (own_move H3.out fun k hk => hB.block k (own_lt H3.out k hk)).cellAt b (by omega)
                  have hml : b < M.length := by rw [HML.out]; omega
                  obtain ⟨mk, hmk⟩ : ∃ x, M.getD b false = x := ⟨_, rfl⟩
                  have em : M[b]? = some mk := by rw [← hmk, List.getD_eq_getElem?_getD, List.getElem?_eq_getElem hml]; rfl
                  rw [List.getElem?_map, em] at hmc
                  have m3 : wr.cell? ⟨g3, b, none⟩ = some (.bool mk) := hmc
                  have hmm := HMEM.out b hbl
                  rw [hmk] at hmm
                  have HMM := Aside0.mk hmm
                  have hus := unr_succ nx b
                  have hul := unr_length nx b
                  obtain ⟨A9, c9, rfl⟩ := row_slice hO
                  obtain ⟨U, hU⟩ : ∃ U, (post nx).reverse ++ unr nx b = U := ⟨_, rfl⟩
                  have hUl : U.length ≤ P + b := by rw [← hU, List.length_append, List.length_reverse, HP.out]; omega
                  rw [hU] at HO ⊢
                  have HUS := Aside0.mk hus
                  have HU := Aside0.mk hU
                  have HX := HO
                  have HUL := Aside0.mk hUl
                  clear hb hbl hO hB hmc hml hmk em hmm hus hul hU hUl
                  cases mk with
                  | true =>
                    go_wp2_with (fail)
                    go_roundw
                    case measure => first | (simp [intOf]; done) | (simp [intOf]; omega)
                    case rel =>
                      refine ⟨b + 1, HBL.out, by first | rfl | go_num, ?_, HB.out⟩
                      rw [HUS.out, if_pos (HMM.out.1 rfl), List.append_nil, HU.out]
                      exact HO.out
                  | false =>
                    have HLEN : Aside0 (U.length < 17592186044415) := ⟨by have := HUL.out; have := HN.out; have := HBL.out; omega⟩
                    go_wp2_with (first | (at_builtin; refine wpList_append_own_at _ rfl _ _ 26 rfl wz.heap.size 3 i3 (.int .i64 0) 1 8 Try.underlying26 HI3.out HY3.out HZ3.out HX3.out rfl (by decide) _ _ _ rfl (World.ownsRow.alloc HX.out _) ⟨wr.heap.size, 0, none⟩ 1 1 [.int .i64 (b : Int)] rfl rfl (cell_one_new _ _ _) (by simp [Value.oneCell']) (by have := HN.out; have := HLEN.out; unfold maxLen; omega) (by have := HN.out; have := HLEN.out; omega) (by rw [World.size_alloc]; have := HB.out.size; omega) ?_; intro v9 w9 hown9 hgrow9 _ hat9; refine Classical.byContradiction (fun hcon => ?hst11)) | go_in)
                    refine hcon ?_
                    have hg9 := (World.grownBy_alloc wr (.cells #[.int .i64 (b : Int)] 3) (Value.slice A9 U.length c9).ownBlock).trans hgrow9
                    have HO9 : Aside0 (w9.ownsRow wz.heap.size 3 1 v9 (U ++ [(b : Int)]).length ((U ++ [(b : Int)]).map (Value.int .i64))) := ⟨by rw [List.map_append, List.length_append]; exact hown9⟩
                    have HB9 : Aside0 (Below wz.heap.size wz w9) := ⟨HB.out.grown hg9 HB.out.size (fun j e => own_base HO.out j e)⟩
                    clear hown9 hgrow9 hcon hg9 HO HB HX hat9 m3
                    go_wp2_with (fail)
                    go_roundw
                    case measure => first | (simp [intOf]; done) | (simp [intOf]; omega)
                    case rel =>
                      refine ⟨b + 1, HBL.out, by first | rfl | go_num, ?_, HB9.out⟩
                      rw [HUS.out, if_neg (fun h => absurd (HMM.out.2 h) (by decide)), ← List.append_assoc, HU.out]
                      exact HO9.out
                · have hbn : (n : Int) ≤ (b : Int) := by omega
                  have hbb : b = n := by omega
                  subst hbb
                  obtain ⟨A9, c9, rfl⟩ := row_slice hO
                  have HFIN := Aside0.mk (HBZ.out.trans (hB.mono HBZ.out.size))
                  have HOW := Aside0.mk (own_weaken hO HBZ.out.size)
                  clear hb hbl hO hB
                  go_wp2_with (fail)
                  go_ret
                  exact ⟨_, _, rfl, HOW.out, HFIN.out⟩
        | cons t r =>
          obtain ⟨b, d⟩ := t
          have hbb := hI.bound b (.inr ⟨d, by rw [hs]; exact List.mem_cons_self⟩)
          obtain ⟨bn, rfl⟩ : ∃ bn : Nat, b = (bn : Int) := ⟨b.toNat, by omega⟩
          rw [HNL.out] at hbb
          obtain ⟨hb0, hb1⟩ := hbb
          have hdl := hD (bn : Int) d (by rw [hs]; exact List.mem_cons_self)
          have hil := inv_len hI
          rw [hs, List.length_cons, HNL.out] at hil
          have hMl := hI.len
          rw [hs, List.reverse_cons, List.map_append, List.map_append] at hO
          obtain ⟨Or, hOr⟩ : ∃ x, r.reverse.map (fun t => t.1) = x := ⟨_, rfl⟩
          obtain ⟨Tr, hTr⟩ : ∃ x, r.reverse.map (fun t => (t.2 : Int)) = x := ⟨_, rfl⟩
          obtain ⟨R, hR⟩ : ∃ R, r.length = R := ⟨_, rfl⟩
          have hOl : Or.length = R := by rw [← hOr, ← hR]; simp
          have hTl : Tr.length = R := by rw [← hTr, ← hR]; simp
          rw [hOr, hTr] at hO
          simp only [List.map_cons, List.map_nil] at hO
          have h5 := hO.op
          have h6 := hO.th
          rw [show (Or ++ [(bn : Int)]).length = R + 1 by simp [hOl]] at h5
          rw [show (Tr ++ [(d : Int)]).length = R + 1 by simp [hTl]] at h6
          obtain ⟨g5, c5, rfl⟩ := ownsRow_succ h5
          obtain ⟨g6, c6, rfl⟩ := ownsRow_succ h6
          have e5 : wr.cell? ⟨g5, R, none⟩ = some (.int .i64 (bn : Int)) := by
            rw [h5.cellAt R (by omega), List.map_append, List.getElem?_append_right (by simp [hOl])]; simp [hOl]
          have e6 : wr.cell? ⟨g6, R, none⟩ = some (.int .i64 (d : Int)) := by
            rw [h6.cellAt R (by omega), List.map_append, List.getElem?_append_right (by simp [hTl])]; simp [hTl]
          have hc5 : R + 1 ≤ c5 := by
            rcases h5.2 with ⟨h0, _⟩ | ⟨_, _, _, h0, _, _, h1, _⟩
            · cases h0
            · cases h0; exact h1
          have hc6 : R + 1 ≤ c6 := by
            rcases h6.2 with ⟨h0, _⟩ | ⟨_, _, _, h0, _, _, h1, _⟩
            · cases h0
            · cases h0; exact h1
          obtain ⟨row, hrow⟩ : ∃ row, nb nx (bn : Int) = row := ⟨_, rfl⟩
          obtain ⟨z, A9, c9, e, q1, hc9, hC9⟩ := at_L3 (Kd.C_below HA.out hO.below) (bn : Int) hb0 hb1
          cases e
          have e9 : rd_L3 nx (bn : Int) = row := hrow
          rw [e9] at q1 hC9
          rw [Int.toNat_natCast] at q1
          rw [hrow] at hdl
          have hrl := HRL.out (bn : Int)
          rw [hrow, HNL.out] at hrl
          have hRm : R < 9223372036854775806 := by have := HN.out; omega
          have hdm : d < 9223372036854775806 := by have := HN.out; omega
          have HO := Aside0.mk hO
          have HS := Aside0.mk hs
          have HROW := Aside0.mk hrow
          have HOR := Aside0.mk hOr
          have HTR := Aside0.mk hTr
          have HR := Aside0.mk hR
          have HOL := Aside0.mk hOl
          have HTL := Aside0.mk hTl
          have HIL := Aside0.mk hil
          have HDL := Aside0.mk hdl
          have HML := Aside0.mk hMl
          clear hO hI hT hD hm hs hil hMl hOr hTr hR hOl hTl h5 h6 hrow e9 hrl hc9
          go_upto_region 12 with (fail)
          by_cases hdr : d = row.length
          · have t1 : ((d : Int) == (row.length : Int)) = true := by simp; omega
            have t1' : (d == row.length) = true := by simpa using hdr
            have hgn : (nb nx (bn : Int))[d]? = none := by rw [HROW.out]; exact List.getElem?_eq_none (by omega)
            have HGN := Aside0.mk hgn
            clear hdr hgn hdl hC9
            go_cut [46] (fun v46 wc => v46 = .bool true ∧ Below wr.heap.size wr wc)
            case first =>
              go_big_quiet (fail)
              go_wp2_with (fail)
              go_meet
              case rel => exact ⟨rfl, pw_below_drewN (Below.refl _ _) _⟩
            case rest =>
              obtain ⟨rfl, hbc⟩ := hcut
              have HO2 := Aside0.mk (HO.out.from_ hbc)
              have e5' := pw_cell_below hbc e5
              clear hbc e5 e6 q1 t1 t1'
              obtain ⟨A7, c7, rfl⟩ := row_slice HO2.out.out
              have HX := Aside0.mk HO2.out.out
              have HB := Aside0.mk HO2.out.below
              have HLEN : Aside0 (s.out.length < n) := ⟨by have := HIL.out; omega⟩
              obtain ⟨X, hX⟩ : ∃ X, s.out = X := ⟨_, rfl⟩
              rw [hX] at HO2 HX HLEN ⊢
              have HXE := Aside0.mk hX
              clear hX HO
              go_wp2_with (first | (at_builtin; refine wpList_append_own_at _ rfl _ _ 26 rfl w.heap.size 3 i3 (.int .i64 0) 1 8 Try.underlying26 HI3.out HY3.out HZ3.out HX3.out rfl (by decide) _ _ _ rfl (World.ownsRow.alloc HX.out _) ⟨wc.heap.size, 0, none⟩ 1 1 [.int .i64 (bn : Int)] rfl rfl (cell_one_new _ _ _) (by simp [Value.oneCell']) (by have := HN.out; have := HLEN.out; unfold maxLen; omega) (by have := HN.out; have := HLEN.out; omega) (by rw [World.size_alloc]; have := HB.out.size; omega) ?_; intro v9 w9 hown9 hgrow9 _ hat9; refine Classical.byContradiction (fun hcon => ?hst7)) | go_in)
              refine hcon ?_
              have hg9 := (World.grownBy_alloc wc (.cells #[.int .i64 (bn : Int)] 3) (Value.slice A7 X.length c7).ownBlock).trans hgrow9
              have hat : v9.ownBlock = (Value.slice A7 X.length c7).ownBlock ∨ ∃ k, v9.ownBlock = some k ∧ wc.heap.size ≤ k := hat9.imp id (fun h => ⟨_, h, by rw [World.size_alloc]; omega⟩)
              have HO9 := Aside0.mk ((HO2.out.growX hown9 hg9 hat).pop HOL.out HTL.out)
              clear hown9 hgrow9 hcon hg9 hat hat9 HO2 HX HB
              go_wp2_with (fail)
              go_roundg (meas nx (dstep nx s))
              case measure =>
                have := meas_step nx HW.out s HI'.out (by rw [HS.out]; simp)
                have := HM.out
                omega
              case rel =>
                have e := dstep_none HS.out HGN.out
                refine ⟨dstep nx s, ?_, inv_step nx HW.out s HI'.out, tgt_step nx HW.out HI'.out HT.out, ?_, Nat.le_refl _⟩
                · rw [e, HXE.out]
                  simp only
                  rw [HOR.out, HTR.out]
                  exact HO9.out
                · rw [e]
                  exact fun b' d' h => HD.out b' d' (by rw [HS.out]; exact List.mem_cons_of_mem _ h)
          · have hdlt : d < row.length := by omega
            have t1 : ((d : Int) == (row.length : Int)) = false := by simp; omega
            have t1' : (d == row.length) = false := by simpa using hdr
            have hd1 : (d : Int) < (row.length : Int) := by omega
            have hd0 : (0 : Int) ≤ (d : Int) := by omega
            obtain ⟨ad, e, q2⟩ := Kd.at_int hC9 (d : Int) hd0 hd1
            subst e
            rw [Int.toNat_natCast] at q2
            obtain ⟨c, hc⟩ : ∃ c, rd row (d : Int) = c := ⟨_, rfl⟩
            have hget : (nb nx (bn : Int))[d]? = some c := by rw [HROW.out, ← hc, List.getElem?_eq_getElem hdlt]; simp [rd, hdlt]
            have hcb := HW.out.in_ _ c (List.mem_of_getElem? hget)
            rw [HNL.out] at hcb
            obtain ⟨cn, rfl⟩ : ∃ cn : Nat, c = (cn : Int) := ⟨c.toNat, by omega⟩
            rw [hc] at q2
            obtain ⟨hcn0, hcn1⟩ := hcb
            have HGET := Aside0.mk hget
            have HDLT : Aside0 (d + 1 ≤ (nb nx (bn : Int)).length) := ⟨by rw [HROW.out]; omega⟩
            clear hdr hdl hC9 hget hc hdlt
            go_cut [46] (fun v46 wc => v46 = .bool false ∧ Below wr.heap.size wr wc)
            case first =>
              go_big_quiet (fail)
              go_wp2_with (fail)
              go_meet
              case rel => exact ⟨rfl, pw_below_drewN (Below.refl _ _) _⟩
            case rest =>
              obtain ⟨rfl, hbc⟩ := hcut
              have HO2 := Aside0.mk (HO.out.from_ hbc)
              have e6' := pw_cell_below hbc e6
              have q1' := pw_cell_below hbc q1
              have q2' := pw_cell_below hbc q2
              obtain ⟨w1, hw1⟩ : ∃ w1, wc = w1 := ⟨_, rfl⟩
              rw [hw1] at HO2 e6' q1' q2' ⊢
              clear hbc e5 e6 q1 q2 t1 t1' HO hw1
              go_upto_region 16 with (fail)
              go_cut [10] (fun v10 wd => v10 = .int .i64 (cn : Int) ∧ Below w1.heap.size w1 wd)
              case first =>
                go_big_quiet (fail)
                go_wp2_with (fail)
                go_meet
                case rel => exact ⟨rfl, pw_below_drewN (Below.refl _ _) _⟩
              case rest =>
                obtain ⟨rfl, hbd⟩ := hcut
                have HO3 := Aside0.mk (HO2.out.from_ hbd)
                have e6 := pw_cell_below hbd e6'
                have h6' := HO3.out.th
                rw [show (Tr ++ [(d : Int)]).length = R + 1 by simp [HTL.out]] at h6'
                have f6 := h6'.frozenAt R
                clear hbd e6' q1' q2' HO2
                have hO4 := HO3.out.storeT R ((d : Int) + 1)
                have hmc := HO3.out.mks.cellAt cn (by omega)
                obtain ⟨mk, hmk⟩ : ∃ x, s.mks.getD cn false = x := ⟨_, rfl⟩
                have hml : cn < s.mks.length := by rw [HML.out, HNL.out]; omega
                have em : s.mks[cn]? = some mk := by rw [← hmk, List.getD_eq_getElem?_getD, List.getElem?_eq_getElem hml]; rfl
                rw [List.getElem?_map, em] at hmc
                have hne36 : g3 ≠ g6 := by
                  rcases own_ne HO3.out.mks HO3.out.th (by decide) with h | h
                  · simp [Value.ownBlock] at h
                  · simpa [Value.ownBlock] using h
                have m3 : (wc.setCell ⟨g6, R, none⟩ (.int .i64 ((d : Int) + 1))).cell? ⟨g3, cn, none⟩ = some (.bool mk) := by
                  rw [World.cell?_setCell_far _ _ _ _ (by simpa using hne36.symm)]; exact hmc
                have HMK := Aside0.mk hmk
                have hset : (Tr ++ [(d : Int)]).set R ((d : Int) + 1) = Tr ++ [((d + 1 : Nat) : Int)] := by
                  rw [List.set_append_right _ _ (by rw [HTL.out]; exact Nat.le_refl _), HTL.out, Nat.sub_self]; rfl
                rw [hset] at hO4
                have HO4 := Aside0.mk hO4
                clear hO4 hset hmc em hmk hml hne36 h6'
                go_upto_region 18 with (fail)
                revert HO4 m3
                generalize wc.setCell ⟨g6, R, none⟩ (.int .i64 ((d : Int) + 1)) = W5
                intro m3 HO4
                clear e6 f6 HO3
                cases mk with
                | true =>
                  go_wp2_with (fail)
                  go_roundg (meas nx (dstep nx s))
                  case measure =>
                    have := meas_step nx HW.out s HI'.out (by rw [HS.out]; simp)
                    have := HM.out
                    omega
                  case rel =>
                    have e := dstep_seen HS.out HGET.out (by rw [Int.toNat_natCast]; exact HMK.out)
                    refine ⟨dstep nx s, ?_, inv_step nx HW.out s HI'.out, tgt_step nx HW.out HI'.out HT.out, ?_, Nat.le_refl _⟩
                    · rw [e]
                      simp only [List.reverse_cons, List.map_append, List.map_cons, List.map_nil]
                      rw [HOR.out, HTR.out]
                      exact HO4.out
                    · rw [e]
                      intro b' d' h
                      rcases List.mem_cons.1 h with h9 | h9
                      · cases h9; exact HDLT.out
                      · exact HD.out b' d' (by rw [HS.out]; exact List.mem_cons_of_mem _ h9)
                | false =>
                  have fm := HO4.out.mks.frozenAt cn
                  have hO5 := HO4.out.storeM cn
                  have HO5 := Aside0.mk hO5
                  clear hO5 HO4
                  go_upto_region 20 with (fail)
                  revert HO5
                  generalize W5.setCell ⟨g3, cn, none⟩ (.bool true) = W6
                  intro HO5
                  clear m3 fm
                  have hop := HO5.out.op
                  rw [show (Or ++ [(bn : Int)]).length = R + 1 by simp [HOL.out]] at hop
                  have HX := Aside0.mk hop
                  have HB := Aside0.mk HO5.out.below
                  have HLEN : Aside0 (R + 1 ≤ n) := ⟨by have := HIL.out; have := HR.out; omega⟩
                  clear hop
                  go_wp2_with (first | (at_builtin; refine wpList_append_own_at _ rfl _ _ 26 rfl w.heap.size 3 i3 (.int .i64 0) 1 8 Try.underlying26 HI3.out HY3.out HZ3.out HX3.out rfl (by decide) _ _ _ rfl (World.ownsRow.alloc HX.out _) ⟨W6.heap.size, 0, none⟩ 1 1 [.int .i64 (cn : Int)] rfl rfl (cell_one_new _ _ _) (by simp [Value.oneCell']) (by have := HN.out; have := HLEN.out; unfold maxLen; omega) (by have := HN.out; have := HLEN.out; omega) (by rw [World.size_alloc]; have := HB.out.size; omega) ?_; intro v9 w9 hown9 hgrow9 _ hat9; refine Classical.byContradiction (fun hcon => ?hst8)) | go_in)
                  refine hcon ?_
                  have hg9 := (World.grownBy_alloc W6 (.cells #[.int .i64 (cn : Int)] 3) (Value.slice (some ⟨g5, 0, none⟩) (R + 1) c5).ownBlock).trans hgrow9
                  have hat : v9.ownBlock = (Value.slice (some ⟨g5, 0, none⟩) (R + 1) c5).ownBlock ∨ ∃ k, v9.ownBlock = some k ∧ W6.heap.size ≤ k := hat9.imp id (fun h => ⟨_, h, by rw [World.size_alloc]; omega⟩)
                  have HO6 := Aside0.mk (HO5.out.growO (x := (cn : Int)) (by rw [show (Or ++ [(bn : Int)]).length = R + 1 by simp [HOL.out]]; exact hown9) hg9 hat)
                  clear hown9 hgrow9 hcon hg9 hat hat9 HO5 HX HB
                  rename_i v5'
                  obtain ⟨W7, hW7⟩ : ∃ W7, w9 = W7 := ⟨_, rfl⟩
                  obtain ⟨v5n, hv5n⟩ : ∃ v5n, v9 = v5n := ⟨_, rfl⟩
                  rw [hW7, hv5n] at HO6
                  rw [hW7, hv5n]
                  clear hW7 hv5n
                  have hth := HO6.out.th
                  rw [show (Tr ++ [((d + 1 : Nat) : Int)]).length = R + 1 by simp [HTL.out]] at hth
                  have HX := Aside0.mk hth
                  have HB := Aside0.mk HO6.out.below
                  clear hth
                  go_wp2_with (first | (at_builtin; refine wpList_append_own_at _ rfl _ _ 26 rfl w.heap.size 3 i3 (.int .i64 0) 1 8 Try.underlying26 HI3.out HY3.out HZ3.out HX3.out rfl (by decide) _ _ _ rfl (World.ownsRow.alloc HX.out _) ⟨W7.heap.size, 0, none⟩ 1 1 [.int .i64 0] rfl rfl (cell_one_new _ _ _) (by simp [Value.oneCell']) (by have := HN.out; have := HLEN.out; unfold maxLen; omega) (by have := HN.out; have := HLEN.out; omega) (by rw [World.size_alloc]; have := HB.out.size; omega) ?_; intro v9 w9 hown9 hgrow9 _ hat9; refine Classical.byContradiction (fun hcon => ?hst9)) | go_in)
                  refine hcon ?_
                  have hg9 := (World.grownBy_alloc W7 (.cells #[.int .i64 0] 3) (Value.slice (some ⟨g6, 0, none⟩) (R + 1) c6).ownBlock).trans hgrow9
                  have hat : v9.ownBlock = (Value.slice (some ⟨g6, 0, none⟩) (R + 1) c6).ownBlock ∨ ∃ k, v9.ownBlock = some k ∧ W7.heap.size ≤ k := hat9.imp id (fun h => ⟨_, h, by rw [World.size_alloc]; omega⟩)
                  have HO7 := Aside0.mk (HO6.out.growT (x := 0) (by rw [show (Tr ++ [((d + 1 : Nat) : Int)]).length = R + 1 by simp [HTL.out]]; exact hown9) hg9 hat)
                  clear hown9 hgrow9 hcon hg9 hat hat9 HO6 HX HB
                  go_wp2_with (fail)
                  go_roundg (meas nx (dstep nx s))
                  case measure =>
                    have := meas_step nx HW.out s HI'.out (by rw [HS.out]; simp)
                    have := HM.out
                    omega
                  case rel =>
                    have e := dstep_new HS.out HGET.out (by rw [Int.toNat_natCast, HMK.out]; decide)
                    refine ⟨dstep nx s, ?_, inv_step nx HW.out s HI'.out, tgt_step nx HW.out HI'.out HT.out, ?_, Nat.le_refl _⟩
                    · rw [e]
                      simp only [List.reverse_cons, List.map_append, List.map_cons, List.map_nil, Int.toNat_natCast]
                      rw [HOR.out, HTR.out]
                      exact HO7.out
                    · rw [e]
                      intro b' d' h
                      rcases List.mem_cons.1 h with h9 | h9
                      · cases h9; exact Nat.zero_le _
                      · rcases List.mem_cons.1 h9 with h8 | h8
                        · cases h8; exact HDLT.out
                        · exact HD.out b' d' (by rw [HS.out]; exact List.mem_cons_of_mem _ h8)
end Go.Proofs.Ytmeaepmimnmjlaa.Ask
/- Rows of rows, of any element; rows beside a box. -/
namespace Go.Proofs.Ytmeaepmimnmjlaa.Ask
open Go.Proofs.Ytmeaepmimnmjlaa.Dfs Go.Proofs.Ytmeaepmimnmjlaa.Dom Go.Proofs.Ytmeaepmimnmjlaa.DomT Go.RowKit Go.Shelf Go.Proofs.Ytmeaepmimnmjlaa.PGb Go.Proofs.Ytmeaepmimnmjlaa.Lit Go.Proofs.Ytmeaepmimnmjlaa.OwnCells Go.Proofs.YtmeaepmimnmjlaaW.PrintWords Go.Proofs.YtmeaepmimnmjlaaW.PrintLast Go.Proofs.YtmeaepmimnmjlaaW.PrintMore
set_option linter.unusedVariables false
/-- lists of the call's own, one behind the other -/
structure RR {β : Type} (f : β → Value) (t : TypeId) (W : World) (base : Nat) (vs : List Value) (ls : List (List β)) : Prop where
  len : vs.length = ls.length
  each : ∀ j, j < ls.length → W.ownsRow base t 1 (vs.getD j undef) (ls.getD j []).length ((ls.getD j []).map f)
section
variable {β : Type} {f : β → Value} {t : TypeId} {W W' : World} {base : Nat} {vs : List Value} {ls : List (List β)}
theorem RR.nil (W : World) (base : Nat) : RR f t W base [] [] := ⟨rfl, fun j hj => absurd hj (Nat.not_lt_zero _)⟩
theorem RR.below (h : RR f t W base vs ls) (hb : Below W.heap.size W W') : RR f t W' base vs ls := ⟨h.len, fun j hj => own_move (h.each j hj) fun k hk => hb.block k (own_lt (h.each j hj) k hk)⟩
theorem RR.kept (h : RR f t W base vs ls) {e : TypeId} {b n : Nat} {v7 : Value} {xs : List Value} (h7 : W.ownsRow b e 1 v7 n xs) (he : t ≠ e) (hg : W.grownBy W' v7.ownBlock) : RR f t W' base vs ls := ⟨h.len, fun j hj => (h.each j hj).kept hg (own_ne (h.each j hj) h7 he)⟩
theorem RR.more (h : RR f t W base vs ls) {v : Value} {l : List β} (hv : W.ownsRow base t 1 v l.length (l.map f)) : RR f t W base (vs ++ [v]) (ls ++ [l]) := by
  refine ⟨by rw [List.length_append, List.length_append, h.len]; rfl, fun j hj => ?_⟩
  have hl := h.len
  rw [List.length_append] at hj
  simp only [List.length_cons, List.length_nil] at hj
  by_cases e : j < ls.length
  · have e1 : (vs ++ [v]).getD j undef = vs.getD j undef := by rw [List.getD_eq_getElem?_getD, List.getD_eq_getElem?_getD, List.getElem?_append_left (by omega)]
    have e2 : (ls ++ [l]).getD j [] = ls.getD j [] := by rw [List.getD_eq_getElem?_getD, List.getD_eq_getElem?_getD, List.getElem?_append_left e]
    rw [e1, e2]; exact h.each j e
  · have e0 : j = ls.length := by omega
    subst e0
    have e1 : (vs ++ [v]).getD ls.length undef = v := by rw [List.getD_eq_getElem?_getD, List.getElem?_append_right (by omega)]; simp [hl]
    have e2 : (ls ++ [l]).getD ls.length [] = l := by rw [List.getD_eq_getElem?_getD, List.getElem?_append_right (by omega)]; simp
    rw [e1, e2]; exact hv
theorem own_setLow {b e s n g j : Nat} {v u : Value} {xs : List Value} (h : W.ownsRow b e s v n xs) (hg : g < b) : (W.setCell ⟨g, j, none⟩ u).ownsRow b e s v n xs := own_move h fun k hk => Below.heap_setCell W ⟨g, j, none⟩ u k (by have := own_base h k hk; simp; omega)
theorem RR.setLow (h : RR f t W base vs ls) {g j : Nat} {u : Value} (hg : g < base) : RR f t (W.setCell ⟨g, j, none⟩ u) base vs ls := ⟨h.len, fun j hj => own_setLow (h.each j hj) hg⟩
/-- they read as a list of lists -/
theorem RR.C (h : RR f t W base vs ls) (k : Kd β) (hk : ∀ {A : Option Addr} {c : Nat} {l : List β}, W.ownsRow base t 1 (.slice A l.length c) l.length (l.map f) → k.C W A l.length l ∧ l.length ≤ c) {b e c : Nat} {A : Option Addr} (ho : W.ownsRow b e 1 (.slice A ls.length c) ls.length vs) (hn : ls.length < 9223372036854775807) (hs : 0 < ls.length) : (Kd.slice t k).C W A ls.length ls := by
  obtain ⟨g, rfl⟩ : ∃ g, A = some ⟨g, 0, none⟩ := by
    rcases ho.2 with ⟨e, _⟩ | ⟨g, cap, cur, e, _⟩
    · injection e with e1 e2 e3
      exact absurd hs (by omega)
    · injection e with e1 e2 e3
      exact ⟨g, e1⟩
  have hl := h.len
  refine ⟨rfl, by omega, fun hp => ⟨⟨g, 0, none⟩, rfl, fun i p hi => ?_⟩⟩
  have hi' : i < ls.length := (List.getElem?_eq_some_iff.1 hi).1
  have her := h.each i hi'
  obtain ⟨A, c, hv⟩ := row_slice her
  have hg : ls.getD i [] = p := by rw [List.getD_eq_getElem?_getD, hi]; rfl
  rw [hv, hg] at her
  rw [hg] at hv
  obtain ⟨h1, h2⟩ := hk her
  refine ⟨[.slice A p.length c], rfl, ⟨A, c, rfl, h2, h1⟩, fun j u hj => ?_⟩
  match j, hj with
  | 0, hj =>
    simp at hj
    subst hj
    have := ho.cellAt i (by omega)
    have e9 : vs[i]? = some (vs.getD i undef) := by rw [List.getD_eq_getElem?_getD, List.getElem?_eq_getElem (by omega)]; rfl
    rw [e9, hv] at this
    have e : ((⟨g, 0, none⟩ : Addr).add (i * 1 + 0)) = ⟨g, i, none⟩ := by rw [show i * 1 + 0 = i by omega]; by_cases h0 : i = 0 <;> simp [Addr.add, h0]
    show W.cell? ((⟨g, 0, none⟩ : Addr).add (i * 1 + 0)) = _
    rw [e]; exact this
end
theorem row_Cb2 {w : World} {base : Nat} {A : Option Addr} {c : Nat} {l : List Bool} (h : w.ownsRow base 4 1 (.slice A l.length c) l.length (l.map Value.bool)) : Kd.bool.C w A l.length l ∧ l.length ≤ c := by
  have hR : Kd.bool.R 4 w base (fun _ => True) (.slice A l.length c) l := Kd.R_of_own h (fun _ _ => trivial)
  obtain ⟨_, h1, h2⟩ := Kd.R_reads' hR
  exact ⟨h2, h1⟩
/-- an own list of numbers whose block is not ve's -/
def OwnI (hs : Nat) (ve : Value) (L : List Int) (W : World) (v : Value) : Prop := ∃ A c, v = .slice A L.length c ∧ W.ownsRow hs 3 1 v L.length (L.map (Value.int .i64)) ∧ ∀ k, v.ownBlock = some k → ve.ownBlock ≠ some k
theorem OwnI.below {hs : Nat} {ve : Value} {L : List Int} {W W' : World} {v : Value} (h : OwnI hs ve L W v) (hb : Below W.heap.size W W') : OwnI hs ve L W' v := by
  obtain ⟨A, c, e, ho, hne⟩ := h
  exact ⟨A, c, e, own_move ho fun k hk => hb.block k (own_lt ho k hk), hne⟩
theorem OwnI.grown {hs : Nat} {ve : Value} {L : List Int} {W W' : World} {v : Value} (h : OwnI hs ve L W v) (hg : W.grownBy W' ve.ownBlock) : OwnI hs ve L W' v := by
  obtain ⟨A, c, e, ho, hne⟩ := h
  refine ⟨A, c, e, ho.kept hg ?_, hne⟩
  cases hv : v.ownBlock with
  | none => exact .inl rfl
  | some k => exact .inr (fun e => hne k hv e.symm)
theorem cell_grown {W W' : World} {g : Nat} {u : Value} {r : Option Nat} (h : W.cell? ⟨g, 0, none⟩ = some u) (hr : r ≠ some g) (hg : W.grownBy W' r) : W'.cell? ⟨g, 0, none⟩ = some u := by
  have hlt : g < W.heap.size := by
    refine Classical.byContradiction fun hn => ?_
    have e : W.heap[g]? = none := Array.getElem?_eq_none (by omega)
    simp [World.cell?, e] at h
  exact (World.cell?_of_block (hg.block g hlt (fun e => hr e.symm))).trans h
theorem BS.grown {w W W' : World} {GB base n : Nat} {cf gc : Array Value} {v : Value} {e : TypeId} {xs : List Value} (a : BS w W GB cf gc) (h : W.ownsRow base e 1 v n xs) (hB : GB < base) (he : e ≠ 25 ∧ e ≠ 29) (hg : W.grownBy W' v.ownBlock) : BS w W' GB cf gc := by
  have hlo := a.lo
  refine ⟨(hg.block _ (blk_lt a.fb) (own_ne_box h a.fb he.1)).trans a.fb, (hg.block _ (blk_lt a.rb) (own_ne_box h a.rb he.2)).trans a.rb, (hg.block _ (blk_lt a.gb) (own_ne_box h a.gb he.2)).trans a.gb, a.below.grown hg a.below.size (fun k hk => ?_), a.lo⟩
  have := own_base h k hk
  omega
theorem but_grown {W0 W W' : World} {GB B n : Nat} {v : Value} {e : TypeId} {xs : List Value} (h : Range.KBut B GB W0 W) (ho : W.ownsRow B e 1 v n xs) (hg : W.grownBy W' v.ownBlock) (hB : B ≤ W0.heap.size) : Range.KBut B GB W0 W' :=
  ⟨Nat.le_trans h.1 hg.size, fun k hk hne => (hg.block k (by have := h.1; omega) (fun e => by have := own_base ho k e.symm; omega)).trans (h.2 k hk hne)⟩
theorem own_but {W W' : World} {GB B base n : Nat} {v : Value} {e : TypeId} {xs : List Value} (h : W.ownsRow base e 1 v n xs) (hB : W.heap.size ≤ B) (hG : GB < base) (hk : Range.KBut B GB W W') : W'.ownsRow base e 1 v n xs :=
  own_move h fun k hk' => hk.2 k (by have := own_lt h k hk'; omega) (by have := own_base h k hk'; omega)
theorem RR.but {β : Type} {f : β → Value} {t : TypeId} {W W' : World} {GB B base : Nat} {vs : List Value} {ls : List (List β)} (h : RR f t W base vs ls) (hB : W.heap.size ≤ B) (hG : GB < base) (hk : Range.KBut B GB W W') : RR f t W' base vs ls := ⟨h.len, fun j hj => own_but (h.each j hj) hB hG hk⟩
theorem RR.weaken {β : Type} {f : β → Value} {t : TypeId} {W : World} {b base : Nat} {vs : List Value} {ls : List (List β)} (h : RR f t W base vs ls) (hb : b ≤ base) : RR f t W b vs ls := ⟨h.len, fun j hj => own_weaken (h.each j hj) hb⟩
theorem post_ar {nx : List (List Int)} (hw : Wf nx) (x : Int) : AR (Ex nx) (-1) x ↔ x ∈ post nx := by
  refine ⟨ar_post hw, fun h => ?_⟩
  have hr := (post_mem nx hw x).1 h
  clear h
  induction hr with
  | refl => exact .zero (by decide)
  | step h1 hm ih => exact .step ih ⟨(post_mem nx hw _).2 h1, hm⟩ (by have := hw.in_ _ _ hm; omega)
theorem GF.heads_upTo {n m : Nat} {st : List Int} {nx : List (List Int)} {ord l hd : List Int} {code : List S40} {hs : List S49} (g : GF code hs n m st nx ord l hd) : upTo (fun p => LedR code p code.length p) code.length = hd := by
  obtain ⟨h, e, hm⟩ := g.hde
  refine rise_ext _ _ (upTo_rise _ _) (e ▸ idxs_rise h) (fun x => ?_)
  rw [e, upTo_mem, idxs_mk hm]
  refine exists_congr fun p => and_congr Iff.rfl (and_congr Iff.rfl ⟨?_, ?_⟩)
  · rintro ⟨q, i, h1, h2, h3, h4, h5⟩
    exact ⟨q, i, h2, h3, h4, h5, h1⟩
  · rintro ⟨q, i, h2, h3, h4, h5, h1⟩
    exact ⟨q, i, h1, h2, h3, h4, h5⟩
theorem RR.C_int {W : World} {base b e n c : Nat} {vs : List Value} {ls : List (List Int)} {A : Option Addr} (h : RR (Value.int .i64) 3 W base vs ls) (ho : W.ownsRow b e 1 (.slice A n c) n vs) (hl : ls.length = n) (hn : n < 9223372036854775807) (hs : 0 < n) : (Kd.slice 3 (Kd.int .i64)).C W A n ls := by
  subst hl
  exact h.C _ (fun h => row_C h) ho hn hs
theorem RR.C_bool {W : World} {base b e n c : Nat} {vs : List Value} {ls : List (List Bool)} {A : Option Addr} (h : RR Value.bool 4 W base vs ls) (ho : W.ownsRow b e 1 (.slice A n c) n vs) (hl : ls.length = n) (hn : n < 9223372036854775807) (hs : 0 < n) : (Kd.slice 4 Kd.bool).C W A n ls := by
  subst hl
  exact h.C _ (fun h => row_Cb2 h) ho hn hs
/-- the four lists that stand when the order is made -/
structure RQ (W : World) (base n : Nat) (st : List Int) (nx : List (List Int)) (ord : List Int) (As A1 A2 : Option Addr) (cs c1 c2 : Nat) (vs : List Value) : Prop where
  s : W.ownsRow base 3 1 (.slice As n cs) n (st.map (Value.int .i64))
  o : W.ownsRow base 26 1 (.slice A1 n c1) n vs
  r : RR (Value.int .i64) 3 W base vs nx
  q : W.ownsRow base 3 1 (.slice A2 n c2) n (ord.map (Value.int .i64))
theorem RQ.but {W W' : World} {base n GB B : Nat} {st ord : List Int} {nx : List (List Int)} {As A1 A2 : Option Addr} {cs c1 c2 : Nat} {vs : List Value} (h : RQ W base n st nx ord As A1 A2 cs c1 c2 vs) (hB : W.heap.size ≤ B) (hG : GB < base) (hk : Range.KBut B GB W W') : RQ W' base n st nx ord As A1 A2 cs c1 c2 vs := ⟨own_but h.s hB hG hk, own_but h.o hB hG hk, h.r.but hB hG hk, own_but h.q hB hG hk⟩
theorem GF.nb_len {code : List S40} {hs : List S49} {n m : Nat} {st : List Int} {nx : List (List Int)} {ord l hd : List Int} (g : GF code hs n m st nx ord l hd) (b : Int) : (nb nx b).length ≤ n := by
  by_cases h : b.toNat < n
  · have := g.row_len h
    rw [rd_L3, Int.toNat_natCast] at this
    exact this
  · have e : nb nx b = [] := by
      show nx.getD b.toNat [] = []
      rw [List.getD_eq_getElem?_getD, List.getElem?_eq_none (by rw [g.lnx]; omega)]; rfl
    rw [e]; exact Nat.zero_le _
end Go.Proofs.Ytmeaepmimnmjlaa.Ask
/- The reference: Build, by its meaning. -/
namespace Go.Proofs.Ytmeaepmimnmjlaa.Ask
open Go.Proofs.Ytmeaepmimnmjlaa.Dfs Go.Proofs.Ytmeaepmimnmjlaa.Dom Go.Proofs.Ytmeaepmimnmjlaa.DomT Go.RowKit Go.Shelf Go.Proofs.Ytmeaepmimnmjlaa.PGb Go.Proofs.Ytmeaepmimnmjlaa.Lit Go.Proofs.Ytmeaepmimnmjlaa.OwnCells Go.Proofs.YtmeaepmimnmjlaaW.PrintWords Go.Proofs.YtmeaepmimnmjlaaW.PrintLast Go.Proofs.YtmeaepmimnmjlaaW.PrintMore
attribute [local go_sem] Oper.semAt_some
attribute [local go_sem] run_store_fn
attribute [local go_sem] run_eql_fn
set_option linter.unusedVariables false
set_option linter.unusedSimpArgs false
def dQ20 : Nat → Option Tmp
  | 0 => some 103
  | 1 => some 104
  | 2 => some 105
  | 3 => some 106
  | 4 => some 107
  | 5 => some 108
  | 6 => some 109
  | 7 => some 110
  | 8 => some 111
  | 9 => some 112
  | _ => none
def FQ20 (GB b base hs m : Nat) (fa sl ve : Value) (xs : List Value) (L : List Int) : Nat → World → Value → Prop
  | 0, _, v => v = .pointer (some ⟨GB, 1, none⟩)
  | 1, _, v => v = ve
  | 2, _, v => v = fa
  | 3, _, v => v = .pointer (some ⟨GB, 0, none⟩)
  | 4, _, v => v = sl
  | 5, _, v => v = .int .i64 (b : Int)
  | 6, w, v => OwnI hs ve L w v
  | 7, w, v => ∃ g u, v = .slice (some ⟨g, 0, none⟩) 1 1 ∧ w.cell? ⟨g, 0, none⟩ = some u ∧ ve.ownBlock ≠ some g ∧ OwnI hs ve L w u
  | 8, w, v => ∃ u, OwnI hs ve L w u ∧ w.ownsRow base 26 1 v (m + 1) (xs ++ [u]) ∧ (v.ownBlock = ve.ownBlock ∨ ∃ k, v.ownBlock = some k ∧ hs ≤ k)
  | 9, _, v => v = .pointer (some ⟨GB, 1, none⟩)
  | _, _, _ => True
theorem FQ20_below (GB b base hs m : Nat) (fa sl ve : Value) (xs : List Value) (L : List Int) (i : Nat) (w w1 : World) (v : Value) (h : FQ20 GB b base hs m fa sl ve xs L i w v) (hb : Below w.heap.size w w1) : FQ20 GB b base hs m fa sl ve xs L i w1 v := by
  match i with
  | 0 | 1 | 2 | 3 | 4 | 5 | 9 => exact h
  | 6 => exact OwnI.below h hb
  | 7 => exact (by obtain ⟨g, u, h1, h2, h3, h4⟩ := h; exact ⟨g, u, h1, cell_of_below hb h2, h3, h4.below hb⟩)
  | 8 => exact (by obtain ⟨u, h1, h2, h3⟩ := h; exact ⟨u, h1.below hb, own_move h2 (fun k hk => hb.block k (own_lt h2 k hk)), h3⟩)
  | (n + 10) => exact h
theorem FQ20_grown (GB b base hs m : Nat) (fa sl ve : Value) (xs : List Value) (L : List Int) (i : Nat) (w w1 : World) (v : Value) (hi : i ≠ 8) (h : FQ20 GB b base hs m fa sl ve xs L i w v) (hb : w.grownBy w1 ve.ownBlock) : FQ20 GB b base hs m fa sl ve xs L i w1 v := by
  match i with
  | 0 | 1 | 2 | 3 | 4 | 5 | 9 => exact h
  | 6 => exact OwnI.grown h hb
  | 7 => exact (by obtain ⟨g, u, h1, h2, h3, h4⟩ := h; exact ⟨g, u, h1, cell_grown h2 h3 hb, h3, h4.grown hb⟩)
  | 8 => exact absurd rfl hi
  | (n + 10) => exact h
def dQ31 : Nat → Option Tmp
  | 0 => some 141
  | 1 => some 142
  | 2 => some 143
  | 3 => some 144
  | 4 => some 145
  | 5 => some 146
  | 6 => some 147
  | 7 => some 148
  | 8 => some 149
  | _ => none
def FQ31 (GB b base hs m : Nat) (al cu ve : Value) (x : Int) (xs : List Value) : Nat → World → Value → Prop
  | 0, _, v => v = .pointer (some ⟨GB, 3, none⟩)
  | 1, _, v => v = ve
  | 2, _, v => v = al
  | 3, _, v => v = cu
  | 4, _, v => v = .int .i64 (b : Int)
  | 5, _, v => v = .int .i64 x
  | 6, w, v => ∃ g, v = .slice (some ⟨g, 0, none⟩) 1 1 ∧ w.cell? ⟨g, 0, none⟩ = some (.int .i64 x) ∧ ve.ownBlock ≠ some g
  | 7, w, v => w.ownsRow base 3 1 v (m + 1) (xs ++ [.int .i64 x]) ∧ (v.ownBlock = ve.ownBlock ∨ ∃ k, v.ownBlock = some k ∧ hs ≤ k)
  | 8, _, v => v = .pointer (some ⟨GB, 3, none⟩)
  | _, _, _ => True
theorem FQ31_below (GB b base hs m : Nat) (al cu ve : Value) (x : Int) (xs : List Value) (i : Nat) (w w1 : World) (v : Value) (h : FQ31 GB b base hs m al cu ve x xs i w v) (hb : Below w.heap.size w w1) : FQ31 GB b base hs m al cu ve x xs i w1 v := by
  match i with
  | 0 | 1 | 2 | 3 | 4 | 5 | 8 => exact h
  | 6 => exact (by obtain ⟨g, h1, h2, h3⟩ := h; exact ⟨g, h1, cell_of_below hb h2, h3⟩)
  | 7 => exact ⟨own_move h.1 (fun k hk => hb.block k (own_lt h.1 k hk)), h.2⟩
  | (n + 9) => exact h
theorem FQ31_grown (GB b base hs m : Nat) (al cu ve : Value) (x : Int) (xs : List Value) (i : Nat) (w w1 : World) (v : Value) (hi : i ≠ 7) (h : FQ31 GB b base hs m al cu ve x xs i w v) (hb : w.grownBy w1 ve.ownBlock) : FQ31 GB b base hs m al cu ve x xs i w1 v := by
  match i with
  | 0 | 1 | 2 | 3 | 4 | 5 | 8 => exact h
  | 6 => exact (by obtain ⟨g, h1, h2, h3⟩ := h; exact ⟨g, h1, cell_grown h2 h3 hb, h3⟩)
  | 7 => exact absurd rfl hi
  | (n + 9) => exact h
/-- the two boxes -/
structure FR (w W : World) (cf : Array Value) : Prop where
  fb : W.heap[w.heap.size]? = some (.cells cf 25 (0, 0))
  rb : W.heap[w.heap.size + 1]? = some (.cells #[.slice none 0 0, .slice none 0 0, .slice none 0 0, .slice none 0 0, .slice none 0 0] 29 (0, 0))
  below : Below w.heap.size w W
theorem FR.from_ {w W W' : World} {cf : Array Value} (a : FR w W cf) (hb : Below W.heap.size W W') : FR w W' cf := ⟨blk_below a.fb hb, blk_below a.rb hb, a.below.trans (hb.mono a.below.size)⟩
set_option maxRecDepth 100000 in
set_option maxHeartbeats 16000000 in
theorem rbuild_yes {code : List S40} {hs : List S49} {w : World} {nm : ByteArray} {pa lo : Int} {A3 A4 : Option Addr} {c3 c4 : Nat} {n m : Nat} {st : List Int} {nx : List (List Int)} {ord l hd : List Int} (g : GF code hs n m st nx ord l hd) (hn : code.length ≤ 8796093022207) (hhn : hs.length ≤ 8796093022208) (hC : k40.C w A3 code.length code) (hc3 : code.length ≤ c3) (hH : k49.C w A4 hs.length hs) (hc4 : hs.length ≤ c4) (hup : code.length ≤ 1048576) :
    Calls Try.prog 11 #[.agg #[.string nm, .int .i64 pa, .int .i64 lo, .slice A3 code.length c3, .slice A4 hs.length c4]] w fun e w' => ∃ a0 a1 a2 a3 a4 c0 c1 c2 c3 c4, e = .returned (.tuple #[.agg #[.slice a0 n c0, .slice a1 n c1, .slice a2 n c2, .slice a3 n c3, .slice a4 m c4], .int .i64 0]) ∧ GV w' a0 a1 a2 a3 a4 c0 c1 c2 c3 c4 n m st nx ord l hd ∧ Below w.heap.size w w' := by
  have HG := Aside0.mk g
  have HC := Aside0.mk hC
  have HH := Aside0.mk hH
  have HC3 := Aside0.mk hc3
  have HC4 := Aside0.mk hc4
  have HN := Aside0.mk hn
  have HHN := Aside0.mk hhn
  have HUP := Aside0.mk hup
  have hpos := g.fit.pos
  clear hC hc3 hH hc4 hn hhn g hup
  have hu25 := Try.underlying25
  have hu29 := Try.underlying29
  have hu40 := Try.underlying40
  have hu49 := Try.underlying49
  refine (callsIn_wide (n := 12)).1 ?_
  refine callsIn_of_wp_marks Try.func11 rfl trivial ?_ rfl
  refine wpIn_wide.2 ?_
  simp only [Try.ntmps11, List.size_toArray, List.length_cons, List.length_nil, Nat.reduceAdd, Nat.reduceSub, Array.replicate_succ, Array.replicate_zero, List.push_toArray, List.append_toArray, List.nil_append, List.cons_append]
  go_upto_region 1 with (fail)
  have hfb0 : ((w.alloc (.cells #[.string nm, .int .i64 pa, .int .i64 lo, .slice A3 code.length c3, .slice A4 hs.length c4] 25)).alloc (.cells #[.slice none 0 0, .slice none 0 0, .slice none 0 0, .slice none 0 0, .slice none 0 0] 29)).heap[w.heap.size]? = some (.cells #[.string nm, .int .i64 pa, .int .i64 lo, .slice A3 code.length c3, .slice A4 hs.length c4] 25 (0, 0)) := ((World.grownBy_alloc (w.alloc _) _ none).block _ (by simp) (by simp)).trans (World.alloc_heap_new w _)
  have hrb0 : ((w.alloc (.cells #[.string nm, .int .i64 pa, .int .i64 lo, .slice A3 code.length c3, .slice A4 hs.length c4] 25)).alloc (.cells #[.slice none 0 0, .slice none 0 0, .slice none 0 0, .slice none 0 0, .slice none 0 0] 29)).heap[w.heap.size + 1]? = some (.cells #[.slice none 0 0, .slice none 0 0, .slice none 0 0, .slice none 0 0, .slice none 0 0] 29 (0, 0)) := by
    have := World.alloc_heap_new (w.alloc (.cells #[.string nm, .int .i64 pa, .int .i64 lo, .slice A3 code.length c3, .slice A4 hs.length c4] 25)) (.cells #[.slice none 0 0, .slice none 0 0, .slice none 0 0, .slice none 0 0, .slice none 0 0] 29)
    rw [World.size_alloc] at this
    exact this
  have hb0 : Below w.heap.size w ((w.alloc (.cells #[.string nm, .int .i64 pa, .int .i64 lo, .slice A3 code.length c3, .slice A4 hs.length c4] 25)).alloc (.cells #[.slice none 0 0, .slice none 0 0, .slice none 0 0, .slice none 0 0, .slice none 0 0] 29)) := below_alloc (below_alloc (Below.refl _ _) _) _
  revert hfb0 hrb0 hb0
  generalize (w.alloc (.cells #[.string nm, .int .i64 pa, .int .i64 lo, .slice A3 code.length c3, .slice A4 hs.length c4] 25)).alloc (.cells #[.slice none 0 0, .slice none 0 0, .slice none 0 0, .slice none 0 0, .slice none 0 0] 29) = W0
  generalize hcf : #[Value.string nm, .int .i64 pa, .int .i64 lo, .slice A3 code.length c3, .slice A4 hs.length c4] = cf
  intro hfb0 hrb0 hb0
  have kf0 : cf[0]? = some (.string nm) := by rw [← hcf]; rfl
  have kf1 : cf[1]? = some (.int .i64 pa) := by rw [← hcf]; rfl
  have kf2 : cf[2]? = some (.int .i64 lo) := by rw [← hcf]; rfl
  have kf3 : cf[3]? = some (.slice A3 code.length c3) := by rw [← hcf]; rfl
  have kf4 : cf[4]? = some (.slice A4 hs.length c4) := by rw [← hcf]; rfl
  have HKF := Aside0.mk (And.intro kf0 (And.intro kf1 (And.intro kf2 (And.intro kf3 kf4))))
  have HCF := Aside0.mk hcf
  have HB0 : Aside0 (FR w W0 cf) := ⟨⟨hfb0, hrb0, hb0⟩⟩
  have f3 := cell_blk hfb0 kf3
  clear kf0 kf1 kf2 kf3 kf4 hfb0 hrb0 hb0 hcf
  have t0 : ((code.length : Int) == 0) = false := beq_eq_false_iff_ne.2 (by omega)
  have t0' : (code.length == 0) = false := beq_eq_false_iff_ne.2 (by omega)
  go_wp2_with (fail)
  obtain ⟨wo, hwo⟩ : ∃ wo, W0 = wo := ⟨_, rfl⟩
  clear f3
  go_loopw [5] (fun v wr => ∃ i : Nat, i ≤ code.length ∧ v = .int .i64 (i : Int) ∧ Below W0.heap.size W0 wr) (fun v _ => ((code.length : Int) - intOf v).toNat)
  case atStart => exact ⟨0, Nat.zero_le _, rfl, Below.refl _ _⟩
  case round =>
    obtain ⟨i, hi, rfl, hB⟩ := hrel
    have HBW := Aside0.mk hB
    have HBS := Aside0.mk (HB0.out.from_ hB)
    have him : i < 9223372036854775807 := by have := HN.out; omega
    have f3 := cell_blk HBS.out.fb HKF.out.2.2.2.1
    by_cases hil : i < code.length
    · have hin : (i : Int) < (code.length : Int) := by omega
      have hi0 : (0 : Int) ≤ (i : Int) := by omega
      have HIL := Aside0.mk hil
      obtain ⟨y, e0, h0, h1⟩ := at_T40 (Kd.C_below HC.out HBS.out.below) (i : Int) hi0 hin
      subst e0
      rw [Int.toNat_natCast] at h0 h1
      have hget := get40 hil
      obtain ⟨x, hx⟩ : ∃ x, rd_T40 code (i : Int) = x := ⟨_, rfl⟩
      rw [hx] at h0 h1 hget
      have hjmp := HG.out.fit.jmp x (List.mem_of_getElem? hget)
      obtain ⟨jb, hjb⟩ : ∃ jb, jumpsP x.f0 = jb := ⟨_, rfl⟩
      rw [hjb] at hjmp
      have HJB := Aside0.mk hjb
      have HJM := Aside0.mk hjmp
      clear hget hx hi hil hB hjb hjmp hpos t0 t0'
      go_wp2_with (fail)
      refine (portageref09_jumps.calls _ _ _ (rjumps_f _)).mono ?_
      rintro e w9 ⟨rfl, hd9⟩
      have HBW9 := Aside0.mk (HBW.out.trans (hd9.below.mono HBW.out.size))
      obtain ⟨d9, rfl⟩ := hd9.out
      rw [HJB.out]
      clear hd9 HBW HBS
      cases jb with
      | false =>
        clear h0 h1 f3
        go_wp2_with (fail)
        go_roundw
        case measure => simp [intOf]; omega
        case rel => exact ⟨i + 1, HIL.out, by first | rfl | go_num, HBW9.out⟩
      | true =>
        obtain ⟨o1, o2⟩ := HJM.out rfl
        have u1 : decide (x.f1 < 0) = false := decide_eq_false (by omega)
        have u2 : decide (x.f1 ≥ (code.length : Int)) = false := decide_eq_false (by omega)
        have u2' : decide ((code.length : Int) ≤ x.f1) = false := decide_eq_false (by omega)
        clear o1 o2
        go_wp2_with (fail)
        go_roundw
        case measure => simp [intOf]; omega
        case rel => exact ⟨i + 1, HIL.out, by first | rfl | go_num, HBW9.out⟩
    · have hin : (code.length : Int) ≤ (i : Int) := by omega
      have hnn : code.length = i := by omega
      have f4 := cell_blk HBS.out.fb HKF.out.2.2.2.2
      clear hi hil hB t0 t0' hpos
      subst hnn
      go_wp2_with (fail)
      (try rw [show decide (code.length < code.length) = false from decide_eq_false (by omega)])
      clear f3 f4
      go_loopw [6] (fun v wr => ∃ i : Nat, i ≤ hs.length ∧ v = .int .i64 (i : Int) ∧ Below W0.heap.size W0 wr) (fun v _ => ((hs.length : Int) - intOf v).toNat)
      case atStart => exact ⟨0, Nat.zero_le _, rfl, HBW.out⟩
      case round =>
        clear HBW HBS
        obtain ⟨i, hi, rfl, hB⟩ := hrel
        have HBW := Aside0.mk hB
        have HBS := Aside0.mk (HB0.out.from_ hB)
        have him : i < 9223372036854775807 := by have := HHN.out; omega
        have f4 := cell_blk HBS.out.fb HKF.out.2.2.2.2
        by_cases hil : i < hs.length
        · have hin : (i : Int) < (hs.length : Int) := by omega
          have hi0 : (0 : Int) ≤ (i : Int) := by omega
          have HIL := Aside0.mk hil
          obtain ⟨y, e0, h0, h1, h2, h3⟩ := at_T49 (Kd.C_below HH.out HBS.out.below) (i : Int) hi0 hin
          subst e0
          rw [Int.toNat_natCast] at h0 h1 h2 h3
          have hget := get49 hil
          obtain ⟨x, hx⟩ : ∃ x, rd_T49 hs (i : Int) = x := ⟨_, rfl⟩
          rw [hx] at h0 h1 h2 h3 hget
          obtain ⟨o1, o2, o3, o4, o5⟩ := HG.out.fit.hnd x (List.mem_of_getElem? hget)
          have HO := Aside0.mk (And.intro o1 (And.intro o2 (And.intro o3 (And.intro o4 o5))))
          clear hget hx hi hil hB o1 o2 o3 o4 o5
          go_upto_region 13 with (fail)
          obtain ⟨XB, hXB⟩ : ∃ XB, wr.heap.size = XB := ⟨_, rfl⟩
          have hb2 : Below wr.heap.size wr (wr.alloc (.cells #[.int .i64 x.f0, .int .i64 x.f1, .int .i64 x.f2, .int .i64 x.f3] 49)) := below_alloc (Below.refl _ _) _
          have HXX : Aside0 ((wr.alloc (.cells #[.int .i64 x.f0, .int .i64 x.f1, .int .i64 x.f2, .int .i64 x.f3] 49)).heap[XB]? = some (.cells #[.int .i64 x.f0, .int .i64 x.f1, .int .i64 x.f2, .int .i64 x.f3] 49 (0, 0))) := ⟨hXB ▸ World.alloc_heap_new wr _⟩
          have HBW3 := Aside0.mk (HBW.out.trans (hb2.mono HBW.out.size))
          rw [hXB]
          revert HXX HBW3
          generalize wr.alloc (.cells #[.int .i64 x.f0, .int .i64 x.f1, .int .i64 x.f2, .int .i64 x.f3] 49) = W5
          intro HXX HBW3
          clear hb2 hXB h0 h1 h2 h3 f4 HBW HBS
          have y0 := cell_blk HXX.out (i := 0) rfl
          have y1 := cell_blk HXX.out (i := 1) rfl
          have y2 := cell_blk HXX.out (i := 2) rfl
          have u1 : decide (x.f0 < 0) = false := decide_eq_false (by have := HO.out; omega)
          have u2 : decide (x.f0 ≥ x.f1) = false := decide_eq_false (by have := HO.out; omega)
          have u2' : decide (x.f1 ≤ x.f0) = false := decide_eq_false (by have := HO.out; omega)
          have u3 : decide (x.f1 > (code.length : Int)) = false := decide_eq_false (by have := HO.out; omega)
          have u3' : decide ((code.length : Int) < x.f1) = false := decide_eq_false (by have := HO.out; omega)
          have u4 : decide (x.f2 < 0) = false := decide_eq_false (by have := HO.out; omega)
          have u5 : decide (x.f2 ≥ (code.length : Int)) = false := decide_eq_false (by have := HO.out; omega)
          have u5' : decide ((code.length : Int) ≤ x.f2) = false := decide_eq_false (by have := HO.out; omega)
          go_wp2_with (fail)
          go_roundw
          case measure => simp [intOf]; omega
          case rel => exact ⟨i + 1, HIL.out, by first | rfl | go_num, HBW3.out⟩
        · have hin : (hs.length : Int) ≤ (i : Int) := by omega
          have hnn : hs.length = i := by omega
          clear hi hil hB
          subst hnn
          go_upto_region 15 with (fail)
          (try rw [show decide (hs.length < hs.length) = false from decide_eq_false (by omega)])
          clear f4
          go_upto_region 16 with (fail)
          have hlo := HBS.out.below.size
          have hgb0 : BS w (wr.alloc (.cells #[.slice none 0 0, .slice none 0 0, .slice none 0 0, .slice none 0 0, .slice none 0 0] 29)) wr.heap.size cf #[.slice none 0 0, .slice none 0 0, .slice none 0 0, .slice none 0 0, .slice none 0 0] := ⟨blk_below HBS.out.fb (below_alloc (Below.refl _ _) _), blk_below HBS.out.rb (below_alloc (Below.refl _ _) _), World.alloc_heap_new wr _, HBS.out.below.trans ((below_alloc (Below.refl _ _) _).mono hlo), blk_lt HBS.out.rb⟩
          have HG0 := Aside0.mk hgb0
          clear hgb0 hlo HBW HBS HB0
          revert HG0
          generalize wr.alloc (.cells #[.slice none 0 0, .slice none 0 0, .slice none 0 0, .slice none 0 0, .slice none 0 0] 29) = W6
          generalize wr.heap.size = GB
          intro HG0
          have q0 := cell_blk HG0.out.fb HKF.out.1
          have q1 := cell_blk HG0.out.fb HKF.out.2.1
          have q2 := cell_blk HG0.out.fb HKF.out.2.2.1
          have q3 := cell_blk HG0.out.fb HKF.out.2.2.2.1
          have q4 := cell_blk HG0.out.fb HKF.out.2.2.2.2
          go_wp2_with (fail)
          refine (starts_own HG.out HN.out HHN.out (Kd.C_below HC.out HG0.out.below) HC3.out (Kd.C_below HH.out HG0.out.below) HC4.out).mono ?_
          rintro e w7 ⟨As, cs, rfl, hO, hb⟩
          have hsO := own_lt hO
          obtain ⟨i26, hi26, hz260, hz261, hz262⟩ := info_parts info26
          have HI := Aside0.mk hi26
          have HZ0 := Aside0.mk hz260
          have HZ1 := Aside0.mk hz261
          have HZ2 := Aside0.mk hz262
          clear hi26 hz260 hz261 hz262
          have hG7 := HG0.out.from_ hb
          have hlt6 := blk_lt HG0.out.gb
          have g0 := cell_blk hG7.gb (i := 0) rfl
          have fz0 : w7.frozen? ⟨GB, 0, none⟩ = false := by simp [World.frozen?, hG7.gb]
          have HBS8 := Aside0.mk (hG7.set 0 (.slice As n cs))
          have HO8 : Aside0 ((w7.setCell ⟨GB, 0, none⟩ (.slice As n cs)).ownsRow W6.heap.size 3 1 (.slice As n cs) n (st.map (Value.int .i64))) := ⟨own_setLow hO hlt6⟩
          have HGL : Aside0 (GB < W6.heap.size) := ⟨hlt6⟩
          have hs67 : W6.heap.size ≤ (w7.setCell ⟨GB, 0, none⟩ (.slice As n cs)).heap.size := by simpa using hb.size
          clear q0 q1 q2 q3 q4 hsO hO hb hlt6 HG0 hG7
          go_upto_region 17 with (fail)
          clear g0 fz0
          revert HBS8 HO8 hs67
          generalize w7.setCell ⟨GB, 0, none⟩ (.slice As n cs) = W8
          intro HBS8 HO8 hs67
          have hgc8 : ((#[.slice none 0 0, .slice none 0 0, .slice none 0 0, .slice none 0 0, .slice none 0 0] : Array Value).setIfInBounds 0 (.slice As n cs)) = #[.slice As n cs, .slice none 0 0, .slice none 0 0, .slice none 0 0, .slice none 0 0] := rfl
          rw [hgc8] at HBS8
          obtain ⟨B4, hB4⟩ : ∃ B4, W8.heap.size = B4 := ⟨_, rfl⟩
          have HSZ : Aside0 (GB < B4 ∧ W6.heap.size ≤ B4) := ⟨by have := HGL.out; omega⟩
          have HB4 := Aside0.mk hB4
          clear hgc8 hs67 hB4
          go_wp2_with (fail)
          go_loopw [9] (fun v wr => ∃ (b : Nat) (v1 : Value) (vs : List Value), b ≤ n ∧ v = .int .i64 (b : Int) ∧ BS w wr GB cf #[.slice As n cs, v1, .slice none 0 0, .slice none 0 0, .slice none 0 0] ∧ wr.ownsRow B4 26 1 v1 b vs ∧ RR (Value.int .i64) 3 wr B4 vs (nx.take b) ∧ Range.KBut B4 GB W8 wr) (fun v _ => ((n : Int) - intOf v).toNat)
          case atStart => exact ⟨0, _, [], Nat.zero_le _, rfl, HBS8.out, World.ownsRow_nil _ _ _ _, RR.nil _ _, Range.KBut.refl _ _ _⟩
          case round =>
            obtain ⟨b, v1, vs, hbn, rfl, hBS, hO1, hRR, hKB⟩ := hrel
            have HBS := Aside0.mk hBS
            have HO1 := Aside0.mk hO1
            have HRR := Aside0.mk hRR
            have HKB := Aside0.mk hKB
            have hbm : b < 9223372036854775807 := by have := HUP.out; have := HG.out.short; omega
            have g0 := cell_blk hBS.gb (i := 0) rfl
            by_cases hbl : b < n
            · have hbl' : (b : Int) < (n : Int) := by omega
              have HBN := Aside0.mk hbl
              have hA : (Kd.int .i64).C wr As n st := by
                have h := own_but HO8.out (Nat.le_of_eq HB4.out) HGL.out HKB.out
                have hl := HG.out.ln
                rw [← hl] at h ⊢
                exact (row_C h).1
              have HKEEP : Aside0 (∀ W, wr.grownBy W v1.ownBlock → BS w W GB cf #[.slice As n cs, v1, .slice none 0 0, .slice none 0 0, .slice none 0 0] ∧ (Kd.int .i64).C W As n st) := ⟨fun W hg => by
                refine ⟨HBS.out.grown HO1.out HSZ.out.1 (by decide) hg, ?_⟩
                have h := own_but HO8.out (Nat.le_of_eq HB4.out) HGL.out HKB.out
                have h9 := h.kept hg (own_ne h HO1.out (by decide))
                have hl := HG.out.ln
                rw [← hl] at h9 ⊢
                exact (row_C h9).1⟩
              clear hBS hO1 hRR hKB hbn hbl hA
              go_wp2_with (fail)
              rename_i hK
              refine RegInv.region_facts_p (by kernel_rfl) (by kernel_rfl) (fun a b => Below a.heap.size a b) (fun a b => a.grownBy b (v1).ownBlock) (fun a b c h k => wB h k) (fun a b h => ⟨h.os, h.tape, h.output, h.size, fun k hk _ => h.block k hk⟩) (fun a b c h k => h.trans k) (below_drew1 (Below.refl _ _)) dQ20 10 8 (by kernel_rfl) (by kernel_rfl) (by kernel_rfl) (by kernel_rfl) (FQ20 GB b B4 wr.heap.size b (.agg #[.string nm, .int .i64 pa, .int .i64 lo, .slice A3 code.length c3, .slice A4 hs.length c4]) (.slice As n cs) v1 vs (rd_L3 nx (b : Int))) (FQ20_below GB b B4 wr.heap.size b (.agg #[.string nm, .int .i64 pa, .int .i64 lo, .slice A3 code.length c3, .slice A4 hs.length c4]) (.slice As n cs) v1 vs (rd_L3 nx (b : Int))) (FQ20_grown GB b B4 wr.heap.size b (.agg #[.string nm, .int .i64 pa, .int .i64 lo, .slice A3 code.length c3, .slice A4 hs.length c4]) (.slice As n cs) v1 vs (rd_L3 nx (b : Int))) ?hsQ20 ?heQ20
              case hsQ20 =>
                clear hK
                intro i o aX w8 hltI hi hM
                obtain ⟨hBS8, hA8⟩ := HKEEP.out w8 hM.ext
                have q0 := cell_blk hBS8.fb HKF.out.1
                have q1 := cell_blk hBS8.fb HKF.out.2.1
                have q2 := cell_blk hBS8.fb HKF.out.2.2.1
                have q3 := cell_blk hBS8.fb HKF.out.2.2.2.1
                have q4 := cell_blk hBS8.fb HKF.out.2.2.2.2
                have g0 := cell_blk hBS8.gb (i := 0) rfl
                have g1 := cell_blk hBS8.gb (i := 1) rfl
                rcases i with _ | _ | _ | _ | _ | _ | _ | _ | _ | _ | i
                · cases hi
                  have h8 := gdq _ _ _ (show aX.tmps.getD 8 undef = .pointer (some ⟨GB, 0, none⟩) from hM.off 8 (by kernel_rfl))
                  refine RegInv.op_value (by rfl) rfl (v := .pointer (some ⟨GB, 1, none⟩)) (w' := w8) ?_ ⟨_, rfl, rfl, grown_refl _ _, fun _ => Below.refl _ _⟩
                  unfold execOp
                  go_simp
                · cases hi
                  have h103 := gdq _ _ _ (show aX.tmps.getD 103 undef = .pointer (some ⟨GB, 1, none⟩) from hM.at_ 0 (by decide) (by kernel_rfl))
                  refine RegInv.op_value (by rfl) rfl (v := v1) (w' := w8) ?_ ⟨_, rfl, rfl, grown_refl _ _, fun _ => Below.refl _ _⟩
                  unfold execOp
                  go_simp
                · cases hi
                  have h1 := gdq _ _ _ (show aX.tmps.getD 1 undef = .pointer (some ⟨w.heap.size, 0, none⟩) from hM.off 1 (by kernel_rfl))
                  refine RegInv.op_value (by rfl) rfl (v := .agg #[.string nm, .int .i64 pa, .int .i64 lo, .slice A3 code.length c3, .slice A4 hs.length c4]) (w' := w8) ?_ ⟨_, rfl, rfl, grown_refl _ _, fun _ => Below.refl _ _⟩
                  unfold execOp
                  go_simp
                · cases hi
                  have h8 := gdq _ _ _ (show aX.tmps.getD 8 undef = .pointer (some ⟨GB, 0, none⟩) from hM.off 8 (by kernel_rfl))
                  refine RegInv.op_value (by rfl) rfl (v := .pointer (some ⟨GB, 0, none⟩)) (w' := w8) ?_ ⟨_, rfl, rfl, grown_refl _ _, fun _ => Below.refl _ _⟩
                  unfold execOp
                  go_simp
                · cases hi
                  have h106 := gdq _ _ _ (show aX.tmps.getD 106 undef = .pointer (some ⟨GB, 0, none⟩) from hM.at_ 3 (by decide) (by kernel_rfl))
                  refine RegInv.op_value (by rfl) rfl (v := .slice As n cs) (w' := w8) ?_ ⟨_, rfl, rfl, grown_refl _ _, fun _ => Below.refl _ _⟩
                  unfold execOp
                  go_simp
                · cases hi
                  have h9 := gdq _ _ _ (show aX.tmps.getD 9 undef = .int .i64 (b : Int) from hM.off 9 (by kernel_rfl))
                  refine RegInv.op_value (by rfl) rfl (v := .int .i64 (b : Int)) (w' := w8) ?_ ⟨_, rfl, rfl, grown_refl _ _, fun _ => Below.refl _ _⟩
                  unfold execOp
                  go_simp
                · cases hi
                  have h105 := gdq _ _ _ (show aX.tmps.getD 105 undef = .agg #[.string nm, .int .i64 pa, .int .i64 lo, .slice A3 code.length c3, .slice A4 hs.length c4] from hM.at_ 2 (by decide) (by kernel_rfl))
                  have h107 := gdq _ _ _ (show aX.tmps.getD 107 undef = .slice As n cs from hM.at_ 4 (by decide) (by kernel_rfl))
                  have h108 := gdq _ _ _ (show aX.tmps.getD 108 undef = .int .i64 (b : Int) from hM.at_ 5 (by decide) (by kernel_rfl))
                  refine RegInv.op_call (by rfl) rfl Try.func37 (by kernel_rfl) rfl rfl #[.agg #[.string nm, .int .i64 pa, .int .i64 lo, .slice A3 code.length c3, .slice A4 hs.length c4], .slice As n cs, .int .i64 (b : Int)] (by simp [Act.eval, h105, h107, h108]) ?_
                  refine (behind_own HG.out hA8 HBN.out HN.out HHN.out (Kd.C_below HC.out hBS8.below) HC3.out (Kd.C_below HH.out hBS8.below) HC4.out).mono ?_
                  rintro e w9 ⟨A9, c9, rfl, hO9, b9⟩
                  exact ⟨_, rfl, _, rfl, ⟨A9, c9, rfl, own_weaken hO9 hM.ext.size, fun k hk hk2 => absurd (own_base hO9 k hk) (by have := own_lt HO1.out k hk2; have := hM.ext.size; omega)⟩, ⟨(b9).os, (b9).tape, (b9).output, (b9).size, fun k hk _ => (b9).block k hk⟩, fun _ => b9⟩
                · cases hi
                  have h6 : OwnI wr.heap.size v1 (rd_L3 nx (b : Int)) w8 (aX.tmps.getD 109 undef) := hM.at_ 6 (by decide) (by kernel_rfl)
                  obtain ⟨A9, c9, e9, hO9, hA9⟩ := id h6
                  have h109 := gdq _ _ _ e9
                  rw [e9] at h6
                  have hgv : v1.ownBlock ≠ some w8.heap.size := fun e => by have := own_lt HO1.out _ e; have := hM.ext.size; omega
                  refine RegInv.op_value (by rfl) rfl (v := .slice (some ⟨w8.heap.size, 0, none⟩) 1 1) (w' := w8.alloc (.cells #[.slice A9 (rd_L3 nx (b : Int)).length c9] 26)) ?_ ⟨_, rfl, ⟨w8.heap.size, _, rfl, cell_one_new w8 (.slice A9 (rd_L3 nx (b : Int)).length c9) 26 0 _ rfl, hgv, h6.below (below_alloc (Below.refl _ _) _)⟩, World.grownBy_alloc _ _ _, fun _ => below_alloc (Below.refl _ _) _⟩
                  unfold execOp
                  go_simp
                · cases hi
                  obtain ⟨gN, u8, h7, c7, hgN, hI7⟩ : ∃ g u, aX.tmps.getD 110 undef = .slice (some ⟨g, 0, none⟩) 1 1 ∧ w8.cell? ⟨g, 0, none⟩ = some u ∧ v1.ownBlock ≠ some g ∧ OwnI wr.heap.size v1 (rd_L3 nx (b : Int)) w8 u := hM.at_ 7 (by decide) (by kernel_rfl)
                  have h1 : aX.tmps.getD 104 undef = v1 := hM.at_ 1 (by decide) (by kernel_rfl)
                  have hb8 := hM.exts rfl
                  have hrow : w8.ownsRow B4 26 1 v1 b vs := own_move HO1.out fun k hk => hb8.block k (own_lt HO1.out k hk)
                  have hone : ∀ u ∈ [u8], u.oneCell' = true := by obtain ⟨A9, c9, rfl, _⟩ := id hI7; simp [Value.oneCell']
                  have hs1 := HSZ.out
                  have hs5 := HKB.out.1
                  have hs6 := HB4.out
                  have hs2 := HUP.out
                  have hs3 := HBN.out
                  have hs4 := HG.out.short
                  refine op_append_own (by rfl) rfl (.tmp 104) (.tmp 110) 27 rfl B4 26 i26 (.slice none 0 0) 1 24 Try.underlying27 HI.out HZ0.out HZ1.out HZ2.out rfl (by decide) _ _ _ h1 hrow ⟨gN, 0, none⟩ 1 1 [u8] h7 rfl (fun j u hj => ?_) hone (by unfold maxLen; omega) (by omega) (by have := hb8.size; omega) ?_
                  · match j, hj with
                    | 0, hj =>
                      simp at hj
                      subst hj
                      exact c7
                  · intro v9 w9 hown9 hgrow9 hat9
                    refine ⟨v9, rfl, ⟨_, hI7.grown hgrow9, hown9, ?_⟩, hgrow9, fun h => absurd rfl h⟩
                    rcases hat9 with e | e
                    · exact .inl e
                    · exact .inr ⟨_, e, hb8.size⟩
                · cases hi
                  have h8 := gdq _ _ _ (show aX.tmps.getD 8 undef = .pointer (some ⟨GB, 0, none⟩) from hM.off 8 (by kernel_rfl))
                  refine RegInv.op_value (by rfl) rfl (v := .pointer (some ⟨GB, 1, none⟩)) (w' := w8) ?_ ⟨_, rfl, rfl, grown_refl _ _, fun _ => Below.refl _ _⟩
                  unfold execOp
                  go_simp
                · exact absurd hltI (by omega)
              case heQ20 =>
                intro vx w8 hx hvx
                have y0 : vx 0 = .pointer (some ⟨GB, 1, none⟩) := hvx 0 (by decide)
                have y1 : vx 1 = v1 := hvx 1 (by decide)
                have y2 : vx 2 = .agg #[.string nm, .int .i64 pa, .int .i64 lo, .slice A3 code.length c3, .slice A4 hs.length c4] := hvx 2 (by decide)
                have y3 : vx 3 = .pointer (some ⟨GB, 0, none⟩) := hvx 3 (by decide)
                have y4 : vx 4 = .slice As n cs := hvx 4 (by decide)
                have y5 : vx 5 = .int .i64 (b : Int) := hvx 5 (by decide)
                have r6 := hvx 6 (by decide)
                simp only [FQ20, dQ20] at r6
                obtain ⟨z6, hz6⟩ : ∃ z, vx 6 = z := ⟨_, rfl⟩
                rw [hz6] at r6
                have r7 := hvx 7 (by decide)
                simp only [FQ20, dQ20] at r7
                obtain ⟨z7, hz7⟩ : ∃ z, vx 7 = z := ⟨_, rfl⟩
                rw [hz7] at r7
                have r8 := hvx 8 (by decide)
                simp only [FQ20, dQ20] at r8
                obtain ⟨z8, hz8⟩ : ∃ z, vx 8 = z := ⟨_, rfl⟩
                rw [hz8] at r8
                have y9 : vx 9 = .pointer (some ⟨GB, 1, none⟩) := hvx 9 (by decide)
                simp only [RegInv.puts, dQ20, Act.put, List.range, List.range.loop, List.setIfInBounds_toArray, List.set_cons_zero, List.set_cons_succ, y0, y1, y2, y3, y4, y5, hz6, hz7, hz8, y9]
                clear hvx y0 y1 y2 y3 y4 y5 hz6 hz7 hz8 y9
                obtain ⟨u9, hI9, hrow9, hat9⟩ := r8
                obtain ⟨gv, cv, rfl⟩ := ownsRow_succ hrow9
                have hBS9 := (HKEEP.out w8 hx).1
                have q1 := cell_blk hBS9.gb (i := 1) rfl
                have fz1 : w8.frozen? ⟨GB, 1, none⟩ = false := by simp [World.frozen?, hBS9.gb]
                have HBS9 := Aside0.mk (hBS9.set 1 (.slice (some ⟨gv, 0, none⟩) (b + 1) cv))
                have HO9 := Aside0.mk (own_setLow (j := 1) (u := .slice (some ⟨gv, 0, none⟩) (b + 1) cv) hrow9 HSZ.out.1)
                have HRR9 : Aside0 (RR (Value.int .i64) 3 (w8.setCell ⟨GB, 1, none⟩ (.slice (some ⟨gv, 0, none⟩) (b + 1) cv)) B4 (vs ++ [u9]) (nx.take (b + 1))) := ⟨by
                  have htk : nx.take (b + 1) = nx.take b ++ [rd_L3 nx (b : Int)] := by
                    have hbx : b < nx.length := by rw [HG.out.lnx]; exact HBN.out
                    rw [List.take_add_one, List.getElem?_eq_getElem hbx]
                    show _ = nx.take b ++ [nx.getD ((b : Int).toNat) []]
                    rw [Int.toNat_natCast, List.getD_eq_getElem?_getD, List.getElem?_eq_getElem hbx]; rfl
                  obtain ⟨A9, c9, rfl, hO9, _⟩ := hI9
                  rw [htk]
                  exact ((HRR.out.kept HO1.out (by decide) hx).more (own_weaken hO9 (by have := HKB.out.1; have := HB4.out; omega))).setLow HSZ.out.1⟩
                have HKB9 := Aside0.mk ((but_grown HKB.out HO1.out hx (Nat.le_of_eq HB4.out.symm)).set 1 (.slice (some ⟨gv, 0, none⟩) (b + 1) cv))
                refine RegInv.op_skip (w' := w8.setCell ⟨GB, 1, none⟩ (.slice (some ⟨gv, 0, none⟩) (b + 1) cv)) (by rfl) rfl ?_ ?_
                · unfold execOp
                  go_simp
                · refine hK _ _ ?_
                  simp only [Act.put, List.getElem_toArray, List.getElem_cons_succ, List.getElem_cons_zero]
                  clear hK hx r6 r7 hI9 hrow9 hat9 hBS9 q1 fz1 g0
                  go_wp2_with (fail)
                  go_roundw
                  case measure => simp [intOf]; omega
                  case rel => exact ⟨b + 1, _, _, HBN.out, by first | rfl | go_num, HBS9.out, HO9.out, HRR9.out, HKB9.out⟩
            · have hnb : n = b := by omega
              subst hnb
              have hbl' : (n : Int) ≤ (n : Int) := by omega
              obtain ⟨A1, c1, rfl⟩ := row_slice hO1
              have hnx : nx.take n = nx := by rw [← HG.out.lnx]; exact List.take_length
              rw [hnx] at hRR HRR
              have hC1 := hRR.C_int hO1 HG.out.lnx (by omega) HG.out.pos
              have hord := orderR_own (d1 := c1) HG.out.wf HG.out.lnx (by have := HUP.out; have := HG.out.short; omega) HG.out.nb_len hC1
              rw [← HG.out.orde, HG.out.lord] at hord
              have g1 := cell_blk hBS.gb (i := 1) rfl
              clear hbn hbl hBS hO1 hRR hKB hnx hC1
              go_wp2_with (fail)
              (try rw [show decide (n < n) = false from decide_eq_false (by omega)])
              refine hord.mono ?_
              rintro e w9 ⟨A2, c2, rfl, hO2, hb9⟩
              have hBS9 := HBS.out.from_ hb9
              have q2 := cell_blk hBS9.gb (i := 2) rfl
              have fz2 : w9.frozen? ⟨GB, 2, none⟩ = false := by simp [World.frozen?, hBS9.gb]
              have HBS10 := Aside0.mk (hBS9.set 2 (.slice A2 n c2))
              have HRQ10 : Aside0 (RQ (w9.setCell ⟨GB, 2, none⟩ (.slice A2 n c2)) W6.heap.size n st nx ord As A1 A2 cs c1 c2 vs) := ⟨by
                have hs1 := HSZ.out
                have hs2 := HKB.out.1
                have hs3 := HB4.out
                have h0 := own_but HO8.out (Nat.le_of_eq HB4.out) HGL.out HKB.out
                refine ⟨own_setLow (own_move h0 fun k hk => hb9.block k (own_lt h0 k hk)) HGL.out, own_setLow (own_weaken (own_move HO1.out fun k hk => hb9.block k (own_lt HO1.out k hk)) hs1.2) HGL.out, ((HRR.out.below hb9).weaken hs1.2).setLow HGL.out, own_setLow (own_weaken hO2 (by omega)) HGL.out⟩⟩
              clear g0 g1 hord hO2 hb9 hBS9 HBS HO1 HRR HKB HO8 HBS8 hbl' hbm HI HZ0 HZ1 HZ2
              go_upto_region 22 with (fail)
              have hgc10 : ((#[.slice As n cs, .slice A1 n c1, .slice none 0 0, .slice none 0 0, .slice none 0 0] : Array Value).setIfInBounds 2 (.slice A2 n c2)) = #[.slice As n cs, .slice A1 n c1, .slice A2 n c2, .slice none 0 0, .slice none 0 0] := rfl
              rw [hgc10] at HBS10
              revert HBS10 HRQ10
              generalize w9.setCell ⟨GB, 2, none⟩ (.slice A2 n c2) = W10
              intro HBS10 HRQ10
              have g0 := cell_blk HBS10.out.gb (i := 0) rfl
              have g1 := cell_blk HBS10.out.gb (i := 1) rfl
              have hC1 := HRQ10.out.r.C_int HRQ10.out.o HG.out.lnx (by have := HUP.out; have := HG.out.short; omega) HG.out.pos
              have hrea := reachedR_own (d1 := c1) (d := -1) HG.out.wf HG.out.lnx (by have := HUP.out; have := HG.out.short; omega) HG.out.nb_len hC1
              clear q2 fz2 hgc10 hC1
              go_wp2_with (fail)
              refine hrea.mono ?_
              rintro e w12 ⟨A6, c6, all, rfl, hO6, hl6, hm6, hb12⟩
              have HO6 := Aside0.mk hO6
              have HL6 := Aside0.mk hl6
              have HM6 : Aside0 (∀ x : Nat, x < n → (rdOf false all (x : Int) = true ↔ (x : Int) ∈ post nx)) := ⟨fun x hx => by
                have := hm6 x hx
                rw [post_ar HG.out.wf] at this
                rw [rdOf, Int.toNat_natCast]; exact this⟩
              have HBS12 := Aside0.mk (HBS10.out.from_ hb12)
              have HRQ12 : Aside0 (RQ w12 W6.heap.size n st nx ord As A1 A2 cs c1 c2 vs) := ⟨HRQ10.out.but (Nat.le_refl _) HGL.out (Range.KBut.of_below hb12)⟩
              have h10 : GB < W10.heap.size := blk_lt HBS10.out.gb
              have HLO10 := Aside0.mk h10
              obtain ⟨B12, hB12⟩ : ∃ B12, w12.heap.size = B12 := ⟨_, rfl⟩
              have HB12 := Aside0.mk hB12
              have HS1012 := Aside0.mk hb12.size
              have HNN : Aside0 (n ≤ 8796093022207) := ⟨by have := HUP.out; have := HG.out.short; omega⟩
              clear hrea hO6 hl6 hm6 hb12 h10 hB12 g0 g1 HBS10 HRQ10
              go_wp2_with (fail)
              obtain ⟨i5, hi5, hz50, hz51, hz52⟩ := info_parts info53
              have HI := Aside0.mk hi5
              have HZ0 := Aside0.mk hz50
              have HZ1 := Aside0.mk hz51
              have HZ2 := Aside0.mk hz52
              clear hi5 hz50 hz51 hz52
              go_loopw [11, 12] (fun v7 i wr => ∃ (k : Nat) (vs7 : List Value) (cuts : List (List Bool)), k ≤ n ∧ i = .int .i64 (k : Int) ∧ wr.ownsRow B12 53 1 v7 k vs7 ∧ RR Value.bool 4 wr B12 vs7 cuts ∧ cuts.length = k ∧ (∀ a : Nat, a < k → (cuts.getD a []).length = n ∧ ∀ x : Nat, x < n → ((cuts.getD a []).getD x false = true ↔ AR (Ex nx) (a : Int) (x : Int))) ∧ Below w12.heap.size w12 wr) (fun _ i _ => ((n : Int) - intOf i).toNat)
              case atStart => exact ⟨0, [], [], Nat.zero_le _, rfl, World.ownsRow_nil _ _ _ _, RR.nil _ _, rfl, fun a ha => absurd ha (Nat.not_lt_zero _), Below.refl _ _⟩
              case round =>
                obtain ⟨k, vs7, cuts, hk, rfl, hO7, hR7, hl7, hm7, hB⟩ := hrel
                have HO7 := Aside0.mk hO7
                have HR7 := Aside0.mk hR7
                have HL7 := Aside0.mk hl7
                have HM7 := Aside0.mk hm7
                have HBW := Aside0.mk hB
                have HBS := Aside0.mk (HBS12.out.from_ hB)
                have hkm : k < 9223372036854775807 := by have := HNN.out; omega
                have g0 := cell_blk HBS.out.gb (i := 0) rfl
                by_cases hkn : k < n
                · have hkn' : (k : Int) < (n : Int) := by omega
                  have HKN := Aside0.mk hkn
                  have hRQ := HRQ12.out.but (Nat.le_refl _) HGL.out (Range.KBut.of_below (g := GB) hB)
                  have hC1 := hRQ.r.C_int hRQ.o HG.out.lnx (by have := HNN.out; omega) HG.out.pos
                  have hrea := reachedR_own (d1 := c1) (d := (k : Int)) HG.out.wf HG.out.lnx HNN.out HG.out.nb_len hC1
                  have g1 := cell_blk HBS.out.gb (i := 1) rfl
                  obtain ⟨A7, c7, rfl⟩ := row_slice hO7
                  clear hk hkn hO7 hR7 hl7 hm7 hB hRQ hC1
                  go_wp2_with (fail)
                  refine hrea.mono ?_
                  rintro e w3 ⟨A9, c9, is, rfl, hO9, hl9, hm9, hb3⟩
                  have HO73 : Aside0 (w3.ownsRow B12 53 1 (.slice A7 k c7) k vs7) := ⟨own_move HO7.out fun k hk => hb3.block k (own_lt HO7.out k hk)⟩
                  have HR73 := Aside0.mk (HR7.out.below hb3)
                  have HO9 : Aside0 (w3.ownsRow B12 4 1 (.slice A9 n c9) n (is.map Value.bool)) := ⟨own_weaken hO9 (by have := HBW.out.size; have := HB12.out; omega)⟩
                  have HL9 := Aside0.mk hl9
                  have HM9 := Aside0.mk hm9
                  have HB3 := Aside0.mk (HBW.out.trans (hb3.mono HBW.out.size))
                  clear hrea hO9 hl9 hm9 hb3 g0 g1 HBS HO7 HR7 HBW
                  go_wp2_with (first | (at_builtin; refine wpList_append_own _ rfl _ _ 55 rfl B12 53 i5 (.slice none 0 0) 1 24 Try.underlying55 HI.out HZ0.out HZ1.out HZ2.out rfl (by decide) _ _ _ rfl (World.ownsRow.alloc HO73.out _) ⟨w3.heap.size, 0, none⟩ 1 1 [.slice A9 n c9] rfl rfl (cell_one_new _ _ _) (by simp [Value.oneCell']) (by have := HNN.out; have := HKN.out; unfold maxLen; omega) (by have := HUP.out; have := HG.out.short; have := HKN.out; omega) (by rw [World.size_alloc]; have := HB3.out.size; have := HB12.out; omega) ?_; intro v9 w9 hown9 hgrow9 _; refine Classical.byContradiction (fun hcon => ?hst)) | go_in)
                  refine hcon ?_
                  have hg9 := (World.grownBy_alloc w3 (.cells #[.slice A9 n c9] 53) (Value.slice A7 k c7).ownBlock).trans hgrow9
                  have HO79 := Aside0.mk hown9
                  have HR79 : Aside0 (RR Value.bool 4 w9 B12 (vs7 ++ [.slice A9 n c9]) (cuts ++ [is])) := ⟨by
                    have h9 := HO9.out.kept hg9 (own_ne HO9.out HO73.out (by decide))
                    refine (HR73.out.kept HO73.out (by decide) hg9).more ?_
                    rw [HL9.out]; exact h9⟩
                  have HL79 : Aside0 ((cuts ++ [is]).length = k + 1) := ⟨by rw [List.length_append, HL7.out]; rfl⟩
                  have HM79 : Aside0 (∀ a : Nat, a < k + 1 → ((cuts ++ [is]).getD a []).length = n ∧ ∀ x : Nat, x < n → (((cuts ++ [is]).getD a []).getD x false = true ↔ AR (Ex nx) (a : Int) (x : Int))) := ⟨fun a ha => by
                    by_cases hak : a < k
                    · have e : (cuts ++ [is]).getD a [] = cuts.getD a [] := by rw [List.getD_eq_getElem?_getD, List.getD_eq_getElem?_getD, List.getElem?_append_left (by rw [HL7.out]; exact hak)]
                      rw [e]; exact HM7.out a hak
                    · have e0 : a = k := by omega
                      subst e0
                      have e : (cuts ++ [is]).getD a [] = is := by rw [List.getD_eq_getElem?_getD, List.getElem?_append_right (by rw [HL7.out]; exact Nat.le_refl _), HL7.out, Nat.sub_self]; rfl
                      rw [e]; exact ⟨HL9.out, HM9.out⟩⟩
                  have HB9 : Aside0 (Below w12.heap.size w12 w9) := ⟨HB3.out.grown hg9 HB3.out.size (fun j e => by have := own_base HO73.out j e; have := HB12.out; omega)⟩
                  clear hown9 hgrow9 hcon hg9 HO73 HR73 HB3 HO9 HL9 HM9
                  go_wp2_with (fail)
                  go_roundw
                  case measure => simp [intOf]; omega
                  case rel => exact ⟨k + 1, _, _, HKN.out, by first | rfl | go_num, HO79.out, HR79.out, HL79.out, HM79.out, HB9.out⟩
                · have hkk : n = k := by omega
                  subst hkk
                  have hkn' : (n : Int) ≤ (n : Int) := by omega
                  obtain ⟨A7, c7, rfl⟩ := row_slice hO7
                  have HM7 : Aside0 (∀ a : Nat, a < n → (rd_L5 cuts (a : Int)).length = n ∧ ∀ x : Nat, x < n → (rdOf false (rd_L5 cuts (a : Int)) (x : Int) = true ↔ AR (Ex nx) (a : Int) (x : Int))) := ⟨fun a ha => by
                    have h := hm7 a ha
                    have e : rd_L5 cuts (a : Int) = cuts.getD a [] := by rw [rd_L5, Int.toNat_natCast]
                    rw [e]
                    refine ⟨h.1, fun x hx => ?_⟩
                    have := h.2 x hx
                    rw [rdOf, Int.toNat_natCast]; exact this⟩
                  have HRQ : Aside0 (RQ wr W6.heap.size n st nx ord As A1 A2 cs c1 c2 vs) := ⟨HRQ12.out.but (Nat.le_refl _) HGL.out (Range.KBut.of_below hB)⟩
                  have HBW13 : Aside0 (B12 ≤ wr.heap.size) := ⟨by have := hB.size; have := HB12.out; omega⟩
                  have HO6 : Aside0 (wr.ownsRow W10.heap.size 4 1 (.slice A6 n c6) n (all.map Value.bool)) := ⟨own_move HO6.out fun k hk => hB.block k (own_lt HO6.out k hk)⟩
                  have HLO12 : Aside0 (GB < B12) := ⟨by have := HLO10.out; have := HB12.out; have := HS1012.out; omega⟩
                  clear hk hkn hO7 hR7 hl7 hm7 hB HBW HRQ12 HBS12
                  go_wp2_with (fail)
                  (try rw [show decide (n < n) = false from decide_eq_false (by omega)])
                  clear g0 HI HZ0 HZ1 HZ2
                  obtain ⟨i3, hi3, hz30, hz31, hz32⟩ := info_parts info3
                  have HI3 := Aside0.mk hi3
                  have HZ30 := Aside0.mk hz30
                  have HZ31 := Aside0.mk hz31
                  have HZ32 := Aside0.mk hz32
                  clear hi3 hz30 hz31 hz32
                  have HO7Z := HO7
                  have HR7Z := HR7
                  have HBSZ := HBS
                  have HRQZ := HRQ
                  have HO6Z := HO6
                  clear HO7 HR7 HBS HRQ HO6
                  revert HO7Z HR7Z HBSZ HRQZ HO6Z HBW13
                  generalize hwz : wr = W13
                  intro HBW13 HO7Z HR7Z HBSZ HRQZ HO6Z
                  clear hwz
                  obtain ⟨B13, hB13⟩ : ∃ B13, W13.heap.size = B13 := ⟨_, rfl⟩
                  have HSZ13 := Aside0.mk hB13
                  clear hB13
                  go_loopw [13] (fun v wr => ∃ (b : Nat) (v3 : Value), b ≤ n ∧ v = .int .i64 (b : Int) ∧ BS w wr GB cf #[.slice As n cs, .slice A1 n c1, .slice A2 n c2, v3, .slice none 0 0] ∧ wr.ownsRow B13 3 1 v3 b ((l.take b).map (Value.int .i64)) ∧ Range.KBut B13 GB W13 wr) (fun v _ => ((n : Int) - intOf v).toNat)
                  case atStart => exact ⟨0, _, Nat.zero_le _, rfl, HBSZ.out, World.ownsRow_nil _ _ _ _, Range.KBut.refl _ _ _⟩
                  case round =>
                    obtain ⟨b, v3, hbn, rfl, hBS, hO3, hKB⟩ := hrel
                    have HBS := Aside0.mk hBS
                    have HO3 := Aside0.mk hO3
                    have HKB := Aside0.mk hKB
                    have hbm : b < 9223372036854775807 := by have := HNN.out; omega
                    have g0 := cell_blk hBS.gb (i := 0) rfl
                    by_cases hbl : b < n
                    · have hbl' : (b : Int) < (n : Int) := by omega
                      have HBN := Aside0.mk hbl
                      have HKEEP : Aside0 (∀ W, wr.grownBy W v3.ownBlock → BS w W GB cf #[.slice As n cs, .slice A1 n c1, .slice A2 n c2, v3, .slice none 0 0] ∧ Kd.bool.C W A6 n all ∧ (Kd.slice 4 Kd.bool).C W A7 n cuts) := ⟨fun W hg => by
                        have hgb : GB < B13 := by have := blk_lt HBSZ.out.gb; have := HSZ13.out; omega
                        have hk := but_grown HKB.out HO3.out hg (Nat.le_of_eq HSZ13.out.symm)
                        refine ⟨HBS.out.grown HO3.out hgb (by decide) hg, ?_, ?_⟩
                        · have h := own_but HO6Z.out (Nat.le_of_eq HSZ13.out) HLO10.out hk
                          have hl := HL6.out
                          rw [← hl] at h ⊢
                          exact (row_Cb2 h).1
                        · exact (HR7Z.out.but (Nat.le_of_eq HSZ13.out) HLO12.out hk).C_bool (own_but HO7Z.out (Nat.le_of_eq HSZ13.out) HLO12.out hk) HL7.out (by have := HNN.out; omega) HG.out.pos⟩
                      clear hBS hO3 hKB hbn hbl
                      go_wp2_with (fail)
                      rename_i hK
                      refine RegInv.region_facts_p (by kernel_rfl) (by kernel_rfl) (fun a b => Below a.heap.size a b) (fun a b => a.grownBy b (v3).ownBlock) (fun a b c h k => wB h k) (fun a b h => ⟨h.os, h.tape, h.output, h.size, fun k hk _ => h.block k hk⟩) (fun a b c h k => h.trans k) (below_drew1 (Below.refl _ _)) dQ31 9 7 (by kernel_rfl) (by kernel_rfl) (by kernel_rfl) (by kernel_rfl) (FQ31 GB b B13 wr.heap.size b (.slice A6 n c6) (.slice A7 n c7) v3 (rd l (b : Int)) ((l.take b).map (Value.int .i64))) (FQ31_below GB b B13 wr.heap.size b (.slice A6 n c6) (.slice A7 n c7) v3 (rd l (b : Int)) ((l.take b).map (Value.int .i64))) (FQ31_grown GB b B13 wr.heap.size b (.slice A6 n c6) (.slice A7 n c7) v3 (rd l (b : Int)) ((l.take b).map (Value.int .i64))) ?hsQ31 ?heQ31
                      case hsQ31 =>
                        clear hK
                        intro i o aX w8 hltI hi hM
                        obtain ⟨hBS8, h68, h78⟩ := HKEEP.out w8 hM.ext
                        have g0 := cell_blk hBS8.gb (i := 0) rfl
                        have g3 := cell_blk hBS8.gb (i := 3) rfl
                        rcases i with _ | _ | _ | _ | _ | _ | _ | _ | _ | i
                        · cases hi
                          have h8 := gdq _ _ _ (show aX.tmps.getD 8 undef = .pointer (some ⟨GB, 0, none⟩) from hM.off 8 (by kernel_rfl))
                          refine RegInv.op_value (by rfl) rfl (v := .pointer (some ⟨GB, 3, none⟩)) (w' := w8) ?_ ⟨_, rfl, rfl, grown_refl _ _, fun _ => Below.refl _ _⟩
                          unfold execOp
                          go_simp
                        · cases hi
                          have h141 := gdq _ _ _ (show aX.tmps.getD 141 undef = .pointer (some ⟨GB, 3, none⟩) from hM.at_ 0 (by decide) (by kernel_rfl))
                          refine RegInv.op_value (by rfl) rfl (v := v3) (w' := w8) ?_ ⟨_, rfl, rfl, grown_refl _ _, fun _ => Below.refl _ _⟩
                          unfold execOp
                          go_simp
                        · cases hi
                          have h10 := gdq _ _ _ (show aX.tmps.getD 10 undef = .slice A6 n c6 from hM.off 10 (by kernel_rfl))
                          refine RegInv.op_value (by rfl) rfl (v := .slice A6 n c6) (w' := w8) ?_ ⟨_, rfl, rfl, grown_refl _ _, fun _ => Below.refl _ _⟩
                          unfold execOp
                          go_simp
                        · cases hi
                          have h11 := gdq _ _ _ (show aX.tmps.getD 11 undef = .slice A7 n c7 from hM.off 11 (by kernel_rfl))
                          refine RegInv.op_value (by rfl) rfl (v := .slice A7 n c7) (w' := w8) ?_ ⟨_, rfl, rfl, grown_refl _ _, fun _ => Below.refl _ _⟩
                          unfold execOp
                          go_simp
                        · cases hi
                          have h13 := gdq _ _ _ (show aX.tmps.getD 13 undef = .int .i64 (b : Int) from hM.off 13 (by kernel_rfl))
                          refine RegInv.op_value (by rfl) rfl (v := .int .i64 (b : Int)) (w' := w8) ?_ ⟨_, rfl, rfl, grown_refl _ _, fun _ => Below.refl _ _⟩
                          unfold execOp
                          go_simp
                        · cases hi
                          have h143 := gdq _ _ _ (show aX.tmps.getD 143 undef = .slice A6 n c6 from hM.at_ 2 (by decide) (by kernel_rfl))
                          have h144 := gdq _ _ _ (show aX.tmps.getD 144 undef = .slice A7 n c7 from hM.at_ 3 (by decide) (by kernel_rfl))
                          have h145 := gdq _ _ _ (show aX.tmps.getD 145 undef = .int .i64 (b : Int) from hM.at_ 4 (by decide) (by kernel_rfl))
                          refine RegInv.op_call (by rfl) rfl Try.func40 (by kernel_rfl) rfl rfl #[.slice A6 n c6, .slice A7 n c7, .int .i64 (b : Int)] (by simp [Act.eval, h143, h144, h145]) ?_
                          refine (idomR_own HG.out HNN.out HBN.out h68 HM6.out h78 HM7.out).mono ?_
                          rintro e w9 ⟨rfl, b9⟩
                          exact ⟨_, rfl, _, rfl, rfl, ⟨(b9).os, (b9).tape, (b9).output, (b9).size, fun k hk _ => (b9).block k hk⟩, fun _ => b9⟩
                        · cases hi
                          have h146 := gdq _ _ _ (show aX.tmps.getD 146 undef = .int .i64 (rd l (b : Int)) from hM.at_ 5 (by decide) (by kernel_rfl))
                          have hgv : v3.ownBlock ≠ some w8.heap.size := fun e => by have := own_lt HO3.out _ e; have := hM.ext.size; omega
                          refine RegInv.op_value (by rfl) rfl (v := .slice (some ⟨w8.heap.size, 0, none⟩) 1 1) (w' := w8.alloc (.cells #[.int .i64 (rd l (b : Int))] 3)) ?_ ⟨_, rfl, ⟨w8.heap.size, rfl, cell_one_new w8 (.int .i64 (rd l (b : Int))) 3 0 _ rfl, hgv⟩, World.grownBy_alloc _ _ _, fun _ => below_alloc (Below.refl _ _) _⟩
                          unfold execOp
                          go_simp
                        · cases hi
                          obtain ⟨gN, h7, c9, hgN⟩ : ∃ g, aX.tmps.getD 147 undef = .slice (some ⟨g, 0, none⟩) 1 1 ∧ w8.cell? ⟨g, 0, none⟩ = some (.int .i64 (rd l (b : Int))) ∧ v3.ownBlock ≠ some g := hM.at_ 6 (by decide) (by kernel_rfl)
                          have h1 : aX.tmps.getD 142 undef = v3 := hM.at_ 1 (by decide) (by kernel_rfl)
                          have hb8 := hM.exts rfl
                          have hrow : w8.ownsRow B13 3 1 v3 b ((l.take b).map (Value.int .i64)) := own_move HO3.out fun k hk => hb8.block k (own_lt HO3.out k hk)
                          have hs1 := HSZ13.out
                          have hs5 := HKB.out.1
                          have hs2 := HUP.out
                          have hs3 := HBN.out
                          have hs4 := HG.out.short
                          refine op_append_own (by rfl) rfl (.tmp 142) (.tmp 147) 26 rfl B13 3 i3 (.int .i64 0) 1 8 Try.underlying26 HI3.out HZ30.out HZ31.out HZ32.out rfl (by decide) _ _ _ h1 hrow ⟨gN, 0, none⟩ 1 1 [.int .i64 (rd l (b : Int))] h7 rfl (fun j u hj => ?_) (by simp [Value.oneCell']) (by unfold maxLen; omega) (by omega) (by have := hb8.size; omega) ?_
                          · match j, hj with
                            | 0, hj =>
                              simp at hj
                              subst hj
                              exact c9
                          · intro v9 w9 hown9 hgrow9 hat9
                            refine ⟨v9, rfl, ⟨hown9, ?_⟩, hgrow9, fun h => absurd rfl h⟩
                            rcases hat9 with e | e
                            · exact .inl e
                            · exact .inr ⟨_, e, hb8.size⟩
                        · cases hi
                          have h8 := gdq _ _ _ (show aX.tmps.getD 8 undef = .pointer (some ⟨GB, 0, none⟩) from hM.off 8 (by kernel_rfl))
                          refine RegInv.op_value (by rfl) rfl (v := .pointer (some ⟨GB, 3, none⟩)) (w' := w8) ?_ ⟨_, rfl, rfl, grown_refl _ _, fun _ => Below.refl _ _⟩
                          unfold execOp
                          go_simp
                        · exact absurd hltI (by omega)
                      case heQ31 =>
                        intro vx w8 hx hvx
                        have y0 : vx 0 = .pointer (some ⟨GB, 3, none⟩) := hvx 0 (by decide)
                        have y1 : vx 1 = v3 := hvx 1 (by decide)
                        have y2 : vx 2 = .slice A6 n c6 := hvx 2 (by decide)
                        have y3 : vx 3 = .slice A7 n c7 := hvx 3 (by decide)
                        have y4 : vx 4 = .int .i64 (b : Int) := hvx 4 (by decide)
                        have y5 : vx 5 = .int .i64 (rd l (b : Int)) := hvx 5 (by decide)
                        have r6 := hvx 6 (by decide)
                        simp only [FQ31, dQ31] at r6
                        obtain ⟨z6, hz6⟩ : ∃ z, vx 6 = z := ⟨_, rfl⟩
                        rw [hz6] at r6
                        have r7 := hvx 7 (by decide)
                        simp only [FQ31, dQ31] at r7
                        obtain ⟨z7, hz7⟩ : ∃ z, vx 7 = z := ⟨_, rfl⟩
                        rw [hz7] at r7
                        have y8 : vx 8 = .pointer (some ⟨GB, 3, none⟩) := hvx 8 (by decide)
                        simp only [RegInv.puts, dQ31, Act.put, List.range, List.range.loop, List.setIfInBounds_toArray, List.set_cons_zero, List.set_cons_succ, y0, y1, y2, y3, y4, y5, hz6, hz7, y8]
                        clear hvx y0 y1 y2 y3 y4 y5 hz6 hz7 y8
                        obtain ⟨hrow9, hat9⟩ := r7
                        obtain ⟨gv, cv, rfl⟩ := ownsRow_succ hrow9
                        have hBS9 := (HKEEP.out w8 hx).1
                        have q3 := cell_blk hBS9.gb (i := 3) rfl
                        have fz3 : w8.frozen? ⟨GB, 3, none⟩ = false := by simp [World.frozen?, hBS9.gb]
                        have hgb : GB < B13 := by have := blk_lt HBSZ.out.gb; have := HSZ13.out; omega
                        have HBS9 := Aside0.mk (hBS9.set 3 (.slice (some ⟨gv, 0, none⟩) (b + 1) cv))
                        have HO9 : Aside0 ((w8.setCell ⟨GB, 3, none⟩ (.slice (some ⟨gv, 0, none⟩) (b + 1) cv)).ownsRow B13 3 1 (.slice (some ⟨gv, 0, none⟩) (b + 1) cv) (b + 1) ((l.take (b + 1)).map (Value.int .i64))) := ⟨by
                          have htk : l.take (b + 1) = l.take b ++ [rd l (b : Int)] := by
                            have hbx : b < l.length := by rw [HG.out.ll]; exact HBN.out
                            rw [List.take_add_one, List.getElem?_eq_getElem hbx]
                            show _ = l.take b ++ [l.getD ((b : Int).toNat) 0]
                            rw [Int.toNat_natCast, List.getD_eq_getElem?_getD, List.getElem?_eq_getElem hbx]; rfl
                          rw [htk, List.map_append]
                          exact own_setLow hrow9 hgb⟩
                        have HKB9 := Aside0.mk ((but_grown HKB.out HO3.out hx (Nat.le_of_eq HSZ13.out.symm)).set 3 (.slice (some ⟨gv, 0, none⟩) (b + 1) cv))
                        refine RegInv.op_skip (w' := w8.setCell ⟨GB, 3, none⟩ (.slice (some ⟨gv, 0, none⟩) (b + 1) cv)) (by rfl) rfl ?_ ?_
                        · unfold execOp
                          go_simp
                        · refine hK _ _ ?_
                          simp only [Act.put, List.getElem_toArray, List.getElem_cons_succ, List.getElem_cons_zero]
                          clear hK hx r6 hrow9 hat9 hBS9 q3 fz3 g0 hgb
                          go_wp2_with (fail)
                          go_roundw
                          case measure => simp [intOf]; omega
                          case rel => exact ⟨b + 1, _, HBN.out, by first | rfl | go_num, HBS9.out, HO9.out, HKB9.out⟩
                    · have hnb : n = b := by omega
                      subst hnb
                      have hbl' : (n : Int) ≤ (n : Int) := by omega
                      obtain ⟨A5, c5, rfl⟩ := row_slice hO3
                      have htl : l.take n = l := by rw [← HG.out.ll]; exact List.take_length
                      rw [htl] at hO3
                      have HRQ : Aside0 (RQ wr W6.heap.size n st nx ord As A1 A2 cs c1 c2 vs) := ⟨HRQZ.out.but (Nat.le_of_eq HSZ13.out) HGL.out hKB⟩
                      have HO5 := Aside0.mk hO3
                      clear hbn hbl hBS hO3 hKB htl HO3 HKB HO7Z HR7Z HBSZ HRQZ HO6Z HM6 HM7 HL6 HL7
                      go_wp2_with (fail)
                      (try rw [show decide (n < n) = false from decide_eq_false (by omega)])
                      clear g0
                      have HBSZ := HBS
                      have HRQZ := HRQ
                      have HO5Z := HO5
                      clear HBS HRQ HO5
                      have HLO13 : Aside0 (GB < B13) := ⟨by have := HLO12.out; have := HSZ13.out; have := HBW13.out; omega⟩
                      revert HBSZ HRQZ HO5Z
                      generalize hwz : wr = W14
                      intro HBSZ HRQZ HO5Z
                      clear hwz
                      obtain ⟨B14, hB14⟩ : ∃ B14, W14.heap.size = B14 := ⟨_, rfl⟩
                      have HSZ14 := Aside0.mk hB14
                      clear hB14
                      go_loopw [14] (fun v wr => ∃ (p : Nat) (v4 : Value), p ≤ code.length ∧ v = .int .i64 (p : Int) ∧ BS w wr GB cf #[.slice As n cs, .slice A1 n c1, .slice A2 n c2, .slice A5 n c5, v4] ∧ wr.ownsRow B14 3 1 v4 (upTo (fun p => LedR code p code.length p) p).length ((upTo (fun p => LedR code p code.length p) p).map (Value.int .i64)) ∧ Range.KBut B14 GB W14 wr) (fun v _ => ((code.length : Int) - intOf v).toNat)
                      case atStart => exact ⟨0, _, Nat.zero_le _, rfl, HBSZ.out, World.ownsRow_nil _ _ _ _, Range.KBut.refl _ _ _⟩
                      case round =>
                        obtain ⟨p, v4, hp, rfl, hBS, hO4, hKB⟩ := hrel
                        have HBS := Aside0.mk hBS
                        have HO4 := Aside0.mk hO4
                        have HKB := Aside0.mk hKB
                        have HP := Aside0.mk hp
                        have hpm : p < 9223372036854775807 := by have := HN.out; omega
                        by_cases hpl : p < code.length
                        · have hpl' : (p : Int) < (code.length : Int) := by omega
                          have HPL := Aside0.mk hpl
                          have q0 := cell_blk hBS.fb HKF.out.1
                          have q1 := cell_blk hBS.fb HKF.out.2.1
                          have q2 := cell_blk hBS.fb HKF.out.2.2.1
                          have q3 := cell_blk hBS.fb HKF.out.2.2.2.1
                          have q4 := cell_blk hBS.fb HKF.out.2.2.2.2
                          clear hp hpl hBS hO4 hKB
                          go_wp2_with (fail)
                          refine (led_own (p := p) HP.out HN.out HHN.out (Kd.C_below HC.out HBS.out.below) HC3.out (Kd.C_below HH.out HBS.out.below) HC4.out).mono ?_
                          rintro e w3 ⟨r, rfl, hr, hb3⟩
                          have HR := Aside0.mk hr
                          have HBS3 := Aside0.mk (HBS.out.from_ hb3)
                          have HO43 : Aside0 (w3.ownsRow B14 3 1 v4 (upTo (fun p => LedR code p code.length p) p).length ((upTo (fun p => LedR code p code.length p) p).map (Value.int .i64))) := ⟨own_move HO4.out fun k hk => hb3.block k (own_lt HO4.out k hk)⟩
                          have HKB3 := Aside0.mk (HKB.out.trans (Range.KBut.of_below (hb3.mono (by have := HKB.out.1; have := HSZ14.out; omega))))
                          clear q0 q1 q2 q3 q4 hr hb3 HBS HO4 HKB
                          cases r with
                          | false =>
                            go_wp2_with (fail)
                            go_roundw
                            case measure => simp [intOf]; omega
                            case rel =>
                              refine ⟨p + 1, v4, HPL.out, by first | rfl | go_num, HBS3.out, ?_, HKB3.out⟩
                              rw [upTo_no (P := fun p => LedR code p code.length p) (fun h => by have := HR.out.2 h; cases this)]
                              exact HO43.out
                          | true =>
                            have g4 := cell_blk HBS3.out.gb (i := 4) rfl
                            obtain ⟨U, hU⟩ : ∃ U, upTo (fun p => LedR code p code.length p) p = U := ⟨_, rfl⟩
                            have HU := Aside0.mk hU
                            have HUL : Aside0 (U.length ≤ p) := ⟨hU ▸ upTo_len _ _⟩
                            rw [hU] at HO43
                            obtain ⟨A8, c8, rfl⟩ := row_slice HO43.out
                            clear hU
                            go_wp2_with (first | (at_builtin; refine wpList_append_own _ rfl _ _ 26 rfl B14 3 i3 (.int .i64 0) 1 8 Try.underlying26 HI3.out HZ30.out HZ31.out HZ32.out rfl (by decide) _ _ _ rfl (World.ownsRow.alloc HO43.out _) ⟨w3.heap.size, 0, none⟩ 1 1 [.int .i64 (p : Int)] rfl rfl (cell_one_new _ _ _) (by simp [Value.oneCell']) (by have := HUL.out; have := HPL.out; have := HN.out; unfold maxLen; omega) (by have := HUL.out; have := HPL.out; have := HN.out; omega) (by rw [World.size_alloc]; have := HKB3.out.1; have := HSZ14.out; omega) ?_; intro v9 w9 hown9 hgrow9 _; refine Classical.byContradiction (fun hcon => ?hsu)) | go_in)
                            refine hcon ?_
                            have hg9 := (World.grownBy_alloc w3 (.cells #[.int .i64 (p : Int)] 3) (Value.slice A8 U.length c8).ownBlock).trans hgrow9
                            have hgb : GB < B14 := by have := blk_lt HBSZ.out.gb; have := HSZ14.out; omega
                            obtain ⟨gv, cv, rfl⟩ := ownsRow_succ hown9
                            have hBS9 := HBS3.out.grown HO43.out hgb (by decide) hg9
                            have q4 := cell_blk hBS9.gb (i := 4) rfl
                            have fz4 : w9.frozen? ⟨GB, 4, none⟩ = false := by simp [World.frozen?, hBS9.gb]
                            have HBS9 := Aside0.mk (hBS9.set 4 (.slice (some ⟨gv, 0, none⟩) (U.length + 1) cv))
                            have HO9 := Aside0.mk (own_setLow (j := 4) (u := .slice (some ⟨gv, 0, none⟩) (U.length + 1) cv) hown9 hgb)
                            have HKB9 := Aside0.mk ((but_grown HKB3.out HO43.out hg9 (Nat.le_of_eq HSZ14.out.symm)).set 4 (.slice (some ⟨gv, 0, none⟩) (U.length + 1) cv))
                            clear g4 hown9 hgrow9 hcon hg9 hgb hBS9 HBS3 HO43 HKB3
                            go_wp2_with (fail)
                            clear q4 fz4
                            go_roundw
                            case measure => simp [intOf]; omega
                            case rel =>
                              refine ⟨p + 1, _, HPL.out, by first | rfl | go_num, HBS9.out, ?_, HKB9.out⟩
                              rw [upTo_yes (P := fun p => LedR code p code.length p) (HR.out.1 (by first | rfl | trivial)), HU.out, List.length_append, List.map_append]
                              exact HO9.out
                        · have hpp : code.length = p := by omega
                          have hpl' : (code.length : Int) ≤ (p : Int) := by omega
                          have HPP := Aside0.mk hpp
                          have HRQ : Aside0 (RQ wr W6.heap.size n st nx ord As A1 A2 cs c1 c2 vs) := ⟨HRQZ.out.but (Nat.le_of_eq HSZ14.out) HGL.out hKB⟩
                          have HO5 : Aside0 (wr.ownsRow B13 3 1 (.slice A5 n c5) n (l.map (Value.int .i64))) := ⟨own_but HO5Z.out (Nat.le_of_eq HSZ14.out) HLO13.out hKB⟩
                          have HO4 : Aside0 (wr.ownsRow B14 3 1 v4 m (hd.map (Value.int .i64))) := ⟨by
                            have h := hO4
                            rw [← hpp, HG.out.heads_upTo, HG.out.lm] at h
                            exact h⟩
                          obtain ⟨A8, c8, rfl⟩ := row_slice HO4.out
                          have q0 := cell_blk hBS.gb (i := 0) rfl
                          have q1 := cell_blk hBS.gb (i := 1) rfl
                          have q2 := cell_blk hBS.gb (i := 2) rfl
                          have q3 := cell_blk hBS.gb (i := 3) rfl
                          have q4 := cell_blk hBS.gb (i := 4) rfl
                          have r0 := cell_blk hBS.rb (i := 0) rfl
                          have r1 := cell_blk hBS.rb (i := 1) rfl
                          have r2 := cell_blk hBS.rb (i := 2) rfl
                          have r3 := cell_blk hBS.rb (i := 3) rfl
                          have r4 := cell_blk hBS.rb (i := 4) rfl
                          have fzr0 : wr.frozen? ⟨w.heap.size + 1, 0, none⟩ = false := by simp [World.frozen?, hBS.rb]
                          have fzr1 : wr.frozen? ⟨w.heap.size + 1, 1, none⟩ = false := by simp [World.frozen?, hBS.rb]
                          have fzr2 : wr.frozen? ⟨w.heap.size + 1, 2, none⟩ = false := by simp [World.frozen?, hBS.rb]
                          have fzr3 : wr.frozen? ⟨w.heap.size + 1, 3, none⟩ = false := by simp [World.frozen?, hBS.rb]
                          have fzr4 : wr.frozen? ⟨w.heap.size + 1, 4, none⟩ = false := by simp [World.frozen?, hBS.rb]
                          have HB14lt : Aside0 (GB < W14.heap.size) := ⟨blk_lt HBSZ.out.gb⟩
                          clear hp hpl hBS hO4 hKB hpp HRQZ HO5Z HBSZ HKB
                          go_wp2_with (fail)
                          have hw1 := HBS.out.lo
                          have hne : ∀ (W : World) (j : Nat) (v : Value) (k : Nat), k ≠ w.heap.size + 1 → (W.setCell ⟨w.heap.size + 1, j, none⟩ v).heap[k]? = W.heap[k]? := fun W j v k hk => Below.heap_setCell W ⟨w.heap.size + 1, j, none⟩ v k hk
                          have hfin : ∀ k, k ≠ w.heap.size + 1 → (((((wr.setCell ⟨w.heap.size + 1, 0, none⟩ (.slice As n cs)).setCell ⟨w.heap.size + 1, 1, none⟩ (.slice A1 n c1)).setCell ⟨w.heap.size + 1, 2, none⟩ (.slice A2 n c2)).setCell ⟨w.heap.size + 1, 3, none⟩ (.slice A5 n c5)).setCell ⟨w.heap.size + 1, 4, none⟩ (.slice A8 m c8)).heap[k]? = wr.heap[k]? := fun k hk => by
                            rw [hne _ _ _ _ hk, hne _ _ _ _ hk, hne _ _ _ _ hk, hne _ _ _ _ hk, hne _ _ _ _ hk]
                          have hrbF := blk_set (j := 4) (v := .slice A8 m c8) (blk_set (j := 3) (v := .slice A5 n c5) (blk_set (j := 2) (v := .slice A2 n c2) (blk_set (j := 1) (v := .slice A1 n c1) (blk_set (j := 0) (v := .slice As n cs) HBS.out.rb))))
                          have hbF : Below w.heap.size w (((((wr.setCell ⟨w.heap.size + 1, 0, none⟩ (.slice As n cs)).setCell ⟨w.heap.size + 1, 1, none⟩ (.slice A1 n c1)).setCell ⟨w.heap.size + 1, 2, none⟩ (.slice A2 n c2)).setCell ⟨w.heap.size + 1, 3, none⟩ (.slice A5 n c5)).setCell ⟨w.heap.size + 1, 4, none⟩ (.slice A8 m c8)) := by
                            refine ((((HBS.out.below.setCell (p := ⟨w.heap.size + 1, 0, none⟩) ?_ _).setCell (p := ⟨w.heap.size + 1, 1, none⟩) ?_ _).setCell (p := ⟨w.heap.size + 1, 2, none⟩) ?_ _).setCell (p := ⟨w.heap.size + 1, 3, none⟩) ?_ _).setCell (p := ⟨w.heap.size + 1, 4, none⟩) ?_ _ <;> exact Nat.le_succ _
                          revert hfin hrbF hbF
                          generalize ((((wr.setCell ⟨w.heap.size + 1, 0, none⟩ (.slice As n cs)).setCell ⟨w.heap.size + 1, 1, none⟩ (.slice A1 n c1)).setCell ⟨w.heap.size + 1, 2, none⟩ (.slice A2 n c2)).setCell ⟨w.heap.size + 1, 3, none⟩ (.slice A5 n c5)).setCell ⟨w.heap.size + 1, 4, none⟩ (.slice A8 m c8) = wF
                          intro hfin hrbF hbF
                          refine leaves_marks (base := w.heap.size) [] wF trivial fun W' hB' hc => ?_
                          have mv : ∀ {base e k : Nat} {v : Value} {xs : List Value}, w.heap.size + 1 < base → wr.ownsRow base e 1 v k xs → W'.ownsRow base e 1 v k xs := fun hlt h => own_move h fun k hk => by
                            obtain ⟨cells, hcl⟩ := own_typed h k hk
                            have hk2 := own_base h k hk
                            exact (hc k _ ((hfin k (by omega)).trans hcl) rfl).trans hcl.symm
                          have hG0 := HGL.out
                          have hG3 := HLO13.out
                          have hG4 : GB < B14 := by have := blk_lt HBS.out.gb; have := HSZ14.out; have := HB14lt.out; omega
                          have m0 := mv (by omega) HRQ.out.s
                          have m1 := mv (by omega) HRQ.out.o
                          have mr : RR (Value.int .i64) 3 W' W6.heap.size vs nx := ⟨HRQ.out.r.len, fun j hj => mv (by omega) (HRQ.out.r.each j hj)⟩
                          have m2 := mv (by omega) HRQ.out.q
                          have m3 := mv (by omega) HO5.out
                          have m4 := mv (by omega) HO4.out
                          have hr1 := mr.C_int m1 HG.out.lnx (by have := HNN.out; omega) HG.out.pos
                          have z0 : (Kd.int .i64).C W' As n st := by
                            have h := m0
                            rw [← HG.out.ln] at h ⊢
                            exact (row_C h).1
                          have z2 : (Kd.int .i64).C W' A2 n ord := by
                            have h := m2
                            rw [← HG.out.lord] at h ⊢
                            exact (row_C h).1
                          have z3 : (Kd.int .i64).C W' A5 n l := by
                            have h := m3
                            rw [← HG.out.ll] at h ⊢
                            exact (row_C h).1
                          have z4 : (Kd.int .i64).C W' A8 m hd := by
                            have h := m4
                            rw [← HG.out.lm] at h ⊢
                            exact (row_C h).1
                          exact ⟨_, results_build rfl _ W' (w.heap.size + 1) _ _ _ _ _ _ _ _ _ _ _ _ _ _ _ _ _ _ _ _ rfl rfl rfl rfl rfl rfl rfl (hc _ _ hrbF rfl), _, _, _, _, _, _, _, _, _, _, rfl, ⟨z0, hr1, z2, z3, z4, own_cap m0, own_cap m1, own_cap m2, own_cap m3, own_cap m4⟩, hbF.trans hB'⟩
end Go.Proofs.Ytmeaepmimnmjlaa.Ask
/- The reference: Build, by its meaning: a function that does not fit. -/
namespace Go.Proofs.Ytmeaepmimnmjlaa.Ask
open Go.Proofs.Ytmeaepmimnmjlaa.Dfs Go.Proofs.Ytmeaepmimnmjlaa.Dom Go.Proofs.Ytmeaepmimnmjlaa.DomT Go.RowKit Go.Shelf Go.Proofs.Ytmeaepmimnmjlaa.PGb Go.Proofs.Ytmeaepmimnmjlaa.Lit Go.Proofs.Ytmeaepmimnmjlaa.OwnCells Go.Proofs.YtmeaepmimnmjlaaW.PrintWords Go.Proofs.YtmeaepmimnmjlaaW.PrintLast Go.Proofs.YtmeaepmimnmjlaaW.PrintMore
attribute [local go_sem] Oper.semAt_some
attribute [local go_sem] run_store_fn
attribute [local go_sem] run_eql_fn
set_option linter.unusedVariables false
set_option linter.unusedSimpArgs false
theorem frozen_blk {W : World} {k i : Nat} {cur : Array Value} {e : TypeId} (h : W.heap[k]? = some (.cells cur e (0, 0))) : W.frozen? ⟨k, i, none⟩ = false := by simp [World.frozen?, h]
theorem err8J {code : List S40} {hs : List S49} {x : S40} (h0 : code.length ≠ 0) (hm : x ∈ code) (hb : okJ code.length x = false) : errOf code hs = 8 := by
  unfold errOf
  rw [if_neg h0, if_neg]
  intro h
  rw [Bool.and_eq_true, List.all_eq_true] at h
  rw [h.1 x hm] at hb; cases hb
theorem err8H {code : List S40} {hs : List S49} {x : S49} (h0 : code.length ≠ 0) (hm : x ∈ hs) (hb : okH code.length x = false) : errOf code hs = 8 := by
  unfold errOf
  rw [if_neg h0, if_neg]
  intro h
  rw [Bool.and_eq_true, List.all_eq_true, List.all_eq_true] at h
  rw [h.2 x hm] at hb; cases hb
theorem err0 {code : List S40} {hs : List S49} (h0 : code.length ≠ 0) (h1 : ∀ x ∈ code, okJ code.length x = true) (h2 : ∀ x ∈ hs, okH code.length x = true) : errOf code hs = 0 := by
  unfold errOf
  rw [if_neg h0, if_pos]
  rw [Bool.and_eq_true, List.all_eq_true, List.all_eq_true]; exact ⟨h1, h2⟩
set_option maxRecDepth 100000 in
set_option maxHeartbeats 16000000 in
theorem rbuild_no {code : List S40} {hs : List S49} {w : World} {nm : ByteArray} {pa lo : Int} {A3 A4 : Option Addr} {c3 c4 : Nat} (hbad : ¬ FitsP code hs) (hn : code.length ≤ 8796093022207) (hhn : hs.length ≤ 8796093022208) (hC : k40.C w A3 code.length code) (hc3 : code.length ≤ c3) (hH : k49.C w A4 hs.length hs) (hc4 : hs.length ≤ c4) :
    Calls Try.prog 11 #[.agg #[.string nm, .int .i64 pa, .int .i64 lo, .slice A3 code.length c3, .slice A4 hs.length c4]] w fun e w' => e = .returned (.tuple #[.agg #[.slice none 0 0, .slice none 0 0, .slice none 0 0, .slice none 0 0, .slice none 0 0], .int .i64 (errOf code hs)]) ∧ Below w.heap.size w w' := by
  have HBAD : Aside0 (errOf code hs ≠ 0) := ⟨fun h => hbad ((errOf_fits code hs).1 h)⟩
  have HC := Aside0.mk hC
  have HH := Aside0.mk hH
  have HC3 := Aside0.mk hc3
  have HC4 := Aside0.mk hc4
  have HN := Aside0.mk hn
  have HHN := Aside0.mk hhn
  clear hC hc3 hH hc4 hn hhn hbad
  have hu25 := Try.underlying25
  have hu29 := Try.underlying29
  have hu40 := Try.underlying40
  have hu49 := Try.underlying49
  refine (callsIn_wide (n := 12)).1 ?_
  refine callsIn_of_wp_marks Try.func11 rfl trivial ?_ rfl
  refine wpIn_wide.2 ?_
  simp only [Try.ntmps11, List.size_toArray, List.length_cons, List.length_nil, Nat.reduceAdd, Nat.reduceSub, Array.replicate_succ, Array.replicate_zero, List.push_toArray, List.append_toArray, List.nil_append, List.cons_append]
  go_upto_region 1 with (fail)
  have hfb0 : ((w.alloc (.cells #[.string nm, .int .i64 pa, .int .i64 lo, .slice A3 code.length c3, .slice A4 hs.length c4] 25)).alloc (.cells #[.slice none 0 0, .slice none 0 0, .slice none 0 0, .slice none 0 0, .slice none 0 0] 29)).heap[w.heap.size]? = some (.cells #[.string nm, .int .i64 pa, .int .i64 lo, .slice A3 code.length c3, .slice A4 hs.length c4] 25 (0, 0)) := ((World.grownBy_alloc (w.alloc _) _ none).block _ (by simp) (by simp)).trans (World.alloc_heap_new w _)
  have hrb0 : ((w.alloc (.cells #[.string nm, .int .i64 pa, .int .i64 lo, .slice A3 code.length c3, .slice A4 hs.length c4] 25)).alloc (.cells #[.slice none 0 0, .slice none 0 0, .slice none 0 0, .slice none 0 0, .slice none 0 0] 29)).heap[w.heap.size + 1]? = some (.cells #[.slice none 0 0, .slice none 0 0, .slice none 0 0, .slice none 0 0, .slice none 0 0] 29 (0, 0)) := by
    have := World.alloc_heap_new (w.alloc (.cells #[.string nm, .int .i64 pa, .int .i64 lo, .slice A3 code.length c3, .slice A4 hs.length c4] 25)) (.cells #[.slice none 0 0, .slice none 0 0, .slice none 0 0, .slice none 0 0, .slice none 0 0] 29)
    rw [World.size_alloc] at this
    exact this
  have hb0 : Below w.heap.size w ((w.alloc (.cells #[.string nm, .int .i64 pa, .int .i64 lo, .slice A3 code.length c3, .slice A4 hs.length c4] 25)).alloc (.cells #[.slice none 0 0, .slice none 0 0, .slice none 0 0, .slice none 0 0, .slice none 0 0] 29)) := below_alloc (below_alloc (Below.refl _ _) _) _
  revert hfb0 hrb0 hb0
  generalize (w.alloc (.cells #[.string nm, .int .i64 pa, .int .i64 lo, .slice A3 code.length c3, .slice A4 hs.length c4] 25)).alloc (.cells #[.slice none 0 0, .slice none 0 0, .slice none 0 0, .slice none 0 0, .slice none 0 0] 29) = W0
  generalize hcf : #[Value.string nm, .int .i64 pa, .int .i64 lo, .slice A3 code.length c3, .slice A4 hs.length c4] = cf
  intro hfb0 hrb0 hb0
  have kf0 : cf[0]? = some (.string nm) := by rw [← hcf]; rfl
  have kf1 : cf[1]? = some (.int .i64 pa) := by rw [← hcf]; rfl
  have kf2 : cf[2]? = some (.int .i64 lo) := by rw [← hcf]; rfl
  have kf3 : cf[3]? = some (.slice A3 code.length c3) := by rw [← hcf]; rfl
  have kf4 : cf[4]? = some (.slice A4 hs.length c4) := by rw [← hcf]; rfl
  have HKF := Aside0.mk (And.intro kf0 (And.intro kf1 (And.intro kf2 (And.intro kf3 kf4))))
  have HB0 : Aside0 (FR w W0 cf) := ⟨⟨hfb0, hrb0, hb0⟩⟩
  have f3 := cell_blk hfb0 kf3
  clear kf0 kf1 kf2 kf3 kf4 hfb0 hrb0 hb0 hcf
  by_cases hz : code.length = 0
  · have t0 : ((code.length : Int) == 0) = true := beq_iff_eq.2 (by omega)
    have t0' : (code.length == 0) = true := beq_iff_eq.2 hz
    have HE : Aside0 (errOf code hs = 2) := ⟨by unfold errOf; rw [if_pos hz]⟩
    clear hz
    have r0 := cell_blk HB0.out.rb (i := 0) rfl
    have r1 := cell_blk HB0.out.rb (i := 1) rfl
    have r2 := cell_blk HB0.out.rb (i := 2) rfl
    have r3 := cell_blk HB0.out.rb (i := 3) rfl
    have r4 := cell_blk HB0.out.rb (i := 4) rfl
    have z0 : W0.frozen? ⟨w.heap.size + 1, 0, none⟩ = false := frozen_blk HB0.out.rb
    have z1 : W0.frozen? ⟨w.heap.size + 1, 1, none⟩ = false := frozen_blk HB0.out.rb
    have z2 : W0.frozen? ⟨w.heap.size + 1, 2, none⟩ = false := frozen_blk HB0.out.rb
    have z3 : W0.frozen? ⟨w.heap.size + 1, 3, none⟩ = false := frozen_blk HB0.out.rb
    have z4 : W0.frozen? ⟨w.heap.size + 1, 4, none⟩ = false := frozen_blk HB0.out.rb
    go_wp2_with (fail)
    have hrbF := blk_set (j := 4) (v := .slice none 0 0) (blk_set (j := 3) (v := .slice none 0 0) (blk_set (j := 2) (v := .slice none 0 0) (blk_set (j := 1) (v := .slice none 0 0) (blk_set (j := 0) (v := .slice none 0 0) HB0.out.rb))))
    have hbF : Below w.heap.size w (((((W0.setCell ⟨w.heap.size + 1, 0, none⟩ (.slice none 0 0)).setCell ⟨w.heap.size + 1, 1, none⟩ (.slice none 0 0)).setCell ⟨w.heap.size + 1, 2, none⟩ (.slice none 0 0)).setCell ⟨w.heap.size + 1, 3, none⟩ (.slice none 0 0)).setCell ⟨w.heap.size + 1, 4, none⟩ (.slice none 0 0)) := by
      refine ((((HB0.out.below.setCell (p := ⟨w.heap.size + 1, 0, none⟩) ?_ _).setCell (p := ⟨w.heap.size + 1, 1, none⟩) ?_ _).setCell (p := ⟨w.heap.size + 1, 2, none⟩) ?_ _).setCell (p := ⟨w.heap.size + 1, 3, none⟩) ?_ _).setCell (p := ⟨w.heap.size + 1, 4, none⟩) ?_ _ <;> exact Nat.le_succ _
    exact leaves_marks (base := w.heap.size) [] _ trivial fun W' hB' hc => ⟨_, results_no rfl _ W' (w.heap.size + 1) (2) rfl rfl (hc _ _ hrbF rfl), by rw [HE.out], hbF.trans hB'⟩
  · have t0 : ((code.length : Int) == 0) = false := beq_eq_false_iff_ne.2 (by omega)
    have t0' : (code.length == 0) = false := beq_eq_false_iff_ne.2 (by omega)
    have HZ := Aside0.mk hz
    clear hz
    go_wp2_with (fail)
    obtain ⟨wo, hwo⟩ : ∃ wo, W0 = wo := ⟨_, rfl⟩
    clear f3
    go_loopw [5] (fun v wr => ∃ i : Nat, i ≤ code.length ∧ v = .int .i64 (i : Int) ∧ (∀ (q : Nat) (x : S40), q < i → code[q]? = some x → okJ code.length x = true) ∧ Below W0.heap.size W0 wr) (fun v _ => ((code.length : Int) - intOf v).toNat)
    case atStart => exact ⟨0, Nat.zero_le _, rfl, fun q x h => absurd h (Nat.not_lt_zero _), Below.refl _ _⟩
    case round =>
      obtain ⟨i, hi, rfl, hok, hB⟩ := hrel
      have HOK := Aside0.mk hok
      have HBW := Aside0.mk hB
      have HBS := Aside0.mk (HB0.out.from_ hB)
      have him : i < 9223372036854775807 := by have := HN.out; omega
      have f3 := cell_blk HBS.out.fb HKF.out.2.2.2.1
      by_cases hil : i < code.length
      · have hin : (i : Int) < (code.length : Int) := by omega
        have hi0 : (0 : Int) ≤ (i : Int) := by omega
        have HIL := Aside0.mk hil
        obtain ⟨y, e0, h0, h1⟩ := at_T40 (Kd.C_below HC.out HBS.out.below) (i : Int) hi0 hin
        subst e0
        rw [Int.toNat_natCast] at h0 h1
        have hget := get40 hil
        obtain ⟨x, hx⟩ : ∃ x, rd_T40 code (i : Int) = x := ⟨_, rfl⟩
        rw [hx] at h0 h1 hget
        have HGET := Aside0.mk hget
        obtain ⟨jb, hjb⟩ : ∃ jb, jumpsP x.f0 = jb := ⟨_, rfl⟩
        have HJB := Aside0.mk hjb
        clear hget hx hi hil hB hjb hok t0 t0'
        go_wp2_with (fail)
        refine (portageref09_jumps.calls _ _ _ (rjumps_f _)).mono ?_
        rintro e w9 ⟨rfl, hd9⟩
        have HBW9 := Aside0.mk (HBW.out.trans (hd9.below.mono HBW.out.size))
        obtain ⟨d9, rfl⟩ := hd9.out
        rw [HJB.out]
        have HBS9 := Aside0.mk (HB0.out.from_ HBW9.out)
        clear hd9 HBW HBS
        have HNX : Aside0 (okJ code.length x = true → ∀ (q : Nat) (y : S40), q < i + 1 → code[q]? = some y → okJ code.length y = true) := ⟨fun hx q y hq hy => by
          by_cases e : q = i
          · subst e
            have := hy.symm.trans HGET.out
            cases this
            exact hx
          · exact HOK.out q y (by omega) hy⟩
        cases jb with
        | false =>
          clear h0 h1 f3
          go_wp2_with (fail)
          go_roundw
          case measure => simp [intOf]; omega
          case rel => exact ⟨i + 1, HIL.out, by first | rfl | go_num, HNX.out (by simp [okJ, HJB.out]), HBW9.out⟩
        | true =>
          by_cases k1 : x.f1 < 0
          · have u1 : decide (x.f1 < 0) = true := decide_eq_true k1
            have HE : Aside0 (errOf code hs = 8) := ⟨err8J HZ.out (List.mem_of_getElem? HGET.out) (by simp [okJ, HJB.out, show ¬ (0 ≤ x.f1) by omega])⟩
            clear k1
            have r0 := cell_blk HBS9.out.rb (i := 0) rfl
            have r1 := cell_blk HBS9.out.rb (i := 1) rfl
            have r2 := cell_blk HBS9.out.rb (i := 2) rfl
            have r3 := cell_blk HBS9.out.rb (i := 3) rfl
            have r4 := cell_blk HBS9.out.rb (i := 4) rfl
            have z0 : (wr.drewN d9).frozen? ⟨w.heap.size + 1, 0, none⟩ = false := frozen_blk HBS9.out.rb
            have z1 : (wr.drewN d9).frozen? ⟨w.heap.size + 1, 1, none⟩ = false := frozen_blk HBS9.out.rb
            have z2 : (wr.drewN d9).frozen? ⟨w.heap.size + 1, 2, none⟩ = false := frozen_blk HBS9.out.rb
            have z3 : (wr.drewN d9).frozen? ⟨w.heap.size + 1, 3, none⟩ = false := frozen_blk HBS9.out.rb
            have z4 : (wr.drewN d9).frozen? ⟨w.heap.size + 1, 4, none⟩ = false := frozen_blk HBS9.out.rb
            go_wp2_with (fail)
            have hrbF := blk_set (j := 4) (v := .slice none 0 0) (blk_set (j := 3) (v := .slice none 0 0) (blk_set (j := 2) (v := .slice none 0 0) (blk_set (j := 1) (v := .slice none 0 0) (blk_set (j := 0) (v := .slice none 0 0) HBS9.out.rb))))
            have hbF : Below w.heap.size w ((((((wr.drewN d9).setCell ⟨w.heap.size + 1, 0, none⟩ (.slice none 0 0)).setCell ⟨w.heap.size + 1, 1, none⟩ (.slice none 0 0)).setCell ⟨w.heap.size + 1, 2, none⟩ (.slice none 0 0)).setCell ⟨w.heap.size + 1, 3, none⟩ (.slice none 0 0)).setCell ⟨w.heap.size + 1, 4, none⟩ (.slice none 0 0)) := by
              refine ((((HBS9.out.below.setCell (p := ⟨w.heap.size + 1, 0, none⟩) ?_ _).setCell (p := ⟨w.heap.size + 1, 1, none⟩) ?_ _).setCell (p := ⟨w.heap.size + 1, 2, none⟩) ?_ _).setCell (p := ⟨w.heap.size + 1, 3, none⟩) ?_ _).setCell (p := ⟨w.heap.size + 1, 4, none⟩) ?_ _ <;> exact Nat.le_succ _
            exact leaves_marks (base := w.heap.size) [] _ trivial fun W' hB' hc => ⟨_, results_no rfl _ W' (w.heap.size + 1) (8) rfl rfl (hc _ _ hrbF rfl), by rw [HE.out], hbF.trans hB'⟩
          · have u1 : decide (x.f1 < 0) = false := decide_eq_false k1
            by_cases k2 : (code.length : Int) ≤ x.f1
            · have u2 : decide (x.f1 ≥ (code.length : Int)) = true := decide_eq_true k2
              have u2' : decide ((code.length : Int) ≤ x.f1) = true := decide_eq_true k2
              have HE : Aside0 (errOf code hs = 8) := ⟨err8J HZ.out (List.mem_of_getElem? HGET.out) (by simp [okJ, HJB.out, show ¬ (x.f1 < (code.length : Int)) by omega])⟩
              clear k1 k2
              have r0 := cell_blk HBS9.out.rb (i := 0) rfl
              have r1 := cell_blk HBS9.out.rb (i := 1) rfl
              have r2 := cell_blk HBS9.out.rb (i := 2) rfl
              have r3 := cell_blk HBS9.out.rb (i := 3) rfl
              have r4 := cell_blk HBS9.out.rb (i := 4) rfl
              have z0 : (wr.drewN d9).frozen? ⟨w.heap.size + 1, 0, none⟩ = false := frozen_blk HBS9.out.rb
              have z1 : (wr.drewN d9).frozen? ⟨w.heap.size + 1, 1, none⟩ = false := frozen_blk HBS9.out.rb
              have z2 : (wr.drewN d9).frozen? ⟨w.heap.size + 1, 2, none⟩ = false := frozen_blk HBS9.out.rb
              have z3 : (wr.drewN d9).frozen? ⟨w.heap.size + 1, 3, none⟩ = false := frozen_blk HBS9.out.rb
              have z4 : (wr.drewN d9).frozen? ⟨w.heap.size + 1, 4, none⟩ = false := frozen_blk HBS9.out.rb
              go_wp2_with (fail)
              have hrbF := blk_set (j := 4) (v := .slice none 0 0) (blk_set (j := 3) (v := .slice none 0 0) (blk_set (j := 2) (v := .slice none 0 0) (blk_set (j := 1) (v := .slice none 0 0) (blk_set (j := 0) (v := .slice none 0 0) HBS9.out.rb))))
              have hbF : Below w.heap.size w ((((((wr.drewN d9).setCell ⟨w.heap.size + 1, 0, none⟩ (.slice none 0 0)).setCell ⟨w.heap.size + 1, 1, none⟩ (.slice none 0 0)).setCell ⟨w.heap.size + 1, 2, none⟩ (.slice none 0 0)).setCell ⟨w.heap.size + 1, 3, none⟩ (.slice none 0 0)).setCell ⟨w.heap.size + 1, 4, none⟩ (.slice none 0 0)) := by
                refine ((((HBS9.out.below.setCell (p := ⟨w.heap.size + 1, 0, none⟩) ?_ _).setCell (p := ⟨w.heap.size + 1, 1, none⟩) ?_ _).setCell (p := ⟨w.heap.size + 1, 2, none⟩) ?_ _).setCell (p := ⟨w.heap.size + 1, 3, none⟩) ?_ _).setCell (p := ⟨w.heap.size + 1, 4, none⟩) ?_ _ <;> exact Nat.le_succ _
              exact leaves_marks (base := w.heap.size) [] _ trivial fun W' hB' hc => ⟨_, results_no rfl _ W' (w.heap.size + 1) (8) rfl rfl (hc _ _ hrbF rfl), by rw [HE.out], hbF.trans hB'⟩
            · have u2 : decide (x.f1 ≥ (code.length : Int)) = false := decide_eq_false k2
              have u2' : decide ((code.length : Int) ≤ x.f1) = false := decide_eq_false k2
              have HOKX : Aside0 (okJ code.length x = true) := ⟨by simp only [okJ, HJB.out, Bool.not_true, Bool.false_or, Bool.and_eq_true, decide_eq_true_eq]; omega⟩
              clear k1 k2
              go_wp2_with (fail)
              go_roundw
              case measure => simp [intOf]; omega
              case rel => exact ⟨i + 1, HIL.out, by first | rfl | go_num, HNX.out HOKX.out, HBW9.out⟩
      · have hin : (code.length : Int) ≤ (i : Int) := by omega
        have hnn : code.length = i := by omega
        have HALL : Aside0 (∀ x ∈ code, okJ code.length x = true) := ⟨fun x hx => by
          obtain ⟨q, hq, e⟩ := List.getElem_of_mem hx
          exact hok q x (by omega) (by rw [List.getElem?_eq_getElem hq, e])⟩
        have f4 := cell_blk HBS.out.fb HKF.out.2.2.2.2
        clear hi hil hB hok HOK t0 t0'
        subst hnn
        go_wp2_with (fail)
        (try rw [show decide (code.length < code.length) = false from decide_eq_false (by omega)])
        clear f3 f4
        go_loopw [6] (fun v wr => ∃ i : Nat, i ≤ hs.length ∧ v = .int .i64 (i : Int) ∧ (∀ (q : Nat) (x : S49), q < i → hs[q]? = some x → okH code.length x = true) ∧ Below W0.heap.size W0 wr) (fun v _ => ((hs.length : Int) - intOf v).toNat)
        case atStart => exact ⟨0, Nat.zero_le _, rfl, fun q x h => absurd h (Nat.not_lt_zero _), HBW.out⟩
        case round =>
          clear HBW HBS
          obtain ⟨i, hi, rfl, hok, hB⟩ := hrel
          have HOK := Aside0.mk hok
          have HBW := Aside0.mk hB
          have HBS := Aside0.mk (HB0.out.from_ hB)
          have him : i < 9223372036854775807 := by have := HHN.out; omega
          have f4 := cell_blk HBS.out.fb HKF.out.2.2.2.2
          by_cases hil : i < hs.length
          · have hin : (i : Int) < (hs.length : Int) := by omega
            have hi0 : (0 : Int) ≤ (i : Int) := by omega
            have HIL := Aside0.mk hil
            obtain ⟨y, e0, h0, h1, h2, h3⟩ := at_T49 (Kd.C_below HH.out HBS.out.below) (i : Int) hi0 hin
            subst e0
            rw [Int.toNat_natCast] at h0 h1 h2 h3
            have hget := get49 hil
            obtain ⟨x, hx⟩ : ∃ x, rd_T49 hs (i : Int) = x := ⟨_, rfl⟩
            rw [hx] at h0 h1 h2 h3 hget
            have HGET := Aside0.mk hget
            have HNX : Aside0 (okH code.length x = true → ∀ (q : Nat) (y : S49), q < i + 1 → hs[q]? = some y → okH code.length y = true) := ⟨fun hox q y hq hy => by
              by_cases e : q = i
              · subst e
                have := hy.symm.trans HGET.out
                cases this
                exact hox
              · exact HOK.out q y (by omega) hy⟩
            clear hget hx hi hil hB hok
            go_upto_region 13 with (fail)
            obtain ⟨XB, hXB⟩ : ∃ XB, wr.heap.size = XB := ⟨_, rfl⟩
            have hb2 : Below wr.heap.size wr (wr.alloc (.cells #[.int .i64 x.f0, .int .i64 x.f1, .int .i64 x.f2, .int .i64 x.f3] 49)) := below_alloc (Below.refl _ _) _
            have HXX : Aside0 ((wr.alloc (.cells #[.int .i64 x.f0, .int .i64 x.f1, .int .i64 x.f2, .int .i64 x.f3] 49)).heap[XB]? = some (.cells #[.int .i64 x.f0, .int .i64 x.f1, .int .i64 x.f2, .int .i64 x.f3] 49 (0, 0))) := ⟨hXB ▸ World.alloc_heap_new wr _⟩
            have HBW3 := Aside0.mk (HBW.out.trans (hb2.mono HBW.out.size))
            rw [hXB]
            revert HXX HBW3
            generalize wr.alloc (.cells #[.int .i64 x.f0, .int .i64 x.f1, .int .i64 x.f2, .int .i64 x.f3] 49) = W5
            intro HXX HBW3
            clear hb2 hXB h0 h1 h2 h3 f4 HBW HBS
            have HBS5 := Aside0.mk (HB0.out.from_ HBW3.out)
            have y0 := cell_blk HXX.out (i := 0) rfl
            have y1 := cell_blk HXX.out (i := 1) rfl
            have y2 := cell_blk HXX.out (i := 2) rfl
            by_cases k1 : x.f0 < 0
            · have u1 : decide (x.f0 < 0) = true := decide_eq_true k1
              have HE : Aside0 (errOf code hs = 8) := ⟨err8H HZ.out (List.mem_of_getElem? HGET.out) (by simp [okH, show ¬ (0 ≤ x.f0) by omega])⟩
              clear k1
              have r0 := cell_blk HBS5.out.rb (i := 0) rfl
              have r1 := cell_blk HBS5.out.rb (i := 1) rfl
              have r2 := cell_blk HBS5.out.rb (i := 2) rfl
              have r3 := cell_blk HBS5.out.rb (i := 3) rfl
              have r4 := cell_blk HBS5.out.rb (i := 4) rfl
              have z0 : W5.frozen? ⟨w.heap.size + 1, 0, none⟩ = false := frozen_blk HBS5.out.rb
              have z1 : W5.frozen? ⟨w.heap.size + 1, 1, none⟩ = false := frozen_blk HBS5.out.rb
              have z2 : W5.frozen? ⟨w.heap.size + 1, 2, none⟩ = false := frozen_blk HBS5.out.rb
              have z3 : W5.frozen? ⟨w.heap.size + 1, 3, none⟩ = false := frozen_blk HBS5.out.rb
              have z4 : W5.frozen? ⟨w.heap.size + 1, 4, none⟩ = false := frozen_blk HBS5.out.rb
              go_wp2_with (fail)
              have hrbF := blk_set (j := 4) (v := .slice none 0 0) (blk_set (j := 3) (v := .slice none 0 0) (blk_set (j := 2) (v := .slice none 0 0) (blk_set (j := 1) (v := .slice none 0 0) (blk_set (j := 0) (v := .slice none 0 0) HBS5.out.rb))))
              have hbF : Below w.heap.size w (((((W5.setCell ⟨w.heap.size + 1, 0, none⟩ (.slice none 0 0)).setCell ⟨w.heap.size + 1, 1, none⟩ (.slice none 0 0)).setCell ⟨w.heap.size + 1, 2, none⟩ (.slice none 0 0)).setCell ⟨w.heap.size + 1, 3, none⟩ (.slice none 0 0)).setCell ⟨w.heap.size + 1, 4, none⟩ (.slice none 0 0)) := by
                refine ((((HBS5.out.below.setCell (p := ⟨w.heap.size + 1, 0, none⟩) ?_ _).setCell (p := ⟨w.heap.size + 1, 1, none⟩) ?_ _).setCell (p := ⟨w.heap.size + 1, 2, none⟩) ?_ _).setCell (p := ⟨w.heap.size + 1, 3, none⟩) ?_ _).setCell (p := ⟨w.heap.size + 1, 4, none⟩) ?_ _ <;> exact Nat.le_succ _
              exact leaves_marks (base := w.heap.size) [] _ trivial fun W' hB' hc => ⟨_, results_no rfl _ W' (w.heap.size + 1) (8) rfl rfl (hc _ _ hrbF rfl), by rw [HE.out], hbF.trans hB'⟩
            · have u1 : decide (x.f0 < 0) = false := decide_eq_false k1
              by_cases k2 : x.f1 ≤ x.f0
              · have u2 : decide (x.f0 ≥ x.f1) = true := decide_eq_true k2
                have u2' : decide (x.f1 ≤ x.f0) = true := decide_eq_true k2
                have HE : Aside0 (errOf code hs = 8) := ⟨err8H HZ.out (List.mem_of_getElem? HGET.out) (by simp [okH, show ¬ (x.f0 < x.f1) by omega])⟩
                clear k1 k2
                have r0 := cell_blk HBS5.out.rb (i := 0) rfl
                have r1 := cell_blk HBS5.out.rb (i := 1) rfl
                have r2 := cell_blk HBS5.out.rb (i := 2) rfl
                have r3 := cell_blk HBS5.out.rb (i := 3) rfl
                have r4 := cell_blk HBS5.out.rb (i := 4) rfl
                have z0 : W5.frozen? ⟨w.heap.size + 1, 0, none⟩ = false := frozen_blk HBS5.out.rb
                have z1 : W5.frozen? ⟨w.heap.size + 1, 1, none⟩ = false := frozen_blk HBS5.out.rb
                have z2 : W5.frozen? ⟨w.heap.size + 1, 2, none⟩ = false := frozen_blk HBS5.out.rb
                have z3 : W5.frozen? ⟨w.heap.size + 1, 3, none⟩ = false := frozen_blk HBS5.out.rb
                have z4 : W5.frozen? ⟨w.heap.size + 1, 4, none⟩ = false := frozen_blk HBS5.out.rb
                go_wp2_with (fail)
                have hrbF := blk_set (j := 4) (v := .slice none 0 0) (blk_set (j := 3) (v := .slice none 0 0) (blk_set (j := 2) (v := .slice none 0 0) (blk_set (j := 1) (v := .slice none 0 0) (blk_set (j := 0) (v := .slice none 0 0) HBS5.out.rb))))
                have hbF : Below w.heap.size w (((((W5.setCell ⟨w.heap.size + 1, 0, none⟩ (.slice none 0 0)).setCell ⟨w.heap.size + 1, 1, none⟩ (.slice none 0 0)).setCell ⟨w.heap.size + 1, 2, none⟩ (.slice none 0 0)).setCell ⟨w.heap.size + 1, 3, none⟩ (.slice none 0 0)).setCell ⟨w.heap.size + 1, 4, none⟩ (.slice none 0 0)) := by
                  refine ((((HBS5.out.below.setCell (p := ⟨w.heap.size + 1, 0, none⟩) ?_ _).setCell (p := ⟨w.heap.size + 1, 1, none⟩) ?_ _).setCell (p := ⟨w.heap.size + 1, 2, none⟩) ?_ _).setCell (p := ⟨w.heap.size + 1, 3, none⟩) ?_ _).setCell (p := ⟨w.heap.size + 1, 4, none⟩) ?_ _ <;> exact Nat.le_succ _
                exact leaves_marks (base := w.heap.size) [] _ trivial fun W' hB' hc => ⟨_, results_no rfl _ W' (w.heap.size + 1) (8) rfl rfl (hc _ _ hrbF rfl), by rw [HE.out], hbF.trans hB'⟩
              · have u2 : decide (x.f0 ≥ x.f1) = false := decide_eq_false k2
                have u2' : decide (x.f1 ≤ x.f0) = false := decide_eq_false k2
                by_cases k3 : (code.length : Int) < x.f1
                · have u3 : decide (x.f1 > (code.length : Int)) = true := decide_eq_true k3
                  have u3' : decide ((code.length : Int) < x.f1) = true := decide_eq_true k3
                  have HE : Aside0 (errOf code hs = 8) := ⟨err8H HZ.out (List.mem_of_getElem? HGET.out) (by simp [okH, show ¬ (x.f1 ≤ (code.length : Int)) by omega])⟩
                  clear k1 k2 k3
                  have r0 := cell_blk HBS5.out.rb (i := 0) rfl
                  have r1 := cell_blk HBS5.out.rb (i := 1) rfl
                  have r2 := cell_blk HBS5.out.rb (i := 2) rfl
                  have r3 := cell_blk HBS5.out.rb (i := 3) rfl
                  have r4 := cell_blk HBS5.out.rb (i := 4) rfl
                  have z0 : W5.frozen? ⟨w.heap.size + 1, 0, none⟩ = false := frozen_blk HBS5.out.rb
                  have z1 : W5.frozen? ⟨w.heap.size + 1, 1, none⟩ = false := frozen_blk HBS5.out.rb
                  have z2 : W5.frozen? ⟨w.heap.size + 1, 2, none⟩ = false := frozen_blk HBS5.out.rb
                  have z3 : W5.frozen? ⟨w.heap.size + 1, 3, none⟩ = false := frozen_blk HBS5.out.rb
                  have z4 : W5.frozen? ⟨w.heap.size + 1, 4, none⟩ = false := frozen_blk HBS5.out.rb
                  go_wp2_with (fail)
                  have hrbF := blk_set (j := 4) (v := .slice none 0 0) (blk_set (j := 3) (v := .slice none 0 0) (blk_set (j := 2) (v := .slice none 0 0) (blk_set (j := 1) (v := .slice none 0 0) (blk_set (j := 0) (v := .slice none 0 0) HBS5.out.rb))))
                  have hbF : Below w.heap.size w (((((W5.setCell ⟨w.heap.size + 1, 0, none⟩ (.slice none 0 0)).setCell ⟨w.heap.size + 1, 1, none⟩ (.slice none 0 0)).setCell ⟨w.heap.size + 1, 2, none⟩ (.slice none 0 0)).setCell ⟨w.heap.size + 1, 3, none⟩ (.slice none 0 0)).setCell ⟨w.heap.size + 1, 4, none⟩ (.slice none 0 0)) := by
                    refine ((((HBS5.out.below.setCell (p := ⟨w.heap.size + 1, 0, none⟩) ?_ _).setCell (p := ⟨w.heap.size + 1, 1, none⟩) ?_ _).setCell (p := ⟨w.heap.size + 1, 2, none⟩) ?_ _).setCell (p := ⟨w.heap.size + 1, 3, none⟩) ?_ _).setCell (p := ⟨w.heap.size + 1, 4, none⟩) ?_ _ <;> exact Nat.le_succ _
                  exact leaves_marks (base := w.heap.size) [] _ trivial fun W' hB' hc => ⟨_, results_no rfl _ W' (w.heap.size + 1) (8) rfl rfl (hc _ _ hrbF rfl), by rw [HE.out], hbF.trans hB'⟩
                · have u3 : decide (x.f1 > (code.length : Int)) = false := decide_eq_false k3
                  have u3' : decide ((code.length : Int) < x.f1) = false := decide_eq_false k3
                  by_cases k4 : x.f2 < 0
                  · have u4 : decide (x.f2 < 0) = true := decide_eq_true k4
                    have HE : Aside0 (errOf code hs = 8) := ⟨err8H HZ.out (List.mem_of_getElem? HGET.out) (by simp [okH, show ¬ (0 ≤ x.f2) by omega])⟩
                    clear k1 k2 k3 k4
                    have r0 := cell_blk HBS5.out.rb (i := 0) rfl
                    have r1 := cell_blk HBS5.out.rb (i := 1) rfl
                    have r2 := cell_blk HBS5.out.rb (i := 2) rfl
                    have r3 := cell_blk HBS5.out.rb (i := 3) rfl
                    have r4 := cell_blk HBS5.out.rb (i := 4) rfl
                    have z0 : W5.frozen? ⟨w.heap.size + 1, 0, none⟩ = false := frozen_blk HBS5.out.rb
                    have z1 : W5.frozen? ⟨w.heap.size + 1, 1, none⟩ = false := frozen_blk HBS5.out.rb
                    have z2 : W5.frozen? ⟨w.heap.size + 1, 2, none⟩ = false := frozen_blk HBS5.out.rb
                    have z3 : W5.frozen? ⟨w.heap.size + 1, 3, none⟩ = false := frozen_blk HBS5.out.rb
                    have z4 : W5.frozen? ⟨w.heap.size + 1, 4, none⟩ = false := frozen_blk HBS5.out.rb
                    go_wp2_with (fail)
                    have hrbF := blk_set (j := 4) (v := .slice none 0 0) (blk_set (j := 3) (v := .slice none 0 0) (blk_set (j := 2) (v := .slice none 0 0) (blk_set (j := 1) (v := .slice none 0 0) (blk_set (j := 0) (v := .slice none 0 0) HBS5.out.rb))))
                    have hbF : Below w.heap.size w (((((W5.setCell ⟨w.heap.size + 1, 0, none⟩ (.slice none 0 0)).setCell ⟨w.heap.size + 1, 1, none⟩ (.slice none 0 0)).setCell ⟨w.heap.size + 1, 2, none⟩ (.slice none 0 0)).setCell ⟨w.heap.size + 1, 3, none⟩ (.slice none 0 0)).setCell ⟨w.heap.size + 1, 4, none⟩ (.slice none 0 0)) := by
                      refine ((((HBS5.out.below.setCell (p := ⟨w.heap.size + 1, 0, none⟩) ?_ _).setCell (p := ⟨w.heap.size + 1, 1, none⟩) ?_ _).setCell (p := ⟨w.heap.size + 1, 2, none⟩) ?_ _).setCell (p := ⟨w.heap.size + 1, 3, none⟩) ?_ _).setCell (p := ⟨w.heap.size + 1, 4, none⟩) ?_ _ <;> exact Nat.le_succ _
                    exact leaves_marks (base := w.heap.size) [] _ trivial fun W' hB' hc => ⟨_, results_no rfl _ W' (w.heap.size + 1) (8) rfl rfl (hc _ _ hrbF rfl), by rw [HE.out], hbF.trans hB'⟩
                  · have u4 : decide (x.f2 < 0) = false := decide_eq_false k4
                    by_cases k5 : (code.length : Int) ≤ x.f2
                    · have u5 : decide (x.f2 ≥ (code.length : Int)) = true := decide_eq_true k5
                      have u5' : decide ((code.length : Int) ≤ x.f2) = true := decide_eq_true k5
                      have HE : Aside0 (errOf code hs = 8) := ⟨err8H HZ.out (List.mem_of_getElem? HGET.out) (by simp [okH, show ¬ (x.f2 < (code.length : Int)) by omega])⟩
                      clear k1 k2 k3 k4 k5
                      have r0 := cell_blk HBS5.out.rb (i := 0) rfl
                      have r1 := cell_blk HBS5.out.rb (i := 1) rfl
                      have r2 := cell_blk HBS5.out.rb (i := 2) rfl
                      have r3 := cell_blk HBS5.out.rb (i := 3) rfl
                      have r4 := cell_blk HBS5.out.rb (i := 4) rfl
                      have z0 : W5.frozen? ⟨w.heap.size + 1, 0, none⟩ = false := frozen_blk HBS5.out.rb
                      have z1 : W5.frozen? ⟨w.heap.size + 1, 1, none⟩ = false := frozen_blk HBS5.out.rb
                      have z2 : W5.frozen? ⟨w.heap.size + 1, 2, none⟩ = false := frozen_blk HBS5.out.rb
                      have z3 : W5.frozen? ⟨w.heap.size + 1, 3, none⟩ = false := frozen_blk HBS5.out.rb
                      have z4 : W5.frozen? ⟨w.heap.size + 1, 4, none⟩ = false := frozen_blk HBS5.out.rb
                      go_wp2_with (fail)
                      have hrbF := blk_set (j := 4) (v := .slice none 0 0) (blk_set (j := 3) (v := .slice none 0 0) (blk_set (j := 2) (v := .slice none 0 0) (blk_set (j := 1) (v := .slice none 0 0) (blk_set (j := 0) (v := .slice none 0 0) HBS5.out.rb))))
                      have hbF : Below w.heap.size w (((((W5.setCell ⟨w.heap.size + 1, 0, none⟩ (.slice none 0 0)).setCell ⟨w.heap.size + 1, 1, none⟩ (.slice none 0 0)).setCell ⟨w.heap.size + 1, 2, none⟩ (.slice none 0 0)).setCell ⟨w.heap.size + 1, 3, none⟩ (.slice none 0 0)).setCell ⟨w.heap.size + 1, 4, none⟩ (.slice none 0 0)) := by
                        refine ((((HBS5.out.below.setCell (p := ⟨w.heap.size + 1, 0, none⟩) ?_ _).setCell (p := ⟨w.heap.size + 1, 1, none⟩) ?_ _).setCell (p := ⟨w.heap.size + 1, 2, none⟩) ?_ _).setCell (p := ⟨w.heap.size + 1, 3, none⟩) ?_ _).setCell (p := ⟨w.heap.size + 1, 4, none⟩) ?_ _ <;> exact Nat.le_succ _
                      exact leaves_marks (base := w.heap.size) [] _ trivial fun W' hB' hc => ⟨_, results_no rfl _ W' (w.heap.size + 1) (8) rfl rfl (hc _ _ hrbF rfl), by rw [HE.out], hbF.trans hB'⟩
                    · have u5 : decide (x.f2 ≥ (code.length : Int)) = false := decide_eq_false k5
                      have u5' : decide ((code.length : Int) ≤ x.f2) = false := decide_eq_false k5
                      have HOKX : Aside0 (okH code.length x = true) := ⟨by simp only [okH, Bool.and_eq_true, decide_eq_true_eq]; omega⟩
                      clear k1 k2 k3 k4 k5
                      go_wp2_with (fail)
                      go_roundw
                      case measure => simp [intOf]; omega
                      case rel => exact ⟨i + 1, HIL.out, by first | rfl | go_num, HNX.out HOKX.out, HBW3.out⟩
          · exact absurd (err0 HZ.out HALL.out fun x hx => by
              obtain ⟨q, hq, e⟩ := List.getElem_of_mem hx
              exact hok q x (by omega) (by rw [List.getElem?_eq_getElem hq, e])) HBAD.out
end Go.Proofs.Ytmeaepmimnmjlaa.Ask
/- What reads the same is found the same: numbers, rows, graphs, handlers. For every world. -/
namespace Go.Proofs.Ytmeaepmimnmjlaa.Ask
open Go.RowKit Go.Proofs.Ytmeaepmimnmjlaa.PGb Go.Proofs.Ytmeaepmimnmjlaa.Lit Go.Proofs.YtmeaepmimnmjlaaW.PrintWords Go.Proofs.YtmeaepmimnmjlaaW.PrintLast Go.Proofs.YtmeaepmimnmjlaaW.PrintMore
set_option linter.unusedVariables false
set_option linter.unusedSimpArgs false
theorem C_drewN' {α : Type} {d : Kd α} {w : World} {A : Option Addr} {n : Nat} {xs : List α} (h : d.C w A n xs) (m : Nat) : d.C (w.drewN m) A n xs := Kd.C_below h (pw_below_drewN (Below.refl _ _) m)
set_option maxHeartbeats 1000000 in
set_option maxRecDepth 100000 in
theorem same_ints (A B : Option Addr) (c d : Nat) (l : List Int) (w : World) (hA : (Kd.int .i64).C w A l.length l) (hB : (Kd.int .i64).C w B l.length l) (hl : l.length ≤ 17592186044416) :
    Calls Try.prog 31 #[.slice A l.length c, .slice B l.length d] w fun e w' => e = .returned (.bool true) ∧ ∃ m, w' = w.drewN m := by
  have HA := Aside0.mk hA
  have HB := Aside0.mk hB
  clear hA hB
  go_enter Try.func31, Try.ntmps31
  go_wp2
  go_loopw [5] (fun t wr => ∃ k : Nat, k ≤ l.length ∧ t = .int .i64 k ∧ ∃ m, wr = w.drewN m) (fun t _ => l.length - (intOf t).toNat)
  case atStart => exact ⟨0, Nat.zero_le _, rfl, 0, rfl⟩
  case round =>
    obtain ⟨k, hk, rfl, m, rfl⟩ := hrel
    by_cases hlt : k < l.length
    · obtain ⟨a, rfl, q0⟩ := Kd.at_int HA.out (k : Int) (by omega) (by omega)
      obtain ⟨b, rfl, p0⟩ := Kd.at_int HB.out (k : Int) (by omega) (by omega)
      rw [Int.toNat_natCast] at q0 p0
      go_wp2
      go_quiet (fail)
      go_wp2
      go_roundw
      case rel => exact ⟨k + 1, by omega, by go_num, _, rfl⟩
      case measure => simp [intOf]; omega
    · go_wp2
      go_ret
      exact ⟨rfl, m, rfl⟩
set_option maxHeartbeats 2000000 in
set_option maxRecDepth 100000 in
theorem same_rows (A B : Option Addr) (c d : Nat) (l : List (List Int)) (w : World) (hA : (Kd.slice 3 (Kd.int .i64)).C w A l.length l) (hB : (Kd.slice 3 (Kd.int .i64)).C w B l.length l) (hl : l.length ≤ 17592186044416) (hs : ∀ i : Int, (rd_L3 l i).length ≤ 17592186044416) :
    Calls Try.prog 51 #[.slice A l.length c, .slice B l.length d] w fun e w' => e = .returned (.bool true) ∧ ∃ m, w' = w.drewN m := by
  have HA := Aside0.mk hA
  have HB := Aside0.mk hB
  have HS := Aside0.mk hs
  clear hA hB hs
  go_enter Try.func51, Try.ntmps51
  go_wp2
  go_loopw [5] (fun t wr => ∃ k : Nat, k ≤ l.length ∧ t = .int .i64 k ∧ ∃ m, wr = w.drewN m) (fun t _ => l.length - (intOf t).toNat)
  case atStart => exact ⟨0, Nat.zero_le _, rfl, 0, rfl⟩
  case round =>
    obtain ⟨k, hk, rfl, m, hm⟩ := hrel
    have HM := Aside0.mk hm
    have HA1 := Aside0.mk (show (Kd.slice 3 (Kd.int .i64)).C wr A l.length l from hm ▸ C_drewN' HA.out m)
    have HB1 := Aside0.mk (show (Kd.slice 3 (Kd.int .i64)).C wr B l.length l from hm ▸ C_drewN' HB.out m)
    clear hm
    by_cases hlt : k < l.length
    · obtain ⟨a, A2, c2, rfl, q0, _, g0⟩ := at_L3 HA1.out (k : Int) (by omega) (by omega)
      obtain ⟨b, B2, d2, rfl, r0, _, g1⟩ := at_L3 HB1.out (k : Int) (by omega) (by omega)
      have hx := HS.out (k : Int)
      rw [Int.toNat_natCast] at q0 r0
      generalize rd_L3 l (k : Int) = x at q0 r0 g0 g1 hx
      have G0 := Aside0.mk g0
      have G1 := Aside0.mk g1
      have HX := Aside0.mk hx
      clear g0 g1 hx
      go_wp2
      go_quiet ((go_at_call 31; exact Calls.quiet_of (same_ints _ _ _ _ x _ (C_drewN' G0.out _) (C_drewN' G1.out _) HX.out)))
      go_wp2
      go_roundw
      case rel => exact ⟨k + 1, by omega, by go_num, _, by rw [HM.out]; exact World.drewN_drewN _ _ _⟩
      case measure => simp [intOf]; omega
    · go_wp2
      go_ret
      exact ⟨rfl, m, HM.out⟩
/-- a graph that is read -/
structure GX (W : World) (v : Value) (st : List Int) (nx : List (List Int)) (ord l hd : List Int) (a0 a1 a2 a3 a4 : Option Addr) (c0 c1 c2 c3 c4 : Nat) : Prop where
  val : v = .agg #[.slice a0 st.length c0, .slice a1 nx.length c1, .slice a2 ord.length c2, .slice a3 l.length c3, .slice a4 hd.length c4]
  r0 : (Kd.int .i64).C W a0 st.length st
  r1 : (Kd.slice 3 (Kd.int .i64)).C W a1 nx.length nx
  r2 : (Kd.int .i64).C W a2 ord.length ord
  r3 : (Kd.int .i64).C W a3 l.length l
  r4 : (Kd.int .i64).C W a4 hd.length hd
def GR (W : World) (v : Value) (st : List Int) (nx : List (List Int)) (ord l hd : List Int) : Prop := ∃ a0 a1 a2 a3 a4 c0 c1 c2 c3 c4, GX W v st nx ord l hd a0 a1 a2 a3 a4 c0 c1 c2 c3 c4
theorem GR.below {W W' : World} {v : Value} {st : List Int} {nx : List (List Int)} {ord l hd : List Int} (h : GR W v st nx ord l hd) (hb : Below W.heap.size W W') : GR W' v st nx ord l hd := by
  obtain ⟨a0, a1, a2, a3, a4, c0, c1, c2, c3, c4, hv, r0, r1, r2, r3, r4⟩ := h
  exact ⟨a0, a1, a2, a3, a4, c0, c1, c2, c3, c4, hv, Kd.C_below r0 hb, Kd.C_below r1 hb, Kd.C_below r2 hb, Kd.C_below r3 hb, Kd.C_below r4 hb⟩
/-- the bounds of a graph's lists -/
structure GSm (st : List Int) (nx : List (List Int)) (ord l hd : List Int) : Prop where
  s0 : st.length ≤ 17592186044416
  s1 : nx.length ≤ 17592186044416
  s2 : ord.length ≤ 17592186044416
  s3 : l.length ≤ 17592186044416
  s4 : hd.length ≤ 17592186044416
  s5 : ∀ i : Int, (rd_L3 nx i).length ≤ 17592186044416
set_option maxHeartbeats 4000000 in
set_option maxRecDepth 100000 in
theorem same_graph {u v : Value} {st : List Int} {nx : List (List Int)} {ord l hd : List Int} {w : World} (hu : GR w u st nx ord l hd) (hv : GR w v st nx ord l hd) (hs : GSm st nx ord l hd) :
    Calls Try.prog 15 #[u, v] w fun e w' => e = .returned (.bool true) ∧ Below w.heap.size w w' := by
  obtain ⟨a0, a1, a2, a3, a4, c0, c1, c2, c3, c4, rfl, r0, r1, r2, r3, r4⟩ := hu
  obtain ⟨b0, b1, b2, b3, b4, d0, d1, d2, d3, d4, rfl, t0, t1, t2, t3, t4⟩ := hv
  have HS := Aside0.mk hs
  have HR := Aside0.mk (And.intro r0 (And.intro r1 (And.intro r2 (And.intro r3 r4))))
  have HT := Aside0.mk (And.intro t0 (And.intro t1 (And.intro t2 (And.intro t3 t4))))
  clear r0 r1 r2 r3 r4 t0 t1 t2 t3 t4 hs
  have hu29 := Try.underlying29
  go_enter Try.func15, Try.ntmps15
  go_upto_region 1 with (fail)
  obtain ⟨cu, hcu⟩ : ∃ cu : Array Value, #[Value.slice a0 st.length c0, .slice a1 nx.length c1, .slice a2 ord.length c2, .slice a3 l.length c3, .slice a4 hd.length c4] = cu := ⟨_, rfl⟩
  obtain ⟨cv, hcv⟩ : ∃ cv : Array Value, #[Value.slice b0 st.length d0, .slice b1 nx.length d1, .slice b2 ord.length d2, .slice b3 l.length d3, .slice b4 hd.length d4] = cv := ⟨_, rfl⟩
  rw [hcu, hcv]
  have hb : Below w.heap.size w ((w.alloc (.cells cu 29)).alloc (.cells cv 29)) := below_alloc (below_alloc (Below.refl _ _) _) _
  have h1 : ((w.alloc (.cells cu 29)).alloc (.cells cv 29)).heap[w.heap.size]? = some (.cells cu 29 (0, 0)) := ((World.grownBy_alloc (w.alloc _) _ none).block _ (by simp) (by simp)).trans (World.alloc_heap_new w _)
  have h2 : ((w.alloc (.cells cu 29)).alloc (.cells cv 29)).heap[w.heap.size + 1]? = some (.cells cv 29 (0, 0)) := by
    have := World.alloc_heap_new (w.alloc (.cells cu 29)) (.cells cv 29)
    rw [World.size_alloc] at this
    exact this
  revert hb h1 h2
  generalize (w.alloc (.cells cu 29)).alloc (.cells cv 29) = W
  intro hb h1 h2
  have HB := Aside0.mk hb
  have k0 := cell_blk h1 (i := 0) (v := .slice a0 st.length c0) (by rw [← hcu]; rfl)
  have k1 := cell_blk h1 (i := 1) (v := .slice a1 nx.length c1) (by rw [← hcu]; rfl)
  have k2 := cell_blk h1 (i := 2) (v := .slice a2 ord.length c2) (by rw [← hcu]; rfl)
  have k3 := cell_blk h1 (i := 3) (v := .slice a3 l.length c3) (by rw [← hcu]; rfl)
  have k4 := cell_blk h1 (i := 4) (v := .slice a4 hd.length c4) (by rw [← hcu]; rfl)
  have q0 := cell_blk h2 (i := 0) (v := .slice b0 st.length d0) (by rw [← hcv]; rfl)
  have q1 := cell_blk h2 (i := 1) (v := .slice b1 nx.length d1) (by rw [← hcv]; rfl)
  have q2 := cell_blk h2 (i := 2) (v := .slice b2 ord.length d2) (by rw [← hcv]; rfl)
  have q3 := cell_blk h2 (i := 3) (v := .slice b3 l.length d3) (by rw [← hcv]; rfl)
  have q4 := cell_blk h2 (i := 4) (v := .slice b4 hd.length d4) (by rw [← hcv]; rfl)
  have HR1 := Aside0.mk (And.intro (Kd.C_below HR.out.1 hb) (And.intro (Kd.C_below HR.out.2.1 hb) (And.intro (Kd.C_below HR.out.2.2.1 hb) (And.intro (Kd.C_below HR.out.2.2.2.1 hb) (Kd.C_below HR.out.2.2.2.2 hb)))))
  have HT1 := Aside0.mk (And.intro (Kd.C_below HT.out.1 hb) (And.intro (Kd.C_below HT.out.2.1 hb) (And.intro (Kd.C_below HT.out.2.2.1 hb) (And.intro (Kd.C_below HT.out.2.2.2.1 hb) (Kd.C_below HT.out.2.2.2.2 hb)))))
  clear hb h1 h2 hcu hcv HR HT
  go_wp2_with (fail)
  refine (same_ints a0 b0 c0 d0 st _ (HR1.out.1) (HT1.out.1) HS.out.s0).mono ?_
  rintro e w1 ⟨rfl, m1, rfl⟩
  go_wp2_with (fail)
  refine (same_rows a1 b1 c1 d1 nx _ (C_drewN' HR1.out.2.1 _) (C_drewN' HT1.out.2.1 _) HS.out.s1 HS.out.s5).mono ?_
  rintro e w1 ⟨rfl, m2, rfl⟩
  go_wp2_with (fail)
  refine (same_ints a2 b2 c2 d2 ord _ (by simpa using C_drewN' HR1.out.2.2.1 _) (by simpa using C_drewN' HT1.out.2.2.1 _) HS.out.s2).mono ?_
  rintro e w1 ⟨rfl, m3, rfl⟩
  go_wp2_with (fail)
  refine (same_ints a3 b3 c3 d3 l _ (by simpa using C_drewN' HR1.out.2.2.2.1 _) (by simpa using C_drewN' HT1.out.2.2.2.1 _) HS.out.s3).mono ?_
  rintro e w1 ⟨rfl, m4, rfl⟩
  go_wp2_with (fail)
  refine (same_ints a4 b4 c4 d4 hd _ (by simpa using C_drewN' HR1.out.2.2.2.2 _) (by simpa using C_drewN' HT1.out.2.2.2.2 _) HS.out.s4).mono ?_
  rintro e w1 ⟨rfl, m5, rfl⟩
  go_wp2_with (fail)
  go_ret
  refine ⟨rfl, ?_⟩
  repeat (first | exact HB.out | apply pw_below_drewN)
end Go.Proofs.Ytmeaepmimnmjlaa.Ask
/- The program's Build and the reference's: the same graph, the same error. For every world. -/
namespace Go.Proofs.Ytmeaepmimnmjlaa.Ask
open Go.Proofs.Ytmeaepmimnmjlaa.Dfs Go.Proofs.Ytmeaepmimnmjlaa.Dom Go.Proofs.Ytmeaepmimnmjlaa.DomT Go.RowKit Go.Shelf Go.Proofs.Ytmeaepmimnmjlaa.PGb Go.Proofs.Ytmeaepmimnmjlaa.Lit Go.Proofs.Ytmeaepmimnmjlaa.OwnCells Go.Proofs.YtmeaepmimnmjlaaW.PrintWords Go.Proofs.YtmeaepmimnmjlaaW.PrintLast Go.Proofs.YtmeaepmimnmjlaaW.PrintMore
set_option linter.unusedVariables false
set_option linter.unusedSimpArgs false
/-- the graph that a function has -/
def GZ (code : List S40) (hs : List S49) (st : List Int) (nx : List (List Int)) (ord l hd : List Int) : Prop := (FitsP code hs ∧ ∃ n m, GF code hs n m st nx ord l hd) ∨ (¬ FitsP code hs ∧ st = [] ∧ nx = [] ∧ ord = [] ∧ l = [] ∧ hd = [])
theorem GZ.uniq {code : List S40} {hs : List S49} {st st' : List Int} {nx nx' : List (List Int)} {ord ord' l l' hd hd' : List Int} (g : GZ code hs st nx ord l hd) (g' : GZ code hs st' nx' ord' l' hd') : st' = st ∧ nx' = nx ∧ ord' = ord ∧ l' = l ∧ hd' = hd := by
  rcases g with ⟨hf, n, m, g⟩ | ⟨hf, rfl, rfl, rfl, rfl, rfl⟩
  · rcases g' with ⟨_, n', m', g'⟩ | ⟨h, _⟩
    · exact (g.uniq g').2.2
    · exact absurd hf h
  · rcases g' with ⟨h, _⟩ | ⟨_, rfl, rfl, rfl, rfl, rfl⟩
    · exact absurd h hf
    · exact ⟨rfl, rfl, rfl, rfl, rfl⟩
theorem GZ.small {code : List S40} {hs : List S49} {st : List Int} {nx : List (List Int)} {ord l hd : List Int} (g : GZ code hs st nx ord l hd) (hn : code.length ≤ 1048576) : GSm st nx ord l hd := by
  rcases g with ⟨hf, n, m, g⟩ | ⟨hf, rfl, rfl, rfl, rfl, rfl⟩
  · have h := g.short
    have hm := g.shorth
    refine ⟨by rw [g.ln]; omega, by rw [g.lnx]; omega, by rw [g.lord]; omega, by rw [g.ll]; omega, by rw [g.lm]; omega, fun i => ?_⟩
    have := g.nb_len i
    show (nb nx i).length ≤ _
    omega
  · refine ⟨by simp, by simp, by simp, by simp, by simp, fun i => ?_⟩
    simp [rd_L3]
theorem GR.nil (W : World) : GR W (.agg #[.slice none 0 0, .slice none 0 0, .slice none 0 0, .slice none 0 0, .slice none 0 0]) [] [] [] [] [] :=
  ⟨none, none, none, none, none, 0, 0, 0, 0, 0, rfl, ⟨rfl, by decide, fun h => absurd h (by decide)⟩, ⟨rfl, by decide, fun h => absurd h (by decide)⟩, ⟨rfl, by decide, fun h => absurd h (by decide)⟩, ⟨rfl, by decide, fun h => absurd h (by decide)⟩, ⟨rfl, by decide, fun h => absurd h (by decide)⟩⟩
theorem GR.of_gv {W : World} {a0 a1 a2 a3 a4 : Option Addr} {c0 c1 c2 c3 c4 n m : Nat} {code : List S40} {hs : List S49} {st : List Int} {nx : List (List Int)} {ord l hd : List Int} (h : GV W a0 a1 a2 a3 a4 c0 c1 c2 c3 c4 n m st nx ord l hd) (g : GF code hs n m st nx ord l hd) : GR W (.agg #[.slice a0 n c0, .slice a1 n c1, .slice a2 n c2, .slice a3 n c3, .slice a4 m c4]) st nx ord l hd := by
  obtain ⟨r0, r1, r2, r3, r4, _⟩ := h
  refine ⟨a0, a1, a2, a3, a4, c0, c1, c2, c3, c4, by rw [g.ln, g.lnx, g.lord, g.ll, g.lm], ?_, ?_, ?_, ?_, ?_⟩
  · rw [g.ln]; exact r0
  · rw [g.lnx]; exact r1
  · rw [g.lord]; exact r2
  · rw [g.ll]; exact r3
  · rw [g.lm]; exact r4
/-- a graph that reads so in every world that keeps what was made between w and w' -/
def Held (w w' : World) (v : Value) (st : List Int) (nx : List (List Int)) (ord l hd : List Int) : Prop := ∀ W, w'.heap.size ≤ W.heap.size → (∀ k o, w.heap.size ≤ k → w'.heap[k]? = some o → o.isCells = true → W.heap[k]? = some o) → GR W v st nx ord l hd
section
variable {code : List S40} {hs : List S49} {w : World} {nm : ByteArray} {pa lo : Int} {A3 A4 : Option Addr} {c3 c4 : Nat}
theorem ref_build (hn : code.length ≤ 1048576) (hhn : hs.length ≤ 8796093022208) (hC : k40.C w A3 code.length code) (hc3 : code.length ≤ c3) (hH : k49.C w A4 hs.length hs) (hc4 : hs.length ≤ c4) :
    Calls Try.prog 11 #[.agg #[.string nm, .int .i64 pa, .int .i64 lo, .slice A3 code.length c3, .slice A4 hs.length c4]] w fun e w' => ∃ v st nx ord l hd, e = .returned (.tuple #[v, .int .i64 (errOf code hs)]) ∧ GZ code hs st nx ord l hd ∧ GR w' v st nx ord l hd ∧ Below w.heap.size w w' := by
  by_cases hf : FitsP code hs
  · obtain ⟨n, m, st, nx, ord, l, hd, g⟩ := GF.ex hf
    refine (rbuild_yes g (by omega) hhn hC hc3 hH hc4 hn).mono ?_
    rintro e w' ⟨a0, a1, a2, a3, a4, d0, d1, d2, d3, d4, rfl, gv, hb⟩
    exact ⟨_, st, nx, ord, l, hd, by rw [(errOf_fits code hs).2 hf], .inl ⟨hf, n, m, g⟩, GR.of_gv gv g, hb⟩
  · refine (rbuild_no hf (by omega) hhn hC hc3 hH hc4).mono ?_
    rintro e w' ⟨rfl, hb⟩
    exact ⟨_, [], [], [], [], [], rfl, .inr ⟨hf, rfl, rfl, rfl, rfl, rfl⟩, GR.nil _, hb⟩
theorem graph_build (hn : code.length ≤ 1048576) (hhn : hs.length ≤ 8796093022208) (hC : k40.C w A3 code.length code) (hc3 : code.length ≤ c3) (hH : k49.C w A4 hs.length hs) (hc4 : hs.length ≤ c4) :
    Calls Try.prog 13 #[.agg #[.string nm, .int .i64 pa, .int .i64 lo, .slice A3 code.length c3, .slice A4 hs.length c4]] w fun e w' => ∃ v st nx ord l hd, e = .returned (.tuple #[v, .int .i64 (errOf code hs)]) ∧ GZ code hs st nx ord l hd ∧ Held w w' v st nx ord l hd ∧ Below w.heap.size w w' := by
  have hchk := check_f nm pa lo code hs (by omega) (by omega)
  by_cases hf : FitsP code hs
  · rw [(errOf_fits code hs).2 hf] at hchk ⊢
    refine (build_yes _ nm pa lo A3 A4 c3 c4 code hs w hC hc3 hH hc4 hchk hf (by omega) hhn).mono ?_
    rintro e w' ⟨v0, v1, v2, v3, v4, st, hdl, l, rfl, hbt, hb⟩
    obtain ⟨a0, a1, a2, a3, a4, d0, d1, d2, d3, d4, n, m, nx, ord, rfl, rfl, rfl, rfl, rfl, gv, g⟩ := hbt.gv hf (by omega)
    refine ⟨_, st, nx, ord, l, hdl, rfl, .inl ⟨hf, n, m, g⟩, fun W h1 h2 => ?_, hb⟩
    exact GR.of_gv ((hbt.held h1 h2).gv2 hf (by omega) g) g
  · have he : errOf code hs ≠ 0 := fun h => hf ((errOf_fits code hs).1 h)
    refine (build_no _ nm pa lo (errOf code hs) A3 A4 c3 c4 code hs w hC hc3 hH hc4 hchk he).mono ?_
    rintro e w' ⟨rfl, hb⟩
    exact ⟨_, [], [], [], [], [], rfl, .inr ⟨hf, rfl, rfl, rfl, rfl, rfl⟩, fun W _ _ => GR.nil _, hb⟩
end
end Go.Proofs.Ytmeaepmimnmjlaa.Ask
/- What the program's Build answers lies apart, list by list. For every world. -/
namespace Go.Proofs.Ytmeaepmimnmjlaa.Ask
open Go.Proofs.Ytmeaepmimnmjlaa.Dfs Go.Proofs.Ytmeaepmimnmjlaa.Dom Go.Proofs.Ytmeaepmimnmjlaa.DomT Go.RowKit Go.Shelf Go.Proofs.Ytmeaepmimnmjlaa.PGb Go.Proofs.Ytmeaepmimnmjlaa.Lit Go.Proofs.Ytmeaepmimnmjlaa.OwnCells Go.Proofs.YtmeaepmimnmjlaaW.PrintWords Go.Proofs.YtmeaepmimnmjlaaW.PrintLast Go.Proofs.YtmeaepmimnmjlaaW.PrintMore
set_option linter.unusedVariables false
set_option linter.unusedSimpArgs false
def ApR (p q : Value × Nat) : Prop := ∀ k, p.1.ownBlock = some k → q.1.ownBlock ≠ some k
theorem ApR.symm {p q : Value × Nat} (h : ApR p q) : ApR q p := fun k hk e => h k e hk
/-- lists of numbers of the call's own, between two blocks, that lie apart -/
structure Apt (W : World) (lo hi : Nat) (ps : List (Value × Nat)) : Prop where
  each : ∀ p ∈ ps, (∃ xs, W.ownsRow lo 3 1 p.1 p.2 xs) ∧ (∀ k, p.1.ownBlock = some k → k < hi) ∧ p.2 ≤ 1048576
  apart : ps.Pairwise ApR
theorem Apt.nil (W : World) (lo hi : Nat) : Apt W lo hi [] := ⟨fun p hp => (by cases hp), List.Pairwise.nil⟩
theorem Apt.one {W : World} {lo hi n : Nat} {v : Value} {xs : List Value} (h : W.ownsRow lo 3 1 v n xs) (hh : ∀ k, v.ownBlock = some k → k < hi) (hn : n ≤ 1048576) : Apt W lo hi [(v, n)] := ⟨fun p hp => by
  rw [List.mem_singleton] at hp
  subst hp
  exact ⟨⟨xs, h⟩, hh, hn⟩, List.pairwise_singleton _ _⟩
theorem Apt.app {W : World} {lo mi hi : Nat} {ps qs : List (Value × Nat)} (h : Apt W lo mi ps) (k : Apt W mi hi qs) (h1 : lo ≤ mi) (h2 : mi ≤ hi) : Apt W lo hi (ps ++ qs) := by
  refine ⟨fun p hp => ?_, List.pairwise_append.2 ⟨h.apart, k.apart, fun p hp q hq j hj e => ?_⟩⟩
  · rcases List.mem_append.1 hp with hp | hp
    · obtain ⟨⟨xs, e1⟩, e2, e3⟩ := h.each p hp
      exact ⟨⟨xs, e1⟩, fun j hj => by have := e2 j hj; omega, e3⟩
    · obtain ⟨⟨xs, e1⟩, e2, e3⟩ := k.each p hp
      exact ⟨⟨xs, own_weaken e1 h1⟩, e2, e3⟩
  · have e1 := (h.each p hp).2.1 j hj
    obtain ⟨xs, e2⟩ := (k.each q hq).1
    have := own_base e2 j e
    omega
theorem Apt.perm {W : World} {lo hi : Nat} {ps qs : List (Value × Nat)} (h : Apt W lo hi ps) (hp : ps.Perm qs) : Apt W lo hi qs := ⟨fun p hq => h.each p (hp.mem_iff.2 hq), (hp.pairwise_iff (fun h => ApR.symm h)).1 h.apart⟩
theorem Apt.below {W W' : World} {lo hi : Nat} {ps : List (Value × Nat)} (h : Apt W lo hi ps) (hb : Below W.heap.size W W') : Apt W' lo hi ps := ⟨fun p hp => by
  obtain ⟨⟨xs, e1⟩, e2, e3⟩ := h.each p hp
  exact ⟨⟨xs, own_move e1 fun k hk => hb.block k (own_lt e1 k hk)⟩, e2, e3⟩, h.apart⟩
theorem Apt.lower {W : World} {lo lo' hi hi' : Nat} {ps : List (Value × Nat)} (h : Apt W lo hi ps) (h1 : lo' ≤ lo) (h2 : hi ≤ hi') : Apt W lo' hi' ps := ⟨fun p hp => by
  obtain ⟨⟨xs, e1⟩, e2, e3⟩ := h.each p hp
  exact ⟨⟨xs, own_weaken e1 h1⟩, fun k hk => by have := e2 k hk; omega, e3⟩, h.apart⟩
/-- a graph's lists -/
structure GMem (lo hi : Nat) (W : World) (g0 g1 g2 g3 g4 : Value) (n0 n2 n3 n4 : Nat) (nr : List (Value × Nat)) : Prop where
  apt : Apt W lo hi ((g0, n0) :: (g2, n2) :: (g3, n3) :: (g4, n4) :: nr)
  nxt : (g1 = .slice none 0 0 ∧ nr = []) ∨ ∃ ga c, g1 = .slice (some ⟨ga, 0, none⟩) nr.length c ∧ W.ownsRow lo 26 1 g1 nr.length (nr.map (·.1))
  small : nr.length ≤ 1048576
theorem GMem.below {lo hi : Nat} {W W' : World} {g0 g1 g2 g3 g4 : Value} {n0 n2 n3 n4 : Nat} {nr : List (Value × Nat)} (h : GMem lo hi W g0 g1 g2 g3 g4 n0 n2 n3 n4 nr) (hb : Below W.heap.size W W') : GMem lo hi W' g0 g1 g2 g3 g4 n0 n2 n3 n4 nr := by
  refine ⟨h.apt.below hb, ?_, h.small⟩
  rcases h.nxt with h1 | ⟨ga, c, h1, h2⟩
  · exact .inl h1
  · exact .inr ⟨ga, c, h1, own_move h2 fun k hk => hb.block k (own_lt h2 k hk)⟩
section
variable {code : List S40} {hs : List S49} {w : World} {nm : ByteArray} {pa lo : Int} {A3 A4 : Option Addr} {c3 c4 : Nat}
theorem graph_mem (hn : code.length ≤ 1048576) (hhn : hs.length ≤ 8796093022208) (hC : k40.C w A3 code.length code) (hc3 : code.length ≤ c3) (hH : k49.C w A4 hs.length hs) (hc4 : hs.length ≤ c4) :
    Calls Try.prog 13 #[.agg #[.string nm, .int .i64 pa, .int .i64 lo, .slice A3 code.length c3, .slice A4 hs.length c4]] w fun e w' => ∃ a0 a1 a2 a3 a4 d0 d1 d2 d3 d4 st nx ord l hd nr, e = .returned (.tuple #[.agg #[.slice a0 st.length d0, .slice a1 nx.length d1, .slice a2 ord.length d2, .slice a3 l.length d3, .slice a4 hd.length d4], .int .i64 (errOf code hs)]) ∧ GZ code hs st nx ord l hd ∧ GR w' (.agg #[.slice a0 st.length d0, .slice a1 nx.length d1, .slice a2 ord.length d2, .slice a3 l.length d3, .slice a4 hd.length d4]) st nx ord l hd ∧ GMem w.heap.size w'.heap.size w' (.slice a0 st.length d0) (.slice a1 nx.length d1) (.slice a2 ord.length d2) (.slice a3 l.length d3) (.slice a4 hd.length d4) st.length ord.length l.length hd.length nr ∧ Below w.heap.size w w' := by
  have hchk := check_f nm pa lo code hs (by omega) (by omega)
  by_cases hf : FitsP code hs
  · rw [(errOf_fits code hs).2 hf] at hchk ⊢
    refine (build_yes _ nm pa lo A3 A4 c3 c4 code hs w hC hc3 hH hc4 hchk hf (by omega) hhn).mono ?_
    rintro e w' ⟨v0, v1, v2, v3, v4, st, hdl, l, rfl, hbt, hb⟩
    obtain ⟨a0, a1, a2, a3, a4, d0, d1, d2, d3, d4, n, m, nx, ord, rfl, rfl, rfl, rfl, rfl, gv, g⟩ := hbt.gv hf (by omega)
    have hG := GR.of_gv gv g
    have e0 := g.ln
    have e1 := g.lnx
    have e2 := g.lord
    have e3 := g.ll
    have e4 := g.lm
    have hsh := g.short
    have hsm := g.shorth
    obtain ⟨b1, b2, b3, b4, b5, ga, vs, i1, i2, i3, i4, i5, i6, ⟨o0, p0⟩, ⟨o4, p4⟩, ⟨ev1, gr, p1, p2⟩, ⟨o3, p3⟩, o2⟩ := hbt.mem
    have hnx := g.nxe
    have hor : (post (nextOf code hs st)).reverse ++ unr (nextOf code hs st) st.length = ord := by rw [← hnx, e0]; exact g.orde.symm
    rw [hor] at o2
    rw [← hnx] at gr
    rw [e0] at gr p2 ev1 o0
    rw [e2] at o2
    rw [e3] at o3
    rw [e4] at o4
    have hvl := gr.vlen
    refine ⟨a0, a1, a2, a3, a4, d0, d1, d2, d3, d4, st, nx, ord, l, hdl, (List.range n).map fun i => (vs.getD i undef, (nx.getD i []).length), ?_, .inl ⟨hf, n, m, g⟩, ?_, ?_, hb⟩
    · rw [e0, e1, e2, e3, e4]
    · (try rw [e0, e1, e2, e3, e4])
      exact hG
    · (try rw [e0, e1, e2, e3, e4])
      (try rw [e0, e2, e3, e4])
      have q0 := Apt.one o0 p0 (by omega)
      have q4 := Apt.one o4 p4 (by omega)
      have qn : Apt w' b2 b3 ((List.range n).map fun i => (vs.getD i undef, (nx.getD i []).length)) := by
        refine ⟨fun p hp => ?_, ?_⟩
        · obtain ⟨i, hi, rfl⟩ := List.mem_map.1 hp
          rw [List.mem_range] at hi
          refine ⟨⟨_, gr.each i hi⟩, p2 i hi, ?_⟩
          have := g.row_len hi
          rw [rd_L3, Int.toNat_natCast] at this
          show (nx.getD i []).length ≤ _
          omega
        · rw [List.pairwise_map]
          refine List.Pairwise.imp_of_mem (R := fun (a b : Nat) => a < b) (fun {a b} ha hb hab => ?_) List.pairwise_lt_range
          rw [List.mem_range] at ha hb
          intro k hk hk2
          rcases gr.apart a b ha hb (by omega) with h | h
          · rw [h] at hk; cases hk
          · exact h (hk.trans hk2.symm)
      have q3 := Apt.one o3 p3 (by omega)
      have q2 := Apt.one o2 (fun k hk => own_lt o2 k hk) (by omega)
      have hall := ((((q0.app q4 i1 i2).app qn (by omega) i3).lower (Nat.le_refl _) i4).app q3 (by omega) i5).app q2 (by omega) i6
      refine ⟨hall.perm ?_, .inr ⟨ga, n, ?_, ?_⟩, by simp; omega⟩
      · generalize ((List.range n).map fun i => (vs.getD i undef, (nx.getD i []).length)) = nr
        simp only [List.cons_append, List.nil_append, List.append_assoc]
        refine List.Perm.cons _ ?_
        refine ((List.perm_append_comm (l₁ := (Value.slice a4 m d4, m) :: nr) (l₂ := [(Value.slice a3 n d3, n), (Value.slice a2 n d2, n)])).trans ?_)
        exact List.Perm.swap _ _ _
      · rw [List.length_map, List.length_range]; exact ev1
      · rw [List.length_map, List.length_range]
        have h9 := own_weaken gr.row (show w.heap.size ≤ b2 by omega)
        have e9 : ((List.range n).map fun i => (vs.getD i undef, (nx.getD i []).length)).map (·.1) = vs := by
          rw [List.map_map]
          apply List.ext_getElem
          · simp [hvl]
          · intro i h1 h2
            simp [List.getD_eq_getElem?_getD, h2]
        rw [e9, ev1]
        exact h9
  · have he : errOf code hs ≠ 0 := fun h => hf ((errOf_fits code hs).1 h)
    refine (build_no _ nm pa lo (errOf code hs) A3 A4 c3 c4 code hs w hC hc3 hH hc4 hchk he).mono ?_
    rintro e w' ⟨rfl, hb⟩
    refine ⟨none, none, none, none, none, 0, 0, 0, 0, 0, [], [], [], [], [], [], rfl, .inr ⟨hf, rfl, rfl, rfl, rfl, rfl⟩, GR.nil _, ⟨⟨fun p hp => ?_, ?_⟩, .inl ⟨rfl, rfl⟩, by simp⟩, hb⟩
    · simp only [List.mem_cons, List.not_mem_nil, or_false] at hp
      have : p = (.slice none 0 0, 0) := by rcases hp with h | h | h | h <;> exact h
      subst this
      exact ⟨⟨[], World.ownsRow_nil _ _ _ _⟩, fun k hk => (by cases hk), by simp⟩
    · have hap : ∀ p : Value × Nat, ApR (.slice none 0 0, 0) p := fun p k hk => by cases hk
      refine List.Pairwise.cons (fun p _ => hap p) (List.Pairwise.cons (fun p _ => hap p) (List.Pairwise.cons (fun p _ => hap p) (List.Pairwise.cons (fun p _ => hap p) List.Pairwise.nil)))
end
end Go.Proofs.Ytmeaepmimnmjlaa.Ask
