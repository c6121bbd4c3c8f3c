/- may, by its meaning. -/
import Derived.Test.YtmeaepmimnmjlaaCaught
namespace Go.Proofs.Ytmeaepmimnmjlaa.Ask
open Go.Proofs.Ytmeaepmimnmjlaa.Dfs Go.Proofs.Ytmeaepmimnmjlaa.Dom Go.Proofs.Ytmeaepmimnmjlaa.DomT Go.RowKit Go.Shelf Go.Proofs.Ytmeaepmimnmjlaa.PGb Go.Proofs.Ytmeaepmimnmjlaa.Lit Go.Proofs.Ytmeaepmimnmjlaa.OwnCells Go.Proofs.YtmeaepmimnmjlaaW.PrintWords Go.Proofs.YtmeaepmimnmjlaaW.PrintLast Go.Proofs.YtmeaepmimnmjlaaW.PrintMore
attribute [local go_sem] Oper.semAt_some
attribute [local go_sem] run_store_fn
attribute [local go_sem] run_eql_fn
set_option linter.unusedVariables false
set_option linter.unusedSimpArgs false
theorem quiet_dr {P : Program} {f : FuncId} {args : Array Value} {w : World} {n : Nat} {v : Value} (h : Calls P f args (w.drewN n) fun e w' => e = .returned v ∧ Drawn0 (w.drewN n) w') : Calls P f args (w.drewN n) fun e w'' => e = .returned v ∧ ∃ m, w'' = w.drewN m := Calls.quiet_of (h.mono fun _ _ h => ⟨h.1, h.2.out⟩)
theorem op_skipD {P : Program} {ops : Array Oper} {Q : Exit → Act → World → Prop} {i : Nat} {o : Oper} {K : Act → World → Prop} {a : Act} {w w' : World} {d : Option Tmp} (hi : ops[i]? = some o) (hg : o.guard = none) (hd : o.dst = d) (hrun : (execOp a.eval o).run P w = .ok .skip w') (h : K (a.put d undef) w') : wpOp P ops Q i K a w := RegInv.op_skip hi hg hrun (hd ▸ h)
/-- block c may come behind block b -/
def MayBe (code : List S40) (hs : List S49) (st : List Int) (b c : Nat) : Prop := ((jumpsP (rd_T40 code (endOf code st b - 1)).f0 = true ∧ (rd_T40 code (endOf code st b - 1)).f1 = rd st (c : Int)) ∨ (stopsP (rd_T40 code (endOf code st b - 1)).f0 = false ∧ c = b + 1)) ∨ CaughtTo code hs st hs.length b c
def dM1 : Nat → Option Tmp
  | 0 => some 10
  | 1 => some 11
  | 2 => some 12
  | 3 => some 13
  | 4 => some 14
  | 5 => some 15
  | 6 => some 16
  | 7 => some 17
  | 8 => some 18
  | 9 => some 9
  | 10 => none
  | _ => none
def FM1 (nm : ByteArray) (pa lo : Int) (ac : Addr) (A4 : Option Addr) (c3 c4 lc lh : Nat) (r0 r1 r2 r3 : Addr) (a4 : Option Addr) (d0 d1 d2 d3 d4 n m FB base b ee e1 : Nat) (x0 x1 : Int) : Nat → World → Value → Prop
  | 0, _, v => v = .pointer (some ⟨FB, 3, none⟩)
  | 1, _, v => v = .slice (some ac) lc c3
  | 2, _, v => v = .agg #[.string nm, .int .i64 pa, .int .i64 lo, .slice (some ac) lc c3, .slice A4 lh c4]
  | 3, _, v => v = .agg #[.slice (some r0) n d0, .slice (some r1) n d1, .slice (some r2) n d2, .slice (some r3) n d3, .slice a4 m d4]
  | 4, _, v => v = .int .i64 (b : Int)
  | 5, _, v => v = .int .i64 (ee : Int)
  | 6, _, v => v = .int .i64 (e1 : Int)
  | 7, _, v => v = .pointer (some (ac.add (e1 * 2)))
  | 8, _, v => v = .agg #[.int .i64 x0, .int .i64 x1]
  | 9, w, v => ∃ k, v = .pointer (some ⟨k, 0, none⟩) ∧ base ≤ k ∧ w.heap[k]? = some (.cells #[.int .i64 0, .int .i64 0] 40 (0, 0))
  | 10, _, v => v = undef
  | _, _, _ => True
theorem FM1_below (nm : ByteArray) (pa lo : Int) (ac : Addr) (A4 : Option Addr) (c3 c4 lc lh : Nat) (r0 r1 r2 r3 : Addr) (a4 : Option Addr) (d0 d1 d2 d3 d4 n m FB base b ee e1 : Nat) (x0 x1 : Int) (i : Nat) (w w1 : World) (v : Value) (h : FM1 nm pa lo ac A4 c3 c4 lc lh r0 r1 r2 r3 a4 d0 d1 d2 d3 d4 n m FB base b ee e1 x0 x1 i w v) (hb : Below w.heap.size w w1) : FM1 nm pa lo ac A4 c3 c4 lc lh r0 r1 r2 r3 a4 d0 d1 d2 d3 d4 n m FB base b ee e1 x0 x1 i w1 v := by
  match i with
  | 0 | 1 | 2 | 3 | 4 | 5 | 6 | 7 | 8 | 10 => exact h
  | 9 => exact (by obtain ⟨k, e, hk, hm⟩ := h; exact ⟨k, e, hk, blk_below hm hb⟩)
  | (n + 11) => exact h
set_option maxRecDepth 100000 in
set_option maxHeartbeats 16000000 in
theorem may_own {code : List S40} {hs : List S49} {n m : Nat} {st : List Int} {nx : List (List Int)} {ord l hd : List Int} {w : World} {a0 a1 a2 a3 a4 : Option Addr} {d0 d1 d2 d3 d4 : Nat} {nm : ByteArray} {pa lo : Int} {A3 A4 : Option Addr} {c3 c4 b c : Nat} (g : GF code hs n m st nx ord l hd) (v : GV w a0 a1 a2 a3 a4 d0 d1 d2 d3 d4 n m st nx ord l hd) (hn : code.length ≤ 8796093022207) (hhn : hs.length ≤ 8796093022208) (hC : k40.C w A3 code.length code) (hc3 : code.length ≤ c3) (hH : k49.C w A4 hs.length hs) (hc4 : hs.length ≤ c4) (hb : b < n) (hc : c < n) :
    Calls Try.prog 25 #[.agg #[.string nm, .int .i64 pa, .int .i64 lo, .slice A3 code.length c3, .slice A4 hs.length c4], .agg #[.slice a0 n d0, .slice a1 n d1, .slice a2 n d2, .slice a3 n d3, .slice a4 m d4], .int .i64 (b : Int), .int .i64 (c : Int)] w fun e w' => ∃ r : Bool, e = .returned (.bool r) ∧ (r = true ↔ MayBe code hs st b c) ∧ Below w.heap.size w w' := by
  have hp := g.pos
  obtain ⟨r0, rfl, _⟩ := Kd.at_int v.r0 0 (by omega) (by omega)
  obtain ⟨r1, _, _, rfl, _⟩ := at_L3 v.r1 0 (by omega) (by omega)
  obtain ⟨r2, rfl, _⟩ := Kd.at_int v.r2 0 (by omega) (by omega)
  obtain ⟨r3, rfl, _⟩ := Kd.at_int v.r3 0 (by omega) (by omega)
  have HC := Aside0.mk hC
  have HH := Aside0.mk hH
  have HC3 := Aside0.mk hc3
  have HC4 := Aside0.mk hc4
  have HN := Aside0.mk hn
  have HHN := Aside0.mk hhn
  have HG := Aside0.mk g
  have HV0 := Aside0.mk v
  have HBN := Aside0.mk hb
  have HCN := Aside0.mk hc
  have hbn : (b : Int) < (n : Int) := by omega
  have hb0 : (0 : Int) ≤ (b : Int) := by omega
  have hcn : (c : Int) < (n : Int) := by omega
  have hc0 : (0 : Int) ≤ (c : Int) := by omega
  clear hC hc3 hH hc4 hn hhn g v hb hc
  have hu25 := Try.underlying25
  have hu29 := Try.underlying29
  have hu40 := Try.underlying40
  have hu49 := Try.underlying49
  go_enter Try.func25, Try.ntmps25
  go_upto_region 1 with (fail)
  obtain ⟨cf, hcf⟩ : ∃ cf : Array Value, (#[.string nm, .int .i64 pa, .int .i64 lo, .slice A3 code.length c3, .slice A4 hs.length c4] : Array Value) = cf := ⟨_, rfl⟩
  obtain ⟨gc, hgc⟩ : ∃ gc : Array Value, (#[.slice (some r0) n d0, .slice (some r1) n d1, .slice (some r2) n d2, .slice (some r3) n d3, .slice a4 m d4] : Array Value) = gc := ⟨_, rfl⟩
  have kf3 : cf[3]? = some (.slice A3 code.length c3) := by rw [← hcf]; rfl
  have kf4 : cf[4]? = some (.slice A4 hs.length c4) := by rw [← hcf]; rfl
  have kf0 : cf[0]? = some (.string nm) := by rw [← hcf]; rfl
  have kf1 : cf[1]? = some (.int .i64 pa) := by rw [← hcf]; rfl
  have kf2 : cf[2]? = some (.int .i64 lo) := by rw [← hcf]; rfl
  have kg0 : gc[0]? = some (.slice (some r0) n d0) := by rw [← hgc]; rfl
  have kg1 : gc[1]? = some (.slice (some r1) n d1) := by rw [← hgc]; rfl
  have kg2 : gc[2]? = some (.slice (some r2) n d2) := by rw [← hgc]; rfl
  have kg3 : gc[3]? = some (.slice (some r3) n d3) := by rw [← hgc]; rfl
  have kg4 : gc[4]? = some (.slice a4 m d4) := by rw [← hgc]; rfl
  have HKG := Aside0.mk (And.intro kg0 (And.intro kg1 (And.intro kg2 (And.intro kg3 kg4))))
  have HKF := Aside0.mk (And.intro kf0 (And.intro kf1 (And.intro kf2 (And.intro kf3 kf4))))
  have hb1 : Below w.heap.size w ((w.alloc (.cells cf 25)).alloc (.cells gc 29)) := below_alloc (below_alloc (Below.refl _ _) _) _
  have HBS : Aside0 (LB w ((w.alloc (.cells cf 25)).alloc (.cells gc 29)) (w.heap.size + 1) cf gc) := ⟨⟨((World.grownBy_alloc (w.alloc _) _ none).block _ (by simp) (by simp)).trans (World.alloc_heap_new w _), by
    have := World.alloc_heap_new (w.alloc (.cells cf 25)) (.cells gc 29)
    rw [World.size_alloc] at this
    exact this, hb1⟩⟩
  have HV := Aside0.mk (HV0.out.below hb1)
  obtain ⟨GB, hGB⟩ : ∃ GB, w.heap.size + 1 = GB := ⟨_, rfl⟩
  rw [hcf, hgc]
  rw [hGB] at HBS ⊢
  have HGC := Aside0.mk hgc
  have HCF := Aside0.mk hcf
  clear kf0 kf1 kf2 kf3 kf4 kg0 kg1 kg2 kg3 kg4 hcf hgc hb1 hGB HV0
  revert HBS HV
  generalize (w.alloc (.cells cf 25)).alloc (.cells gc 29) = W2
  intro HV HBS
  have hin := HG.out.st_in HBN.out
  have hen := HG.out.end_in HBN.out
  obtain ⟨ee, hee⟩ : ∃ ee : Nat, endOf code st b = (ee : Int) := ⟨(endOf code st b).toNat, by omega⟩
  rw [hee] at hen
  obtain ⟨e1, he1⟩ : ∃ e1 : Nat, ee = e1 + 1 := ⟨ee - 1, by omega⟩
  have he0 : (0 : Int) ≤ (e1 : Int) := by omega
  have hec : (e1 : Int) < (code.length : Int) := by omega
  have hz : IntKind.i64.wrap ((ee : Int) - 1) = (e1 : Int) := by rw [i64_w]; have := HN.out; unfold wrap64; omega
  obtain ⟨ac, rfl, h0, h1⟩ := at_T40 (Kd.C_below HC.out HBS.out.below) (e1 : Int) he0 hec
  rw [Int.toNat_natCast] at h0 h1
  have hlast : rd_T40 code (endOf code st b - 1) = rd_T40 code (e1 : Int) := by rw [hee, show ((ee : Int) - 1) = (e1 : Int) by omega]
  obtain ⟨i, hi⟩ : ∃ i, rd_T40 code (e1 : Int) = i := ⟨_, rfl⟩
  rw [hi] at h0 h1 hlast
  obtain ⟨x0, hx0⟩ : ∃ x, i.f0 = x := ⟨_, rfl⟩
  obtain ⟨x1, hx1⟩ : ∃ x, i.f1 = x := ⟨_, rfl⟩
  rw [hx0] at h0
  rw [hx1] at h1
  have HLAST : Aside0 (MayBe code hs st b c ↔ (((jumpsP x0 = true ∧ x1 = rd st (c : Int)) ∨ (stopsP x0 = false ∧ c = b + 1)) ∨ CaughtTo code hs st hs.length b c)) := ⟨by unfold MayBe; rw [hlast, hx0, hx1]⟩
  have HEND : Aside0 (∀ w8 : World, Below W2.heap.size W2 w8 → Calls Try.prog 20 #[.agg #[.string nm, .int .i64 pa, .int .i64 lo, .slice (some ac) code.length c3, .slice A4 hs.length c4], .agg #[.slice (some r0) n d0, .slice (some r1) n d1, .slice (some r2) n d2, .slice (some r3) n d3, .slice a4 m d4], .int .i64 (b : Int)] w8 fun e w' => e = .returned (.int .i64 (ee : Int)) ∧ Below w8.heap.size w8 w') := ⟨fun w8 h8 => by
    have hend := end_own HG.out (HV.out.below h8) HN.out (nm := nm) (pa := pa) (lo := lo) (Kd.C_below (Kd.C_below HC.out HBS.out.below) h8) HC3.out (Kd.C_below (Kd.C_below HH.out HBS.out.below) h8) HC4.out HBN.out
    rw [hee] at hend
    exact hend⟩
  have HQ0 := Aside0.mk h0
  have HQ1 := Aside0.mk h1
  have HE1 := Aside0.mk he1
  clear h0 h1 hlast hi hx0 hx1 hee hen hin he1
  refine RegInv.region_facts_p (by kernel_rfl) (by kernel_rfl) (fun a b => Below a.heap.size a b) (fun a b => Below a.heap.size a b) (fun a b c h k => h.trans (k.mono h.size)) (fun a b h => h) (fun a b c h k => h.trans (k.mono h.size)) (below_drew1 (Below.refl _ _)) dM1 10 99 (by rfl) (by kernel_rfl) (by kernel_rfl) (by kernel_rfl) (FM1 nm pa lo ac A4 c3 c4 code.length hs.length r0 r1 r2 r3 a4 d0 d1 d2 d3 d4 n m w.heap.size W2.heap.size b ee e1 x0 x1) (FM1_below nm pa lo ac A4 c3 c4 code.length hs.length r0 r1 r2 r3 a4 d0 d1 d2 d3 d4 n m w.heap.size W2.heap.size b ee e1 x0 x1) (fun iA wA wB vA _ h hb => FM1_below nm pa lo ac A4 c3 c4 code.length hs.length r0 r1 r2 r3 a4 d0 d1 d2 d3 d4 n m w.heap.size W2.heap.size b ee e1 x0 x1 iA wA wB vA h hb) ?hsM1 ?heM1
  case hsM1 =>
    intro i o aX w8 hltI hi hM
    have hExt := hM.ext
    have q0 := pw_cell_below hExt HQ0.out
    have q1 := pw_cell_below hExt HQ1.out
    have g0 := cell_blk (blk_below HBS.out.gb hExt) HKG.out.1
    have g1 := cell_blk (blk_below HBS.out.gb hExt) HKG.out.2.1
    have g2 := cell_blk (blk_below HBS.out.gb hExt) HKG.out.2.2.1
    have g3 := cell_blk (blk_below HBS.out.gb hExt) HKG.out.2.2.2.1
    have g4 := cell_blk (blk_below HBS.out.gb hExt) HKG.out.2.2.2.2
    have f0 := cell_blk (blk_below HBS.out.fb hExt) HKF.out.1
    have f1 := cell_blk (blk_below HBS.out.fb hExt) HKF.out.2.1
    have f2 := cell_blk (blk_below HBS.out.fb hExt) HKF.out.2.2.1
    have f3 := cell_blk (blk_below HBS.out.fb hExt) HKF.out.2.2.2.1
    have f4 := cell_blk (blk_below HBS.out.fb hExt) HKF.out.2.2.2.2
    rcases i with _ | _ | _ | _ | _ | _ | _ | _ | _ | _ | i
    · cases hi
      have h4 := gdq _ _ _ (show aX.tmps.getD 4 undef = .pointer (some ⟨w.heap.size, 0, none⟩) from hM.off 4 (by kernel_rfl))
      refine RegInv.op_value (by rfl) rfl (v := .pointer (some ⟨w.heap.size, 3, none⟩)) (w' := w8) ?_ ⟨_, rfl, rfl, Below.refl _ _, fun _ => Below.refl _ _⟩
      unfold execOp
      go_simp
    · cases hi
      have h10 := gdq _ _ _ (show aX.tmps.getD 10 undef = .pointer (some ⟨w.heap.size, 3, none⟩) from hM.at_ 0 (by decide) (by kernel_rfl))
      refine RegInv.op_value (by rfl) rfl (v := .slice (some ac) code.length c3) (w' := w8) ?_ ⟨_, rfl, rfl, Below.refl _ _, fun _ => Below.refl _ _⟩
      unfold execOp
      go_simp
    · cases hi
      have h4 := gdq _ _ _ (show aX.tmps.getD 4 undef = .pointer (some ⟨w.heap.size, 0, none⟩) from hM.off 4 (by kernel_rfl))
      refine RegInv.op_value (by rfl) rfl (v := .agg #[.string nm, .int .i64 pa, .int .i64 lo, .slice (some ac) code.length c3, .slice A4 hs.length c4]) (w' := w8) ?_ ⟨_, rfl, rfl, Below.refl _ _, fun _ => Below.refl _ _⟩
      unfold execOp
      go_simp
    · cases hi
      have h5 := gdq _ _ _ (show aX.tmps.getD 5 undef = .pointer (some ⟨GB, 0, none⟩) from hM.off 5 (by kernel_rfl))
      refine RegInv.op_value (by rfl) rfl (v := .agg #[.slice (some r0) n d0, .slice (some r1) n d1, .slice (some r2) n d2, .slice (some r3) n d3, .slice a4 m d4]) (w' := w8) ?_ ⟨_, rfl, rfl, Below.refl _ _, fun _ => Below.refl _ _⟩
      unfold execOp
      go_simp
    · cases hi
      have h2 := gdq _ _ _ (show aX.tmps.getD 2 undef = .int .i64 (b : Int) from hM.off 2 (by kernel_rfl))
      refine RegInv.op_value (by rfl) rfl (v := .int .i64 (b : Int)) (w' := w8) ?_ ⟨_, rfl, rfl, Below.refl _ _, fun _ => Below.refl _ _⟩
      unfold execOp
      go_simp
    · cases hi
      have h12 := gdq _ _ _ (show aX.tmps.getD 12 undef = .agg #[.string nm, .int .i64 pa, .int .i64 lo, .slice (some ac) code.length c3, .slice A4 hs.length c4] from hM.at_ 2 (by decide) (by kernel_rfl))
      have h13 := gdq _ _ _ (show aX.tmps.getD 13 undef = .agg #[.slice (some r0) n d0, .slice (some r1) n d1, .slice (some r2) n d2, .slice (some r3) n d3, .slice a4 m d4] from hM.at_ 3 (by decide) (by kernel_rfl))
      have h14 := gdq _ _ _ (show aX.tmps.getD 14 undef = .int .i64 (b : Int) from hM.at_ 4 (by decide) (by kernel_rfl))
      refine RegInv.op_call (by rfl) rfl Try.func20 (by kernel_rfl) rfl rfl #[.agg #[.string nm, .int .i64 pa, .int .i64 lo, .slice (some ac) code.length c3, .slice A4 hs.length c4], .agg #[.slice (some r0) n d0, .slice (some r1) n d1, .slice (some r2) n d2, .slice (some r3) n d3, .slice a4 m d4], .int .i64 (b : Int)] (by simp [Act.eval, h12, h13, h14]) ?_
      refine (HEND.out w8 hExt).mono ?_
      rintro e w9 ⟨rfl, b9⟩
      exact ⟨_, rfl, _, rfl, rfl, b9, fun _ => b9⟩
    · cases hi
      have h15 := gdq _ _ _ (show aX.tmps.getD 15 undef = .int .i64 (ee : Int) from hM.at_ 5 (by decide) (by kernel_rfl))
      refine RegInv.op_value (by rfl) rfl (v := .int .i64 (e1 : Int)) (w' := w8) ?_ ⟨_, rfl, rfl, Below.refl _ _, fun _ => Below.refl _ _⟩
      unfold execOp
      go_simp <;> (try exact i64_w _)
    · cases hi
      have h11 := gdq _ _ _ (show aX.tmps.getD 11 undef = .slice (some ac) code.length c3 from hM.at_ 1 (by decide) (by kernel_rfl))
      have h16 := gdq _ _ _ (show aX.tmps.getD 16 undef = .int .i64 (e1 : Int) from hM.at_ 6 (by decide) (by kernel_rfl))
      refine RegInv.op_value (by rfl) rfl (v := .pointer (some (ac.add (e1 * 2)))) (w' := w8) ?_ ⟨_, rfl, rfl, Below.refl _ _, fun _ => Below.refl _ _⟩
      unfold execOp
      go_simp
    · cases hi
      have h17 := gdq _ _ _ (show aX.tmps.getD 17 undef = .pointer (some (ac.add (e1 * 2))) from hM.at_ 7 (by decide) (by kernel_rfl))
      refine RegInv.op_value (by rfl) rfl (v := .agg #[.int .i64 x0, .int .i64 x1]) (w' := w8) ?_ ⟨_, rfl, rfl, Below.refl _ _, fun _ => Below.refl _ _⟩
      unfold execOp
      go_simp
    · cases hi
      refine RegInv.op_value (by rfl) rfl (v := .pointer (some ⟨w8.heap.size, 0, none⟩)) (w' := w8.alloc (.cells #[.int .i64 0, .int .i64 0] 40)) ?_ ⟨_, rfl, ⟨w8.heap.size, rfl, hExt.size, World.alloc_heap_new w8 _⟩, below_alloc (Below.refl _ _) _, fun _ => below_alloc (Below.refl _ _) _⟩
      unfold execOp
      go_simp
    · exact absurd hltI (by omega)
  case heM1 =>
    intro vs w8 hExt hvs
    have v0 : vs 0 = .pointer (some ⟨w.heap.size, 3, none⟩) := hvs 0 (by decide)
    have v1 : vs 1 = .slice (some ac) code.length c3 := hvs 1 (by decide)
    have v2 : vs 2 = .agg #[.string nm, .int .i64 pa, .int .i64 lo, .slice (some ac) code.length c3, .slice A4 hs.length c4] := hvs 2 (by decide)
    have v3 : vs 3 = .agg #[.slice (some r0) n d0, .slice (some r1) n d1, .slice (some r2) n d2, .slice (some r3) n d3, .slice a4 m d4] := hvs 3 (by decide)
    have v4 : vs 4 = .int .i64 (b : Int) := hvs 4 (by decide)
    have v5 : vs 5 = .int .i64 (ee : Int) := hvs 5 (by decide)
    have v6 : vs 6 = .int .i64 (e1 : Int) := hvs 6 (by decide)
    have v7 : vs 7 = .pointer (some (ac.add (e1 * 2))) := hvs 7 (by decide)
    have v8 : vs 8 = .agg #[.int .i64 x0, .int .i64 x1] := hvs 8 (by decide)
    obtain ⟨k9, v9, hP9⟩ : ∃ k, vs 9 = .pointer (some ⟨k, 0, none⟩) ∧ W2.heap.size ≤ k ∧ w8.heap[k]? = some (.cells #[.int .i64 0, .int .i64 0] 40 (0, 0)) := hvs 9 (by decide)
    simp only [RegInv.puts, dM1, Act.put, List.range, List.range.loop, List.setIfInBounds_toArray, List.set_cons_zero, List.set_cons_succ, v0, v1, v2, v3, v4, v5, v6, v7, v8, v9]
    clear hvs v0 v1 v2 v3 v4 v5 v6 v7 v8 v9
    obtain ⟨hk0, hkk⟩ := hP9
    have u0 := cell_blk hkk (i := 0) rfl
    have u1 := cell_blk hkk (i := 1) rfl
    have z0 : w8.frozen? ⟨k9, 0, none⟩ = false := by simp [World.frozen?, hkk]
    have z1 : w8.frozen? ⟨k9, 1, none⟩ = false := by simp [World.frozen?, hkk]
    have hb3 : Below W2.heap.size W2 ((w8.setCell ⟨k9, 0, none⟩ (.int .i64 x0)).setCell ⟨k9, 1, none⟩ (.int .i64 x1)) := (hExt.setCell (p := ⟨k9, 0, none⟩) hk0 _).setCell (p := ⟨k9, 1, none⟩) hk0 _
    have HX := Aside0.mk (blk_set (j := 1) (v := .int .i64 x1) (blk_set (j := 0) (v := .int .i64 x0) hkk))
    refine op_skipD (d := none) (w' := (w8.setCell ⟨k9, 0, none⟩ (.int .i64 x0)).setCell ⟨k9, 1, none⟩ (.int .i64 x1)) (by rfl) rfl rfl ?_ ?_
    · unfold execOp
      go_simp
    · have HBS3 := Aside0.mk (HBS.out.from_ hb3)
      have HV3 := Aside0.mk (HV.out.below hb3)
      clear u0 u1 z0 z1 hb3 hk0 hkk hExt HQ0 HQ1 HEND HBS HV
      simp only [Act.put]
      revert HX HBS3 HV3
      generalize (w8.setCell ⟨k9, 0, none⟩ (.int .i64 x0)).setCell ⟨k9, 1, none⟩ (.int .i64 x1) = W3
      intro HX HBS3 HV3
      go_upto_region 2 with (fail)
      have v0 := cell_blk HX.out (i := 0) rfl
      have v1 := cell_blk HX.out (i := 1) rfl
      have g0 := cell_blk HBS3.out.gb HKG.out.1
      obtain ⟨z, e0, q1⟩ := Kd.at_int HV3.out.r0 (c : Int) hc0 hcn
      cases e0
      rw [Int.toNat_natCast] at q1
      obtain ⟨sc, hsc⟩ : ∃ sc, rd st (c : Int) = sc := ⟨_, rfl⟩
      rw [hsc] at q1
      have HSC := Aside0.mk hsc
      obtain ⟨b1, hb1⟩ : ∃ b1 : Nat, b1 = b + 1 := ⟨_, rfl⟩
      have hw1 : IntKind.i64.wrap ((b : Int) + 1) = (b1 : Int) := by rw [i64_w]; have := HN.out; have := HG.out.short; unfold wrap64; omega
      have HB1 := Aside0.mk hb1
      obtain ⟨jb, hjb⟩ : ∃ x, jumpsP x0 = x := ⟨_, rfl⟩
      obtain ⟨sb, hsb⟩ : ∃ x, stopsP x0 = x := ⟨_, rfl⟩
      have hjf : portagelaw09_jumps.f x0 = some jb := by rw [ljumps_f, hjb]
      have hsf : portagelaw09_stops.f x0 = some sb := by rw [lstops_f, hsb]
      have HJB := Aside0.mk hjb
      have HSB := Aside0.mk hsb
      have HJF := Aside0.mk hjf
      have HSF := Aside0.mk hsf
      clear hsc hb1 hjb hsb hjf hsf hz
      go_cut [43] (fun v43 wc => ∃ t : Bool, v43 = .bool t ∧ (t = true ↔ ((jumpsP x0 = true ∧ x1 = sc) ∨ (stopsP x0 = false ∧ c = b + 1))) ∧ Below W3.heap.size W3 wc)
      case first =>
        cases jb with
        | true =>
          by_cases h1 : x1 = sc
          · have t1 : (x1 == sc) = true := by simpa using h1
            have H1 := Aside0.mk h1
            clear h1
            go_big_quiet (first | (go_at_call 23; exact quiet_dr (portagelaw09_jumps.calls _ _ _ HJF.out)) | (go_at_call 56; exact quiet_dr (portagelaw09_stops.calls _ _ _ HSF.out)))
            go_wp2_with (fail)
            go_meet
            case rel => exact ⟨true, rfl, ⟨fun _ => .inl ⟨HJB.out, H1.out⟩, fun _ => rfl⟩, pw_below_drewN (Below.refl _ _) _⟩
          · have t1 : (x1 == sc) = false := by simpa using h1
            have H1 := Aside0.mk h1
            clear h1
            cases sb with
            | true =>
              go_big_quiet (first | (go_at_call 23; exact quiet_dr (portagelaw09_jumps.calls _ _ _ HJF.out)) | (go_at_call 56; exact quiet_dr (portagelaw09_stops.calls _ _ _ HSF.out)))
              go_wp2_with (fail)
              go_meet
              case rel => exact ⟨false, rfl, ⟨fun h => (by cases h), fun h => (by rcases h with h | h; exact absurd h (fun h => H1.out h.2); exact absurd (h.1.symm.trans HSB.out) (by decide))⟩, pw_below_drewN (Below.refl _ _) _⟩
            | false =>
              by_cases h2 : c = b1
              · have t2 : ((c : Int) == (b1 : Int)) = true := by simp; omega
                have t2' : (c == b1) = true := by simpa using h2
                have H2 := Aside0.mk h2
                clear h2
                go_big_quiet (first | (go_at_call 23; exact quiet_dr (portagelaw09_jumps.calls _ _ _ HJF.out)) | (go_at_call 56; exact quiet_dr (portagelaw09_stops.calls _ _ _ HSF.out)))
                go_wp2_with (fail)
                go_meet
                case rel => exact ⟨true, rfl, ⟨fun _ => .inr ⟨HSB.out, by have := H2.out; have := HB1.out; omega⟩, fun _ => rfl⟩, pw_below_drewN (Below.refl _ _) _⟩
              · have t2 : ((c : Int) == (b1 : Int)) = false := by simp; omega
                have t2' : (c == b1) = false := by simpa using h2
                have H2 := Aside0.mk h2
                clear h2
                go_big_quiet (first | (go_at_call 23; exact quiet_dr (portagelaw09_jumps.calls _ _ _ HJF.out)) | (go_at_call 56; exact quiet_dr (portagelaw09_stops.calls _ _ _ HSF.out)))
                go_wp2_with (fail)
                go_meet
                case rel => exact ⟨false, rfl, ⟨fun h => (by cases h), fun h => (by rcases h with h | h; exact absurd h (fun h => H1.out h.2); exact absurd h.2 (by have := H2.out; have := HB1.out; omega))⟩, pw_below_drewN (Below.refl _ _) _⟩
        | false =>
          cases sb with
          | true =>
            go_big_quiet (first | (go_at_call 23; exact quiet_dr (portagelaw09_jumps.calls _ _ _ HJF.out)) | (go_at_call 56; exact quiet_dr (portagelaw09_stops.calls _ _ _ HSF.out)))
            go_wp2_with (fail)
            go_meet
            case rel => exact ⟨false, rfl, ⟨fun h => (by cases h), fun h => (by rcases h with h | h; exact absurd h (fun h => absurd (h.1.symm.trans HJB.out) (by decide)); exact absurd (h.1.symm.trans HSB.out) (by decide))⟩, pw_below_drewN (Below.refl _ _) _⟩
          | false =>
            by_cases h2 : c = b1
            · have t2 : ((c : Int) == (b1 : Int)) = true := by simp; omega
              have t2' : (c == b1) = true := by simpa using h2
              have H2 := Aside0.mk h2
              clear h2
              go_big_quiet (first | (go_at_call 23; exact quiet_dr (portagelaw09_jumps.calls _ _ _ HJF.out)) | (go_at_call 56; exact quiet_dr (portagelaw09_stops.calls _ _ _ HSF.out)))
              go_wp2_with (fail)
              go_meet
              case rel => exact ⟨true, rfl, ⟨fun _ => .inr ⟨HSB.out, by have := H2.out; have := HB1.out; omega⟩, fun _ => rfl⟩, pw_below_drewN (Below.refl _ _) _⟩
            · have t2 : ((c : Int) == (b1 : Int)) = false := by simp; omega
              have t2' : (c == b1) = false := by simpa using h2
              have H2 := Aside0.mk h2
              clear h2
              go_big_quiet (first | (go_at_call 23; exact quiet_dr (portagelaw09_jumps.calls _ _ _ HJF.out)) | (go_at_call 56; exact quiet_dr (portagelaw09_stops.calls _ _ _ HSF.out)))
              go_wp2_with (fail)
              go_meet
              case rel => exact ⟨false, rfl, ⟨fun h => (by cases h), fun h => (by rcases h with h | h; exact absurd h (fun h => absurd (h.1.symm.trans HJB.out) (by decide)); exact absurd h.2 (by have := H2.out; have := HB1.out; omega))⟩, pw_below_drewN (Below.refl _ _) _⟩
      case rest =>
        obtain ⟨t, rfl, ht, hbc⟩ := hcut
        have HT := Aside0.mk ht
        have HBS4 := Aside0.mk (HBS3.out.from_ hbc)
        have HV4 := Aside0.mk (HV3.out.below hbc)
        clear ht hbc HBS3 HV3 HX v0 v1 g0 q1 hw1
        cases t with
        | true =>
          go_wp2_with (fail)
          go_ret
          first
          | exact .inr ⟨rfl, HLAST.out.2 (.inl (by rw [HSC.out]; exact HT.out.1 (by first | rfl | trivial))), HBS4.out.below⟩
          | exact ⟨true, rfl, ⟨fun _ => HLAST.out.2 (.inl (by rw [HSC.out]; exact HT.out.1 (by first | rfl | trivial))), fun _ => rfl⟩, HBS4.out.below⟩
        | false =>
          have f0 := cell_blk HBS4.out.fb HKF.out.1
          have f1 := cell_blk HBS4.out.fb HKF.out.2.1
          have f2 := cell_blk HBS4.out.fb HKF.out.2.2.1
          have f3 := cell_blk HBS4.out.fb HKF.out.2.2.2.1
          have f4 := cell_blk HBS4.out.fb HKF.out.2.2.2.2
          have g0 := cell_blk HBS4.out.gb HKG.out.1
          have g1 := cell_blk HBS4.out.gb HKG.out.2.1
          have g2 := cell_blk HBS4.out.gb HKG.out.2.2.1
          have g3 := cell_blk HBS4.out.gb HKG.out.2.2.2.1
          have g4 := cell_blk HBS4.out.gb HKG.out.2.2.2.2
          go_wp2_with (fail)
          refine (caught_own HG.out HV4.out HN.out HHN.out (Kd.C_below HC.out HBS4.out.below) HC3.out (Kd.C_below HH.out HBS4.out.below) HC4.out HBN.out HCN.out).mono ?_
          rintro e w5 ⟨r, rfl, hr, hb5⟩
          have HR := Aside0.mk hr
          have HB5 := Aside0.mk (HBS4.out.from_ hb5).below
          clear hr hb5 f0 f1 f2 f3 f4 g0 g1 g2 g3 g4 HBS4 HV4
          go_wp2_with (fail)
          go_ret
          refine ⟨r, rfl, ⟨fun h => HLAST.out.2 (.inr (HR.out.1 h)), fun h => HR.out.2 ((HLAST.out.1 h).resolve_left (fun h2 => ?_))⟩, HB5.out⟩
          rw [HSC.out] at h2
          exact absurd (HT.out.2 h2) (by decide)
end Go.Proofs.Ytmeaepmimnmjlaa.Ask
