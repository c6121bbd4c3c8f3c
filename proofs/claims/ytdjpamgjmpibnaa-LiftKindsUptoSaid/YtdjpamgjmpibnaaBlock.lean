/- handBlock: the same block, with marks; what it leaves. For every world. -/
import Derived.Test.YtdjpamgjmpibnaaShapes
namespace Go.Proofs.Ytdjpamgjmpibnaa.PHc
open Go.RowKit Go.Proofs.Ytdjpamgjmpibnaa.Lit Go.Proofs.Ytdjpamgjmpibnaa.OwnCells Go.Proofs.YtdjpamgjmpibnaaW.PrintWords Go.Proofs.YtdjpamgjmpibnaaW.PrintLast Go.Proofs.YtdjpamgjmpibnaaW.PrintMore
set_option linter.unusedVariables false
set_option linter.unusedSimpArgs false
theorem inf52 : (Try.prog.info? 52).map (fun i => (i.zero, i.size, i.bytes)) = some (some (.agg #[(.int .i64 0), (.int .i64 0), (.int .i64 0), (.slice none 0 0), (.int .i64 0), (.int .i64 0), (.int .i64 0), (.slice none 0 0)]), 8, 96) := by kernel_rfl
theorem inf3 : (Try.prog.info? 3).map (fun i => (i.zero, i.size, i.bytes)) = some (some (.int .i64 0), 1, 8) := by kernel_rfl
def costI (l : List S52) : Nat := (l.map fun x => 1 + x.f7.length).sum
theorem costI_succ {l : List S52} {k : Nat} (h : k < l.length) : costI (l.take (k + 1)) = costI (l.take k) + (1 + l[k].f7.length) := by
  unfold costI
  rw [List.take_succ_eq_append_getElem h, List.map_append, List.sum_append]; simp
theorem costI_le (l : List S52) (k : Nat) : costI (l.take k) ≤ costI l := by
  have e : costI l = costI (l.take k) + costI (l.drop k) := by
    unfold costI
    rw [← List.sum_append, ← List.map_append, List.take_append_drop]
  omega
structure SmallB (b : S25) : Prop where
  ins : b.f1.length ≤ 1048576
  next : b.f2.length ≤ 1048576
  args : ∀ x ∈ b.f1, x.f3.length ≤ 1048576
  exit : ∀ x ∈ b.f1, SmallS x.f7
def set3 (w : World) (g : Nat) (a0 a1 a2 : Value) : World := ((w.setCell ⟨g, 0, none⟩ a0).setCell ⟨g, 1, none⟩ a1).setCell ⟨g, 2, none⟩ a2
theorem set3_grown (w : World) (g : Nat) (a0 a1 a2 : Value) : w.grownBy (set3 w g a0 a1 a2) (some g) :=
  ⟨rfl, rfl, rfl, by simp [set3, World.setCell], fun k _ hne => by
    have h : k ≠ g := fun e => hne (by rw [e])
    exact (Below.heap_setCell _ ⟨g, 2, none⟩ a2 k h).trans ((Below.heap_setCell _ ⟨g, 1, none⟩ a1 k h).trans (Below.heap_setCell w ⟨g, 0, none⟩ a0 k h))⟩
theorem set3_R {α : Type} {d : Kd α} {e base : Nat} {w : World} {v : Value} {xs : List α} (h : d.R e w base (fun _ => True) v xs) {g t : Nat} {cells : Array Value} (hb : w.heap[g]? = some (.cells cells t (0, 0))) (ht : ∀ q, q ∈ e :: d.E → q ≠ t) (a0 a1 a2 : Value) : d.R e (set3 w g a0 a1 a2) base (fun _ => True) v xs :=
  Kd.R_mono (Kd.R_grown (Kd.R_types h hb ht) (set3_grown w g a0 a1 a2) (fun k hk he => hk.2 (by injection he))) (fun _ _ => trivial)
theorem set3_blk {w : World} {g : Nat} {t : TypeId} {x0 x1 x2 : Value} (h : w.heap[g]? = some (.cells #[x0, x1, x2] t (0, 0))) (a0 a1 a2 : Value) : (set3 w g a0 a1 a2).heap[g]? = some (.cells #[a0, a1, a2] t (0, 0)) :=
  blk_put (blk_put (blk_put h 0 a0 (cs' := #[a0, x1, x2]) rfl) 1 a1 (cs' := #[a0, a1, x2]) rfl) 2 a2 rfl
def dHB26 : Nat → Option Tmp
  | 0 => some 118
  | 1 => some 119
  | 2 => some 120
  | 3 => some 121
  | 4 => some 122
  | 5 => some 123
  | 6 => some 124
  | 7 => some 125
  | 8 => some 126
  | 9 => some 127
  | 10 => some 128
  | 11 => some 129
  | 12 => some 130
  | _ => none
def FHB26 (g3 nI nN nIf nNf : Nat) (pc : Int) (A1 A2 PI PN : Option Addr) (c1 c2 dI dN : Nat) : Nat → World → Value → Prop
  | 0, _, v => v = .pointer (some ⟨g3, 0, none⟩)
  | 1, _, v => v = .int .i64 pc
  | 2, _, v => v = .slice PI nIf dI
  | 3, _, v => v = .pointer (some ⟨g3, 1, none⟩)
  | 4, _, v => v = .slice A1 nI c1
  | 5, _, v => v = .int .i64 (nI : Int)
  | 6, _, v => v = .slice PI nI dI
  | 7, _, v => v = .slice PN nNf dN
  | 8, _, v => v = .pointer (some ⟨g3, 2, none⟩)
  | 9, _, v => v = .slice A2 nN c2
  | 10, _, v => v = .int .i64 (nN : Int)
  | 11, _, v => v = .slice PN nN dN
  | 12, _, v => v = .agg #[.int .i64 pc, .slice PI nI dI, .slice PN nN dN]
  | _, _, _ => True
theorem FHB26_below (g3 nI nN nIf nNf : Nat) (pc : Int) (A1 A2 PI PN : Option Addr) (c1 c2 dI dN : Nat) (i : Nat) (w w1 : World) (v : Value) (h : FHB26 g3 nI nN nIf nNf  pc  A1 A2 PI PN  c1 c2 dI dN  i w v) (hb : Below w.heap.size w w1) : FHB26 g3 nI nN nIf nNf  pc  A1 A2 PI PN  c1 c2 dI dN  i w1 v := by
  match i with
  | 0 | 1 | 2 | 3 | 4 | 5 | 6 | 7 | 8 | 9 | 10 | 11 | 12 => exact h
  | (n + 13) => exact h
set_option maxHeartbeats 16000000 in
set_option maxRecDepth 100000 in
theorem hand_block (w0 : World) (g : Nat) (b : S25) (A1 A2 : Option Addr) (c1 c2 : Nat) (w : World) (vO vS vN vI vB : Value) (O : List (List S70)) (S : List (List S72)) (NX : List (List Int)) (I : List (List S52)) (B : List S25)
    (hI : k52.C w0 A1 b.f1.length b.f1) (hcI : b.f1.length ≤ c1) (hN : (Kd.int .i64).C w0 A2 b.f2.length b.f2) (hcN : b.f2.length ≤ c2) (hs : SmallB b) (hb : Below w0.heap.size w0 w) (hH : H w0.heap.size g (fun _ => True) (fun _ => True) (fun _ => True) (fun _ => True) (fun _ => True) w vO vS vN vI vB O S NX I B) (hOl : O.length + costI b.f1 ≤ 2199023255552) (hSl : S.length + b.f1.length ≤ 2199023255552) (hNl : NX.length + 1 ≤ 2199023255552) (hIl : I.length + 1 ≤ 2199023255552) :
    Calls Try.prog 15 #[.pointer (some ⟨g, 0, none⟩), .agg #[.int .i64 b.f0, .slice A1 b.f1.length c1, .slice A2 b.f2.length c2]] w fun e w' => ∃ PI dI PN dN vO' vS' vN' vI' O' S' NX' I', e = .returned (.agg #[.int .i64 b.f0, .slice PI b.f1.length dI, .slice PN b.f2.length dN]) ∧ k52.R 52 w' w.heap.size (fun _ => True) (.slice PI b.f1.length dI) b.f1 ∧ (Kd.int .i64).R 3 w' w.heap.size (fun _ => True) (.slice PN b.f2.length dN) b.f2 ∧ H w0.heap.size g (fun _ => True) (fun _ => True) (fun _ => True) (fun _ => True) (fun _ => True) w' vO' vS' vN' vI' vB O' S' NX' I' B ∧ O'.length = O.length + costI b.f1 ∧ S'.length = S.length + b.f1.length ∧ NX'.length = NX.length + 1 ∧ I'.length = I.length + 1 ∧ Below w0.heap.size w0 w' := by
  have HI := Aside0.mk hI
  have HCI0 := Aside0.mk hcI
  have HN := Aside0.mk hN
  have HCN0 := Aside0.mk hcN
  have HSM := Aside0.mk hs
  have HN0 := Aside0.mk hb.size
  have hli := hs.ins
  have hln := hs.next
  obtain ⟨i52, hi52, _⟩ := Option.map_eq_some_iff.1 inf52
  obtain ⟨i70, hi70, _⟩ := Option.map_eq_some_iff.1 info70
  obtain ⟨i72, hi72, _⟩ := Option.map_eq_some_iff.1 inf72
  obtain ⟨i3, hi3, _⟩ := Option.map_eq_some_iff.1 inf3
  have HI52 := Aside0.mk hi52
  have HI70 := Aside0.mk hi70
  have HI72 := Aside0.mk hi72
  have HI3 := Aside0.mk hi3
  have HSZ := Aside0.mk (And.intro hOl (And.intro hSl (And.intro hNl hIl)))
  have HST := Aside0.mk (hH.mono (qO := fun _ => True) (qS := fun _ => True) (qN := fun k => k < w.heap.size) (qI := fun k => k < w.heap.size) (qB := fun k => k < w.heap.size) (fun _ _ _ => trivial) (fun _ _ _ => trivial) (fun _ _ h => h) (fun _ _ h => h) (fun _ _ h => h))
  have HBB := Aside0.mk hb
  clear hI hN hs hOl hSl hNl hIl hH hb hcI hcN hi52 hi70 hi72 hi3
  go_enter Try.func15, Try.ntmps15
  go_upto_region 1 with (fail)
  have hb2 := bodies w (.cells #[.int .i64 b.f0, .slice A1 b.f1.length c1, .slice A2 b.f2.length c2] 25)
  have hb3 := bodies (w.alloc (.cells #[.int .i64 b.f0, .slice A1 b.f1.length c1, .slice A2 b.f2.length c2] 25)) (.cells #[.int .i64 0, .slice none 0 0, .slice none 0 0] 25)
  have K3 := blk_below (blk_new w (.cells #[.int .i64 b.f0, .slice A1 b.f1.length c1, .slice A2 b.f2.length c2] 25)) hb3
  have K4 := blk_new (w.alloc (.cells #[.int .i64 b.f0, .slice A1 b.f1.length c1, .slice A2 b.f2.length c2] 25)) (.cells #[.int .i64 0, .slice none 0 0, .slice none 0 0] 25)
  rw [World.size_alloc] at K4
  have hbb := hb2.trans (hb3.mono hb2.size)
  replace HST := Aside0.mk (HST.out.below hbb)
  replace HBB := Aside0.mk (HBB.out.trans (hbb.mono HBB.out.size))
  have HSW := Aside0.mk hbb.size
  clear hb2 hb3 hbb
  generalize (w.alloc (.cells #[.int .i64 b.f0, .slice A1 b.f1.length c1, .slice A2 b.f2.length c2] 25)).alloc (.cells #[.int .i64 0, .slice none 0 0, .slice none 0 0] 25) = w1 at *
  obtain ⟨g4, hg4⟩ : ∃ q, q = w.heap.size + 1 := ⟨_, rfl⟩
  obtain ⟨g3, hg3⟩ : ∃ q, q = w.heap.size := ⟨_, rfl⟩
  rw [← hg4] at K4 ⊢
  rw [← hg3] at K3 ⊢
  have HG3 := Aside0.mk (show w.heap.size ≤ g3 by omega)
  have HG4 := Aside0.mk (show w.heap.size ≤ g4 by omega)
  have HNE := Aside0.mk (show g3 ≠ g4 by omega)
  have HK3 := Aside0.mk K3
  have HK4 := Aside0.mk K4
  clear hg3 hg4 K3 K4
  go_wp2_with (fail)
  go_loopw [5, 6] (fun v t wr => ∃ k : Nat, k ≤ b.f2.length ∧ t = .int .i64 k ∧ H w0.heap.size g (fun _ => True) (fun _ => True) (fun k => k < w.heap.size) (fun k => k < w.heap.size) (fun k => k < w.heap.size) wr vO vS vN vI vB O S NX I B ∧ (Kd.int .i64).R 3 wr w.heap.size (fun _ => True) v (b.f2.take k) ∧ Below w0.heap.size w0 wr ∧ w.heap.size ≤ wr.heap.size ∧ wr.heap[g3]? = some (.cells #[.int .i64 b.f0, .slice A1 b.f1.length c1, .slice A2 b.f2.length c2] 25 (0, 0)) ∧ wr.heap[g4]? = some (.cells #[.int .i64 0, .slice none 0 0, .slice none 0 0] 25 (0, 0))) (fun _ t _ => b.f2.length - (intOf t).toNat)
  case atStart => exact ⟨0, Nat.zero_le _, rfl, HST.out, Kd.R_nil _ _ _ _ _, HBB.out, HSW.out, HK3.out, HK4.out⟩
  case round =>
    clear HST HBB HSW HK3 HK4
    obtain ⟨k, hk, rfl, hH, hR, hb, hsz, hk3, hk4⟩ := hrel
    have HST := Aside0.mk hH
    have HR := Aside0.mk hR
    have HBB := Aside0.mk hb
    have HSW := Aside0.mk hsz
    have HK3 := Aside0.mk hk3
    have HK4 := Aside0.mk hk4
    clear hH hR hb hsz hk3 hk4
    obtain ⟨PV, mV, dV, rfl⟩ : ∃ P m d, u5 = .slice P m d := let ⟨A, c, h, _⟩ := Kd.R_reads HR.out; ⟨_, _, _, h⟩
    have q2 : wr.cell? ⟨g3, 2, none⟩ = some (.slice A2 b.f2.length c2) := blk_cell HK3.out 2
    by_cases hlt : k < b.f2.length
    · obtain ⟨ad, rfl, x0⟩ := Kd.at_int HN.out (k : Int) (by omega) (by omega)
      rw [Int.toNat_natCast] at x0
      have hxe : b.f2.take k ++ [rd b.f2 (k : Int)] = b.f2.take (k + 1) := by
        rw [List.take_succ_eq_append_getElem hlt]
        unfold rd
        rw [Int.toNat_natCast, List.getD_eq_getElem?_getD, List.getElem?_eq_getElem hlt]; rfl
      generalize rd b.f2 (k : Int) = x at *
      have HXE := Aside0.mk hxe
      clear hxe
      replace x0 := pw_cell_below HBB.out x0
      go_wp2_with (first | ((with_reducible refine gate_builtin (b := .append) rfl ?_); refine Classical.byContradiction (fun hcon => ?hstA)) | go_in)
      refine hcon ?_
      clear hcon x0 q2
      refine Kd.R_append (Kd.int .i64) (w0 := wr) w.heap.size rfl _ _ 23 3 (.int .i64 0) 8 rfl Try.underlying23 (by kernel_rfl) rfl (by decide) (by decide) (.slice PV mV dV) (b.f2.take k) x [.int .i64 x] (fun _ => True) (fun _ => False) rfl rfl rfl (fun _ h => h.elim) (fun _ _ => trivial) HR.out (Below.refl _ _) HSW.out (by rw [List.length_take]; omega) ?_
      intro v1 w7 hR1 _ hg1 _
      rw [HXE.out] at hR1
      have HB7 := Aside0.mk (HBB.out.grown hg1 (Nat.le_trans HN0.out HSW.out) (fun q hq => Nat.le_trans HN0.out (Kd.R_base HR.out q hq)))
      have HH7 := Aside0.mk (HST.out.grown (e := 3) (b' := w.heap.size) hg1 (Kd.R_typed HR.out) (Kd.R_base HR.out) (by decide) (.inl (by decide)) (.inl (by decide)) (.inr (fun _ h => h)) (.inl (by decide)) (.inr (fun _ h => h)))
      have HR7 := Aside0.mk hR1
      have HS7 := Aside0.mk (Nat.le_trans HSW.out hg1.size)
      have HK37 := Aside0.mk (blk_grown HK3.out hg1 (Kd.R_ne HR.out HK3.out (by decide)))
      have HK47 := Aside0.mk (blk_grown HK4.out hg1 (Kd.R_ne HR.out HK4.out (by decide)))
      clear hR1 hg1 HBB HST HR HSW HK3 HK4
      go_wp2
      go_roundw
      case rel => exact ⟨k + 1, by omega, by go_num, HH7.out, HR7.out, HB7.out, HS7.out, HK37.out, HK47.out⟩
      case measure => simp [intOf]; omega
    · obtain rfl : k = b.f2.length := by omega
      rw [List.take_length] at HR
      go_wp2_with (fail)
      clear hlt hk q2
      generalize wr = wM at *
      go_loopw [5, 7] (fun v t wr => ∃ k : Nat, k ≤ 16 ∧ t = .int .i64 k ∧ H w0.heap.size g (fun _ => True) (fun _ => True) (fun k => k < w.heap.size) (fun k => k < w.heap.size) (fun k => k < w.heap.size) wr vO vS vN vI vB O S NX I B ∧ (Kd.int .i64).R 3 wr w.heap.size (fun _ => True) v (b.f2 ++ (List.range' 0 k).map mkN) ∧ Below w0.heap.size w0 wr ∧ w.heap.size ≤ wr.heap.size ∧ wr.heap[g3]? = some (.cells #[.int .i64 b.f0, .slice A1 b.f1.length c1, .slice A2 b.f2.length c2] 25 (0, 0)) ∧ wr.heap[g4]? = some (.cells #[.int .i64 0, .slice none 0 0, .slice none 0 0] 25 (0, 0))) (fun _ t _ => 16 - (intOf t).toNat)
      case atStart => exact ⟨0, by omega, rfl, HST.out, by simpa using HR.out, HBB.out, HSW.out, HK3.out, HK4.out⟩
      case round =>
        clear HST HR HBB HSW HK3 HK4
        obtain ⟨i, hi, rfl, hH, hR, hb, hsz, hk3, hk4⟩ := hrel
        have HST := Aside0.mk hH
        have HR := Aside0.mk hR
        have HBB := Aside0.mk hb
        have HSW := Aside0.mk hsz
        have HK3 := Aside0.mk hk3
        have HK4 := Aside0.mk hk4
        clear hH hR hb hsz hk3 hk4
        obtain ⟨PV, mV, dV, rfl⟩ : ∃ P m d, u5 = .slice P m d := let ⟨A, c, h, _⟩ := Kd.R_reads HR.out; ⟨_, _, _, h⟩
        by_cases hlt : i < 16
        · go_wp2_with (first | ((with_reducible refine gate_builtin (b := .append) rfl ?_); refine Classical.byContradiction (fun hcon => ?hstB)) | go_in)
          refine hcon ?_
          clear hcon
          refine Kd.R_append (Kd.int .i64) (w0 := wr) w.heap.size rfl _ _ 23 3 (.int .i64 0) 8 rfl Try.underlying23 (by kernel_rfl) rfl (by decide) (by decide) (.slice PV mV dV) (b.f2 ++ (List.range' 0 i).map mkN) (mkN i) [.int .i64 (mkN i)] (fun _ => True) (fun _ => False) rfl rfl rfl (fun _ h => h.elim) (fun _ _ => trivial) HR.out (Below.refl _ _) HSW.out (by simp; omega) ?_
          intro v1 w7 hR1 _ hg1 _
          rw [← full_snoc] at hR1
          have HB7 := Aside0.mk (HBB.out.grown hg1 (Nat.le_trans HN0.out HSW.out) (fun q hq => Nat.le_trans HN0.out (Kd.R_base HR.out q hq)))
          have HH7 := Aside0.mk (HST.out.grown (e := 3) (b' := w.heap.size) hg1 (Kd.R_typed HR.out) (Kd.R_base HR.out) (by decide) (.inl (by decide)) (.inl (by decide)) (.inr (fun _ h => h)) (.inl (by decide)) (.inr (fun _ h => h)))
          have HR7 := Aside0.mk hR1
          have HS7 := Aside0.mk (Nat.le_trans HSW.out hg1.size)
          have HK37 := Aside0.mk (blk_grown HK3.out hg1 (Kd.R_ne HR.out HK3.out (by decide)))
          have HK47 := Aside0.mk (blk_grown HK4.out hg1 (Kd.R_ne HR.out HK4.out (by decide)))
          clear hR1 hg1 HBB HST HR HSW HK3 HK4
          go_wp2
          go_roundw
          case rel => exact ⟨i + 1, by omega, by go_num, HH7.out, HR7.out, HB7.out, HS7.out, HK37.out, HK47.out⟩
          case measure => simp [intOf]; omega
        · obtain rfl : i = 16 := by omega
          obtain ⟨PS, mS, dS, rfl⟩ : ∃ P m d, vN = .slice P m d := let ⟨A, c, h, _⟩ := Kd.R_reads HST.out.rn; ⟨_, _, _, h⟩
          have p5 : wr.cell? ⟨g, 5, none⟩ = some (.slice PS mS dS) := blk_cell HST.out.blk 5
          have HF : Aside0 ((Kd.int .i64).R 3 wr w.heap.size (fun _ => True) (.slice PV mV dV) (full mkN b.f2)) := ⟨HR.out⟩
          have HST' := Aside0.mk (HST.out.mono (qO := fun _ => True) (qS := fun _ => True) (qN := fun _ => True) (qI := fun k => k < w.heap.size) (qB := fun k => k < w.heap.size) (fun _ _ _ => trivial) (fun _ _ _ => trivial) (fun _ _ _ => trivial) (fun _ h _ => h) (fun _ h _ => h))
          clear HST HR
          go_wp2_with (first | ((with_reducible refine gate_builtin (b := .append) rfl ?_); refine Classical.byContradiction (fun hcon => ?hstC)) | go_in)
          refine hcon ?_
          clear hcon p5
          refine Kd.R_append (Kd.slice 3 (Kd.int .i64)) (w0 := wr) w0.heap.size rfl _ _ 34 23 (.slice none 0 0) 24 rfl Try.underlying34 (by kernel_rfl) rfl (by decide) (by decide) (.slice PS mS dS) NX (full mkN b.f2) [.slice PV mV dV] (fun _ => True) _ rfl rfl (M_apart (d := Kd.slice 3 (Kd.int .i64)) ⟨_, rfl, Kd.R_lower HF.out HN0.out⟩ HST'.out.rn (by decide)) (fun _ h => h) (fun _ _ => trivial) HST'.out.rn (Below.refl _ _) (Nat.le_trans HN0.out HSW.out) (by have := HSZ.out.2.2.1; omega) ?_
          intro v1 w7 hR1 _ hg1 _
          obtain ⟨P1, m1, d1, rfl⟩ : ∃ P m d, v1 = .slice P m d := let ⟨A, c, h, _⟩ := Kd.R_reads hR1; ⟨_, _, _, h⟩
          have hkg := blk_grown HST'.out.blk hg1 (Kd.R_ne HST'.out.rn HST'.out.blk (by decide))
          have p5 : w7.cell? ⟨g, 5, none⟩ = some (.slice PS mS dS) := blk_cell hkg 5
          have f5 := blk_frozen hkg 5
          have hb7 : Below w0.heap.size w0 w7 := HBB.out.grown hg1 (Nat.le_trans HN0.out HSW.out) (Kd.R_base HST'.out.rn)
          go_upto_region 11 with (fail)
          have HB8 := Aside0.mk (below_set (j := 5) (v := .slice P1 m1 d1) hb7 HST'.out.hg)
          have HF8 := Aside0.mk (Kd.R_set (Kd.R_over HF.out HST'.out.rn (by decide) hg1) hkg (by decide) 5 (.slice P1 m1 d1))
          have HH8 := Aside0.mk (HST'.out.putN hR1 hg1 ⟨b.f2, hln, rfl⟩)
          have HK38 := Aside0.mk (blk_far (blk_grown HK3.out hg1 (Kd.R_ne HST'.out.rn HK3.out (by decide))) (p := ⟨g, 5, none⟩) (blk_ne (blk_grown HK3.out hg1 (Kd.R_ne HST'.out.rn HK3.out (by decide))) hkg (by decide)) (.slice P1 m1 d1))
          have HK48 := Aside0.mk (blk_far (blk_grown HK4.out hg1 (Kd.R_ne HST'.out.rn HK4.out (by decide))) (p := ⟨g, 5, none⟩) (blk_ne (blk_grown HK4.out hg1 (Kd.R_ne HST'.out.rn HK4.out (by decide))) hkg (by decide)) (.slice P1 m1 d1))
          have HS8 : Aside0 (w.heap.size ≤ (w7.setCell ⟨g, 5, none⟩ (.slice P1 m1 d1)).heap.size) := ⟨Nat.le_trans HSW.out (Nat.le_trans hg1.size (by simp [World.setCell]))⟩
          clear hkg p5 f5 hb7 hR1 hg1 HST' HF HBB HSW HK3 HK4
          generalize w7.setCell ⟨g, 5, none⟩ (.slice P1 m1 d1) = w8 at *
          obtain rfl : mV = (full mkN b.f2).length := (Kd.R_reads' HF8.out).1
          go_wp2_with (fail)
          clear hlt hi
          generalize hNX : NX ++ [full mkN b.f2] = NX1 at *
          have HNX := Aside0.mk (show NX1.length = NX.length + 1 by rw [← hNX]; simp)
          clear hNX
          go_loopw [8, 9, 10, 11] (fun v t _ _ wr => ∃ k : Nat, k ≤ b.f1.length ∧ t = .int .i64 k ∧ ∃ vO' vS' O' S', H w0.heap.size g (fun _ => True) (fun _ => True) (fun _ => True) (fun k => k < w.heap.size) (fun k => k < w.heap.size) wr vO' vS' (.slice P1 m1 d1) vI vB O' S' NX1 I B ∧ O'.length = O.length + costI (b.f1.take k) ∧ S'.length = S.length + k ∧ k52.R 52 wr w.heap.size (fun _ => True) v (b.f1.take k) ∧ (Kd.int .i64).R 3 wr w.heap.size (fun _ => True) (.slice PV (full mkN b.f2).length dV) (full mkN b.f2) ∧ Below w0.heap.size w0 wr ∧ w.heap.size ≤ wr.heap.size ∧ wr.heap[g3]? = some (.cells #[.int .i64 b.f0, .slice A1 b.f1.length c1, .slice A2 b.f2.length c2] 25 (0, 0)) ∧ wr.heap[g4]? = some (.cells #[.int .i64 0, .slice none 0 0, .slice none 0 0] 25 (0, 0))) (fun _ t _ _ _ => b.f1.length - (intOf t).toNat)
          case atStart => exact ⟨0, Nat.zero_le _, rfl, _, _, _, _, HH8.out, rfl, rfl, Kd.R_nil _ _ _ _ _, HF8.out, HB8.out, HS8.out, HK38.out, HK48.out⟩
          case round =>
            clear HH8 HF8 HB8 HS8 HK38 HK48
            obtain ⟨k, hk, rfl, vO', vS', O', S', hH, hOl, hSl, hR, hF, hb, hsz, hk3, hk4⟩ := hrel
            have HST := Aside0.mk hH
            have HOL := Aside0.mk (And.intro hOl hSl)
            have HR := Aside0.mk hR
            have HF := Aside0.mk hF
            have HBB := Aside0.mk hb
            have HSW := Aside0.mk hsz
            have HK3 := Aside0.mk hk3
            have HK4 := Aside0.mk hk4
            clear hH hOl hSl hR hF hb hsz hk3 hk4
            obtain ⟨PW, mW, dW, rfl⟩ : ∃ P m d, u8 = .slice P m d := let ⟨A, c, h, _⟩ := Kd.R_reads HR.out; ⟨_, _, _, h⟩
            have q1 : wr.cell? ⟨g3, 1, none⟩ = some (.slice A1 b.f1.length c1) := blk_cell HK3.out 1
            by_cases hlt : k < b.f1.length
            · obtain ⟨ad, A3, c3, A7, c7, rfl, x0, x1, x2, x3, x4, x5, x6, x7, hA3, hC3, hA7, hC7⟩ := at_T52 HI.out (k : Int) (by omega) (by omega)
              rw [Int.toNat_natCast] at x0 x1 x2 x3 x4 x5 x6 x7
              have hx3 : (rd_T52 b.f1 (k : Int)).f3.length ≤ 1048576 := by rw [rd52_at hlt]; exact HSM.out.args _ (List.getElem_mem _)
              have hx7 : SmallS (rd_T52 b.f1 (k : Int)).f7 := by rw [rd52_at hlt]; exact HSM.out.exit _ (List.getElem_mem _)
              have hxe : b.f1.take k ++ [rd_T52 b.f1 (k : Int)] = b.f1.take (k + 1) := by rw [List.take_succ_eq_append_getElem hlt, rd52_at hlt]
              have hco : costI (b.f1.take (k + 1)) = costI (b.f1.take k) + (1 + (rd_T52 b.f1 (k : Int)).f7.length) := by rw [costI_succ hlt, rd52_at hlt]
              generalize rd_T52 b.f1 (k : Int) = x at *
              have HCO := Aside0.mk (And.intro hco (costI_le b.f1 (k + 1)))
              have HX3 := Aside0.mk hx3
              have HX7 := Aside0.mk hx7
              have HXE := Aside0.mk hxe
              have XC := Aside0.mk (fun W (b : Below w0.heap.size w0 W) => And.intro (pw_cell_below b x3) (pw_cell_below b x7))
              have HC3 := Aside0.mk (And.intro hA3 hC3)
              have HC7 := Aside0.mk (And.intro hA7 hC7)
              replace x0 := pw_cell_below HBB.out x0
              replace x1 := pw_cell_below HBB.out x1
              replace x2 := pw_cell_below HBB.out x2
              replace x3 := pw_cell_below HBB.out x3
              replace x4 := pw_cell_below HBB.out x4
              replace x5 := pw_cell_below HBB.out x5
              replace x6 := pw_cell_below HBB.out x6
              replace x7 := pw_cell_below HBB.out x7
              clear hA3 hC3 hA7 hC7 hx3 hx7 hxe hco
              go_upto_region 16 with (fail)
              clear x0 x1 x2 x3 x4 x5 x6 x7 q1
              have HG10 := Aside0.mk HSW.out
              have hb2 := bodies wr (.cells #[.int .i64 x.f0, .int .i64 x.f1, .int .i64 x.f2, .slice A3 x.f3.length c3, .int .i64 x.f4, .int .i64 x.f5, .int .i64 x.f6, .slice A7 x.f7.length c7] 52)
              have K10 := blk_new wr (.cells #[.int .i64 x.f0, .int .i64 x.f1, .int .i64 x.f2, .slice A3 x.f3.length c3, .int .i64 x.f4, .int .i64 x.f5, .int .i64 x.f6, .slice A7 x.f7.length c7] 52)
              replace HST := Aside0.mk (HST.out.below hb2)
              replace HR := Aside0.mk (Kd.R_below (Kd.R_elderB HR.out wr.heap.size (Nat.le_refl _)) hb2)
              replace HF := Aside0.mk (Kd.R_below HF.out hb2)
              replace HBB := Aside0.mk (HBB.out.trans (hb2.mono HBB.out.size))
              replace HSW := Aside0.mk (Nat.le_trans HSW.out hb2.size)
              replace HK3 := Aside0.mk (blk_below HK3.out hb2)
              replace HK4 := Aside0.mk (blk_below HK4.out hb2)
              clear hb2
              generalize wr.alloc (.cells #[.int .i64 x.f0, .int .i64 x.f1, .int .i64 x.f2, .slice A3 x.f3.length c3, .int .i64 x.f4, .int .i64 x.f5, .int .i64 x.f6, .slice A7 x.f7.length c7] 52) = w2 at *
              generalize wr.heap.size = g10 at *
              have HK10 := Aside0.mk K10
              clear K10
              obtain ⟨x3, x7⟩ := XC.out w2 HBB.out
              have q1 : w2.cell? ⟨g3, 1, none⟩ = some (.slice (some ad) b.f1.length c1) := blk_cell HK3.out 1
              go_wp2_with (fail)
              refine (marked_opnds A3 c3 x.f3 w2 (Kd.C_below HC3.out.2 HBB.out) HC3.out.1 HX3.out).mono ?_
              rintro e w3 ⟨B8, d8, rfl, hR8, hb3⟩
              have HR8 := Aside0.mk (Kd.R_lower hR8 HSW.out)
              replace HST := Aside0.mk (HST.out.below hb3)
              replace HR := Aside0.mk (Kd.R_below HR.out hb3)
              replace HF := Aside0.mk (Kd.R_below HF.out hb3)
              replace HBB := Aside0.mk (HBB.out.trans (hb3.mono HBB.out.size))
              replace HSW := Aside0.mk (Nat.le_trans HSW.out hb3.size)
              replace HK3 := Aside0.mk (blk_below HK3.out hb3)
              replace HK4 := Aside0.mk (blk_below HK4.out hb3)
              replace HK10 := Aside0.mk (blk_below HK10.out hb3)
              clear hR8 hb3 x3 x7 q1
              obtain ⟨PO, mO, dO, rfl⟩ : ∃ P m d, vO' = .slice P m d := let ⟨A, c, h, _⟩ := Kd.R_reads HST.out.ro; ⟨_, _, _, h⟩
              have p3 : w3.cell? ⟨g, 3, none⟩ = some (.slice PO mO dO) := blk_cell HST.out.blk 3
              go_wp2_with (first | ((with_reducible refine gate_builtin (b := .append) rfl ?_); refine Classical.byContradiction (fun hcon => ?hstD)) | go_in)
              refine hcon ?_
              clear hcon p3
              refine Kd.R_append (Kd.slice 70 k70) (w0 := w3) w0.heap.size rfl _ _ 32 49 (.slice none 0 0) 24 rfl Try.underlying32 (by kernel_rfl) rfl (by decide) (by decide) (.slice PO mO dO) O' (full mkO x.f3) [.slice B8 (full mkO x.f3).length d8] (fun _ => True) _ rfl rfl (M_apart (d := Kd.slice 70 k70) ⟨_, rfl, Kd.R_lower HR8.out HN0.out⟩ HST.out.ro (by decide)) (fun _ h => h) (fun _ _ => trivial) HST.out.ro (Below.refl _ _) (Nat.le_trans HN0.out HSW.out) (by have := HOL.out.1; have := HSZ.out.1; have := HCO.out; omega) ?_
              intro v1 w4 hR1 _ hg1 _
              obtain ⟨P2, m2, d2, rfl⟩ : ∃ P m d, v1 = .slice P m d := let ⟨A, c, h, _⟩ := Kd.R_reads hR1; ⟨_, _, _, h⟩
              have hkg := blk_grown HST.out.blk hg1 (Kd.R_ne HST.out.ro HST.out.blk (by decide))
              have p3 : w4.cell? ⟨g, 3, none⟩ = some (.slice PO mO dO) := blk_cell hkg 3
              have f3 := blk_frozen hkg 3
              have hb4 : Below w0.heap.size w0 w4 := HBB.out.grown hg1 (Nat.le_trans HN0.out HSW.out) (Kd.R_base HST.out.ro)
              go_upto_region 18 with (fail)
              have HB5 := Aside0.mk (below_set (j := 3) (v := .slice P2 m2 d2) hb4 HST.out.hg)
              have mv : ∀ {gx : Nat} {cs : Array Value} {t : TypeId}, t ≠ 49 → t ≠ 37 → w3.heap[gx]? = some (.cells cs t (0, 0)) → (w4.setCell ⟨g, 3, none⟩ (.slice P2 m2 d2)).heap[gx]? = some (.cells cs t (0, 0)) := fun h1 h2 h => blk_far (blk_grown h hg1 (Kd.R_ne HST.out.ro h h1.symm)) (p := ⟨g, 3, none⟩) (blk_ne (blk_grown h hg1 (Kd.R_ne HST.out.ro h h1.symm)) hkg h2) (.slice P2 m2 d2)
              have HK35 := Aside0.mk (mv (by decide) (by decide) HK3.out)
              have HK45 := Aside0.mk (mv (by decide) (by decide) HK4.out)
              have HK105 := Aside0.mk (mv (by decide) (by decide) HK10.out)
              have HR85 := Aside0.mk (Kd.R_set (Kd.R_over HR8.out HST.out.ro (by decide) hg1) hkg (by decide) 3 (.slice P2 m2 d2))
              have HR5 := Aside0.mk (Kd.R_set (Kd.R_over HR.out HST.out.ro (by decide) hg1) hkg (by decide) 3 (.slice P2 m2 d2))
              have HF5 := Aside0.mk (Kd.R_set (Kd.R_over HF.out HST.out.ro (by decide) hg1) hkg (by decide) 3 (.slice P2 m2 d2))
              have HS5 : Aside0 (w.heap.size ≤ (w4.setCell ⟨g, 3, none⟩ (.slice P2 m2 d2)).heap.size) := ⟨Nat.le_trans HSW.out (Nat.le_trans hg1.size (by simp [World.setCell]))⟩
              have HH5 := Aside0.mk (HST.out.putO hR1 hg1 ⟨x.f3, HX3.out, rfl⟩)
              clear mv hkg p3 f3 hb4 hR1 hg1 HST HR HF HBB HSW HK3 HK4 HK10 HR8
              generalize w4.setCell ⟨g, 3, none⟩ (.slice P2 m2 d2) = w5 at *
              have hcut := cut_cap (P := Try.prog) 49 70 .i64 Try.underlying49 HI70.out B8 (full mkO x.f3).length d8 (x.f3.length : Int) (by omega) (by have := ge49 HR85.out; rw [full_len] at this; omega)
              rw [Int.toNat_natCast] at hcut
              obtain ⟨x3, x7⟩ := XC.out w5 HB5.out
              have q1 : w5.cell? ⟨g3, 1, none⟩ = some (.slice (some ad) b.f1.length c1) := blk_cell HK35.out 1
              have y3 : w5.cell? ⟨g10, 3, none⟩ = some (.slice A3 x.f3.length c3) := blk_cell HK105.out 3
              have f3 := blk_frozen HK105.out 3
              go_upto_region 19 with (fail)
              clear hcut x3 x7 y3 f3 q1
              have hg7 := grown_set w5 g10 3 (.slice B8 x.f3.length d8)
              have HB6 := Aside0.mk (below_set (j := 3) (v := .slice B8 x.f3.length d8) HB5.out (Nat.le_trans HN0.out HG10.out))
              have HK106 := Aside0.mk (blk_put HK105.out 3 (.slice B8 x.f3.length d8) (cs' := #[.int .i64 x.f0, .int .i64 x.f1, .int .i64 x.f2, .slice B8 x.f3.length d8, .int .i64 x.f4, .int .i64 x.f5, .int .i64 x.f6, .slice A7 x.f7.length c7]) rfl)
              have HK36 := Aside0.mk (blk_far HK35.out (p := ⟨g10, 3, none⟩) (blk_ne HK35.out HK105.out (by decide)) (.slice B8 x.f3.length d8))
              have HK46 := Aside0.mk (blk_far HK45.out (p := ⟨g10, 3, none⟩) (blk_ne HK45.out HK105.out (by decide)) (.slice B8 x.f3.length d8))
              have HR86 := Aside0.mk (Kd.R_set HR85.out HK105.out (by decide) 3 (.slice B8 x.f3.length d8))
              have HF6 := Aside0.mk (Kd.R_set HF5.out HK105.out (by decide) 3 (.slice B8 x.f3.length d8))
              have HR6 := Aside0.mk (Kd.R_far HR5.out (p := ⟨g10, 3, none⟩) (fun q hq => hq.2) (.slice B8 x.f3.length d8))
              have HH6 := Aside0.mk (HH5.out.grown (e := 52) (b' := w.heap.size) hg7 (fun q hq => by injection hq with hq; rw [← hq]; exact ⟨_, HK105.out⟩) (fun q hq => by injection hq with hq; rw [← hq]; exact HG10.out) (by decide) (.inl (by decide)) (.inl (by decide)) (.inl (by decide)) (.inr (fun _ h => h)) (.inr (fun _ h => h)))
              have HS6 : Aside0 (w.heap.size ≤ (w5.setCell ⟨g10, 3, none⟩ (.slice B8 x.f3.length d8)).heap.size) := ⟨Nat.le_trans HS5.out hg7.size⟩
              clear hg7 HH5 HR5 HR85 HF5 HK35 HK45 HK105 HB5 HS5
              generalize w5.setCell ⟨g10, 3, none⟩ (.slice B8 x.f3.length d8) = w6 at *
              obtain ⟨x3, x7⟩ := XC.out w6 HB6.out
              have q1 : w6.cell? ⟨g3, 1, none⟩ = some (.slice (some ad) b.f1.length c1) := blk_cell HK36.out 1
              go_wp2_with (fail)
              refine (hand_shapes w0 g A7 c7 x.f7 w6 _ _ _ _ _ _ _ _ _ _ _ _ _ HC7.out.2 HC7.out.1 HX7.out HB6.out HH6.out (by rw [List.length_append, HOL.out.1]; have := HSZ.out.1; have := HCO.out; simp; omega) (by rw [HOL.out.2]; have := HSZ.out.2.1; omega)).mono ?_
              rintro e w7 ⟨B9, d9, vO7, vS7, O7, S7, rfl, hR9, hH7, hO7, hS7, hb7, hy7⟩
              have HST7 := Aside0.mk hH7
              have HOL7 : Aside0 (O7.length = O.length + costI (b.f1.take (k + 1)) ∧ S7.length = S.length + (k + 1)) := ⟨by rw [hO7, List.length_append, HOL.out.1, HCO.out.1]; simp; omega, by rw [hS7, HOL.out.2]; omega⟩
              have HR9 := Aside0.mk (Kd.R_lower hR9 HS6.out)
              have HR87 := Aside0.mk (R_ty HR86.out (by decide) hy7)
              have HF7 := Aside0.mk (R_ty HF6.out (by decide) hy7)
              have HR7 := Aside0.mk (R_ty HR6.out (by decide) hy7)
              have HK37 := Aside0.mk (blk_ty HK36.out (by decide) hy7)
              have HK47 := Aside0.mk (blk_ty HK46.out (by decide) hy7)
              have HK107 := Aside0.mk (blk_ty HK106.out (by decide) hy7)
              have HB7 := Aside0.mk hb7
              have HS7 : Aside0 (w.heap.size ≤ w7.heap.size) := ⟨by obtain ⟨q, _, _, h1, h2, _⟩ := Kd.R_form hR9 (by rw [full_len]; omega); exact Nat.le_trans HS6.out (by omega)⟩
              clear hH7 hO7 hS7 hR9 hb7 hy7 HH6 HR6 HF6 HR86 HK36 HK46 HK106 HB6 HS6 HOL x3 x7 q1
              have y7 : w7.cell? ⟨g10, 7, none⟩ = some (.slice A7 x.f7.length c7) := blk_cell HK107.out 7
              have f7 := blk_frozen HK107.out 7
              go_upto_region 20 with (fail)
              have hg7 := grown_set w7 g10 7 (.slice B9 x.f7.length d9)
              have HB8 := Aside0.mk (below_set (j := 7) (v := .slice B9 x.f7.length d9) HB7.out (Nat.le_trans HN0.out HG10.out))
              have HK108 := Aside0.mk (blk_put HK107.out 7 (.slice B9 x.f7.length d9) (cs' := #[.int .i64 x.f0, .int .i64 x.f1, .int .i64 x.f2, .slice B8 x.f3.length d8, .int .i64 x.f4, .int .i64 x.f5, .int .i64 x.f6, .slice B9 x.f7.length d9]) rfl)
              have HK38 := Aside0.mk (blk_far HK37.out (p := ⟨g10, 7, none⟩) (blk_ne HK37.out HK107.out (by decide)) (.slice B9 x.f7.length d9))
              have HK48 := Aside0.mk (blk_far HK47.out (p := ⟨g10, 7, none⟩) (blk_ne HK47.out HK107.out (by decide)) (.slice B9 x.f7.length d9))
              have HR88 := Aside0.mk (Kd.R_set HR87.out HK107.out (by decide) 7 (.slice B9 x.f7.length d9))
              have HR98 := Aside0.mk (Kd.R_set HR9.out HK107.out (by decide) 7 (.slice B9 x.f7.length d9))
              have HF8 := Aside0.mk (Kd.R_set HF7.out HK107.out (by decide) 7 (.slice B9 x.f7.length d9))
              have HR8' := Aside0.mk (Kd.R_mono (ok' := fun _ => True) (Kd.R_far HR7.out (p := ⟨g10, 7, none⟩) (fun q hq => hq.2) (.slice B9 x.f7.length d9)) (fun _ _ => trivial))
              have HH8 := Aside0.mk (HST7.out.grown (e := 52) (b' := w.heap.size) hg7 (fun q hq => by injection hq with hq; rw [← hq]; exact ⟨_, HK107.out⟩) (fun q hq => by injection hq with hq; rw [← hq]; exact HG10.out) (by decide) (.inl (by decide)) (.inl (by decide)) (.inl (by decide)) (.inr (fun _ h => h)) (.inr (fun _ h => h)))
              have HS8 : Aside0 (w.heap.size ≤ (w7.setCell ⟨g10, 7, none⟩ (.slice B9 x.f7.length d9)).heap.size) := ⟨Nat.le_trans HS7.out hg7.size⟩
              clear hg7 HST7 HR7 HR87 HR9 HF7 HK37 HK47 HK107 HB7 HS7 y7 f7
              generalize w7.setCell ⟨g10, 7, none⟩ (.slice B9 x.f7.length d9) = w8 at *
              have y0 : w8.cell? ⟨g10, 0, none⟩ = some (.int .i64 x.f0) := blk_cell HK108.out 0
              have y1 : w8.cell? ⟨g10, 1, none⟩ = some (.int .i64 x.f1) := blk_cell HK108.out 1
              have y2 : w8.cell? ⟨g10, 2, none⟩ = some (.int .i64 x.f2) := blk_cell HK108.out 2
              have y3 : w8.cell? ⟨g10, 3, none⟩ = some (.slice B8 x.f3.length d8) := blk_cell HK108.out 3
              have y4 : w8.cell? ⟨g10, 4, none⟩ = some (.int .i64 x.f4) := blk_cell HK108.out 4
              have y5 : w8.cell? ⟨g10, 5, none⟩ = some (.int .i64 x.f5) := blk_cell HK108.out 5
              have y6 : w8.cell? ⟨g10, 6, none⟩ = some (.int .i64 x.f6) := blk_cell HK108.out 6
              have y7 : w8.cell? ⟨g10, 7, none⟩ = some (.slice B9 x.f7.length d9) := blk_cell HK108.out 7
              have hc8 := Kd.R_take (m := x.f3.length) HR88.out (by rw [full_len]; omega)
              rw [full_take] at hc8
              have hc9 := Kd.R_take (m := x.f7.length) HR98.out (by rw [full_len]; omega)
              rw [full_take] at hc9
              have HC8 := Aside0.mk (And.intro hc8 hc9)
              clear hc8 hc9
              go_wp2_with (first | ((with_reducible refine gate_builtin (b := .append) rfl ?_); refine Classical.byContradiction (fun hcon => ?hstE)) | go_in)
              refine hcon ?_
              clear hcon y0 y1 y2 y3 y4 y5 y6 y7
              refine Kd.R_append k52 (w0 := w8) w.heap.size rfl _ _ 22 52 (.agg #[(.int .i64 0), (.int .i64 0), (.int .i64 0), (.slice none 0 0), (.int .i64 0), (.int .i64 0), (.int .i64 0), (.slice none 0 0)]) 96 rfl Try.underlying22 (by kernel_rfl) rfl (by decide) (by decide) (.slice PW mW dW) (b.f1.take k) x [.int .i64 x.f0, .int .i64 x.f1, .int .i64 x.f2, .slice B8 x.f3.length d8, .int .i64 x.f4, .int .i64 x.f5, .int .i64 x.f6, .slice B9 x.f7.length d9] (fun _ => True) _ rfl rfl (M_apart (d := k52) (k52_mkM _ _ _ x HC8.out.1 HC8.out.2) HR8'.out (by decide)) (fun _ h => h) (fun _ _ => trivial) HR8'.out (Below.refl _ _) HS8.out (by rw [List.length_take]; omega) ?_
              intro v1 w9 hR1 _ hg1 _
              rw [HXE.out] at hR1
              have HB9 := Aside0.mk (HB8.out.grown hg1 (Nat.le_trans HN0.out HS8.out) (fun q hq => Nat.le_trans HN0.out (Kd.R_base HR8'.out q hq)))
              have HH9 := Aside0.mk (HH8.out.grown (e := 52) (b' := w.heap.size) hg1 (Kd.R_typed HR8'.out) (Kd.R_base HR8'.out) (by decide) (.inl (by decide)) (.inl (by decide)) (.inl (by decide)) (.inr (fun _ h => h)) (.inr (fun _ h => h)))
              have HF9 := Aside0.mk (Kd.R_over HF8.out HR8'.out (by decide) hg1)
              have HR9 := Aside0.mk hR1
              have HS9 := Aside0.mk (Nat.le_trans HS8.out hg1.size)
              have HK39 := Aside0.mk (blk_grown HK38.out hg1 (Kd.R_ne HR8'.out HK38.out (by decide)))
              have HK49 := Aside0.mk (blk_grown HK48.out hg1 (Kd.R_ne HR8'.out HK48.out (by decide)))
              clear hR1 hg1 HB8 HH8 HF8 HR8' HS8 HK38 HK48 HK108 HC8 HR88 HR98
              go_wp2
              go_roundw
              case rel => exact ⟨k + 1, by omega, by go_num, _, _, _, _, HH9.out, HOL7.out.1, HOL7.out.2, HR9.out, HF9.out, HB9.out, HS9.out, HK39.out, HK49.out⟩
              case measure => simp [intOf]; omega
            · obtain rfl : k = b.f1.length := by omega
              rw [List.take_length] at HR HOL
              go_wp2_with (fail)
              clear hlt hk q1
              generalize wr = wM at *
              go_loopw [8, 12] (fun v t wr => ∃ k : Nat, k ≤ 16 ∧ t = .int .i64 k ∧ H w0.heap.size g (fun _ => True) (fun _ => True) (fun _ => True) (fun k => k < w.heap.size) (fun k => k < w.heap.size) wr vO' vS' (.slice P1 m1 d1) vI vB O' S' NX1 I B ∧ k52.R 52 wr w.heap.size (fun _ => True) v (b.f1 ++ (List.range' 0 k).map mkI) ∧ (Kd.int .i64).R 3 wr w.heap.size (fun _ => True) (.slice PV (full mkN b.f2).length dV) (full mkN b.f2) ∧ Below w0.heap.size w0 wr ∧ w.heap.size ≤ wr.heap.size ∧ wr.heap[g3]? = some (.cells #[.int .i64 b.f0, .slice A1 b.f1.length c1, .slice A2 b.f2.length c2] 25 (0, 0)) ∧ wr.heap[g4]? = some (.cells #[.int .i64 0, .slice none 0 0, .slice none 0 0] 25 (0, 0))) (fun _ t _ => 16 - (intOf t).toNat)
              case atStart => exact ⟨0, by omega, rfl, HST.out, by simpa using HR.out, HF.out, HBB.out, HSW.out, HK3.out, HK4.out⟩
              case round =>
                clear HST HR HF HBB HSW HK3 HK4
                obtain ⟨i, hi, rfl, hH, hR, hF, hb, hsz, hk3, hk4⟩ := hrel
                have HST := Aside0.mk hH
                have HR := Aside0.mk hR
                have HF := Aside0.mk hF
                have HBB := Aside0.mk hb
                have HSW := Aside0.mk hsz
                have HK3 := Aside0.mk hk3
                have HK4 := Aside0.mk hk4
                clear hH hR hF hb hsz hk3 hk4
                obtain ⟨PW, mW, dW, rfl⟩ : ∃ P m d, u8 = .slice P m d := let ⟨A, c, h, _⟩ := Kd.R_reads HR.out; ⟨_, _, _, h⟩
                by_cases hlt : i < 16
                · go_wp2_with (first | ((with_reducible refine gate_builtin (b := .append) rfl ?_); refine Classical.byContradiction (fun hcon => ?hstF)) | go_in)
                  refine hcon ?_
                  clear hcon
                  refine Kd.R_append k52 (w0 := wr) w.heap.size rfl _ _ 22 52 (.agg #[(.int .i64 0), (.int .i64 0), (.int .i64 0), (.slice none 0 0), (.int .i64 0), (.int .i64 0), (.int .i64 0), (.slice none 0 0)]) 96 rfl Try.underlying22 (by kernel_rfl) rfl (by decide) (by decide) (.slice PW mW dW) (b.f1 ++ (List.range' 0 i).map mkI) (mkI i) [.int .i64 (-7), .int .i64 0, .int .i64 0, .slice none 0 0, .int .i64 0, .int .i64 (i : Int), .int .i64 0, .slice none 0 0] (fun _ => True) _ rfl rfl (M_apart (d := k52) (k52_mkM _ _ (fun _ => True) (mkI i) (Kd.R_nil _ _ _ _ _) (Kd.R_nil _ _ _ _ _)) HR.out (by decide)) (fun _ h => h) (fun _ _ => trivial) HR.out (Below.refl _ _) HSW.out (by simp; omega) ?_
                  intro v1 w9 hR1 _ hg1 _
                  rw [← full_snoc] at hR1
                  have HB9 := Aside0.mk (HBB.out.grown hg1 (Nat.le_trans HN0.out HSW.out) (fun q hq => Nat.le_trans HN0.out (Kd.R_base HR.out q hq)))
                  have HH9 := Aside0.mk (HST.out.grown (e := 52) (b' := w.heap.size) hg1 (Kd.R_typed HR.out) (Kd.R_base HR.out) (by decide) (.inl (by decide)) (.inl (by decide)) (.inl (by decide)) (.inr (fun _ h => h)) (.inr (fun _ h => h)))
                  have HF9 := Aside0.mk (Kd.R_over HF.out HR.out (by decide) hg1)
                  have HR9 := Aside0.mk hR1
                  have HS9 := Aside0.mk (Nat.le_trans HSW.out hg1.size)
                  have HK39 := Aside0.mk (blk_grown HK3.out hg1 (Kd.R_ne HR.out HK3.out (by decide)))
                  have HK49 := Aside0.mk (blk_grown HK4.out hg1 (Kd.R_ne HR.out HK4.out (by decide)))
                  clear hR1 hg1 HBB HST HR HF HSW HK3 HK4
                  go_wp2
                  go_roundw
                  case rel => exact ⟨i + 1, by omega, by go_num, HH9.out, HR9.out, HF9.out, HB9.out, HS9.out, HK39.out, HK49.out⟩
                  case measure => simp [intOf]; omega
                · obtain rfl : i = 16 := by omega
                  obtain ⟨PS, mS, dS, rfl⟩ : ∃ P m d, vI = .slice P m d := let ⟨A, c, h, _⟩ := Kd.R_reads HST.out.ri; ⟨_, _, _, h⟩
                  have p6 : wr.cell? ⟨g, 6, none⟩ = some (.slice PS mS dS) := blk_cell HST.out.blk 6
                  have HX : Aside0 (k52.R 52 wr w.heap.size (fun _ => True) (.slice PW mW dW) (full mkI b.f1)) := ⟨HR.out⟩
                  have HST' := Aside0.mk (HST.out.mono (qO := fun _ => True) (qS := fun _ => True) (qN := fun _ => True) (qI := fun _ => True) (qB := fun k => k < w.heap.size) (fun _ _ _ => trivial) (fun _ _ _ => trivial) (fun _ _ _ => trivial) (fun _ _ _ => trivial) (fun _ h _ => h))
                  clear HST HR
                  go_wp2_with (first | ((with_reducible refine gate_builtin (b := .append) rfl ?_); refine Classical.byContradiction (fun hcon => ?hstG)) | go_in)
                  refine hcon ?_
                  clear hcon p6
                  refine Kd.R_append (Kd.slice 52 k52) (w0 := wr) w0.heap.size rfl _ _ 35 22 (.slice none 0 0) 24 rfl Try.underlying35 (by kernel_rfl) rfl (by decide) (by decide) (.slice PS mS dS) I (full mkI b.f1) [.slice PW mW dW] (fun _ => True) _ rfl rfl (M_apart (d := Kd.slice 52 k52) ⟨_, rfl, Kd.R_lower HX.out HN0.out⟩ HST'.out.ri (by decide)) (fun _ h => h) (fun _ _ => trivial) HST'.out.ri (Below.refl _ _) (Nat.le_trans HN0.out HSW.out) (by have := HSZ.out.2.2.2; omega) ?_
                  intro v1 w7 hR1 _ hg1 _
                  obtain ⟨P2, m2, d2, rfl⟩ : ∃ P m d, v1 = .slice P m d := let ⟨A, c, h, _⟩ := Kd.R_reads hR1; ⟨_, _, _, h⟩
                  have hkg := blk_grown HST'.out.blk hg1 (Kd.R_ne HST'.out.ri HST'.out.blk (by decide))
                  have p6 : w7.cell? ⟨g, 6, none⟩ = some (.slice PS mS dS) := blk_cell hkg 6
                  have f6 := blk_frozen hkg 6
                  have hb7 : Below w0.heap.size w0 w7 := HBB.out.grown hg1 (Nat.le_trans HN0.out HSW.out) (Kd.R_base HST'.out.ri)
                  go_upto_region 26 with (fail)
                  have HB8 := Aside0.mk (below_set (j := 6) (v := .slice P2 m2 d2) hb7 HST'.out.hg)
                  have HF8 := Aside0.mk (Kd.R_set (Kd.R_over HF.out HST'.out.ri (by decide) hg1) hkg (by decide) 6 (.slice P2 m2 d2))
                  have HX8 := Aside0.mk (Kd.R_set (Kd.R_over HX.out HST'.out.ri (by decide) hg1) hkg (by decide) 6 (.slice P2 m2 d2))
                  have HH8 := Aside0.mk (HST'.out.putI hR1 hg1 ⟨b.f1, hli, rfl⟩)
                  have mv : ∀ {gx : Nat} {cs : Array Value} {t : TypeId}, t ≠ 22 → t ≠ 37 → wr.heap[gx]? = some (.cells cs t (0, 0)) → (w7.setCell ⟨g, 6, none⟩ (.slice P2 m2 d2)).heap[gx]? = some (.cells cs t (0, 0)) := fun h1 h2 h => blk_far (blk_grown h hg1 (Kd.R_ne HST'.out.ri h h1.symm)) (p := ⟨g, 6, none⟩) (blk_ne (blk_grown h hg1 (Kd.R_ne HST'.out.ri h h1.symm)) hkg h2) (.slice P2 m2 d2)
                  have HK38 := Aside0.mk (mv (by decide) (by decide) HK3.out)
                  have HK48 := Aside0.mk (mv (by decide) (by decide) HK4.out)
                  have HS8 : Aside0 (w.heap.size ≤ (w7.setCell ⟨g, 6, none⟩ (.slice P2 m2 d2)).heap.size) := ⟨Nat.le_trans HSW.out (Nat.le_trans hg1.size (by simp [World.setCell]))⟩
                  clear mv hkg p6 f6 hb7 hR1 hg1 HST' HF HX HBB HSW HK3 HK4
                  generalize w7.setCell ⟨g, 6, none⟩ (.slice P2 m2 d2) = w8 at *
                  obtain rfl : mW = (full mkI b.f1).length := (Kd.R_reads' HX8.out).1
                  have hcutI := cut_cap (P := Try.prog) 22 52 .i64 Try.underlying22 HI52.out PW (full mkI b.f1).length dW (b.f1.length : Int) (by omega) (by have := ge49 HX8.out; rw [full_len] at this; omega)
                  rw [Int.toNat_natCast] at hcutI
                  have hcutN := cut_cap (P := Try.prog) 23 3 .i64 Try.underlying23 HI3.out PV (full mkN b.f2).length dV (b.f2.length : Int) (by omega) (by have := ge49 HF8.out; rw [full_len] at this; omega)
                  rw [Int.toNat_natCast] at hcutN
                  have HCI := Aside0.mk hcutI
                  have HCN := Aside0.mk hcutN
                  clear hcutI hcutN
                  have HK3 := HK38
                  generalize hPI : PW = PI at *
                  generalize hPN : PV = PN at *
                  generalize hdI : dW = dI at *
                  generalize hdN : dV = dN at *
                  clear hPI hPN hdI hdN
                  clear HK38
                  rename_i hK hQ0 hQ_
                  refine RegInv.region_last2 (by kernel_rfl) (by kernel_rfl) (fun a b => Below a.heap.size a b) (fun a b c h k => wB h k) (below_drew1 (Below.refl _ _)) dHB26 13 (by kernel_rfl) (by kernel_rfl) (by kernel_rfl) (by kernel_rfl) (FHB26 g3 b.f1.length b.f2.length (full mkI b.f1).length (full mkN b.f2).length b.f0 A1 A2 PI PN c1 c2 dI dN) (FHB26_below g3 b.f1.length b.f2.length (full mkI b.f1).length (full mkN b.f2).length b.f0 A1 A2 PI PN c1 c2 dI dN) ?hsHB26 ?heHB26
                  case hsHB26 =>
                    clear hK
                    intro i o a w8 hlt hi hM
                    have K3' := blk_below HK3.out hM.ext
                    rcases i with _ | _ | _ | _ | _ | _ | _ | _ | _ | _ | _ | _ | _ | i
                    · cases hi
                      have h0 := gdq _ _ _ (show a.tmps.getD 3 undef = .pointer (some ⟨g3, 0, none⟩) from hM.off 3 (by kernel_rfl))
                      refine RegInv.op_value (by rfl) rfl (v := .pointer (some ⟨g3, 0, none⟩)) (w' := w8) ?_ ⟨_, rfl, rfl, Below.refl _ _⟩
                      unfold execOp
                      go_simp
                    · cases hi
                      have h0 := gdq _ _ _ (show a.tmps.getD 118 undef = .pointer (some ⟨g3, 0, none⟩) from hM.at_ 0 (by decide) (by kernel_rfl))
                      have y : w8.cell? ⟨g3, 0, none⟩ = some (.int .i64 b.f0) := blk_cell K3' 0
                      refine RegInv.op_value (by rfl) rfl (v := .int .i64 b.f0) (w' := w8) ?_ ⟨_, rfl, rfl, Below.refl _ _⟩
                      unfold execOp
                      go_simp
                    · cases hi
                      have h0 := gdq _ _ _ (show a.tmps.getD 8 undef = .slice PI (full mkI b.f1).length dI from hM.off 8 (by kernel_rfl))
                      refine RegInv.op_value (by rfl) rfl (v := .slice PI (full mkI b.f1).length dI) (w' := w8) ?_ ⟨_, rfl, rfl, Below.refl _ _⟩
                      unfold execOp
                      go_simp
                    · cases hi
                      have h0 := gdq _ _ _ (show a.tmps.getD 3 undef = .pointer (some ⟨g3, 0, none⟩) from hM.off 3 (by kernel_rfl))
                      refine RegInv.op_value (by rfl) rfl (v := .pointer (some ⟨g3, 1, none⟩)) (w' := w8) ?_ ⟨_, rfl, rfl, Below.refl _ _⟩
                      unfold execOp
                      go_simp
                    · cases hi
                      have h0 := gdq _ _ _ (show a.tmps.getD 121 undef = .pointer (some ⟨g3, 1, none⟩) from hM.at_ 3 (by decide) (by kernel_rfl))
                      have y : w8.cell? ⟨g3, 1, none⟩ = some (.slice A1 b.f1.length c1) := blk_cell K3' 1
                      refine RegInv.op_value (by rfl) rfl (v := .slice A1 b.f1.length c1) (w' := w8) ?_ ⟨_, rfl, rfl, Below.refl _ _⟩
                      unfold execOp
                      go_simp
                    · cases hi
                      have h0 := gdq _ _ _ (show a.tmps.getD 122 undef = .slice A1 b.f1.length c1 from hM.at_ 4 (by decide) (by kernel_rfl))
                      refine RegInv.op_value (by rfl) rfl (v := .int .i64 (b.f1.length : Int)) (w' := w8) ?_ ⟨_, rfl, rfl, Below.refl _ _⟩
                      unfold execOp
                      go_simp
                    · cases hi
                      have h0 := gdq _ _ _ (show a.tmps.getD 120 undef = .slice PI (full mkI b.f1).length dI from hM.at_ 2 (by decide) (by kernel_rfl))
                      have h1 := gdq _ _ _ (show a.tmps.getD 123 undef = .int .i64 (b.f1.length : Int) from hM.at_ 5 (by decide) (by kernel_rfl))
                      have hcI := HCI.out
                      refine RegInv.op_value (by rfl) rfl (v := .slice PI b.f1.length dI) (w' := w8) ?_ ⟨_, rfl, rfl, Below.refl _ _⟩
                      unfold execOp
                      go_simp
                    · cases hi
                      have h0 := gdq _ _ _ (show a.tmps.getD 5 undef = .slice PN (full mkN b.f2).length dN from hM.off 5 (by kernel_rfl))
                      refine RegInv.op_value (by rfl) rfl (v := .slice PN (full mkN b.f2).length dN) (w' := w8) ?_ ⟨_, rfl, rfl, Below.refl _ _⟩
                      unfold execOp
                      go_simp
                    · cases hi
                      have h0 := gdq _ _ _ (show a.tmps.getD 3 undef = .pointer (some ⟨g3, 0, none⟩) from hM.off 3 (by kernel_rfl))
                      refine RegInv.op_value (by rfl) rfl (v := .pointer (some ⟨g3, 2, none⟩)) (w' := w8) ?_ ⟨_, rfl, rfl, Below.refl _ _⟩
                      unfold execOp
                      go_simp
                    · cases hi
                      have h0 := gdq _ _ _ (show a.tmps.getD 126 undef = .pointer (some ⟨g3, 2, none⟩) from hM.at_ 8 (by decide) (by kernel_rfl))
                      have y : w8.cell? ⟨g3, 2, none⟩ = some (.slice A2 b.f2.length c2) := blk_cell K3' 2
                      refine RegInv.op_value (by rfl) rfl (v := .slice A2 b.f2.length c2) (w' := w8) ?_ ⟨_, rfl, rfl, Below.refl _ _⟩
                      unfold execOp
                      go_simp
                    · cases hi
                      have h0 := gdq _ _ _ (show a.tmps.getD 127 undef = .slice A2 b.f2.length c2 from hM.at_ 9 (by decide) (by kernel_rfl))
                      refine RegInv.op_value (by rfl) rfl (v := .int .i64 (b.f2.length : Int)) (w' := w8) ?_ ⟨_, rfl, rfl, Below.refl _ _⟩
                      unfold execOp
                      go_simp
                    · cases hi
                      have h0 := gdq _ _ _ (show a.tmps.getD 125 undef = .slice PN (full mkN b.f2).length dN from hM.at_ 7 (by decide) (by kernel_rfl))
                      have h1 := gdq _ _ _ (show a.tmps.getD 128 undef = .int .i64 (b.f2.length : Int) from hM.at_ 10 (by decide) (by kernel_rfl))
                      have hcN := HCN.out
                      refine RegInv.op_value (by rfl) rfl (v := .slice PN b.f2.length dN) (w' := w8) ?_ ⟨_, rfl, rfl, Below.refl _ _⟩
                      unfold execOp
                      go_simp
                    · cases hi
                      have h0 := gdq _ _ _ (show a.tmps.getD 119 undef = .int .i64 b.f0 from hM.at_ 1 (by decide) (by kernel_rfl))
                      have h1 := gdq _ _ _ (show a.tmps.getD 124 undef = .slice PI b.f1.length dI from hM.at_ 6 (by decide) (by kernel_rfl))
                      have h2 := gdq _ _ _ (show a.tmps.getD 129 undef = .slice PN b.f2.length dN from hM.at_ 11 (by decide) (by kernel_rfl))
                      refine RegInv.op_value (by rfl) rfl (v := .agg #[.int .i64 b.f0, .slice PI b.f1.length dI, .slice PN b.f2.length dN]) (w' := w8) ?_ ⟨_, rfl, rfl, Below.refl _ _⟩
                      unfold execOp
                      go_simp
                    · exact absurd hlt (by omega)
                  intro vs w9 bF hF
                  have eL : vs 12 = .agg #[.int .i64 b.f0, .slice PI b.f1.length dI, .slice PN b.f2.length dN] := hF 12 (by omega)
                  clear hF
                  simp only [RegInv.puts, dHB26, Act.put, List.range, List.range.loop, List.setIfInBounds_toArray, List.set_cons_zero, List.set_cons_succ]
                  rw [eL]
                  clear eL
                  have hk4 := blk_below HK48.out bF
                  have c0' : w9.cell? ⟨g4, 0, none⟩ = some (.int .i64 0) := blk_cell hk4 0
                  have c1' : w9.cell? ⟨g4, 1, none⟩ = some (.slice none 0 0) := blk_cell hk4 1
                  have c2' : w9.cell? ⟨g4, 2, none⟩ = some (.slice none 0 0) := blk_cell hk4 2
                  have f0' : w9.frozen? ⟨g4, 0, none⟩ = false := blk_frozen hk4 0
                  have f1' : w9.frozen? ⟨g4, 1, none⟩ = false := blk_frozen hk4 1
                  have f2' : w9.frozen? ⟨g4, 2, none⟩ = false := blk_frozen hk4 2
                  refine RegInv.op_skip (by rfl) rfl (w' := set3 w9 g4 (.int .i64 b.f0) (.slice PI b.f1.length dI) (.slice PN b.f2.length dN)) ?run ?_
                  case run =>
                    unfold execOp set3
                    go_simp
                  clear c0' c1' c2' f0' f1' f2'
                  have HR9 := Aside0.mk (Kd.R_take (m := b.f1.length) (set3_R (Kd.R_below HX8.out bF) hk4 (by decide) (.int .i64 b.f0) (.slice PI b.f1.length dI) (.slice PN b.f2.length dN)) (by rw [full_len]; omega))
                  rw [full_take] at HR9
                  have HN9 := Aside0.mk (Kd.R_take (m := b.f2.length) (set3_R (Kd.R_below HF8.out bF) hk4 (by decide) (.int .i64 b.f0) (.slice PI b.f1.length dI) (.slice PN b.f2.length dN)) (by rw [full_len]; omega))
                  rw [full_take] at HN9
                  have HH9 := Aside0.mk (((HH8.out.below bF).grown (e := 25) (b' := w.heap.size) (set3_grown w9 g4 (.int .i64 b.f0) (.slice PI b.f1.length dI) (.slice PN b.f2.length dN)) (fun q hq => by injection hq with hq; rw [← hq]; exact ⟨_, hk4⟩) (fun q hq => by injection hq with hq; rw [← hq]; exact HG4.out) (by decide) (.inl (by decide)) (.inl (by decide)) (.inl (by decide)) (.inl (by decide)) (.inr (fun _ h => h))).mono (qO := fun _ => True) (qS := fun _ => True) (qN := fun _ => True) (qI := fun _ => True) (qB := fun _ => True) (fun _ _ _ => trivial) (fun _ _ _ => trivial) (fun _ _ _ => trivial) (fun _ _ _ => trivial) (fun _ _ _ => trivial))
                  have HB9 := Aside0.mk ((HB8.out.trans (bF.mono HB8.out.size)).grown (set3_grown w9 g4 (.int .i64 b.f0) (.slice PI b.f1.length dI) (.slice PN b.f2.length dN)) (Nat.le_trans HB8.out.size bF.size) (fun q hq => by injection hq with hq; rw [← hq]; exact Nat.le_trans HN0.out HG4.out))
                  have HK49 := Aside0.mk (set3_blk hk4 (.int .i64 b.f0) (.slice PI b.f1.length dI) (.slice PN b.f2.length dN))
                  clear hk4 bF HX8 HF8 HH8 HB8 HK48 HK3
                  generalize set3 w9 g4 (.int .i64 b.f0) (.slice PI b.f1.length dI) (.slice PN b.f2.length dN) = w10 at *
                  generalize vs 0 = t0
                  generalize vs 1 = t1
                  generalize vs 2 = t2
                  generalize vs 3 = t3
                  generalize vs 4 = t4
                  generalize vs 5 = t5
                  generalize vs 6 = t6
                  generalize vs 7 = t7
                  generalize vs 8 = t8
                  generalize vs 9 = t9
                  generalize vs 10 = t10
                  generalize vs 11 = t11
                  refine hK _ _ ?_
                  clear hK
                  go_wp2
                  refine bodyPost_ret (results_single (fn := Try.f15) (r := .cell 4 25) rfl (.cell g4 25 #[.int .i64 b.f0, .slice PI b.f1.length dI, .slice PN b.f2.length dN] (0, 0) _ rfl HK49.out Try.underlying25 rfl (by kernel_rfl) .nil)) rfl ?_
                  exact ⟨PI, dI, PN, dN, rfl, HR9.out, HN9.out, vO', vS', .slice P1 m1 d1, .slice P2 m2 d2, O', S', NX1, I ++ [full mkI b.f1], HH9.out, HOL.out.1, HOL.out.2, HNX.out, by simp, HB9.out⟩
end Go.Proofs.Ytdjpamgjmpibnaa.PHc
