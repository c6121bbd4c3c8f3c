/- KeptProgram: a program that was lent is found kept. For every world. -/
import Derived.Test.YtdjpamgjmpibnaaKept0
import Derived.Test.YtdjpamgjmpibnaaPFitx1
import Derived.Test.YtdjpamgjmpibnaaPFitx2
import Derived.Test.YtdjpamgjmpibnaaRegLast2
namespace Go.Proofs.Ytdjpamgjmpibnaa.PFit
open Go.RowKit Go.Proofs.Ytdjpamgjmpibnaa.Lit Go.Proofs.YtdjpamgjmpibnaaW.PrintWords Go.Proofs.YtdjpamgjmpibnaaW.PrintLast Go.Proofs.YtdjpamgjmpibnaaW.PrintMore
set_option linter.unusedVariables false
set_option linter.unusedSimpArgs false
theorem cut_cap {P : Program} (t e : TypeId) (kh : IntKind) {i : TypeInfo} (ht : P.underlying t = some (.slice e)) (hi : P.info? e = some i) (A : Option Addr) (n c : Nat) (j : Int) (h0 : 0 ≤ j) (hm : j ≤ c) :
    ∀ W : World, (Instr.slice t (.slice A n c) none (some (.int kh j)) none).run P W = .ok (.slice A j.toNat c) W := by
  intro W
  have hel : P.elem t = e := by simp [Program.elem, ht]
  have hu : P.underlying t = some (.slice (P.elem t)) := by rw [hel]; exact ht
  have ha : (A.map fun x => x.add 0) = A := by cases A <;> simp [Addr.add]
  rw [run_slice_h W t A n c hu kh j h0 (by omega), hel]
  simp [sizeOf, typeInfo, hi, sliced, Result.andThen, ha]
theorem eqA56 (d : Nat) (w : World) (x0 y0 : Int) (x1 y1 : Int) (x2 y2 : ByteArray) :
    (Op.equalIn (d + 2) 56 (.agg #[.int .i64 x0, .int .i64 x1, .string x2]) (.agg #[.int .i64 y0, .int .i64 y1, .string y2])).run Try.prog w = .ok (x0 == y0 && (x1 == y1 && (x2.toList == y2.toList))) w := by
  refine eqA_of Try.underlying56 (by kernel_rfl) ?_
  refine eqf_cons (by rfl) (by go_simp; rfl) (by go_simp; rfl) (by go_simp) ?_
  refine eqf_cons (by rfl) (by go_simp; rfl) (by go_simp; rfl) (by go_simp) ?_
  exact eqf_last (by rfl) (by go_simp; rfl) (by go_simp; rfl) (by go_simp)
theorem neq56 (w : World) (x0 : Int) (x1 : Int) (x2 : ByteArray) : (binOp .neq 56 (.agg #[.int .i64 x0, .int .i64 x1, .string x2]) (.agg #[.int .i64 x0, .int .i64 x1, .string x2])).run Try.prog w = .ok (.bool false) w := by
  simp [binOp, Op.equal, Op.maxDepth, eqA56 9998 w x0 x0 x1 x1 x2 x2]
theorem cell_setk {w : World} {a : Addr} {v : Value} (h : w.cell? a = some v) {g : Nat} (hne : a.block ≠ g) (j : Nat) (u : Value) : (w.setCell ⟨g, j, none⟩ u).cell? a = some v := cell_set h hne j u
theorem fullC_len (c : List S56) : (fullC c).length = c.length + 64 := by simp [fullC]
theorem fullC_low {c : List S56} {k : Nat} (h : k < c.length) : rd_T56 (fullC c) (k : Int) = rd_T56 c (k : Int) := by
  unfold rd_T56 fullC
  rw [Int.toNat_natCast, List.getD_eq_getElem?_getD, List.getD_eq_getElem?_getD, List.getElem?_append_left h]
theorem fullC_high {c : List S56} {k : Nat} (h : c.length ≤ k) (h2 : k < c.length + 64) : rd_T56 (fullC c) (k : Int) = ⟨-7, (k : Int) - (c.length : Int), ⟨#[]⟩⟩ := by
  unfold rd_T56 fullC
  rw [Int.toNat_natCast, List.getD_eq_getElem?_getD, List.getElem?_append_right h]
  have hk : k - c.length < 64 := by omega
  simp [hk, markC]
  omega
theorem wrapm {m : Nat} (h : m ≤ 2097152) : IntKind.i64.wrap (m : Int) = (m : Int) := by
  rw [IntKind.wrap_i64]; omega
def dKP : Nat → Option Tmp
  | 0 => some 122
  | 1 => some 123
  | 2 => some 124
  | 3 => some 125
  | 4 => some 126
  | 5 => some 127
  | 6 => some 128
  | 7 => some 129
  | 8 => some 130
  | 9 => some 131
  | 10 => some 132
  | 11 => some 133
  | 12 => some 134
  | 13 => some 135
  | 14 => some 136
  | 15 => some 137
  | 16 => some 138
  | 17 => some 139
  | 18 => some 140
  | 19 => some 141
  | 20 => some 142
  | 21 => some 143
  | 22 => some 144
  | 23 => some 145
  | _ => none
def FKP (aP : Addr) (n k m d1 g11 nP nI nH nIf nHf : Nat) (DC DH AC AH : Option Addr) (eC eH cC cH : Nat) : Nat → World → Value → Prop
  | 0, _, v => v = .slice (some aP) nP d1
  | 1, _, v => v = .int .i64 (n : Int)
  | 2, _, v => v = .int .i64 (k : Int)
  | 3, _, v => v = .int .i64 (m : Int)
  | 4, _, v => v = .pointer (some (aP.add (m * 5)))
  | 5, _, v => v = .pointer (some ⟨(aP.add (m * 5)).block, (aP.add (m * 5)).off + 3, none⟩)
  | 6, _, v => v = .slice DC nIf eC
  | 7, _, v => v = .pointer (some ⟨g11, 3, none⟩)
  | 8, _, v => v = .slice AC nI cC
  | 9, _, v => v = .bool true
  | 10, _, v => v = .bool false
  | 11, _, v => v = .bool false
  | 12, _, v => v = .slice (some aP) nP d1
  | 13, _, v => v = .int .i64 (n : Int)
  | 14, _, v => v = .int .i64 (k : Int)
  | 15, _, v => v = .int .i64 (m : Int)
  | 16, _, v => v = .pointer (some (aP.add (m * 5)))
  | 17, _, v => v = .pointer (some ⟨(aP.add (m * 5)).block, (aP.add (m * 5)).off + 4, none⟩)
  | 18, _, v => v = .slice DH nHf eH
  | 19, _, v => v = .pointer (some ⟨g11, 4, none⟩)
  | 20, _, v => v = .slice AH nH cH
  | 21, _, v => v = .bool true
  | 22, _, v => v = .bool false
  | 23, _, v => v = .bool false
  | _, _, _ => True
theorem FKP_below (aP : Addr) (n k m d1 g11 nP nI nH nIf nHf : Nat) (DC DH AC AH : Option Addr) (eC eH cC cH : Nat) (i : Nat) (w w1 : World) (v : Value) (h : FKP aP  n k m d1 g11 nP nI nH nIf nHf  DC DH AC AH  eC eH cC cH  i w v) (hb : Below w.heap.size w w1) : FKP aP  n k m d1 g11 nP nI nH nIf nHf  DC DH AC AH  eC eH cC cH  i w1 v := by
  match i with
  | 0 | 1 | 2 | 3 | 4 | 5 | 6 | 7 | 8 | 9 | 10 | 11 | 12 | 13 | 14 | 15 | 16 | 17 | 18 | 19 | 20 | 21 | 22 | 23 => exact h
  | (n + 24) => exact h
set_option maxHeartbeats 8000000 in
set_option maxRecDepth 100000 in
theorem kept_program (A0 A1 PA PB : Option Addr) (d0 d1 c0 c1 : Nat) (c : List S56) (f : List S60) (w : World) (hA0 : k56.C w A0 (fullC c).length (fullC c)) (hA1 : k60.C w A1 (fullP f).length (fullP f)) (hPA : k56.C w PA c.length c) (hPB : k60.C w PB f.length f) (hd0 : (fullC c).length ≤ d0) (hd1 : (fullP f).length ≤ d1) (hs : SmallF f) (hcs : c.length ≤ 1048576) :
    Calls Try.prog 14 #[.agg #[.slice A0 c.length d0, .slice A1 f.length d1], .agg #[.slice PA c.length c0, .slice PB f.length c1]] w fun e w' => e = .returned (.bool true) ∧ Below w.heap.size w w' := by
  have HA0 := Aside0.mk hA0
  have HA1 := Aside0.mk hA1
  have HPA := Aside0.mk hPA
  have HPB := Aside0.mk hPB
  have HS := Aside0.mk hs
  have hfl := hs.len
  rw [fullC_len] at hd0
  rw [fullP_len] at hd1
  obtain ⟨i56, hi56, _⟩ := Option.map_eq_some_iff.1 info56
  obtain ⟨i60, hi60, _⟩ := Option.map_eq_some_iff.1 info60
  have hcut0 := cut_cap (P := Try.prog) 41 56 .i64 Try.underlying41 hi56 A0 c.length d0 ((c.length : Int) + 64) (by omega) (by omega)
  have hcut1 := cut_cap (P := Try.prog) 42 60 .i64 Try.underlying42 hi60 A1 f.length d1 (2 * (f.length : Int) + 64) (by omega) (by omega)
  rw [show ((c.length : Int) + 64).toNat = c.length + 64 by omega] at hcut0
  rw [show (2 * (f.length : Int) + 64).toNat = 2 * f.length + 64 by omega] at hcut1
  have HD := Aside0.mk (And.intro hd0 hd1)
  clear hA0 hA1 hPA hPB hs hi56 hi60 hd0 hd1
  go_enter Try.func14, Try.ntmps14
  go_upto_region 1 with (fail)
  have hb := bodies w (.cells #[.slice A0 c.length d0, .slice A1 f.length d1] 44)
  have hb2 := bodies (w.alloc (.cells #[.slice A0 c.length d0, .slice A1 f.length d1] 44)) (.cells #[.slice PA c.length c0, .slice PB f.length c1] 44)
  have K2 := blk_alloc (blk_new w (.cells #[.slice A0 c.length d0, .slice A1 f.length d1] 44)) (.cells #[.slice PA c.length c0, .slice PB f.length c1] 44)
  have K3 := blk_new (w.alloc (.cells #[.slice A0 c.length d0, .slice A1 f.length d1] 44)) (.cells #[.slice PA c.length c0, .slice PB f.length c1] 44)
  rw [World.size_alloc] at K3
  have HB := Aside0.mk (wB hb hb2)
  replace HA0 := Aside0.mk (Kd.C_below HA0.out HB.out)
  replace HA1 := Aside0.mk (Kd.C_below HA1.out HB.out)
  replace HPA := Aside0.mk (Kd.C_below HPA.out HB.out)
  replace HPB := Aside0.mk (Kd.C_below HPB.out HB.out)
  clear hb hb2
  generalize (w.alloc (.cells #[.slice A0 c.length d0, .slice A1 f.length d1] 44)).alloc (.cells #[.slice PA c.length c0, .slice PB f.length c1] 44) = w1 at *
  generalize w.heap.size + 1 = g3 at *
  obtain ⟨g2, hg2⟩ : ∃ g, g = w.heap.size := ⟨_, rfl⟩
  rw [← hg2] at K2 ⊢
  clear hg2
  have q0 : w1.cell? ⟨g2, 0, none⟩ = some (.slice A0 c.length d0) := blk_cell K2 0
  have q1 : w1.cell? ⟨g2, 1, none⟩ = some (.slice A1 f.length d1) := blk_cell K2 1
  have p0 : w1.cell? ⟨g3, 0, none⟩ = some (.slice PA c.length c0) := blk_cell K3 0
  have p1 : w1.cell? ⟨g3, 1, none⟩ = some (.slice PB f.length c1) := blk_cell K3 1
  have HK3 := Aside0.mk K3
  clear K2 K3
  go_wp2_with (fail)
  clear q0 q1 p0 p1 hcut0 hcut1
  go_loopw [8] (fun t wr => ∃ k : Nat, k ≤ c.length + 64 ∧ t = .int .i64 k ∧ Below w1.heap.size w1 wr) (fun t _ => c.length + 64 - (intOf t).toNat)
  case atStart => exact ⟨0, Nat.zero_le _, rfl, Below.refl _ _⟩
  case round =>
    obtain ⟨k, hk, rfl, hb⟩ := hrel
    by_cases hlt : k < c.length + 64
    · have hA2 := HA0.out
      obtain ⟨a, rfl, q0, q1, q2⟩ := at_T56 hA2 (k : Int) (by omega) (by rw [fullC_len]; omega)
      rw [Int.toNat_natCast] at q0 q1 q2
      have hab := World.block_lt_of_cell? _ _ q0
      have hadd : (a.add (k * 3)).block = a.block := add_block _ _
      rw [hadd] at hab
      have HAB := Aside0.mk hab
      have HBW := Aside0.mk hb
      have p0 : wr.cell? ⟨g3, 0, none⟩ = some (.slice PA c.length c0) := blk_cell (blk_below HK3.out hb) 0
      replace q0 := pw_cell_below HBW.out q0
      replace q1 := pw_cell_below HBW.out q1
      replace q2 := pw_cell_below HBW.out q2
      clear hA2 hb hab hadd
      go_upto_region 10 with (fail)
      have hb := bodies wr (.cells #[.int .i64 (-7), .int .i64 ((k : Int) - (c.length : Int)), .string { data := #[] }] 56)
      have K := blk_new wr (.cells #[.int .i64 (-7), .int .i64 ((k : Int) - (c.length : Int)), .string { data := #[] }] 56)
      replace q0 := pw_cell_below hb q0
      replace q1 := pw_cell_below hb q1
      replace q2 := pw_cell_below hb q2
      replace p0 := pw_cell_below hb p0
      have HG := Aside0.mk HBW.out.size
      replace HBW := Aside0.mk (wB HBW.out hb)
      clear hb
      generalize wr.alloc (.cells #[.int .i64 (-7), .int .i64 ((k : Int) - (c.length : Int)), .string { data := #[] }] 56) = w2 at *
      generalize wr.heap.size = g at *
      have he := neq56
      by_cases hkl : k < c.length
      · have e := fullC_low hkl
        rw [e] at q0 q1 q2
        obtain ⟨b, rfl, r0, r1, r2⟩ := at_T56 (Kd.C_below HPA.out HBW.out) (k : Int) (by omega) (by omega)
        rw [Int.toNat_natCast] at r0 r1 r2
        generalize rd_T56 c (k : Int) = y at *
        clear e
        have gne : (a.add (k * 3)).block ≠ g := by rw [add_block]; have := HAB.out; have := HG.out; omega
        have c0_ : w2.cell? ⟨g, 0, none⟩ = some (.int .i64 (-7)) := blk_cell K 0
        have f0_ := blk_frozen K 0
        have c1_ : w2.cell? ⟨g, 1, none⟩ = some (.int .i64 ((k : Int) - (c.length : Int))) := blk_cell K 1
        have f1_ := blk_frozen K 1
        have c2_ : w2.cell? ⟨g, 2, none⟩ = some (.string { data := #[] }) := blk_cell K 2
        have f2_ := blk_frozen K 2
        have HGN := Aside0.mk gne
        have HKK := Aside0.mk K
        clear K gne
        go_upto_region 12 with (fail)
        have K := HKK.out
        have gne := HGN.out
        have K0 := blk_put K 0 (.int .i64 y.f0) (cs' := #[.int .i64 y.f0, .int .i64 ((k : Int) - (c.length : Int)), .string { data := #[] }]) rfl
        have K1 := blk_put K0 1 (.int .i64 y.f1) (cs' := #[.int .i64 y.f0, .int .i64 y.f1, .string { data := #[] }]) rfl
        have K2 := blk_put K1 2 (.string y.f2) (cs' := #[.int .i64 y.f0, .int .i64 y.f1, .string y.f2]) rfl
        have HB2 := Aside0.mk (below_set (below_set (below_set HBW.out HG.out (j := 0) (v := .int .i64 y.f0)) HG.out (j := 1) (v := .int .i64 y.f1)) HG.out (j := 2) (v := .string y.f2))
        replace q0 := cell_set (cell_set (cell_set q0 gne 0 (.int .i64 y.f0)) gne 1 (.int .i64 y.f1)) gne 2 (.string y.f2)
        replace q1 := cell_set (cell_set (cell_set q1 gne 0 (.int .i64 y.f0)) gne 1 (.int .i64 y.f1)) gne 2 (.string y.f2)
        replace q2 := cell_set (cell_set (cell_set q2 gne 0 (.int .i64 y.f0)) gne 1 (.int .i64 y.f1)) gne 2 (.string y.f2)
        clear c0_ f0_ c1_ f1_ c2_ f2_ r0 r1 r2 gne p0
        generalize ((w2.setCell ⟨g, 0, none⟩ (.int .i64 y.f0)).setCell ⟨g, 1, none⟩ (.int .i64 y.f1)).setCell ⟨g, 2, none⟩ (.string y.f2) = w3 at *
        have d0_ : w3.cell? ⟨g, 0, none⟩ = some (.int .i64 y.f0) := blk_cell K2 0
        have d1_ : w3.cell? ⟨g, 1, none⟩ = some (.int .i64 y.f1) := blk_cell K2 1
        have d2_ : w3.cell? ⟨g, 2, none⟩ = some (.string y.f2) := blk_cell K2 2
        clear K K0 K1 K2
        go_quiet (fail)
        go_wp2
        go_roundw
        case rel => exact ⟨k + 1, by omega, by go_num, pw_below_drewN HB2.out _⟩
        case measure => simp [intOf]; omega
      · have e := fullC_high (c := c) (k := k) (by omega) hlt
        rw [e] at q0 q1 q2
        simp only at q0 q1 q2
        clear e
        have c0_ : w2.cell? ⟨g, 0, none⟩ = some (.int .i64 (-7)) := blk_cell K 0
        have f0_ := blk_frozen K 0
        have c1_ : w2.cell? ⟨g, 1, none⟩ = some (.int .i64 ((k : Int) - (c.length : Int))) := blk_cell K 1
        have f1_ := blk_frozen K 1
        have c2_ : w2.cell? ⟨g, 2, none⟩ = some (.string { data := #[] }) := blk_cell K 2
        have f2_ := blk_frozen K 2
        clear K
        go_upto_region 12 with (fail)
        go_quiet (fail)
        go_wp2
        go_roundw
        case rel => exact ⟨k + 1, by omega, by go_num, pw_below_drewN HBW.out _⟩
        case measure => simp [intOf]; omega
    · have HBW := Aside0.mk hb
      clear hb
      go_wp2_with (fail)
      clear hlt hk
      generalize wr = wL at *
      go_loopw [10] (fun t wr => ∃ k : Nat, k ≤ f.length ∧ t = .int .i64 k ∧ Below w1.heap.size w1 wr) (fun t _ => f.length - (intOf t).toNat)
      case atStart => exact ⟨0, Nat.zero_le _, rfl, HBW.out⟩
      case round =>
        clear HBW
        obtain ⟨k, hk, rfl, hb⟩ := hrel
        by_cases hlt : k < f.length
        · have hfl2 := fullP_len f
          obtain ⟨aF, AC, cC, AH, cH, rfl, x0, x1, x2, x3, x4, _, gC, _, gH⟩ := at_T60 HPB.out (k : Int) (by omega) (by omega)
          obtain ⟨aP, BC, dC, BH, dH, eP, y0, y1, y2, y3, y4, _, hC, _, hH⟩ := at_T60 HA1.out (k : Int) (by omega) (by omega)
          obtain ⟨m, hm⟩ : ∃ m, m = f.length + k := ⟨_, rfl⟩
          obtain ⟨aQ, DC, eC, DH, eH, eQ, z0, z1, z2, z3, z4, _, iC, _, iH⟩ := at_T60 HA1.out (m : Int) (by omega) (by omega)
          subst eP
          obtain rfl := Option.some.inj eQ
          have e1 : rd_T60 f (k : Int) = f[k] := rd60_at hlt
          have e2 : rd_T60 (fullP f) (k : Int) = f[k] := by rw [rd60_getD, List.getD_eq_getElem?_getD, fullP_low hlt]; rfl
          have e3 : rd_T60 (fullP f) (m : Int) = fullF f k := by rw [rd60_getD, List.getD_eq_getElem?_getD, hm, fullP_mid hlt]; rfl
          have e4 : f.getD k z60 = f[k] := by rw [← rd60_getD]; exact e1
          have hsx := And.intro (HS.out.code _ (List.getElem_mem hlt)) (HS.out.hand _ (List.getElem_mem hlt))
          rw [e1] at x0 x1 x2 x3 x4 gC gH
          rw [e2] at y0 y1 y2 y3 y4 hC hH
          rw [e3] at z0 z1 z2 z3 z4 iC iH
          unfold fullF at z0 z1 z2 z3 z4 iC iH
          rw [e4] at z3 z4 iC iH
          simp only at z3 z4 iC iH
          rw [Int.toNat_natCast] at x0 x1 x2 x3 x4 y0 y1 y2 y3 y4 z3 z4
          generalize f[k] = x at *
          have HSX := Aside0.mk hsx
          have HMI := Aside0.mk (show (f.length : Int) + (k : Int) = (m : Int) by omega)
          have HMB := Aside0.mk (show m ≤ 2097152 by omega)
          have HML := Aside0.mk (show (m : Int) < 2 * (f.length : Int) + 64 ∧ m < 2 * f.length + 64 by omega)
          clear e1 e2 e3 e4 z0 z1 z2 eQ hsx hm hfl2
          have GAC := Aside0.mk (Kd.C_below gC hb)
          have GAH := Aside0.mk (Kd.C_below gH hb)
          have GBC := Aside0.mk (Kd.C_below hC hb)
          have GBH := Aside0.mk (Kd.C_below hH hb)
          have GDC := Aside0.mk (Kd.C_below iC hb)
          have GDH := Aside0.mk (Kd.C_below iH hb)
          clear gC gH hC hH iC iH
          have p1 : wr.cell? ⟨g3, 1, none⟩ = some (.slice (some aF) f.length c1) := blk_cell (blk_below HK3.out hb) 1
          replace x0 := pw_cell_below hb x0
          replace x1 := pw_cell_below hb x1
          replace x2 := pw_cell_below hb x2
          replace x3 := pw_cell_below hb x3
          replace x4 := pw_cell_below hb x4
          replace y0 := pw_cell_below hb y0
          replace y1 := pw_cell_below hb y1
          replace y2 := pw_cell_below hb y2
          replace y3 := pw_cell_below hb y3
          replace y4 := pw_cell_below hb y4
          replace z3 := pw_cell_below hb z3
          replace z4 := pw_cell_below hb z4
          have HBW := Aside0.mk hb
          clear hb
          go_upto_region 18 with (fail)
          have hb := bodies wr (.cells #[.string x.f0, .int .i64 x.f1, .int .i64 x.f2, .slice AC x.f3.length cC, .slice AH x.f4.length cH] 60)
          have K11 := blk_new wr (.cells #[.string x.f0, .int .i64 x.f1, .int .i64 x.f2, .slice AC x.f3.length cC, .slice AH x.f4.length cH] 60)
          replace y0 := pw_cell_below hb y0
          replace y1 := pw_cell_below hb y1
          replace y2 := pw_cell_below hb y2
          replace y3 := pw_cell_below hb y3
          replace y4 := pw_cell_below hb y4
          replace z3 := pw_cell_below hb z3
          replace z4 := pw_cell_below hb z4
          replace GAC := Aside0.mk (Kd.C_below GAC.out hb)
          replace GAH := Aside0.mk (Kd.C_below GAH.out hb)
          replace GBC := Aside0.mk (Kd.C_below GBC.out hb)
          replace GBH := Aside0.mk (Kd.C_below GBH.out hb)
          replace GDC := Aside0.mk (Kd.C_below GDC.out hb)
          replace GDH := Aside0.mk (Kd.C_below GDH.out hb)
          replace HBW := Aside0.mk (wB HBW.out hb)
          clear hb x0 x1 x2 x3 x4 p1
          generalize wr.alloc (.cells #[.string x.f0, .int .i64 x.f1, .int .i64 x.f2, .slice AC x.f3.length cC, .slice AH x.f4.length cH] 60) = w4 at *
          generalize wr.heap.size = g11 at *
          have HK11 := Aside0.mk K11
          clear K11
          go_upto_region 19 with (fail)
          have hb := bodies w4 (.cells #[.string x.f0, .int .i64 x.f1, .int .i64 x.f2, .slice BC x.f3.length dC, .slice BH x.f4.length dH] 60)
          have K12 := blk_new w4 (.cells #[.string x.f0, .int .i64 x.f1, .int .i64 x.f2, .slice BC x.f3.length dC, .slice BH x.f4.length dH] 60)
          replace z3 := pw_cell_below hb z3
          replace z4 := pw_cell_below hb z4
          replace GAC := Aside0.mk (Kd.C_below GAC.out hb)
          replace GAH := Aside0.mk (Kd.C_below GAH.out hb)
          replace GBC := Aside0.mk (Kd.C_below GBC.out hb)
          replace GBH := Aside0.mk (Kd.C_below GBH.out hb)
          replace GDC := Aside0.mk (Kd.C_below GDC.out hb)
          replace GDH := Aside0.mk (Kd.C_below GDH.out hb)
          replace HBW := Aside0.mk (wB HBW.out hb)
          replace HK11 := Aside0.mk (blk_below HK11.out hb)
          clear hb y0 y1 y2 y3 y4
          generalize w4.alloc (.cells #[.string x.f0, .int .i64 x.f1, .int .i64 x.f2, .slice BC x.f3.length dC, .slice BH x.f4.length dH] 60) = w5 at *
          generalize w4.heap.size = g12 at *
          have r0 : w5.cell? ⟨g11, 0, none⟩ = some (.string x.f0) := blk_cell HK11.out 0
          have r1 : w5.cell? ⟨g11, 1, none⟩ = some (.int .i64 x.f1) := blk_cell HK11.out 1
          have r2 : w5.cell? ⟨g11, 2, none⟩ = some (.int .i64 x.f2) := blk_cell HK11.out 2
          have r3 : w5.cell? ⟨g11, 3, none⟩ = some (.slice AC x.f3.length cC) := blk_cell HK11.out 3
          have r4 : w5.cell? ⟨g11, 4, none⟩ = some (.slice AH x.f4.length cH) := blk_cell HK11.out 4
          have s0 : w5.cell? ⟨g12, 0, none⟩ = some (.string x.f0) := blk_cell K12 0
          have s1 : w5.cell? ⟨g12, 1, none⟩ = some (.int .i64 x.f1) := blk_cell K12 1
          have s2 : w5.cell? ⟨g12, 2, none⟩ = some (.int .i64 x.f2) := blk_cell K12 2
          have s3 : w5.cell? ⟨g12, 3, none⟩ = some (.slice BC x.f3.length dC) := blk_cell K12 3
          have s4 : w5.cell? ⟨g12, 4, none⟩ = some (.slice BH x.f4.length dH) := blk_cell K12 4
          have HK12 := Aside0.mk K12
          clear K12
          go_wp2_with (fail)
          refine (same_instrs BC AC dC cC x.f3 w5 GBC.out GAC.out HSX.out.1).mono ?_
          rintro e w6 ⟨rfl, hb⟩
          replace z3 := pw_cell_below hb z3
          replace z4 := pw_cell_below hb z4
          replace GAC := Aside0.mk (Kd.C_below GAC.out hb)
          replace GAH := Aside0.mk (Kd.C_below GAH.out hb)
          replace GBC := Aside0.mk (Kd.C_below GBC.out hb)
          replace GBH := Aside0.mk (Kd.C_below GBH.out hb)
          replace GDC := Aside0.mk (Kd.C_below GDC.out hb)
          replace GDH := Aside0.mk (Kd.C_below GDH.out hb)
          replace HBW := Aside0.mk (wB HBW.out hb)
          replace HK11 := Aside0.mk (blk_below HK11.out hb)
          replace HK12 := Aside0.mk (blk_below HK12.out hb)
          clear hb r0 r1 r2 r3 r4 s0 s1 s2 s3 s4
          have r4 : w6.cell? ⟨g11, 4, none⟩ = some (.slice AH x.f4.length cH) := blk_cell HK11.out 4
          have s4 : w6.cell? ⟨g12, 4, none⟩ = some (.slice BH x.f4.length dH) := blk_cell HK12.out 4
          go_wp2_with (fail)
          refine (same_hands BH AH dH cH x.f4 w6 GBH.out GAH.out HSX.out.2).mono ?_
          rintro e w7 ⟨rfl, hb⟩
          replace z3 := pw_cell_below hb z3
          replace z4 := pw_cell_below hb z4
          replace GAC := Aside0.mk (Kd.C_below GAC.out hb)
          replace GAH := Aside0.mk (Kd.C_below GAH.out hb)
          replace GDC := Aside0.mk (Kd.C_below GDC.out hb)
          replace GDH := Aside0.mk (Kd.C_below GDH.out hb)
          replace HBW := Aside0.mk (wB HBW.out hb)
          replace HK11 := Aside0.mk (blk_below HK11.out hb)
          clear hb r4 s4
          have XX := Aside0.mk (fun w8 (b : Below w7.heap.size w7 w8) => And.intro (pw_cell_below b z3) (pw_cell_below b z4))
          clear z3 z4 GBC GBH HK12
          go_wp2_with (fail)
          rename_i hK
          refine RegInv.region_facts (by kernel_rfl) (by kernel_rfl) (fun a b => Below a.heap.size a b) (fun a b c h k => wB h k) (below_drew1 (Below.refl _ _)) dKP 24 (by kernel_rfl) (by kernel_rfl) (by kernel_rfl) (FKP aP f.length k m d1 g11 (2 * f.length + 64) x.f3.length x.f4.length (fullI x.f3).length (fullH x.f4).length DC DH AC AH eC eH cC cH) (FKP_below aP f.length k m d1 g11 (2 * f.length + 64) x.f3.length x.f4.length (fullI x.f3).length (fullH x.f4).length DC DH AC AH eC eH cC cH) ?hsKP ?heKP
          case hsKP =>
            clear hK
            intro i o a w8 hi hM
            have hlt : i < 24 := (Array.getElem?_eq_some_iff.1 hi).1
            have K11' := blk_below HK11.out hM.ext
            rcases i with _ | _ | _ | _ | _ | _ | _ | _ | _ | _ | _ | _ | _ | _ | _ | _ | _ | _ | _ | _ | _ | _ | _ | _ | i
            · cases hi
              have h0 := gdq _ _ _ (show a.tmps.getD 7 undef = .slice (some aP) (2 * f.length + 64) d1 from hM.off 7 (by kernel_rfl))
              refine RegInv.op_value (by rfl) rfl (v := .slice (some aP) (2 * f.length + 64) d1) (w' := w8) ?_ ⟨_, rfl, rfl, Below.refl _ _⟩
              unfold execOp
              go_simp
            · cases hi
              have h0 := gdq _ _ _ (show a.tmps.getD 5 undef = .int .i64 (f.length : Int) from hM.off 5 (by kernel_rfl))
              refine RegInv.op_value (by rfl) rfl (v := .int .i64 (f.length : Int)) (w' := w8) ?_ ⟨_, rfl, rfl, Below.refl _ _⟩
              unfold execOp
              go_simp
            · cases hi
              have h0 := gdq _ _ _ (show a.tmps.getD 10 undef = .int .i64 (k : Int) from hM.off 10 (by kernel_rfl))
              refine RegInv.op_value (by rfl) rfl (v := .int .i64 (k : Int)) (w' := w8) ?_ ⟨_, rfl, rfl, Below.refl _ _⟩
              unfold execOp
              go_simp
            · cases hi
              have h0 := gdq _ _ _ (show a.tmps.getD 123 undef = .int .i64 (f.length : Int) from hM.at_ 1 (by decide) (by kernel_rfl))
              have h1 := gdq _ _ _ (show a.tmps.getD 124 undef = .int .i64 (k : Int) from hM.at_ 2 (by decide) (by kernel_rfl))
              have hmi := HMI.out
              refine RegInv.op_value (by rfl) rfl (v := .int .i64 (m : Int)) (w' := w8) ?_ ⟨_, rfl, rfl, Below.refl _ _⟩
              unfold execOp
              go_simp
              exact wrapm HMB.out
            · cases hi
              have h0 := gdq _ _ _ (show a.tmps.getD 122 undef = .slice (some aP) (2 * f.length + 64) d1 from hM.at_ 0 (by decide) (by kernel_rfl))
              have h1 := gdq _ _ _ (show a.tmps.getD 125 undef = .int .i64 (m : Int) from hM.at_ 3 (by decide) (by kernel_rfl))
              have hml := HML.out
              refine RegInv.op_value (by rfl) rfl (v := .pointer (some (aP.add (m * 5)))) (w' := w8) ?_ ⟨_, rfl, rfl, Below.refl _ _⟩
              unfold execOp
              go_simp
            · cases hi
              have h0 := gdq _ _ _ (show a.tmps.getD 126 undef = .pointer (some (aP.add (m * 5))) from hM.at_ 4 (by decide) (by kernel_rfl))
              refine RegInv.op_value (by rfl) rfl (v := .pointer (some ⟨(aP.add (m * 5)).block, (aP.add (m * 5)).off + 3, none⟩)) (w' := w8) ?_ ⟨_, rfl, rfl, Below.refl _ _⟩
              unfold execOp
              go_simp
            · cases hi
              have h0 := gdq _ _ _ (show a.tmps.getD 127 undef = .pointer (some ⟨(aP.add (m * 5)).block, (aP.add (m * 5)).off + 3, none⟩) from hM.at_ 5 (by decide) (by kernel_rfl))
              have y := (XX.out w8 hM.ext).1
              refine RegInv.op_value (by rfl) rfl (v := .slice DC (fullI x.f3).length eC) (w' := w8) ?_ ⟨_, rfl, rfl, Below.refl _ _⟩
              unfold execOp
              go_simp
            · cases hi
              have h0 := gdq _ _ _ (show a.tmps.getD 11 undef = .pointer (some ⟨g11, 0, none⟩) from hM.off 11 (by kernel_rfl))
              refine RegInv.op_value (by rfl) rfl (v := .pointer (some ⟨g11, 3, none⟩)) (w' := w8) ?_ ⟨_, rfl, rfl, Below.refl _ _⟩
              unfold execOp
              go_simp
            · cases hi
              have h0 := gdq _ _ _ (show a.tmps.getD 129 undef = .pointer (some ⟨g11, 3, none⟩) from hM.at_ 7 (by decide) (by kernel_rfl))
              have y : w8.cell? ⟨g11, 3, none⟩ = some (.slice AC x.f3.length cC) := blk_cell K11' 3
              refine RegInv.op_value (by rfl) rfl (v := .slice AC x.f3.length cC) (w' := w8) ?_ ⟨_, rfl, rfl, Below.refl _ _⟩
              unfold execOp
              go_simp
            · cases hi
              have h0 := gdq _ _ _ (show a.tmps.getD 128 undef = .slice DC (fullI x.f3).length eC from hM.at_ 6 (by decide) (by kernel_rfl))
              have h1 := gdq _ _ _ (show a.tmps.getD 130 undef = .slice AC x.f3.length cC from hM.at_ 8 (by decide) (by kernel_rfl))
              refine RegInv.op_call (by rfl) rfl Try.func24 (by kernel_rfl) rfl rfl #[.slice DC (fullI x.f3).length eC, .slice AC x.f3.length cC] (by simp [Act.eval, h0, h1]) ?_
              refine (kept_instrs DC AC eC cC x.f3 w8 (Kd.C_below GDC.out hM.ext) (Kd.C_below GAC.out hM.ext) HSX.out.1).mono ?_
              rintro e w9 ⟨rfl, b⟩
              exact ⟨_, rfl, _, rfl, rfl, b⟩
            · cases hi
              have h0 := gdq _ _ _ (show a.tmps.getD 131 undef = .bool true from hM.at_ 9 (by decide) (by kernel_rfl))
              refine RegInv.op_value (by rfl) rfl (v := .bool false) (w' := w8) ?_ ⟨_, rfl, rfl, Below.refl _ _⟩
              unfold execOp
              go_simp
            · cases hi
              have h0 := gdq _ _ _ (show a.tmps.getD 132 undef = .bool false from hM.at_ 10 (by decide) (by kernel_rfl))
              refine RegInv.op_value (by rfl) rfl (v := .bool false) (w' := w8) ?_ ⟨_, rfl, rfl, Below.refl _ _⟩
              unfold execOp
              go_simp
            · cases hi
              have hg : a.tmps.getD 133 undef = .bool false := hM.at_ 11 (by decide) (by kernel_rfl)
              have h0 := gdq _ _ _ (show a.tmps.getD 7 undef = .slice (some aP) (2 * f.length + 64) d1 from hM.off 7 (by kernel_rfl))
              refine RegInv.op_valueW (by rfl) (RegInv.wanted_of 133 rfl rfl hg) (v := .slice (some aP) (2 * f.length + 64) d1) (w' := w8) ?_ ⟨_, rfl, rfl, Below.refl _ _⟩
              unfold execOp
              go_simp
            · cases hi
              have hg : a.tmps.getD 133 undef = .bool false := hM.at_ 11 (by decide) (by kernel_rfl)
              have h0 := gdq _ _ _ (show a.tmps.getD 5 undef = .int .i64 (f.length : Int) from hM.off 5 (by kernel_rfl))
              refine RegInv.op_valueW (by rfl) (RegInv.wanted_of 133 rfl rfl hg) (v := .int .i64 (f.length : Int)) (w' := w8) ?_ ⟨_, rfl, rfl, Below.refl _ _⟩
              unfold execOp
              go_simp
            · cases hi
              have hg : a.tmps.getD 133 undef = .bool false := hM.at_ 11 (by decide) (by kernel_rfl)
              have h0 := gdq _ _ _ (show a.tmps.getD 10 undef = .int .i64 (k : Int) from hM.off 10 (by kernel_rfl))
              refine RegInv.op_valueW (by rfl) (RegInv.wanted_of 133 rfl rfl hg) (v := .int .i64 (k : Int)) (w' := w8) ?_ ⟨_, rfl, rfl, Below.refl _ _⟩
              unfold execOp
              go_simp
            · cases hi
              have hg : a.tmps.getD 133 undef = .bool false := hM.at_ 11 (by decide) (by kernel_rfl)
              have h0 := gdq _ _ _ (show a.tmps.getD 135 undef = .int .i64 (f.length : Int) from hM.at_ 13 (by decide) (by kernel_rfl))
              have h1 := gdq _ _ _ (show a.tmps.getD 136 undef = .int .i64 (k : Int) from hM.at_ 14 (by decide) (by kernel_rfl))
              have hmi := HMI.out
              refine RegInv.op_valueW (by rfl) (RegInv.wanted_of 133 rfl rfl hg) (v := .int .i64 (m : Int)) (w' := w8) ?_ ⟨_, rfl, rfl, Below.refl _ _⟩
              unfold execOp
              go_simp
              exact wrapm HMB.out
            · cases hi
              have hg : a.tmps.getD 133 undef = .bool false := hM.at_ 11 (by decide) (by kernel_rfl)
              have h0 := gdq _ _ _ (show a.tmps.getD 134 undef = .slice (some aP) (2 * f.length + 64) d1 from hM.at_ 12 (by decide) (by kernel_rfl))
              have h1 := gdq _ _ _ (show a.tmps.getD 137 undef = .int .i64 (m : Int) from hM.at_ 15 (by decide) (by kernel_rfl))
              have hml := HML.out
              refine RegInv.op_valueW (by rfl) (RegInv.wanted_of 133 rfl rfl hg) (v := .pointer (some (aP.add (m * 5)))) (w' := w8) ?_ ⟨_, rfl, rfl, Below.refl _ _⟩
              unfold execOp
              go_simp
            · cases hi
              have hg : a.tmps.getD 133 undef = .bool false := hM.at_ 11 (by decide) (by kernel_rfl)
              have h0 := gdq _ _ _ (show a.tmps.getD 138 undef = .pointer (some (aP.add (m * 5))) from hM.at_ 16 (by decide) (by kernel_rfl))
              refine RegInv.op_valueW (by rfl) (RegInv.wanted_of 133 rfl rfl hg) (v := .pointer (some ⟨(aP.add (m * 5)).block, (aP.add (m * 5)).off + 4, none⟩)) (w' := w8) ?_ ⟨_, rfl, rfl, Below.refl _ _⟩
              unfold execOp
              go_simp
            · cases hi
              have hg : a.tmps.getD 133 undef = .bool false := hM.at_ 11 (by decide) (by kernel_rfl)
              have h0 := gdq _ _ _ (show a.tmps.getD 139 undef = .pointer (some ⟨(aP.add (m * 5)).block, (aP.add (m * 5)).off + 4, none⟩) from hM.at_ 17 (by decide) (by kernel_rfl))
              have y := (XX.out w8 hM.ext).2
              refine RegInv.op_valueW (by rfl) (RegInv.wanted_of 133 rfl rfl hg) (v := .slice DH (fullH x.f4).length eH) (w' := w8) ?_ ⟨_, rfl, rfl, Below.refl _ _⟩
              unfold execOp
              go_simp
            · cases hi
              have hg : a.tmps.getD 133 undef = .bool false := hM.at_ 11 (by decide) (by kernel_rfl)
              have h0 := gdq _ _ _ (show a.tmps.getD 11 undef = .pointer (some ⟨g11, 0, none⟩) from hM.off 11 (by kernel_rfl))
              refine RegInv.op_valueW (by rfl) (RegInv.wanted_of 133 rfl rfl hg) (v := .pointer (some ⟨g11, 4, none⟩)) (w' := w8) ?_ ⟨_, rfl, rfl, Below.refl _ _⟩
              unfold execOp
              go_simp
            · cases hi
              have hg : a.tmps.getD 133 undef = .bool false := hM.at_ 11 (by decide) (by kernel_rfl)
              have h0 := gdq _ _ _ (show a.tmps.getD 141 undef = .pointer (some ⟨g11, 4, none⟩) from hM.at_ 19 (by decide) (by kernel_rfl))
              have y : w8.cell? ⟨g11, 4, none⟩ = some (.slice AH x.f4.length cH) := blk_cell K11' 4
              refine RegInv.op_valueW (by rfl) (RegInv.wanted_of 133 rfl rfl hg) (v := .slice AH x.f4.length cH) (w' := w8) ?_ ⟨_, rfl, rfl, Below.refl _ _⟩
              unfold execOp
              go_simp
            · cases hi
              have hg : a.tmps.getD 133 undef = .bool false := hM.at_ 11 (by decide) (by kernel_rfl)
              have h0 := gdq _ _ _ (show a.tmps.getD 140 undef = .slice DH (fullH x.f4).length eH from hM.at_ 18 (by decide) (by kernel_rfl))
              have h1 := gdq _ _ _ (show a.tmps.getD 142 undef = .slice AH x.f4.length cH from hM.at_ 20 (by decide) (by kernel_rfl))
              refine RegInv.op_callW (by rfl) (RegInv.wanted_of 133 rfl rfl hg) Try.func25 (by kernel_rfl) rfl rfl #[.slice DH (fullH x.f4).length eH, .slice AH x.f4.length cH] (by simp [Act.eval, h0, h1]) ?_
              refine (kept_hands DH AH eH cH x.f4 w8 (Kd.C_below GDH.out hM.ext) (Kd.C_below GAH.out hM.ext) HSX.out.2).mono ?_
              rintro e w9 ⟨rfl, b⟩
              exact ⟨_, rfl, _, rfl, rfl, b⟩
            · cases hi
              have hg : a.tmps.getD 133 undef = .bool false := hM.at_ 11 (by decide) (by kernel_rfl)
              have h0 := gdq _ _ _ (show a.tmps.getD 143 undef = .bool true from hM.at_ 21 (by decide) (by kernel_rfl))
              refine RegInv.op_valueW (by rfl) (RegInv.wanted_of 133 rfl rfl hg) (v := .bool false) (w' := w8) ?_ ⟨_, rfl, rfl, Below.refl _ _⟩
              unfold execOp
              go_simp
            · cases hi
              have h0 := gdq _ _ _ (show a.tmps.getD 133 undef = .bool false from hM.at_ 11 (by decide) (by kernel_rfl))
              have h1 := gdq _ _ _ (show a.tmps.getD 144 undef = .bool false from hM.at_ 22 (by decide) (by kernel_rfl))
              refine RegInv.op_value (by rfl) rfl (v := .bool false) (w' := w8) ?_ ⟨_, rfl, rfl, Below.refl _ _⟩
              unfold execOp
              go_simp
            · exact absurd hlt (by omega)
          intro vs wF bF hF
          have eL : vs 23 = .bool false := hF 23 (by omega)
          clear hF
          simp only [RegInv.puts, dKP, Act.put, List.range, List.range.loop, List.setIfInBounds_toArray, List.set_cons_zero, List.set_cons_succ]
          rw [eL]
          clear eL
          generalize vs 0 = t0
          generalize vs 1 = t1
          generalize vs 2 = t2
          generalize vs 3 = t3
          generalize vs 4 = t4
          generalize vs 5 = t5
          generalize vs 6 = t6
          generalize vs 7 = t7
          generalize vs 8 = t8
          generalize vs 9 = t9
          generalize vs 10 = t10
          generalize vs 11 = t11
          generalize vs 12 = t12
          generalize vs 13 = t13
          generalize vs 14 = t14
          generalize vs 15 = t15
          generalize vs 16 = t16
          generalize vs 17 = t17
          generalize vs 18 = t18
          generalize vs 19 = t19
          generalize vs 20 = t20
          generalize vs 21 = t21
          generalize vs 22 = t22
          replace HBW := Aside0.mk (wB HBW.out bF)
          clear bF
          refine hK _ _ ?_
          clear hK
          go_wp2
          go_roundw
          case rel => exact ⟨k + 1, by omega, by go_num, HBW.out⟩
          case measure => simp [intOf]; omega
        · have HBW := Aside0.mk hb
          clear hb
          go_wp2_with (fail)
          clear hlt hk
          generalize wr = wM at *
          go_loopw [13] (fun t wr => ∃ i : Nat, i ≤ f.length + 64 ∧ t = .int .i64 i ∧ Below w1.heap.size w1 wr) (fun t _ => f.length + 64 - (intOf t).toNat)
          case atStart => exact ⟨0, Nat.zero_le _, rfl, HBW.out⟩
          case round =>
            clear HBW
            obtain ⟨i, hi, rfl, hb⟩ := hrel
            by_cases hlt : i < f.length + 64
            · have hfl2 := fullP_len f
              obtain ⟨m, hm⟩ : ∃ m, m = f.length + i := ⟨_, rfl⟩
              obtain ⟨aP, BC, dC, BH, dH, rfl, y0, y1, y2, y3, y4, _, _, _, _⟩ := at_T60 HA1.out (m : Int) (by omega) (by omega)
              have hz : (rd_T60 (fullP f) (m : Int)).f0 = ⟨#[]⟩ ∧ (rd_T60 (fullP f) (m : Int)).f1 = -7 ∧ (rd_T60 (fullP f) (m : Int)).f2 = (i : Int) ∧ (f.length ≤ i → (rd_T60 (fullP f) (m : Int)).f3 = [] ∧ (rd_T60 (fullP f) (m : Int)).f4 = []) := by
                rw [rd60_getD, List.getD_eq_getElem?_getD, hm]
                rcases Nat.lt_or_ge i f.length with h | h
                · rw [fullP_mid h]
                  exact ⟨rfl, rfl, rfl, fun h2 => absurd h2 (by omega)⟩
                · have e : f.length + i = 2 * f.length + (i - f.length) := by omega
                  rw [e, fullP_high (show i - f.length < 64 by omega)]
                  refine ⟨rfl, rfl, ?_, fun _ => ⟨rfl, rfl⟩⟩
                  show ((f.length + (i - f.length) : Nat) : Int) = (i : Int)
                  congr 1; omega
              rw [Int.toNat_natCast] at y0 y1 y2 y3 y4
              generalize rd_T60 (fullP f) (m : Int) = z at *
              obtain ⟨h0, h1, h2, h3⟩ := hz
              rw [h0] at y0
              rw [h1] at y1
              rw [h2] at y2
              have hmi : (f.length : Int) + (i : Int) = (m : Int) := by omega
              have hmb : m ≤ 2097216 := by omega
              have hml : (m : Int) < 2 * (f.length : Int) + 64 := by omega
              have hml2 : m < 2 * f.length + 64 := by omega
              replace y0 := pw_cell_below hb y0
              replace y1 := pw_cell_below hb y1
              replace y2 := pw_cell_below hb y2
              replace y3 := pw_cell_below hb y3
              replace y4 := pw_cell_below hb y4
              have H3 := Aside0.mk h3
              have HBW := Aside0.mk hb
              clear h0 h1 h2 h3 hfl2 hm hb
              go_upto_region 27 with (fail)
              have hb := bodies wr (.cells #[.string { data := #[] }, .int .i64 (-7), .int .i64 (i : Int), .slice BC z.f3.length dC, .slice BH z.f4.length dH] 60)
              have K := blk_new wr (.cells #[.string { data := #[] }, .int .i64 (-7), .int .i64 (i : Int), .slice BC z.f3.length dC, .slice BH z.f4.length dH] 60)
              replace HBW := Aside0.mk (wB HBW.out hb)
              clear hb y0 y1 y2 y3 y4
              generalize wr.alloc (.cells #[.string { data := #[] }, .int .i64 (-7), .int .i64 (i : Int), .slice BC z.f3.length dC, .slice BH z.f4.length dH] 60) = w4 at *
              generalize wr.heap.size = g14 at *
              have r0 : w4.cell? ⟨g14, 0, none⟩ = some (.string { data := #[] }) := blk_cell K 0
              have r1 : w4.cell? ⟨g14, 1, none⟩ = some (.int .i64 (-7)) := blk_cell K 1
              have r2 : w4.cell? ⟨g14, 2, none⟩ = some (.int .i64 (i : Int)) := blk_cell K 2
              have r3 : w4.cell? ⟨g14, 3, none⟩ = some (.slice BC z.f3.length dC) := blk_cell K 3
              have r4 : w4.cell? ⟨g14, 4, none⟩ = some (.slice BH z.f4.length dH) := blk_cell K 4
              clear K
              rcases Nat.lt_or_ge i f.length with h | h
              · have cge : decide ((i : Int) ≥ (f.length : Int)) = false := decide_eq_false (by omega)
                go_wp2
                go_roundw
                case rel => exact ⟨i + 1, by omega, by go_num, HBW.out⟩
                case measure => simp [intOf]; omega
              · have cge : decide ((i : Int) ≥ (f.length : Int)) = true := decide_eq_true (by omega)
                obtain ⟨z3, z4⟩ := H3.out h
                rw [z3] at r3
                rw [z4] at r4
                go_wp2
                go_roundw
                case rel => exact ⟨i + 1, by omega, by go_num, HBW.out⟩
                case measure => simp [intOf]; omega
            · go_wp2
              go_ret
              exact ⟨rfl, wB HB.out hb⟩
end Go.Proofs.Ytdjpamgjmpibnaa.PFit
