/- CopiesSource's contract: behind a move nobody asks for the register it went to. For every code of a size that memory can hold. -/
import Derived.Test.YtjekpkpmoanadaaAgain
import Derived.Test.YtjekpkpmoanadaaAsksEv
namespace Go.Proofs.Ytjekpkpmoanadaa.RegInv
set_option linter.unusedVariables false
theorem op_unwanted {P : Program} {ops : Array Oper} {Q : Exit → Act → World → Prop} {i : Nat} {o : Oper} {K : Act → World → Prop} {a : Act} {w : World} (hi : ops[i]? = some o) (hg : Region.wanted o (yielded ops a.tmps) = false) (h : K (a.put o.dst undef) w) : wpOp P ops Q i K a w := by
  unfold wpOp
  rw [hi]
  simp only
  rw [if_neg (by rw [hg]; decide)]
  exact h
theorem wanted_not {ops : Array Oper} {o : Oper} {a : Act} {g : Nat} {b : Bool} {v : Value} (t : Tmp) (hg : o.guard = some (g, b)) (hd : (ops[g]?).bind (·.dst) = some t) (hv : a.tmps.getD t undef = v) (hne : v ≠ .bool b) : Region.wanted o (yielded ops a.tmps) = false := by
  unfold Region.wanted yielded
  rw [hg]
  simp only
  rw [hd]
  simp only [Option.bind_some]
  rw [Array.getD_eq_getD_getElem?] at hv
  cases hx : a.tmps[t]? with
  | none => simp
  | some u =>
    rw [hx] at hv
    simp only [Option.getD_some] at hv
    subst hv
    cases u <;> simp
    exact fun he => hne (by rw [he])
end Go.Proofs.Ytjekpkpmoanadaa.RegInv
namespace Go.Proofs.Ytjekpkpmoanadaa.PCop
open Go.RowKit Go.Proofs.Ytjekpkpmoanadaa.Lit Go.Proofs.Ytjekpkpmoanadaa.OwnCells Go.Proofs.YtjekpkpmoanadaaW.PrintWords Go.Proofs.YtjekpkpmoanadaaW.PrintLast Go.Proofs.YtjekpkpmoanadaaW.PrintMore
set_option linter.unusedVariables false
set_option linter.unusedSimpArgs false
theorem addz (a : Addr) : a.add 0 = a := by simp [Addr.add]
theorem rd47_at {l : List S47} {k : Nat} (h : k < l.length) : l[k]? = some (rd_T47 l (k : Int)) := by
  unfold rd_T47
  rw [Int.toNat_natCast, List.getD_eq_getElem?_getD, List.getElem?_eq_getElem h]; rfl
theorem rd43_at {l : List S43} {k : Nat} (h : k < l.length) : l[k]? = some (rd_T43 l (k : Int)) := by
  unfold rd_T43
  rw [Int.toNat_natCast, List.getD_eq_getElem?_getD, List.getElem?_eq_getElem h]; rfl
theorem run_fixed (l : List S43) : ∀ b ∈ runS l, Fixed b.f1 := fun b hb => by
  obtain ⟨b0, _, rfl⟩ := List.mem_map.1 hb
  exact block_fixed b0
def dSA : Nat → Option Tmp
  | 0 => some 55
  | 1 => some 56
  | 2 => some 57
  | 3 => some 58
  | 4 => some 59
  | _ => none
def FSA (g7 g8 : Nat) (o : S49) (fd : Int) : Nat → World → Value → Prop
  | 0, _, v => v = .agg #[.int .i64 o.f0, .int .i64 o.f1]
  | 1, _, v => v = .pointer (some ⟨g7, 2, none⟩)
  | 2, _, v => v = .int .i64 fd
  | 3, _, v => v = .agg #[.int .i64 0, .int .i64 fd]
  | 4, _, v => v = .bool false
  | _, _, _ => True
theorem FSA_below (g7 g8 : Nat) (o : S49) (fd : Int) (i : Nat) (w w1 : World) (v : Value) (h : FSA g7 g8  o  fd  i w v) (hb : Below w.heap.size w w1) : FSA g7 g8  o  fd  i w1 v := by
  match i with
  | 0 | 1 | 2 | 3 | 4 => exact h
  | (n + 5) => exact h
def dSB : Nat → Option Tmp
  | 0 => some 68
  | 1 => some 69
  | 2 => some 70
  | 3 => some 71
  | 4 => some 72
  | 5 => some 73
  | 6 => some 74
  | _ => none
def FSB (aI : Addr) (n cI j g7 : Nat) (fd : Int) (y : S47) (B3 : Option Addr) (d3 : Nat) (B7 : Option Addr) (d7 : Nat) : Nat → World → Value → Prop
  | 0, _, v => v = .slice (some aI) n cI
  | 1, _, v => v = .int .i64 (j : Int)
  | 2, _, v => v = .pointer (some (aI.add (j * 8)))
  | 3, _, v => v = .agg #[.int .i64 y.f0, .int .i64 y.f1, .int .i64 y.f2, .slice B3 y.f3.length d3, .int .i64 y.f4, .int .i64 y.f5, .int .i64 y.f6, .slice B7 y.f7.length d7]
  | 4, _, v => v = .pointer (some ⟨g7, 2, none⟩)
  | 5, _, v => v = .int .i64 fd
  | 6, _, v => v = .bool false
  | _, _, _ => True
theorem FSB_below (aI : Addr) (n cI j g7 : Nat) (fd : Int) (y : S47) (B3 : Option Addr) (d3 : Nat) (B7 : Option Addr) (d7 : Nat) (i : Nat) (w w1 : World) (v : Value) (h : FSB aI  n cI j g7  fd  y  B3  d3  B7  d7  i w v) (hb : Below w.heap.size w w1) : FSB aI  n cI j g7  fd  y  B3  d3  B7  d7  i w1 v := by
  match i with
  | 0 | 1 | 2 | 3 | 4 | 5 | 6 => exact h
  | (n + 7) => exact h
def dSCa : Nat → Option Tmp
  | 0 => some 75
  | 1 => some 76
  | 2 => some 77
  | 3 => some 78
  | 4 => some 79
  | 5 => some 80
  | 6 => some 81
  | 7 => some 82
  | 8 => some 83
  | 9 => some 84
  | 10 => some 85
  | 11 => some 86
  | 12 => some 87
  | 13 => some 88
  | 14 => some 89
  | 15 => some 90
  | 16 => some 91
  | 17 => some 92
  | 18 => some 93
  | 19 => some 94
  | 20 => some 95
  | 21 => some 96
  | 22 => some 97
  | 23 => some 98
  | 24 => some 99
  | 25 => some 100
  | _ => none
def FSCa (aI : Addr) (n cI j g7 g8 : Nat) (fd : Int) (y : S47) (o : S49) (q : Bool) : Nat → World → Value → Prop
  | 0, _, v => v = .slice (some aI) n cI
  | 1, _, v => v = .int .i64 (j : Int)
  | 2, _, v => v = .pointer (some (aI.add (j * 8)))
  | 3, _, v => v = .pointer (some ⟨(aI.add (j * 8)).block, (aI.add (j * 8)).off + 2, none⟩)
  | 4, _, v => v = .int .i64 y.f2
  | 5, _, v => v = .pointer (some ⟨g7, 2, none⟩)
  | 6, _, v => v = .int .i64 fd
  | 7, _, v => v = .bool true
  | 8, _, v => v = .bool true
  | 9, _, v => v = undef
  | 10, _, v => v = undef
  | 11, _, v => v = undef
  | 12, _, v => v = undef
  | 13, _, v => v = undef
  | 14, _, v => v = undef
  | 15, _, v => v = undef
  | 16, _, v => v = undef
  | 17, _, v => v = undef
  | 18, _, v => v = undef
  | 19, _, v => v = undef
  | 20, _, v => v = undef
  | 21, _, v => v = undef
  | 22, _, v => v = undef
  | 23, _, v => v = undef
  | 24, _, v => v = undef
  | 25, _, v => v = .bool true
  | _, _, _ => True
theorem FSCa_below (aI : Addr) (n cI j g7 g8 : Nat) (fd : Int) (y : S47) (o : S49) (q : Bool) (i : Nat) (w w1 : World) (v : Value) (h : FSCa aI  n cI j g7 g8  fd  y  o  q  i w v) (hb : Below w.heap.size w w1) : FSCa aI  n cI j g7 g8  fd  y  o  q  i w1 v := by
  match i with
  | 0 | 1 | 2 | 3 | 4 | 5 | 6 | 7 | 8 | 9 | 10 | 11 | 12 | 13 | 14 | 15 | 16 | 17 | 18 | 19 | 20 | 21 | 22 | 23 | 24 | 25 => exact h
  | (n + 26) => exact h
def dSCb : Nat → Option Tmp
  | 0 => some 75
  | 1 => some 76
  | 2 => some 77
  | 3 => some 78
  | 4 => some 79
  | 5 => some 80
  | 6 => some 81
  | 7 => some 82
  | 8 => some 83
  | 9 => some 84
  | 10 => some 85
  | 11 => some 86
  | 12 => some 87
  | 13 => some 88
  | 14 => some 89
  | 15 => some 90
  | 16 => some 91
  | 17 => some 92
  | 18 => some 93
  | 19 => some 94
  | 20 => some 95
  | 21 => some 96
  | 22 => some 97
  | 23 => some 98
  | 24 => some 99
  | 25 => some 100
  | _ => none
def FSCb (aI : Addr) (n cI j g7 g8 : Nat) (fd : Int) (y : S47) (o : S49) (q : Bool) : Nat → World → Value → Prop
  | 0, _, v => v = .slice (some aI) n cI
  | 1, _, v => v = .int .i64 (j : Int)
  | 2, _, v => v = .pointer (some (aI.add (j * 8)))
  | 3, _, v => v = .pointer (some ⟨(aI.add (j * 8)).block, (aI.add (j * 8)).off + 2, none⟩)
  | 4, _, v => v = .int .i64 y.f2
  | 5, _, v => v = .pointer (some ⟨g7, 2, none⟩)
  | 6, _, v => v = .int .i64 fd
  | 7, _, v => v = .bool false
  | 8, _, v => v = .bool false
  | 9, _, v => v = .slice (some aI) n cI
  | 10, _, v => v = .int .i64 (j : Int)
  | 11, _, v => v = .pointer (some (aI.add (j * 8)))
  | 12, _, v => v = .pointer (some ⟨(aI.add (j * 8)).block, (aI.add (j * 8)).off + 2, none⟩)
  | 13, _, v => v = .int .i64 y.f2
  | 14, _, v => v = .bool false
  | 15, _, v => v = .bool false
  | 16, _, v => v = undef
  | 17, _, v => v = undef
  | 18, _, v => v = undef
  | 19, _, v => v = undef
  | 20, _, v => v = undef
  | 21, _, v => v = undef
  | 22, _, v => v = undef
  | 23, _, v => v = undef
  | 24, _, v => v = .bool false
  | 25, _, v => v = .bool false
  | _, _, _ => True
theorem FSCb_below (aI : Addr) (n cI j g7 g8 : Nat) (fd : Int) (y : S47) (o : S49) (q : Bool) (i : Nat) (w w1 : World) (v : Value) (h : FSCb aI  n cI j g7 g8  fd  y  o  q  i w v) (hb : Below w.heap.size w w1) : FSCb aI  n cI j g7 g8  fd  y  o  q  i w1 v := by
  match i with
  | 0 | 1 | 2 | 3 | 4 | 5 | 6 | 7 | 8 | 9 | 10 | 11 | 12 | 13 | 14 | 15 | 16 | 17 | 18 | 19 | 20 | 21 | 22 | 23 | 24 | 25 => exact h
  | (n + 26) => exact h
def dSCc : Nat → Option Tmp
  | 0 => some 75
  | 1 => some 76
  | 2 => some 77
  | 3 => some 78
  | 4 => some 79
  | 5 => some 80
  | 6 => some 81
  | 7 => some 82
  | 8 => some 83
  | 9 => some 84
  | 10 => some 85
  | 11 => some 86
  | 12 => some 87
  | 13 => some 88
  | 14 => some 89
  | 15 => some 90
  | 16 => some 91
  | 17 => some 92
  | 18 => some 93
  | 19 => some 94
  | 20 => some 95
  | 21 => some 96
  | 22 => some 97
  | 23 => some 98
  | 24 => some 99
  | 25 => some 100
  | _ => none
def FSCc (aI : Addr) (n cI j g7 g8 : Nat) (fd : Int) (y : S47) (o : S49) (q : Bool) : Nat → World → Value → Prop
  | 0, _, v => v = .slice (some aI) n cI
  | 1, _, v => v = .int .i64 (j : Int)
  | 2, _, v => v = .pointer (some (aI.add (j * 8)))
  | 3, _, v => v = .pointer (some ⟨(aI.add (j * 8)).block, (aI.add (j * 8)).off + 2, none⟩)
  | 4, _, v => v = .int .i64 y.f2
  | 5, _, v => v = .pointer (some ⟨g7, 2, none⟩)
  | 6, _, v => v = .int .i64 fd
  | 7, _, v => v = .bool false
  | 8, _, v => v = .bool false
  | 9, _, v => v = .slice (some aI) n cI
  | 10, _, v => v = .int .i64 (j : Int)
  | 11, _, v => v = .pointer (some (aI.add (j * 8)))
  | 12, _, v => v = .pointer (some ⟨(aI.add (j * 8)).block, (aI.add (j * 8)).off + 2, none⟩)
  | 13, _, v => v = .int .i64 y.f2
  | 14, _, v => v = .bool true
  | 15, _, v => v = .bool true
  | 16, _, v => v = .agg #[.int .i64 o.f0, .int .i64 o.f1]
  | 17, _, v => v = .slice (some aI) n cI
  | 18, _, v => v = .int .i64 (j : Int)
  | 19, _, v => v = .pointer (some (aI.add (j * 8)))
  | 20, _, v => v = .pointer (some ⟨(aI.add (j * 8)).block, (aI.add (j * 8)).off + 2, none⟩)
  | 21, _, v => v = .int .i64 y.f2
  | 22, _, v => v = .agg #[.int .i64 0, .int .i64 y.f2]
  | 23, _, v => v = .bool q
  | 24, _, v => v = .bool q
  | 25, _, v => v = .bool q
  | _, _, _ => True
theorem FSCc_below (aI : Addr) (n cI j g7 g8 : Nat) (fd : Int) (y : S47) (o : S49) (q : Bool) (i : Nat) (w w1 : World) (v : Value) (h : FSCc aI  n cI j g7 g8  fd  y  o  q  i w v) (hb : Below w.heap.size w w1) : FSCc aI  n cI j g7 g8  fd  y  o  q  i w1 v := by
  match i with
  | 0 | 1 | 2 | 3 | 4 | 5 | 6 | 7 | 8 | 9 | 10 | 11 | 12 | 13 | 14 | 15 | 16 | 17 | 18 | 19 | 20 | 21 | 22 | 23 | 24 | 25 => exact h
  | (n + 26) => exact h
set_option maxHeartbeats 8000000 in
set_option maxRecDepth 100000 in
theorem portagelaw22_CopiesSource.calls (a0 a1 : Int) (A : Option Addr) (c : Nat) (l : List S43) (r : Bool) (w : World) (hA : Kd.C k43 w A l.length l) (hl : l.length ≤ c) (h : OkL l ∧ r = true) :
    Calls Try.prog 5 #[.agg #[.int .i64 a0, .int .i64 a1, .slice A l.length c]] w fun e w' => e = .returned (.bool r) ∧ Below w.heap.size w w' := by
  obtain ⟨hok, rfl⟩ := h
  have hok2 := run_ok hok
  have HA := Aside0.mk hA
  have HOK := Aside0.mk hok
  have HOK2 := Aside0.mk hok2
  have HFX := Aside0.mk (run_fixed l)
  clear hA hok hok2 hl
  go_enter Try.func5, Try.ntmps5
  go_wp2_with (fail)
  have hb := bodies w (.cells #[.int .i64 a0, .int .i64 a1, .slice A l.length c] 24)
  have HB := Aside0.mk hb
  replace HA := Aside0.mk (Kd.C_below HA.out hb)
  clear hb
  generalize w.alloc (.cells #[.int .i64 a0, .int .i64 a1, .slice A l.length c] 24) = w1 at *
  refine (run_calls a0 a1 A c l w1 HA.out HOK.out).mono ?_
  rintro e w2 ⟨v, rfl, hr, hb⟩
  generalize runS l = m at *
  obtain ⟨P, d, rfl, _, hC⟩ := Kd.R_reads hr
  replace HB := Aside0.mk (Lit.wB HB.out hb)
  have HC := Aside0.mk hC
  clear hb hr hC
  go_upto_region 2 with (fail)
  have hb := bodies w2 (.cells #[.int .i64 a0, .int .i64 a1, .slice P m.length d] 24)
  have K3 := blk_new w2 (.cells #[.int .i64 a0, .int .i64 a1, .slice P m.length d] 24)
  replace HB := Aside0.mk (Lit.wB HB.out hb)
  replace HC := Aside0.mk (Kd.C_below HC.out hb)
  clear hb
  generalize w2.alloc (.cells #[.int .i64 a0, .int .i64 a1, .slice P m.length d] 24) = w3 at *
  generalize w2.heap.size = g3 at *
  have HK3 := Aside0.mk K3
  clear K3
  go_wp2_with (fail)
  refine (works_calls w3).mono ?_
  rintro e w4 ⟨rfl, hb⟩
  replace HB := Aside0.mk (Lit.wB HB.out hb)
  replace HC := Aside0.mk (Kd.C_below HC.out hb)
  replace HK3 := Aside0.mk (blk_below HK3.out hb)
  clear hb
  have hml := HOK2.out.len
  go_wp2_with (fail)
  go_loopw [4] (fun t wr => ∃ i : Nat, i ≤ m.length ∧ t = .int .i64 i ∧ Below w4.heap.size w4 wr) (fun t _ => m.length - (intOf t).toNat)
  case atStart => exact ⟨0, Nat.zero_le _, rfl, Below.refl _ _⟩
  case round =>
    obtain ⟨i, hi, rfl, hb⟩ := hrel
    generalize wr = wA at *
    have q2 : wA.cell? ⟨g3, 2, none⟩ = some (.slice P m.length d) := blk_cell (blk_below HK3.out hb) 2
    by_cases hlt : i < m.length
    · obtain ⟨ad, AI, cI, AN, cN, rfl, x0, x1, x2, _, gI, _, _⟩ := at_T43 (Kd.C_below HC.out hb) (i : Int) (by omega) (by omega)
      have hm := rd43_at hlt
      have hmem := List.mem_of_getElem? hm
      have hins := HOK2.out.ins _ hmem
      have heach := HOK2.out.each _ hmem
      have hfx := HFX.out _ hmem
      rw [Int.toNat_natCast] at x0 x1 x2
      generalize rd_T43 m (i : Int) = bl at *
      obtain ⟨pc, ins, nx⟩ := bl
      simp only at gI x1 x0 x2 hins heach hfx
      have GI := Aside0.mk gI
      have HEACH := Aside0.mk heach
      have HF := Aside0.mk hfx
      have HBR := Aside0.mk hb
      clear gI heach hfx hmem hm x0 x2 hb
      go_wp2_with (fail)
      clear q2 x1
      go_loopw [6] (fun t wr2 => ∃ k : Nat, k ≤ ins.length ∧ t = .int .i64 k ∧ Below wA.heap.size wA wr2) (fun t _ => ins.length - (intOf t).toNat)
      case atStart => exact ⟨0, Nat.zero_le _, rfl, Below.refl _ _⟩
      case round =>
        obtain ⟨k, hk, rfl, hb⟩ := hrel
        generalize wr = wQ at *
        by_cases hkl : k < ins.length
        · obtain ⟨aI, A3, c3, A7, c7, rfl, x0, x1, x2, x3, x4, x5, x6, x7, _, gA, _, _⟩ := at_T47 (Kd.C_below GI.out hb) (k : Int) (by omega) (by omega)
          have hm := rd47_at hkl
          have hok := HEACH.out _ (List.mem_of_getElem? hm)
          rw [Int.toNat_natCast] at x0 x1 x2 x3 x4 x5 x6 x7
          generalize rd_T47 ins (k : Int) = x at *
          have HX := Aside0.mk hm
          have GA := Aside0.mk gA
          have HBK := Aside0.mk hb
          have HOX := Aside0.mk hok
          clear hm gA hb hok
          go_upto_region 12 with (fail)
          have hb := bodies wQ (.cells #[.int .i64 x.f0, .int .i64 x.f1, .int .i64 x.f2, .slice A3 x.f3.length c3, .int .i64 x.f4, .int .i64 x.f5, .int .i64 x.f6, .slice A7 x.f7.length c7] 47)
          have K7 := blk_new wQ (.cells #[.int .i64 x.f0, .int .i64 x.f1, .int .i64 x.f2, .slice A3 x.f3.length c3, .int .i64 x.f4, .int .i64 x.f5, .int .i64 x.f6, .slice A7 x.f7.length c7] 47)
          replace HBK := Aside0.mk (Lit.wB HBK.out hb)
          replace GA := Aside0.mk (Kd.C_below GA.out hb)
          clear hb x0 x1 x2 x3 x4 x5 x6 x7
          generalize wQ.alloc (.cells #[.int .i64 x.f0, .int .i64 x.f1, .int .i64 x.f2, .slice A3 x.f3.length c3, .int .i64 x.f4, .int .i64 x.f5, .int .i64 x.f6, .slice A7 x.f7.length c7] 47) = w6 at *
          generalize wQ.heap.size = g7 at *
          have q0 : w6.cell? ⟨g7, 0, none⟩ = some (.int .i64 x.f0) := blk_cell K7 0
          have q2 : w6.cell? ⟨g7, 2, none⟩ = some (.int .i64 x.f2) := blk_cell K7 2
          have q3 : w6.cell? ⟨g7, 3, none⟩ = some (.slice A3 x.f3.length c3) := blk_cell K7 3
          have HK7 := Aside0.mk K7
          clear K7
          by_cases h0 : x.f0 = 1
          · have c0 : (x.f0 != 1) = false := bne_eq_false_iff_eq.2 h0
            by_cases h3 : x.f3.length = 1
            · have c3' : ((x.f3.length : Int) != 1) = false := bne_eq_false_iff_eq.2 (by omega)
              by_cases hd : x.f2 = -1
              · have cd : (x.f2 == -1) = true := beq_iff_eq.2 hd
                clear h0 h3 hd
                go_wp2
                go_roundw
                case rel => exact ⟨k + 1, by omega, by go_num, HBK.out⟩
                case measure => simp [intOf]; omega
              · have cd : (x.f2 == -1) = false := beq_eq_false_iff_ne.2 hd
                obtain ⟨o, ho⟩ := List.length_eq_one_iff.1 h3
                have hsrc := src HF.out HX.out h0 ho hd
                have gA1 := GA.out
                rw [ho] at gA1
                obtain ⟨ad3, rfl, y0, y1⟩ := at_T49 gA1 0 (by decide) (by simp)
                rw [show (0 : Int).toNat * 2 = 0 from rfl, addz] at y0 y1
                rw [show rd_T49 [o] 0 = o from rfl] at y0 y1
                have h03 : 0 < x.f3.length := by omega
                have h03' : (0 : Int) < (x.f3.length : Int) := by omega
                have HS := Aside0.mk hsrc
                clear h0 h3 hd ho gA1 hsrc
                go_upto_region 14 with (fail)
                have hb := bodies w6 (.cells #[.int .i64 o.f0, .int .i64 o.f1] 49)
                have K8 := blk_new w6 (.cells #[.int .i64 o.f0, .int .i64 o.f1] 49)
                replace HBK := Aside0.mk (Lit.wB HBK.out hb)
                replace HK7 := Aside0.mk (blk_below HK7.out hb)
                clear hb q0 q2 q3 y0 y1 c0 c3' cd h03 h03'
                generalize w6.alloc (.cells #[.int .i64 o.f0, .int .i64 o.f1] 49) = w7 at *
                generalize w6.heap.size = g8 at *
                have HK8 := Aside0.mk K8
                clear K8
                go_wp2_with (fail)
                rename_i hK
                refine RegInv.region_facts (by kernel_rfl) (by kernel_rfl) (fun a b => Below a.heap.size a b) (fun a b c h k => Lit.wB h k) (below_drew1 (Below.refl _ _)) dSA 5 (by kernel_rfl) (by kernel_rfl) (by kernel_rfl) (FSA g7 g8 o x.f2) (FSA_below g7 g8 o x.f2) ?hsSA ?heSA
                case hsSA =>
                  clear hK
                  intro i o a w8 hi hM
                  have hlt : i < 5 := (Array.getElem?_eq_some_iff.1 hi).1
                  have K7' := blk_below HK7.out hM.ext
                  have K8' := blk_below HK8.out hM.ext
                  rcases i with _ | _ | _ | _ | _ | i
                  · cases hi
                    have h0 := gdq _ _ _ (show a.tmps.getD 8 undef = .pointer (some ⟨g8, 0, none⟩) from hM.off 8 (by kernel_rfl))
                    have y0 : w8.cell? ⟨g8, 0, none⟩ = some (.int .i64 o.f0) := blk_cell K8' 0
                    have y1 : w8.cell? ⟨g8, 1, none⟩ = some (.int .i64 o.f1) := blk_cell K8' 1
                    refine RegInv.op_value (by rfl) rfl (v := .agg #[.int .i64 o.f0, .int .i64 o.f1]) (w' := w8) ?_ ⟨_, rfl, rfl, Below.refl _ _⟩
                    unfold execOp
                    go_simp
                  · cases hi
                    have h0 := gdq _ _ _ (show a.tmps.getD 7 undef = .pointer (some ⟨g7, 0, none⟩) from hM.off 7 (by kernel_rfl))
                    refine RegInv.op_value (by rfl) rfl (v := .pointer (some ⟨g7, 2, none⟩)) (w' := w8) ?_ ⟨_, rfl, rfl, Below.refl _ _⟩
                    unfold execOp
                    go_simp
                  · cases hi
                    have h0 := gdq _ _ _ (show a.tmps.getD 56 undef = .pointer (some ⟨g7, 2, none⟩) from hM.at_ 1 (by decide) (by kernel_rfl))
                    have y : w8.cell? ⟨g7, 2, none⟩ = some (.int .i64 x.f2) := blk_cell K7' 2
                    refine RegInv.op_value (by rfl) rfl (v := .int .i64 x.f2) (w' := w8) ?_ ⟨_, rfl, rfl, Below.refl _ _⟩
                    unfold execOp
                    go_simp
                  · cases hi
                    have h0 := gdq _ _ _ (show a.tmps.getD 57 undef = .int .i64 x.f2 from hM.at_ 2 (by decide) (by kernel_rfl))
                    refine RegInv.op_call (by rfl) rfl Try.func16 (by kernel_rfl) rfl rfl #[.int .i64 x.f2] (by simp [Act.eval, h0]) ?_
                    refine (reg_calls x.f2 w8).mono ?_
                    rintro e w9 ⟨rfl, b⟩
                    exact ⟨_, rfl, _, rfl, rfl, b⟩
                  · cases hi
                    have h0 := gdq _ _ _ (show a.tmps.getD 55 undef = .agg #[.int .i64 o.f0, .int .i64 o.f1] from hM.at_ 0 (by decide) (by kernel_rfl))
                    have h1 := gdq _ _ _ (show a.tmps.getD 58 undef = .agg #[.int .i64 0, .int .i64 x.f2] from hM.at_ 3 (by decide) (by kernel_rfl))
                    have he := eql49
                    have hpr : o.f0 = 0 → ¬ o.f1 = x.f2 := fun h1 h2 => HS.out.1 (by cases o; simp at h1 h2; rw [h1, h2])
                    refine RegInv.op_value (by rfl) rfl (v := .bool false) (w' := w8) ?_ ⟨_, rfl, rfl, Below.refl _ _⟩
                    unfold execOp
                    go_simp
                    exact hpr
                  · exact absurd hlt (by omega)
                intro vs wC bC hF
                have eL : vs 4 = .bool false := hF 4 (by omega)
                clear hF
                simp only [RegInv.puts, dSA, Act.put, List.range, List.range.loop, List.setIfInBounds_toArray, List.set_cons_zero, List.set_cons_succ]
                rw [eL]
                clear eL
                generalize vs 0 = t0
                generalize vs 1 = t1
                generalize vs 2 = t2
                generalize vs 3 = t3
                replace HBK := Aside0.mk (Lit.wB HBK.out bC)
                replace HK7 := Aside0.mk (blk_below HK7.out bC)
                replace HK8 := Aside0.mk (blk_below HK8.out bC)
                clear bC
                refine hK _ _ ?_
                clear hK
                go_wp2_with (fail)
                go_loopw [9] (fun t wr3 => ∃ j : Nat, k + 1 ≤ j ∧ j ≤ ins.length ∧ t = .int .i64 j ∧ (∀ q z, k < q → q < j → ins[q]? = some z → ¬ Brk x.f2 o z) ∧ Below wC.heap.size wC wr3) (fun t _ => ins.length - (intOf t).toNat)
                case atStart => exact ⟨k + 1, Nat.le_refl _, by omega, by go_num, fun q z h1 h2 => by omega, Below.refl _ _⟩
                case round =>
                  obtain ⟨j, hkj, hj, rfl, hnb, hb⟩ := hrel
                  generalize wr = wD at *
                  by_cases hjl : j < ins.length
                  · obtain ⟨aJ, B3, d3, B7, d7, hAJ, x0, x1, x2, x3, x4, x5, x6, x7, l3, gA, l7, gE⟩ := at_T47 (Kd.C_below GI.out (Lit.wB HBK.out hb)) (j : Int) (by omega) (by omega)
                    obtain rfl := Option.some.inj hAJ
                    have hm := rd47_at hjl
                    have hok := HEACH.out _ (List.mem_of_getElem? hm)
                    rw [Int.toNat_natCast] at x0 x1 x2 x3 x4 x5 x6 x7
                    generalize rd_T47 ins (j : Int) = y at *
                    have HY := Aside0.mk (And.intro hok (And.intro (HS.out.2 j y (by omega) hm hnb) (And.intro l3 l7)))
                    have HMY := Aside0.mk hm
                    have HNB := Aside0.mk hnb
                    have GB := Aside0.mk gA
                    have GE := Aside0.mk gE
                    replace HK7 := Aside0.mk (blk_below HK7.out hb)
                    replace HK8 := Aside0.mk (blk_below HK8.out hb)
                    replace HBK := Aside0.mk (Lit.wB HBK.out hb)
                    have HBD := Aside0.mk hb
                    have XX := Aside0.mk (fun w8 (b : Below wD.heap.size wD w8) => And.intro (pw_cell_below b x0) (And.intro (pw_cell_below b x1) (And.intro (pw_cell_below b x2) (And.intro (pw_cell_below b x3) (And.intro (pw_cell_below b x4) (And.intro (pw_cell_below b x5) (And.intro (pw_cell_below b x6) (pw_cell_below b x7))))))))
                    clear hok hm hnb gA gE hb x0 x1 x2 x3 x4 x5 x6 x7 l3 l7 hAJ
                    go_wp2_with (fail)
                    rename_i hK
                    refine RegInv.region_facts (by kernel_rfl) (by kernel_rfl) (fun a b => Below a.heap.size a b) (fun a b c h k => Lit.wB h k) (below_drew1 (Below.refl _ _)) dSB 7 (by kernel_rfl) (by kernel_rfl) (by kernel_rfl) (FSB aI ins.length cI j g7 x.f2 y B3 d3 B7 d7) (FSB_below aI ins.length cI j g7 x.f2 y B3 d3 B7 d7) ?hsSB ?heSB
                    case hsSB =>
                      clear hK
                      intro i o a w8 hi hM
                      have hlt : i < 7 := (Array.getElem?_eq_some_iff.1 hi).1
                      have K7' := blk_below HK7.out hM.ext
                      rcases i with _ | _ | _ | _ | _ | _ | _ | i
                      · cases hi
                        have h0 := gdq _ _ _ (show a.tmps.getD 5 undef = .slice (some aI) ins.length cI from hM.off 5 (by kernel_rfl))
                        refine RegInv.op_value (by rfl) rfl (v := .slice (some aI) ins.length cI) (w' := w8) ?_ ⟨_, rfl, rfl, Below.refl _ _⟩
                        unfold execOp
                        go_simp
                      · cases hi
                        have h0 := gdq _ _ _ (show a.tmps.getD 9 undef = .int .i64 (j : Int) from hM.off 9 (by kernel_rfl))
                        refine RegInv.op_value (by rfl) rfl (v := .int .i64 (j : Int)) (w' := w8) ?_ ⟨_, rfl, rfl, Below.refl _ _⟩
                        unfold execOp
                        go_simp
                      · cases hi
                        have h0 := gdq _ _ _ (show a.tmps.getD 68 undef = .slice (some aI) ins.length cI from hM.at_ 0 (by decide) (by kernel_rfl))
                        have h1 := gdq _ _ _ (show a.tmps.getD 69 undef = .int .i64 (j : Int) from hM.at_ 1 (by decide) (by kernel_rfl))
                        refine RegInv.op_value (by rfl) rfl (v := .pointer (some (aI.add (j * 8)))) (w' := w8) ?_ ⟨_, rfl, rfl, Below.refl _ _⟩
                        unfold execOp
                        go_simp
                      · cases hi
                        have h0 := gdq _ _ _ (show a.tmps.getD 70 undef = .pointer (some (aI.add (j * 8))) from hM.at_ 2 (by decide) (by kernel_rfl))
                        obtain ⟨y0, y1, y2, y3, y4, y5, y6, y7⟩ := XX.out w8 hM.ext
                        refine RegInv.op_value (by rfl) rfl (v := .agg #[.int .i64 y.f0, .int .i64 y.f1, .int .i64 y.f2, .slice B3 y.f3.length d3, .int .i64 y.f4, .int .i64 y.f5, .int .i64 y.f6, .slice B7 y.f7.length d7]) (w' := w8) ?_ ⟨_, rfl, rfl, Below.refl _ _⟩
                        unfold execOp
                        go_simp
                      · cases hi
                        have h0 := gdq _ _ _ (show a.tmps.getD 7 undef = .pointer (some ⟨g7, 0, none⟩) from hM.off 7 (by kernel_rfl))
                        refine RegInv.op_value (by rfl) rfl (v := .pointer (some ⟨g7, 2, none⟩)) (w' := w8) ?_ ⟨_, rfl, rfl, Below.refl _ _⟩
                        unfold execOp
                        go_simp
                      · cases hi
                        have h0 := gdq _ _ _ (show a.tmps.getD 72 undef = .pointer (some ⟨g7, 2, none⟩) from hM.at_ 4 (by decide) (by kernel_rfl))
                        have y : w8.cell? ⟨g7, 2, none⟩ = some (.int .i64 x.f2) := blk_cell K7' 2
                        refine RegInv.op_value (by rfl) rfl (v := .int .i64 x.f2) (w' := w8) ?_ ⟨_, rfl, rfl, Below.refl _ _⟩
                        unfold execOp
                        go_simp
                      · cases hi
                        have h0 := gdq _ _ _ (show a.tmps.getD 71 undef = .agg #[.int .i64 y.f0, .int .i64 y.f1, .int .i64 y.f2, .slice B3 y.f3.length d3, .int .i64 y.f4, .int .i64 y.f5, .int .i64 y.f6, .slice B7 y.f7.length d7] from hM.at_ 3 (by decide) (by kernel_rfl))
                        have h1 := gdq _ _ _ (show a.tmps.getD 73 undef = .int .i64 x.f2 from hM.at_ 5 (by decide) (by kernel_rfl))
                        refine RegInv.op_call (by rfl) rfl Try.func17 (by kernel_rfl) rfl rfl #[.agg #[.int .i64 y.f0, .int .i64 y.f1, .int .i64 y.f2, .slice B3 y.f3.length d3, .int .i64 y.f4, .int .i64 y.f5, .int .i64 y.f6, .slice B7 y.f7.length d7], .int .i64 x.f2] (by simp [Act.eval, h0, h1]) ?_
                        refine (asks_no y x.f2 HY.out.1 HY.out.2.1 B3 d3 B7 d7 w8 (Kd.C_below GB.out hM.ext) HY.out.2.2.1 (Kd.C_below GE.out hM.ext) HY.out.2.2.2).mono ?_
                        rintro e w9 ⟨rfl, b⟩
                        exact ⟨_, rfl, _, rfl, rfl, b⟩
                      · exact absurd hlt (by omega)
                    intro vs wE bE hF
                    have eL : vs 6 = .bool false := hF 6 (by omega)
                    clear hF
                    simp only [RegInv.puts, dSB, Act.put, List.range, List.range.loop, List.setIfInBounds_toArray, List.set_cons_zero, List.set_cons_succ]
                    rw [eL]
                    clear eL
                    generalize vs 0 = t0
                    generalize vs 1 = t1
                    generalize vs 2 = t2
                    generalize vs 3 = t3
                    generalize vs 4 = t4
                    generalize vs 5 = t5
                    replace HK7 := Aside0.mk (blk_below HK7.out bE)
                    replace HK8 := Aside0.mk (blk_below HK8.out bE)
                    replace HBK := Aside0.mk (Lit.wB HBK.out bE)
                    replace HBD := Aside0.mk (Lit.wB HBD.out bE)
                    replace XX := Aside0.mk (fun w8 (b : Below wE.heap.size wE w8) => XX.out w8 (Lit.wB bE b))
                    clear bE
                    refine hK _ _ ?_
                    clear hK
                    go_wp2_with (fail)
                    rename_i hK
                    by_cases hyx : y.f2 = x.f2
                    · have cyx : (y.f2 == x.f2) = true := beq_iff_eq.2 hyx
                      clear hyx
                      refine RegInv.region_facts (by kernel_rfl) (by kernel_rfl) (fun a b => Below a.heap.size a b) (fun a b c h k => Lit.wB h k) (below_drew1 (Below.refl _ _)) dSCa 26 (by kernel_rfl) (by kernel_rfl) (by kernel_rfl) (FSCa aI ins.length cI j g7 g8 x.f2 y o true) (FSCa_below aI ins.length cI j g7 g8 x.f2 y o true) ?hsSCa ?heSCa
                      case hsSCa =>
                        clear hK
                        intro i o a w8 hi hM
                        have hlt : i < 26 := (Array.getElem?_eq_some_iff.1 hi).1
                        have K7' := blk_below HK7.out hM.ext
                        rcases i with _ | _ | _ | _ | _ | _ | _ | _ | _ | _ | _ | _ | _ | _ | _ | _ | _ | _ | _ | _ | _ | _ | _ | _ | _ | _ | i
                        · cases hi
                          have h0 := gdq _ _ _ (show a.tmps.getD 5 undef = .slice (some aI) ins.length cI from hM.off 5 (by kernel_rfl))
                          refine RegInv.op_value (by rfl) rfl (v := .slice (some aI) ins.length cI) (w' := w8) ?_ ⟨_, rfl, rfl, Below.refl _ _⟩
                          unfold execOp
                          go_simp
                        · cases hi
                          have h0 := gdq _ _ _ (show a.tmps.getD 9 undef = .int .i64 (j : Int) from hM.off 9 (by kernel_rfl))
                          refine RegInv.op_value (by rfl) rfl (v := .int .i64 (j : Int)) (w' := w8) ?_ ⟨_, rfl, rfl, Below.refl _ _⟩
                          unfold execOp
                          go_simp
                        · cases hi
                          have h0 := gdq _ _ _ (show a.tmps.getD 75 undef = .slice (some aI) ins.length cI from hM.at_ 0 (by decide) (by kernel_rfl))
                          have h1 := gdq _ _ _ (show a.tmps.getD 76 undef = .int .i64 (j : Int) from hM.at_ 1 (by decide) (by kernel_rfl))
                          refine RegInv.op_value (by rfl) rfl (v := .pointer (some (aI.add (j * 8)))) (w' := w8) ?_ ⟨_, rfl, rfl, Below.refl _ _⟩
                          unfold execOp
                          go_simp
                        · cases hi
                          have h0 := gdq _ _ _ (show a.tmps.getD 77 undef = .pointer (some (aI.add (j * 8))) from hM.at_ 2 (by decide) (by kernel_rfl))
                          refine RegInv.op_value (by rfl) rfl (v := .pointer (some ⟨(aI.add (j * 8)).block, (aI.add (j * 8)).off + 2, none⟩)) (w' := w8) ?_ ⟨_, rfl, rfl, Below.refl _ _⟩
                          unfold execOp
                          go_simp
                        · cases hi
                          have h0 := gdq _ _ _ (show a.tmps.getD 78 undef = .pointer (some ⟨(aI.add (j * 8)).block, (aI.add (j * 8)).off + 2, none⟩) from hM.at_ 3 (by decide) (by kernel_rfl))
                          have y2 := (XX.out w8 hM.ext).2.2.1
                          refine RegInv.op_value (by rfl) rfl (v := .int .i64 y.f2) (w' := w8) ?_ ⟨_, rfl, rfl, Below.refl _ _⟩
                          unfold execOp
                          go_simp
                        · cases hi
                          have h0 := gdq _ _ _ (show a.tmps.getD 7 undef = .pointer (some ⟨g7, 0, none⟩) from hM.off 7 (by kernel_rfl))
                          refine RegInv.op_value (by rfl) rfl (v := .pointer (some ⟨g7, 2, none⟩)) (w' := w8) ?_ ⟨_, rfl, rfl, Below.refl _ _⟩
                          unfold execOp
                          go_simp
                        · cases hi
                          have h0 := gdq _ _ _ (show a.tmps.getD 80 undef = .pointer (some ⟨g7, 2, none⟩) from hM.at_ 5 (by decide) (by kernel_rfl))
                          have y : w8.cell? ⟨g7, 2, none⟩ = some (.int .i64 x.f2) := blk_cell K7' 2
                          refine RegInv.op_value (by rfl) rfl (v := .int .i64 x.f2) (w' := w8) ?_ ⟨_, rfl, rfl, Below.refl _ _⟩
                          unfold execOp
                          go_simp
                        · cases hi
                          have h0 := gdq _ _ _ (show a.tmps.getD 79 undef = .int .i64 y.f2 from hM.at_ 4 (by decide) (by kernel_rfl))
                          have h1 := gdq _ _ _ (show a.tmps.getD 81 undef = .int .i64 x.f2 from hM.at_ 6 (by decide) (by kernel_rfl))
                          refine RegInv.op_value (by rfl) rfl (v := .bool true) (w' := w8) ?_ ⟨_, rfl, rfl, Below.refl _ _⟩
                          unfold execOp
                          go_simp
                        · cases hi
                          have h0 := gdq _ _ _ (show a.tmps.getD 82 undef = .bool true from hM.at_ 7 (by decide) (by kernel_rfl))
                          refine RegInv.op_value (by rfl) rfl (v := .bool true) (w' := w8) ?_ ⟨_, rfl, rfl, Below.refl _ _⟩
                          unfold execOp
                          go_simp
                        · cases hi
                          have hg : a.tmps.getD 83 undef = .bool true := hM.at_ 8 (by decide) (by kernel_rfl)
                          refine RegInv.op_unwanted (by rfl) (RegInv.wanted_not (b := false) 83 rfl rfl hg (by simp [undef])) ⟨undef, rfl, rfl, Below.refl _ _⟩
                        · cases hi
                          have hg : a.tmps.getD 83 undef = .bool true := hM.at_ 8 (by decide) (by kernel_rfl)
                          refine RegInv.op_unwanted (by rfl) (RegInv.wanted_not (b := false) 83 rfl rfl hg (by simp [undef])) ⟨undef, rfl, rfl, Below.refl _ _⟩
                        · cases hi
                          have hg : a.tmps.getD 83 undef = .bool true := hM.at_ 8 (by decide) (by kernel_rfl)
                          refine RegInv.op_unwanted (by rfl) (RegInv.wanted_not (b := false) 83 rfl rfl hg (by simp [undef])) ⟨undef, rfl, rfl, Below.refl _ _⟩
                        · cases hi
                          have hg : a.tmps.getD 83 undef = .bool true := hM.at_ 8 (by decide) (by kernel_rfl)
                          refine RegInv.op_unwanted (by rfl) (RegInv.wanted_not (b := false) 83 rfl rfl hg (by simp [undef])) ⟨undef, rfl, rfl, Below.refl _ _⟩
                        · cases hi
                          have hg : a.tmps.getD 83 undef = .bool true := hM.at_ 8 (by decide) (by kernel_rfl)
                          refine RegInv.op_unwanted (by rfl) (RegInv.wanted_not (b := false) 83 rfl rfl hg (by simp [undef])) ⟨undef, rfl, rfl, Below.refl _ _⟩
                        · cases hi
                          have hg : a.tmps.getD 83 undef = .bool true := hM.at_ 8 (by decide) (by kernel_rfl)
                          refine RegInv.op_unwanted (by rfl) (RegInv.wanted_not (b := false) 83 rfl rfl hg (by simp [undef])) ⟨undef, rfl, rfl, Below.refl _ _⟩
                        · cases hi
                          have hg : a.tmps.getD 83 undef = .bool true := hM.at_ 8 (by decide) (by kernel_rfl)
                          refine RegInv.op_unwanted (by rfl) (RegInv.wanted_not (b := false) 83 rfl rfl hg (by simp [undef])) ⟨undef, rfl, rfl, Below.refl _ _⟩
                        · cases hi
                          have hg : a.tmps.getD 90 undef = undef := hM.at_ 15 (by decide) (by kernel_rfl)
                          refine RegInv.op_unwanted (by rfl) (RegInv.wanted_not (b := true) 90 rfl rfl hg (by simp [undef])) ⟨undef, rfl, rfl, Below.refl _ _⟩
                        · cases hi
                          have hg : a.tmps.getD 90 undef = undef := hM.at_ 15 (by decide) (by kernel_rfl)
                          refine RegInv.op_unwanted (by rfl) (RegInv.wanted_not (b := true) 90 rfl rfl hg (by simp [undef])) ⟨undef, rfl, rfl, Below.refl _ _⟩
                        · cases hi
                          have hg : a.tmps.getD 90 undef = undef := hM.at_ 15 (by decide) (by kernel_rfl)
                          refine RegInv.op_unwanted (by rfl) (RegInv.wanted_not (b := true) 90 rfl rfl hg (by simp [undef])) ⟨undef, rfl, rfl, Below.refl _ _⟩
                        · cases hi
                          have hg : a.tmps.getD 90 undef = undef := hM.at_ 15 (by decide) (by kernel_rfl)
                          refine RegInv.op_unwanted (by rfl) (RegInv.wanted_not (b := true) 90 rfl rfl hg (by simp [undef])) ⟨undef, rfl, rfl, Below.refl _ _⟩
                        · cases hi
                          have hg : a.tmps.getD 90 undef = undef := hM.at_ 15 (by decide) (by kernel_rfl)
                          refine RegInv.op_unwanted (by rfl) (RegInv.wanted_not (b := true) 90 rfl rfl hg (by simp [undef])) ⟨undef, rfl, rfl, Below.refl _ _⟩
                        · cases hi
                          have hg : a.tmps.getD 90 undef = undef := hM.at_ 15 (by decide) (by kernel_rfl)
                          refine RegInv.op_unwanted (by rfl) (RegInv.wanted_not (b := true) 90 rfl rfl hg (by simp [undef])) ⟨undef, rfl, rfl, Below.refl _ _⟩
                        · cases hi
                          have hg : a.tmps.getD 90 undef = undef := hM.at_ 15 (by decide) (by kernel_rfl)
                          refine RegInv.op_unwanted (by rfl) (RegInv.wanted_not (b := true) 90 rfl rfl hg (by simp [undef])) ⟨undef, rfl, rfl, Below.refl _ _⟩
                        · cases hi
                          have hg : a.tmps.getD 90 undef = undef := hM.at_ 15 (by decide) (by kernel_rfl)
                          refine RegInv.op_unwanted (by rfl) (RegInv.wanted_not (b := true) 90 rfl rfl hg (by simp [undef])) ⟨undef, rfl, rfl, Below.refl _ _⟩
                        · cases hi
                          have hg : a.tmps.getD 83 undef = .bool true := hM.at_ 8 (by decide) (by kernel_rfl)
                          refine RegInv.op_unwanted (by rfl) (RegInv.wanted_not (b := false) 83 rfl rfl hg (by simp [undef])) ⟨undef, rfl, rfl, Below.refl _ _⟩
                        · cases hi
                          have h0 := gdq _ _ _ (show a.tmps.getD 83 undef = .bool true from hM.at_ 8 (by decide) (by kernel_rfl))
                          refine RegInv.op_value (by rfl) rfl (v := .bool true) (w' := w8) ?_ ⟨_, rfl, rfl, Below.refl _ _⟩
                          unfold execOp
                          go_simp
                        · exact absurd hlt (by omega)
                      intro vs wF bF hF
                      have eL : vs 25 = .bool true := hF 25 (by omega)
                      clear hF
                      simp only [RegInv.puts, dSCa, Act.put, List.range, List.range.loop, List.setIfInBounds_toArray, List.set_cons_zero, List.set_cons_succ]
                      rw [eL]
                      clear eL
                      generalize vs 0 = t0
                      generalize vs 1 = t1
                      generalize vs 2 = t2
                      generalize vs 3 = t3
                      generalize vs 4 = t4
                      generalize vs 5 = t5
                      generalize vs 6 = t6
                      generalize vs 7 = t7
                      generalize vs 8 = t8
                      generalize vs 9 = t9
                      generalize vs 10 = t10
                      generalize vs 11 = t11
                      generalize vs 12 = t12
                      generalize vs 13 = t13
                      generalize vs 14 = t14
                      generalize vs 15 = t15
                      generalize vs 16 = t16
                      generalize vs 17 = t17
                      generalize vs 18 = t18
                      generalize vs 19 = t19
                      generalize vs 20 = t20
                      generalize vs 21 = t21
                      generalize vs 22 = t22
                      generalize vs 23 = t23
                      generalize vs 24 = t24
                      replace HBK := Aside0.mk (Lit.wB HBK.out bF)
                      clear bF
                      refine hK _ _ ?_
                      clear hK
                      go_wp2
                      go_roundw
                      case rel => exact ⟨k + 1, by omega, by go_num, HBK.out⟩
                      case measure => simp [intOf]; omega
                    · have cyx : (y.f2 == x.f2) = false := beq_eq_false_iff_ne.2 hyx
                      have HYX := Aside0.mk hyx
                      clear hyx
                      by_cases hyd : y.f2 = -1
                      · have cyd : (y.f2 != -1) = false := bne_eq_false_iff_eq.2 hyd
                        have HNB2 : Aside0 (∀ q z, k < q → q < j + 1 → ins[q]? = some z → ¬ Brk x.f2 o z) := ⟨fun q z h1 h2 h3 => by
                          rcases Nat.lt_or_ge q j with h4 | h4
                          · exact HNB.out q z h1 h4 h3
                          · obtain rfl : q = j := by omega
                            rw [HMY.out] at h3
                            cases h3
                            rintro (h5 | h5)
                            · exact HYX.out h5
                            · exact h5.1 hyd⟩
                        clear hyd
                        refine RegInv.region_facts (by kernel_rfl) (by kernel_rfl) (fun a b => Below a.heap.size a b) (fun a b c h k => Lit.wB h k) (below_drew1 (Below.refl _ _)) dSCb 26 (by kernel_rfl) (by kernel_rfl) (by kernel_rfl) (FSCb aI ins.length cI j g7 g8 x.f2 y o true) (FSCb_below aI ins.length cI j g7 g8 x.f2 y o true) ?hsSCb ?heSCb
                        case hsSCb =>
                          clear hK
                          intro i o a w8 hi hM
                          have hlt : i < 26 := (Array.getElem?_eq_some_iff.1 hi).1
                          have K7' := blk_below HK7.out hM.ext
                          rcases i with _ | _ | _ | _ | _ | _ | _ | _ | _ | _ | _ | _ | _ | _ | _ | _ | _ | _ | _ | _ | _ | _ | _ | _ | _ | _ | i
                          · cases hi
                            have h0 := gdq _ _ _ (show a.tmps.getD 5 undef = .slice (some aI) ins.length cI from hM.off 5 (by kernel_rfl))
                            refine RegInv.op_value (by rfl) rfl (v := .slice (some aI) ins.length cI) (w' := w8) ?_ ⟨_, rfl, rfl, Below.refl _ _⟩
                            unfold execOp
                            go_simp
                          · cases hi
                            have h0 := gdq _ _ _ (show a.tmps.getD 9 undef = .int .i64 (j : Int) from hM.off 9 (by kernel_rfl))
                            refine RegInv.op_value (by rfl) rfl (v := .int .i64 (j : Int)) (w' := w8) ?_ ⟨_, rfl, rfl, Below.refl _ _⟩
                            unfold execOp
                            go_simp
                          · cases hi
                            have h0 := gdq _ _ _ (show a.tmps.getD 75 undef = .slice (some aI) ins.length cI from hM.at_ 0 (by decide) (by kernel_rfl))
                            have h1 := gdq _ _ _ (show a.tmps.getD 76 undef = .int .i64 (j : Int) from hM.at_ 1 (by decide) (by kernel_rfl))
                            refine RegInv.op_value (by rfl) rfl (v := .pointer (some (aI.add (j * 8)))) (w' := w8) ?_ ⟨_, rfl, rfl, Below.refl _ _⟩
                            unfold execOp
                            go_simp
                          · cases hi
                            have h0 := gdq _ _ _ (show a.tmps.getD 77 undef = .pointer (some (aI.add (j * 8))) from hM.at_ 2 (by decide) (by kernel_rfl))
                            refine RegInv.op_value (by rfl) rfl (v := .pointer (some ⟨(aI.add (j * 8)).block, (aI.add (j * 8)).off + 2, none⟩)) (w' := w8) ?_ ⟨_, rfl, rfl, Below.refl _ _⟩
                            unfold execOp
                            go_simp
                          · cases hi
                            have h0 := gdq _ _ _ (show a.tmps.getD 78 undef = .pointer (some ⟨(aI.add (j * 8)).block, (aI.add (j * 8)).off + 2, none⟩) from hM.at_ 3 (by decide) (by kernel_rfl))
                            have y2 := (XX.out w8 hM.ext).2.2.1
                            refine RegInv.op_value (by rfl) rfl (v := .int .i64 y.f2) (w' := w8) ?_ ⟨_, rfl, rfl, Below.refl _ _⟩
                            unfold execOp
                            go_simp
                          · cases hi
                            have h0 := gdq _ _ _ (show a.tmps.getD 7 undef = .pointer (some ⟨g7, 0, none⟩) from hM.off 7 (by kernel_rfl))
                            refine RegInv.op_value (by rfl) rfl (v := .pointer (some ⟨g7, 2, none⟩)) (w' := w8) ?_ ⟨_, rfl, rfl, Below.refl _ _⟩
                            unfold execOp
                            go_simp
                          · cases hi
                            have h0 := gdq _ _ _ (show a.tmps.getD 80 undef = .pointer (some ⟨g7, 2, none⟩) from hM.at_ 5 (by decide) (by kernel_rfl))
                            have y : w8.cell? ⟨g7, 2, none⟩ = some (.int .i64 x.f2) := blk_cell K7' 2
                            refine RegInv.op_value (by rfl) rfl (v := .int .i64 x.f2) (w' := w8) ?_ ⟨_, rfl, rfl, Below.refl _ _⟩
                            unfold execOp
                            go_simp
                          · cases hi
                            have h0 := gdq _ _ _ (show a.tmps.getD 79 undef = .int .i64 y.f2 from hM.at_ 4 (by decide) (by kernel_rfl))
                            have h1 := gdq _ _ _ (show a.tmps.getD 81 undef = .int .i64 x.f2 from hM.at_ 6 (by decide) (by kernel_rfl))
                            refine RegInv.op_value (by rfl) rfl (v := .bool false) (w' := w8) ?_ ⟨_, rfl, rfl, Below.refl _ _⟩
                            unfold execOp
                            go_simp
                          · cases hi
                            have h0 := gdq _ _ _ (show a.tmps.getD 82 undef = .bool false from hM.at_ 7 (by decide) (by kernel_rfl))
                            refine RegInv.op_value (by rfl) rfl (v := .bool false) (w' := w8) ?_ ⟨_, rfl, rfl, Below.refl _ _⟩
                            unfold execOp
                            go_simp
                          · cases hi
                            have hg : a.tmps.getD 83 undef = .bool false := hM.at_ 8 (by decide) (by kernel_rfl)
                            have h0 := gdq _ _ _ (show a.tmps.getD 5 undef = .slice (some aI) ins.length cI from hM.off 5 (by kernel_rfl))
                            refine RegInv.op_valueW (by rfl) (RegInv.wanted_of 83 rfl rfl hg) (v := .slice (some aI) ins.length cI) (w' := w8) ?_ ⟨_, rfl, rfl, Below.refl _ _⟩
                            unfold execOp
                            go_simp
                          · cases hi
                            have hg : a.tmps.getD 83 undef = .bool false := hM.at_ 8 (by decide) (by kernel_rfl)
                            have h0 := gdq _ _ _ (show a.tmps.getD 9 undef = .int .i64 (j : Int) from hM.off 9 (by kernel_rfl))
                            refine RegInv.op_valueW (by rfl) (RegInv.wanted_of 83 rfl rfl hg) (v := .int .i64 (j : Int)) (w' := w8) ?_ ⟨_, rfl, rfl, Below.refl _ _⟩
                            unfold execOp
                            go_simp
                          · cases hi
                            have hg : a.tmps.getD 83 undef = .bool false := hM.at_ 8 (by decide) (by kernel_rfl)
                            have h0 := gdq _ _ _ (show a.tmps.getD 84 undef = .slice (some aI) ins.length cI from hM.at_ 9 (by decide) (by kernel_rfl))
                            have h1 := gdq _ _ _ (show a.tmps.getD 85 undef = .int .i64 (j : Int) from hM.at_ 10 (by decide) (by kernel_rfl))
                            refine RegInv.op_valueW (by rfl) (RegInv.wanted_of 83 rfl rfl hg) (v := .pointer (some (aI.add (j * 8)))) (w' := w8) ?_ ⟨_, rfl, rfl, Below.refl _ _⟩
                            unfold execOp
                            go_simp
                          · cases hi
                            have hg : a.tmps.getD 83 undef = .bool false := hM.at_ 8 (by decide) (by kernel_rfl)
                            have h0 := gdq _ _ _ (show a.tmps.getD 86 undef = .pointer (some (aI.add (j * 8))) from hM.at_ 11 (by decide) (by kernel_rfl))
                            refine RegInv.op_valueW (by rfl) (RegInv.wanted_of 83 rfl rfl hg) (v := .pointer (some ⟨(aI.add (j * 8)).block, (aI.add (j * 8)).off + 2, none⟩)) (w' := w8) ?_ ⟨_, rfl, rfl, Below.refl _ _⟩
                            unfold execOp
                            go_simp
                          · cases hi
                            have hg : a.tmps.getD 83 undef = .bool false := hM.at_ 8 (by decide) (by kernel_rfl)
                            have h0 := gdq _ _ _ (show a.tmps.getD 87 undef = .pointer (some ⟨(aI.add (j * 8)).block, (aI.add (j * 8)).off + 2, none⟩) from hM.at_ 12 (by decide) (by kernel_rfl))
                            have y2 := (XX.out w8 hM.ext).2.2.1
                            refine RegInv.op_valueW (by rfl) (RegInv.wanted_of 83 rfl rfl hg) (v := .int .i64 y.f2) (w' := w8) ?_ ⟨_, rfl, rfl, Below.refl _ _⟩
                            unfold execOp
                            go_simp
                          · cases hi
                            have hg : a.tmps.getD 83 undef = .bool false := hM.at_ 8 (by decide) (by kernel_rfl)
                            have h0 := gdq _ _ _ (show a.tmps.getD 88 undef = .int .i64 y.f2 from hM.at_ 13 (by decide) (by kernel_rfl))
                            refine RegInv.op_valueW (by rfl) (RegInv.wanted_of 83 rfl rfl hg) (v := .bool false) (w' := w8) ?_ ⟨_, rfl, rfl, Below.refl _ _⟩
                            unfold execOp
                            go_simp
                          · cases hi
                            have hg : a.tmps.getD 83 undef = .bool false := hM.at_ 8 (by decide) (by kernel_rfl)
                            have h0 := gdq _ _ _ (show a.tmps.getD 89 undef = .bool false from hM.at_ 14 (by decide) (by kernel_rfl))
                            refine RegInv.op_valueW (by rfl) (RegInv.wanted_of 83 rfl rfl hg) (v := .bool false) (w' := w8) ?_ ⟨_, rfl, rfl, Below.refl _ _⟩
                            unfold execOp
                            go_simp
                          · cases hi
                            have hg : a.tmps.getD 90 undef = .bool false := hM.at_ 15 (by decide) (by kernel_rfl)
                            refine RegInv.op_unwanted (by rfl) (RegInv.wanted_not (b := true) 90 rfl rfl hg (by simp [undef])) ⟨undef, rfl, rfl, Below.refl _ _⟩
                          · cases hi
                            have hg : a.tmps.getD 90 undef = .bool false := hM.at_ 15 (by decide) (by kernel_rfl)
                            refine RegInv.op_unwanted (by rfl) (RegInv.wanted_not (b := true) 90 rfl rfl hg (by simp [undef])) ⟨undef, rfl, rfl, Below.refl _ _⟩
                          · cases hi
                            have hg : a.tmps.getD 90 undef = .bool false := hM.at_ 15 (by decide) (by kernel_rfl)
                            refine RegInv.op_unwanted (by rfl) (RegInv.wanted_not (b := true) 90 rfl rfl hg (by simp [undef])) ⟨undef, rfl, rfl, Below.refl _ _⟩
                          · cases hi
                            have hg : a.tmps.getD 90 undef = .bool false := hM.at_ 15 (by decide) (by kernel_rfl)
                            refine RegInv.op_unwanted (by rfl) (RegInv.wanted_not (b := true) 90 rfl rfl hg (by simp [undef])) ⟨undef, rfl, rfl, Below.refl _ _⟩
                          · cases hi
                            have hg : a.tmps.getD 90 undef = .bool false := hM.at_ 15 (by decide) (by kernel_rfl)
                            refine RegInv.op_unwanted (by rfl) (RegInv.wanted_not (b := true) 90 rfl rfl hg (by simp [undef])) ⟨undef, rfl, rfl, Below.refl _ _⟩
                          · cases hi
                            have hg : a.tmps.getD 90 undef = .bool false := hM.at_ 15 (by decide) (by kernel_rfl)
                            refine RegInv.op_unwanted (by rfl) (RegInv.wanted_not (b := true) 90 rfl rfl hg (by simp [undef])) ⟨undef, rfl, rfl, Below.refl _ _⟩
                          · cases hi
                            have hg : a.tmps.getD 90 undef = .bool false := hM.at_ 15 (by decide) (by kernel_rfl)
                            refine RegInv.op_unwanted (by rfl) (RegInv.wanted_not (b := true) 90 rfl rfl hg (by simp [undef])) ⟨undef, rfl, rfl, Below.refl _ _⟩
                          · cases hi
                            have hg : a.tmps.getD 90 undef = .bool false := hM.at_ 15 (by decide) (by kernel_rfl)
                            refine RegInv.op_unwanted (by rfl) (RegInv.wanted_not (b := true) 90 rfl rfl hg (by simp [undef])) ⟨undef, rfl, rfl, Below.refl _ _⟩
                          · cases hi
                            have hg : a.tmps.getD 83 undef = .bool false := hM.at_ 8 (by decide) (by kernel_rfl)
                            have h0 := gdq _ _ _ (show a.tmps.getD 90 undef = .bool false from hM.at_ 15 (by decide) (by kernel_rfl))
                            refine RegInv.op_valueW (by rfl) (RegInv.wanted_of 83 rfl rfl hg) (v := .bool false) (w' := w8) ?_ ⟨_, rfl, rfl, Below.refl _ _⟩
                            unfold execOp
                            go_simp
                          · cases hi
                            have h0 := gdq _ _ _ (show a.tmps.getD 83 undef = .bool false from hM.at_ 8 (by decide) (by kernel_rfl))
                            have h1 := gdq _ _ _ (show a.tmps.getD 99 undef = .bool false from hM.at_ 24 (by decide) (by kernel_rfl))
                            refine RegInv.op_value (by rfl) rfl (v := .bool false) (w' := w8) ?_ ⟨_, rfl, rfl, Below.refl _ _⟩
                            unfold execOp
                            go_simp
                          · exact absurd hlt (by omega)
                        intro vs wF bF hF
                        have eL : vs 25 = .bool false := hF 25 (by omega)
                        clear hF
                        simp only [RegInv.puts, dSCb, Act.put, List.range, List.range.loop, List.setIfInBounds_toArray, List.set_cons_zero, List.set_cons_succ]
                        rw [eL]
                        clear eL
                        generalize vs 0 = t0
                        generalize vs 1 = t1
                        generalize vs 2 = t2
                        generalize vs 3 = t3
                        generalize vs 4 = t4
                        generalize vs 5 = t5
                        generalize vs 6 = t6
                        generalize vs 7 = t7
                        generalize vs 8 = t8
                        generalize vs 9 = t9
                        generalize vs 10 = t10
                        generalize vs 11 = t11
                        generalize vs 12 = t12
                        generalize vs 13 = t13
                        generalize vs 14 = t14
                        generalize vs 15 = t15
                        generalize vs 16 = t16
                        generalize vs 17 = t17
                        generalize vs 18 = t18
                        generalize vs 19 = t19
                        generalize vs 20 = t20
                        generalize vs 21 = t21
                        generalize vs 22 = t22
                        generalize vs 23 = t23
                        generalize vs 24 = t24
                        replace HBD := Aside0.mk (Lit.wB HBD.out bF)
                        clear bF
                        refine hK _ _ ?_
                        clear hK
                        go_wp2
                        go_roundw
                        case rel => exact ⟨j + 1, by omega, by omega, by go_num, HNB2.out, HBD.out⟩
                        case measure => simp [intOf]; omega
                      · have cyd : (y.f2 != -1) = true := bne_iff_ne.2 hyd
                        have HYD := Aside0.mk hyd
                        clear hyd
                        obtain ⟨q, hq⟩ : ∃ q, (o.f0 == 0 && (o.f1 == y.f2)) = q := ⟨_, rfl⟩
                        have HQ := Aside0.mk hq
                        clear hq
                        refine RegInv.region_facts (by kernel_rfl) (by kernel_rfl) (fun a b => Below a.heap.size a b) (fun a b c h k => Lit.wB h k) (below_drew1 (Below.refl _ _)) dSCc 26 (by kernel_rfl) (by kernel_rfl) (by kernel_rfl) (FSCc aI ins.length cI j g7 g8 x.f2 y o q) (FSCc_below aI ins.length cI j g7 g8 x.f2 y o q) ?hsSCc ?heSCc
                        case hsSCc =>
                          clear hK
                          intro i o a w8 hi hM
                          have hlt : i < 26 := (Array.getElem?_eq_some_iff.1 hi).1
                          have K7' := blk_below HK7.out hM.ext
                          have K8' := blk_below HK8.out hM.ext
                          rcases i with _ | _ | _ | _ | _ | _ | _ | _ | _ | _ | _ | _ | _ | _ | _ | _ | _ | _ | _ | _ | _ | _ | _ | _ | _ | _ | i
                          · cases hi
                            have h0 := gdq _ _ _ (show a.tmps.getD 5 undef = .slice (some aI) ins.length cI from hM.off 5 (by kernel_rfl))
                            refine RegInv.op_value (by rfl) rfl (v := .slice (some aI) ins.length cI) (w' := w8) ?_ ⟨_, rfl, rfl, Below.refl _ _⟩
                            unfold execOp
                            go_simp
                          · cases hi
                            have h0 := gdq _ _ _ (show a.tmps.getD 9 undef = .int .i64 (j : Int) from hM.off 9 (by kernel_rfl))
                            refine RegInv.op_value (by rfl) rfl (v := .int .i64 (j : Int)) (w' := w8) ?_ ⟨_, rfl, rfl, Below.refl _ _⟩
                            unfold execOp
                            go_simp
                          · cases hi
                            have h0 := gdq _ _ _ (show a.tmps.getD 75 undef = .slice (some aI) ins.length cI from hM.at_ 0 (by decide) (by kernel_rfl))
                            have h1 := gdq _ _ _ (show a.tmps.getD 76 undef = .int .i64 (j : Int) from hM.at_ 1 (by decide) (by kernel_rfl))
                            refine RegInv.op_value (by rfl) rfl (v := .pointer (some (aI.add (j * 8)))) (w' := w8) ?_ ⟨_, rfl, rfl, Below.refl _ _⟩
                            unfold execOp
                            go_simp
                          · cases hi
                            have h0 := gdq _ _ _ (show a.tmps.getD 77 undef = .pointer (some (aI.add (j * 8))) from hM.at_ 2 (by decide) (by kernel_rfl))
                            refine RegInv.op_value (by rfl) rfl (v := .pointer (some ⟨(aI.add (j * 8)).block, (aI.add (j * 8)).off + 2, none⟩)) (w' := w8) ?_ ⟨_, rfl, rfl, Below.refl _ _⟩
                            unfold execOp
                            go_simp
                          · cases hi
                            have h0 := gdq _ _ _ (show a.tmps.getD 78 undef = .pointer (some ⟨(aI.add (j * 8)).block, (aI.add (j * 8)).off + 2, none⟩) from hM.at_ 3 (by decide) (by kernel_rfl))
                            have y2 := (XX.out w8 hM.ext).2.2.1
                            refine RegInv.op_value (by rfl) rfl (v := .int .i64 y.f2) (w' := w8) ?_ ⟨_, rfl, rfl, Below.refl _ _⟩
                            unfold execOp
                            go_simp
                          · cases hi
                            have h0 := gdq _ _ _ (show a.tmps.getD 7 undef = .pointer (some ⟨g7, 0, none⟩) from hM.off 7 (by kernel_rfl))
                            refine RegInv.op_value (by rfl) rfl (v := .pointer (some ⟨g7, 2, none⟩)) (w' := w8) ?_ ⟨_, rfl, rfl, Below.refl _ _⟩
                            unfold execOp
                            go_simp
                          · cases hi
                            have h0 := gdq _ _ _ (show a.tmps.getD 80 undef = .pointer (some ⟨g7, 2, none⟩) from hM.at_ 5 (by decide) (by kernel_rfl))
                            have y : w8.cell? ⟨g7, 2, none⟩ = some (.int .i64 x.f2) := blk_cell K7' 2
                            refine RegInv.op_value (by rfl) rfl (v := .int .i64 x.f2) (w' := w8) ?_ ⟨_, rfl, rfl, Below.refl _ _⟩
                            unfold execOp
                            go_simp
                          · cases hi
                            have h0 := gdq _ _ _ (show a.tmps.getD 79 undef = .int .i64 y.f2 from hM.at_ 4 (by decide) (by kernel_rfl))
                            have h1 := gdq _ _ _ (show a.tmps.getD 81 undef = .int .i64 x.f2 from hM.at_ 6 (by decide) (by kernel_rfl))
                            refine RegInv.op_value (by rfl) rfl (v := .bool false) (w' := w8) ?_ ⟨_, rfl, rfl, Below.refl _ _⟩
                            unfold execOp
                            go_simp
                          · cases hi
                            have h0 := gdq _ _ _ (show a.tmps.getD 82 undef = .bool false from hM.at_ 7 (by decide) (by kernel_rfl))
                            refine RegInv.op_value (by rfl) rfl (v := .bool false) (w' := w8) ?_ ⟨_, rfl, rfl, Below.refl _ _⟩
                            unfold execOp
                            go_simp
                          · cases hi
                            have hg : a.tmps.getD 83 undef = .bool false := hM.at_ 8 (by decide) (by kernel_rfl)
                            have h0 := gdq _ _ _ (show a.tmps.getD 5 undef = .slice (some aI) ins.length cI from hM.off 5 (by kernel_rfl))
                            refine RegInv.op_valueW (by rfl) (RegInv.wanted_of 83 rfl rfl hg) (v := .slice (some aI) ins.length cI) (w' := w8) ?_ ⟨_, rfl, rfl, Below.refl _ _⟩
                            unfold execOp
                            go_simp
                          · cases hi
                            have hg : a.tmps.getD 83 undef = .bool false := hM.at_ 8 (by decide) (by kernel_rfl)
                            have h0 := gdq _ _ _ (show a.tmps.getD 9 undef = .int .i64 (j : Int) from hM.off 9 (by kernel_rfl))
                            refine RegInv.op_valueW (by rfl) (RegInv.wanted_of 83 rfl rfl hg) (v := .int .i64 (j : Int)) (w' := w8) ?_ ⟨_, rfl, rfl, Below.refl _ _⟩
                            unfold execOp
                            go_simp
                          · cases hi
                            have hg : a.tmps.getD 83 undef = .bool false := hM.at_ 8 (by decide) (by kernel_rfl)
                            have h0 := gdq _ _ _ (show a.tmps.getD 84 undef = .slice (some aI) ins.length cI from hM.at_ 9 (by decide) (by kernel_rfl))
                            have h1 := gdq _ _ _ (show a.tmps.getD 85 undef = .int .i64 (j : Int) from hM.at_ 10 (by decide) (by kernel_rfl))
                            refine RegInv.op_valueW (by rfl) (RegInv.wanted_of 83 rfl rfl hg) (v := .pointer (some (aI.add (j * 8)))) (w' := w8) ?_ ⟨_, rfl, rfl, Below.refl _ _⟩
                            unfold execOp
                            go_simp
                          · cases hi
                            have hg : a.tmps.getD 83 undef = .bool false := hM.at_ 8 (by decide) (by kernel_rfl)
                            have h0 := gdq _ _ _ (show a.tmps.getD 86 undef = .pointer (some (aI.add (j * 8))) from hM.at_ 11 (by decide) (by kernel_rfl))
                            refine RegInv.op_valueW (by rfl) (RegInv.wanted_of 83 rfl rfl hg) (v := .pointer (some ⟨(aI.add (j * 8)).block, (aI.add (j * 8)).off + 2, none⟩)) (w' := w8) ?_ ⟨_, rfl, rfl, Below.refl _ _⟩
                            unfold execOp
                            go_simp
                          · cases hi
                            have hg : a.tmps.getD 83 undef = .bool false := hM.at_ 8 (by decide) (by kernel_rfl)
                            have h0 := gdq _ _ _ (show a.tmps.getD 87 undef = .pointer (some ⟨(aI.add (j * 8)).block, (aI.add (j * 8)).off + 2, none⟩) from hM.at_ 12 (by decide) (by kernel_rfl))
                            have y2 := (XX.out w8 hM.ext).2.2.1
                            refine RegInv.op_valueW (by rfl) (RegInv.wanted_of 83 rfl rfl hg) (v := .int .i64 y.f2) (w' := w8) ?_ ⟨_, rfl, rfl, Below.refl _ _⟩
                            unfold execOp
                            go_simp
                          · cases hi
                            have hg : a.tmps.getD 83 undef = .bool false := hM.at_ 8 (by decide) (by kernel_rfl)
                            have h0 := gdq _ _ _ (show a.tmps.getD 88 undef = .int .i64 y.f2 from hM.at_ 13 (by decide) (by kernel_rfl))
                            refine RegInv.op_valueW (by rfl) (RegInv.wanted_of 83 rfl rfl hg) (v := .bool true) (w' := w8) ?_ ⟨_, rfl, rfl, Below.refl _ _⟩
                            unfold execOp
                            go_simp
                          · cases hi
                            have hg : a.tmps.getD 83 undef = .bool false := hM.at_ 8 (by decide) (by kernel_rfl)
                            have h0 := gdq _ _ _ (show a.tmps.getD 89 undef = .bool true from hM.at_ 14 (by decide) (by kernel_rfl))
                            refine RegInv.op_valueW (by rfl) (RegInv.wanted_of 83 rfl rfl hg) (v := .bool true) (w' := w8) ?_ ⟨_, rfl, rfl, Below.refl _ _⟩
                            unfold execOp
                            go_simp
                          · cases hi
                            have hg : a.tmps.getD 90 undef = .bool true := hM.at_ 15 (by decide) (by kernel_rfl)
                            have h0 := gdq _ _ _ (show a.tmps.getD 8 undef = .pointer (some ⟨g8, 0, none⟩) from hM.off 8 (by kernel_rfl))
                            have y0 : w8.cell? ⟨g8, 0, none⟩ = some (.int .i64 o.f0) := blk_cell K8' 0
                            have y1 : w8.cell? ⟨g8, 1, none⟩ = some (.int .i64 o.f1) := blk_cell K8' 1
                            refine RegInv.op_valueW (by rfl) (RegInv.wanted_of 90 rfl rfl hg) (v := .agg #[.int .i64 o.f0, .int .i64 o.f1]) (w' := w8) ?_ ⟨_, rfl, rfl, Below.refl _ _⟩
                            unfold execOp
                            go_simp
                          · cases hi
                            have hg : a.tmps.getD 90 undef = .bool true := hM.at_ 15 (by decide) (by kernel_rfl)
                            have h0 := gdq _ _ _ (show a.tmps.getD 5 undef = .slice (some aI) ins.length cI from hM.off 5 (by kernel_rfl))
                            refine RegInv.op_valueW (by rfl) (RegInv.wanted_of 90 rfl rfl hg) (v := .slice (some aI) ins.length cI) (w' := w8) ?_ ⟨_, rfl, rfl, Below.refl _ _⟩
                            unfold execOp
                            go_simp
                          · cases hi
                            have hg : a.tmps.getD 90 undef = .bool true := hM.at_ 15 (by decide) (by kernel_rfl)
                            have h0 := gdq _ _ _ (show a.tmps.getD 9 undef = .int .i64 (j : Int) from hM.off 9 (by kernel_rfl))
                            refine RegInv.op_valueW (by rfl) (RegInv.wanted_of 90 rfl rfl hg) (v := .int .i64 (j : Int)) (w' := w8) ?_ ⟨_, rfl, rfl, Below.refl _ _⟩
                            unfold execOp
                            go_simp
                          · cases hi
                            have hg : a.tmps.getD 90 undef = .bool true := hM.at_ 15 (by decide) (by kernel_rfl)
                            have h0 := gdq _ _ _ (show a.tmps.getD 92 undef = .slice (some aI) ins.length cI from hM.at_ 17 (by decide) (by kernel_rfl))
                            have h1 := gdq _ _ _ (show a.tmps.getD 93 undef = .int .i64 (j : Int) from hM.at_ 18 (by decide) (by kernel_rfl))
                            refine RegInv.op_valueW (by rfl) (RegInv.wanted_of 90 rfl rfl hg) (v := .pointer (some (aI.add (j * 8)))) (w' := w8) ?_ ⟨_, rfl, rfl, Below.refl _ _⟩
                            unfold execOp
                            go_simp
                          · cases hi
                            have hg : a.tmps.getD 90 undef = .bool true := hM.at_ 15 (by decide) (by kernel_rfl)
                            have h0 := gdq _ _ _ (show a.tmps.getD 94 undef = .pointer (some (aI.add (j * 8))) from hM.at_ 19 (by decide) (by kernel_rfl))
                            refine RegInv.op_valueW (by rfl) (RegInv.wanted_of 90 rfl rfl hg) (v := .pointer (some ⟨(aI.add (j * 8)).block, (aI.add (j * 8)).off + 2, none⟩)) (w' := w8) ?_ ⟨_, rfl, rfl, Below.refl _ _⟩
                            unfold execOp
                            go_simp
                          · cases hi
                            have hg : a.tmps.getD 90 undef = .bool true := hM.at_ 15 (by decide) (by kernel_rfl)
                            have h0 := gdq _ _ _ (show a.tmps.getD 95 undef = .pointer (some ⟨(aI.add (j * 8)).block, (aI.add (j * 8)).off + 2, none⟩) from hM.at_ 20 (by decide) (by kernel_rfl))
                            have y2 := (XX.out w8 hM.ext).2.2.1
                            refine RegInv.op_valueW (by rfl) (RegInv.wanted_of 90 rfl rfl hg) (v := .int .i64 y.f2) (w' := w8) ?_ ⟨_, rfl, rfl, Below.refl _ _⟩
                            unfold execOp
                            go_simp
                          · cases hi
                            have hg : a.tmps.getD 90 undef = .bool true := hM.at_ 15 (by decide) (by kernel_rfl)
                            have h0 := gdq _ _ _ (show a.tmps.getD 96 undef = .int .i64 y.f2 from hM.at_ 21 (by decide) (by kernel_rfl))
                            refine RegInv.op_callW (by rfl) (RegInv.wanted_of 90 rfl rfl hg) Try.func16 (by kernel_rfl) rfl rfl #[.int .i64 y.f2] (by simp [Act.eval, h0]) ?_
                            refine (reg_calls y.f2 w8).mono ?_
                            rintro e w9 ⟨rfl, b⟩
                            exact ⟨_, rfl, _, rfl, rfl, b⟩
                          · cases hi
                            have hg : a.tmps.getD 90 undef = .bool true := hM.at_ 15 (by decide) (by kernel_rfl)
                            have h0 := gdq _ _ _ (show a.tmps.getD 91 undef = .agg #[.int .i64 o.f0, .int .i64 o.f1] from hM.at_ 16 (by decide) (by kernel_rfl))
                            have h1 := gdq _ _ _ (show a.tmps.getD 97 undef = .agg #[.int .i64 0, .int .i64 y.f2] from hM.at_ 22 (by decide) (by kernel_rfl))
                            have he := eql49
                            refine RegInv.op_valueW (by rfl) (RegInv.wanted_of 90 rfl rfl hg) (v := .bool q) (w' := w8) ?_ ⟨_, rfl, rfl, Below.refl _ _⟩
                            unfold execOp
                            go_simp
                            rw [← HQ.out]
                          · cases hi
                            have hg : a.tmps.getD 83 undef = .bool false := hM.at_ 8 (by decide) (by kernel_rfl)
                            have h0 := gdq _ _ _ (show a.tmps.getD 90 undef = .bool true from hM.at_ 15 (by decide) (by kernel_rfl))
                            have h1 := gdq _ _ _ (show a.tmps.getD 98 undef = .bool q from hM.at_ 23 (by decide) (by kernel_rfl))
                            refine RegInv.op_valueW (by rfl) (RegInv.wanted_of 83 rfl rfl hg) (v := .bool q) (w' := w8) ?_ ⟨_, rfl, rfl, Below.refl _ _⟩
                            unfold execOp
                            go_simp
                          · cases hi
                            have h0 := gdq _ _ _ (show a.tmps.getD 83 undef = .bool false from hM.at_ 8 (by decide) (by kernel_rfl))
                            have h1 := gdq _ _ _ (show a.tmps.getD 99 undef = .bool q from hM.at_ 24 (by decide) (by kernel_rfl))
                            refine RegInv.op_value (by rfl) rfl (v := .bool q) (w' := w8) ?_ ⟨_, rfl, rfl, Below.refl _ _⟩
                            unfold execOp
                            go_simp
                          · exact absurd hlt (by omega)
                        intro vs wF bF hF
                        have eL : vs 25 = .bool q := hF 25 (by omega)
                        clear hF
                        simp only [RegInv.puts, dSCc, Act.put, List.range, List.range.loop, List.setIfInBounds_toArray, List.set_cons_zero, List.set_cons_succ]
                        rw [eL]
                        clear eL
                        generalize vs 0 = t0
                        generalize vs 1 = t1
                        generalize vs 2 = t2
                        generalize vs 3 = t3
                        generalize vs 4 = t4
                        generalize vs 5 = t5
                        generalize vs 6 = t6
                        generalize vs 7 = t7
                        generalize vs 8 = t8
                        generalize vs 9 = t9
                        generalize vs 10 = t10
                        generalize vs 11 = t11
                        generalize vs 12 = t12
                        generalize vs 13 = t13
                        generalize vs 14 = t14
                        generalize vs 15 = t15
                        generalize vs 16 = t16
                        generalize vs 17 = t17
                        generalize vs 18 = t18
                        generalize vs 19 = t19
                        generalize vs 20 = t20
                        generalize vs 21 = t21
                        generalize vs 22 = t22
                        generalize vs 23 = t23
                        generalize vs 24 = t24
                        replace HBD := Aside0.mk (Lit.wB HBD.out bF)
                        replace HBK := Aside0.mk (Lit.wB HBK.out bF)
                        clear bF
                        refine hK _ _ ?_
                        clear hK
                        cases q with
                        | true =>
                          go_wp2
                          go_roundw
                          case rel => exact ⟨k + 1, by omega, by go_num, HBK.out⟩
                          case measure => simp [intOf]; omega
                        | false =>
                          have HNB2 : Aside0 (∀ q z, k < q → q < j + 1 → ins[q]? = some z → ¬ Brk x.f2 o z) := ⟨fun q z h1 h2 h3 => by
                            rcases Nat.lt_or_ge q j with h4 | h4
                            · exact HNB.out q z h1 h4 h3
                            · obtain rfl : q = j := by omega
                              rw [HMY.out] at h3
                              cases h3
                              rintro (h5 | h5)
                              · exact HYX.out h5
                              · have h6 := HQ.out
                                rw [h5.2] at h6
                                simp at h6⟩
                          go_wp2
                          go_roundw
                          case rel => exact ⟨j + 1, by omega, by omega, by go_num, HNB2.out, HBD.out⟩
                          case measure => simp [intOf]; omega
                  · go_wp2
                    go_roundw
                    case rel => exact ⟨k + 1, by omega, by go_num, Lit.wB HBK.out hb⟩
                    case measure => simp [intOf]; omega
            · have c3' : ((x.f3.length : Int) != 1) = true := bne_iff_ne.2 (by omega)
              clear h0 h3
              go_wp2
              go_roundw
              case rel => exact ⟨k + 1, by omega, by go_num, HBK.out⟩
              case measure => simp [intOf]; omega
          · have c0 : (x.f0 != 1) = true := bne_iff_ne.2 h0
            clear h0
            go_wp2
            go_roundw
            case rel => exact ⟨k + 1, by omega, by go_num, HBK.out⟩
            case measure => simp [intOf]; omega
        · go_wp2
          go_roundw
          case rel => exact ⟨i + 1, by omega, by go_num, Lit.wB HBR.out hb⟩
          case measure => simp [intOf]; omega
    · go_wp2
      go_ret
      exact ⟨rfl, Lit.wB HB.out hb⟩
end Go.Proofs.Ytjekpkpmoanadaa.PCop
