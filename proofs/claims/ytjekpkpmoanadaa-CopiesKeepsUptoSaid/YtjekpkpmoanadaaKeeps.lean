/- CopiesKeeps' contract: blocks, and the instructions that are no moves, are what they were but for operands. For every code of a size that memory can hold. -/
import Derived.Test.YtjekpkpmoanadaaKeepsEv
namespace Go.Proofs.Ytjekpkpmoanadaa.PCop
open Go.RowKit Go.Proofs.Ytjekpkpmoanadaa.Lit Go.Proofs.Ytjekpkpmoanadaa.OwnCells Go.Proofs.YtjekpkpmoanadaaW.PrintWords Go.Proofs.YtjekpkpmoanadaaW.PrintLast Go.Proofs.YtjekpkpmoanadaaW.PrintMore
set_option linter.unusedVariables false
set_option linter.unusedSimpArgs false
theorem rd43_k {l : List S43} {k : Nat} (h : k < l.length) : l[k]? = some (rd_T43 l (k : Int)) := by
  unfold rd_T43
  rw [Int.toNat_natCast, List.getD_eq_getElem?_getD, List.getElem?_eq_getElem h]; rfl
theorem plain_small {l : List S47} (hl : l.length * 96 ≤ 140737488351232) (hx : ∀ x ∈ l, OkX x) : SmallB' [(⟨0, plainS l, []⟩ : S43)] where
  len := by show 1 ≤ _; decide
  ins := fun b hb => by
    rw [List.mem_singleton.1 hb]
    have h1 : (plainS l).length ≤ l.length := by unfold plainS; rw [List.length_map]; exact List.length_filter_le _ _
    exact ⟨by show (plainS l).length ≤ _; omega, by show 0 ≤ _; decide⟩
  each := fun b hb y hy => by
    rw [List.mem_singleton.1 hb] at hy
    obtain ⟨x, hxm, rfl⟩ := List.mem_map.1 (show y ∈ plainS l from hy)
    have hok := hx x (List.mem_filter.1 hxm).1
    refine ⟨?_, ?_, fun s hs => ?_⟩
    · show (List.replicate x.f3.length z49).length ≤ _
      rw [List.length_replicate]; have := hok.args; omega
    · show (x.f7.map plain65).length ≤ _
      rw [List.length_map]; have := hok.exit; omega
    · obtain ⟨s0, h0, rfl⟩ := List.mem_map.1 (show s ∈ x.f7.map plain65 from hs)
      show (List.replicate s0.f2.length z49).length ≤ _
      rw [List.length_replicate]; have := hok.slots s0 h0; omega
theorem same_intsB (A B : Option Addr) (c d : Nat) (l : List Int) (w : World) (hA : (Kd.int .i64).C w A l.length l) (hB : (Kd.int .i64).C w B l.length l) (hl : l.length ≤ 17592186044416) :
    Calls Try.prog 21 #[.slice A l.length c, .slice B l.length d] w fun e w' => e = .returned (.bool true) ∧ Below w.heap.size w w' :=
  (same_ints A B c d l w hA hB hl).mono (by rintro e w' ⟨rfl, m, rfl⟩; exact ⟨rfl, pw_below_drewN (Below.refl _ _) m⟩)
theorem steps_keep (b : S43) (in' : List S47) (hs : stepsS in' = stepsS b.f1) (A : Option Addr) (c : Nat) (E : Option Addr) (e : Nat) (w : World) (hA : k47.C w A in'.length in') (hc : in'.length ≤ c) (hE : (Kd.int .i64).C w E b.f2.length b.f2) (he : b.f2.length ≤ e) (hl : in'.length * 96 ≤ 140737488351232) :
    Calls Try.prog 22 #[.agg #[.int .i64 b.f0, .slice A in'.length c, .slice E b.f2.length e]] w fun e w' => e = .returned (.int .i64 (stepsS b.f1)) ∧ Below w.heap.size w w' := by
  rw [← hs]
  exact steps_calls ⟨b.f0, in', b.f2⟩ A c E e w hA hc hE he hl
def dK11 : Nat → Option Tmp
  | 0 => some 65
  | 1 => some 66
  | 2 => some 67
  | 3 => some 68
  | 4 => some 69
  | 5 => some 70
  | 6 => some 71
  | 7 => some 72
  | 8 => some 73
  | 9 => some 74
  | 10 => some 75
  | 11 => some 76
  | 12 => some 77
  | 13 => some 78
  | 14 => some 79
  | 15 => some 80
  | 16 => some 81
  | 17 => some 82
  | 18 => some 83
  | 19 => some 84
  | 20 => some 85
  | 21 => some 86
  | 22 => some 87
  | 23 => some 88
  | 24 => some 89
  | 25 => some 90
  | 26 => some 91
  | 27 => some 92
  | 28 => some 93
  | 29 => some 94
  | 30 => some 95
  | 31 => some 96
  | 32 => some 97
  | 33 => some 98
  | 34 => some 99
  | _ => none
def FK11 (g5 g6 g7 g8 h7 h8 : Nat) (pc s : Int) (n n' nx : Nat) (AI AN BI BN : Option Addr) (cI cN dI dN : Nat) : Nat → World → Value → Prop
  | 0, _, v => v = .pointer (some ⟨g6, 0, none⟩)
  | 1, _, v => v = .int .i64 pc
  | 2, _, v => v = .pointer (some ⟨g5, 0, none⟩)
  | 3, _, v => v = .int .i64 pc
  | 4, _, v => v = .bool false
  | 5, _, v => v = .bool false
  | 6, _, v => v = .pointer (some ⟨g6, 2, none⟩)
  | 7, _, v => v = .slice BN nx dN
  | 8, _, v => v = .pointer (some ⟨g5, 2, none⟩)
  | 9, _, v => v = .slice AN nx cN
  | 10, _, v => v = .bool true
  | 11, _, v => v = .bool false
  | 12, _, v => v = .bool false
  | 13, _, v => v = .bool false
  | 14, _, v => v = .agg #[.int .i64 0, .int .i64 0, .slice (some ⟨h7, 0, none⟩) 1 1]
  | 15, _, v => v = .agg #[.int .i64 0, .int .i64 0, .slice (some ⟨h8, 0, none⟩) 1 1]
  | 16, _, v => v = .bool true
  | 17, _, v => v = .bool false
  | 18, _, v => v = .bool false
  | 19, _, v => v = .bool false
  | 20, _, v => v = .agg #[.int .i64 pc, .slice AI n cI, .slice AN nx cN]
  | 21, _, v => v = .int .i64 s
  | 22, _, v => v = .agg #[.int .i64 pc, .slice BI n' dI, .slice BN nx dN]
  | 23, _, v => v = .int .i64 s
  | 24, _, v => v = .bool false
  | 25, _, v => v = .bool false
  | 26, _, v => v = .bool false
  | 27, _, v => v = .pointer (some ⟨g6, 1, none⟩)
  | 28, _, v => v = .slice BI n' dI
  | 29, _, v => v = .int .i64 (n' : Int)
  | 30, _, v => v = .pointer (some ⟨g5, 1, none⟩)
  | 31, _, v => v = .slice AI n cI
  | 32, _, v => v = .int .i64 (n : Int)
  | 33, _, v => v = .bool false
  | 34, _, v => v = .bool false
  | _, _, _ => True
theorem FK11_below (g5 g6 g7 g8 h7 h8 : Nat) (pc s : Int) (n n' nx : Nat) (AI AN BI BN : Option Addr) (cI cN dI dN : Nat) (i : Nat) (w w1 : World) (v : Value) (h : FK11 g5 g6 g7 g8 h7 h8  pc s  n n' nx  AI AN BI BN  cI cN dI dN  i w v) (hb : Below w.heap.size w w1) : FK11 g5 g6 g7 g8 h7 h8  pc s  n n' nx  AI AN BI BN  cI cN dI dN  i w1 v := by
  match i with
  | 0 | 1 | 2 | 3 | 4 | 5 | 6 | 7 | 8 | 9 | 10 | 11 | 12 | 13 | 14 | 15 | 16 | 17 | 18 | 19 | 20 | 21 | 22 | 23 | 24 | 25 | 26 | 27 | 28 | 29 | 30 | 31 | 32 | 33 | 34 => exact h
  | (n + 35) => exact h
set_option maxHeartbeats 8000000 in
set_option maxRecDepth 100000 in
theorem portagelaw22_CopiesKeeps.calls (a0 a1 : Int) (A : Option Addr) (c : Nat) (l : List S43) (r : Bool) (w : World) (hA : Kd.C k43 w A l.length l) (hl : l.length ≤ c) (h : OkL l ∧ r = true) :
    Calls Try.prog 7 #[.agg #[.int .i64 a0, .int .i64 a1, .slice A l.length c]] w fun e w' => e = .returned (.bool r) ∧ Below w.heap.size w w' := by
  obtain ⟨hok, rfl⟩ := h
  have hok2 := run_ok hok
  have HA := Aside0.mk hA
  have HOK := Aside0.mk hok
  have HOK2 := Aside0.mk hok2
  have HKP := Aside0.mk (show ∀ (i : Nat) b b', l[i]? = some b → (runS l)[i]? = some b' → b' = blockS b from fun i b b' h1 h2 => by
    rw [show runS l = l.map blockS from rfl, List.getElem?_map, h1] at h2
    exact (Option.some.inj h2).symm)
  have hml : (runS l).length = l.length := by simp [runS]
  clear hA hok hok2 hl
  go_enter Try.func7, Try.ntmps7
  go_wp2_with (fail)
  have hb := bodies w (.cells #[.int .i64 a0, .int .i64 a1, .slice A l.length c] 24)
  have K1 := blk_new w (.cells #[.int .i64 a0, .int .i64 a1, .slice A l.length c] 24)
  have HB := Aside0.mk hb
  replace HA := Aside0.mk (Kd.C_below HA.out hb)
  clear hb
  generalize w.alloc (.cells #[.int .i64 a0, .int .i64 a1, .slice A l.length c] 24) = w1 at *
  obtain ⟨g1, hg1⟩ : ∃ g, g = w.heap.size := ⟨_, rfl⟩
  rw [← hg1] at K1 ⊢
  clear hg1
  have HK1 := Aside0.mk K1
  clear K1
  refine (run_calls a0 a1 A c l w1 HA.out HOK.out).mono ?_
  rintro e w2 ⟨v, rfl, hr, hb⟩
  generalize runS l = m at *
  obtain ⟨P, d, rfl, hmd, hC⟩ := Kd.R_reads hr
  rw [hml] at hC hmd ⊢
  replace HB := Aside0.mk (wB HB.out hb)
  replace HA := Aside0.mk (Kd.C_below HA.out hb)
  replace HK1 := Aside0.mk (blk_below HK1.out hb)
  have HC := Aside0.mk hC
  have HML := Aside0.mk hml
  clear hb hr hC hmd hml
  go_upto_region 2 with (fail)
  have hb := bodies w2 (.cells #[.int .i64 a0, .int .i64 a1, .slice P l.length d] 24)
  have K3 := blk_new w2 (.cells #[.int .i64 a0, .int .i64 a1, .slice P l.length d] 24)
  replace HB := Aside0.mk (wB HB.out hb)
  replace HA := Aside0.mk (Kd.C_below HA.out hb)
  replace HC := Aside0.mk (Kd.C_below HC.out hb)
  replace HK1 := Aside0.mk (blk_below HK1.out hb)
  clear hb
  generalize w2.alloc (.cells #[.int .i64 a0, .int .i64 a1, .slice P l.length d] 24) = w3 at *
  generalize w2.heap.size = g3 at *
  have HK3 := Aside0.mk K3
  clear K3
  go_wp2_with (fail)
  refine (works_calls w3).mono ?_
  rintro e w4 ⟨rfl, hb⟩
  replace HB := Aside0.mk (wB HB.out hb)
  replace HA := Aside0.mk (Kd.C_below HA.out hb)
  replace HC := Aside0.mk (Kd.C_below HC.out hb)
  replace HK1 := Aside0.mk (blk_below HK1.out hb)
  replace HK3 := Aside0.mk (blk_below HK3.out hb)
  clear hb
  have q0 : w4.cell? ⟨g1, 0, none⟩ = some (.int .i64 a0) := blk_cell HK1.out 0
  have q1 : w4.cell? ⟨g1, 1, none⟩ = some (.int .i64 a1) := blk_cell HK1.out 1
  have q2 : w4.cell? ⟨g1, 2, none⟩ = some (.slice A l.length c) := blk_cell HK1.out 2
  have p0 : w4.cell? ⟨g3, 0, none⟩ = some (.int .i64 a0) := blk_cell HK3.out 0
  have p1 : w4.cell? ⟨g3, 1, none⟩ = some (.int .i64 a1) := blk_cell HK3.out 1
  have p2 : w4.cell? ⟨g3, 2, none⟩ = some (.slice P l.length d) := blk_cell HK3.out 2
  have hll := HOK.out.len
  go_wp2_with (fail)
  clear q0 q1 q2 p0 p1 p2
  go_loopw [4] (fun t wr => ∃ i : Nat, i ≤ l.length ∧ t = .int .i64 i ∧ Below w4.heap.size w4 wr) (fun t _ => l.length - (intOf t).toNat)
  case atStart => exact ⟨0, Nat.zero_le _, rfl, Below.refl _ _⟩
  case round =>
    obtain ⟨i, hi, rfl, hb⟩ := hrel
    generalize wr = wA at *
    have q2 : wA.cell? ⟨g1, 2, none⟩ = some (.slice A l.length c) := blk_cell (blk_below HK1.out hb) 2
    by_cases hlt : i < l.length
    · have p2 : wA.cell? ⟨g3, 2, none⟩ = some (.slice P l.length d) := blk_cell (blk_below HK3.out hb) 2
      obtain ⟨ad, AI, cI, AN, cN, rfl, x0, x1, x2, lI, gI, lN, gN⟩ := at_T43 (Kd.C_below HA.out hb) (i : Int) (by omega) (by omega)
      have HCm := HC.out
      rw [← HML.out] at HCm
      obtain ⟨bd, BI, dI, BN, dN, rfl, y0, y1, y2, mI, hI, mN, hN⟩ := at_T43 (Kd.C_below HCm hb) (i : Int) (by omega) (by rw [HML.out]; omega)
      have hm := rd43_k hlt
      have hm2 := rd43_k (l := m) (k := i) (by rw [HML.out]; exact hlt)
      have hbk := HKP.out i _ _ hm hm2
      have hok := HOK.out.ins _ (List.mem_of_getElem? hm)
      have hokx := HOK.out.each _ (List.mem_of_getElem? hm)
      have hokn := HOK.out.next _ (List.mem_of_getElem? hm)
      have hok2 := HOK2.out.ins _ (List.mem_of_getElem? hm2)
      have hokx2 := HOK2.out.each _ (List.mem_of_getElem? hm2)
      rw [Int.toNat_natCast] at x0 x1 x2 y0 y1 y2
      generalize rd_T43 l (i : Int) = b at *
      generalize rd_T43 m (i : Int) = b' at *
      have hkeep := block_keeps b
      have hpc : b'.f0 = b.f0 := by rw [hbk]; rfl
      have hnx : b'.f2 = b.f2 := by rw [hbk]; rfl
      rw [← hbk] at hkeep
      clear hbk HCm hm hm2
      obtain ⟨pc', in', nx'⟩ := b'
      simp only at hpc hnx hkeep y0 y1 y2 mI hI mN hN hok2 hokx2
      subst hpc
      subst hnx
      have GAI := Aside0.mk gI
      have GAN := Aside0.mk gN
      have GBI := Aside0.mk hI
      have GBN := Aside0.mk hN
      have HINS := Aside0.mk hok
      have HINS2 := Aside0.mk hok2
      have HOKX := Aside0.mk hokx
      have HOKX2 := Aside0.mk hokx2
      have HNX := Aside0.mk (show b.f2.length ≤ 17592186044416 by omega)
      have HCAP := Aside0.mk (And.intro lI (And.intro lN (And.intro mI mN)))
      have HPL := Aside0.mk hkeep.1
      have HST := Aside0.mk hkeep.2.1
      have HLE := Aside0.mk hkeep.2.2
      have HBA := Aside0.mk hb
      clear gI gN hI hN hok hok2 hokx hokx2 hokn lI lN mI mN hkeep hb
      go_upto_region 8 with (fail)
      have hb := bodies wA (.cells #[.int .i64 b.f0, .slice AI b.f1.length cI, .slice AN b.f2.length cN] 43)
      have K5 := blk_new wA (.cells #[.int .i64 b.f0, .slice AI b.f1.length cI, .slice AN b.f2.length cN] 43)
      replace p2 := pw_cell_below hb p2
      replace y0 := pw_cell_below hb y0
      replace y1 := pw_cell_below hb y1
      replace y2 := pw_cell_below hb y2
      replace GAI := Aside0.mk (Kd.C_below GAI.out hb)
      replace GAN := Aside0.mk (Kd.C_below GAN.out hb)
      replace GBI := Aside0.mk (Kd.C_below GBI.out hb)
      replace GBN := Aside0.mk (Kd.C_below GBN.out hb)
      replace HBA := Aside0.mk (Lit.wB HBA.out hb)
      clear hb q2 x0 x1 x2
      generalize wA.alloc (.cells #[.int .i64 b.f0, .slice AI b.f1.length cI, .slice AN b.f2.length cN] 43) = w5 at *
      generalize wA.heap.size = g5 at *
      have HK5 := Aside0.mk K5
      clear K5
      go_upto_region 9 with (fail)
      have hb := bodies w5 (.cells #[.int .i64 b.f0, .slice BI in'.length dI, .slice BN b.f2.length dN] 43)
      have K6 := blk_new w5 (.cells #[.int .i64 b.f0, .slice BI in'.length dI, .slice BN b.f2.length dN] 43)
      replace GAI := Aside0.mk (Kd.C_below GAI.out hb)
      replace GAN := Aside0.mk (Kd.C_below GAN.out hb)
      replace GBI := Aside0.mk (Kd.C_below GBI.out hb)
      replace GBN := Aside0.mk (Kd.C_below GBN.out hb)
      replace HBA := Aside0.mk (Lit.wB HBA.out hb)
      replace HK5 := Aside0.mk (blk_below HK5.out hb)
      clear hb p2 y0 y1 y2
      generalize w5.alloc (.cells #[.int .i64 b.f0, .slice BI in'.length dI, .slice BN b.f2.length dN] 43) = w6 at *
      generalize w5.heap.size = g6 at *
      have HK6 := Aside0.mk K6
      clear K6
      have q5 : w6.cell? ⟨g5, 1, none⟩ = some (.slice AI b.f1.length cI) := blk_cell HK5.out 1
      go_wp2_with (fail)
      refine (plain_calls b.f1 AI cI w6 GAI.out HCAP.out.1 HINS.out HOKX.out).mono ?_
      rintro e w7 ⟨v5, rfl, hr, hb⟩
      obtain ⟨P5, d5, rfl, l5, hC5⟩ := Kd.R_reads hr
      replace GAI := Aside0.mk (Kd.C_below GAI.out hb)
      replace GAN := Aside0.mk (Kd.C_below GAN.out hb)
      replace GBI := Aside0.mk (Kd.C_below GBI.out hb)
      replace GBN := Aside0.mk (Kd.C_below GBN.out hb)
      replace HBA := Aside0.mk (Lit.wB HBA.out hb)
      replace HK5 := Aside0.mk (blk_below HK5.out hb)
      replace HK6 := Aside0.mk (blk_below HK6.out hb)
      clear hb q5 hr
      have HC5 := Aside0.mk (And.intro l5 hC5)
      clear l5 hC5
      go_upto_region 10 with (fail)
      have s3 : k43.C (w7.alloc (.cells #[.int .i64 0, .slice P5 (plainS b.f1).length d5, .slice none 0 0] 43)) (some ⟨w7.heap.size, 0, none⟩) 1 [⟨0, plainS b.f1, []⟩] := lit_C k43 w7 43 [⟨0, plainS b.f1, []⟩] [.int .i64 0, .slice P5 (plainS b.f1).length d5, .slice none 0 0] (reps1 (k43_mk w7 ⟨0, plainS b.f1, []⟩ HC5.out.1 HC5.out.2 (Nat.le_refl 0) (nil_C w7)) rfl) (by simp)
      have hz : (w7.alloc (.cells #[.int .i64 0, .slice P5 (plainS b.f1).length d5, .slice none 0 0] 43)).heap.size = w7.heap.size + 1 := World.size_alloc _ _
      have hb := bodies w7 (.cells #[.int .i64 0, .slice P5 (plainS b.f1).length d5, .slice none 0 0] 43)
      have hb2 := bodies (w7.alloc (.cells #[.int .i64 0, .slice P5 (plainS b.f1).length d5, .slice none 0 0] 43)) (.cells #[.int .i64 0, .int .i64 0, .slice (some ⟨w7.heap.size, 0, none⟩) 1 1] 24)
      have K7 := blk_new (w7.alloc (.cells #[.int .i64 0, .slice P5 (plainS b.f1).length d5, .slice none 0 0] 43)) (.cells #[.int .i64 0, .int .i64 0, .slice (some ⟨w7.heap.size, 0, none⟩) 1 1] 24)
      rw [hz] at K7
      have s4 := Kd.C_below s3 hb2
      have hb3 := Lit.wB hb hb2
      replace GAI := Aside0.mk (Kd.C_below GAI.out hb3)
      replace GAN := Aside0.mk (Kd.C_below GAN.out hb3)
      replace GBI := Aside0.mk (Kd.C_below GBI.out hb3)
      replace GBN := Aside0.mk (Kd.C_below GBN.out hb3)
      replace HBA := Aside0.mk (Lit.wB HBA.out hb3)
      replace HK5 := Aside0.mk (blk_below HK5.out hb3)
      replace HK6 := Aside0.mk (blk_below HK6.out hb3)
      clear s3 hb hb2 hb3 hz HC5
      generalize (w7.alloc (.cells #[.int .i64 0, .slice P5 (plainS b.f1).length d5, .slice none 0 0] 43)).alloc (.cells #[.int .i64 0, .int .i64 0, .slice (some ⟨w7.heap.size, 0, none⟩) 1 1] 24) = w8 at *
      generalize w7.heap.size + 1 = g7 at *
      generalize w7.heap.size = h7 at *
      have GC7 := Aside0.mk s4
      have HK7 := Aside0.mk K7
      clear s4 K7
      have q6 : w8.cell? ⟨g6, 1, none⟩ = some (.slice BI in'.length dI) := blk_cell HK6.out 1
      go_wp2_with (fail)
      refine (plain_calls in' BI dI w8 GBI.out HCAP.out.2.2.1 HINS2.out HOKX2.out).mono ?_
      rintro e w9 ⟨v6, rfl, hr, hb⟩
      rw [HPL.out] at hr
      obtain ⟨P6, d6, rfl, l6, hC6⟩ := Kd.R_reads hr
      replace GAI := Aside0.mk (Kd.C_below GAI.out hb)
      replace GAN := Aside0.mk (Kd.C_below GAN.out hb)
      replace GBI := Aside0.mk (Kd.C_below GBI.out hb)
      replace GBN := Aside0.mk (Kd.C_below GBN.out hb)
      replace HBA := Aside0.mk (Lit.wB HBA.out hb)
      replace HK5 := Aside0.mk (blk_below HK5.out hb)
      replace HK6 := Aside0.mk (blk_below HK6.out hb)
      replace HK7 := Aside0.mk (blk_below HK7.out hb)
      replace GC7 := Aside0.mk (Kd.C_below GC7.out hb)
      clear hb q6 hr
      have HC6 := Aside0.mk (And.intro l6 hC6)
      clear l6 hC6
      go_upto_region 11 with (fail)
      have s3 : k43.C (w9.alloc (.cells #[.int .i64 0, .slice P6 (plainS b.f1).length d6, .slice none 0 0] 43)) (some ⟨w9.heap.size, 0, none⟩) 1 [⟨0, plainS b.f1, []⟩] := lit_C k43 w9 43 [⟨0, plainS b.f1, []⟩] [.int .i64 0, .slice P6 (plainS b.f1).length d6, .slice none 0 0] (reps1 (k43_mk w9 ⟨0, plainS b.f1, []⟩ HC6.out.1 HC6.out.2 (Nat.le_refl 0) (nil_C w9)) rfl) (by simp)
      have hz : (w9.alloc (.cells #[.int .i64 0, .slice P6 (plainS b.f1).length d6, .slice none 0 0] 43)).heap.size = w9.heap.size + 1 := World.size_alloc _ _
      have hb := bodies w9 (.cells #[.int .i64 0, .slice P6 (plainS b.f1).length d6, .slice none 0 0] 43)
      have hb2 := bodies (w9.alloc (.cells #[.int .i64 0, .slice P6 (plainS b.f1).length d6, .slice none 0 0] 43)) (.cells #[.int .i64 0, .int .i64 0, .slice (some ⟨w9.heap.size, 0, none⟩) 1 1] 24)
      have K8 := blk_new (w9.alloc (.cells #[.int .i64 0, .slice P6 (plainS b.f1).length d6, .slice none 0 0] 43)) (.cells #[.int .i64 0, .int .i64 0, .slice (some ⟨w9.heap.size, 0, none⟩) 1 1] 24)
      rw [hz] at K8
      have s4 := Kd.C_below s3 hb2
      have hb3 := Lit.wB hb hb2
      replace GAI := Aside0.mk (Kd.C_below GAI.out hb3)
      replace GAN := Aside0.mk (Kd.C_below GAN.out hb3)
      replace GBI := Aside0.mk (Kd.C_below GBI.out hb3)
      replace GBN := Aside0.mk (Kd.C_below GBN.out hb3)
      replace HBA := Aside0.mk (Lit.wB HBA.out hb3)
      replace HK5 := Aside0.mk (blk_below HK5.out hb3)
      replace HK6 := Aside0.mk (blk_below HK6.out hb3)
      replace HK7 := Aside0.mk (blk_below HK7.out hb3)
      replace GC7 := Aside0.mk (Kd.C_below GC7.out hb3)
      clear s3 hb hb2 hb3 hz HC6
      generalize (w9.alloc (.cells #[.int .i64 0, .slice P6 (plainS b.f1).length d6, .slice none 0 0] 43)).alloc (.cells #[.int .i64 0, .int .i64 0, .slice (some ⟨w9.heap.size, 0, none⟩) 1 1] 24) = wC at *
      generalize w9.heap.size + 1 = g8 at *
      generalize w9.heap.size = h8 at *
      have GC8 := Aside0.mk s4
      have HK8 := Aside0.mk K8
      clear s4 K8
      go_wp2_with (fail)
      rename_i hK
      refine RegInv.region_facts (by kernel_rfl) (by kernel_rfl) (fun a b => Below a.heap.size a b) (fun a b c h k => Lit.wB h k) (below_drew1 (Below.refl _ _)) dK11 35 (by kernel_rfl) (by kernel_rfl) (by kernel_rfl) (FK11 g5 g6 g7 g8 h7 h8 b.f0 (stepsS b.f1) b.f1.length in'.length b.f2.length AI AN BI BN cI cN dI dN) (FK11_below g5 g6 g7 g8 h7 h8 b.f0 (stepsS b.f1) b.f1.length in'.length b.f2.length AI AN BI BN cI cN dI dN) ?hsK11 ?heK11
      case hsK11 =>
        clear hK
        intro i o a w8 hi hM
        have hlt : i < 35 := (Array.getElem?_eq_some_iff.1 hi).1
        have K5' := blk_below HK5.out hM.ext
        have K6' := blk_below HK6.out hM.ext
        have K7' := blk_below HK7.out hM.ext
        have K8' := blk_below HK8.out hM.ext
        rcases i with _ | _ | _ | _ | _ | _ | _ | _ | _ | _ | _ | _ | _ | _ | _ | _ | _ | _ | _ | _ | _ | _ | _ | _ | _ | _ | _ | _ | _ | _ | _ | _ | _ | _ | _ | i
        · cases hi
          have h0 := gdq _ _ _ (show a.tmps.getD 6 undef = .pointer (some ⟨g6, 0, none⟩) from hM.off 6 (by kernel_rfl))
          refine RegInv.op_value (by rfl) rfl (v := .pointer (some ⟨g6, 0, none⟩)) (w' := w8) ?_ ⟨_, rfl, rfl, Below.refl _ _⟩
          unfold execOp
          go_simp
        · cases hi
          have h0 := gdq _ _ _ (show a.tmps.getD 65 undef = .pointer (some ⟨g6, 0, none⟩) from hM.at_ 0 (by decide) (by kernel_rfl))
          have y : w8.cell? ⟨g6, 0, none⟩ = some (.int .i64 b.f0) := blk_cell K6' 0
          refine RegInv.op_value (by rfl) rfl (v := .int .i64 b.f0) (w' := w8) ?_ ⟨_, rfl, rfl, Below.refl _ _⟩
          unfold execOp
          go_simp
        · cases hi
          have h0 := gdq _ _ _ (show a.tmps.getD 5 undef = .pointer (some ⟨g5, 0, none⟩) from hM.off 5 (by kernel_rfl))
          refine RegInv.op_value (by rfl) rfl (v := .pointer (some ⟨g5, 0, none⟩)) (w' := w8) ?_ ⟨_, rfl, rfl, Below.refl _ _⟩
          unfold execOp
          go_simp
        · cases hi
          have h0 := gdq _ _ _ (show a.tmps.getD 67 undef = .pointer (some ⟨g5, 0, none⟩) from hM.at_ 2 (by decide) (by kernel_rfl))
          have y : w8.cell? ⟨g5, 0, none⟩ = some (.int .i64 b.f0) := blk_cell K5' 0
          refine RegInv.op_value (by rfl) rfl (v := .int .i64 b.f0) (w' := w8) ?_ ⟨_, rfl, rfl, Below.refl _ _⟩
          unfold execOp
          go_simp
        · cases hi
          have h0 := gdq _ _ _ (show a.tmps.getD 66 undef = .int .i64 b.f0 from hM.at_ 1 (by decide) (by kernel_rfl))
          have h1 := gdq _ _ _ (show a.tmps.getD 68 undef = .int .i64 b.f0 from hM.at_ 3 (by decide) (by kernel_rfl))
          refine RegInv.op_value (by rfl) rfl (v := .bool false) (w' := w8) ?_ ⟨_, rfl, rfl, Below.refl _ _⟩
          unfold execOp
          go_simp
        · cases hi
          have h0 := gdq _ _ _ (show a.tmps.getD 69 undef = .bool false from hM.at_ 4 (by decide) (by kernel_rfl))
          refine RegInv.op_value (by rfl) rfl (v := .bool false) (w' := w8) ?_ ⟨_, rfl, rfl, Below.refl _ _⟩
          unfold execOp
          go_simp
        · cases hi
          have hg : a.tmps.getD 70 undef = .bool false := hM.at_ 5 (by decide) (by kernel_rfl)
          have h0 := gdq _ _ _ (show a.tmps.getD 6 undef = .pointer (some ⟨g6, 0, none⟩) from hM.off 6 (by kernel_rfl))
          refine RegInv.op_valueW (by rfl) (RegInv.wanted_of 70 rfl rfl hg) (v := .pointer (some ⟨g6, 2, none⟩)) (w' := w8) ?_ ⟨_, rfl, rfl, Below.refl _ _⟩
          unfold execOp
          go_simp
        · cases hi
          have hg : a.tmps.getD 70 undef = .bool false := hM.at_ 5 (by decide) (by kernel_rfl)
          have h0 := gdq _ _ _ (show a.tmps.getD 71 undef = .pointer (some ⟨g6, 2, none⟩) from hM.at_ 6 (by decide) (by kernel_rfl))
          have y : w8.cell? ⟨g6, 2, none⟩ = some (.slice BN b.f2.length dN) := blk_cell K6' 2
          refine RegInv.op_valueW (by rfl) (RegInv.wanted_of 70 rfl rfl hg) (v := .slice BN b.f2.length dN) (w' := w8) ?_ ⟨_, rfl, rfl, Below.refl _ _⟩
          unfold execOp
          go_simp
        · cases hi
          have hg : a.tmps.getD 70 undef = .bool false := hM.at_ 5 (by decide) (by kernel_rfl)
          have h0 := gdq _ _ _ (show a.tmps.getD 5 undef = .pointer (some ⟨g5, 0, none⟩) from hM.off 5 (by kernel_rfl))
          refine RegInv.op_valueW (by rfl) (RegInv.wanted_of 70 rfl rfl hg) (v := .pointer (some ⟨g5, 2, none⟩)) (w' := w8) ?_ ⟨_, rfl, rfl, Below.refl _ _⟩
          unfold execOp
          go_simp
        · cases hi
          have hg : a.tmps.getD 70 undef = .bool false := hM.at_ 5 (by decide) (by kernel_rfl)
          have h0 := gdq _ _ _ (show a.tmps.getD 73 undef = .pointer (some ⟨g5, 2, none⟩) from hM.at_ 8 (by decide) (by kernel_rfl))
          have y : w8.cell? ⟨g5, 2, none⟩ = some (.slice AN b.f2.length cN) := blk_cell K5' 2
          refine RegInv.op_valueW (by rfl) (RegInv.wanted_of 70 rfl rfl hg) (v := .slice AN b.f2.length cN) (w' := w8) ?_ ⟨_, rfl, rfl, Below.refl _ _⟩
          unfold execOp
          go_simp
        · cases hi
          have hg : a.tmps.getD 70 undef = .bool false := hM.at_ 5 (by decide) (by kernel_rfl)
          have h0 := gdq _ _ _ (show a.tmps.getD 72 undef = .slice BN b.f2.length dN from hM.at_ 7 (by decide) (by kernel_rfl))
          have h1 := gdq _ _ _ (show a.tmps.getD 74 undef = .slice AN b.f2.length cN from hM.at_ 9 (by decide) (by kernel_rfl))
          refine RegInv.op_callW (by rfl) (RegInv.wanted_of 70 rfl rfl hg) Try.func21 (by kernel_rfl) rfl rfl #[.slice BN b.f2.length dN, .slice AN b.f2.length cN] (by simp [Act.eval, h0, h1]) ?_
          refine (same_intsB BN AN dN cN b.f2 w8 (Kd.C_below GBN.out hM.ext) (Kd.C_below GAN.out hM.ext) HNX.out).mono ?_
          rintro e w9 ⟨rfl, b⟩
          exact ⟨_, rfl, _, rfl, rfl, b⟩
        · cases hi
          have hg : a.tmps.getD 70 undef = .bool false := hM.at_ 5 (by decide) (by kernel_rfl)
          have h0 := gdq _ _ _ (show a.tmps.getD 75 undef = .bool true from hM.at_ 10 (by decide) (by kernel_rfl))
          refine RegInv.op_valueW (by rfl) (RegInv.wanted_of 70 rfl rfl hg) (v := .bool false) (w' := w8) ?_ ⟨_, rfl, rfl, Below.refl _ _⟩
          unfold execOp
          go_simp
        · cases hi
          have h0 := gdq _ _ _ (show a.tmps.getD 70 undef = .bool false from hM.at_ 5 (by decide) (by kernel_rfl))
          have h1 := gdq _ _ _ (show a.tmps.getD 76 undef = .bool false from hM.at_ 11 (by decide) (by kernel_rfl))
          refine RegInv.op_value (by rfl) rfl (v := .bool false) (w' := w8) ?_ ⟨_, rfl, rfl, Below.refl _ _⟩
          unfold execOp
          go_simp
        · cases hi
          have h0 := gdq _ _ _ (show a.tmps.getD 77 undef = .bool false from hM.at_ 12 (by decide) (by kernel_rfl))
          refine RegInv.op_value (by rfl) rfl (v := .bool false) (w' := w8) ?_ ⟨_, rfl, rfl, Below.refl _ _⟩
          unfold execOp
          go_simp
        · cases hi
          have hg : a.tmps.getD 78 undef = .bool false := hM.at_ 13 (by decide) (by kernel_rfl)
          have h0 := gdq _ _ _ (show a.tmps.getD 7 undef = .pointer (some ⟨g7, 0, none⟩) from hM.off 7 (by kernel_rfl))
          have y0 : w8.cell? ⟨g7, 0, none⟩ = some (.int .i64 0) := blk_cell K7' 0
          have y1 : w8.cell? ⟨g7, 1, none⟩ = some (.int .i64 0) := blk_cell K7' 1
          have y2 : w8.cell? ⟨g7, 2, none⟩ = some (.slice (some ⟨h7, 0, none⟩) 1 1) := blk_cell K7' 2
          refine RegInv.op_valueW (by rfl) (RegInv.wanted_of 78 rfl rfl hg) (v := .agg #[.int .i64 0, .int .i64 0, .slice (some ⟨h7, 0, none⟩) 1 1]) (w' := w8) ?_ ⟨_, rfl, rfl, Below.refl _ _⟩
          unfold execOp
          go_simp
        · cases hi
          have hg : a.tmps.getD 78 undef = .bool false := hM.at_ 13 (by decide) (by kernel_rfl)
          have h0 := gdq _ _ _ (show a.tmps.getD 8 undef = .pointer (some ⟨g8, 0, none⟩) from hM.off 8 (by kernel_rfl))
          have y0 : w8.cell? ⟨g8, 0, none⟩ = some (.int .i64 0) := blk_cell K8' 0
          have y1 : w8.cell? ⟨g8, 1, none⟩ = some (.int .i64 0) := blk_cell K8' 1
          have y2 : w8.cell? ⟨g8, 2, none⟩ = some (.slice (some ⟨h8, 0, none⟩) 1 1) := blk_cell K8' 2
          refine RegInv.op_valueW (by rfl) (RegInv.wanted_of 78 rfl rfl hg) (v := .agg #[.int .i64 0, .int .i64 0, .slice (some ⟨h8, 0, none⟩) 1 1]) (w' := w8) ?_ ⟨_, rfl, rfl, Below.refl _ _⟩
          unfold execOp
          go_simp
        · cases hi
          have hg : a.tmps.getD 78 undef = .bool false := hM.at_ 13 (by decide) (by kernel_rfl)
          have h0 := gdq _ _ _ (show a.tmps.getD 79 undef = .agg #[.int .i64 0, .int .i64 0, .slice (some ⟨h7, 0, none⟩) 1 1] from hM.at_ 14 (by decide) (by kernel_rfl))
          have h1 := gdq _ _ _ (show a.tmps.getD 80 undef = .agg #[.int .i64 0, .int .i64 0, .slice (some ⟨h8, 0, none⟩) 1 1] from hM.at_ 15 (by decide) (by kernel_rfl))
          refine RegInv.op_callW (by rfl) (RegInv.wanted_of 78 rfl rfl hg) Try.func12 (by kernel_rfl) rfl rfl #[.agg #[.int .i64 0, .int .i64 0, .slice (some ⟨h7, 0, none⟩) 1 1], .agg #[.int .i64 0, .int .i64 0, .slice (some ⟨h8, 0, none⟩) 1 1]] (by simp [Act.eval, h0, h1]) ?_
          refine (same_regs 0 0 (some ⟨h7, 0, none⟩) (some ⟨h8, 0, none⟩) 1 1 [⟨0, plainS b.f1, []⟩] w8 (Kd.C_below GC7.out hM.ext) (Kd.C_below GC8.out hM.ext) (plain_small HINS.out HOKX.out)).mono ?_
          rintro e w9 ⟨rfl, b⟩
          exact ⟨_, rfl, _, rfl, rfl, b⟩
        · cases hi
          have hg : a.tmps.getD 78 undef = .bool false := hM.at_ 13 (by decide) (by kernel_rfl)
          have h0 := gdq _ _ _ (show a.tmps.getD 81 undef = .bool true from hM.at_ 16 (by decide) (by kernel_rfl))
          refine RegInv.op_valueW (by rfl) (RegInv.wanted_of 78 rfl rfl hg) (v := .bool false) (w' := w8) ?_ ⟨_, rfl, rfl, Below.refl _ _⟩
          unfold execOp
          go_simp
        · cases hi
          have h0 := gdq _ _ _ (show a.tmps.getD 78 undef = .bool false from hM.at_ 13 (by decide) (by kernel_rfl))
          have h1 := gdq _ _ _ (show a.tmps.getD 82 undef = .bool false from hM.at_ 17 (by decide) (by kernel_rfl))
          refine RegInv.op_value (by rfl) rfl (v := .bool false) (w' := w8) ?_ ⟨_, rfl, rfl, Below.refl _ _⟩
          unfold execOp
          go_simp
        · cases hi
          have h0 := gdq _ _ _ (show a.tmps.getD 83 undef = .bool false from hM.at_ 18 (by decide) (by kernel_rfl))
          refine RegInv.op_value (by rfl) rfl (v := .bool false) (w' := w8) ?_ ⟨_, rfl, rfl, Below.refl _ _⟩
          unfold execOp
          go_simp
        · cases hi
          have hg : a.tmps.getD 84 undef = .bool false := hM.at_ 19 (by decide) (by kernel_rfl)
          have h0 := gdq _ _ _ (show a.tmps.getD 5 undef = .pointer (some ⟨g5, 0, none⟩) from hM.off 5 (by kernel_rfl))
          have y0 : w8.cell? ⟨g5, 0, none⟩ = some (.int .i64 b.f0) := blk_cell K5' 0
          have y1 : w8.cell? ⟨g5, 1, none⟩ = some (.slice AI b.f1.length cI) := blk_cell K5' 1
          have y2 : w8.cell? ⟨g5, 2, none⟩ = some (.slice AN b.f2.length cN) := blk_cell K5' 2
          refine RegInv.op_valueW (by rfl) (RegInv.wanted_of 84 rfl rfl hg) (v := .agg #[.int .i64 b.f0, .slice AI b.f1.length cI, .slice AN b.f2.length cN]) (w' := w8) ?_ ⟨_, rfl, rfl, Below.refl _ _⟩
          unfold execOp
          go_simp
        · cases hi
          have hg : a.tmps.getD 84 undef = .bool false := hM.at_ 19 (by decide) (by kernel_rfl)
          have h0 := gdq _ _ _ (show a.tmps.getD 85 undef = .agg #[.int .i64 b.f0, .slice AI b.f1.length cI, .slice AN b.f2.length cN] from hM.at_ 20 (by decide) (by kernel_rfl))
          refine RegInv.op_callW (by rfl) (RegInv.wanted_of 84 rfl rfl hg) Try.func22 (by kernel_rfl) rfl rfl #[.agg #[.int .i64 b.f0, .slice AI b.f1.length cI, .slice AN b.f2.length cN]] (by simp [Act.eval, h0]) ?_
          refine (steps_calls b AI cI AN cN w8 (Kd.C_below GAI.out hM.ext) HCAP.out.1 (Kd.C_below GAN.out hM.ext) HCAP.out.2.1 HINS.out).mono ?_
          rintro e w9 ⟨rfl, b⟩
          exact ⟨_, rfl, _, rfl, rfl, b⟩
        · cases hi
          have hg : a.tmps.getD 84 undef = .bool false := hM.at_ 19 (by decide) (by kernel_rfl)
          have h0 := gdq _ _ _ (show a.tmps.getD 6 undef = .pointer (some ⟨g6, 0, none⟩) from hM.off 6 (by kernel_rfl))
          have y0 : w8.cell? ⟨g6, 0, none⟩ = some (.int .i64 b.f0) := blk_cell K6' 0
          have y1 : w8.cell? ⟨g6, 1, none⟩ = some (.slice BI in'.length dI) := blk_cell K6' 1
          have y2 : w8.cell? ⟨g6, 2, none⟩ = some (.slice BN b.f2.length dN) := blk_cell K6' 2
          refine RegInv.op_valueW (by rfl) (RegInv.wanted_of 84 rfl rfl hg) (v := .agg #[.int .i64 b.f0, .slice BI in'.length dI, .slice BN b.f2.length dN]) (w' := w8) ?_ ⟨_, rfl, rfl, Below.refl _ _⟩
          unfold execOp
          go_simp
        · cases hi
          have hg : a.tmps.getD 84 undef = .bool false := hM.at_ 19 (by decide) (by kernel_rfl)
          have h0 := gdq _ _ _ (show a.tmps.getD 87 undef = .agg #[.int .i64 b.f0, .slice BI in'.length dI, .slice BN b.f2.length dN] from hM.at_ 22 (by decide) (by kernel_rfl))
          refine RegInv.op_callW (by rfl) (RegInv.wanted_of 84 rfl rfl hg) Try.func22 (by kernel_rfl) rfl rfl #[.agg #[.int .i64 b.f0, .slice BI in'.length dI, .slice BN b.f2.length dN]] (by simp [Act.eval, h0]) ?_
          refine (steps_keep b in' HST.out BI dI BN dN w8 (Kd.C_below GBI.out hM.ext) HCAP.out.2.2.1 (Kd.C_below GBN.out hM.ext) HCAP.out.2.2.2 HINS2.out).mono ?_
          rintro e w9 ⟨rfl, b⟩
          exact ⟨_, rfl, _, rfl, rfl, b⟩
        · cases hi
          have hg : a.tmps.getD 84 undef = .bool false := hM.at_ 19 (by decide) (by kernel_rfl)
          have h0 := gdq _ _ _ (show a.tmps.getD 86 undef = .int .i64 (stepsS b.f1) from hM.at_ 21 (by decide) (by kernel_rfl))
          have h1 := gdq _ _ _ (show a.tmps.getD 88 undef = .int .i64 (stepsS b.f1) from hM.at_ 23 (by decide) (by kernel_rfl))
          refine RegInv.op_valueW (by rfl) (RegInv.wanted_of 84 rfl rfl hg) (v := .bool false) (w' := w8) ?_ ⟨_, rfl, rfl, Below.refl _ _⟩
          unfold execOp
          go_simp
        · cases hi
          have h0 := gdq _ _ _ (show a.tmps.getD 84 undef = .bool false from hM.at_ 19 (by decide) (by kernel_rfl))
          have h1 := gdq _ _ _ (show a.tmps.getD 89 undef = .bool false from hM.at_ 24 (by decide) (by kernel_rfl))
          refine RegInv.op_value (by rfl) rfl (v := .bool false) (w' := w8) ?_ ⟨_, rfl, rfl, Below.refl _ _⟩
          unfold execOp
          go_simp
        · cases hi
          have h0 := gdq _ _ _ (show a.tmps.getD 90 undef = .bool false from hM.at_ 25 (by decide) (by kernel_rfl))
          refine RegInv.op_value (by rfl) rfl (v := .bool false) (w' := w8) ?_ ⟨_, rfl, rfl, Below.refl _ _⟩
          unfold execOp
          go_simp
        · cases hi
          have hg : a.tmps.getD 91 undef = .bool false := hM.at_ 26 (by decide) (by kernel_rfl)
          have h0 := gdq _ _ _ (show a.tmps.getD 6 undef = .pointer (some ⟨g6, 0, none⟩) from hM.off 6 (by kernel_rfl))
          refine RegInv.op_valueW (by rfl) (RegInv.wanted_of 91 rfl rfl hg) (v := .pointer (some ⟨g6, 1, none⟩)) (w' := w8) ?_ ⟨_, rfl, rfl, Below.refl _ _⟩
          unfold execOp
          go_simp
        · cases hi
          have hg : a.tmps.getD 91 undef = .bool false := hM.at_ 26 (by decide) (by kernel_rfl)
          have h0 := gdq _ _ _ (show a.tmps.getD 92 undef = .pointer (some ⟨g6, 1, none⟩) from hM.at_ 27 (by decide) (by kernel_rfl))
          have y : w8.cell? ⟨g6, 1, none⟩ = some (.slice BI in'.length dI) := blk_cell K6' 1
          refine RegInv.op_valueW (by rfl) (RegInv.wanted_of 91 rfl rfl hg) (v := .slice BI in'.length dI) (w' := w8) ?_ ⟨_, rfl, rfl, Below.refl _ _⟩
          unfold execOp
          go_simp
        · cases hi
          have hg : a.tmps.getD 91 undef = .bool false := hM.at_ 26 (by decide) (by kernel_rfl)
          have h0 := gdq _ _ _ (show a.tmps.getD 93 undef = .slice BI in'.length dI from hM.at_ 28 (by decide) (by kernel_rfl))
          refine RegInv.op_valueW (by rfl) (RegInv.wanted_of 91 rfl rfl hg) (v := .int .i64 (in'.length : Int)) (w' := w8) ?_ ⟨_, rfl, rfl, Below.refl _ _⟩
          unfold execOp
          go_simp
        · cases hi
          have hg : a.tmps.getD 91 undef = .bool false := hM.at_ 26 (by decide) (by kernel_rfl)
          have h0 := gdq _ _ _ (show a.tmps.getD 5 undef = .pointer (some ⟨g5, 0, none⟩) from hM.off 5 (by kernel_rfl))
          refine RegInv.op_valueW (by rfl) (RegInv.wanted_of 91 rfl rfl hg) (v := .pointer (some ⟨g5, 1, none⟩)) (w' := w8) ?_ ⟨_, rfl, rfl, Below.refl _ _⟩
          unfold execOp
          go_simp
        · cases hi
          have hg : a.tmps.getD 91 undef = .bool false := hM.at_ 26 (by decide) (by kernel_rfl)
          have h0 := gdq _ _ _ (show a.tmps.getD 95 undef = .pointer (some ⟨g5, 1, none⟩) from hM.at_ 30 (by decide) (by kernel_rfl))
          have y : w8.cell? ⟨g5, 1, none⟩ = some (.slice AI b.f1.length cI) := blk_cell K5' 1
          refine RegInv.op_valueW (by rfl) (RegInv.wanted_of 91 rfl rfl hg) (v := .slice AI b.f1.length cI) (w' := w8) ?_ ⟨_, rfl, rfl, Below.refl _ _⟩
          unfold execOp
          go_simp
        · cases hi
          have hg : a.tmps.getD 91 undef = .bool false := hM.at_ 26 (by decide) (by kernel_rfl)
          have h0 := gdq _ _ _ (show a.tmps.getD 96 undef = .slice AI b.f1.length cI from hM.at_ 31 (by decide) (by kernel_rfl))
          refine RegInv.op_valueW (by rfl) (RegInv.wanted_of 91 rfl rfl hg) (v := .int .i64 (b.f1.length : Int)) (w' := w8) ?_ ⟨_, rfl, rfl, Below.refl _ _⟩
          unfold execOp
          go_simp
        · cases hi
          have hg : a.tmps.getD 91 undef = .bool false := hM.at_ 26 (by decide) (by kernel_rfl)
          have h0 := gdq _ _ _ (show a.tmps.getD 94 undef = .int .i64 (in'.length : Int) from hM.at_ 29 (by decide) (by kernel_rfl))
          have h1 := gdq _ _ _ (show a.tmps.getD 97 undef = .int .i64 (b.f1.length : Int) from hM.at_ 32 (by decide) (by kernel_rfl))
          have hle := HLE.out
          have hd : decide ((b.f1.length : Int) < (in'.length : Int)) = false := decide_eq_false (by omega)
          have hd2 : decide ((in'.length : Int) > (b.f1.length : Int)) = false := decide_eq_false (by omega)
          have hd3 : decide (b.f1.length < in'.length) = false := decide_eq_false (by omega)
          refine RegInv.op_valueW (by rfl) (RegInv.wanted_of 91 rfl rfl hg) (v := .bool false) (w' := w8) ?_ ⟨_, rfl, rfl, Below.refl _ _⟩
          unfold execOp
          go_simp
        · cases hi
          have h0 := gdq _ _ _ (show a.tmps.getD 91 undef = .bool false from hM.at_ 26 (by decide) (by kernel_rfl))
          have h1 := gdq _ _ _ (show a.tmps.getD 98 undef = .bool false from hM.at_ 33 (by decide) (by kernel_rfl))
          refine RegInv.op_value (by rfl) rfl (v := .bool false) (w' := w8) ?_ ⟨_, rfl, rfl, Below.refl _ _⟩
          unfold execOp
          go_simp
        · exact absurd hlt (by omega)
      intro vs wF bF hF
      have eL : vs 34 = .bool false := hF 34 (by omega)
      clear hF
      simp only [RegInv.puts, dK11, Act.put, List.range, List.range.loop, List.setIfInBounds_toArray, List.set_cons_zero, List.set_cons_succ]
      rw [eL]
      clear eL
      generalize vs 0 = t0
      generalize vs 1 = t1
      generalize vs 2 = t2
      generalize vs 3 = t3
      generalize vs 4 = t4
      generalize vs 5 = t5
      generalize vs 6 = t6
      generalize vs 7 = t7
      generalize vs 8 = t8
      generalize vs 9 = t9
      generalize vs 10 = t10
      generalize vs 11 = t11
      generalize vs 12 = t12
      generalize vs 13 = t13
      generalize vs 14 = t14
      generalize vs 15 = t15
      generalize vs 16 = t16
      generalize vs 17 = t17
      generalize vs 18 = t18
      generalize vs 19 = t19
      generalize vs 20 = t20
      generalize vs 21 = t21
      generalize vs 22 = t22
      generalize vs 23 = t23
      generalize vs 24 = t24
      generalize vs 25 = t25
      generalize vs 26 = t26
      generalize vs 27 = t27
      generalize vs 28 = t28
      generalize vs 29 = t29
      generalize vs 30 = t30
      generalize vs 31 = t31
      generalize vs 32 = t32
      generalize vs 33 = t33
      replace HBA := Aside0.mk (Lit.wB HBA.out bF)
      clear bF
      refine hK _ _ ?_
      clear hK
      go_wp2
      go_roundw
      case rel => exact ⟨i + 1, by omega, by go_num, HBA.out⟩
      case measure => simp [intOf]; omega
    · go_wp2
      go_ret
      exact ⟨rfl, Lit.wB HB.out hb⟩
end Go.Proofs.Ytjekpkpmoanadaa.PCop
