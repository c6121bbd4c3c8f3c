/- CopiesAgain's contract: what Run makes of what it answered is what it answered. For every code of a size that memory can hold. -/
import Derived.Test.YtjekpkpmoanadaaPure
import Derived.Test.YtjekpkpmoanadaaWorks
namespace Go.Proofs.Ytjekpkpmoanadaa.PCop
open Go.RowKit Go.Proofs.Ytjekpkpmoanadaa.Lit Go.Proofs.Ytjekpkpmoanadaa.OwnCells Go.Proofs.YtjekpkpmoanadaaW.PrintWords Go.Proofs.YtjekpkpmoanadaaW.PrintLast Go.Proofs.YtjekpkpmoanadaaW.PrintMore
set_option linter.unusedVariables false
set_option linter.unusedSimpArgs false
theorem smallX_of {x : S47} (h : OkX x) : SmallX' x := ⟨by have := h.args; omega, by have := h.exit; omega, fun s hs => by have := h.slots s hs; omega⟩
theorem smallB_of {l : List S43} (h : OkL l) : SmallB' l := ⟨by have := h.len; omega, fun b hb => ⟨by have := h.ins b hb; omega, by have := h.next b hb; omega⟩, fun b hb x hx => smallX_of (h.each b hb x hx)⟩
set_option maxHeartbeats 4000000 in
set_option maxRecDepth 100000 in
theorem portagelaw22_CopiesAgain.calls (a0 a1 : Int) (A : Option Addr) (c : Nat) (l : List S43) (r : Bool) (w : World) (hA : Kd.C k43 w A l.length l) (hl : l.length ≤ c) (h : OkL l ∧ r = true) :
    Calls Try.prog 4 #[.agg #[.int .i64 a0, .int .i64 a1, .slice A l.length c]] w fun e w' => e = .returned (.bool r) ∧ Below w.heap.size w w' := by
  obtain ⟨hok, rfl⟩ := h
  have hok2 := run_ok hok
  have HA := Aside0.mk hA
  have HOK := Aside0.mk hok
  have HOK2 := Aside0.mk hok2
  clear hA hok hok2 hl
  go_enter Try.func4, Try.ntmps4
  go_wp2_with (fail)
  have hb := bodies w (.cells #[.int .i64 a0, .int .i64 a1, .slice A l.length c] 24)
  have HB := Aside0.mk hb
  replace HA := Aside0.mk (Kd.C_below HA.out hb)
  clear hb
  generalize w.alloc (.cells #[.int .i64 a0, .int .i64 a1, .slice A l.length c] 24) = w1 at *
  refine (run_calls a0 a1 A c l w1 HA.out HOK.out).mono ?_
  rintro e w2 ⟨v, rfl, hr, hb⟩
  have HRR := Aside0.mk (run_again l)
  generalize runS l = m at *
  obtain ⟨P, d, rfl, _, hC⟩ := Kd.R_reads hr
  replace HB := Aside0.mk (wB HB.out hb)
  have HC := Aside0.mk hC
  clear hb hr hC
  go_upto_region 2 with (fail)
  have hb := bodies w2 (.cells #[.int .i64 a0, .int .i64 a1, .slice P m.length d] 24)
  have K3 := blk_new w2 (.cells #[.int .i64 a0, .int .i64 a1, .slice P m.length d] 24)
  replace HB := Aside0.mk (wB HB.out hb)
  replace HC := Aside0.mk (Kd.C_below HC.out hb)
  clear hb
  generalize w2.alloc (.cells #[.int .i64 a0, .int .i64 a1, .slice P m.length d] 24) = w3 at *
  generalize w2.heap.size = g3 at *
  have q0 : w3.cell? ⟨g3, 0, none⟩ = some (.int .i64 a0) := blk_cell K3 0
  have q1 : w3.cell? ⟨g3, 1, none⟩ = some (.int .i64 a1) := blk_cell K3 1
  have q2 : w3.cell? ⟨g3, 2, none⟩ = some (.slice P m.length d) := blk_cell K3 2
  have HK3 := Aside0.mk K3
  clear K3
  go_wp2_with (fail)
  refine (run_calls a0 a1 P d m w3 HC.out HOK2.out).mono ?_
  rintro e w4 ⟨v, rfl, hr, hb⟩
  rw [HRR.out] at hr
  obtain ⟨P2, d2, rfl, _, hC2⟩ := Kd.R_reads hr
  replace HB := Aside0.mk (wB HB.out hb)
  replace HC := Aside0.mk (Kd.C_below HC.out hb)
  replace HK3 := Aside0.mk (blk_below HK3.out hb)
  have HC2 := Aside0.mk hC2
  clear hb hr hC2 q0 q1 q2
  go_upto_region 3 with (fail)
  have hb := bodies w4 (.cells #[.int .i64 a0, .int .i64 a1, .slice P2 m.length d2] 24)
  have K4 := blk_new w4 (.cells #[.int .i64 a0, .int .i64 a1, .slice P2 m.length d2] 24)
  replace HB := Aside0.mk (wB HB.out hb)
  replace HC := Aside0.mk (Kd.C_below HC.out hb)
  replace HC2 := Aside0.mk (Kd.C_below HC2.out hb)
  replace HK3 := Aside0.mk (blk_below HK3.out hb)
  clear hb
  generalize w4.alloc (.cells #[.int .i64 a0, .int .i64 a1, .slice P2 m.length d2] 24) = w5 at *
  generalize w4.heap.size = g4 at *
  have HK4 := Aside0.mk K4
  clear K4
  go_wp2_with (fail)
  refine (works_calls w5).mono ?_
  rintro e w6 ⟨rfl, hb⟩
  replace HB := Aside0.mk (wB HB.out hb)
  replace HC := Aside0.mk (Kd.C_below HC.out hb)
  replace HC2 := Aside0.mk (Kd.C_below HC2.out hb)
  replace HK3 := Aside0.mk (blk_below HK3.out hb)
  replace HK4 := Aside0.mk (blk_below HK4.out hb)
  clear hb
  have q0 : w6.cell? ⟨g3, 0, none⟩ = some (.int .i64 a0) := blk_cell HK3.out 0
  have q1 : w6.cell? ⟨g3, 1, none⟩ = some (.int .i64 a1) := blk_cell HK3.out 1
  have q2 : w6.cell? ⟨g3, 2, none⟩ = some (.slice P m.length d) := blk_cell HK3.out 2
  have p0 : w6.cell? ⟨g4, 0, none⟩ = some (.int .i64 a0) := blk_cell HK4.out 0
  have p1 : w6.cell? ⟨g4, 1, none⟩ = some (.int .i64 a1) := blk_cell HK4.out 1
  have p2 : w6.cell? ⟨g4, 2, none⟩ = some (.slice P2 m.length d2) := blk_cell HK4.out 2
  go_wp2_with (fail)
  refine (same_regs a0 a1 P P2 d d2 m w6 HC.out HC2.out (smallB_of HOK2.out)).mono ?_
  rintro e w7 ⟨rfl, hb⟩
  replace HB := Aside0.mk (wB HB.out hb)
  clear hb
  go_wp2
  go_ret
  exact ⟨rfl, HB.out⟩
end Go.Proofs.Ytjekpkpmoanadaa.PCop
