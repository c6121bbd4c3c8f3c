/- GraphAsks' contract. For every input of a length that memory can hold. -/
import Derived.Test.YtplppefpohjkbaaDomin
import Derived.Test.YtplppefpohjkbaaAll
import Derived.Test.YtplppefpohjkbaaPureAsks
import Derived.BigQuiet
import Derived.Deep.QuietTactic
namespace Go.Proofs.Ytplppefpohjkbaa.Ask
open Go.RowKit Go.Shelf Go.Proofs.Ytplppefpohjkbaa.PGr Go.Proofs.Ytplppefpohjkbaa.Lit Go.Proofs.Ytplppefpohjkbaa.OwnCells Go.Proofs.YtplppefpohjkbaaW.PrintWords Go.Proofs.YtplppefpohjkbaaW.PrintLast Go.Proofs.YtplppefpohjkbaaW.PrintMore
attribute [local go_sem] Oper.semAt_some
attribute [local go_sem] run_store_fn
attribute [local go_sem] run_eql_fn
set_option linter.unusedVariables false
set_option linter.unusedSimpArgs false
def dA6 : Nat → Option Tmp
  | 0 => some 31
  | 1 => some 32
  | 2 => some 33
  | 3 => some 34
  | 4 => some 35
  | 5 => some 36
  | 6 => some 37
  | 7 => some 38
  | 8 => some 39
  | 9 => some 40
  | 10 => some 41
  | 11 => some 42
  | 12 => some 43
  | 13 => some 44
  | 14 => some 45
  | 15 => some 46
  | 16 => some 47
  | 17 => some 48
  | _ => none
def FA6 (A0 A1 A2 A3 A4 : Option Addr) (c0 c1 c2 c3 c4 : Nat) (l0 : List Int) (l1 : List (List Int)) (l2 l l4 : List Int) (S : Option Addr) (cs : Nat) (I : Option Addr) (ci : Nat) (pc a b bl : Int) (dm : Bool) : Nat → World → Value → Prop
  | 0, _, v => v = .agg #[.slice S l0.length cs, .slice A1 l1.length c1, .slice A2 l2.length c2, .slice I l.length ci, .slice A4 l4.length c4]
  | 1, _, v => v = .int .i64 pc
  | 2, _, v => v = .int .i64 bl
  | 3, _, v => v = .agg #[.slice A0 l0.length c0, .slice A1 l1.length c1, .slice A2 l2.length c2, .slice A3 l.length c3, .slice A4 l4.length c4]
  | 4, _, v => v = .int .i64 pc
  | 5, _, v => v = .int .i64 bl
  | 6, _, v => v = .bool false
  | 7, _, v => v = .bool false
  | 8, _, v => v = .agg #[.slice S l0.length cs, .slice A1 l1.length c1, .slice A2 l2.length c2, .slice I l.length ci, .slice A4 l4.length c4]
  | 9, _, v => v = .int .i64 a
  | 10, _, v => v = .int .i64 b
  | 11, _, v => v = .bool dm
  | 12, _, v => v = .agg #[.slice A0 l0.length c0, .slice A1 l1.length c1, .slice A2 l2.length c2, .slice A3 l.length c3, .slice A4 l4.length c4]
  | 13, _, v => v = .int .i64 a
  | 14, _, v => v = .int .i64 b
  | 15, _, v => v = .bool dm
  | 16, _, v => v = .bool false
  | 17, _, v => v = .bool false
  | _, _, _ => True
theorem FA6_below (A0 A1 A2 A3 A4 : Option Addr) (c0 c1 c2 c3 c4 : Nat) (l0 : List Int) (l1 : List (List Int)) (l2 l l4 : List Int) (S : Option Addr) (cs : Nat) (I : Option Addr) (ci : Nat) (pc a b bl : Int) (dm : Bool) (i : Nat) (w w1 : World) (v : Value) (h : FA6 A0 A1 A2 A3 A4 c0 c1 c2 c3 c4 l0 l1 l2 l l4 S cs I ci pc a b bl dm i w v) (hb : Below w.heap.size w w1) : FA6 A0 A1 A2 A3 A4 c0 c1 c2 c3 c4 l0 l1 l2 l l4 S cs I ci pc a b bl dm i w1 v := by
  match i with
  | 0 | 1 | 2 | 3 | 4 | 5 | 6 | 7 | 8 | 9 | 10 | 11 | 12 | 13 | 14 | 15 | 16 | 17 => exact h
  | (n + 18) => exact h
def dA8 : Nat → Option Tmp
  | 0 => some 49
  | 1 => some 50
  | 2 => some 51
  | 3 => some 52
  | 4 => some 53
  | 5 => some 54
  | 6 => some 55
  | 7 => some 56
  | 8 => some 57
  | 9 => some 58
  | 10 => some 59
  | 11 => some 60
  | _ => none
def FA8 (A0 A1 A2 A3 A4 : Option Addr) (c0 c1 c2 c3 c4 : Nat) (l0 : List Int) (l1 : List (List Int)) (l2 l l4 : List Int) (S : Option Addr) (cs : Nat) (I : Option Addr) (ci : Nat) (b : Int) (g4 : Nat) (ds : List Int) : Nat → World → Value → Prop
  | 0, _, v => v = .agg #[.slice S l0.length cs, .slice A1 l1.length c1, .slice A2 l2.length c2, .slice I l.length ci, .slice A4 l4.length c4]
  | 1, _, v => v = .int .i64 b
  | 2, _, v => v = .pointer (some ⟨g4, 3, none⟩)
  | 3, _, v => v = .slice A3 l.length c3
  | 4, _, v => v = .int .i64 l.length
  | 5, _, v => v = .int .i64 (wrap64 (l.length + 1))
  | 6, w, v => Sl (Kd.int .i64) (ds) w v
  | 7, _, v => v = .agg #[.slice A0 l0.length c0, .slice A1 l1.length c1, .slice A2 l2.length c2, .slice A3 l.length c3, .slice A4 l4.length c4]
  | 8, _, v => v = .int .i64 b
  | 9, w, v => Sl (Kd.int .i64) (ds) w v
  | 10, _, v => v = .bool true
  | 11, _, v => v = .bool false
  | _, _, _ => True
theorem FA8_below (A0 A1 A2 A3 A4 : Option Addr) (c0 c1 c2 c3 c4 : Nat) (l0 : List Int) (l1 : List (List Int)) (l2 l l4 : List Int) (S : Option Addr) (cs : Nat) (I : Option Addr) (ci : Nat) (b : Int) (g4 : Nat) (ds : List Int) (i : Nat) (w w1 : World) (v : Value) (h : FA8 A0 A1 A2 A3 A4 c0 c1 c2 c3 c4 l0 l1 l2 l l4 S cs I ci b g4 ds i w v) (hb : Below w.heap.size w w1) : FA8 A0 A1 A2 A3 A4 c0 c1 c2 c3 c4 l0 l1 l2 l l4 S cs I ci b g4 ds i w1 v := by
  match i with
  | 0 | 1 | 2 | 3 | 4 | 5 | 7 | 8 | 10 | 11 => exact h
  | 6 | 9 => exact Sl.below h hb
  | (n + 12) => exact h
set_option maxRecDepth 100000 in
set_option maxHeartbeats 8000000 in
theorem portagelaw09_GraphAsks.calls (A0 : Option Addr) (c0 : Nat) (l0 : List Int) (A1 : Option Addr) (c1 : Nat) (l1 : List (List Int)) (A2 : Option Addr) (c2 : Nat) (l2 : List Int) (A3 : Option Addr) (c3 : Nat) (l : List Int) (A4 : Option Addr) (c4 : Nat) (l4 : List Int) (pc a b : Int) (r : Bool) (w : World) (hr0 : Kd.C (Kd.int .i64) w A0 l0.length l0) (hc0 : l0.length ≤ c0) (hr1 : Kd.C (Kd.slice 3 (Kd.int .i64)) w A1 l1.length l1) (hc1 : l1.length ≤ c1) (hr2 : Kd.C (Kd.int .i64) w A2 l2.length l2) (hc2 : l2.length ≤ c2) (hr3 : Kd.C (Kd.int .i64) w A3 l.length l) (hc3 : l.length ≤ c3) (hr4 : Kd.C (Kd.int .i64) w A4 l4.length l4) (hc4 : l4.length ≤ c4) (h : (l0.length * 8 ≤ 140737488351232 ∧ l.length * 8 ≤ 140737488351232) ∧ r = true) :
    Calls Try.prog 4 #[.agg #[.slice A0 l0.length c0, .slice A1 l1.length c1, .slice A2 l2.length c2, .slice A3 l.length c3, .slice A4 l4.length c4], .int .i64 pc, .int .i64 a, .int .i64 b] w fun e w' => e = .returned (.bool r) ∧ Below w.heap.size w w' := by
  obtain ⟨⟨hl0, hl⟩, rfl⟩ := h
  have HR0 := Aside0.mk hr0
  have HC0 := Aside0.mk hc0
  have HR1 := Aside0.mk hr1
  have HC1 := Aside0.mk hc1
  have HR2 := Aside0.mk hr2
  have HC2 := Aside0.mk hc2
  have HR3 := Aside0.mk hr3
  have HC3 := Aside0.mk hc3
  have HR4 := Aside0.mk hr4
  have HC4 := Aside0.mk hc4
  have HL0 := Aside0.mk hl0
  have HL := Aside0.mk hl
  clear hr0 hr1 hr2 hr3 hr4 hc0 hc1 hc2 hc3 hc4 hl0 hl
  go_enter Try.func4, Try.ntmps4
  go_wp2_with (fail)
  have hb1 := below_alloc (Below.refl _ w) (.cells #[.slice A0 l0.length c0, .slice A1 l1.length c1, .slice A2 l2.length c2, .slice A3 l.length c3, .slice A4 l4.length c4] 25)
  have G1 := blk_new w (.cells #[.slice A0 l0.length c0, .slice A1 l1.length c1, .slice A2 l2.length c2, .slice A3 l.length c3, .slice A4 l4.length c4] 25)
  refine (portagelaw09_marked.calls (l0.length + 65) A0 c0 l0 (l0 ++ marks 64) _ (Kd.C_below HR0.out hb1) HC0.out (marked_f l0 (by have := HL0.out; omega))).mono ?_
  rintro e w2 ⟨v, rfl, hR, hb2⟩
  obtain ⟨S, cs, rfl, hcs, hS⟩ := Kd.R_reads hR
  have G2 := blk_below G1 hb2
  have hB2 := hb1.trans (hb2.mono (by simp))
  have HS := Aside0.mk hS
  have q3 := blk_cell G2 3
  clear hR hS hb1 hb2 G1
  replace q3 : w2.cell? ⟨w.heap.size, 3, none⟩ = some (.slice A3 l.length c3) := q3
  go_wp2_with (fail)
  refine (portagelaw09_marked.calls (l.length + 65) A3 c3 l (l ++ marks 64) _ (Kd.C_below HR3.out hB2) HC3.out (marked_f l (by have := HL.out; omega))).mono ?_
  rintro e w3 ⟨v, rfl, hR, hb3⟩
  obtain ⟨I, ci, rfl, hci, hI⟩ := Kd.R_reads hR
  have G3 := blk_below G2 hb3
  have hB3 := hB2.trans (hb3.mono hB2.size)
  have HS3 := Aside0.mk (Kd.C_below HS.out hb3)
  have HI := Aside0.mk hI
  clear hR hI hb3 G2 q3 HS hB2
  have k0 : w3.cell? ⟨w.heap.size, 0, none⟩ = some (.slice A0 l0.length c0) := blk_cell G3 0
  have k1 : w3.cell? ⟨w.heap.size, 1, none⟩ = some (.slice A1 l1.length c1) := blk_cell G3 1
  have k2 : w3.cell? ⟨w.heap.size, 2, none⟩ = some (.slice A2 l2.length c2) := blk_cell G3 2
  have k3 : w3.cell? ⟨w.heap.size, 3, none⟩ = some (.slice A3 l.length c3) := blk_cell G3 3
  have k4 : w3.cell? ⟨w.heap.size, 4, none⟩ = some (.slice A4 l4.length c4) := blk_cell G3 4
  go_upto_region 4 with (fail)
  obtain ⟨w4, hw4⟩ : ∃ w4, w3.alloc (.cells #[.slice A0 l0.length c0, .slice A1 l1.length c1, .slice A2 l2.length c2, .slice A3 l.length c3, .slice A4 l4.length c4] 25) = w4 := ⟨_, rfl⟩
  have G11 : w4.heap[w3.heap.size]? = some (.cells #[.slice A0 l0.length c0, .slice A1 l1.length c1, .slice A2 l2.length c2, .slice A3 l.length c3, .slice A4 l4.length c4] 25 (0, 0)) := by rw [← hw4]; exact blk_new w3 _
  have hb4 : Below w3.heap.size w3 w4 := by rw [← hw4]; exact below_alloc (Below.refl _ w3) _
  have hs34 : w3.heap.size < w4.heap.size := by rw [← hw4]; simp
  rw [hw4]
  have G4 := blk_below G3 hb4
  obtain ⟨g11, hg11⟩ : ∃ g, w3.heap.size = g := ⟨_, rfl⟩
  rw [hg11] at G11 ⊢
  have hgg : w.heap.size < g11 := by rw [← hg11]; exact blk_lt G3
  have hB4 := hB3.trans (hb4.mono (by omega))
  have hSlt : ∀ ad, S = some ad → 0 < (l0 ++ marks 64).length → ad.block ≠ g11 := fun ad e hn => by
    have hc := HS3.out
    rw [e] at hc
    have := Kd.C_lt hc hn (by decide)
    omega
  have hIlt : ∀ ad, I = some ad → 0 < (l ++ marks 64).length → ad.block ≠ g11 := fun ad e hn => by
    have hc := HI.out
    rw [e] at hc
    have := Kd.C_lt hc hn (by decide)
    omega
  have HSL := Aside0.mk hSlt
  have HIL := Aside0.mk hIlt
  clear hSlt hIlt
  have HS4 := Aside0.mk (Kd.C_below HS3.out hb4)
  have HI4 := Aside0.mk (Kd.C_below HI.out hb4)
  rw [List.length_append] at hcs hci
  have hml : (marks 64).length = 64 := marks_len 64
  rw [hml] at hcs hci
  have HCS := Aside0.mk hcs
  have HCI := Aside0.mk hci
  have hcs' : l0.length ≤ cs := by omega
  have hci' : l.length ≤ ci := by omega
  clear hw4 hb4 G3 k0 k1 k2 k3 k4 HS3 HI hB3 hcs hci hml hg11 hs34
  have k0 : w4.cell? ⟨w.heap.size, 0, none⟩ = some (.slice A0 l0.length c0) := blk_cell G4 0
  have r0 : w4.cell? ⟨g11, 0, none⟩ = some (.slice A0 l0.length c0) := blk_cell G11 0
  have fr := blk_frozen G11 0
  go_upto_region 5 with (fail)
  obtain ⟨w5, hw5⟩ : ∃ w5, w4.setCell ⟨g11, 0, none⟩ (.slice S l0.length cs) = w5 := ⟨_, rfl⟩
  have G11b : w5.heap[g11]? = some (.cells #[.slice S l0.length cs, .slice A1 l1.length c1, .slice A2 l2.length c2, .slice A3 l.length c3, .slice A4 l4.length c4] 25 (0, 0)) := by rw [← hw5]; exact blk_put G11 0 _ rfl
  have G4b : w5.heap[w.heap.size]? = some (.cells #[.slice A0 l0.length c0, .slice A1 l1.length c1, .slice A2 l2.length c2, .slice A3 l.length c3, .slice A4 l4.length c4] 25 (0, 0)) := by rw [← hw5]; exact blk_far G4 (by simp; omega) _
  have hB5 : Below w.heap.size w w5 := by rw [← hw5]; exact hB4.setCell (by simp; omega) _
  rw [hw5]
  have HS5 : Aside0 ((Kd.int .i64).C w5 S (l0 ++ marks 64).length (l0 ++ marks 64)) := Aside0.mk (by rw [← hw5]; exact Kd.C_keep 0 HS4.out ((KeepBut.refl w4 g11 none).set_ 0 _) HSL.out)
  have HI5 : Aside0 ((Kd.int .i64).C w5 I (l ++ marks 64).length (l ++ marks 64)) := Aside0.mk (by rw [← hw5]; exact Kd.C_keep 0 HI4.out ((KeepBut.refl w4 g11 none).set_ 0 _) HIL.out)
  clear hw5 G4 G11 k0 r0 fr hB4 HS4 HI4
  have k3 : w5.cell? ⟨w.heap.size, 3, none⟩ = some (.slice A3 l.length c3) := blk_cell G4b 3
  have r3 : w5.cell? ⟨g11, 3, none⟩ = some (.slice A3 l.length c3) := blk_cell G11b 3
  have fr := blk_frozen G11b 3
  go_wp2_with (fail)
  obtain ⟨w6, hw6⟩ : ∃ w6, w5.setCell ⟨g11, 3, none⟩ (.slice I l.length ci) = w6 := ⟨_, rfl⟩
  have G11c : w6.heap[g11]? = some (.cells #[.slice S l0.length cs, .slice A1 l1.length c1, .slice A2 l2.length c2, .slice I l.length ci, .slice A4 l4.length c4] 25 (0, 0)) := by rw [← hw6]; exact blk_put G11b 3 _ rfl
  have G4c : w6.heap[w.heap.size]? = some (.cells #[.slice A0 l0.length c0, .slice A1 l1.length c1, .slice A2 l2.length c2, .slice A3 l.length c3, .slice A4 l4.length c4] 25 (0, 0)) := by rw [← hw6]; exact blk_far G4b (by simp; omega) _
  have hB6 : Below w.heap.size w w6 := by rw [← hw6]; exact hB5.setCell (by simp; omega) _
  have HS6 : Aside0 ((Kd.int .i64).C w6 S (l0 ++ marks 64).length (l0 ++ marks 64)) := Aside0.mk (by rw [← hw6]; exact Kd.C_keep 0 HS5.out ((KeepBut.refl w5 g11 none).set_ 3 _) HSL.out)
  have HI6 : Aside0 ((Kd.int .i64).C w6 I (l ++ marks 64).length (l ++ marks 64)) := Aside0.mk (by rw [← hw6]; exact Kd.C_keep 0 HI5.out ((KeepBut.refl w5 g11 none).set_ 3 _) HIL.out)
  have HS0 : Aside0 ((Kd.int .i64).C w6 S l0.length l0) := Aside0.mk (by
    have := Kd.C_take HS6.out (m := l0.length) (by simp)
    rw [List.take_left'] at this
    · exact this
    · rfl)
  have HI0 : Aside0 ((Kd.int .i64).C w6 I l.length l) := Aside0.mk (by
    have := Kd.C_take HI6.out (m := l.length) (by simp)
    rw [List.take_left'] at this
    · exact this
    · rfl)
  rw [hw6]
  have G4 := Aside0.mk G4c
  have G11 := Aside0.mk G11c
  have HB6 := Aside0.mk hB6
  clear hw6 G4b G11b k3 r3 fr hB5 HS5 HI5 G4c G11c hB6
  obtain ⟨bl, hbl⟩ : ∃ bl, blockAt pc (back l0 l0.length) = bl := ⟨_, rfl⟩
  obtain ⟨dm, hdm⟩ : ∃ dm, decide (a ∈ doms l l.length b) = dm := ⟨_, rfl⟩
  refine RegInv.region_facts (by kernel_rfl) (by kernel_rfl) (fun a b => Below a.heap.size a b) (fun a b c h k => h.trans (k.mono h.size)) (below_drew1 (Below.refl _ _)) dA6 18 (by kernel_rfl) (by kernel_rfl) (by kernel_rfl) (FA6 A0 A1 A2 A3 A4 c0 c1 c2 c3 c4 l0 l1 l2 l l4 S cs I ci pc a b bl dm) (FA6_below A0 A1 A2 A3 A4 c0 c1 c2 c3 c4 l0 l1 l2 l l4 S cs I ci pc a b bl dm) ?hsA6 ?heA6
  case hsA6 =>
    intro i o aX w8 hi hM
    have hltI : i < 18 := (Array.getElem?_eq_some_iff.1 hi).1
    have hExt := hM.ext
    have hw8 := HB6.out.trans (hExt.mono HB6.out.size)
    have q0 : w8.cell? ⟨w.heap.size, 0, none⟩ = some (.slice A0 l0.length c0) := blk_cell (blk_below G4.out hExt) 0
    have q1 : w8.cell? ⟨w.heap.size, 1, none⟩ = some (.slice A1 l1.length c1) := blk_cell (blk_below G4.out hExt) 1
    have q2 : w8.cell? ⟨w.heap.size, 2, none⟩ = some (.slice A2 l2.length c2) := blk_cell (blk_below G4.out hExt) 2
    have q3 : w8.cell? ⟨w.heap.size, 3, none⟩ = some (.slice A3 l.length c3) := blk_cell (blk_below G4.out hExt) 3
    have q4 : w8.cell? ⟨w.heap.size, 4, none⟩ = some (.slice A4 l4.length c4) := blk_cell (blk_below G4.out hExt) 4
    have r0 : w8.cell? ⟨g11, 0, none⟩ = some (.slice S l0.length cs) := blk_cell (blk_below G11.out hExt) 0
    have r1 : w8.cell? ⟨g11, 1, none⟩ = some (.slice A1 l1.length c1) := blk_cell (blk_below G11.out hExt) 1
    have r2 : w8.cell? ⟨g11, 2, none⟩ = some (.slice A2 l2.length c2) := blk_cell (blk_below G11.out hExt) 2
    have r3 : w8.cell? ⟨g11, 3, none⟩ = some (.slice I l.length ci) := blk_cell (blk_below G11.out hExt) 3
    have r4 : w8.cell? ⟨g11, 4, none⟩ = some (.slice A4 l4.length c4) := blk_cell (blk_below G11.out hExt) 4
    rcases i with _ | _ | _ | _ | _ | _ | _ | _ | _ | _ | _ | _ | _ | _ | _ | _ | _ | _ | i
    · cases hi
      have h11 := gdq _ _ _ (show aX.tmps.getD 11 undef = .pointer (some ⟨g11, 0, none⟩) from hM.off 11 (by kernel_rfl))
      refine RegInv.op_value (by rfl) rfl (v := .agg #[.slice S l0.length cs, .slice A1 l1.length c1, .slice A2 l2.length c2, .slice I l.length ci, .slice A4 l4.length c4]) (w' := w8) ?_ ⟨_, rfl, rfl, Below.refl _ _⟩
      unfold execOp
      go_simp
    · cases hi
      have h1 := gdq _ _ _ (show aX.tmps.getD 1 undef = .int .i64 pc from hM.off 1 (by kernel_rfl))
      refine RegInv.op_value (by rfl) rfl (v := .int .i64 pc) (w' := w8) ?_ ⟨_, rfl, rfl, Below.refl _ _⟩
      unfold execOp
      go_simp
    · cases hi
      have h31 := gdq _ _ _ (show aX.tmps.getD 31 undef = .agg #[.slice S l0.length cs, .slice A1 l1.length c1, .slice A2 l2.length c2, .slice I l.length ci, .slice A4 l4.length c4] from hM.at_ 0 (by decide) (by kernel_rfl))
      have h32 := gdq _ _ _ (show aX.tmps.getD 32 undef = .int .i64 pc from hM.at_ 1 (by decide) (by kernel_rfl))
      refine RegInv.op_call (by rfl) rfl Try.func11 (by kernel_rfl) rfl rfl #[.agg #[.slice S l0.length cs, .slice A1 l1.length c1, .slice A2 l2.length c2, .slice I l.length ci, .slice A4 l4.length c4], .int .i64 pc] (by simp [Act.eval, h31, h32]) ?_
      refine (block_calls S A1 A2 I A4 cs c1 c2 ci c4 l1.length l2.length l.length l4.length l0 pc w8 (Kd.C_below HS0.out hExt) (by have := HL0.out; omega)).mono ?_
      rintro e w9 ⟨rfl, b9⟩
      exact ⟨_, rfl, _, rfl, by rw [hbl]; rfl, b9⟩
    · cases hi
      have h4 := gdq _ _ _ (show aX.tmps.getD 4 undef = .pointer (some ⟨w.heap.size, 0, none⟩) from hM.off 4 (by kernel_rfl))
      refine RegInv.op_value (by rfl) rfl (v := .agg #[.slice A0 l0.length c0, .slice A1 l1.length c1, .slice A2 l2.length c2, .slice A3 l.length c3, .slice A4 l4.length c4]) (w' := w8) ?_ ⟨_, rfl, rfl, Below.refl _ _⟩
      unfold execOp
      go_simp
    · cases hi
      have h1 := gdq _ _ _ (show aX.tmps.getD 1 undef = .int .i64 pc from hM.off 1 (by kernel_rfl))
      refine RegInv.op_value (by rfl) rfl (v := .int .i64 pc) (w' := w8) ?_ ⟨_, rfl, rfl, Below.refl _ _⟩
      unfold execOp
      go_simp
    · cases hi
      have h34 := gdq _ _ _ (show aX.tmps.getD 34 undef = .agg #[.slice A0 l0.length c0, .slice A1 l1.length c1, .slice A2 l2.length c2, .slice A3 l.length c3, .slice A4 l4.length c4] from hM.at_ 3 (by decide) (by kernel_rfl))
      have h35 := gdq _ _ _ (show aX.tmps.getD 35 undef = .int .i64 pc from hM.at_ 4 (by decide) (by kernel_rfl))
      refine RegInv.op_call (by rfl) rfl Try.func12 (by kernel_rfl) rfl rfl #[.agg #[.slice A0 l0.length c0, .slice A1 l1.length c1, .slice A2 l2.length c2, .slice A3 l.length c3, .slice A4 l4.length c4], .int .i64 pc] (by simp [Act.eval, h34, h35]) ?_
      refine (portageref09_Block.calls (l0.length + 1) A0 c0 l0 A1 c1 l1 A2 c2 l2 A3 c3 l A4 c4 l4 pc bl w8 (Kd.C_below HR0.out hw8) HC0.out (Kd.C_below HR1.out hw8) HC1.out (Kd.C_below HR2.out hw8) HC2.out (Kd.C_below HR3.out hw8) HC3.out (Kd.C_below HR4.out hw8) HC4.out (by rw [← hbl]; exact ref_block pc l0 l1 l2 l l4 (by have := HL0.out; omega))).mono ?_
      rintro e w9 ⟨rfl, b9⟩
      exact ⟨_, rfl, _, rfl, rfl, b9⟩
    · cases hi
      have h33 := gdq _ _ _ (show aX.tmps.getD 33 undef = .int .i64 bl from hM.at_ 2 (by decide) (by kernel_rfl))
      have h36 := gdq _ _ _ (show aX.tmps.getD 36 undef = .int .i64 bl from hM.at_ 5 (by decide) (by kernel_rfl))
      refine RegInv.op_value (by rfl) rfl (v := .bool false) (w' := w8) ?_ ⟨_, rfl, rfl, Below.refl _ _⟩
      unfold execOp
      go_simp
    · cases hi
      have h37 := gdq _ _ _ (show aX.tmps.getD 37 undef = .bool false from hM.at_ 6 (by decide) (by kernel_rfl))
      refine RegInv.op_value (by rfl) rfl (v := .bool false) (w' := w8) ?_ ⟨_, rfl, rfl, Below.refl _ _⟩
      unfold execOp
      go_simp
    · cases hi
      have h11 := gdq _ _ _ (show aX.tmps.getD 11 undef = .pointer (some ⟨g11, 0, none⟩) from hM.off 11 (by kernel_rfl))
      have h38 := gdq _ _ _ (show aX.tmps.getD 38 undef = .bool false from hM.at_ 7 (by decide) (by kernel_rfl))
      have hg : aX.tmps.getD 38 undef = .bool false := hM.at_ 7 (by decide) (by kernel_rfl)
      refine RegInv.op_valueW (by rfl) (RegInv.wanted_of 38 rfl rfl hg) (v := .agg #[.slice S l0.length cs, .slice A1 l1.length c1, .slice A2 l2.length c2, .slice I l.length ci, .slice A4 l4.length c4]) (w' := w8) ?_ ⟨_, rfl, rfl, Below.refl _ _⟩
      unfold execOp
      go_simp
    · cases hi
      have h2 := gdq _ _ _ (show aX.tmps.getD 2 undef = .int .i64 a from hM.off 2 (by kernel_rfl))
      have h38 := gdq _ _ _ (show aX.tmps.getD 38 undef = .bool false from hM.at_ 7 (by decide) (by kernel_rfl))
      have hg : aX.tmps.getD 38 undef = .bool false := hM.at_ 7 (by decide) (by kernel_rfl)
      refine RegInv.op_valueW (by rfl) (RegInv.wanted_of 38 rfl rfl hg) (v := .int .i64 a) (w' := w8) ?_ ⟨_, rfl, rfl, Below.refl _ _⟩
      unfold execOp
      go_simp
    · cases hi
      have h3 := gdq _ _ _ (show aX.tmps.getD 3 undef = .int .i64 b from hM.off 3 (by kernel_rfl))
      have h38 := gdq _ _ _ (show aX.tmps.getD 38 undef = .bool false from hM.at_ 7 (by decide) (by kernel_rfl))
      have hg : aX.tmps.getD 38 undef = .bool false := hM.at_ 7 (by decide) (by kernel_rfl)
      refine RegInv.op_valueW (by rfl) (RegInv.wanted_of 38 rfl rfl hg) (v := .int .i64 b) (w' := w8) ?_ ⟨_, rfl, rfl, Below.refl _ _⟩
      unfold execOp
      go_simp
    · cases hi
      have h39 := gdq _ _ _ (show aX.tmps.getD 39 undef = .agg #[.slice S l0.length cs, .slice A1 l1.length c1, .slice A2 l2.length c2, .slice I l.length ci, .slice A4 l4.length c4] from hM.at_ 8 (by decide) (by kernel_rfl))
      have h40 := gdq _ _ _ (show aX.tmps.getD 40 undef = .int .i64 a from hM.at_ 9 (by decide) (by kernel_rfl))
      have h41 := gdq _ _ _ (show aX.tmps.getD 41 undef = .int .i64 b from hM.at_ 10 (by decide) (by kernel_rfl))
      have h38 := gdq _ _ _ (show aX.tmps.getD 38 undef = .bool false from hM.at_ 7 (by decide) (by kernel_rfl))
      have hg : aX.tmps.getD 38 undef = .bool false := hM.at_ 7 (by decide) (by kernel_rfl)
      refine RegInv.op_callW (by rfl) (RegInv.wanted_of 38 rfl rfl hg) Try.func13 (by kernel_rfl) rfl rfl #[.agg #[.slice S l0.length cs, .slice A1 l1.length c1, .slice A2 l2.length c2, .slice I l.length ci, .slice A4 l4.length c4], .int .i64 a, .int .i64 b] (by simp [Act.eval, h39, h40, h41, h38]) ?_
      refine (dominates_calls S A1 A2 I A4 cs c1 c2 ci c4 l0.length l1.length l2.length l4.length l a b w8 (Kd.C_below HI0.out hExt) (by have := HL.out; omega)).mono ?_
      rintro e w9 ⟨rfl, b9⟩
      exact ⟨_, rfl, _, rfl, by rw [hdm]; rfl, b9⟩
    · cases hi
      have h4 := gdq _ _ _ (show aX.tmps.getD 4 undef = .pointer (some ⟨w.heap.size, 0, none⟩) from hM.off 4 (by kernel_rfl))
      have h38 := gdq _ _ _ (show aX.tmps.getD 38 undef = .bool false from hM.at_ 7 (by decide) (by kernel_rfl))
      have hg : aX.tmps.getD 38 undef = .bool false := hM.at_ 7 (by decide) (by kernel_rfl)
      refine RegInv.op_valueW (by rfl) (RegInv.wanted_of 38 rfl rfl hg) (v := .agg #[.slice A0 l0.length c0, .slice A1 l1.length c1, .slice A2 l2.length c2, .slice A3 l.length c3, .slice A4 l4.length c4]) (w' := w8) ?_ ⟨_, rfl, rfl, Below.refl _ _⟩
      unfold execOp
      go_simp
    · cases hi
      have h2 := gdq _ _ _ (show aX.tmps.getD 2 undef = .int .i64 a from hM.off 2 (by kernel_rfl))
      have h38 := gdq _ _ _ (show aX.tmps.getD 38 undef = .bool false from hM.at_ 7 (by decide) (by kernel_rfl))
      have hg : aX.tmps.getD 38 undef = .bool false := hM.at_ 7 (by decide) (by kernel_rfl)
      refine RegInv.op_valueW (by rfl) (RegInv.wanted_of 38 rfl rfl hg) (v := .int .i64 a) (w' := w8) ?_ ⟨_, rfl, rfl, Below.refl _ _⟩
      unfold execOp
      go_simp
    · cases hi
      have h3 := gdq _ _ _ (show aX.tmps.getD 3 undef = .int .i64 b from hM.off 3 (by kernel_rfl))
      have h38 := gdq _ _ _ (show aX.tmps.getD 38 undef = .bool false from hM.at_ 7 (by decide) (by kernel_rfl))
      have hg : aX.tmps.getD 38 undef = .bool false := hM.at_ 7 (by decide) (by kernel_rfl)
      refine RegInv.op_valueW (by rfl) (RegInv.wanted_of 38 rfl rfl hg) (v := .int .i64 b) (w' := w8) ?_ ⟨_, rfl, rfl, Below.refl _ _⟩
      unfold execOp
      go_simp
    · cases hi
      have h43 := gdq _ _ _ (show aX.tmps.getD 43 undef = .agg #[.slice A0 l0.length c0, .slice A1 l1.length c1, .slice A2 l2.length c2, .slice A3 l.length c3, .slice A4 l4.length c4] from hM.at_ 12 (by decide) (by kernel_rfl))
      have h44 := gdq _ _ _ (show aX.tmps.getD 44 undef = .int .i64 a from hM.at_ 13 (by decide) (by kernel_rfl))
      have h45 := gdq _ _ _ (show aX.tmps.getD 45 undef = .int .i64 b from hM.at_ 14 (by decide) (by kernel_rfl))
      have h38 := gdq _ _ _ (show aX.tmps.getD 38 undef = .bool false from hM.at_ 7 (by decide) (by kernel_rfl))
      have hg : aX.tmps.getD 38 undef = .bool false := hM.at_ 7 (by decide) (by kernel_rfl)
      refine RegInv.op_callW (by rfl) (RegInv.wanted_of 38 rfl rfl hg) Try.func14 (by kernel_rfl) rfl rfl #[.agg #[.slice A0 l0.length c0, .slice A1 l1.length c1, .slice A2 l2.length c2, .slice A3 l.length c3, .slice A4 l4.length c4], .int .i64 a, .int .i64 b] (by simp [Act.eval, h43, h44, h45, h38]) ?_
      refine (portageref09_Dominates.calls (l.length + 1) A0 c0 l0 A1 c1 l1 A2 c2 l2 A3 c3 l A4 c4 l4 a b dm w8 (Kd.C_below HR0.out hw8) HC0.out (Kd.C_below HR1.out hw8) HC1.out (Kd.C_below HR2.out hw8) HC2.out (Kd.C_below HR3.out hw8) HC3.out (Kd.C_below HR4.out hw8) HC4.out (by rw [← hdm]; exact ref_domin a b l0 l1 l2 l l4 (by have := HL.out; omega))).mono ?_
      rintro e w9 ⟨rfl, b9⟩
      exact ⟨_, rfl, _, rfl, rfl, b9⟩
    · cases hi
      have h42 := gdq _ _ _ (show aX.tmps.getD 42 undef = .bool dm from hM.at_ 11 (by decide) (by kernel_rfl))
      have h46 := gdq _ _ _ (show aX.tmps.getD 46 undef = .bool dm from hM.at_ 15 (by decide) (by kernel_rfl))
      have h38 := gdq _ _ _ (show aX.tmps.getD 38 undef = .bool false from hM.at_ 7 (by decide) (by kernel_rfl))
      have hg : aX.tmps.getD 38 undef = .bool false := hM.at_ 7 (by decide) (by kernel_rfl)
      refine RegInv.op_valueW (by rfl) (RegInv.wanted_of 38 rfl rfl hg) (v := .bool false) (w' := w8) ?_ ⟨_, rfl, rfl, Below.refl _ _⟩
      unfold execOp
      go_simp
    · cases hi
      have h38 := gdq _ _ _ (show aX.tmps.getD 38 undef = .bool false from hM.at_ 7 (by decide) (by kernel_rfl))
      have h47 := gdq _ _ _ (show aX.tmps.getD 47 undef = .bool false from hM.at_ 16 (by decide) (by kernel_rfl))
      refine RegInv.op_value (by rfl) rfl (v := .bool false) (w' := w8) ?_ ⟨_, rfl, rfl, Below.refl _ _⟩
      unfold execOp
      go_simp
    · exact absurd hltI (by omega)
  case heA6 =>
    intro vs w8 hExt hvs
    have v0 : vs 0 = .agg #[.slice S l0.length cs, .slice A1 l1.length c1, .slice A2 l2.length c2, .slice I l.length ci, .slice A4 l4.length c4] := hvs 0 (by decide)
    have v1 : vs 1 = .int .i64 pc := hvs 1 (by decide)
    have v2 : vs 2 = .int .i64 bl := hvs 2 (by decide)
    have v3 : vs 3 = .agg #[.slice A0 l0.length c0, .slice A1 l1.length c1, .slice A2 l2.length c2, .slice A3 l.length c3, .slice A4 l4.length c4] := hvs 3 (by decide)
    have v4 : vs 4 = .int .i64 pc := hvs 4 (by decide)
    have v5 : vs 5 = .int .i64 bl := hvs 5 (by decide)
    have v6 : vs 6 = .bool false := hvs 6 (by decide)
    have v7 : vs 7 = .bool false := hvs 7 (by decide)
    have v8 : vs 8 = .agg #[.slice S l0.length cs, .slice A1 l1.length c1, .slice A2 l2.length c2, .slice I l.length ci, .slice A4 l4.length c4] := hvs 8 (by decide)
    have v9 : vs 9 = .int .i64 a := hvs 9 (by decide)
    have v10 : vs 10 = .int .i64 b := hvs 10 (by decide)
    have v11 : vs 11 = .bool dm := hvs 11 (by decide)
    have v12 : vs 12 = .agg #[.slice A0 l0.length c0, .slice A1 l1.length c1, .slice A2 l2.length c2, .slice A3 l.length c3, .slice A4 l4.length c4] := hvs 12 (by decide)
    have v13 : vs 13 = .int .i64 a := hvs 13 (by decide)
    have v14 : vs 14 = .int .i64 b := hvs 14 (by decide)
    have v15 : vs 15 = .bool dm := hvs 15 (by decide)
    have v16 : vs 16 = .bool false := hvs 16 (by decide)
    have v17 : vs 17 = .bool false := hvs 17 (by decide)
    simp only [RegInv.puts, dA6, Act.put, List.range, List.range.loop, List.setIfInBounds_toArray, List.set_cons_zero, List.set_cons_succ, v0, v1, v2, v3, v4, v5, v6, v7, v8, v9, v10, v11, v12, v13, v14, v15, v16, v17]
    clear hvs v0 v1 v2 v3 v4 v5 v6 v7 v8 v9 v10 v11 v12 v13 v14 v15 v16 v17
    replace HB6 := Aside0.mk (HB6.out.trans (hExt.mono HB6.out.size))
    replace G4 := Aside0.mk (blk_below G4.out hExt)
    replace G11 := Aside0.mk (blk_below G11.out hExt)
    replace HI0 := Aside0.mk (Kd.C_below HI0.out hExt)
    replace HS6 := Aside0.mk (Kd.C_below HS6.out hExt)
    replace HI6 := Aside0.mk (Kd.C_below HI6.out hExt)
    clear hExt HS0 hbl hdm
    obtain ⟨ds, hds⟩ : ∃ ds, doms l l.length b = ds := ⟨_, rfl⟩
    have HD : Aside0 (ds.length < 9223372036854775807) := Aside0.mk (by rw [← hds]; have := doms_len l l.length b; have := HL.out; omega)
    go_wp2_with (fail)
    refine RegInv.region_facts (by kernel_rfl) (by kernel_rfl) (fun a b => Below a.heap.size a b) (fun a b c h k => h.trans (k.mono h.size)) (below_drew1 (Below.refl _ _)) dA8 12 (by kernel_rfl) (by kernel_rfl) (by kernel_rfl) (FA8 A0 A1 A2 A3 A4 c0 c1 c2 c3 c4 l0 l1 l2 l l4 S cs I ci b w.heap.size ds) (FA8_below A0 A1 A2 A3 A4 c0 c1 c2 c3 c4 l0 l1 l2 l l4 S cs I ci b w.heap.size ds) ?hsA8 ?heA8
    case hsA8 =>
      intro i o aX w8 hi hM
      have hltI : i < 12 := (Array.getElem?_eq_some_iff.1 hi).1
      have hExt := hM.ext
      have hw8 := HB6.out.trans (hExt.mono HB6.out.size)
      have q0 : w8.cell? ⟨w.heap.size, 0, none⟩ = some (.slice A0 l0.length c0) := blk_cell (blk_below G4.out hExt) 0
      have q1 : w8.cell? ⟨w.heap.size, 1, none⟩ = some (.slice A1 l1.length c1) := blk_cell (blk_below G4.out hExt) 1
      have q2 : w8.cell? ⟨w.heap.size, 2, none⟩ = some (.slice A2 l2.length c2) := blk_cell (blk_below G4.out hExt) 2
      have q3 : w8.cell? ⟨w.heap.size, 3, none⟩ = some (.slice A3 l.length c3) := blk_cell (blk_below G4.out hExt) 3
      have q4 : w8.cell? ⟨w.heap.size, 4, none⟩ = some (.slice A4 l4.length c4) := blk_cell (blk_below G4.out hExt) 4
      have r0 : w8.cell? ⟨g11, 0, none⟩ = some (.slice S l0.length cs) := blk_cell (blk_below G11.out hExt) 0
      have r1 : w8.cell? ⟨g11, 1, none⟩ = some (.slice A1 l1.length c1) := blk_cell (blk_below G11.out hExt) 1
      have r2 : w8.cell? ⟨g11, 2, none⟩ = some (.slice A2 l2.length c2) := blk_cell (blk_below G11.out hExt) 2
      have r3 : w8.cell? ⟨g11, 3, none⟩ = some (.slice I l.length ci) := blk_cell (blk_below G11.out hExt) 3
      have r4 : w8.cell? ⟨g11, 4, none⟩ = some (.slice A4 l4.length c4) := blk_cell (blk_below G11.out hExt) 4
      rcases i with _ | _ | _ | _ | _ | _ | _ | _ | _ | _ | _ | _ | i
      · cases hi
        have h11 := gdq _ _ _ (show aX.tmps.getD 11 undef = .pointer (some ⟨g11, 0, none⟩) from hM.off 11 (by kernel_rfl))
        refine RegInv.op_value (by rfl) rfl (v := .agg #[.slice S l0.length cs, .slice A1 l1.length c1, .slice A2 l2.length c2, .slice I l.length ci, .slice A4 l4.length c4]) (w' := w8) ?_ ⟨_, rfl, rfl, Below.refl _ _⟩
        unfold execOp
        go_simp
      · cases hi
        have h3 := gdq _ _ _ (show aX.tmps.getD 3 undef = .int .i64 b from hM.off 3 (by kernel_rfl))
        refine RegInv.op_value (by rfl) rfl (v := .int .i64 b) (w' := w8) ?_ ⟨_, rfl, rfl, Below.refl _ _⟩
        unfold execOp
        go_simp
      · cases hi
        have h4 := gdq _ _ _ (show aX.tmps.getD 4 undef = .pointer (some ⟨w.heap.size, 0, none⟩) from hM.off 4 (by kernel_rfl))
        refine RegInv.op_value (by rfl) rfl (v := .pointer (some ⟨w.heap.size, 3, none⟩)) (w' := w8) ?_ ⟨_, rfl, rfl, Below.refl _ _⟩
        unfold execOp
        go_simp
      · cases hi
        have h51 := gdq _ _ _ (show aX.tmps.getD 51 undef = .pointer (some ⟨w.heap.size, 3, none⟩) from hM.at_ 2 (by decide) (by kernel_rfl))
        refine RegInv.op_value (by rfl) rfl (v := .slice A3 l.length c3) (w' := w8) ?_ ⟨_, rfl, rfl, Below.refl _ _⟩
        unfold execOp
        go_simp
      · cases hi
        have h52 := gdq _ _ _ (show aX.tmps.getD 52 undef = .slice A3 l.length c3 from hM.at_ 3 (by decide) (by kernel_rfl))
        refine RegInv.op_value (by rfl) rfl (v := .int .i64 l.length) (w' := w8) ?_ ⟨_, rfl, rfl, Below.refl _ _⟩
        unfold execOp
        go_simp
      · cases hi
        have h53 := gdq _ _ _ (show aX.tmps.getD 53 undef = .int .i64 l.length from hM.at_ 4 (by decide) (by kernel_rfl))
        refine RegInv.op_value (by rfl) rfl (v := .int .i64 (wrap64 (l.length + 1))) (w' := w8) ?_ ⟨_, rfl, rfl, Below.refl _ _⟩
        unfold execOp
        go_simp <;> (try exact i64_w _)
      · cases hi
        have h49 := gdq _ _ _ (show aX.tmps.getD 49 undef = .agg #[.slice S l0.length cs, .slice A1 l1.length c1, .slice A2 l2.length c2, .slice I l.length ci, .slice A4 l4.length c4] from hM.at_ 0 (by decide) (by kernel_rfl))
        have h50 := gdq _ _ _ (show aX.tmps.getD 50 undef = .int .i64 b from hM.at_ 1 (by decide) (by kernel_rfl))
        have h54 := gdq _ _ _ (show aX.tmps.getD 54 undef = .int .i64 (wrap64 (l.length + 1)) from hM.at_ 5 (by decide) (by kernel_rfl))
        refine RegInv.op_call (by rfl) rfl Try.func15 (by kernel_rfl) rfl rfl #[.agg #[.slice S l0.length cs, .slice A1 l1.length c1, .slice A2 l2.length c2, .slice I l.length ci, .slice A4 l4.length c4], .int .i64 b, .int .i64 (wrap64 (l.length + 1))] (by simp [Act.eval, h49, h50, h54]) ?_
        refine (all_calls S A1 A2 I A4 cs c1 c2 ci c4 l0.length l1.length l2.length l4.length l b (wrap64 (l.length + 1)) w8 (Kd.C_below HI0.out hExt) (by have := HL.out; omega) (by have := HL.out; unfold wrap64; omega)).mono ?_
        rintro e w9 ⟨v9, rfl, hR9, b9⟩
        exact ⟨_, rfl, _, rfl, by rw [hds] at hR9; exact Kd.R_reads hR9, b9⟩
      · cases hi
        have h4 := gdq _ _ _ (show aX.tmps.getD 4 undef = .pointer (some ⟨w.heap.size, 0, none⟩) from hM.off 4 (by kernel_rfl))
        refine RegInv.op_value (by rfl) rfl (v := .agg #[.slice A0 l0.length c0, .slice A1 l1.length c1, .slice A2 l2.length c2, .slice A3 l.length c3, .slice A4 l4.length c4]) (w' := w8) ?_ ⟨_, rfl, rfl, Below.refl _ _⟩
        unfold execOp
        go_simp
      · cases hi
        have h3 := gdq _ _ _ (show aX.tmps.getD 3 undef = .int .i64 b from hM.off 3 (by kernel_rfl))
        refine RegInv.op_value (by rfl) rfl (v := .int .i64 b) (w' := w8) ?_ ⟨_, rfl, rfl, Below.refl _ _⟩
        unfold execOp
        go_simp
      · cases hi
        have h56 := gdq _ _ _ (show aX.tmps.getD 56 undef = .agg #[.slice A0 l0.length c0, .slice A1 l1.length c1, .slice A2 l2.length c2, .slice A3 l.length c3, .slice A4 l4.length c4] from hM.at_ 7 (by decide) (by kernel_rfl))
        have h57 := gdq _ _ _ (show aX.tmps.getD 57 undef = .int .i64 b from hM.at_ 8 (by decide) (by kernel_rfl))
        refine RegInv.op_call (by rfl) rfl Try.func5 (by kernel_rfl) rfl rfl #[.agg #[.slice A0 l0.length c0, .slice A1 l1.length c1, .slice A2 l2.length c2, .slice A3 l.length c3, .slice A4 l4.length c4], .int .i64 b] (by simp [Act.eval, h56, h57]) ?_
        refine (portageref09_Doms.calls (l.length + 1) A0 c0 l0 A1 c1 l1 A2 c2 l2 A3 c3 l A4 c4 l4 b ds w8 (Kd.C_below HR0.out hw8) HC0.out (Kd.C_below HR1.out hw8) HC1.out (Kd.C_below HR2.out hw8) HC2.out (Kd.C_below HR3.out hw8) HC3.out (Kd.C_below HR4.out hw8) HC4.out (by rw [← hds]; exact want_f l l0 l1 l2 l4 b (by have := HL.out; omega))).mono ?_
        rintro e w9 ⟨v9, rfl, hR9, b9⟩
        exact ⟨_, rfl, _, rfl, Kd.R_reads hR9, b9⟩
      · cases hi
        obtain ⟨A55, e55, hv55, hl55, hC55⟩ : Sl (Kd.int .i64) (ds) w8 (aX.tmps.getD 55 undef) := hM.at_ 6 (by decide) (by kernel_rfl)
        replace hv55 := gdq _ _ _ hv55
        obtain ⟨A58, e58, hv58, hl58, hC58⟩ : Sl (Kd.int .i64) (ds) w8 (aX.tmps.getD 58 undef) := hM.at_ 9 (by decide) (by kernel_rfl)
        replace hv58 := gdq _ _ _ hv58
        refine RegInv.op_call (by rfl) rfl Try.func9 (by kernel_rfl) rfl rfl #[.slice A55 (ds).length e55, .slice A58 (ds).length e58] (by simp [Act.eval, hv55, hv58]) ?_
        refine (portageref0_SameInts.calls (ds.length + 1) A55 e55 ds A58 e58 ds true w8 hC55 hl55 hC58 hl58 (by rw [same_f ds ds HD.out]; simp)).mono ?_
        rintro e w9 ⟨rfl, b9⟩
        exact ⟨_, rfl, _, rfl, rfl, b9.below⟩
      · cases hi
        have h59 := gdq _ _ _ (show aX.tmps.getD 59 undef = .bool true from hM.at_ 10 (by decide) (by kernel_rfl))
        refine RegInv.op_value (by rfl) rfl (v := .bool false) (w' := w8) ?_ ⟨_, rfl, rfl, Below.refl _ _⟩
        unfold execOp
        go_simp
      · exact absurd hltI (by omega)
    case heA8 =>
      intro vs w8 hExt hvs
      have v0 : vs 0 = .agg #[.slice S l0.length cs, .slice A1 l1.length c1, .slice A2 l2.length c2, .slice I l.length ci, .slice A4 l4.length c4] := hvs 0 (by decide)
      have v1 : vs 1 = .int .i64 b := hvs 1 (by decide)
      have v2 : vs 2 = .pointer (some ⟨w.heap.size, 3, none⟩) := hvs 2 (by decide)
      have v3 : vs 3 = .slice A3 l.length c3 := hvs 3 (by decide)
      have v4 : vs 4 = .int .i64 l.length := hvs 4 (by decide)
      have v5 : vs 5 = .int .i64 (wrap64 (l.length + 1)) := hvs 5 (by decide)
      obtain ⟨A55, e55, v6, hl55, hC55⟩ : Sl (Kd.int .i64) (ds) w8 (vs 6) := hvs 6 (by decide)
      have v7 : vs 7 = .agg #[.slice A0 l0.length c0, .slice A1 l1.length c1, .slice A2 l2.length c2, .slice A3 l.length c3, .slice A4 l4.length c4] := hvs 7 (by decide)
      have v8 : vs 8 = .int .i64 b := hvs 8 (by decide)
      obtain ⟨A58, e58, v9, hl58, hC58⟩ : Sl (Kd.int .i64) (ds) w8 (vs 9) := hvs 9 (by decide)
      have v10 : vs 10 = .bool true := hvs 10 (by decide)
      have v11 : vs 11 = .bool false := hvs 11 (by decide)
      simp only [RegInv.puts, dA8, Act.put, List.range, List.range.loop, List.setIfInBounds_toArray, List.set_cons_zero, List.set_cons_succ, v0, v1, v2, v3, v4, v5, v6, v7, v8, v9, v10, v11]
      clear hvs v0 v1 v2 v3 v4 v5 v6 v7 v8 v9 v10 v11
      replace HB6 := Aside0.mk (HB6.out.trans (hExt.mono HB6.out.size))
      have hG4 := blk_below G4.out hExt
      replace HS6 := Aside0.mk (Kd.C_below HS6.out hExt)
      replace HI6 := Aside0.mk (Kd.C_below HI6.out hExt)
      clear hExt HI0 G4 G11 HD
      have k0 : w8.cell? ⟨w.heap.size, 0, none⟩ = some (.slice A0 l0.length c0) := blk_cell hG4 0
      go_wp2_with (fail)
      have hn0 : (l0 ++ marks 64).length = l0.length + (marks 64).length := List.length_append
      have hn1 : (l ++ marks 64).length = l.length + (marks 64).length := List.length_append
      have HN0 := Aside0.mk hn0
      have HN1 := Aside0.mk hn1
      clear hn0 hn1
      refine (portagelaw09_marked.calls (l0.length + 65) A0 c0 l0 (l0 ++ marks 64) _ (Kd.C_below HR0.out HB6.out) HC0.out (marked_f l0 (by have := HL0.out; omega))).mono ?_
      rintro e w9 ⟨v, rfl, hR, hb9⟩
      obtain ⟨T, ct, rfl, hct, hT⟩ := Kd.R_reads hR
      have hT' := Aside0.mk hT
      have hG9 := blk_below hG4 hb9
      replace HB6 := Aside0.mk (HB6.out.trans (hb9.mono HB6.out.size))
      replace HS6 := Aside0.mk (Kd.C_below HS6.out hb9)
      replace HI6 := Aside0.mk (Kd.C_below HI6.out hb9)
      clear hR hT hb9 k0 hG4
      go_wp2_with (fail)
      have hcs9 : (l0 ++ marks 64).length ≤ cs := by rw [HN0.out]; have := marks_len 64; have := HCS.out; omega
      have e1 := portageref0_SameInts.calls ((l0 ++ marks 64).length + 1) S cs (l0 ++ marks 64) T ct (l0 ++ marks 64) true w9 HS6.out hcs9 hT'.out hct (by rw [same_f _ _ (by rw [HN0.out]; have := marks_len 64; have := HL0.out; omega)]; simp)
      rw [HN0.out] at e1
      refine e1.mono ?_
      rintro e w10 ⟨rfl, hd⟩
      have hb10 := hd.below
      have hG10 := blk_below hG9 hb10
      replace HB6 := Aside0.mk (HB6.out.trans (hb10.mono HB6.out.size))
      replace HI6 := Aside0.mk (Kd.C_below HI6.out hb10)
      clear hd hb10 hG9 e1 hcs9 hct HS6
      have k3 : w10.cell? ⟨w.heap.size, 3, none⟩ = some (.slice A3 l.length c3) := blk_cell hG10 3
      go_wp2_with (fail)
      refine (portagelaw09_marked.calls (l.length + 65) A3 c3 l (l ++ marks 64) _ (Kd.C_below HR3.out HB6.out) HC3.out (marked_f l (by have := HL.out; omega))).mono ?_
      rintro e w11 ⟨v, rfl, hR, hb9⟩
      obtain ⟨T2, ct2, rfl, hct, hT⟩ := Kd.R_reads hR
      have hT2 := Aside0.mk hT
      replace HB6 := Aside0.mk (HB6.out.trans (hb9.mono HB6.out.size))
      replace HI6 := Aside0.mk (Kd.C_below HI6.out hb9)
      clear hR hT hb9 k3 hG10
      go_wp2_with (fail)
      have hci9 : (l ++ marks 64).length ≤ ci := by rw [HN1.out]; have := marks_len 64; have := HCI.out; omega
      have e1 := portageref0_SameInts.calls ((l ++ marks 64).length + 1) I ci (l ++ marks 64) T2 ct2 (l ++ marks 64) true w11 HI6.out hci9 hT2.out hct (by rw [same_f _ _ (by rw [HN1.out]; have := marks_len 64; have := HL.out; omega)]; simp)
      rw [HN1.out] at e1
      refine e1.mono ?_
      rintro e w12 ⟨rfl, hd⟩
      have hb10 := hd.below
      replace HB6 := Aside0.mk (HB6.out.trans (hb10.mono HB6.out.size))
      clear hd hb10 e1 hci9 hct HI6
      go_wp2_with (fail)
      go_ret
      exact ⟨rfl, HB6.out⟩
end Go.Proofs.Ytplppefpohjkbaa.Ask
