/- Two codes that read the same are found the same (ints, operands, shapes, instructions, codes). For every world. -/
import Derived.Test.YtjekpkpmoanadaaPCopx0
import Derived.Test.YtjekpkpmoanadaaLit
import Derived.LoopTactic
import Derived.BigQuiet
import Derived.Deep.QuietTactic
namespace Go.Proofs.Ytjekpkpmoanadaa.PCop
open Go.RowKit Go.Proofs.Ytjekpkpmoanadaa.Lit Go.Proofs.YtjekpkpmoanadaaW.PrintWords Go.Proofs.YtjekpkpmoanadaaW.PrintLast Go.Proofs.YtjekpkpmoanadaaW.PrintMore
set_option linter.unusedVariables false
set_option linter.unusedSimpArgs false
theorem C_drewN' {α : Type} {d : Kd α} {w : World} {A : Option Addr} {n : Nat} {xs : List α} (h : d.C w A n xs) (m : Nat) : d.C (w.drewN m) A n xs := Kd.C_below h (pw_below_drewN (Below.refl _ _) m)
set_option maxHeartbeats 1000000 in
set_option maxRecDepth 100000 in
theorem same_ints (A B : Option Addr) (c d : Nat) (l : List Int) (w : World) (hA : (Kd.int .i64).C w A l.length l) (hB : (Kd.int .i64).C w B l.length l) (hl : l.length ≤ 17592186044416) :
    Calls Try.prog 21 #[.slice A l.length c, .slice B l.length d] w fun e w' => e = .returned (.bool true) ∧ ∃ m, w' = w.drewN m := by
  have HA := Aside0.mk hA
  have HB := Aside0.mk hB
  clear hA hB
  go_enter Try.func21, Try.ntmps21
  go_wp2
  go_loopw [5] (fun t wr => ∃ k : Nat, k ≤ l.length ∧ t = .int .i64 k ∧ ∃ m, wr = w.drewN m) (fun t _ => l.length - (intOf t).toNat)
  case atStart => exact ⟨0, Nat.zero_le _, rfl, 0, rfl⟩
  case round =>
    obtain ⟨k, hk, rfl, m, rfl⟩ := hrel
    by_cases hlt : k < l.length
    · obtain ⟨a, rfl, q0⟩ := Kd.at_int HA.out (k : Int) (by omega) (by omega)
      obtain ⟨b, rfl, q1⟩ := Kd.at_int HB.out (k : Int) (by omega) (by omega)
      rw [Int.toNat_natCast] at q0 q1
      go_wp2
      go_quiet (fail)
      go_wp2
      go_roundw
      case rel => exact ⟨k + 1, by omega, by go_num, _, rfl⟩
      case measure => simp [intOf]; omega
    · go_wp2
      go_ret
      exact ⟨rfl, m, rfl⟩
set_option maxHeartbeats 1000000 in
set_option maxRecDepth 100000 in
theorem same_opnds (A B : Option Addr) (c d : Nat) (l : List S49) (w : World) (hA : k49.C w A l.length l) (hB : k49.C w B l.length l) (hl : l.length ≤ 17592186044416) :
    Calls Try.prog 23 #[.slice A l.length c, .slice B l.length d] w fun e w' => e = .returned (.bool true) ∧ ∃ m, w' = w.drewN m := by
  have HA := Aside0.mk hA
  have HB := Aside0.mk hB
  clear hA hB
  go_enter Try.func23, Try.ntmps23
  go_wp2
  go_loopw [5] (fun t wr => ∃ k : Nat, k ≤ l.length ∧ t = .int .i64 k ∧ ∃ m, wr = w.drewN m) (fun t _ => l.length - (intOf t).toNat)
  case atStart => exact ⟨0, Nat.zero_le _, rfl, 0, rfl⟩
  case round =>
    obtain ⟨k, hk, rfl, m, rfl⟩ := hrel
    by_cases hlt : k < l.length
    · obtain ⟨a, rfl, q0, q1⟩ := at_T49 HA.out (k : Int) (by omega) (by omega)
      obtain ⟨b, rfl, q2, q3⟩ := at_T49 HB.out (k : Int) (by omega) (by omega)
      rw [Int.toNat_natCast] at q0 q1 q2 q3
      go_wp2
      go_quiet (fail)
      go_wp2
      go_roundw
      case rel => exact ⟨k + 1, by omega, by go_num, _, rfl⟩
      case measure => simp [intOf]; omega
    · go_wp2
      go_ret
      exact ⟨rfl, m, rfl⟩
set_option maxHeartbeats 2000000 in
set_option maxRecDepth 100000 in
theorem same_shapes (A B : Option Addr) (c d : Nat) (l : List S65) (w : World) (hA : k65.C w A l.length l) (hB : k65.C w B l.length l) (hl : l.length ≤ 17592186044416) (hs : ∀ s ∈ l, s.f2.length ≤ 17592186044416) :
    Calls Try.prog 47 #[.slice A l.length c, .slice B l.length d] w fun e w' => e = .returned (.bool true) ∧ ∃ m, w' = w.drewN m := by
  have HA := Aside0.mk hA
  have HB := Aside0.mk hB
  have HS := Aside0.mk hs
  clear hA hB hs
  go_enter Try.func47, Try.ntmps47
  go_wp2
  go_loopw [5] (fun t wr => ∃ k : Nat, k ≤ l.length ∧ t = .int .i64 k ∧ ∃ m, wr = w.drewN m) (fun t _ => l.length - (intOf t).toNat)
  case atStart => exact ⟨0, Nat.zero_le _, rfl, 0, rfl⟩
  case round =>
    obtain ⟨k, hk, rfl, m, hm⟩ := hrel
    have HM := Aside0.mk hm
    have HA1 := Aside0.mk (show k65.C wr A l.length l from hm ▸ C_drewN' HA.out m)
    have HB1 := Aside0.mk (show k65.C wr B l.length l from hm ▸ C_drewN' HB.out m)
    clear hm
    by_cases hlt : k < l.length
    · obtain ⟨a, A2, c2, rfl, q0, q1, q2, _, g0⟩ := at_T65 HA1.out (k : Int) (by omega) (by omega)
      obtain ⟨b, B2, d2, rfl, r0, r1, r2, _, g1⟩ := at_T65 HB1.out (k : Int) (by omega) (by omega)
      have hrd : rd_T65 l (k : Int) ∈ l := by
        unfold rd_T65
        rw [Int.toNat_natCast, List.getD_eq_getElem?_getD, List.getElem?_eq_getElem hlt]
        exact List.getElem_mem hlt
      have hx := HS.out _ hrd
      rw [Int.toNat_natCast] at q0 q1 q2 r0 r1 r2
      generalize rd_T65 l (k : Int) = x at q0 q1 q2 r0 r1 r2 g0 g1 hx hrd
      have G0 := Aside0.mk g0
      have G1 := Aside0.mk g1
      have HX := Aside0.mk hx
      clear g0 g1 hrd hx
      go_wp2
      go_quiet ((go_at_call 23; exact Calls.quiet_of (same_opnds _ _ _ _ x.f2 _ (C_drewN' G0.out _) (C_drewN' G1.out _) HX.out)))
      go_wp2
      go_roundw
      case rel => exact ⟨k + 1, by omega, by go_num, _, by rw [HM.out]; exact World.drewN_drewN _ _ _⟩
      case measure => simp [intOf]; omega
    · go_wp2
      go_ret
      exact ⟨rfl, m, HM.out⟩
set_option maxHeartbeats 2000000 in
set_option maxRecDepth 100000 in
theorem same_ins (x : S47) (A B E F : Option Addr) (c d e f : Nat) (w : World) (hA : k49.C w A x.f3.length x.f3) (hB : k49.C w B x.f3.length x.f3) (hE : k65.C w E x.f7.length x.f7) (hF : k65.C w F x.f7.length x.f7) (h3 : x.f3.length ≤ 17592186044416) (h7 : x.f7.length ≤ 17592186044416) (hs : ∀ s ∈ x.f7, s.f2.length ≤ 17592186044416) :
    Calls Try.prog 30 #[.agg #[.int .i64 x.f0, .int .i64 x.f1, .int .i64 x.f2, .slice A x.f3.length c, .int .i64 x.f4, .int .i64 x.f5, .int .i64 x.f6, .slice E x.f7.length e], .agg #[.int .i64 x.f0, .int .i64 x.f1, .int .i64 x.f2, .slice B x.f3.length d, .int .i64 x.f4, .int .i64 x.f5, .int .i64 x.f6, .slice F x.f7.length f]] w fun e w' => e = .returned (.bool true) ∧ Below w.heap.size w w' := by
  have HA := Aside0.mk hA
  have HB := Aside0.mk hB
  have HE := Aside0.mk hE
  have HF := Aside0.mk hF
  have HS := Aside0.mk hs
  have H3 := Aside0.mk h3
  have H7 := Aside0.mk h7
  clear hA hB hE hF hs h3 h7
  go_enter Try.func30, Try.ntmps30
  go_upto_region 1 with (fail)
  have b1 := e4 w (.cells #[.int .i64 x.f0, .int .i64 x.f1, .int .i64 x.f2, .slice A x.f3.length c, .int .i64 x.f4, .int .i64 x.f5, .int .i64 x.f6, .slice E x.f7.length e] 47) (.cells #[.int .i64 x.f0, .int .i64 x.f1, .int .i64 x.f2, .slice B x.f3.length d, .int .i64 x.f4, .int .i64 x.f5, .int .i64 x.f6, .slice F x.f7.length f] 47)
  have K0 := blk_alloc (blk_new w (.cells #[.int .i64 x.f0, .int .i64 x.f1, .int .i64 x.f2, .slice A x.f3.length c, .int .i64 x.f4, .int .i64 x.f5, .int .i64 x.f6, .slice E x.f7.length e] 47)) (.cells #[.int .i64 x.f0, .int .i64 x.f1, .int .i64 x.f2, .slice B x.f3.length d, .int .i64 x.f4, .int .i64 x.f5, .int .i64 x.f6, .slice F x.f7.length f] 47)
  have K1 := blk_new (w.alloc (.cells #[.int .i64 x.f0, .int .i64 x.f1, .int .i64 x.f2, .slice A x.f3.length c, .int .i64 x.f4, .int .i64 x.f5, .int .i64 x.f6, .slice E x.f7.length e] 47)) (.cells #[.int .i64 x.f0, .int .i64 x.f1, .int .i64 x.f2, .slice B x.f3.length d, .int .i64 x.f4, .int .i64 x.f5, .int .i64 x.f6, .slice F x.f7.length f] 47)
  rw [World.size_alloc] at K1
  generalize (w.alloc (.cells #[.int .i64 x.f0, .int .i64 x.f1, .int .i64 x.f2, .slice A x.f3.length c, .int .i64 x.f4, .int .i64 x.f5, .int .i64 x.f6, .slice E x.f7.length e] 47)).alloc (.cells #[.int .i64 x.f0, .int .i64 x.f1, .int .i64 x.f2, .slice B x.f3.length d, .int .i64 x.f4, .int .i64 x.f5, .int .i64 x.f6, .slice F x.f7.length f] 47) = w1 at b1 K0 K1 ⊢
  generalize w.heap.size + 1 = g1 at K1 ⊢
  have HW := Aside0.mk b1
  generalize w.heap.size = g0 at K0 ⊢
  replace HA := Aside0.mk (Kd.C_below HA.out b1)
  replace HB := Aside0.mk (Kd.C_below HB.out b1)
  replace HE := Aside0.mk (Kd.C_below HE.out b1)
  replace HF := Aside0.mk (Kd.C_below HF.out b1)
  clear b1
  have q0_0 : w1.cell? ⟨g0, 0, none⟩ = some (.int .i64 x.f0) := blk_cell K0 0
  have q0_1 : w1.cell? ⟨g0, 1, none⟩ = some (.int .i64 x.f1) := blk_cell K0 1
  have q0_2 : w1.cell? ⟨g0, 2, none⟩ = some (.int .i64 x.f2) := blk_cell K0 2
  have q0_3 : w1.cell? ⟨g0, 3, none⟩ = some (.slice A x.f3.length c) := blk_cell K0 3
  have q0_4 : w1.cell? ⟨g0, 4, none⟩ = some (.int .i64 x.f4) := blk_cell K0 4
  have q0_5 : w1.cell? ⟨g0, 5, none⟩ = some (.int .i64 x.f5) := blk_cell K0 5
  have q0_6 : w1.cell? ⟨g0, 6, none⟩ = some (.int .i64 x.f6) := blk_cell K0 6
  have q0_7 : w1.cell? ⟨g0, 7, none⟩ = some (.slice E x.f7.length e) := blk_cell K0 7
  have q1_0 : w1.cell? ⟨g1, 0, none⟩ = some (.int .i64 x.f0) := blk_cell K1 0
  have q1_1 : w1.cell? ⟨g1, 1, none⟩ = some (.int .i64 x.f1) := blk_cell K1 1
  have q1_2 : w1.cell? ⟨g1, 2, none⟩ = some (.int .i64 x.f2) := blk_cell K1 2
  have q1_3 : w1.cell? ⟨g1, 3, none⟩ = some (.slice B x.f3.length d) := blk_cell K1 3
  have q1_4 : w1.cell? ⟨g1, 4, none⟩ = some (.int .i64 x.f4) := blk_cell K1 4
  have q1_5 : w1.cell? ⟨g1, 5, none⟩ = some (.int .i64 x.f5) := blk_cell K1 5
  have q1_6 : w1.cell? ⟨g1, 6, none⟩ = some (.int .i64 x.f6) := blk_cell K1 6
  have q1_7 : w1.cell? ⟨g1, 7, none⟩ = some (.slice F x.f7.length f) := blk_cell K1 7
  clear K0 K1
  go_wp2_with (fail)
  refine (same_opnds A B c d x.f3 w1 HA.out HB.out H3.out).mono ?_
  rintro ee w2 ⟨rfl, m, rfl⟩
  go_wp2_with (fail)
  refine (same_shapes E F e f x.f7 _ (C_drewN' HE.out m) (C_drewN' HF.out m) H7.out HS.out).mono ?_
  rintro ee w2 ⟨rfl, m2, rfl⟩
  go_wp2_with (fail)
  go_ret
  exact ⟨rfl, wB HW.out (pw_below_drewN (Below.refl _ _) (m + m2))⟩
def dSR : Nat → Option Tmp
  | 0 => some 76
  | 1 => some 77
  | 2 => some 78
  | 3 => some 79
  | 4 => some 80
  | 5 => some 81
  | 6 => some 82
  | 7 => some 83
  | 8 => some 84
  | 9 => some 85
  | 10 => some 86
  | 11 => some 87
  | _ => none
def FSR (x : S47) (g6 g7 k : Nat) (A6 A7 : Option Addr) (c6 c7 n : Nat) (a7 b7 : Addr) (A B E F : Option Addr) (c d e f : Nat) : Nat → World → Value → Prop
  | 0, _, v => v = .pointer (some ⟨g6, 1, none⟩)
  | 1, _, v => v = .slice A6 n c6
  | 2, _, v => v = .int .i64 (k : Int)
  | 3, _, v => v = .pointer (some a7)
  | 4, _, v => v = .agg #[.int .i64 x.f0, .int .i64 x.f1, .int .i64 x.f2, .slice A x.f3.length c, .int .i64 x.f4, .int .i64 x.f5, .int .i64 x.f6, .slice E x.f7.length e]
  | 5, _, v => v = .pointer (some ⟨g7, 1, none⟩)
  | 6, _, v => v = .slice A7 n c7
  | 7, _, v => v = .int .i64 (k : Int)
  | 8, _, v => v = .pointer (some b7)
  | 9, _, v => v = .agg #[.int .i64 x.f0, .int .i64 x.f1, .int .i64 x.f2, .slice B x.f3.length d, .int .i64 x.f4, .int .i64 x.f5, .int .i64 x.f6, .slice F x.f7.length f]
  | 10, _, v => v = .bool true
  | 11, _, v => v = .bool false
  | _, _, _ => True
theorem FSR_below (x : S47) (g6 g7 k : Nat) (A6 A7 : Option Addr) (c6 c7 n : Nat) (a7 b7 : Addr) (A B E F : Option Addr) (c d e f : Nat) (i : Nat) (w w1 : World) (v : Value) (h : FSR x  g6 g7 k  A6 A7  c6 c7 n  a7 b7  A B E F  c d e f  i w v) (hb : Below w.heap.size w w1) : FSR x  g6 g7 k  A6 A7  c6 c7 n  a7 b7  A B E F  c d e f  i w1 v := by
  match i with
  | 0 | 1 | 2 | 3 | 4 | 5 | 6 | 7 | 8 | 9 | 10 | 11 => exact h
  | (n + 12) => exact h
structure SmallX' (x : S47) : Prop where
  args : x.f3.length ≤ 17592186044416
  exit : x.f7.length ≤ 17592186044416
  slots : ∀ s ∈ x.f7, s.f2.length ≤ 17592186044416
structure SmallB' (l : List S43) : Prop where
  len : l.length ≤ 17592186044416
  ins : ∀ b ∈ l, b.f1.length ≤ 17592186044416 ∧ b.f2.length ≤ 17592186044416
  each : ∀ b ∈ l, ∀ x ∈ b.f1, SmallX' x
theorem rd_mem43 {l : List S43} {k : Nat} (h : k < l.length) : rd_T43 l (k : Int) ∈ l := by
  unfold rd_T43
  rw [Int.toNat_natCast, List.getD_eq_getElem?_getD, List.getElem?_eq_getElem h]
  exact List.getElem_mem h
theorem rd_mem47 {l : List S47} {k : Nat} (h : k < l.length) : rd_T47 l (k : Int) ∈ l := by
  unfold rd_T47
  rw [Int.toNat_natCast, List.getD_eq_getElem?_getD, List.getElem?_eq_getElem h]
  exact List.getElem_mem h
set_option maxHeartbeats 4000000 in
set_option maxRecDepth 100000 in
theorem same_regs (u v : Int) (A B : Option Addr) (c d : Nat) (l : List S43) (w : World) (hA : k43.C w A l.length l) (hB : k43.C w B l.length l) (hs : SmallB' l) :
    Calls Try.prog 12 #[.agg #[.int .i64 u, .int .i64 v, .slice A l.length c], .agg #[.int .i64 u, .int .i64 v, .slice B l.length d]] w fun e w' => e = .returned (.bool true) ∧ Below w.heap.size w w' := by
  have HA := Aside0.mk hA
  have HB := Aside0.mk hB
  have HS := Aside0.mk hs
  have hlen := hs.len
  clear hA hB hs
  go_enter Try.func12, Try.ntmps12
  go_upto_region 1 with (fail)
  have b1 := e4 w (.cells #[.int .i64 u, .int .i64 v, .slice A l.length c] 24) (.cells #[.int .i64 u, .int .i64 v, .slice B l.length d] 24)
  have K0 := blk_alloc (blk_new w (.cells #[.int .i64 u, .int .i64 v, .slice A l.length c] 24)) (.cells #[.int .i64 u, .int .i64 v, .slice B l.length d] 24)
  have K1 := blk_new (w.alloc (.cells #[.int .i64 u, .int .i64 v, .slice A l.length c] 24)) (.cells #[.int .i64 u, .int .i64 v, .slice B l.length d] 24)
  rw [World.size_alloc] at K1
  generalize (w.alloc (.cells #[.int .i64 u, .int .i64 v, .slice A l.length c] 24)).alloc (.cells #[.int .i64 u, .int .i64 v, .slice B l.length d] 24) = w1 at b1 K0 K1 ⊢
  generalize w.heap.size + 1 = g1 at K1 ⊢
  have HW := Aside0.mk b1
  generalize w.heap.size = g0 at K0 ⊢
  replace HA := Aside0.mk (Kd.C_below HA.out b1)
  replace HB := Aside0.mk (Kd.C_below HB.out b1)
  clear b1
  have q0 : w1.cell? ⟨g0, 0, none⟩ = some (.int .i64 u) := blk_cell K0 0
  have q1 : w1.cell? ⟨g0, 1, none⟩ = some (.int .i64 v) := blk_cell K0 1
  have q2 : w1.cell? ⟨g0, 2, none⟩ = some (.slice A l.length c) := blk_cell K0 2
  have r0 : w1.cell? ⟨g1, 0, none⟩ = some (.int .i64 u) := blk_cell K1 0
  have r1 : w1.cell? ⟨g1, 1, none⟩ = some (.int .i64 v) := blk_cell K1 1
  have r2 : w1.cell? ⟨g1, 2, none⟩ = some (.slice B l.length d) := blk_cell K1 2
  replace K0 := Aside0.mk K0
  replace K1 := Aside0.mk K1
  go_wp2
  clear q0 q1 q2 r0 r1 r2
  go_loopw [5, 6, 7, 8] (fun t _ _ _ wr => ∃ k : Nat, k ≤ l.length ∧ t = .int .i64 k ∧ Below w1.heap.size w1 wr) (fun t _ _ _ _ => l.length - (intOf t).toNat)
  case atStart => exact ⟨0, Nat.zero_le _, rfl, Below.refl _ _⟩
  case round =>
    obtain ⟨k, hk, rfl, hb⟩ := hrel
    have q2 : wr.cell? ⟨g0, 2, none⟩ = some (.slice A l.length c) := blk_cell (blk_below K0.out hb) 2
    have r2 : wr.cell? ⟨g1, 2, none⟩ = some (.slice B l.length d) := blk_cell (blk_below K1.out hb) 2
    by_cases hlt : k < l.length
    · obtain ⟨a, A1, c1, A2, c2, rfl, x0, x1, x2, _, g65, _, gI⟩ := at_T43 (Kd.C_below HA.out hb) (k : Int) (by omega) (by omega)
      obtain ⟨b, B1, d1, B2, d2, rfl, y0, y1, y2, _, h65, _, hI⟩ := at_T43 (Kd.C_below HB.out hb) (k : Int) (by omega) (by omega)
      have hm := rd_mem43 hlt
      have hins := HS.out.ins _ hm
      have heach := HS.out.each _ hm
      rw [Int.toNat_natCast] at x0 x1 x2 y0 y1 y2
      generalize rd_T43 l (k : Int) = bl at x0 x1 x2 y0 y1 y2 g65 h65 gI hI hins heach hm
      have HB0 := Aside0.mk hb
      have G65 := Aside0.mk g65
      have H65 := Aside0.mk h65
      have GI := Aside0.mk gI
      have HI := Aside0.mk hI
      have HN := Aside0.mk hins
      have HEACH := Aside0.mk heach
      clear hb g65 h65 gI hI hins heach hm
      go_upto_region 7 with (fail)
      have b3 := below_alloc (Below.refl _ wr) (.cells #[.int .i64 bl.f0, .slice A1 bl.f1.length c1, .slice A2 bl.f2.length c2] 43)
      have KN := blk_new wr (.cells #[.int .i64 bl.f0, .slice A1 bl.f1.length c1, .slice A2 bl.f2.length c2] 43)
      replace x0 := pw_cell_below b3 x0
      replace x1 := pw_cell_below b3 x1
      replace x2 := pw_cell_below b3 x2
      replace y0 := pw_cell_below b3 y0
      replace y1 := pw_cell_below b3 y1
      replace y2 := pw_cell_below b3 y2
      replace q2 := pw_cell_below b3 q2
      replace r2 := pw_cell_below b3 r2
      replace G65 := Aside0.mk (Kd.C_below G65.out b3)
      replace H65 := Aside0.mk (Kd.C_below H65.out b3)
      replace GI := Aside0.mk (Kd.C_below GI.out b3)
      replace HI := Aside0.mk (Kd.C_below HI.out b3)
      replace HB0 := Aside0.mk (wB HB0.out b3)
      clear b3
      generalize wr.alloc (.cells #[.int .i64 bl.f0, .slice A1 bl.f1.length c1, .slice A2 bl.f2.length c2] 43) = wx1 at *
      generalize wr.heap.size = g6 at KN ⊢
      have K6 := Aside0.mk KN
      clear KN
      go_upto_region 8 with (fail)
      have b3 := below_alloc (Below.refl _ wx1) (.cells #[.int .i64 bl.f0, .slice B1 bl.f1.length d1, .slice B2 bl.f2.length d2] 43)
      have KN := blk_new wx1 (.cells #[.int .i64 bl.f0, .slice B1 bl.f1.length d1, .slice B2 bl.f2.length d2] 43)
      replace x0 := pw_cell_below b3 x0
      replace x1 := pw_cell_below b3 x1
      replace x2 := pw_cell_below b3 x2
      replace y0 := pw_cell_below b3 y0
      replace y1 := pw_cell_below b3 y1
      replace y2 := pw_cell_below b3 y2
      replace q2 := pw_cell_below b3 q2
      replace r2 := pw_cell_below b3 r2
      replace G65 := Aside0.mk (Kd.C_below G65.out b3)
      replace H65 := Aside0.mk (Kd.C_below H65.out b3)
      replace GI := Aside0.mk (Kd.C_below GI.out b3)
      replace HI := Aside0.mk (Kd.C_below HI.out b3)
      replace K6 := Aside0.mk (blk_below K6.out b3)
      replace HB0 := Aside0.mk (wB HB0.out b3)
      clear b3
      generalize wx1.alloc (.cells #[.int .i64 bl.f0, .slice B1 bl.f1.length d1, .slice B2 bl.f2.length d2] 43) = wx2 at *
      generalize wx1.heap.size = g7 at KN ⊢
      have K7 := Aside0.mk KN
      clear KN
      clear x0 x1 x2 y0 y1 y2 q2 r2
      have z0 : wx2.cell? ⟨g6, 0, none⟩ = some (.int .i64 bl.f0) := blk_cell K6.out 0
      have z1 : wx2.cell? ⟨g6, 1, none⟩ = some (.slice A1 bl.f1.length c1) := blk_cell K6.out 1
      have z2 : wx2.cell? ⟨g6, 2, none⟩ = some (.slice A2 bl.f2.length c2) := blk_cell K6.out 2
      have t0 : wx2.cell? ⟨g7, 0, none⟩ = some (.int .i64 bl.f0) := blk_cell K7.out 0
      have t1 : wx2.cell? ⟨g7, 1, none⟩ = some (.slice B1 bl.f1.length d1) := blk_cell K7.out 1
      have t2 : wx2.cell? ⟨g7, 2, none⟩ = some (.slice B2 bl.f2.length d2) := blk_cell K7.out 2
      go_wp2_with (fail)
      refine (same_ints A2 B2 c2 d2 bl.f2 wx2 GI.out HI.out HN.out.2).mono ?_
      rintro ee wx3 ⟨rfl, m, rfl⟩
      have b3 : Below wx2.heap.size wx2 (wx2.drewN m) := pw_below_drewN (Below.refl _ _) m
      have z1' : (wx2.drewN m).cell? ⟨g6, 1, none⟩ = some (.slice A1 bl.f1.length c1) := z1
      have t1' : (wx2.drewN m).cell? ⟨g7, 1, none⟩ = some (.slice B1 bl.f1.length d1) := t1
      clear z0 z1 z2 t0 t1 t2
      replace G65 := Aside0.mk (Kd.C_below G65.out b3)
      replace H65 := Aside0.mk (Kd.C_below H65.out b3)
      replace K6 := Aside0.mk (blk_below K6.out b3)
      replace K7 := Aside0.mk (blk_below K7.out b3)
      replace HB0 := Aside0.mk (wB HB0.out b3)
      clear b3
      generalize wx2.drewN m = wx4 at *
      have hn1 := HN.out.1
      go_wp2_with (fail)
      clear z1' t1'
      go_loopw [8] (fun t wr2 => ∃ j : Nat, j ≤ bl.f1.length ∧ t = .int .i64 j ∧ Below wx4.heap.size wx4 wr2) (fun t _ => bl.f1.length - (intOf t).toNat)
      case atStart => exact ⟨0, Nat.zero_le _, rfl, Below.refl _ _⟩
      case round =>
        obtain ⟨j, hj, rfl, hb⟩ := hrel
        have K6' := blk_below K6.out hb
        have K7' := blk_below K7.out hb
        have z1 : wr.cell? ⟨g6, 1, none⟩ = some (.slice A1 bl.f1.length c1) := blk_cell K6' 1
        have t1 : wr.cell? ⟨g7, 1, none⟩ = some (.slice B1 bl.f1.length d1) := blk_cell K7' 1
        replace K6' := Aside0.mk K6'
        replace K7' := Aside0.mk K7'
        by_cases hjl : j < bl.f1.length
        · obtain ⟨a7, A3, c3, E3, e3, hA7, x0, x1, x2, x3, x4, x5, x6, x7, _, gA, _, gE⟩ := at_T47 (Kd.C_below G65.out hb) (j : Int) (by omega) (by omega)
          obtain ⟨b7, B3, d3, F3, f3, hB7, y0, y1, y2, y3, y4, y5, y6, y7, _, gB, _, gF⟩ := at_T47 (Kd.C_below H65.out hb) (j : Int) (by omega) (by omega)
          have hxm := rd_mem47 hjl
          have XX := Aside0.mk (let q := HEACH.out _ hxm; And.intro q.args (And.intro q.exit q.slots))
          rw [Int.toNat_natCast] at x0 x1 x2 x3 x4 x5 x6 x7 y0 y1 y2 y3 y4 y5 y6 y7
          generalize rd_T47 bl.f1 (j : Int) = x at *
          subst hA7
          subst hB7
          have XA := Aside0.mk gA
          have XB := Aside0.mk gB
          have XE := Aside0.mk gE
          have XF := Aside0.mk gF
          have HB1 := Aside0.mk hb
          have Y1 : ∀ w8, Below wr.heap.size wr w8 → w8.cell? ⟨g6, 1, none⟩ = some (.slice (some a7) bl.f1.length c1) := fun w8 b => pw_cell_below b z1
          have Y4 : ∀ w8, Below wr.heap.size wr w8 → w8.cell? ⟨g7, 1, none⟩ = some (.slice (some b7) bl.f1.length d1) := fun w8 b => pw_cell_below b t1
          have Y2 := fun w8 (b : Below wr.heap.size wr w8) => And.intro (pw_cell_below b x0) (And.intro (pw_cell_below b x1) (And.intro (pw_cell_below b x2) (And.intro (pw_cell_below b x3) (And.intro (pw_cell_below b x4) (And.intro (pw_cell_below b x5) (And.intro (pw_cell_below b x6) (pw_cell_below b x7)))))))
          have Y3 := fun w8 (b : Below wr.heap.size wr w8) => And.intro (pw_cell_below b y0) (And.intro (pw_cell_below b y1) (And.intro (pw_cell_below b y2) (And.intro (pw_cell_below b y3) (And.intro (pw_cell_below b y4) (And.intro (pw_cell_below b y5) (And.intro (pw_cell_below b y6) (pw_cell_below b y7)))))))
          have YY := Aside0.mk (And.intro Y1 (And.intro Y2 (And.intro Y3 Y4)))
          clear gA gB gE gF hb x0 x1 x2 x3 x4 x5 x6 x7 y0 y1 y2 y3 y4 y5 y6 y7 hxm Y1 Y2 Y3 Y4
          go_wp2_with (fail)
          clear z1 t1
          rename_i hK
          refine RegInv.region_facts (by kernel_rfl) (by kernel_rfl) (fun a b => Below a.heap.size a b) (fun a b c h k => wB h k) (below_drew1 (Below.refl _ _)) dSR 12 (by kernel_rfl) (by kernel_rfl) (by kernel_rfl) (FSR x g6 g7 j (some a7) (some b7) c1 d1 bl.f1.length (a7.add (j * 8)) (b7.add (j * 8)) A3 B3 E3 F3 c3 d3 e3 f3) (FSR_below x g6 g7 j (some a7) (some b7) c1 d1 bl.f1.length (a7.add (j * 8)) (b7.add (j * 8)) A3 B3 E3 F3 c3 d3 e3 f3) ?hsSR ?heSR
          case hsSR =>
            clear hK HW HB0
            intro i o a w8 hi hM
            have hlt : i < 12 := (Array.getElem?_eq_some_iff.1 hi).1
            obtain ⟨Y1, Y2, Y3, Y4⟩ := YY.out
            rcases i with _ | _ | _ | _ | _ | _ | _ | _ | _ | _ | _ | _ | i
            · cases hi
              have h0 := gdq _ _ _ (show a.tmps.getD 6 undef = .pointer (some ⟨g6, 0, none⟩) from hM.off 6 (by kernel_rfl))
              refine RegInv.op_value (by rfl) rfl (v := .pointer (some ⟨g6, 1, none⟩)) (w' := w8) ?_ ⟨_, rfl, rfl, Below.refl _ _⟩
              unfold execOp
              go_simp
            · cases hi
              have h0 := gdq _ _ _ (show a.tmps.getD 76 undef = .pointer (some ⟨g6, 1, none⟩) from hM.at_ 0 (by decide) (by kernel_rfl))
              have y := Y1 w8 hM.ext
              refine RegInv.op_value (by rfl) rfl (v := .slice (some a7) bl.f1.length c1) (w' := w8) ?_ ⟨_, rfl, rfl, Below.refl _ _⟩
              unfold execOp
              go_simp
            · cases hi
              have h0 := gdq _ _ _ (show a.tmps.getD 8 undef = .int .i64 (j : Int) from hM.off 8 (by kernel_rfl))
              refine RegInv.op_value (by rfl) rfl (v := .int .i64 (j : Int)) (w' := w8) ?_ ⟨_, rfl, rfl, Below.refl _ _⟩
              unfold execOp
              go_simp
            · cases hi
              have h0 := gdq _ _ _ (show a.tmps.getD 77 undef = .slice (some a7) bl.f1.length c1 from hM.at_ 1 (by decide) (by kernel_rfl))
              have h1 := gdq _ _ _ (show a.tmps.getD 78 undef = .int .i64 (j : Int) from hM.at_ 2 (by decide) (by kernel_rfl))
              refine RegInv.op_value (by rfl) rfl (v := .pointer (some (a7.add (j * 8)))) (w' := w8) ?_ ⟨_, rfl, rfl, Below.refl _ _⟩
              unfold execOp
              go_simp
            · cases hi
              have h0 := gdq _ _ _ (show a.tmps.getD 79 undef = .pointer (some (a7.add (j * 8))) from hM.at_ 3 (by decide) (by kernel_rfl))
              obtain ⟨y0, y1, y2, y3, y4, y5, y6, y7⟩ := Y2 w8 hM.ext
              clear Y1 Y4
              refine RegInv.op_value (by rfl) rfl (v := .agg #[.int .i64 x.f0, .int .i64 x.f1, .int .i64 x.f2, .slice A3 x.f3.length c3, .int .i64 x.f4, .int .i64 x.f5, .int .i64 x.f6, .slice E3 x.f7.length e3]) (w' := w8) ?_ ⟨_, rfl, rfl, Below.refl _ _⟩
              unfold execOp
              go_simp
            · cases hi
              have h0 := gdq _ _ _ (show a.tmps.getD 7 undef = .pointer (some ⟨g7, 0, none⟩) from hM.off 7 (by kernel_rfl))
              refine RegInv.op_value (by rfl) rfl (v := .pointer (some ⟨g7, 1, none⟩)) (w' := w8) ?_ ⟨_, rfl, rfl, Below.refl _ _⟩
              unfold execOp
              go_simp
            · cases hi
              have h0 := gdq _ _ _ (show a.tmps.getD 81 undef = .pointer (some ⟨g7, 1, none⟩) from hM.at_ 5 (by decide) (by kernel_rfl))
              have y := Y4 w8 hM.ext
              refine RegInv.op_value (by rfl) rfl (v := .slice (some b7) bl.f1.length d1) (w' := w8) ?_ ⟨_, rfl, rfl, Below.refl _ _⟩
              unfold execOp
              go_simp
            · cases hi
              have h0 := gdq _ _ _ (show a.tmps.getD 8 undef = .int .i64 (j : Int) from hM.off 8 (by kernel_rfl))
              refine RegInv.op_value (by rfl) rfl (v := .int .i64 (j : Int)) (w' := w8) ?_ ⟨_, rfl, rfl, Below.refl _ _⟩
              unfold execOp
              go_simp
            · cases hi
              have h0 := gdq _ _ _ (show a.tmps.getD 82 undef = .slice (some b7) bl.f1.length d1 from hM.at_ 6 (by decide) (by kernel_rfl))
              have h1 := gdq _ _ _ (show a.tmps.getD 83 undef = .int .i64 (j : Int) from hM.at_ 7 (by decide) (by kernel_rfl))
              refine RegInv.op_value (by rfl) rfl (v := .pointer (some (b7.add (j * 8)))) (w' := w8) ?_ ⟨_, rfl, rfl, Below.refl _ _⟩
              unfold execOp
              go_simp
            · cases hi
              have h0 := gdq _ _ _ (show a.tmps.getD 84 undef = .pointer (some (b7.add (j * 8))) from hM.at_ 8 (by decide) (by kernel_rfl))
              obtain ⟨y0, y1, y2, y3, y4, y5, y6, y7⟩ := Y3 w8 hM.ext
              clear Y1 Y4
              refine RegInv.op_value (by rfl) rfl (v := .agg #[.int .i64 x.f0, .int .i64 x.f1, .int .i64 x.f2, .slice B3 x.f3.length d3, .int .i64 x.f4, .int .i64 x.f5, .int .i64 x.f6, .slice F3 x.f7.length f3]) (w' := w8) ?_ ⟨_, rfl, rfl, Below.refl _ _⟩
              unfold execOp
              go_simp
            · cases hi
              have h0 := gdq _ _ _ (show a.tmps.getD 80 undef = .agg #[.int .i64 x.f0, .int .i64 x.f1, .int .i64 x.f2, .slice A3 x.f3.length c3, .int .i64 x.f4, .int .i64 x.f5, .int .i64 x.f6, .slice E3 x.f7.length e3] from hM.at_ 4 (by decide) (by kernel_rfl))
              have h1 := gdq _ _ _ (show a.tmps.getD 85 undef = .agg #[.int .i64 x.f0, .int .i64 x.f1, .int .i64 x.f2, .slice B3 x.f3.length d3, .int .i64 x.f4, .int .i64 x.f5, .int .i64 x.f6, .slice F3 x.f7.length f3] from hM.at_ 9 (by decide) (by kernel_rfl))
              refine RegInv.op_call (by rfl) rfl Try.func30 (by kernel_rfl) rfl rfl #[.agg #[.int .i64 x.f0, .int .i64 x.f1, .int .i64 x.f2, .slice A3 x.f3.length c3, .int .i64 x.f4, .int .i64 x.f5, .int .i64 x.f6, .slice E3 x.f7.length e3], .agg #[.int .i64 x.f0, .int .i64 x.f1, .int .i64 x.f2, .slice B3 x.f3.length d3, .int .i64 x.f4, .int .i64 x.f5, .int .i64 x.f6, .slice F3 x.f7.length f3]] (by simp [Act.eval, h0, h1]) ?_
              refine (same_ins x A3 B3 E3 F3 c3 d3 e3 f3 w8 (Kd.C_below XA.out hM.ext) (Kd.C_below XB.out hM.ext) (Kd.C_below XE.out hM.ext) (Kd.C_below XF.out hM.ext) XX.out.1 XX.out.2.1 XX.out.2.2).mono ?_
              rintro e w9 ⟨rfl, b⟩
              exact ⟨_, rfl, _, rfl, rfl, b⟩
            · cases hi
              have h0 := gdq _ _ _ (show a.tmps.getD 86 undef = .bool true from hM.at_ 10 (by decide) (by kernel_rfl))
              refine RegInv.op_value (by rfl) rfl (v := .bool false) (w' := w8) ?_ ⟨_, rfl, rfl, Below.refl _ _⟩
              unfold execOp
              go_simp
            · exact absurd hlt (by omega)
          intro vs w10 b3 hF
          have e11 : vs 11 = .bool false := hF 11 (by omega)
          clear hF
          simp only [RegInv.puts, dSR, Act.put, List.range, List.range.loop, List.setIfInBounds_toArray, List.set_cons_zero, List.set_cons_succ]
          rw [e11]
          clear e11
          generalize vs 0 = v0
          generalize vs 1 = v1
          generalize vs 2 = v2
          generalize vs 3 = v3
          generalize vs 4 = v4
          generalize vs 5 = v5
          generalize vs 6 = v6
          generalize vs 7 = v7
          generalize vs 8 = v8
          generalize vs 9 = v9
          generalize vs 10 = v10
          refine hK _ _ ?_
          clear hK
          go_wp2
          go_roundw
          case rel => exact ⟨j + 1, by omega, by go_num, wB HB1.out b3⟩
          case measure => simp [intOf]; omega
        · have HB1 := Aside0.mk hb
          clear hb
          go_wp2
          go_roundw
          case rel => exact ⟨k + 1, by omega, by go_num, wB HB0.out HB1.out⟩
          case measure => simp [intOf]; omega
    · clear q2 r2
      have q2 : wr.cell? ⟨g0, 2, none⟩ = some (.slice A l.length c) := blk_cell (blk_below K0.out hb) 2
      have HB0 := Aside0.mk hb
      clear hb
      go_wp2
      go_ret
      exact ⟨rfl, wB HW.out HB0.out⟩
end Go.Proofs.Ytjekpkpmoanadaa.PCop
