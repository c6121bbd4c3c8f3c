/- sameInstrs, sameHandlers, KeptInstrs, keptHandlers: what reads the same is found the same; lists with their marks are found kept. For every world. -/
import Derived.Test.YtdjpamgjmpibnaaLentDefs
import Derived.Test.YtdjpamgjmpibnaaLit
import Derived.LoopTactic
import Derived.BigQuiet
import Derived.Deep.QuietTactic
namespace Go.Proofs.Ytdjpamgjmpibnaa.PFit
open Go.RowKit Go.Proofs.Ytdjpamgjmpibnaa.Lit Go.Proofs.YtdjpamgjmpibnaaW.PrintWords Go.Proofs.YtdjpamgjmpibnaaW.PrintLast Go.Proofs.YtdjpamgjmpibnaaW.PrintMore
set_option linter.unusedVariables false
set_option linter.unusedSimpArgs false
theorem bodies (w : World) (o : Obj) : Below w.heap.size w (w.alloc o) := below_alloc (Below.refl _ _) o
set_option maxHeartbeats 1000000 in
set_option maxRecDepth 100000 in
theorem same_instrs (A B : Option Addr) (c d : Nat) (l : List S64) (w : World) (hA : k64.C w A l.length l) (hB : k64.C w B l.length l) (hl : l.length ≤ 1048576) :
    Calls Try.prog 22 #[.slice A l.length c, .slice B l.length d] w fun e w' => e = .returned (.bool true) ∧ Below w.heap.size w w' := by
  have HA := Aside0.mk hA
  have HB := Aside0.mk hB
  clear hA hB
  go_enter Try.func22, Try.ntmps22
  go_wp2
  go_loopw [5] (fun t wr => ∃ k : Nat, k ≤ l.length ∧ t = .int .i64 k ∧ ∃ m, wr = w.drewN m) (fun t _ => l.length - (intOf t).toNat)
  case atStart => exact ⟨0, Nat.zero_le _, rfl, 0, rfl⟩
  case round =>
    obtain ⟨k, hk, rfl, m, rfl⟩ := hrel
    by_cases hlt : k < l.length
    · obtain ⟨a, rfl, q0, q1⟩ := at_T64 HA.out (k : Int) (by omega) (by omega)
      obtain ⟨b, rfl, p0, p1⟩ := at_T64 HB.out (k : Int) (by omega) (by omega)
      rw [Int.toNat_natCast] at q0 q1 p0 p1
      go_wp2
      go_quiet (fail)
      go_wp2
      go_roundw
      case rel => exact ⟨k + 1, by omega, by go_num, _, rfl⟩
      case measure => simp [intOf]; omega
    · go_wp2
      go_ret
      exact ⟨rfl, pw_below_drewN (Below.refl _ _) m⟩
set_option maxHeartbeats 1000000 in
set_option maxRecDepth 100000 in
theorem same_hands (A B : Option Addr) (c d : Nat) (l : List S75) (w : World) (hA : k75.C w A l.length l) (hB : k75.C w B l.length l) (hl : l.length ≤ 1048576) :
    Calls Try.prog 23 #[.slice A l.length c, .slice B l.length d] w fun e w' => e = .returned (.bool true) ∧ Below w.heap.size w w' := by
  have HA := Aside0.mk hA
  have HB := Aside0.mk hB
  clear hA hB
  go_enter Try.func23, Try.ntmps23
  go_wp2
  go_loopw [5] (fun t wr => ∃ k : Nat, k ≤ l.length ∧ t = .int .i64 k ∧ ∃ m, wr = w.drewN m) (fun t _ => l.length - (intOf t).toNat)
  case atStart => exact ⟨0, Nat.zero_le _, rfl, 0, rfl⟩
  case round =>
    obtain ⟨k, hk, rfl, m, rfl⟩ := hrel
    by_cases hlt : k < l.length
    · obtain ⟨a, rfl, q0, q1, q2, q3⟩ := at_T75 HA.out (k : Int) (by omega) (by omega)
      obtain ⟨b, rfl, p0, p1, p2, p3⟩ := at_T75 HB.out (k : Int) (by omega) (by omega)
      rw [Int.toNat_natCast] at q0 q1 q2 q3 p0 p1 p2 p3
      go_wp2
      go_quiet (fail)
      go_wp2
      go_roundw
      case rel => exact ⟨k + 1, by omega, by go_num, _, rfl⟩
      case measure => simp [intOf]; omega
    · go_wp2
      go_ret
      exact ⟨rfl, pw_below_drewN (Below.refl _ _) m⟩
theorem cell_set {w : World} {a : Addr} {v : Value} (h : w.cell? a = some v) {g : Nat} (hne : a.block ≠ g) (j : Nat) (u : Value) : (w.setCell ⟨g, j, none⟩ u).cell? a = some v := by
  have e := Below.heap_setCell w ⟨g, j, none⟩ u a.block hne
  rw [← h]
  unfold World.cell?
  rw [e]
theorem fullI_len (l : List S64) : (fullI l).length = l.length + 64 := by simp [fullI]
theorem fullI_low {l : List S64} {k : Nat} (h : k < l.length) : rd_T64 (fullI l) (k : Int) = rd_T64 l (k : Int) := by
  unfold rd_T64 fullI
  rw [Int.toNat_natCast, List.getD_eq_getElem?_getD, List.getD_eq_getElem?_getD, List.getElem?_append_left h]
theorem fullI_high {l : List S64} {k : Nat} (h : l.length ≤ k) (h2 : k < l.length + 64) : rd_T64 (fullI l) (k : Int) = ⟨-7, (k : Int) - (l.length : Int)⟩ := by
  unfold rd_T64 fullI
  rw [Int.toNat_natCast, List.getD_eq_getElem?_getD, List.getElem?_append_right h]
  have hk : k - l.length < 64 := by omega
  simp [hk, markI]
  omega
set_option maxHeartbeats 2000000 in
set_option maxRecDepth 100000 in
theorem kept_instrs (A B : Option Addr) (c d : Nat) (l : List S64) (w : World) (hA : k64.C w A (fullI l).length (fullI l)) (hB : k64.C w B l.length l) (hl : l.length ≤ 1048576) :
    Calls Try.prog 24 #[.slice A (fullI l).length c, .slice B l.length d] w fun e w' => e = .returned (.bool true) ∧ Below w.heap.size w w' := by
  have HA := Aside0.mk hA
  have HB := Aside0.mk hB
  have HFL := Aside0.mk (fullI_len l)
  clear hA hB
  obtain ⟨m, hm⟩ : ∃ m, m = (fullI l).length := ⟨_, rfl⟩
  rw [← hm]
  have hm2 : m = l.length + 64 := hm.trans HFL.out
  have HM := Aside0.mk hm
  have HM2 := Aside0.mk hm2
  have hml : m ≤ 1048640 := by omega
  have cm : ((m : Int) != (l.length : Int) + 64) = false := bne_eq_false_iff_eq.2 (by omega)
  clear hm hm2 HFL
  go_enter Try.func24, Try.ntmps24
  go_wp2
  clear cm
  go_loopw [5] (fun t wr => ∃ k : Nat, k ≤ m ∧ t = .int .i64 k ∧ Below w.heap.size w wr) (fun t _ => m - (intOf t).toNat)
  case atStart => exact ⟨0, Nat.zero_le _, rfl, Below.refl _ _⟩
  case round =>
    obtain ⟨k, hk, rfl, hb⟩ := hrel
    by_cases hlt : k < m
    · have hA2 := HA.out
      rw [← HM.out] at hA2
      obtain ⟨a, rfl, q0, q1⟩ := at_T64 hA2 (k : Int) (by omega) (by omega)
      rw [Int.toNat_natCast] at q0 q1
      have hab := World.block_lt_of_cell? _ _ q0
      have hadd : (a.add (k * 2)).block = a.block := add_block _ _
      rw [hadd] at hab
      have HAB := Aside0.mk hab
      have HBW := Aside0.mk hb
      have HK := Aside0.mk (show k < l.length + 64 by have := HM2.out; omega)
      replace q0 := pw_cell_below HBW.out q0
      replace q1 := pw_cell_below HBW.out q1
      clear hA2 hb hab hadd
      go_upto_region 7 with (fail)
      have hb := bodies wr (.cells #[.int .i64 (-7), .int .i64 ((k : Int) - (l.length : Int))] 64)
      have K := blk_new wr (.cells #[.int .i64 (-7), .int .i64 ((k : Int) - (l.length : Int))] 64)
      replace q0 := pw_cell_below hb q0
      replace q1 := pw_cell_below hb q1
      have HG := Aside0.mk HBW.out.size
      replace HBW := Aside0.mk (wB HBW.out hb)
      clear hb
      generalize wr.alloc (.cells #[.int .i64 (-7), .int .i64 ((k : Int) - (l.length : Int))] 64) = w1 at *
      generalize wr.heap.size = g at *
      by_cases hkl : k < l.length
      · have e := fullI_low hkl
        rw [e] at q0 q1
        obtain ⟨b, rfl, p0, p1⟩ := at_T64 (Kd.C_below HB.out HBW.out) (k : Int) (by omega) (by omega)
        rw [Int.toNat_natCast] at p0 p1
        generalize rd_T64 l (k : Int) = y at *
        clear e
        have gne : (a.add (k * 2)).block ≠ g := by rw [add_block]; have := HAB.out; have := HG.out; omega
        have c0 : w1.cell? ⟨g, 0, none⟩ = some (.int .i64 (-7)) := blk_cell K 0
        have f0 := blk_frozen K 0
        have c1 : w1.cell? ⟨g, 1, none⟩ = some (.int .i64 ((k : Int) - (l.length : Int))) := blk_cell K 1
        have f1 := blk_frozen K 1
        have HGN := Aside0.mk gne
        have HKK := Aside0.mk K
        clear K gne
        go_upto_region 9 with (fail)
        have K := HKK.out
        have gne := HGN.out
        have K0 := blk_put K 0 (.int .i64 y.f0) (cs' := #[.int .i64 y.f0, .int .i64 ((k : Int) - (l.length : Int))]) rfl
        have K1 := blk_put K0 1 (.int .i64 y.f1) (cs' := #[.int .i64 y.f0, .int .i64 y.f1]) rfl
        have HB2 := Aside0.mk (below_set (below_set HBW.out HG.out (j := 0) (v := .int .i64 y.f0)) HG.out (j := 1) (v := .int .i64 y.f1))
        replace q0 := (cell_set (cell_set q0 gne 0 (.int .i64 y.f0)) gne 1 (.int .i64 y.f1))
        replace q1 := (cell_set (cell_set q1 gne 0 (.int .i64 y.f0)) gne 1 (.int .i64 y.f1))
        clear c0 f0 c1 f1 p0 p1 gne
        generalize ((w1.setCell ⟨g, 0, none⟩ (.int .i64 y.f0)).setCell ⟨g, 1, none⟩ (.int .i64 y.f1)) = w2 at *
        have d0 : w2.cell? ⟨g, 0, none⟩ = some (.int .i64 y.f0) := blk_cell K1 0
        have d1 : w2.cell? ⟨g, 1, none⟩ = some (.int .i64 y.f1) := blk_cell K1 1
        clear K K0 K1
        go_quiet (fail)
        go_wp2
        go_roundw
        case rel => exact ⟨k + 1, by omega, by go_num, pw_below_drewN HB2.out _⟩
        case measure => simp [intOf]; omega
      · have e := fullI_high (l := l) (k := k) (by omega) HK.out
        rw [e] at q0 q1
        simp only at q0 q1
        clear e
        have c0 : w1.cell? ⟨g, 0, none⟩ = some (.int .i64 (-7)) := blk_cell K 0
        have f0 := blk_frozen K 0
        have c1 : w1.cell? ⟨g, 1, none⟩ = some (.int .i64 ((k : Int) - (l.length : Int))) := blk_cell K 1
        have f1 := blk_frozen K 1
        clear K
        go_upto_region 9 with (fail)
        go_quiet (fail)
        go_wp2
        go_roundw
        case rel => exact ⟨k + 1, by omega, by go_num, pw_below_drewN HBW.out _⟩
        case measure => simp [intOf]; omega
    · go_wp2
      go_ret
      exact ⟨rfl, hb⟩
theorem fullH_len (l : List S75) : (fullH l).length = l.length + 64 := by simp [fullH]
theorem fullH_low {l : List S75} {k : Nat} (h : k < l.length) : rd_T75 (fullH l) (k : Int) = rd_T75 l (k : Int) := by
  unfold rd_T75 fullH
  rw [Int.toNat_natCast, List.getD_eq_getElem?_getD, List.getD_eq_getElem?_getD, List.getElem?_append_left h]
theorem fullH_high {l : List S75} {k : Nat} (h : l.length ≤ k) (h2 : k < l.length + 64) : rd_T75 (fullH l) (k : Int) = ⟨-7, (k : Int) - (l.length : Int), 0, 0⟩ := by
  unfold rd_T75 fullH
  rw [Int.toNat_natCast, List.getD_eq_getElem?_getD, List.getElem?_append_right h]
  have hk : k - l.length < 64 := by omega
  simp [hk, markH]
  omega
set_option maxHeartbeats 2000000 in
set_option maxRecDepth 100000 in
theorem kept_hands (A B : Option Addr) (c d : Nat) (l : List S75) (w : World) (hA : k75.C w A (fullH l).length (fullH l)) (hB : k75.C w B l.length l) (hl : l.length ≤ 1048576) :
    Calls Try.prog 25 #[.slice A (fullH l).length c, .slice B l.length d] w fun e w' => e = .returned (.bool true) ∧ Below w.heap.size w w' := by
  have HA := Aside0.mk hA
  have HB := Aside0.mk hB
  have HFL := Aside0.mk (fullH_len l)
  clear hA hB
  obtain ⟨m, hm⟩ : ∃ m, m = (fullH l).length := ⟨_, rfl⟩
  rw [← hm]
  have hm2 : m = l.length + 64 := hm.trans HFL.out
  have HM := Aside0.mk hm
  have HM2 := Aside0.mk hm2
  have hml : m ≤ 1048640 := by omega
  have cm : ((m : Int) != (l.length : Int) + 64) = false := bne_eq_false_iff_eq.2 (by omega)
  clear hm hm2 HFL
  go_enter Try.func25, Try.ntmps25
  go_wp2
  clear cm
  go_loopw [5] (fun t wr => ∃ k : Nat, k ≤ m ∧ t = .int .i64 k ∧ Below w.heap.size w wr) (fun t _ => m - (intOf t).toNat)
  case atStart => exact ⟨0, Nat.zero_le _, rfl, Below.refl _ _⟩
  case round =>
    obtain ⟨k, hk, rfl, hb⟩ := hrel
    by_cases hlt : k < m
    · have hA2 := HA.out
      rw [← HM.out] at hA2
      obtain ⟨a, rfl, q0, q1, q2, q3⟩ := at_T75 hA2 (k : Int) (by omega) (by omega)
      rw [Int.toNat_natCast] at q0 q1 q2 q3
      have hab := World.block_lt_of_cell? _ _ q0
      have hadd : (a.add (k * 4)).block = a.block := add_block _ _
      rw [hadd] at hab
      have HAB := Aside0.mk hab
      have HBW := Aside0.mk hb
      have HK := Aside0.mk (show k < l.length + 64 by have := HM2.out; omega)
      replace q0 := pw_cell_below HBW.out q0
      replace q1 := pw_cell_below HBW.out q1
      replace q2 := pw_cell_below HBW.out q2
      replace q3 := pw_cell_below HBW.out q3
      clear hA2 hb hab hadd
      go_upto_region 7 with (fail)
      have hb := bodies wr (.cells #[.int .i64 (-7), .int .i64 ((k : Int) - (l.length : Int)), .int .i64 0, .int .i64 0] 75)
      have K := blk_new wr (.cells #[.int .i64 (-7), .int .i64 ((k : Int) - (l.length : Int)), .int .i64 0, .int .i64 0] 75)
      replace q0 := pw_cell_below hb q0
      replace q1 := pw_cell_below hb q1
      replace q2 := pw_cell_below hb q2
      replace q3 := pw_cell_below hb q3
      have HG := Aside0.mk HBW.out.size
      replace HBW := Aside0.mk (wB HBW.out hb)
      clear hb
      generalize wr.alloc (.cells #[.int .i64 (-7), .int .i64 ((k : Int) - (l.length : Int)), .int .i64 0, .int .i64 0] 75) = w1 at *
      generalize wr.heap.size = g at *
      by_cases hkl : k < l.length
      · have e := fullH_low hkl
        rw [e] at q0 q1 q2 q3
        obtain ⟨b, rfl, p0, p1, p2, p3⟩ := at_T75 (Kd.C_below HB.out HBW.out) (k : Int) (by omega) (by omega)
        rw [Int.toNat_natCast] at p0 p1 p2 p3
        generalize rd_T75 l (k : Int) = y at *
        clear e
        have gne : (a.add (k * 4)).block ≠ g := by rw [add_block]; have := HAB.out; have := HG.out; omega
        have c0 : w1.cell? ⟨g, 0, none⟩ = some (.int .i64 (-7)) := blk_cell K 0
        have f0 := blk_frozen K 0
        have c1 : w1.cell? ⟨g, 1, none⟩ = some (.int .i64 ((k : Int) - (l.length : Int))) := blk_cell K 1
        have f1 := blk_frozen K 1
        have c2 : w1.cell? ⟨g, 2, none⟩ = some (.int .i64 0) := blk_cell K 2
        have f2 := blk_frozen K 2
        have c3 : w1.cell? ⟨g, 3, none⟩ = some (.int .i64 0) := blk_cell K 3
        have f3 := blk_frozen K 3
        have HGN := Aside0.mk gne
        have HKK := Aside0.mk K
        clear K gne
        go_upto_region 9 with (fail)
        have K := HKK.out
        have gne := HGN.out
        have K0 := blk_put K 0 (.int .i64 y.f0) (cs' := #[.int .i64 y.f0, .int .i64 ((k : Int) - (l.length : Int)), .int .i64 0, .int .i64 0]) rfl
        have K1 := blk_put K0 1 (.int .i64 y.f1) (cs' := #[.int .i64 y.f0, .int .i64 y.f1, .int .i64 0, .int .i64 0]) rfl
        have K2 := blk_put K1 2 (.int .i64 y.f2) (cs' := #[.int .i64 y.f0, .int .i64 y.f1, .int .i64 y.f2, .int .i64 0]) rfl
        have K3 := blk_put K2 3 (.int .i64 y.f3) (cs' := #[.int .i64 y.f0, .int .i64 y.f1, .int .i64 y.f2, .int .i64 y.f3]) rfl
        have HB2 := Aside0.mk (below_set (below_set (below_set (below_set HBW.out HG.out (j := 0) (v := .int .i64 y.f0)) HG.out (j := 1) (v := .int .i64 y.f1)) HG.out (j := 2) (v := .int .i64 y.f2)) HG.out (j := 3) (v := .int .i64 y.f3))
        replace q0 := (cell_set (cell_set (cell_set (cell_set q0 gne 0 (.int .i64 y.f0)) gne 1 (.int .i64 y.f1)) gne 2 (.int .i64 y.f2)) gne 3 (.int .i64 y.f3))
        replace q1 := (cell_set (cell_set (cell_set (cell_set q1 gne 0 (.int .i64 y.f0)) gne 1 (.int .i64 y.f1)) gne 2 (.int .i64 y.f2)) gne 3 (.int .i64 y.f3))
        replace q2 := (cell_set (cell_set (cell_set (cell_set q2 gne 0 (.int .i64 y.f0)) gne 1 (.int .i64 y.f1)) gne 2 (.int .i64 y.f2)) gne 3 (.int .i64 y.f3))
        replace q3 := (cell_set (cell_set (cell_set (cell_set q3 gne 0 (.int .i64 y.f0)) gne 1 (.int .i64 y.f1)) gne 2 (.int .i64 y.f2)) gne 3 (.int .i64 y.f3))
        clear c0 f0 c1 f1 c2 f2 c3 f3 p0 p1 p2 p3 gne
        generalize ((((w1.setCell ⟨g, 0, none⟩ (.int .i64 y.f0)).setCell ⟨g, 1, none⟩ (.int .i64 y.f1)).setCell ⟨g, 2, none⟩ (.int .i64 y.f2)).setCell ⟨g, 3, none⟩ (.int .i64 y.f3)) = w2 at *
        have d0 : w2.cell? ⟨g, 0, none⟩ = some (.int .i64 y.f0) := blk_cell K3 0
        have d1 : w2.cell? ⟨g, 1, none⟩ = some (.int .i64 y.f1) := blk_cell K3 1
        have d2 : w2.cell? ⟨g, 2, none⟩ = some (.int .i64 y.f2) := blk_cell K3 2
        have d3 : w2.cell? ⟨g, 3, none⟩ = some (.int .i64 y.f3) := blk_cell K3 3
        clear K K0 K1 K2 K3
        go_quiet (fail)
        go_wp2
        go_roundw
        case rel => exact ⟨k + 1, by omega, by go_num, pw_below_drewN HB2.out _⟩
        case measure => simp [intOf]; omega
      · have e := fullH_high (l := l) (k := k) (by omega) HK.out
        rw [e] at q0 q1 q2 q3
        simp only at q0 q1 q2 q3
        clear e
        have c0 : w1.cell? ⟨g, 0, none⟩ = some (.int .i64 (-7)) := blk_cell K 0
        have f0 := blk_frozen K 0
        have c1 : w1.cell? ⟨g, 1, none⟩ = some (.int .i64 ((k : Int) - (l.length : Int))) := blk_cell K 1
        have f1 := blk_frozen K 1
        have c2 : w1.cell? ⟨g, 2, none⟩ = some (.int .i64 0) := blk_cell K 2
        have f2 := blk_frozen K 2
        have c3 : w1.cell? ⟨g, 3, none⟩ = some (.int .i64 0) := blk_cell K 3
        have f3 := blk_frozen K 3
        clear K
        go_upto_region 9 with (fail)
        go_quiet (fail)
        go_wp2
        go_roundw
        case rel => exact ⟨k + 1, by omega, by go_num, pw_below_drewN HBW.out _⟩
        case measure => simp [intOf]; omega
    · go_wp2
      go_ret
      exact ⟨rfl, hb⟩
end Go.Proofs.Ytdjpamgjmpibnaa.PFit
