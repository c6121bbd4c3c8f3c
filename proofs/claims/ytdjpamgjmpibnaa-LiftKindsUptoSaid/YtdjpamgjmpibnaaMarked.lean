/- marked: the marks are where they were. For every world. -/
import Derived.Test.YtdjpamgjmpibnaaCode
import Derived.Test.YtdjpamgjmpibnaaPHcx1
namespace Go.Proofs.Ytdjpamgjmpibnaa.PHc
open Go.RowKit Go.Proofs.Ytdjpamgjmpibnaa.Lit Go.Proofs.Ytdjpamgjmpibnaa.OwnCells Go.Proofs.YtdjpamgjmpibnaaW.PrintWords Go.Proofs.YtdjpamgjmpibnaaW.PrintLast Go.Proofs.YtdjpamgjmpibnaaW.PrintMore
set_option linter.unusedVariables false
set_option linter.unusedSimpArgs false
theorem neq70 (w : World) (x0 y0 x1 y1 : Int) : (binOp .neq 70 (.agg #[.int .i64 x0, .int .i64 x1]) (.agg #[.int .i64 y0, .int .i64 y1])).run Try.prog w = .ok (.bool (!(x0 == y0 && (x1 == y1)))) w := by
  simp [binOp, Op.equal, Op.maxDepth, eqA70 9998 w x0 y0 x1 y1]
theorem Made.below {b g : Nat} {w w1 : World} {fn regs : Int} {PB : Option Addr} {dB : Nat} {vO vS vN vI : Value} {O : List (List S70)} {S : List (List S72)} {NX : List (List Int)} {I : List (List S52)} {l : List S25} (h : Made b g w fn regs PB dB vO vS vN vI O S NX I l) (hb : Below w.heap.size w w1) : Made b g w1 fn regs PB dB vO vS vN vI O S NX I l :=
  ⟨blk_below h.blk hb, h.hg, Kd.R_below h.ro hb, Kd.R_below h.rs hb, Kd.R_below h.rn hb, Kd.R_below h.ri hb, Kd.R_below h.rb hb, h.mo, h.ms, h.mn, h.mi, h.ln, h.li⟩
theorem full_get {α : Type} (m : Nat → α) (p : List α) (z : α) (i : Nat) (hi : i < 16) : (full m p).getD (p.length + i) z = m i := by
  unfold full
  rw [List.getD_eq_getElem?_getD, List.getElem?_append_right (by omega), Nat.add_sub_cancel_left]
  simp [hi]
theorem mem2 {α : Type} {O : List (List α)} {k : Nat} (h : k < O.length) : O.getD ((k : Int)).toNat [] ∈ O := by
  rw [Int.toNat_natCast, List.getD_eq_getElem?_getD, List.getElem?_eq_getElem h]; exact List.getElem_mem _
theorem mark70 (p : List S70) (i : Nat) (hi : i < 16) : rd_T70 (full mkO p) ((p.length + i : Nat) : Int) = mkO i := by unfold rd_T70; rw [Int.toNat_natCast]; exact full_get _ _ _ i hi
theorem mark72 (p : List S72) (i : Nat) (hi : i < 16) : rd_T72 (full mkS p) ((p.length + i : Nat) : Int) = mkS i := by unfold rd_T72; rw [Int.toNat_natCast]; exact full_get _ _ _ i hi
theorem mark52 (p : List S52) (i : Nat) (hi : i < 16) : rd_T52 (full mkI p) ((p.length + i : Nat) : Int) = mkI i := by unfold rd_T52; rw [Int.toNat_natCast]; exact full_get _ _ _ i hi
theorem mark25 (p : List S25) (i : Nat) (hi : i < 16) : rd_T25 (full mkB p) ((p.length + i : Nat) : Int) = mkB i := by unfold rd_T25; rw [Int.toNat_natCast]; exact full_get _ _ _ i hi
theorem mark3 (p : List Int) (i : Nat) (hi : i < 16) : rd (full mkN p) ((p.length + i : Nat) : Int) = mkN i := by unfold rd; rw [Int.toNat_natCast]; exact full_get _ _ _ i hi
set_option maxHeartbeats 16000000 in
set_option maxRecDepth 100000 in
theorem marked_calls (b g : Nat) (w : World) (fn regs : Int) (PB : Option Addr) (dB : Nat) (vO vS vN vI : Value) (O : List (List S70)) (S : List (List S72)) (NX : List (List Int)) (I : List (List S52)) (l : List S25) (hM : Made b g w fn regs PB dB vO vS vN vI O S NX I l) (hl : l.length ≤ 1048576) :
    Calls Try.prog 16 #[.pointer (some ⟨g, 0, none⟩)] w fun e w' => e = .returned (.bool true) ∧ Below w.heap.size w w' := by
  obtain ⟨AO, nO, cO, rfl⟩ : ∃ P m d, vO = .slice P m d := let ⟨A, c, h, _⟩ := Kd.R_reads hM.ro; ⟨_, _, _, h⟩
  obtain ⟨AS, nS, cS, rfl⟩ : ∃ P m d, vS = .slice P m d := let ⟨A, c, h, _⟩ := Kd.R_reads hM.rs; ⟨_, _, _, h⟩
  obtain ⟨AN, nN, cN, rfl⟩ : ∃ P m d, vN = .slice P m d := let ⟨A, c, h, _⟩ := Kd.R_reads hM.rn; ⟨_, _, _, h⟩
  obtain ⟨AI, nI, cI, rfl⟩ : ∃ P m d, vI = .slice P m d := let ⟨A, c, h, _⟩ := Kd.R_reads hM.ri; ⟨_, _, _, h⟩
  obtain ⟨eO, _, hO⟩ := Kd.R_reads' hM.ro
  obtain ⟨eS, _, hS⟩ := Kd.R_reads' hM.rs
  obtain ⟨eN, _, hN⟩ := Kd.R_reads' hM.rn
  obtain ⟨eI, _, hI⟩ := Kd.R_reads' hM.ri
  obtain ⟨_, _, hB⟩ := Kd.R_reads' hM.rb
  subst eO eS eN eI
  have HK := Aside0.mk hM.blk
  have HO := Aside0.mk (And.intro hO hM.mo)
  have HS := Aside0.mk (And.intro hS hM.ms)
  have HN := Aside0.mk (And.intro hN hM.mn)
  have HI := Aside0.mk (And.intro hI hM.mi)
  have HB := Aside0.mk hB
  have HLN := Aside0.mk (And.intro hM.ln hM.li)
  have mxO := Kd.C_max hO
  have mxS := Kd.C_max hS
  have mxI := Kd.C_max hI
  clear hM hO hS hN hI hB
  go_enter Try.func16, Try.ntmps16
  go_wp2_with (fail)
  go_loopw [3, 4, 5] (fun t _ _ wr => ∃ k : Nat, k ≤ O.length ∧ t = .int .i64 k ∧ Below w.heap.size w wr) (fun t _ _ _ => O.length - (intOf t).toNat)
  case atStart => exact ⟨0, Nat.zero_le _, rfl, Below.refl _ _⟩
  case round =>
    obtain ⟨k, hk, rfl, hb⟩ := hrel
    have HBW := Aside0.mk hb
    clear hb
    have p3 : wr.cell? ⟨g, 3, none⟩ = some (.slice AO O.length cO) := blk_cell (blk_below HK.out HBW.out) 3
    by_cases hlt : k < O.length
    · obtain ⟨ad, A0, c0, rfl, x0, hle, hC⟩ := at_L2 (Kd.C_below HO.out.1 HBW.out) (k : Int) (by omega) (by omega)
      rw [Int.toNat_natCast] at x0
      obtain ⟨p, hp, e⟩ := HO.out.2 _ (mem2 hlt)
      rw [show rd_L2 O (k : Int) = full mkO p from e] at x0 hle hC
      rw [full_len] at x0
      have HC := Aside0.mk hC
      clear e hle hC
      go_wp2_with (fail)
      generalize hwx : wr = wx at *
      clear hwx
      go_loopw [5] (fun t wr => ∃ i : Nat, i ≤ 16 ∧ t = .int .i64 i ∧ Below wx.heap.size wx wr) (fun t _ => 16 - (intOf t).toNat)
      case atStart => exact ⟨0, by omega, rfl, Below.refl _ _⟩
      case round =>
        obtain ⟨i, hi, rfl, hb2⟩ := hrel
        replace p3 : wr.cell? ⟨g, 3, none⟩ = some (.slice (some ad) O.length cO) := blk_cell (blk_below (blk_below HK.out HBW.out) hb2) 3
        replace x0 := pw_cell_below hb2 x0
        by_cases hi2 : i < 16
        · obtain ⟨m, hm⟩ : ∃ m, m = p.length + i := ⟨_, rfl⟩
          have hmi : (p.length : Int) + (i : Int) = (m : Int) := by omega
          have hmb : m ≤ 1048600 := by omega
          have hml : m < p.length + 16 := by omega
          obtain ⟨a2, rfl, y0, y1⟩ := at_T70 (Kd.C_below HC.out hb2) (m : Int) (by omega) (by rw [full_len]; omega)
          rw [hm, mark70 p i hi2, ← hm, Int.toNat_natCast] at y0 y1
          unfold mkO at y0 y1
          simp only at y0 y1
          have he := neq70
          clear hm
          go_wp2
          go_roundw
          case rel => exact ⟨i + 1, by omega, by go_num, hb2⟩
          case measure => simp [intOf]; omega
        · go_wp2
          go_roundw
          case rel => exact ⟨k + 1, by omega, by go_num, wB HBW.out hb2⟩
          case measure => simp [intOf]; omega
    · go_wp2_with (fail)
      clear hlt hk p3
      generalize hwx : wr = wx at *
      clear hwx
      go_loopw [6, 7, 8, 9] (fun t _ _ _ wr => ∃ k : Nat, k ≤ S.length ∧ t = .int .i64 k ∧ Below w.heap.size w wr) (fun t _ _ _ _ => S.length - (intOf t).toNat)
      case atStart => exact ⟨0, Nat.zero_le _, rfl, HBW.out⟩
      case round =>
        clear HBW
        obtain ⟨k, hk, rfl, hb⟩ := hrel
        have HBW := Aside0.mk hb
        clear hb
        have p4 : wr.cell? ⟨g, 4, none⟩ = some (.slice AS S.length cS) := blk_cell (blk_below HK.out HBW.out) 4
        by_cases hlt : k < S.length
        · obtain ⟨ad, A0, c0, rfl, x0, hle, hC⟩ := at_L4 (Kd.C_below HS.out.1 HBW.out) (k : Int) (by omega) (by omega)
          rw [Int.toNat_natCast] at x0
          obtain ⟨p, hp, e⟩ := HS.out.2 _ (mem2 hlt)
          rw [show rd_L4 S (k : Int) = full mkS p from e] at x0 hle hC
          rw [full_len] at x0
          have HC := Aside0.mk hC
          clear e hle hC
          go_wp2_with (fail)
          generalize hwx : wr = wy at *
          clear hwx
          go_loopw [8, 9] (fun t _ wr => ∃ i : Nat, i ≤ 16 ∧ t = .int .i64 i ∧ Below wy.heap.size wy wr) (fun t _ _ => 16 - (intOf t).toNat)
          case atStart => exact ⟨0, by omega, rfl, Below.refl _ _⟩
          case round =>
            obtain ⟨i, hi, rfl, hb2⟩ := hrel
            replace p4 : wr.cell? ⟨g, 4, none⟩ = some (.slice (some ad) S.length cS) := blk_cell (blk_below (blk_below HK.out HBW.out) hb2) 4
            replace x0 := pw_cell_below hb2 x0
            by_cases hi2 : i < 16
            · obtain ⟨m, hm⟩ : ∃ m, m = p.length + i := ⟨_, rfl⟩
              have hmi : (p.length : Int) + (i : Int) = (m : Int) := by omega
              have hmb : m ≤ 1048600 := by omega
              have hml : m < p.length + 16 := by omega
              obtain ⟨a2, A3, c3, rfl, y0, y1, y2, _, _⟩ := at_T72 (Kd.C_below HC.out hb2) (m : Int) (by omega) (by rw [full_len]; omega)
              rw [hm, mark72 p i hi2, ← hm, Int.toNat_natCast] at y0 y1 y2
              unfold mkS at y0 y1 y2
              simp only [List.length_nil] at y0 y1 y2
              clear hm
              have HB2 := Aside0.mk hb2
              clear hb2
              go_upto_region 18 with (fail)
              have hb3 := bodies wr (.cells #[.int .i64 (-7), .int .i64 (i : Int), .slice A3 0 c3] 72)
              have K9 := blk_new wr (.cells #[.int .i64 (-7), .int .i64 (i : Int), .slice A3 0 c3] 72)
              have HB3 := Aside0.mk (wB HB2.out hb3)
              clear hb3 y0 y1 y2 x0 p4
              generalize wr.alloc (.cells #[.int .i64 (-7), .int .i64 (i : Int), .slice A3 0 c3] 72) = w2 at *
              generalize wr.heap.size = g9 at *
              have z0 : w2.cell? ⟨g9, 0, none⟩ = some (.int .i64 (-7)) := blk_cell K9 0
              have z1 : w2.cell? ⟨g9, 1, none⟩ = some (.int .i64 (i : Int)) := blk_cell K9 1
              have z2 : w2.cell? ⟨g9, 2, none⟩ = some (.slice A3 0 c3) := blk_cell K9 2
              clear K9
              go_wp2
              go_roundw
              case rel => exact ⟨i + 1, by omega, by go_num, HB3.out⟩
              case measure => simp [intOf]; omega
            · go_wp2
              go_roundw
              case rel => exact ⟨k + 1, by omega, by go_num, wB HBW.out hb2⟩
              case measure => simp [intOf]; omega
        · go_wp2_with (fail)
          clear hlt hk p4
          generalize hwx : wr = wy at *
          clear hwx
          go_loopw [10, 11, 12, 13, 14] (fun t _ _ _ _ wr => ∃ k : Nat, k ≤ I.length ∧ t = .int .i64 k ∧ Below w.heap.size w wr) (fun t _ _ _ _ _ => I.length - (intOf t).toNat)
          case atStart => exact ⟨0, Nat.zero_le _, rfl, HBW.out⟩
          case round =>
            clear HBW
            obtain ⟨k, hk, rfl, hb⟩ := hrel
            have HBW := Aside0.mk hb
            clear hb
            have p6 : wr.cell? ⟨g, 6, none⟩ = some (.slice AI I.length cI) := blk_cell (blk_below HK.out HBW.out) 6
            have p5 : wr.cell? ⟨g, 5, none⟩ = some (.slice AN NX.length cN) := blk_cell (blk_below HK.out HBW.out) 5
            by_cases hlt : k < I.length
            · obtain ⟨ad, A0, c0, rfl, x0, hle, hC⟩ := at_L6 (Kd.C_below HI.out.1 HBW.out) (k : Int) (by omega) (by omega)
              rw [Int.toNat_natCast] at x0
              obtain ⟨p, hp, e⟩ := HI.out.2 _ (mem2 hlt)
              rw [show rd_L6 I (k : Int) = full mkI p from e] at x0 hle hC
              rw [full_len] at x0
              have HC := Aside0.mk hC
              clear e hle hC
              have hlN : k < NX.length := by have := HLN.out; omega
              obtain ⟨ae, A1, c1, rfl, x1, hle, hC⟩ := at_L7 (Kd.C_below HN.out.1 HBW.out) (k : Int) (by omega) (by omega)
              rw [Int.toNat_natCast] at x1
              obtain ⟨p', hp', e⟩ := HN.out.2 _ (mem2 hlN)
              rw [show rd_L7 NX (k : Int) = full mkN p' from e] at x1 hle hC
              rw [full_len] at x1
              have HC' := Aside0.mk hC
              clear e hle hC
              go_wp2_with (fail)
              generalize hwx : wr = wz at *
              clear hwx
              go_loopw [13, 14] (fun t _ wr => ∃ i : Nat, i ≤ 16 ∧ t = .int .i64 i ∧ Below wz.heap.size wz wr) (fun t _ _ => 16 - (intOf t).toNat)
              case atStart => exact ⟨0, by omega, rfl, Below.refl _ _⟩
              case round =>
                obtain ⟨i, hi, rfl, hb2⟩ := hrel
                replace p6 : wr.cell? ⟨g, 6, none⟩ = some (.slice (some ad) I.length cI) := blk_cell (blk_below (blk_below HK.out HBW.out) hb2) 6
                replace p5 : wr.cell? ⟨g, 5, none⟩ = some (.slice (some ae) NX.length cN) := blk_cell (blk_below (blk_below HK.out HBW.out) hb2) 5
                replace x0 := pw_cell_below hb2 x0
                replace x1 := pw_cell_below hb2 x1
                by_cases hi2 : i < 16
                · obtain ⟨m, hm⟩ : ∃ m, m = p.length + i := ⟨_, rfl⟩
                  have hmi : (p.length : Int) + (i : Int) = (m : Int) := by omega
                  have hmb : m ≤ 1048600 := by omega
                  have hml : m < p.length + 16 := by omega
                  obtain ⟨a2, A3, c3, A7, c7, rfl, y0, y1, y2, y3, y4, y5, y6, y7, _, _, _, _⟩ := at_T52 (Kd.C_below HC.out hb2) (m : Int) (by omega) (by rw [full_len]; omega)
                  rw [hm, mark52 p i hi2, ← hm, Int.toNat_natCast] at y0 y1 y2 y3 y4 y5 y6 y7
                  unfold mkI at y0 y1 y2 y3 y4 y5 y6 y7
                  simp only [List.length_nil] at y0 y1 y2 y3 y4 y5 y6 y7
                  clear hm
                  obtain ⟨m', hm'⟩ : ∃ m, m = p'.length + i := ⟨_, rfl⟩
                  have hmi' : (p'.length : Int) + (i : Int) = (m' : Int) := by omega
                  have hmb' : m' ≤ 1048600 := by omega
                  have hml' : m' < p'.length + 16 := by omega
                  obtain ⟨a3, rfl, v0⟩ := Kd.at_int (Kd.C_below HC'.out hb2) (m' : Int) (by omega) (by rw [full_len]; omega)
                  rw [hm', mark3 p' i hi2, ← hm', Int.toNat_natCast] at v0
                  unfold mkN at v0
                  clear hm'
                  have HB2 := Aside0.mk hb2
                  clear hb2
                  go_upto_region 29 with (fail)
                  have hb3 := bodies wr (.cells #[.int .i64 (-7), .int .i64 0, .int .i64 0, .slice A3 0 c3, .int .i64 0, .int .i64 (i : Int), .int .i64 0, .slice A7 0 c7] 52)
                  have K9 := blk_new wr (.cells #[.int .i64 (-7), .int .i64 0, .int .i64 0, .slice A3 0 c3, .int .i64 0, .int .i64 (i : Int), .int .i64 0, .slice A7 0 c7] 52)
                  have HB3 := Aside0.mk (wB HB2.out hb3)
                  replace v0 := pw_cell_below hb3 v0
                  replace x1 := pw_cell_below hb3 x1
                  replace p5 := pw_cell_below hb3 p5
                  clear hb3 y0 y1 y2 y3 y4 y5 y6 y7 x0 p6
                  generalize wr.alloc (.cells #[.int .i64 (-7), .int .i64 0, .int .i64 0, .slice A3 0 c3, .int .i64 0, .int .i64 (i : Int), .int .i64 0, .slice A7 0 c7] 52) = w2 at *
                  generalize wr.heap.size = g9 at *
                  have z0 : w2.cell? ⟨g9, 0, none⟩ = some (.int .i64 (-7)) := blk_cell K9 0
                  have z3 : w2.cell? ⟨g9, 3, none⟩ = some (.slice A3 0 c3) := blk_cell K9 3
                  have z5 : w2.cell? ⟨g9, 5, none⟩ = some (.int .i64 (i : Int)) := blk_cell K9 5
                  have z7 : w2.cell? ⟨g9, 7, none⟩ = some (.slice A7 0 c7) := blk_cell K9 7
                  clear K9
                  go_wp2
                  go_roundw
                  case rel => exact ⟨i + 1, by omega, by go_num, HB3.out⟩
                  case measure => simp [intOf]; omega
                · go_wp2
                  go_roundw
                  case rel => exact ⟨k + 1, by omega, by go_num, wB HBW.out hb2⟩
                  case measure => simp [intOf]; omega
            · have p7 : wr.cell? ⟨g, 7, none⟩ = some (.slice PB (l.length + 16) dB) := by rw [← full_len mkB l]; exact blk_cell (blk_below HK.out HBW.out) 7
              go_wp2_with (fail)
              clear hlt hk p5 p6
              generalize hwx : wr = wz at *
              clear hwx
              go_loopw [16, 17] (fun t _ wr => ∃ i : Nat, i ≤ 16 ∧ t = .int .i64 i ∧ Below wz.heap.size wz wr) (fun t _ _ => 16 - (intOf t).toNat)
              case atStart => exact ⟨0, by omega, rfl, Below.refl _ _⟩
              case round =>
                obtain ⟨i, hi, rfl, hb2⟩ := hrel
                replace p7 := pw_cell_below hb2 p7
                by_cases hi2 : i < 16
                · obtain ⟨m, hm⟩ : ∃ m, m = l.length + i := ⟨_, rfl⟩
                  have hmi : (l.length : Int) + (i : Int) = (m : Int) := by omega
                  have hmb : m ≤ 1048600 := by omega
                  have hml : m < l.length + 16 := by omega
                  obtain ⟨a2, A3, c3, A7, c7, rfl, y0, y1, y2, _, _, _, _⟩ := at_T25 (Kd.C_below (Kd.C_below HB.out HBW.out) hb2) (m : Int) (by omega) (by rw [full_len]; omega)
                  rw [hm, mark25 l i hi2, ← hm, Int.toNat_natCast] at y0 y1 y2
                  unfold mkB at y0 y1 y2
                  simp only [List.length_nil] at y0 y1 y2
                  clear hm
                  have HB2 := Aside0.mk hb2
                  clear hb2
                  go_upto_region 36 with (fail)
                  have hb3 := bodies wr (.cells #[.int .i64 (-7 - (i : Int)), .slice A3 0 c3, .slice A7 0 c7] 25)
                  have K9 := blk_new wr (.cells #[.int .i64 (-7 - (i : Int)), .slice A3 0 c3, .slice A7 0 c7] 25)
                  have HB3 := Aside0.mk (wB HB2.out hb3)
                  clear hb3 y0 y1 y2 p7
                  generalize wr.alloc (.cells #[.int .i64 (-7 - (i : Int)), .slice A3 0 c3, .slice A7 0 c7] 25) = w2 at *
                  generalize wr.heap.size = g9 at *
                  have z0 : w2.cell? ⟨g9, 0, none⟩ = some (.int .i64 (-7 - (i : Int))) := blk_cell K9 0
                  have z1 : w2.cell? ⟨g9, 1, none⟩ = some (.slice A3 0 c3) := blk_cell K9 1
                  have z2 : w2.cell? ⟨g9, 2, none⟩ = some (.slice A7 0 c7) := blk_cell K9 2
                  clear K9
                  go_wp2
                  go_roundw
                  case rel => exact ⟨i + 1, by omega, by go_num, HB3.out⟩
                  case measure => simp [intOf]; omega
                · go_wp2
                  go_ret
                  exact ⟨rfl, wB HBW.out hb2⟩
end Go.Proofs.Ytdjpamgjmpibnaa.PHc
