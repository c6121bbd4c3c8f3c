/- InlineFits' contract: which functions are small, and what was lent is kept. For every program of a size that memory can hold. -/
import Derived.Test.YtdjpamgjmpibnaaKeptP
import Derived.Test.YtdjpamgjmpibnaaLentEv
import Derived.Test.YtdjpamgjmpibnaaFitsEv
namespace Go.Proofs.Ytdjpamgjmpibnaa.PFit
open Go.RowKit Go.Proofs.Ytdjpamgjmpibnaa.Lit Go.Proofs.YtdjpamgjmpibnaaW.PrintWords Go.Proofs.YtdjpamgjmpibnaaW.PrintLast Go.Proofs.YtdjpamgjmpibnaaW.PrintMore
set_option linter.unusedVariables false
set_option linter.unusedSimpArgs false
theorem in_calls (A B : Option Addr) (d0 d1 : Nat) (c : List S56) (f : List S60) (x : Int) (w : World) (hA : k56.C w A c.length c) (h0 : c.length ≤ d0) (hB : k60.C w B f.length f) (h1 : f.length ≤ d1) (hs : SmallF f) :
    Calls Try.prog 12 #[.agg #[.slice A c.length d0, .slice B f.length d1], .int .i64 x] w fun e w' => e = .returned (.bool (fitsB f x)) ∧ Below w.heap.size w w' :=
  inline_Fits.calls _ A d0 c B d1 f x _ w hA h0 hB h1 (in_fits c f x hs.code rfl)
theorem ref_calls (A B : Option Addr) (d0 d1 : Nat) (c : List S56) (f : List S60) (x : Int) (w : World) (hA : k56.C w A c.length c) (h0 : c.length ≤ d0) (hB : k60.C w B f.length f) (h1 : f.length ≤ d1) (hs : SmallF f) :
    Calls Try.prog 13 #[.agg #[.slice A c.length d0, .slice B f.length d1], .int .i64 x] w fun e w' => e = .returned (.bool (fitsB f x)) ∧ Below w.heap.size w w' :=
  portageref20_Fits.calls _ A d0 c B d1 f x _ w hA h0 hB h1 (ref_fits c f x hs.code rfl)
theorem fullC_take (c : List S56) : (fullC c).take c.length = c := by unfold fullC; rw [List.take_left']; rfl
theorem fullP_take (f : List S60) : (fullP f).take f.length = f := by unfold fullP; rw [List.append_assoc, List.take_left']; rfl
theorem cutC {w : World} {A : Option Addr} {c : List S56} (h : k56.C w A (fullC c).length (fullC c)) : k56.C w A c.length c := by
  have := Kd.C_take h (m := c.length) (by rw [fullC_len]; omega)
  rwa [fullC_take] at this
theorem cutP {w : World} {A : Option Addr} {f : List S60} (h : k60.C w A (fullP f).length (fullP f)) : k60.C w A f.length f := by
  have := Kd.C_take h (m := f.length) (by rw [fullP_len]; omega)
  rwa [fullP_take] at this
def dIF : Nat → Option Tmp
  | 0 => some 9
  | 1 => some 10
  | 2 => some 11
  | 3 => some 12
  | 4 => some 13
  | 5 => some 14
  | 6 => some 15
  | _ => none
def FIF (A0 A1 PA PB : Option Addr) (n m d0 d1 c0 c1 : Nat) (x : Int) (r : Bool) : Nat → World → Value → Prop
  | 0, _, v => v = .agg #[.slice A0 n d0, .slice A1 m d1]
  | 1, _, v => v = .int .i64 x
  | 2, _, v => v = .bool r
  | 3, _, v => v = .agg #[.slice PA n c0, .slice PB m c1]
  | 4, _, v => v = .int .i64 x
  | 5, _, v => v = .bool r
  | 6, _, v => v = .bool false
  | _, _, _ => True
theorem FIF_below (A0 A1 PA PB : Option Addr) (n m d0 d1 c0 c1 : Nat) (x : Int) (r : Bool) (i : Nat) (w w1 : World) (v : Value) (h : FIF A0 A1 PA PB  n m d0 d1 c0 c1  x  r  i w v) (hb : Below w.heap.size w w1) : FIF A0 A1 PA PB  n m d0 d1 c0 c1  x  r  i w1 v := by
  match i with
  | 0 | 1 | 2 | 3 | 4 | 5 | 6 => exact h
  | (n + 7) => exact h
def dIL : Nat → Option Tmp
  | 0 => some 23
  | 1 => some 24
  | 2 => some 25
  | 3 => some 26
  | 4 => some 27
  | 5 => some 28
  | 6 => some 29
  | _ => none
def FIL (A0 A1 PA PB : Option Addr) (n m d0 d1 c0 c1 : Nat) (x : Int) (r : Bool) : Nat → World → Value → Prop
  | 0, _, v => v = .agg #[.slice A0 n d0, .slice A1 m d1]
  | 1, _, v => v = .int .i64 x
  | 2, _, v => v = .bool r
  | 3, _, v => v = .agg #[.slice PA n c0, .slice PB m c1]
  | 4, _, v => v = .int .i64 x
  | 5, _, v => v = .bool r
  | 6, _, v => v = .bool false
  | _, _, _ => True
theorem FIL_below (A0 A1 PA PB : Option Addr) (n m d0 d1 c0 c1 : Nat) (x : Int) (r : Bool) (i : Nat) (w w1 : World) (v : Value) (h : FIL A0 A1 PA PB  n m d0 d1 c0 c1  x  r  i w v) (hb : Below w.heap.size w w1) : FIL A0 A1 PA PB  n m d0 d1 c0 c1  x  r  i w1 v := by
  match i with
  | 0 | 1 | 2 | 3 | 4 | 5 | 6 => exact h
  | (n + 7) => exact h
set_option maxHeartbeats 8000000 in
set_option maxRecDepth 100000 in
theorem portagelaw20_InlineFits.calls (PA : Option Addr) (c0 : Nat) (c : List S56) (PB : Option Addr) (c1 : Nat) (f : List S60) (a1 : Int) (r : Bool) (w : World) (hPA : k56.C w PA c.length c) (hc0 : c.length ≤ c0) (hPB : k60.C w PB f.length f) (hc1 : f.length ≤ c1) (h : (c.length ≤ 1048576 ∧ SmallF f) ∧ r = true) :
    Calls Try.prog 4 #[.agg #[.slice PA c.length c0, .slice PB f.length c1], .int .i64 a1] w fun e w' => e = .returned (.bool r) ∧ Below w.heap.size w w' := by
  obtain ⟨⟨hcs, hs⟩, rfl⟩ := h
  have HPA := Aside0.mk hPA
  have HPB := Aside0.mk hPB
  have HS := Aside0.mk hs
  have HCS := Aside0.mk hcs
  have HC := Aside0.mk (And.intro hc0 hc1)
  have hfl := hs.len
  clear hPA hPB hs hcs hc0 hc1
  go_enter Try.func4, Try.ntmps4
  go_upto_region 1 with (fail)
  have hb := bodies w (.cells #[.slice PA c.length c0, .slice PB f.length c1] 44)
  have K2 := blk_new w (.cells #[.slice PA c.length c0, .slice PB f.length c1] 44)
  have HB := Aside0.mk hb
  replace HPA := Aside0.mk (Kd.C_below HPA.out hb)
  replace HPB := Aside0.mk (Kd.C_below HPB.out hb)
  clear hb
  generalize w.alloc (.cells #[.slice PA c.length c0, .slice PB f.length c1] 44) = w1 at *
  obtain ⟨g2, hg2⟩ : ∃ g, g = w.heap.size := ⟨_, rfl⟩
  rw [← hg2] at K2 ⊢
  clear hg2
  have p0 : w1.cell? ⟨g2, 0, none⟩ = some (.slice PA c.length c0) := blk_cell K2 0
  have p1 : w1.cell? ⟨g2, 1, none⟩ = some (.slice PB f.length c1) := blk_cell K2 1
  have HK2 := Aside0.mk K2
  clear K2
  go_wp2_with (fail)
  refine (lent_calls PA c0 c PB c1 f w1 HPA.out HC.out.1 HPB.out HC.out.2 HS.out HCS.out).mono ?_
  rintro e w2 ⟨A0, d0, A1, d1, rfl, hd0, hQ0, hd1, hQ1, hb⟩
  have HQ0 := Aside0.mk hQ0
  have HQ1 := Aside0.mk hQ1
  have HDF := Aside0.mk (And.intro hd0 hd1)
  have HD := Aside0.mk (And.intro (show c.length ≤ d0 by rw [fullC_len] at hd0; omega) (show f.length ≤ d1 by rw [fullP_len] at hd1; omega))
  replace HPA := Aside0.mk (Kd.C_below HPA.out hb)
  replace HPB := Aside0.mk (Kd.C_below HPB.out hb)
  replace HK2 := Aside0.mk (blk_below HK2.out hb)
  replace HB := Aside0.mk (wB HB.out hb)
  clear hQ0 hQ1 hd0 hd1 hb p0 p1
  go_upto_region 2 with (fail)
  have hb := bodies w2 (.cells #[.slice A0 c.length d0, .slice A1 f.length d1] 44)
  have K5 := blk_new w2 (.cells #[.slice A0 c.length d0, .slice A1 f.length d1] 44)
  replace HQ0 := Aside0.mk (Kd.C_below HQ0.out hb)
  replace HQ1 := Aside0.mk (Kd.C_below HQ1.out hb)
  replace HPA := Aside0.mk (Kd.C_below HPA.out hb)
  replace HPB := Aside0.mk (Kd.C_below HPB.out hb)
  replace HK2 := Aside0.mk (blk_below HK2.out hb)
  replace HB := Aside0.mk (wB HB.out hb)
  clear hb
  generalize w2.alloc (.cells #[.slice A0 c.length d0, .slice A1 f.length d1] 44) = w3 at *
  generalize w2.heap.size = g5 at *
  have HK5 := Aside0.mk K5
  clear K5
  have HF0 := HQ0
  have HF1 := HQ1
  replace HQ0 := Aside0.mk (cutC HF0.out)
  replace HQ1 := Aside0.mk (cutP HF1.out)
  rename_i hK
  refine RegInv.region_facts (by kernel_rfl) (by kernel_rfl) (fun a b => Below a.heap.size a b) (fun a b c h k => wB h k) (below_drew1 (Below.refl _ _)) dIF 7 (by kernel_rfl) (by kernel_rfl) (by kernel_rfl) (FIF A0 A1 PA PB c.length f.length d0 d1 c0 c1 a1 (fitsB f a1)) (FIF_below A0 A1 PA PB c.length f.length d0 d1 c0 c1 a1 (fitsB f a1)) ?hsIF ?heIF
  case hsIF =>
    clear hK
    intro i o a w8 hi hM
    have hlt : i < 7 := (Array.getElem?_eq_some_iff.1 hi).1
    have K5' := blk_below HK5.out hM.ext
    have K2' := blk_below HK2.out hM.ext
    rcases i with _ | _ | _ | _ | _ | _ | _ | i
    · cases hi
      have h0 := gdq _ _ _ (show a.tmps.getD 5 undef = .pointer (some ⟨g5, 0, none⟩) from hM.off 5 (by kernel_rfl))
      have y0 : w8.cell? ⟨g5, 0, none⟩ = some (.slice A0 c.length d0) := blk_cell K5' 0
      have y1 : w8.cell? ⟨g5, 1, none⟩ = some (.slice A1 f.length d1) := blk_cell K5' 1
      refine RegInv.op_value (by rfl) rfl (v := .agg #[.slice A0 c.length d0, .slice A1 f.length d1]) (w' := w8) ?_ ⟨_, rfl, rfl, Below.refl _ _⟩
      unfold execOp
      go_simp
    · cases hi
      have h0 := gdq _ _ _ (show a.tmps.getD 1 undef = .int .i64 a1 from hM.off 1 (by kernel_rfl))
      refine RegInv.op_value (by rfl) rfl (v := .int .i64 a1) (w' := w8) ?_ ⟨_, rfl, rfl, Below.refl _ _⟩
      unfold execOp
      go_simp
    · cases hi
      have h0 := gdq _ _ _ (show a.tmps.getD 9 undef = .agg #[.slice A0 c.length d0, .slice A1 f.length d1] from hM.at_ 0 (by decide) (by kernel_rfl))
      have h1 := gdq _ _ _ (show a.tmps.getD 10 undef = .int .i64 a1 from hM.at_ 1 (by decide) (by kernel_rfl))
      refine RegInv.op_call (by rfl) rfl Try.func12 (by kernel_rfl) rfl rfl #[.agg #[.slice A0 c.length d0, .slice A1 f.length d1], .int .i64 a1] (by simp [Act.eval, h0, h1]) ?_
      refine (in_calls A0 A1 d0 d1 c f (a1) w8 (Kd.C_below HQ0.out hM.ext) HD.out.1 (Kd.C_below HQ1.out hM.ext) HD.out.2 HS.out).mono ?_
      rintro e w9 ⟨rfl, b⟩
      exact ⟨_, rfl, _, rfl, rfl, b⟩
    · cases hi
      have h0 := gdq _ _ _ (show a.tmps.getD 2 undef = .pointer (some ⟨g2, 0, none⟩) from hM.off 2 (by kernel_rfl))
      have y0 : w8.cell? ⟨g2, 0, none⟩ = some (.slice PA c.length c0) := blk_cell K2' 0
      have y1 : w8.cell? ⟨g2, 1, none⟩ = some (.slice PB f.length c1) := blk_cell K2' 1
      refine RegInv.op_value (by rfl) rfl (v := .agg #[.slice PA c.length c0, .slice PB f.length c1]) (w' := w8) ?_ ⟨_, rfl, rfl, Below.refl _ _⟩
      unfold execOp
      go_simp
    · cases hi
      have h0 := gdq _ _ _ (show a.tmps.getD 1 undef = .int .i64 a1 from hM.off 1 (by kernel_rfl))
      refine RegInv.op_value (by rfl) rfl (v := .int .i64 a1) (w' := w8) ?_ ⟨_, rfl, rfl, Below.refl _ _⟩
      unfold execOp
      go_simp
    · cases hi
      have h0 := gdq _ _ _ (show a.tmps.getD 12 undef = .agg #[.slice PA c.length c0, .slice PB f.length c1] from hM.at_ 3 (by decide) (by kernel_rfl))
      have h1 := gdq _ _ _ (show a.tmps.getD 13 undef = .int .i64 a1 from hM.at_ 4 (by decide) (by kernel_rfl))
      refine RegInv.op_call (by rfl) rfl Try.func13 (by kernel_rfl) rfl rfl #[.agg #[.slice PA c.length c0, .slice PB f.length c1], .int .i64 a1] (by simp [Act.eval, h0, h1]) ?_
      refine (ref_calls PA PB c0 c1 c f (a1) w8 (Kd.C_below HPA.out hM.ext) HC.out.1 (Kd.C_below HPB.out hM.ext) HC.out.2 HS.out).mono ?_
      rintro e w9 ⟨rfl, b⟩
      exact ⟨_, rfl, _, rfl, rfl, b⟩
    · cases hi
      have h0 := gdq _ _ _ (show a.tmps.getD 11 undef = .bool (fitsB f a1) from hM.at_ 2 (by decide) (by kernel_rfl))
      have h1 := gdq _ _ _ (show a.tmps.getD 14 undef = .bool (fitsB f a1) from hM.at_ 5 (by decide) (by kernel_rfl))
      refine RegInv.op_value (by rfl) rfl (v := .bool false) (w' := w8) ?_ ⟨_, rfl, rfl, Below.refl _ _⟩
      unfold execOp
      go_simp
    · exact absurd hlt (by omega)
  intro vs wF bF hF
  have eL : vs 6 = .bool false := hF 6 (by omega)
  clear hF
  simp only [RegInv.puts, dIF, Act.put, List.range, List.range.loop, List.setIfInBounds_toArray, List.set_cons_zero, List.set_cons_succ]
  rw [eL]
  clear eL
  generalize vs 0 = t0
  generalize vs 1 = t1
  generalize vs 2 = t2
  generalize vs 3 = t3
  generalize vs 4 = t4
  generalize vs 5 = t5
  replace HQ0 := Aside0.mk (Kd.C_below HQ0.out bF)
  replace HQ1 := Aside0.mk (Kd.C_below HQ1.out bF)
  replace HF0 := Aside0.mk (Kd.C_below HF0.out bF)
  replace HF1 := Aside0.mk (Kd.C_below HF1.out bF)
  replace HPA := Aside0.mk (Kd.C_below HPA.out bF)
  replace HPB := Aside0.mk (Kd.C_below HPB.out bF)
  replace HK2 := Aside0.mk (blk_below HK2.out bF)
  replace HK5 := Aside0.mk (blk_below HK5.out bF)
  replace HB := Aside0.mk (wB HB.out bF)
  clear bF
  refine hK _ _ ?_
  clear hK
  go_wp2_with (fail)
  go_loopw [6] (fun t wr => ∃ k : Nat, k ≤ f.length ∧ t = .int .i64 k ∧ Below wF.heap.size wF wr) (fun t _ => f.length - (intOf t).toNat)
  case atStart => exact ⟨0, Nat.zero_le _, rfl, Below.refl _ _⟩
  case round =>
    obtain ⟨k, hk, rfl, hb⟩ := hrel
    have p1 : wr.cell? ⟨g2, 1, none⟩ = some (.slice PB f.length c1) := blk_cell (blk_below HK2.out hb) 1
    replace HQ0 := Aside0.mk (Kd.C_below HQ0.out hb)
    replace HQ1 := Aside0.mk (Kd.C_below HQ1.out hb)
    replace HF0 := Aside0.mk (Kd.C_below HF0.out hb)
    replace HF1 := Aside0.mk (Kd.C_below HF1.out hb)
    replace HPA := Aside0.mk (Kd.C_below HPA.out hb)
    replace HPB := Aside0.mk (Kd.C_below HPB.out hb)
    replace HK2 := Aside0.mk (blk_below HK2.out hb)
    replace HK5 := Aside0.mk (blk_below HK5.out hb)
    have HBW := Aside0.mk hb
    clear hb
    by_cases hlt : k < f.length
    · go_wp2_with (fail)
      rename_i hK
      refine RegInv.region_facts (by kernel_rfl) (by kernel_rfl) (fun a b => Below a.heap.size a b) (fun a b c h k => wB h k) (below_drew1 (Below.refl _ _)) dIL 7 (by kernel_rfl) (by kernel_rfl) (by kernel_rfl) (FIL A0 A1 PA PB c.length f.length d0 d1 c0 c1 (k : Int) (fitsB f (k : Int))) (FIL_below A0 A1 PA PB c.length f.length d0 d1 c0 c1 (k : Int) (fitsB f (k : Int))) ?hsIL ?heIL
      case hsIL =>
        clear hK
        intro i o a w8 hi hM
        have hlt : i < 7 := (Array.getElem?_eq_some_iff.1 hi).1
        have K5' := blk_below HK5.out hM.ext
        have K2' := blk_below HK2.out hM.ext
        rcases i with _ | _ | _ | _ | _ | _ | _ | i
        · cases hi
          have h0 := gdq _ _ _ (show a.tmps.getD 5 undef = .pointer (some ⟨g5, 0, none⟩) from hM.off 5 (by kernel_rfl))
          have y0 : w8.cell? ⟨g5, 0, none⟩ = some (.slice A0 c.length d0) := blk_cell K5' 0
          have y1 : w8.cell? ⟨g5, 1, none⟩ = some (.slice A1 f.length d1) := blk_cell K5' 1
          refine RegInv.op_value (by rfl) rfl (v := .agg #[.slice A0 c.length d0, .slice A1 f.length d1]) (w' := w8) ?_ ⟨_, rfl, rfl, Below.refl _ _⟩
          unfold execOp
          go_simp
        · cases hi
          have h0 := gdq _ _ _ (show a.tmps.getD 6 undef = .int .i64 (k : Int) from hM.off 6 (by kernel_rfl))
          refine RegInv.op_value (by rfl) rfl (v := .int .i64 (k : Int)) (w' := w8) ?_ ⟨_, rfl, rfl, Below.refl _ _⟩
          unfold execOp
          go_simp
        · cases hi
          have h0 := gdq _ _ _ (show a.tmps.getD 23 undef = .agg #[.slice A0 c.length d0, .slice A1 f.length d1] from hM.at_ 0 (by decide) (by kernel_rfl))
          have h1 := gdq _ _ _ (show a.tmps.getD 24 undef = .int .i64 (k : Int) from hM.at_ 1 (by decide) (by kernel_rfl))
          refine RegInv.op_call (by rfl) rfl Try.func12 (by kernel_rfl) rfl rfl #[.agg #[.slice A0 c.length d0, .slice A1 f.length d1], .int .i64 (k : Int)] (by simp [Act.eval, h0, h1]) ?_
          refine (in_calls A0 A1 d0 d1 c f ((k : Int)) w8 (Kd.C_below HQ0.out hM.ext) HD.out.1 (Kd.C_below HQ1.out hM.ext) HD.out.2 HS.out).mono ?_
          rintro e w9 ⟨rfl, b⟩
          exact ⟨_, rfl, _, rfl, rfl, b⟩
        · cases hi
          have h0 := gdq _ _ _ (show a.tmps.getD 2 undef = .pointer (some ⟨g2, 0, none⟩) from hM.off 2 (by kernel_rfl))
          have y0 : w8.cell? ⟨g2, 0, none⟩ = some (.slice PA c.length c0) := blk_cell K2' 0
          have y1 : w8.cell? ⟨g2, 1, none⟩ = some (.slice PB f.length c1) := blk_cell K2' 1
          refine RegInv.op_value (by rfl) rfl (v := .agg #[.slice PA c.length c0, .slice PB f.length c1]) (w' := w8) ?_ ⟨_, rfl, rfl, Below.refl _ _⟩
          unfold execOp
          go_simp
        · cases hi
          have h0 := gdq _ _ _ (show a.tmps.getD 6 undef = .int .i64 (k : Int) from hM.off 6 (by kernel_rfl))
          refine RegInv.op_value (by rfl) rfl (v := .int .i64 (k : Int)) (w' := w8) ?_ ⟨_, rfl, rfl, Below.refl _ _⟩
          unfold execOp
          go_simp
        · cases hi
          have h0 := gdq _ _ _ (show a.tmps.getD 26 undef = .agg #[.slice PA c.length c0, .slice PB f.length c1] from hM.at_ 3 (by decide) (by kernel_rfl))
          have h1 := gdq _ _ _ (show a.tmps.getD 27 undef = .int .i64 (k : Int) from hM.at_ 4 (by decide) (by kernel_rfl))
          refine RegInv.op_call (by rfl) rfl Try.func13 (by kernel_rfl) rfl rfl #[.agg #[.slice PA c.length c0, .slice PB f.length c1], .int .i64 (k : Int)] (by simp [Act.eval, h0, h1]) ?_
          refine (ref_calls PA PB c0 c1 c f ((k : Int)) w8 (Kd.C_below HPA.out hM.ext) HC.out.1 (Kd.C_below HPB.out hM.ext) HC.out.2 HS.out).mono ?_
          rintro e w9 ⟨rfl, b⟩
          exact ⟨_, rfl, _, rfl, rfl, b⟩
        · cases hi
          have h0 := gdq _ _ _ (show a.tmps.getD 25 undef = .bool (fitsB f (k : Int)) from hM.at_ 2 (by decide) (by kernel_rfl))
          have h1 := gdq _ _ _ (show a.tmps.getD 28 undef = .bool (fitsB f (k : Int)) from hM.at_ 5 (by decide) (by kernel_rfl))
          refine RegInv.op_value (by rfl) rfl (v := .bool false) (w' := w8) ?_ ⟨_, rfl, rfl, Below.refl _ _⟩
          unfold execOp
          go_simp
        · exact absurd hlt (by omega)
      intro vs wG bF hF
      have eL : vs 6 = .bool false := hF 6 (by omega)
      clear hF
      simp only [RegInv.puts, dIL, Act.put, List.range, List.range.loop, List.setIfInBounds_toArray, List.set_cons_zero, List.set_cons_succ]
      rw [eL]
      clear eL
      generalize vs 0 = t0
      generalize vs 1 = t1
      generalize vs 2 = t2
      generalize vs 3 = t3
      generalize vs 4 = t4
      generalize vs 5 = t5
      replace HBW := Aside0.mk (wB HBW.out bF)
      clear bF
      refine hK _ _ ?_
      clear hK
      go_wp2
      go_roundw
      case rel => exact ⟨k + 1, by omega, by go_num, HBW.out⟩
      case measure => simp [intOf]; omega
    · go_upto_region 9 with (fail)
      have p0 : wr.cell? ⟨g2, 0, none⟩ = some (.slice PA c.length c0) := blk_cell HK2.out 0
      have q0 : wr.cell? ⟨g5, 0, none⟩ = some (.slice A0 c.length d0) := blk_cell HK5.out 0
      have q1 : wr.cell? ⟨g5, 1, none⟩ = some (.slice A1 f.length d1) := blk_cell HK5.out 1
      go_wp2_with (fail)
      refine (kept_program A0 A1 PA PB d0 d1 c0 c1 c f wr HF0.out HF1.out HPA.out HPB.out HDF.out.1 HDF.out.2 HS.out HCS.out).mono ?_
      rintro e w9 ⟨rfl, b⟩
      go_wp2
      go_ret
      exact ⟨rfl, wB (wB HB.out HBW.out) b⟩
end Go.Proofs.Ytdjpamgjmpibnaa.PFit
