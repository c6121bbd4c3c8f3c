/- LiftKinds' contract: what is a point, how many steps a block stands for; what is handed in is left. For every block of a size that memory can hold. -/
import Derived.Test.YtdjpamgjmpibnaaKept
namespace Go.Proofs.Ytdjpamgjmpibnaa.PHc
open Go.RowKit Go.Proofs.Ytdjpamgjmpibnaa.Lit Go.Proofs.Ytdjpamgjmpibnaa.OwnCells Go.Proofs.YtdjpamgjmpibnaaW.PrintWords Go.Proofs.YtdjpamgjmpibnaaW.PrintLast Go.Proofs.YtdjpamgjmpibnaaW.PrintMore
set_option linter.unusedVariables false
set_option linter.unusedSimpArgs false
theorem costI_bound (M : Nat) : ∀ l : List S52, (∀ x ∈ l, x.f7.length ≤ M) → costI l ≤ l.length * (1 + M) := by
  intro l
  induction l with
  | nil => intro _; exact Nat.zero_le _
  | cons x l ih =>
    intro h
    have h1 := ih (fun y hy => h y (List.mem_cons_of_mem _ hy))
    have h2 := h x List.mem_cons_self
    have e : costI (x :: l) = (1 + x.f7.length) + costI l := by simp [costI]
    rw [e, List.length_cons, Nat.succ_mul]
    omega
theorem small_one {b : S25} (h : SmallB b) : SmallC [b] where
  len := by show 1 ≤ _; omega
  each := fun x hx => by rw [List.mem_singleton.1 hx]; exact h
  cost := by
    have h1 := costI_bound 1048576 b.f1 (fun x hx => (h.exit x hx).len)
    have h2 := Nat.mul_le_mul_right (1 + 1048576) h.ins
    have e : costB [b] = costI b.f1 := by simp [costB]
    rw [e]
    exact Nat.le_trans h1 (Nat.le_trans h2 (by decide))
  ins := by
    have e : insB [b] = b.f1.length := by simp [insB]
    rw [e]; have := h.ins; omega
set_option maxHeartbeats 16000000 in
set_option maxRecDepth 100000 in
theorem portagelaw19_LiftKinds.calls (a0 pc : Int) (A1 : Option Addr) (c1 : Nat) (l1 : List S52) (A2 : Option Addr) (c2 : Nat) (l2 : List Int) (r : Bool) (w : World) (h1 : k52.C w A1 l1.length l1) (hc1 : l1.length ≤ c1) (h2 : (Kd.int .i64).C w A2 l2.length l2) (hc2 : l2.length ≤ c2) (h : SmallB ⟨pc, l1, l2⟩ ∧ r = true) :
    Calls Try.prog 3 #[.int .i64 a0, .agg #[.int .i64 pc, .slice A1 l1.length c1, .slice A2 l2.length c2]] w fun e w' => e = .returned (.bool r) ∧ Below w.heap.size w w' := by
  obtain ⟨hs, rfl⟩ := h
  obtain ⟨b, hb⟩ : ∃ b : S25, b = ⟨pc, l1, l2⟩ := ⟨_, rfl⟩
  have HS := Aside0.mk (hb ▸ hs)
  have e0 : pc = b.f0 := by rw [hb]
  have e1 : l1 = b.f1 := by rw [hb]
  have e2 : l2 = b.f2 := by rw [hb]
  clear hs hb
  subst e0 e1 e2
  have H1 := Aside0.mk h1
  have H2 := Aside0.mk h2
  have HC := Aside0.mk (And.intro hc1 hc2)
  clear h1 h2 hc1 hc2
  go_enter Try.func3, Try.ntmps3
  go_upto_region 1 with (fail)
  have hb := bodies w (.cells #[.int .i64 b.f0, .slice A1 b.f1.length c1, .slice A2 b.f2.length c2] 25)
  have K3 := blk_new w (.cells #[.int .i64 b.f0, .slice A1 b.f1.length c1, .slice A2 b.f2.length c2] 25)
  replace H1 := Aside0.mk (Kd.C_below H1.out hb)
  replace H2 := Aside0.mk (Kd.C_below H2.out hb)
  have HB := Aside0.mk hb
  clear hb
  generalize w.alloc (.cells #[.int .i64 b.f0, .slice A1 b.f1.length c1, .slice A2 b.f2.length c2] 25) = w1 at *
  obtain ⟨g3, hg3⟩ : ∃ q, q = w.heap.size := ⟨_, rfl⟩
  rw [← hg3] at K3 ⊢
  clear hg3
  have y0 : w1.cell? ⟨g3, 0, none⟩ = some (.int .i64 b.f0) := blk_cell K3 0
  have y1 : w1.cell? ⟨g3, 1, none⟩ = some (.slice A1 b.f1.length c1) := blk_cell K3 1
  have y2 : w1.cell? ⟨g3, 2, none⟩ = some (.slice A2 b.f2.length c2) := blk_cell K3 2
  have HK3 := Aside0.mk K3
  clear K3
  go_upto_region 2 with (fail)
  have hlit := lit_C k25 w1 25 [b] [.int .i64 b.f0, .slice A1 b.f1.length c1, .slice A2 b.f2.length c2] (reps1 (k25_mk w1 b HC.out.1 H1.out HC.out.2 H2.out) rfl) (by simp)
  have hb2 := bodies w1 (.cells #[.int .i64 b.f0, .slice A1 b.f1.length c1, .slice A2 b.f2.length c2] 25)
  have hb3 := bodies (w1.alloc (.cells #[.int .i64 b.f0, .slice A1 b.f1.length c1, .slice A2 b.f2.length c2] 25)) (.cells #[.int .i64 0, .int .i64 0, .slice (some ⟨w1.heap.size, 0, none⟩) 1 1] 28)
  have K5 := blk_new (w1.alloc (.cells #[.int .i64 b.f0, .slice A1 b.f1.length c1, .slice A2 b.f2.length c2] 25)) (.cells #[.int .i64 0, .int .i64 0, .slice (some ⟨w1.heap.size, 0, none⟩) 1 1] 28)
  rw [World.size_alloc] at K5
  have hbb := wB hb2 hb3
  replace H1 := Aside0.mk (Kd.C_below H1.out hbb)
  replace H2 := Aside0.mk (Kd.C_below H2.out hbb)
  replace HB := Aside0.mk (wB HB.out hbb)
  replace HK3 := Aside0.mk (blk_below HK3.out hbb)
  have HLIT := Aside0.mk (Kd.C_below hlit hb3)
  clear hb2 hb3 hbb hlit y0 y1 y2
  generalize (w1.alloc (.cells #[.int .i64 b.f0, .slice A1 b.f1.length c1, .slice A2 b.f2.length c2] 25)).alloc (.cells #[.int .i64 0, .int .i64 0, .slice (some ⟨w1.heap.size, 0, none⟩) 1 1] 28) = w2 at *
  generalize w1.heap.size + 1 = g5 at *
  generalize w1.heap.size = q at *
  have x0 : w2.cell? ⟨g5, 0, none⟩ = some (.int .i64 0) := blk_cell K5 0
  have x1 : w2.cell? ⟨g5, 1, none⟩ = some (.int .i64 0) := blk_cell K5 1
  have x2 : w2.cell? ⟨g5, 2, none⟩ = some (.slice (some ⟨q, 0, none⟩) 1 1) := blk_cell K5 2
  have HK5 := Aside0.mk K5
  clear K5
  go_wp2_with (fail)
  refine (hand_code (some ⟨q, 0, none⟩) 1 [b] 0 0 w2 HLIT.out (Nat.le_refl _) (small_one HS.out)).mono ?_
  rintro e w3 ⟨g, PB, dB, vO, vS, vN, vI, O, S, NX, I, rfl, hM, hb⟩
  have HM := Aside0.mk hM
  replace H1 := Aside0.mk (Kd.C_below H1.out hb)
  replace H2 := Aside0.mk (Kd.C_below H2.out hb)
  replace HB := Aside0.mk (wB HB.out hb)
  replace HK3 := Aside0.mk (blk_below HK3.out hb)
  replace HK5 := Aside0.mk (blk_below HK5.out hb)
  replace HLIT := Aside0.mk (Kd.C_below HLIT.out hb)
  clear hM hb x0 x1 x2
  have p2 : w3.cell? ⟨g, 2, none⟩ = some (.slice PB 1 dB) := blk_cell HM.out.blk 2
  obtain ⟨ad, B1, d1, B2, d2, rfl, y0, y1, y2, l1, hC1, l2, hC2⟩ := at_T25 (Kd.R_reads' HM.out.rb).2.2 0 (Int.le_refl _) (by rw [full_len]; simp)
  have e : rd_T25 (full mkB [b]) 0 = b := rfl
  rw [e] at y0 y1 y2 l1 hC1 l2 hC2
  have HC1 := Aside0.mk (And.intro l1 hC1)
  have HC2 := Aside0.mk (And.intro l2 hC2)
  clear e l1 hC1 l2 hC2
  have hz : (0 : Int).toNat * 3 = 0 := rfl
  rw [hz] at y0 y1 y2
  have ha : ad.add 0 = ad := by cases ad; rfl
  rw [ha] at y0 y1 y2
  clear ha hz
  go_wp2_with (fail)
  refine (steps_in b B1 B2 d1 d2 w3 HC1.out.2 HC1.out.1 HC2.out.2 HC2.out.1 HS.out.ins).mono ?_
  rintro e w4 ⟨rfl, hb⟩
  replace HM := Aside0.mk (HM.out.below hb)
  replace H1 := Aside0.mk (Kd.C_below H1.out hb)
  replace H2 := Aside0.mk (Kd.C_below H2.out hb)
  replace HB := Aside0.mk (wB HB.out hb)
  replace HK3 := Aside0.mk (blk_below HK3.out hb)
  replace HK5 := Aside0.mk (blk_below HK5.out hb)
  replace HLIT := Aside0.mk (Kd.C_below HLIT.out hb)
  clear hb y0 y1 y2 p2 HC1 HC2
  go_wp2_with (fail)
  refine (point_in a0 w4).mono ?_
  rintro e w5 ⟨rfl, hd⟩
  have hb := hd.below
  replace HM := Aside0.mk (HM.out.below hb)
  replace H1 := Aside0.mk (Kd.C_below H1.out hb)
  replace H2 := Aside0.mk (Kd.C_below H2.out hb)
  replace HB := Aside0.mk (wB HB.out hb)
  replace HK3 := Aside0.mk (blk_below HK3.out hb)
  replace HK5 := Aside0.mk (blk_below HK5.out hb)
  replace HLIT := Aside0.mk (Kd.C_below HLIT.out hb)
  clear hb hd
  go_wp2_with (fail)
  refine (point_ref a0 w5).mono ?_
  rintro e w6 ⟨rfl, hd⟩
  have hb := hd.below
  replace HM := Aside0.mk (HM.out.below hb)
  replace H1 := Aside0.mk (Kd.C_below H1.out hb)
  replace H2 := Aside0.mk (Kd.C_below H2.out hb)
  replace HB := Aside0.mk (wB HB.out hb)
  replace HK3 := Aside0.mk (blk_below HK3.out hb)
  replace HK5 := Aside0.mk (blk_below HK5.out hb)
  replace HLIT := Aside0.mk (Kd.C_below HLIT.out hb)
  clear hb hd
  generalize pointB a0 = pb
  have y0 : w6.cell? ⟨g3, 0, none⟩ = some (.int .i64 b.f0) := blk_cell HK3.out 0
  have y1 : w6.cell? ⟨g3, 1, none⟩ = some (.slice A1 b.f1.length c1) := blk_cell HK3.out 1
  have y2 : w6.cell? ⟨g3, 2, none⟩ = some (.slice A2 b.f2.length c2) := blk_cell HK3.out 2
  have hpp : (pb == pb) = true := beq_self_eq_true pb
  go_wp2_with (fail)
  refine (steps_ref b A1 A2 c1 c2 w6 H1.out HC.out.1 H2.out HC.out.2 HS.out.ins).mono ?_
  rintro e w7 ⟨rfl, hb⟩
  replace HM := Aside0.mk (HM.out.below hb)
  replace HB := Aside0.mk (wB HB.out hb)
  replace HK5 := Aside0.mk (blk_below HK5.out hb)
  replace HLIT := Aside0.mk (Kd.C_below HLIT.out hb)
  clear hb y0 y1 y2
  generalize stepsS b.f1 0 = st
  have hss : (st == st) = true := beq_self_eq_true st
  have x0 : w7.cell? ⟨g5, 0, none⟩ = some (.int .i64 0) := blk_cell HK5.out 0
  have x1 : w7.cell? ⟨g5, 1, none⟩ = some (.int .i64 0) := blk_cell HK5.out 1
  have x2 : w7.cell? ⟨g5, 2, none⟩ = some (.slice (some ⟨q, 0, none⟩) 1 1) := blk_cell HK5.out 2
  go_wp2_with (fail)
  refine (kept_calls w2.heap.size g w7 0 0 0 0 _ (some ⟨q, 0, none⟩) dB 1 vO vS vN vI O S NX I [b] HM.out HLIT.out (Nat.le_refl _) (small_one HS.out)).mono ?_
  rintro e w8 ⟨rfl, hb⟩
  go_wp2
  go_ret
  exact ⟨rfl, wB HB.out hb⟩
end Go.Proofs.Ytdjpamgjmpibnaa.PHc
