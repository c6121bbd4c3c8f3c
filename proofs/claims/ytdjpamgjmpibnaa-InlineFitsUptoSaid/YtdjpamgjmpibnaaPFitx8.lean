-- written by a program of this session (leafprint.py) over the translation; Lean checks it
import Derived.Test.YtdjpamgjmpibnaaPFitx0
import Derived.Test.YtdjpamgjmpibnaaPFitx7
namespace Go.Proofs.Ytdjpamgjmpibnaa.PFit
open Go.RowKit Go.Proofs.YtdjpamgjmpibnaaW.PrintWords Go.Proofs.YtdjpamgjmpibnaaW.PrintLast Go.Proofs.YtdjpamgjmpibnaaW.PrintMore
attribute [local go_sem] max2_int min2_int max_two min_two max_three min_three max_four min_four   -- for this text's walks alone
set_option linter.unusedVariables false
set_option linter.unusedSimpArgs false

/-! ### portageref20_Fits: function 13 -/
mutual
def portageref20_Fits.j0 : Nat → Int → Bool → List (S56) → List (S60) → Option (Bool)
  | 0, _, _, _, _ => none
  | k + 1, x1, x18, x177000, x177001 => if x18 = true then (some false) else (if 0 ≤ x1 then (if x1 < (x177001.length : Int) then (if (((rd_T60 x177001 x1).f3).length : Int) < 1 then (portageref20_Fits.j1 k (((rd_T60 x177001 x1).f3).length : Int) true ((rd_T60 x177001 x1).f0) ((rd_T60 x177001 x1).f1) ((rd_T60 x177001 x1).f2) ((rd_T60 x177001 x1).f3) ((rd_T60 x177001 x1).f4)) else (if (((rd_T60 x177001 x1).f3).length : Int) > 24 then (portageref20_Fits.j1 k (((rd_T60 x177001 x1).f3).length : Int) true ((rd_T60 x177001 x1).f0) ((rd_T60 x177001 x1).f1) ((rd_T60 x177001 x1).f2) ((rd_T60 x177001 x1).f3) ((rd_T60 x177001 x1).f4)) else (if (((rd_T60 x177001 x1).f4).length : Int) > 0 then (portageref20_Fits.j1 k (((rd_T60 x177001 x1).f3).length : Int) true ((rd_T60 x177001 x1).f0) ((rd_T60 x177001 x1).f1) ((rd_T60 x177001 x1).f2) ((rd_T60 x177001 x1).f3) ((rd_T60 x177001 x1).f4)) else (if 0 ≤ (wrap64 ((((rd_T60 x177001 x1).f3).length : Int) - 1)) then (if (wrap64 ((((rd_T60 x177001 x1).f3).length : Int) - 1)) < (((rd_T60 x177001 x1).f3).length : Int) then (portageref20_Fits.j1 k (((rd_T60 x177001 x1).f3).length : Int) (((rd_T64 ((rd_T60 x177001 x1).f3) (wrap64 ((((rd_T60 x177001 x1).f3).length : Int) - 1))).f0) != 44) ((rd_T60 x177001 x1).f0) ((rd_T60 x177001 x1).f1) ((rd_T60 x177001 x1).f2) ((rd_T60 x177001 x1).f3) ((rd_T60 x177001 x1).f4)) else (none)) else (none))))) else (none)) else (none))
def portageref20_Fits.j1 : Nat → Int → Bool → ByteArray → Int → Int → List (S64) → List (S75) → Option (Bool)
  | 0, _, _, _, _, _, _, _ => none
  | k + 1, x6, x48, x179000, x179001, x179002, x179003, x179004 => if x48 = true then (some false) else (portageref20_Fits.l0 k x6 0 x179000 x179001 x179002 x179003 x179004)
def portageref20_Fits.l0 : Nat → Int → Int → ByteArray → Int → Int → List (S64) → List (S75) → Option (Bool)
  | 0, _, _, _, _, _, _, _ => none
  | k + 1, x6, x7, x179000, x179001, x179002, x179003, x179004 => if x7 < (wrap64 (x6 - 1)) then (if 0 ≤ x7 then (if x7 < (x179003.length : Int) then (if ((rd_T64 x179003 x7).f0) ≥ 0 then (if (((rd_T64 x179003 x7).f0) ≤ 11) then (portageref20_Fits.l0 k x6 (wrap64 (x7 + 1)) x179000 x179001 x179002 x179003 x179004) else ((portageref13_Applies.f ((rd_T64 x179003 x7).f0)).bind fun t181 => (if t181 = true then (portageref20_Fits.l0 k x6 (wrap64 (x7 + 1)) x179000 x179001 x179002 x179003 x179004) else (if ((rd_T64 x179003 x7).f0) = 58 then (portageref20_Fits.l0 k x6 (wrap64 (x7 + 1)) x179000 x179001 x179002 x179003 x179004) else (if ((rd_T64 x179003 x7).f0) = 59 then (portageref20_Fits.l0 k x6 (wrap64 (x7 + 1)) x179000 x179001 x179002 x179003 x179004) else (some false)))))) else ((portageref13_Applies.f ((rd_T64 x179003 x7).f0)).bind fun t182 => (if t182 = true then (portageref20_Fits.l0 k x6 (wrap64 (x7 + 1)) x179000 x179001 x179002 x179003 x179004) else (if ((rd_T64 x179003 x7).f0) = 58 then (portageref20_Fits.l0 k x6 (wrap64 (x7 + 1)) x179000 x179001 x179002 x179003 x179004) else (if ((rd_T64 x179003 x7).f0) = 59 then (portageref20_Fits.l0 k x6 (wrap64 (x7 + 1)) x179000 x179001 x179002 x179003 x179004) else (some false)))))) else (none)) else (none)) else (some true)
end
def portageref20_Fits.f (k : Nat) (l0_0 : List (S56)) (l0_1 : List (S60)) (a1 : Int) : Option (Bool) := if a1 < 0 then (portageref20_Fits.j0 k a1 true l0_0 l0_1) else (portageref20_Fits.j0 k a1 (decide (a1 ≥ (l0_1.length : Int))) l0_0 l0_1)
theorem portageref20_Fits.mono_l : ∀ k, (∀ y0 y1 y2 y3, LeO (portageref20_Fits.j0 k y0 y1 y2 y3) (portageref20_Fits.j0 (k + 1) y0 y1 y2 y3)) ∧ (∀ y0 y1 y2 y3 y4 y5 y6, LeO (portageref20_Fits.j1 k y0 y1 y2 y3 y4 y5 y6) (portageref20_Fits.j1 (k + 1) y0 y1 y2 y3 y4 y5 y6)) ∧ (∀ y0 y1 y2 y3 y4 y5 y6, LeO (portageref20_Fits.l0 k y0 y1 y2 y3 y4 y5 y6) (portageref20_Fits.l0 (k + 1) y0 y1 y2 y3 y4 y5 y6))
  | 0 => ⟨fun _ _ _ _ r h => by simp [portageref20_Fits.j0] at h, fun _ _ _ _ _ _ _ r h => by simp [portageref20_Fits.j1] at h, fun _ _ _ _ _ _ _ r h => by simp [portageref20_Fits.l0] at h⟩
  | k + 1 => by
    obtain ⟨ih0, ih1, ih2⟩ := portageref20_Fits.mono_l k
    refine ⟨?_, ?_, ?_⟩
    · intro y0 y1 y2 y3
      unfold portageref20_Fits.j0
      repeat' first
      | (with_reducible exact ih0 _ _ _ _)
      | (with_reducible exact ih1 _ _ _ _ _ _ _)
      | (with_reducible exact ih2 _ _ _ _ _ _ _)
      | (with_reducible exact LeO.refl _)
      | (with_reducible exact LeO.none _)
      | (with_reducible refine LeO.ite ?_ ?_)
      | (with_reducible refine LeO.bind ?_ (fun _ => ?_))
      | exact ih0 _ _ _ _
      | exact ih1 _ _ _ _ _ _ _
      | exact ih2 _ _ _ _ _ _ _
      | exact LeO.none _
      | refine LeO.ite ?_ ?_
      | refine LeO.bind ?_ (fun _ => ?_)
    · intro y0 y1 y2 y3 y4 y5 y6
      unfold portageref20_Fits.j1
      repeat' first
      | (with_reducible exact ih0 _ _ _ _)
      | (with_reducible exact ih1 _ _ _ _ _ _ _)
      | (with_reducible exact ih2 _ _ _ _ _ _ _)
      | (with_reducible exact LeO.refl _)
      | (with_reducible exact LeO.none _)
      | (with_reducible refine LeO.ite ?_ ?_)
      | (with_reducible refine LeO.bind ?_ (fun _ => ?_))
      | exact ih0 _ _ _ _
      | exact ih1 _ _ _ _ _ _ _
      | exact ih2 _ _ _ _ _ _ _
      | exact LeO.none _
      | refine LeO.ite ?_ ?_
      | refine LeO.bind ?_ (fun _ => ?_)
    · intro y0 y1 y2 y3 y4 y5 y6
      unfold portageref20_Fits.l0
      repeat' first
      | (with_reducible exact ih0 _ _ _ _)
      | (with_reducible exact ih1 _ _ _ _ _ _ _)
      | (with_reducible exact ih2 _ _ _ _ _ _ _)
      | (with_reducible exact LeO.refl _)
      | (with_reducible exact LeO.none _)
      | (with_reducible refine LeO.ite ?_ ?_)
      | (with_reducible refine LeO.bind ?_ (fun _ => ?_))
      | exact ih0 _ _ _ _
      | exact ih1 _ _ _ _ _ _ _
      | exact ih2 _ _ _ _ _ _ _
      | exact LeO.none _
      | refine LeO.ite ?_ ?_
      | refine LeO.bind ?_ (fun _ => ?_)
theorem portageref20_Fits.mono : ∀ a0 a1 a2 k, LeO (portageref20_Fits.f k a0 a1 a2) (portageref20_Fits.f (k + 1) a0 a1 a2) := by
  intro a0 a1 a2 k
  obtain ⟨ih0, ih1, ih2⟩ := portageref20_Fits.mono_l k
  unfold portageref20_Fits.f
  repeat' first
      | (with_reducible exact ih0 _ _ _ _)
      | (with_reducible exact ih1 _ _ _ _ _ _ _)
      | (with_reducible exact ih2 _ _ _ _ _ _ _)
      | (with_reducible exact LeO.refl _)
      | (with_reducible exact LeO.none _)
      | (with_reducible refine LeO.ite ?_ ?_)
      | (with_reducible refine LeO.bind ?_ (fun _ => ?_))
      | exact ih0 _ _ _ _
      | exact ih1 _ _ _ _ _ _ _
      | exact ih2 _ _ _ _ _ _ _
      | exact LeO.none _
      | refine LeO.ite ?_ ?_
      | refine LeO.bind ?_ (fun _ => ?_)
set_option maxHeartbeats 8000000 in
set_option maxRecDepth 100000 in
theorem portageref20_Fits.calls (k : Nat) (A0_0 : Option Addr) (c0_0 : Nat) (l0_0 : List (S56)) (A0_1 : Option Addr) (c0_1 : Nat) (l0_1 : List (S60)) (a1 : Int) (r : Bool) (w : World) (hr0_0 : Kd.C k56 w A0_0 l0_0.length l0_0) (hc0_0 : l0_0.length ≤ c0_0) (hr0_1 : Kd.C k60 w A0_1 l0_1.length l0_1) (hc0_1 : l0_1.length ≤ c0_1) (h : portageref20_Fits.f k l0_0 l0_1 a1 = some r) :
    Calls Try.prog 13 #[.agg #[.slice A0_0 l0_0.length c0_0, .slice A0_1 l0_1.length c0_1], .int .i64 a1] w fun e w' => e = .returned (.bool r) ∧ Below w.heap.size w w' := by
  have hu44 := Try.underlying44
  have hu60 := Try.underlying60
  have HR0_0 := Aside0.mk hr0_0
  have HC0_0 := Aside0.mk hc0_0
  clear hr0_0 hc0_0
  have HR0_1 := Aside0.mk hr0_1
  have HC0_1 := Aside0.mk hc0_1
  clear hr0_1 hc0_1
  have HB := Aside0.mk (Below.refl w.heap.size w)
  have H : (if a1 < 0 then (portageref20_Fits.j0 k a1 true l0_0 l0_1) else (portageref20_Fits.j0 k a1 (decide (a1 ≥ (l0_1.length : Int))) l0_0 l0_1)) = some r := h
  clear h
  have HC3 := Aside0.mk H
  clear H
  go_enter Try.func13, Try.ntmps13
  go_upto_region 1 with (first | ((with_reducible refine gate_dst (N := 2) rfl ?_); (try (refine gate_guard (by rfl) ?_; dsimp only)); refine box_event ?hg (N := 2) ?hd (cs := #[.slice A0_0 l0_0.length c0_0, .slice A0_1 l0_1.length c0_1]) (t := 44) ?hr ?_; (case hd => rfl); (case hg => rfl); (case hr => first | (go_simp; done) | (go_simp; rfl)); intro gb176 hg w4 hbox hb; have n0_ := Aside0.mk (below_step (by repeat (first | (with_reducible first | exact HB.out | apply below_alloc | apply pw_below_drewN | apply below_drew1) | exact HB.out)) hb); have n1_ := Aside0.mk (hbox); have n2_ := Aside0.mk ((by rw [hg]; exact (below_size (by repeat (first | (with_reducible first | exact HB.out | apply below_alloc | apply pw_below_drewN | apply below_drew1) | exact HB.out))) : w.heap.size ≤ gb176)); have n3_ := Aside0.mk ((by rw [hg]; exact (below_size (by repeat (first | (with_reducible first | exact HB.out | apply below_alloc | apply pw_below_drewN | apply below_drew1) | exact HB.out))) : w.heap.size ≤ gb176)); clear HB; have HB := n0_; have BK176 := n1_; have GW176 := n2_; have GE176 := n3_; clear n0_ n1_ n2_ n3_; clear hb hbox hg))
  (try simp only [Act.put, List.setIfInBounds_toArray, List.set_cons_zero, List.set_cons_succ])
  go_cut [18] (fun v18 wc => ∃ (kq : Nat) (x18_2 : Bool), v18 = .bool x18_2 ∧ Aside0 (portageref20_Fits.j0 kq a1 x18_2 l0_0 l0_1 = some r) ∧ Aside0 (kq ≤ k) ∧ Aside0 (wc.heap[gb176]? = some (.cells #[(.slice A0_0 l0_0.length c0_0), (.slice A0_1 l0_1.length c0_1)] 44 (0, 0))) ∧ Aside0 (Below w.heap.size w wc))
  case first =>
    have H := HC3.out
    clear HC3
    by_cases c5 : a1 < 0
    · rw [if_pos c5] at H
      have c5b0 : decide (a1 < 0) = true := decide_eq_true c5
      clear c5
      (first | rw [c5b0] | (simp only [i64_w, i32_w]; rw [c5b0]) | skip)
      have H' := Aside0.mk H
      clear H
      go_wp2
      go_meet
      case rel => exact ⟨_, (true), (by first | rfl | (simp; done) | (simp [*]; done)), H', ⟨by first | omega | exact Nat.le_refl _⟩, ⟨by (with_reducible repeat (first | refine blk_drewN ?_ _ | refine blk_drew ?_ | refine blk_alloc ?_ _)); exact BK176.out⟩, ⟨by repeat (first | (with_reducible first | exact HB.out | apply below_alloc | apply pw_below_drewN | apply below_drew1 | refine below_set ?_ GE176.out) | exact HB.out)⟩⟩
    · rw [if_neg c5] at H
      have c5b0 : decide (a1 < 0) = false := decide_eq_false c5
      clear c5
      (first | rw [c5b0] | (simp only [i64_w, i32_w]; rw [c5b0]) | skip)
      have H' := Aside0.mk H
      clear H
      have hcz6_0 : w4.cell? ⟨gb176, 0, none⟩ = some (.slice A0_0 l0_0.length c0_0) := (blk_cell BK176.out 0).trans rfl
      have hcz6_1 : w4.cell? ⟨gb176, 1, none⟩ = some (.slice A0_1 l0_1.length c0_1) := (blk_cell BK176.out 1).trans rfl
      have hfz6_0 := blk_frozen BK176.out 0
      have hfz6_1 := blk_frozen BK176.out 1
      go_wp2
      go_meet
      case rel => exact ⟨_, (decide (a1 ≥ (l0_1.length : Int))), (by first | rfl | (simp; done) | (simp [*]; done)), H', ⟨by first | omega | exact Nat.le_refl _⟩, ⟨by (with_reducible repeat (first | refine blk_drewN ?_ _ | refine blk_drew ?_ | refine blk_alloc ?_ _)); exact BK176.out⟩, ⟨by repeat (first | (with_reducible first | exact HB.out | apply below_alloc | apply pw_below_drewN | apply below_drew1 | refine below_set ?_ GE176.out) | exact HB.out)⟩⟩
  case rest =>
    clear HC3
    try clear c1
    try clear p2
    try clear c5
    try clear c5b0
    try clear hcz6_0
    try clear hcz6_1
    try clear hfz6_0
    try clear hfz6_1
    obtain ⟨kq, x18_2, rfl, HA, HJ2, BK176, HB⟩ := hcut
    cases kq with
    | zero => exact absurd HA.out (by simp [portageref20_Fits.j0])
    | succ kj2 =>
      have H := HA.out
      clear HA
      simp only [portageref20_Fits.j0] at H
      by_cases c7 : x18_2 = true
      · subst c7
        have H1 : (some false) = some r := by rw [if_pos rfl] at H; exact H
        clear H
        have H := H1
        clear H1
        obtain rfl := Option.some.inj H
        go_wp2
        go_ret
        exact ⟨by first | rfl | (simp [errW_none, errW_some] <;> rfl) | (simp [*, errW_none, errW_some] <;> rfl), by repeat (first | (with_reducible first | exact HB.out | apply below_alloc | apply pw_below_drewN | apply below_drew1 | refine below_set ?_ GE176.out) | exact HB.out)⟩
      · replace c7 := Bool.eq_false_iff.mpr c7
        subst c7
        have H1 : (if 0 ≤ a1 then (if a1 < (l0_1.length : Int) then (if (((rd_T60 l0_1 a1).f3).length : Int) < 1 then (portageref20_Fits.j1 kj2 (((rd_T60 l0_1 a1).f3).length : Int) true ((rd_T60 l0_1 a1).f0) ((rd_T60 l0_1 a1).f1) ((rd_T60 l0_1 a1).f2) ((rd_T60 l0_1 a1).f3) ((rd_T60 l0_1 a1).f4)) else (if (((rd_T60 l0_1 a1).f3).length : Int) > 24 then (portageref20_Fits.j1 kj2 (((rd_T60 l0_1 a1).f3).length : Int) true ((rd_T60 l0_1 a1).f0) ((rd_T60 l0_1 a1).f1) ((rd_T60 l0_1 a1).f2) ((rd_T60 l0_1 a1).f3) ((rd_T60 l0_1 a1).f4)) else (if (((rd_T60 l0_1 a1).f4).length : Int) > 0 then (portageref20_Fits.j1 kj2 (((rd_T60 l0_1 a1).f3).length : Int) true ((rd_T60 l0_1 a1).f0) ((rd_T60 l0_1 a1).f1) ((rd_T60 l0_1 a1).f2) ((rd_T60 l0_1 a1).f3) ((rd_T60 l0_1 a1).f4)) else (if 0 ≤ (wrap64 ((((rd_T60 l0_1 a1).f3).length : Int) - 1)) then (if (wrap64 ((((rd_T60 l0_1 a1).f3).length : Int) - 1)) < (((rd_T60 l0_1 a1).f3).length : Int) then (portageref20_Fits.j1 kj2 (((rd_T60 l0_1 a1).f3).length : Int) (((rd_T64 ((rd_T60 l0_1 a1).f3) (wrap64 ((((rd_T60 l0_1 a1).f3).length : Int) - 1))).f0) != 44) ((rd_T60 l0_1 a1).f0) ((rd_T60 l0_1 a1).f1) ((rd_T60 l0_1 a1).f2) ((rd_T60 l0_1 a1).f3) ((rd_T60 l0_1 a1).f4)) else (none)) else (none))))) else (none)) else (none)) = some r := by rw [if_neg (show ¬ (false = true) by decide)] at H; exact H
        clear H
        have H := H1
        clear H1
        by_cases c8 : 0 ≤ a1
        · rw [if_pos c8] at H
          have c8b0 : decide (0 ≤ a1) = true := decide_eq_true c8
          clear c8
          by_cases c9 : a1 < (l0_1.length : Int)
          · rw [if_pos c9] at H
            have c9b0 : decide (a1 < (l0_1.length : Int)) = true := decide_eq_true c9
            clear c9
            have HC10 := Aside0.mk H
            clear H
            have hcz11_0 : wc.cell? ⟨gb176, 0, none⟩ = some (.slice A0_0 l0_0.length c0_0) := (blk_cell BK176.out 0).trans rfl
            have hcz11_1 : wc.cell? ⟨gb176, 1, none⟩ = some (.slice A0_1 l0_1.length c0_1) := (blk_cell BK176.out 1).trans rfl
            have hfz11_0 := blk_frozen BK176.out 0
            have hfz11_1 := blk_frozen BK176.out 1
            have p177 : 0 ≤ (a1 : Int) := of_decide_eq_true (by first | (with_reducible assumption) | assumption)
            have q177 : a1 < (l0_1.length : Int) := of_decide_eq_true (by first | (with_reducible assumption) | assumption)
            obtain ⟨ad177, A177_3, c177_3, A177_4, c177_4, e177, hx177_0, hx177_1, hx177_2, hx177_3, hx177_4, hl177_3, hi177_3, hl177_4, hi177_4⟩ := at_T60 HR0_1.out a1 p177 q177
            cases e177
            replace hx177_0 := (HB.out.cell (World.block_lt_of_cell? w _ hx177_0)).trans hx177_0
            replace hx177_1 := (HB.out.cell (World.block_lt_of_cell? w _ hx177_1)).trans hx177_1
            replace hx177_2 := (HB.out.cell (World.block_lt_of_cell? w _ hx177_2)).trans hx177_2
            replace hx177_3 := (HB.out.cell (World.block_lt_of_cell? w _ hx177_3)).trans hx177_3
            replace hx177_4 := (HB.out.cell (World.block_lt_of_cell? w _ hx177_4)).trans hx177_4
            have HR177_3 := Aside0.mk hi177_3
            have HC177_3 := Aside0.mk hl177_3
            clear hi177_3 hl177_3
            have HR177_4 := Aside0.mk hi177_4
            have HC177_4 := Aside0.mk hl177_4
            clear hi177_4 hl177_4
            replace p177 := eq_true p177
            replace q177 := eq_true q177
            go_upto_region 5 with (first | ((with_reducible refine gate_dst (N := 5) rfl ?_); (try (refine gate_guard (by rfl) ?_; dsimp only)); refine box_event ?hg (N := 5) ?hd (cs := #[.string (⟨#[]⟩ : ByteArray), .int .i64 0, .int .i64 0, .slice none 0 0, .slice none 0 0]) (t := 60) ?hr ?_; (case hd => rfl); (case hg => rfl); (case hr => first | (go_simp; done) | (go_simp; rfl)); intro gb178 hg w12 hbox hb; have n0_ := Aside0.mk (blk_below (g := gb176) (o := .cells #[.slice A0_0 l0_0.length c0_0, .slice (some ad177) l0_1.length c0_1] 44 (0, 0)) (by (with_reducible repeat (first | refine blk_drewN ?_ _ | refine blk_drew ?_ | refine blk_alloc ?_ _)); exact BK176.out) hb); have n1_ := Aside0.mk (below_step (by repeat (first | (with_reducible first | exact HB.out | apply below_alloc | apply pw_below_drewN | apply below_drew1 | refine below_set ?_ GE176.out) | exact HB.out)) hb); have n2_ := Aside0.mk (hbox); have n3_ := Aside0.mk ((by rw [hg]; exact (below_size (by repeat (first | (with_reducible first | exact HB.out | apply below_alloc | apply pw_below_drewN | apply below_drew1 | refine below_set ?_ GE176.out) | exact HB.out))) : w.heap.size ≤ gb178)); have n4_ := Aside0.mk ((by rw [hg]; exact (below_size (by repeat (first | (with_reducible first | exact HB.out | apply below_alloc | apply pw_below_drewN | apply below_drew1 | refine below_set ?_ GE176.out) | exact HB.out))) : w.heap.size ≤ gb178)); have n5_ := Aside0.mk ((by rw [hg]; exact Nat.ne_of_lt (blk_lt (g := gb176) (o := .cells #[.slice A0_0 l0_0.length c0_0, .slice (some ad177) l0_1.length c0_1] 44 (0, 0)) (by (with_reducible repeat (first | refine blk_drewN ?_ _ | refine blk_drew ?_ | refine blk_alloc ?_ _)); exact BK176.out)) : gb176 ≠ gb178)); have n6_ := Aside0.mk ((by rw [hg]; exact Nat.ne_of_gt (blk_lt (g := gb176) (o := .cells #[.slice A0_0 l0_0.length c0_0, .slice (some ad177) l0_1.length c0_1] 44 (0, 0)) (by (with_reducible repeat (first | refine blk_drewN ?_ _ | refine blk_drew ?_ | refine blk_alloc ?_ _)); exact BK176.out)) : gb178 ≠ gb176)); clear BK176; clear HB; have BK176 := n0_; have HB := n1_; have BK178 := n2_; have GW178 := n3_; have GE178 := n4_; have NB176_178 := n5_; have NB178_176 := n6_; clear n0_ n1_ n2_ n3_ n4_ n5_ n6_; clear hb hbox hg; have hnb13 := NB178_176.out; have hnc13 := NB176_178.out; have hcz14_0 : w12.cell? ⟨gb178, 0, none⟩ = some (.string (⟨#[]⟩ : ByteArray)) := (blk_cell BK178.out 0).trans rfl; have hcz14_1 : w12.cell? ⟨gb178, 1, none⟩ = some (.int .i64 0) := (blk_cell BK178.out 1).trans rfl; have hcz14_2 : w12.cell? ⟨gb178, 2, none⟩ = some (.int .i64 0) := (blk_cell BK178.out 2).trans rfl; have hcz14_3 : w12.cell? ⟨gb178, 3, none⟩ = some (.slice none 0 0) := (blk_cell BK178.out 3).trans rfl; have hcz14_4 : w12.cell? ⟨gb178, 4, none⟩ = some (.slice none 0 0) := (blk_cell BK178.out 4).trans rfl; have hfz14_0 := blk_frozen BK178.out 0; have hfz14_1 := blk_frozen BK178.out 1; have hfz14_2 := blk_frozen BK178.out 2; have hfz14_3 := blk_frozen BK178.out 3; have hfz14_4 := blk_frozen BK178.out 4))
            (try simp only [Act.put, List.setIfInBounds_toArray, List.set_cons_zero, List.set_cons_succ])
            go_cut [48] (fun v48 wc => ∃ (kq : Nat) (x48_9 : Bool), v48 = .bool x48_9 ∧ Aside0 (portageref20_Fits.j1 kq (((rd_T60 l0_1 a1).f3).length : Int) x48_9 ((rd_T60 l0_1 a1).f0) ((rd_T60 l0_1 a1).f1) ((rd_T60 l0_1 a1).f2) ((rd_T60 l0_1 a1).f3) ((rd_T60 l0_1 a1).f4) = some r) ∧ Aside0 (kq ≤ kj2) ∧ Aside0 (wc.heap[gb176]? = some (.cells #[(.slice A0_0 l0_0.length c0_0), (.slice (some ad177) l0_1.length c0_1)] 44 (0, 0))) ∧ Aside0 (wc.heap[gb178]? = some (.cells #[.string ((rd_T60 l0_1 a1).f0), .int .i64 ((rd_T60 l0_1 a1).f1), .int .i64 ((rd_T60 l0_1 a1).f2), (.slice A177_3 ((rd_T60 l0_1 a1).f3).length c177_3), (.slice A177_4 ((rd_T60 l0_1 a1).f4).length c177_4)] 60 (0, 0))) ∧ Aside0 (Below w.heap.size w wc))
            case first =>
              have H := HC10.out
              clear HC10
              by_cases c15 : (((rd_T60 l0_1 a1).f3).length : Int) < 1
              · rw [if_pos c15] at H
                have c15b0 : decide ((((rd_T60 l0_1 a1).f3).length : Int) < 1) = true := decide_eq_true c15
                have c15b1 : decide (((rd_T60 l0_1 a1).f3).length < 1) = true := decide_eq_true (by omega)
                clear c15
                (first | rw [c15b0] | (simp only [i64_w, i32_w]; rw [c15b0]) | skip)
                have H' := Aside0.mk H
                clear H
                go_wp2
                go_meet
                case rel => exact ⟨_, (true), (by first | rfl | (simp; done) | (simp [*]; done)), H', ⟨by have := HJ2.out; first | omega | exact Nat.le_refl _⟩, ⟨by (with_reducible repeat (first | refine blk_drewN ?_ _ | refine blk_drew ?_ | refine blk_alloc ?_ _)); refine blk_far ?_ NB176_178.out _; (with_reducible repeat (first | refine blk_drewN ?_ _ | refine blk_drew ?_ | refine blk_alloc ?_ _)); refine blk_far ?_ NB176_178.out _; (with_reducible repeat (first | refine blk_drewN ?_ _ | refine blk_drew ?_ | refine blk_alloc ?_ _)); refine blk_far ?_ NB176_178.out _; (with_reducible repeat (first | refine blk_drewN ?_ _ | refine blk_drew ?_ | refine blk_alloc ?_ _)); refine blk_far ?_ NB176_178.out _; (with_reducible repeat (first | refine blk_drewN ?_ _ | refine blk_drew ?_ | refine blk_alloc ?_ _)); refine blk_far ?_ NB176_178.out _; (with_reducible repeat (first | refine blk_drewN ?_ _ | refine blk_drew ?_ | refine blk_alloc ?_ _)); exact BK176.out⟩, ⟨by (with_reducible repeat (first | refine blk_drewN ?_ _ | refine blk_drew ?_ | refine blk_alloc ?_ _)); refine blk_put (cs := #[.string ((rd_T60 l0_1 a1).f0), .int .i64 ((rd_T60 l0_1 a1).f1), .int .i64 ((rd_T60 l0_1 a1).f2), .slice A177_3 ((rd_T60 l0_1 a1).f3).length c177_3, .slice none 0 0]) ?_ 4 _ rfl; (with_reducible repeat (first | refine blk_drewN ?_ _ | refine blk_drew ?_ | refine blk_alloc ?_ _)); refine blk_put (cs := #[.string ((rd_T60 l0_1 a1).f0), .int .i64 ((rd_T60 l0_1 a1).f1), .int .i64 ((rd_T60 l0_1 a1).f2), .slice none 0 0, .slice none 0 0]) ?_ 3 _ rfl; (with_reducible repeat (first | refine blk_drewN ?_ _ | refine blk_drew ?_ | refine blk_alloc ?_ _)); refine blk_put (cs := #[.string ((rd_T60 l0_1 a1).f0), .int .i64 ((rd_T60 l0_1 a1).f1), .int .i64 0, .slice none 0 0, .slice none 0 0]) ?_ 2 _ rfl; (with_reducible repeat (first | refine blk_drewN ?_ _ | refine blk_drew ?_ | refine blk_alloc ?_ _)); refine blk_put (cs := #[.string ((rd_T60 l0_1 a1).f0), .int .i64 0, .int .i64 0, .slice none 0 0, .slice none 0 0]) ?_ 1 _ rfl; (with_reducible repeat (first | refine blk_drewN ?_ _ | refine blk_drew ?_ | refine blk_alloc ?_ _)); refine blk_put (cs := #[.string (⟨#[]⟩ : ByteArray), .int .i64 0, .int .i64 0, .slice none 0 0, .slice none 0 0]) ?_ 0 _ rfl; (with_reducible repeat (first | refine blk_drewN ?_ _ | refine blk_drew ?_ | refine blk_alloc ?_ _)); exact BK178.out⟩, ⟨by repeat (first | (with_reducible first | exact HB.out | apply below_alloc | apply pw_below_drewN | apply below_drew1 | refine below_set ?_ GE176.out | refine below_set ?_ GE178.out) | exact HB.out)⟩⟩
              · rw [if_neg c15] at H
                have c15b0 : decide ((((rd_T60 l0_1 a1).f3).length : Int) < 1) = false := decide_eq_false c15
                have c15b1 : decide (((rd_T60 l0_1 a1).f3).length < 1) = false := decide_eq_false (by omega)
                clear c15
                (first | rw [c15b0] | (simp only [i64_w, i32_w]; rw [c15b0]) | skip)
                by_cases c16 : (((rd_T60 l0_1 a1).f3).length : Int) > 24
                · rw [if_pos c16] at H
                  have c16b0 : decide (24 < (((rd_T60 l0_1 a1).f3).length : Int)) = true := decide_eq_true c16
                  have c16b1 : decide (24 < ((rd_T60 l0_1 a1).f3).length) = true := decide_eq_true (by omega)
                  clear c16
                  have H' := Aside0.mk H
                  clear H
                  go_wp2
                  go_meet
                  case rel => exact ⟨_, (true), (by first | rfl | (simp; done) | (simp [*]; done)), H', ⟨by have := HJ2.out; first | omega | exact Nat.le_refl _⟩, ⟨by (with_reducible repeat (first | refine blk_drewN ?_ _ | refine blk_drew ?_ | refine blk_alloc ?_ _)); refine blk_far ?_ NB176_178.out _; (with_reducible repeat (first | refine blk_drewN ?_ _ | refine blk_drew ?_ | refine blk_alloc ?_ _)); refine blk_far ?_ NB176_178.out _; (with_reducible repeat (first | refine blk_drewN ?_ _ | refine blk_drew ?_ | refine blk_alloc ?_ _)); refine blk_far ?_ NB176_178.out _; (with_reducible repeat (first | refine blk_drewN ?_ _ | refine blk_drew ?_ | refine blk_alloc ?_ _)); refine blk_far ?_ NB176_178.out _; (with_reducible repeat (first | refine blk_drewN ?_ _ | refine blk_drew ?_ | refine blk_alloc ?_ _)); refine blk_far ?_ NB176_178.out _; (with_reducible repeat (first | refine blk_drewN ?_ _ | refine blk_drew ?_ | refine blk_alloc ?_ _)); exact BK176.out⟩, ⟨by (with_reducible repeat (first | refine blk_drewN ?_ _ | refine blk_drew ?_ | refine blk_alloc ?_ _)); refine blk_put (cs := #[.string ((rd_T60 l0_1 a1).f0), .int .i64 ((rd_T60 l0_1 a1).f1), .int .i64 ((rd_T60 l0_1 a1).f2), .slice A177_3 ((rd_T60 l0_1 a1).f3).length c177_3, .slice none 0 0]) ?_ 4 _ rfl; (with_reducible repeat (first | refine blk_drewN ?_ _ | refine blk_drew ?_ | refine blk_alloc ?_ _)); refine blk_put (cs := #[.string ((rd_T60 l0_1 a1).f0), .int .i64 ((rd_T60 l0_1 a1).f1), .int .i64 ((rd_T60 l0_1 a1).f2), .slice none 0 0, .slice none 0 0]) ?_ 3 _ rfl; (with_reducible repeat (first | refine blk_drewN ?_ _ | refine blk_drew ?_ | refine blk_alloc ?_ _)); refine blk_put (cs := #[.string ((rd_T60 l0_1 a1).f0), .int .i64 ((rd_T60 l0_1 a1).f1), .int .i64 0, .slice none 0 0, .slice none 0 0]) ?_ 2 _ rfl; (with_reducible repeat (first | refine blk_drewN ?_ _ | refine blk_drew ?_ | refine blk_alloc ?_ _)); refine blk_put (cs := #[.string ((rd_T60 l0_1 a1).f0), .int .i64 0, .int .i64 0, .slice none 0 0, .slice none 0 0]) ?_ 1 _ rfl; (with_reducible repeat (first | refine blk_drewN ?_ _ | refine blk_drew ?_ | refine blk_alloc ?_ _)); refine blk_put (cs := #[.string (⟨#[]⟩ : ByteArray), .int .i64 0, .int .i64 0, .slice none 0 0, .slice none 0 0]) ?_ 0 _ rfl; (with_reducible repeat (first | refine blk_drewN ?_ _ | refine blk_drew ?_ | refine blk_alloc ?_ _)); exact BK178.out⟩, ⟨by repeat (first | (with_reducible first | exact HB.out | apply below_alloc | apply pw_below_drewN | apply below_drew1 | refine below_set ?_ GE176.out | refine below_set ?_ GE178.out) | exact HB.out)⟩⟩
                · rw [if_neg c16] at H
                  have c16b0 : decide (24 < (((rd_T60 l0_1 a1).f3).length : Int)) = false := decide_eq_false c16
                  have c16b1 : decide (24 < ((rd_T60 l0_1 a1).f3).length) = false := decide_eq_false (by omega)
                  clear c16
                  by_cases c17 : (((rd_T60 l0_1 a1).f4).length : Int) > 0
                  · rw [if_pos c17] at H
                    have c17b0 : decide (0 < (((rd_T60 l0_1 a1).f4).length : Int)) = true := decide_eq_true c17
                    have c17b1 : decide (0 < ((rd_T60 l0_1 a1).f4).length) = true := decide_eq_true (by omega)
                    clear c17
                    have H' := Aside0.mk H
                    clear H
                    have hnb18 := NB178_176.out
                    have hnc18 := NB176_178.out
                    have hcz19_0 : w12.cell? ⟨gb178, 0, none⟩ = some (.string (⟨#[]⟩ : ByteArray)) := (blk_cell BK178.out 0).trans rfl
                    have hcz19_1 : w12.cell? ⟨gb178, 1, none⟩ = some (.int .i64 0) := (blk_cell BK178.out 1).trans rfl
                    have hcz19_2 : w12.cell? ⟨gb178, 2, none⟩ = some (.int .i64 0) := (blk_cell BK178.out 2).trans rfl
                    have hcz19_3 : w12.cell? ⟨gb178, 3, none⟩ = some (.slice none 0 0) := (blk_cell BK178.out 3).trans rfl
                    have hcz19_4 : w12.cell? ⟨gb178, 4, none⟩ = some (.slice none 0 0) := (blk_cell BK178.out 4).trans rfl
                    have hfz19_0 := blk_frozen BK178.out 0
                    have hfz19_1 := blk_frozen BK178.out 1
                    have hfz19_2 := blk_frozen BK178.out 2
                    have hfz19_3 := blk_frozen BK178.out 3
                    have hfz19_4 := blk_frozen BK178.out 4
                    go_wp2
                    go_meet
                    case rel => exact ⟨_, (true), (by first | rfl | (simp; done) | (simp [*]; done)), H', ⟨by have := HJ2.out; first | omega | exact Nat.le_refl _⟩, ⟨by (with_reducible repeat (first | refine blk_drewN ?_ _ | refine blk_drew ?_ | refine blk_alloc ?_ _)); refine blk_far ?_ NB176_178.out _; (with_reducible repeat (first | refine blk_drewN ?_ _ | refine blk_drew ?_ | refine blk_alloc ?_ _)); refine blk_far ?_ NB176_178.out _; (with_reducible repeat (first | refine blk_drewN ?_ _ | refine blk_drew ?_ | refine blk_alloc ?_ _)); refine blk_far ?_ NB176_178.out _; (with_reducible repeat (first | refine blk_drewN ?_ _ | refine blk_drew ?_ | refine blk_alloc ?_ _)); refine blk_far ?_ NB176_178.out _; (with_reducible repeat (first | refine blk_drewN ?_ _ | refine blk_drew ?_ | refine blk_alloc ?_ _)); refine blk_far ?_ NB176_178.out _; (with_reducible repeat (first | refine blk_drewN ?_ _ | refine blk_drew ?_ | refine blk_alloc ?_ _)); exact BK176.out⟩, ⟨by (with_reducible repeat (first | refine blk_drewN ?_ _ | refine blk_drew ?_ | refine blk_alloc ?_ _)); refine blk_put (cs := #[.string ((rd_T60 l0_1 a1).f0), .int .i64 ((rd_T60 l0_1 a1).f1), .int .i64 ((rd_T60 l0_1 a1).f2), .slice A177_3 ((rd_T60 l0_1 a1).f3).length c177_3, .slice none 0 0]) ?_ 4 _ rfl; (with_reducible repeat (first | refine blk_drewN ?_ _ | refine blk_drew ?_ | refine blk_alloc ?_ _)); refine blk_put (cs := #[.string ((rd_T60 l0_1 a1).f0), .int .i64 ((rd_T60 l0_1 a1).f1), .int .i64 ((rd_T60 l0_1 a1).f2), .slice none 0 0, .slice none 0 0]) ?_ 3 _ rfl; (with_reducible repeat (first | refine blk_drewN ?_ _ | refine blk_drew ?_ | refine blk_alloc ?_ _)); refine blk_put (cs := #[.string ((rd_T60 l0_1 a1).f0), .int .i64 ((rd_T60 l0_1 a1).f1), .int .i64 0, .slice none 0 0, .slice none 0 0]) ?_ 2 _ rfl; (with_reducible repeat (first | refine blk_drewN ?_ _ | refine blk_drew ?_ | refine blk_alloc ?_ _)); refine blk_put (cs := #[.string ((rd_T60 l0_1 a1).f0), .int .i64 0, .int .i64 0, .slice none 0 0, .slice none 0 0]) ?_ 1 _ rfl; (with_reducible repeat (first | refine blk_drewN ?_ _ | refine blk_drew ?_ | refine blk_alloc ?_ _)); refine blk_put (cs := #[.string (⟨#[]⟩ : ByteArray), .int .i64 0, .int .i64 0, .slice none 0 0, .slice none 0 0]) ?_ 0 _ rfl; (with_reducible repeat (first | refine blk_drewN ?_ _ | refine blk_drew ?_ | refine blk_alloc ?_ _)); exact BK178.out⟩, ⟨by repeat (first | (with_reducible first | exact HB.out | apply below_alloc | apply pw_below_drewN | apply below_drew1 | refine below_set ?_ GE176.out | refine below_set ?_ GE178.out) | exact HB.out)⟩⟩
                  · rw [if_neg c17] at H
                    have c17b0 : decide (0 < (((rd_T60 l0_1 a1).f4).length : Int)) = false := decide_eq_false c17
                    have c17b1 : decide (0 < ((rd_T60 l0_1 a1).f4).length) = false := decide_eq_false (by omega)
                    clear c17
                    obtain ⟨ji20, hji20⟩ : ∃ j_ : Int, (wrap64 ((((rd_T60 l0_1 a1).f3).length : Int) - 1)) = j_ := ⟨_, rfl⟩
                    replace H : (if 0 ≤ (ji20) then (if (ji20) < (((rd_T60 l0_1 a1).f3).length : Int) then (portageref20_Fits.j1 kj2 (((rd_T60 l0_1 a1).f3).length : Int) (((rd_T64 ((rd_T60 l0_1 a1).f3) (ji20)).f0) != 44) ((rd_T60 l0_1 a1).f0) ((rd_T60 l0_1 a1).f1) ((rd_T60 l0_1 a1).f2) ((rd_T60 l0_1 a1).f3) ((rd_T60 l0_1 a1).f4)) else (none)) else (none)) = some r := by first | (rw [hji20] at H; exact H) | (simp only [hji20] at H ⊢; exact H)
                    have hji20w : (IntKind.i64.wrap ((((rd_T60 l0_1 a1).f3).length : Int) - 1)) = ji20 := (i64_w _).trans hji20
                    by_cases c21 : 0 ≤ (ji20)
                    · rw [if_pos c21] at H
                      have c21b0 : decide (0 ≤ (ji20)) = true := decide_eq_true c21
                      clear c21
                      by_cases c22 : (ji20) < (((rd_T60 l0_1 a1).f3).length : Int)
                      · rw [if_pos c22] at H
                        have c22b0 : decide ((ji20) < (((rd_T60 l0_1 a1).f3).length : Int)) = true := decide_eq_true c22
                        clear c22
                        have H' := Aside0.mk H
                        clear H
                        have hnb23 := NB178_176.out
                        have hnc23 := NB176_178.out
                        have hcz24_0 : w12.cell? ⟨gb178, 0, none⟩ = some (.string (⟨#[]⟩ : ByteArray)) := (blk_cell BK178.out 0).trans rfl
                        have hcz24_1 : w12.cell? ⟨gb178, 1, none⟩ = some (.int .i64 0) := (blk_cell BK178.out 1).trans rfl
                        have hcz24_2 : w12.cell? ⟨gb178, 2, none⟩ = some (.int .i64 0) := (blk_cell BK178.out 2).trans rfl
                        have hcz24_3 : w12.cell? ⟨gb178, 3, none⟩ = some (.slice none 0 0) := (blk_cell BK178.out 3).trans rfl
                        have hcz24_4 : w12.cell? ⟨gb178, 4, none⟩ = some (.slice none 0 0) := (blk_cell BK178.out 4).trans rfl
                        have hfz24_0 := blk_frozen BK178.out 0
                        have hfz24_1 := blk_frozen BK178.out 1
                        have hfz24_2 := blk_frozen BK178.out 2
                        have hfz24_3 := blk_frozen BK178.out 3
                        have hfz24_4 := blk_frozen BK178.out 4
                        have p179 : 0 ≤ ((ji20) : Int) := of_decide_eq_true (by first | (with_reducible assumption) | assumption)
                        have q179 : (ji20) < (((rd_T60 l0_1 a1).f3).length : Int) := of_decide_eq_true (by first | (with_reducible assumption) | assumption)
                        obtain ⟨ad179, e179, hx179_0, hx179_1⟩ := at_T64 HR177_3.out (ji20) p179 q179
                        cases e179
                        have hn179_0 : ad179.block ≠ gb178 := Nat.ne_of_lt (Nat.lt_of_lt_of_le (by have := World.block_lt_of_cell? _ _ hx179_0; first | rwa [add_block] at this | exact this) GW178.out)
                        have hn179_1 : ad179.block ≠ gb178 := Nat.ne_of_lt (Nat.lt_of_lt_of_le (by have := World.block_lt_of_cell? _ _ hx179_0; first | rwa [add_block] at this | exact this) GW178.out)
                        have hn179_2 : ad179.block ≠ gb178 := Nat.ne_of_lt (Nat.lt_of_lt_of_le (by have := World.block_lt_of_cell? _ _ hx179_0; first | rwa [add_block] at this | exact this) GW178.out)
                        have hn179_3 : ad179.block ≠ gb178 := Nat.ne_of_lt (Nat.lt_of_lt_of_le (by have := World.block_lt_of_cell? _ _ hx179_0; first | rwa [add_block] at this | exact this) GW178.out)
                        have hn179_4 : ad179.block ≠ gb178 := Nat.ne_of_lt (Nat.lt_of_lt_of_le (by have := World.block_lt_of_cell? _ _ hx179_0; first | rwa [add_block] at this | exact this) GW178.out)
                        replace hx179_0 := (HB.out.cell (World.block_lt_of_cell? w _ hx179_0)).trans hx179_0
                        replace hx179_1 := (HB.out.cell (World.block_lt_of_cell? w _ hx179_1)).trans hx179_1
                        replace hx179_0 := (cell_far (p := ⟨gb178, 0, none⟩) (by first | (rw [add_block]; exact hn179_0) | (show (Addr.add _ _).block ≠ _; rw [add_block]; exact hn179_0) | exact hn179_0) (.string ((rd_T60 l0_1 a1).f0))).trans hx179_0
                        replace hx179_1 := (cell_far (p := ⟨gb178, 0, none⟩) (by first | (rw [add_block]; exact hn179_0) | (show (Addr.add _ _).block ≠ _; rw [add_block]; exact hn179_0) | exact hn179_0) (.string ((rd_T60 l0_1 a1).f0))).trans hx179_1
                        replace hx179_0 := (cell_far (p := ⟨gb178, 1, none⟩) (by first | (rw [add_block]; exact hn179_1) | (show (Addr.add _ _).block ≠ _; rw [add_block]; exact hn179_1) | exact hn179_1) (.int .i64 ((rd_T60 l0_1 a1).f1))).trans hx179_0
                        replace hx179_1 := (cell_far (p := ⟨gb178, 1, none⟩) (by first | (rw [add_block]; exact hn179_1) | (show (Addr.add _ _).block ≠ _; rw [add_block]; exact hn179_1) | exact hn179_1) (.int .i64 ((rd_T60 l0_1 a1).f1))).trans hx179_1
                        replace hx179_0 := (cell_far (p := ⟨gb178, 2, none⟩) (by first | (rw [add_block]; exact hn179_2) | (show (Addr.add _ _).block ≠ _; rw [add_block]; exact hn179_2) | exact hn179_2) (.int .i64 ((rd_T60 l0_1 a1).f2))).trans hx179_0
                        replace hx179_1 := (cell_far (p := ⟨gb178, 2, none⟩) (by first | (rw [add_block]; exact hn179_2) | (show (Addr.add _ _).block ≠ _; rw [add_block]; exact hn179_2) | exact hn179_2) (.int .i64 ((rd_T60 l0_1 a1).f2))).trans hx179_1
                        replace hx179_0 := (cell_far (p := ⟨gb178, 3, none⟩) (by first | (rw [add_block]; exact hn179_3) | (show (Addr.add _ _).block ≠ _; rw [add_block]; exact hn179_3) | exact hn179_3) (.slice (some ad179) ((rd_T60 l0_1 a1).f3).length c177_3)).trans hx179_0
                        replace hx179_1 := (cell_far (p := ⟨gb178, 3, none⟩) (by first | (rw [add_block]; exact hn179_3) | (show (Addr.add _ _).block ≠ _; rw [add_block]; exact hn179_3) | exact hn179_3) (.slice (some ad179) ((rd_T60 l0_1 a1).f3).length c177_3)).trans hx179_1
                        replace hx179_0 := (cell_far (p := ⟨gb178, 4, none⟩) (by first | (rw [add_block]; exact hn179_4) | (show (Addr.add _ _).block ≠ _; rw [add_block]; exact hn179_4) | exact hn179_4) (.slice A177_4 ((rd_T60 l0_1 a1).f4).length c177_4)).trans hx179_0
                        replace hx179_1 := (cell_far (p := ⟨gb178, 4, none⟩) (by first | (rw [add_block]; exact hn179_4) | (show (Addr.add _ _).block ≠ _; rw [add_block]; exact hn179_4) | exact hn179_4) (.slice A177_4 ((rd_T60 l0_1 a1).f4).length c177_4)).trans hx179_1
                        clear hn179_0
                        clear hn179_1
                        clear hn179_2
                        clear hn179_3
                        clear hn179_4
                        replace p179 := eq_true p179
                        replace q179 := eq_true q179
                        go_wp2
                        go_meet
                        case rel => exact ⟨_, ((((rd_T64 ((rd_T60 l0_1 a1).f3) (ji20)).f0) != 44)), (by first | rfl | (simp; done) | (simp only [← hji20] <;> (first | rfl | simp)) | (simp [*]; done)), H', ⟨by have := HJ2.out; first | omega | exact Nat.le_refl _⟩, ⟨by (with_reducible repeat (first | refine blk_drewN ?_ _ | refine blk_drew ?_ | refine blk_alloc ?_ _)); refine blk_far ?_ NB176_178.out _; (with_reducible repeat (first | refine blk_drewN ?_ _ | refine blk_drew ?_ | refine blk_alloc ?_ _)); refine blk_far ?_ NB176_178.out _; (with_reducible repeat (first | refine blk_drewN ?_ _ | refine blk_drew ?_ | refine blk_alloc ?_ _)); refine blk_far ?_ NB176_178.out _; (with_reducible repeat (first | refine blk_drewN ?_ _ | refine blk_drew ?_ | refine blk_alloc ?_ _)); refine blk_far ?_ NB176_178.out _; (with_reducible repeat (first | refine blk_drewN ?_ _ | refine blk_drew ?_ | refine blk_alloc ?_ _)); refine blk_far ?_ NB176_178.out _; (with_reducible repeat (first | refine blk_drewN ?_ _ | refine blk_drew ?_ | refine blk_alloc ?_ _)); exact BK176.out⟩, ⟨by (with_reducible repeat (first | refine blk_drewN ?_ _ | refine blk_drew ?_ | refine blk_alloc ?_ _)); refine blk_put (cs := #[.string ((rd_T60 l0_1 a1).f0), .int .i64 ((rd_T60 l0_1 a1).f1), .int .i64 ((rd_T60 l0_1 a1).f2), .slice (some ad179) ((rd_T60 l0_1 a1).f3).length c177_3, .slice none 0 0]) ?_ 4 _ rfl; (with_reducible repeat (first | refine blk_drewN ?_ _ | refine blk_drew ?_ | refine blk_alloc ?_ _)); refine blk_put (cs := #[.string ((rd_T60 l0_1 a1).f0), .int .i64 ((rd_T60 l0_1 a1).f1), .int .i64 ((rd_T60 l0_1 a1).f2), .slice none 0 0, .slice none 0 0]) ?_ 3 _ rfl; (with_reducible repeat (first | refine blk_drewN ?_ _ | refine blk_drew ?_ | refine blk_alloc ?_ _)); refine blk_put (cs := #[.string ((rd_T60 l0_1 a1).f0), .int .i64 ((rd_T60 l0_1 a1).f1), .int .i64 0, .slice none 0 0, .slice none 0 0]) ?_ 2 _ rfl; (with_reducible repeat (first | refine blk_drewN ?_ _ | refine blk_drew ?_ | refine blk_alloc ?_ _)); refine blk_put (cs := #[.string ((rd_T60 l0_1 a1).f0), .int .i64 0, .int .i64 0, .slice none 0 0, .slice none 0 0]) ?_ 1 _ rfl; (with_reducible repeat (first | refine blk_drewN ?_ _ | refine blk_drew ?_ | refine blk_alloc ?_ _)); refine blk_put (cs := #[.string (⟨#[]⟩ : ByteArray), .int .i64 0, .int .i64 0, .slice none 0 0, .slice none 0 0]) ?_ 0 _ rfl; (with_reducible repeat (first | refine blk_drewN ?_ _ | refine blk_drew ?_ | refine blk_alloc ?_ _)); exact BK178.out⟩, ⟨by repeat (first | (with_reducible first | exact HB.out | apply below_alloc | apply pw_below_drewN | apply below_drew1 | refine below_set ?_ GE176.out | refine below_set ?_ GE178.out) | exact HB.out)⟩⟩
                      · rw [if_neg c22] at H
                        exact absurd H (by simp)
                    · rw [if_neg c21] at H
                      exact absurd H (by simp)
            case rest =>
              clear HC10
              try clear c1
              try clear p1
              try clear q1
              try clear hx1
              try clear c2
              try clear p2
              try clear c5
              try clear c5b0
              try clear p6
              try clear c7
              try clear c8
              try clear c8b0
              try clear c9
              try clear c9b0
              try clear c13
              try clear c15
              try clear c15b0
              try clear c15b1
              try clear c16
              try clear c16b0
              try clear c16b1
              try clear c17
              try clear c17b0
              try clear c17b1
              try clear p17
              try clear q17
              try clear hx17
              try clear c18
              try clear c21
              try clear c21b0
              try clear c22
              try clear c22b0
              try clear c23
              try clear hcz11_0
              try clear hcz11_1
              try clear hcz14_0
              try clear hcz14_1
              try clear hcz14_2
              try clear hcz14_3
              try clear hcz14_4
              try clear hcz19_0
              try clear hcz19_1
              try clear hcz19_2
              try clear hcz19_3
              try clear hcz19_4
              try clear hcz24_0
              try clear hcz24_1
              try clear hcz24_2
              try clear hcz24_3
              try clear hcz24_4
              try clear hcz6_0
              try clear hcz6_1
              try clear hfz11_0
              try clear hfz11_1
              try clear hfz14_0
              try clear hfz14_1
              try clear hfz14_2
              try clear hfz14_3
              try clear hfz14_4
              try clear hfz19_0
              try clear hfz19_1
              try clear hfz19_2
              try clear hfz19_3
              try clear hfz19_4
              try clear hfz24_0
              try clear hfz24_1
              try clear hfz24_2
              try clear hfz24_3
              try clear hfz24_4
              try clear hfz6_0
              try clear hfz6_1
              try clear hx177_0
              try clear hx177_1
              try clear hx177_2
              try clear hx177_3
              try clear hx177_4
              try clear hx179_0
              try clear hx179_1
              try clear p177
              try clear p179
              try clear p2
              try clear q177
              try clear q179
              obtain ⟨kq, x48_9, rfl, HA, HJ9, BK176, BK178, HB⟩ := hcut
              cases kq with
              | zero => exact absurd HA.out (by simp [portageref20_Fits.j1])
              | succ kj9 =>
                have H := HA.out
                clear HA
                simp only [portageref20_Fits.j1] at H
                by_cases c25 : x48_9 = true
                · subst c25
                  have H1 : (some false) = some r := by rw [if_pos rfl] at H; exact H
                  clear H
                  have H := H1
                  clear H1
                  obtain rfl := Option.some.inj H
                  go_wp2
                  go_ret
                  exact ⟨by first | rfl | (simp [errW_none, errW_some] <;> rfl) | (simp [*, errW_none, errW_some] <;> rfl), by repeat (first | (with_reducible first | exact HB.out | apply below_alloc | apply pw_below_drewN | apply below_drew1 | refine below_set ?_ GE176.out | refine below_set ?_ GE178.out) | exact HB.out)⟩
                · replace c25 := Bool.eq_false_iff.mpr c25
                  subst c25
                  have H1 : (portageref20_Fits.l0 kj9 (((rd_T60 l0_1 a1).f3).length : Int) 0 ((rd_T60 l0_1 a1).f0) ((rd_T60 l0_1 a1).f1) ((rd_T60 l0_1 a1).f2) ((rd_T60 l0_1 a1).f3) ((rd_T60 l0_1 a1).f4)) = some r := by rw [if_neg (show ¬ (false = true) by decide)] at H; exact H
                  clear H
                  have H := H1
                  clear H1
                  have H' := Aside0.mk H
                  clear H
                  go_wp2
                  go_loopg [7] kj9 (fun kq v7 w' => ∃ (x7_3 : Int), v7 = .int .i64 x7_3 ∧ Aside0 (portageref20_Fits.l0 kq (((rd_T60 l0_1 a1).f3).length : Int) x7_3 ((rd_T60 l0_1 a1).f0) ((rd_T60 l0_1 a1).f1) ((rd_T60 l0_1 a1).f2) ((rd_T60 l0_1 a1).f3) ((rd_T60 l0_1 a1).f4) = some r) ∧ Aside0 (kq ≤ kj9) ∧ Aside0 (w'.heap[gb176]? = some (.cells #[(.slice A0_0 l0_0.length c0_0), (.slice (some ad177) l0_1.length c0_1)] 44 (0, 0))) ∧ Aside0 (w'.heap[gb178]? = some (.cells #[.string ((rd_T60 l0_1 a1).f0), .int .i64 ((rd_T60 l0_1 a1).f1), .int .i64 ((rd_T60 l0_1 a1).f2), (.slice A177_3 ((rd_T60 l0_1 a1).f3).length c177_3), (.slice A177_4 ((rd_T60 l0_1 a1).f4).length c177_4)] 60 (0, 0))) ∧ Aside0 (Below w.heap.size w w'))
                  case atStart => exact ⟨(0), (by first | rfl | (simp; done) | (simp [*]; done)), H', ⟨Nat.le_refl _⟩, ⟨by (with_reducible repeat (first | refine blk_drewN ?_ _ | refine blk_drew ?_ | refine blk_alloc ?_ _)); exact BK176.out⟩, ⟨by (with_reducible repeat (first | refine blk_drewN ?_ _ | refine blk_drew ?_ | refine blk_alloc ?_ _)); exact BK178.out⟩, ⟨by repeat (first | (with_reducible first | exact HB.out | apply below_alloc | apply pw_below_drewN | apply below_drew1 | refine below_set ?_ GE176.out | refine below_set ?_ GE178.out) | exact HB.out)⟩⟩
                  case round =>
                    clear H'
                    try clear c1
                    try clear p1
                    try clear q1
                    try clear hx1
                    try clear c2
                    try clear p2
                    try clear c5
                    try clear c5b0
                    try clear p6
                    try clear c7
                    try clear c8
                    try clear c8b0
                    try clear c9
                    try clear c9b0
                    try clear c13
                    try clear c15
                    try clear c15b0
                    try clear c15b1
                    try clear c16
                    try clear c16b0
                    try clear c16b1
                    try clear c17
                    try clear c17b0
                    try clear c17b1
                    try clear p17
                    try clear q17
                    try clear hx17
                    try clear c18
                    try clear c21
                    try clear c21b0
                    try clear c22
                    try clear c22b0
                    try clear c23
                    try clear c25
                    try clear hcz11_0
                    try clear hcz11_1
                    try clear hcz14_0
                    try clear hcz14_1
                    try clear hcz14_2
                    try clear hcz14_3
                    try clear hcz14_4
                    try clear hcz19_0
                    try clear hcz19_1
                    try clear hcz19_2
                    try clear hcz19_3
                    try clear hcz19_4
                    try clear hcz24_0
                    try clear hcz24_1
                    try clear hcz24_2
                    try clear hcz24_3
                    try clear hcz24_4
                    try clear hcz6_0
                    try clear hcz6_1
                    try clear hfz11_0
                    try clear hfz11_1
                    try clear hfz14_0
                    try clear hfz14_1
                    try clear hfz14_2
                    try clear hfz14_3
                    try clear hfz14_4
                    try clear hfz19_0
                    try clear hfz19_1
                    try clear hfz19_2
                    try clear hfz19_3
                    try clear hfz19_4
                    try clear hfz24_0
                    try clear hfz24_1
                    try clear hfz24_2
                    try clear hfz24_3
                    try clear hfz24_4
                    try clear hfz6_0
                    try clear hfz6_1
                    try clear hx177_0
                    try clear hx177_1
                    try clear hx177_2
                    try clear hx177_3
                    try clear hx177_4
                    try clear hx179_0
                    try clear hx179_1
                    try clear p1
                    try clear p17
                    try clear p177
                    try clear p179
                    try clear p2
                    try clear p6
                    try clear q1
                    try clear q17
                    try clear q177
                    try clear q179
                    obtain ⟨x7_3, rfl, HA, HK3, BK176, BK178, HB⟩ := hrel
                    cases gk with
                    | zero => exact absurd HA.out (by simp [portageref20_Fits.l0])
                    | succ k3 =>
                      have H := HA.out
                      clear HA
                      simp only [portageref20_Fits.l0] at H
                      by_cases c26 : x7_3 < (wrap64 ((((rd_T60 l0_1 a1).f3).length : Int) - 1))
                      · rw [if_pos c26] at H
                        have c26b0 : decide (x7_3 < (wrap64 ((((rd_T60 l0_1 a1).f3).length : Int) - 1))) = true := decide_eq_true c26
                        clear c26
                        by_cases c27 : 0 ≤ x7_3
                        · rw [if_pos c27] at H
                          have c27b0 : decide (0 ≤ x7_3) = true := decide_eq_true c27
                          clear c27
                          by_cases c28 : x7_3 < (((rd_T60 l0_1 a1).f3).length : Int)
                          · rw [if_pos c28] at H
                            have c28b0 : decide (x7_3 < (((rd_T60 l0_1 a1).f3).length : Int)) = true := decide_eq_true c28
                            clear c28
                            by_cases c29 : ((rd_T64 ((rd_T60 l0_1 a1).f3) x7_3).f0) ≥ 0
                            · rw [if_pos c29] at H
                              have c29b0 : decide (0 ≤ ((rd_T64 ((rd_T60 l0_1 a1).f3) x7_3).f0)) = true := decide_eq_true c29
                              clear c29
                              by_cases c30 : (((rd_T64 ((rd_T60 l0_1 a1).f3) x7_3).f0) ≤ 11)
                              · rw [if_pos c30] at H
                                have c30b0 : decide (((rd_T64 ((rd_T60 l0_1 a1).f3) x7_3).f0) ≤ 11) = true := decide_eq_true c30
                                clear c30
                                have H' := Aside0.mk H
                                clear H
                                have hnb31 := NB178_176.out
                                have hnc31 := NB176_178.out
                                have hcz32_0 : wr.cell? ⟨gb178, 0, none⟩ = some (.string ((rd_T60 l0_1 a1).f0)) := (blk_cell BK178.out 0).trans rfl
                                have hcz32_1 : wr.cell? ⟨gb178, 1, none⟩ = some (.int .i64 ((rd_T60 l0_1 a1).f1)) := (blk_cell BK178.out 1).trans rfl
                                have hcz32_2 : wr.cell? ⟨gb178, 2, none⟩ = some (.int .i64 ((rd_T60 l0_1 a1).f2)) := (blk_cell BK178.out 2).trans rfl
                                have hcz32_3 : wr.cell? ⟨gb178, 3, none⟩ = some (.slice A177_3 ((rd_T60 l0_1 a1).f3).length c177_3) := (blk_cell BK178.out 3).trans rfl
                                have hcz32_4 : wr.cell? ⟨gb178, 4, none⟩ = some (.slice A177_4 ((rd_T60 l0_1 a1).f4).length c177_4) := (blk_cell BK178.out 4).trans rfl
                                have hfz32_0 := blk_frozen BK178.out 0
                                have hfz32_1 := blk_frozen BK178.out 1
                                have hfz32_2 := blk_frozen BK178.out 2
                                have hfz32_3 := blk_frozen BK178.out 3
                                have hfz32_4 := blk_frozen BK178.out 4
                                have p180 : 0 ≤ (x7_3 : Int) := of_decide_eq_true (by first | (with_reducible assumption) | assumption)
                                have q180 : x7_3 < (((rd_T60 l0_1 a1).f3).length : Int) := of_decide_eq_true (by first | (with_reducible assumption) | assumption)
                                obtain ⟨ad180, e180, hx180_0, hx180_1⟩ := at_T64 HR177_3.out x7_3 p180 q180
                                cases e180
                                replace hx180_0 := (HB.out.cell (World.block_lt_of_cell? w _ hx180_0)).trans hx180_0
                                replace hx180_1 := (HB.out.cell (World.block_lt_of_cell? w _ hx180_1)).trans hx180_1
                                replace p180 := eq_true p180
                                replace q180 := eq_true q180
                                go_wp2
                                go_roundg k3
                                case measure => have := HJ2.out; have := HJ9.out; have := HK3.out; omega
                                case rel => exact ⟨(wrap64 (x7_3 + 1)), (by first | rfl | (simp; done) | (simp [*]; done)), H', ⟨by have := HJ2.out; have := HJ9.out; have := HK3.out; omega⟩, ⟨by (with_reducible repeat (first | refine blk_drewN ?_ _ | refine blk_drew ?_ | refine blk_alloc ?_ _)); exact BK176.out⟩, ⟨by (with_reducible repeat (first | refine blk_drewN ?_ _ | refine blk_drew ?_ | refine blk_alloc ?_ _)); exact BK178.out⟩, ⟨by repeat (first | (with_reducible first | exact HB.out | apply below_alloc | apply pw_below_drewN | apply below_drew1 | refine below_set ?_ GE176.out | refine below_set ?_ GE178.out) | exact HB.out)⟩⟩
                              · rw [if_neg c30] at H
                                have c30b0 : decide (((rd_T64 ((rd_T60 l0_1 a1).f3) x7_3).f0) ≤ 11) = false := decide_eq_false c30
                                clear c30
                                replace H := Option.bind_eq_some_iff.mp H
                                obtain ⟨t181, A330, H⟩ := H
                                replace H : (if t181 = true then (portageref20_Fits.l0 k3 (((rd_T60 l0_1 a1).f3).length : Int) (wrap64 (x7_3 + 1)) ((rd_T60 l0_1 a1).f0) ((rd_T60 l0_1 a1).f1) ((rd_T60 l0_1 a1).f2) ((rd_T60 l0_1 a1).f3) ((rd_T60 l0_1 a1).f4)) else (if ((rd_T64 ((rd_T60 l0_1 a1).f3) x7_3).f0) = 58 then (portageref20_Fits.l0 k3 (((rd_T60 l0_1 a1).f3).length : Int) (wrap64 (x7_3 + 1)) ((rd_T60 l0_1 a1).f0) ((rd_T60 l0_1 a1).f1) ((rd_T60 l0_1 a1).f2) ((rd_T60 l0_1 a1).f3) ((rd_T60 l0_1 a1).f4)) else (if ((rd_T64 ((rd_T60 l0_1 a1).f3) x7_3).f0) = 59 then (portageref20_Fits.l0 k3 (((rd_T60 l0_1 a1).f3).length : Int) (wrap64 (x7_3 + 1)) ((rd_T60 l0_1 a1).f0) ((rd_T60 l0_1 a1).f1) ((rd_T60 l0_1 a1).f2) ((rd_T60 l0_1 a1).f3) ((rd_T60 l0_1 a1).f4)) else (some false)))) = some r := H
                                have A33 := Aside0.mk A330
                                clear A330
                                by_cases c34 : t181 = true
                                · subst c34
                                  have H1 : (portageref20_Fits.l0 k3 (((rd_T60 l0_1 a1).f3).length : Int) (wrap64 (x7_3 + 1)) ((rd_T60 l0_1 a1).f0) ((rd_T60 l0_1 a1).f1) ((rd_T60 l0_1 a1).f2) ((rd_T60 l0_1 a1).f3) ((rd_T60 l0_1 a1).f4)) = some r := by rw [if_pos rfl] at H; exact H
                                  clear H
                                  have H := H1
                                  clear H1
                                  have H' := Aside0.mk H
                                  clear H
                                  have hnb35 := NB178_176.out
                                  have hnc35 := NB176_178.out
                                  have hcz36_0 : wr.cell? ⟨gb178, 0, none⟩ = some (.string ((rd_T60 l0_1 a1).f0)) := (blk_cell BK178.out 0).trans rfl
                                  have hcz36_1 : wr.cell? ⟨gb178, 1, none⟩ = some (.int .i64 ((rd_T60 l0_1 a1).f1)) := (blk_cell BK178.out 1).trans rfl
                                  have hcz36_2 : wr.cell? ⟨gb178, 2, none⟩ = some (.int .i64 ((rd_T60 l0_1 a1).f2)) := (blk_cell BK178.out 2).trans rfl
                                  have hcz36_3 : wr.cell? ⟨gb178, 3, none⟩ = some (.slice A177_3 ((rd_T60 l0_1 a1).f3).length c177_3) := (blk_cell BK178.out 3).trans rfl
                                  have hcz36_4 : wr.cell? ⟨gb178, 4, none⟩ = some (.slice A177_4 ((rd_T60 l0_1 a1).f4).length c177_4) := (blk_cell BK178.out 4).trans rfl
                                  have hfz36_0 := blk_frozen BK178.out 0
                                  have hfz36_1 := blk_frozen BK178.out 1
                                  have hfz36_2 := blk_frozen BK178.out 2
                                  have hfz36_3 := blk_frozen BK178.out 3
                                  have hfz36_4 := blk_frozen BK178.out 4
                                  have p180 : 0 ≤ (x7_3 : Int) := of_decide_eq_true (by first | (with_reducible assumption) | assumption)
                                  have q180 : x7_3 < (((rd_T60 l0_1 a1).f3).length : Int) := of_decide_eq_true (by first | (with_reducible assumption) | assumption)
                                  obtain ⟨ad180, e180, hx180_0, hx180_1⟩ := at_T64 HR177_3.out x7_3 p180 q180
                                  cases e180
                                  replace hx180_0 := (HB.out.cell (World.block_lt_of_cell? w _ hx180_0)).trans hx180_0
                                  replace hx180_1 := (HB.out.cell (World.block_lt_of_cell? w _ hx180_1)).trans hx180_1
                                  replace p180 := eq_true p180
                                  replace q180 := eq_true q180
                                  go_wp2_with (first | (go_at_call 21; (with_reducible refine (portageref13_Applies.calls ((rd_T64 ((rd_T60 l0_1 a1).f3) x7_3).f0) true _ A33.out).mono ?_); rintro e w' ⟨rfl, ⟨nd, rfl⟩⟩))
                                  go_roundg k3
                                  case measure => have := HJ2.out; have := HJ9.out; have := HK3.out; omega
                                  case rel => exact ⟨(wrap64 (x7_3 + 1)), (by first | rfl | (simp; done) | (simp [*]; done)), H', ⟨by have := HJ2.out; have := HJ9.out; have := HK3.out; omega⟩, ⟨by (with_reducible repeat (first | refine blk_drewN ?_ _ | refine blk_drew ?_ | refine blk_alloc ?_ _)); exact BK176.out⟩, ⟨by (with_reducible repeat (first | refine blk_drewN ?_ _ | refine blk_drew ?_ | refine blk_alloc ?_ _)); exact BK178.out⟩, ⟨by repeat (first | (with_reducible first | exact HB.out | apply below_alloc | apply pw_below_drewN | apply below_drew1 | refine below_set ?_ GE176.out | refine below_set ?_ GE178.out) | exact HB.out)⟩⟩
                                · replace c34 := Bool.eq_false_iff.mpr c34
                                  subst c34
                                  have H1 : (if ((rd_T64 ((rd_T60 l0_1 a1).f3) x7_3).f0) = 58 then (portageref20_Fits.l0 k3 (((rd_T60 l0_1 a1).f3).length : Int) (wrap64 (x7_3 + 1)) ((rd_T60 l0_1 a1).f0) ((rd_T60 l0_1 a1).f1) ((rd_T60 l0_1 a1).f2) ((rd_T60 l0_1 a1).f3) ((rd_T60 l0_1 a1).f4)) else (if ((rd_T64 ((rd_T60 l0_1 a1).f3) x7_3).f0) = 59 then (portageref20_Fits.l0 k3 (((rd_T60 l0_1 a1).f3).length : Int) (wrap64 (x7_3 + 1)) ((rd_T60 l0_1 a1).f0) ((rd_T60 l0_1 a1).f1) ((rd_T60 l0_1 a1).f2) ((rd_T60 l0_1 a1).f3) ((rd_T60 l0_1 a1).f4)) else (some false))) = some r := by rw [if_neg (show ¬ (false = true) by decide)] at H; exact H
                                  clear H
                                  have H := H1
                                  clear H1
                                  by_cases c37 : ((rd_T64 ((rd_T60 l0_1 a1).f3) x7_3).f0) = 58
                                  · rw [if_pos c37] at H
                                    have c37b0 : (((rd_T64 ((rd_T60 l0_1 a1).f3) x7_3).f0) == 58) = true := beq_iff_eq.mpr c37
                                    have c37b1 : (((rd_T64 ((rd_T60 l0_1 a1).f3) x7_3).f0) != 58) = false := bne_eq_false_iff_eq.mpr c37
                                    clear c37
                                    have H' := Aside0.mk H
                                    clear H
                                    have hnb38 := NB178_176.out
                                    have hnc38 := NB176_178.out
                                    have hcz39_0 : wr.cell? ⟨gb178, 0, none⟩ = some (.string ((rd_T60 l0_1 a1).f0)) := (blk_cell BK178.out 0).trans rfl
                                    have hcz39_1 : wr.cell? ⟨gb178, 1, none⟩ = some (.int .i64 ((rd_T60 l0_1 a1).f1)) := (blk_cell BK178.out 1).trans rfl
                                    have hcz39_2 : wr.cell? ⟨gb178, 2, none⟩ = some (.int .i64 ((rd_T60 l0_1 a1).f2)) := (blk_cell BK178.out 2).trans rfl
                                    have hcz39_3 : wr.cell? ⟨gb178, 3, none⟩ = some (.slice A177_3 ((rd_T60 l0_1 a1).f3).length c177_3) := (blk_cell BK178.out 3).trans rfl
                                    have hcz39_4 : wr.cell? ⟨gb178, 4, none⟩ = some (.slice A177_4 ((rd_T60 l0_1 a1).f4).length c177_4) := (blk_cell BK178.out 4).trans rfl
                                    have hfz39_0 := blk_frozen BK178.out 0
                                    have hfz39_1 := blk_frozen BK178.out 1
                                    have hfz39_2 := blk_frozen BK178.out 2
                                    have hfz39_3 := blk_frozen BK178.out 3
                                    have hfz39_4 := blk_frozen BK178.out 4
                                    have p180 : 0 ≤ (x7_3 : Int) := of_decide_eq_true (by first | (with_reducible assumption) | assumption)
                                    have q180 : x7_3 < (((rd_T60 l0_1 a1).f3).length : Int) := of_decide_eq_true (by first | (with_reducible assumption) | assumption)
                                    obtain ⟨ad180, e180, hx180_0, hx180_1⟩ := at_T64 HR177_3.out x7_3 p180 q180
                                    cases e180
                                    replace hx180_0 := (HB.out.cell (World.block_lt_of_cell? w _ hx180_0)).trans hx180_0
                                    replace hx180_1 := (HB.out.cell (World.block_lt_of_cell? w _ hx180_1)).trans hx180_1
                                    replace p180 := eq_true p180
                                    replace q180 := eq_true q180
                                    go_wp2_with (first | (go_at_call 21; (with_reducible refine (portageref13_Applies.calls ((rd_T64 ((rd_T60 l0_1 a1).f3) x7_3).f0) false _ A33.out).mono ?_); rintro e w' ⟨rfl, ⟨nd, rfl⟩⟩))
                                    go_roundg k3
                                    case measure => have := HJ2.out; have := HJ9.out; have := HK3.out; omega
                                    case rel => exact ⟨(wrap64 (x7_3 + 1)), (by first | rfl | (simp; done) | (simp [*]; done)), H', ⟨by have := HJ2.out; have := HJ9.out; have := HK3.out; omega⟩, ⟨by (with_reducible repeat (first | refine blk_drewN ?_ _ | refine blk_drew ?_ | refine blk_alloc ?_ _)); exact BK176.out⟩, ⟨by (with_reducible repeat (first | refine blk_drewN ?_ _ | refine blk_drew ?_ | refine blk_alloc ?_ _)); exact BK178.out⟩, ⟨by repeat (first | (with_reducible first | exact HB.out | apply below_alloc | apply pw_below_drewN | apply below_drew1 | refine below_set ?_ GE176.out | refine below_set ?_ GE178.out) | exact HB.out)⟩⟩
                                  · rw [if_neg c37] at H
                                    have c37b0 : (((rd_T64 ((rd_T60 l0_1 a1).f3) x7_3).f0) == 58) = false := beq_eq_false_iff_ne.mpr c37
                                    have c37b1 : (((rd_T64 ((rd_T60 l0_1 a1).f3) x7_3).f0) != 58) = true := bne_iff_ne.mpr c37
                                    by_cases c40 : ((rd_T64 ((rd_T60 l0_1 a1).f3) x7_3).f0) = 59
                                    · rw [if_pos c40] at H
                                      have c40b0 : (((rd_T64 ((rd_T60 l0_1 a1).f3) x7_3).f0) == 59) = true := beq_iff_eq.mpr c40
                                      have c40b1 : (((rd_T64 ((rd_T60 l0_1 a1).f3) x7_3).f0) != 59) = false := bne_eq_false_iff_eq.mpr c40
                                      clear c40
                                      have H' := Aside0.mk H
                                      clear H
                                      have hnb41 := NB178_176.out
                                      have hnc41 := NB176_178.out
                                      have hcz42_0 : wr.cell? ⟨gb178, 0, none⟩ = some (.string ((rd_T60 l0_1 a1).f0)) := (blk_cell BK178.out 0).trans rfl
                                      have hcz42_1 : wr.cell? ⟨gb178, 1, none⟩ = some (.int .i64 ((rd_T60 l0_1 a1).f1)) := (blk_cell BK178.out 1).trans rfl
                                      have hcz42_2 : wr.cell? ⟨gb178, 2, none⟩ = some (.int .i64 ((rd_T60 l0_1 a1).f2)) := (blk_cell BK178.out 2).trans rfl
                                      have hcz42_3 : wr.cell? ⟨gb178, 3, none⟩ = some (.slice A177_3 ((rd_T60 l0_1 a1).f3).length c177_3) := (blk_cell BK178.out 3).trans rfl
                                      have hcz42_4 : wr.cell? ⟨gb178, 4, none⟩ = some (.slice A177_4 ((rd_T60 l0_1 a1).f4).length c177_4) := (blk_cell BK178.out 4).trans rfl
                                      have hfz42_0 := blk_frozen BK178.out 0
                                      have hfz42_1 := blk_frozen BK178.out 1
                                      have hfz42_2 := blk_frozen BK178.out 2
                                      have hfz42_3 := blk_frozen BK178.out 3
                                      have hfz42_4 := blk_frozen BK178.out 4
                                      have p180 : 0 ≤ (x7_3 : Int) := of_decide_eq_true (by first | (with_reducible assumption) | assumption)
                                      have q180 : x7_3 < (((rd_T60 l0_1 a1).f3).length : Int) := of_decide_eq_true (by first | (with_reducible assumption) | assumption)
                                      obtain ⟨ad180, e180, hx180_0, hx180_1⟩ := at_T64 HR177_3.out x7_3 p180 q180
                                      cases e180
                                      replace hx180_0 := (HB.out.cell (World.block_lt_of_cell? w _ hx180_0)).trans hx180_0
                                      replace hx180_1 := (HB.out.cell (World.block_lt_of_cell? w _ hx180_1)).trans hx180_1
                                      replace p180 := eq_true p180
                                      replace q180 := eq_true q180
                                      go_wp2_with (first | (go_at_call 21; (with_reducible refine (portageref13_Applies.calls ((rd_T64 ((rd_T60 l0_1 a1).f3) x7_3).f0) false _ A33.out).mono ?_); rintro e w' ⟨rfl, ⟨nd, rfl⟩⟩))
                                      go_roundg k3
                                      case measure => have := HJ2.out; have := HJ9.out; have := HK3.out; omega
                                      case rel => exact ⟨(wrap64 (x7_3 + 1)), (by first | rfl | (simp; done) | (simp [*]; done)), H', ⟨by have := HJ2.out; have := HJ9.out; have := HK3.out; omega⟩, ⟨by (with_reducible repeat (first | refine blk_drewN ?_ _ | refine blk_drew ?_ | refine blk_alloc ?_ _)); exact BK176.out⟩, ⟨by (with_reducible repeat (first | refine blk_drewN ?_ _ | refine blk_drew ?_ | refine blk_alloc ?_ _)); exact BK178.out⟩, ⟨by repeat (first | (with_reducible first | exact HB.out | apply below_alloc | apply pw_below_drewN | apply below_drew1 | refine below_set ?_ GE176.out | refine below_set ?_ GE178.out) | exact HB.out)⟩⟩
                                    · rw [if_neg c40] at H
                                      have c40b0 : (((rd_T64 ((rd_T60 l0_1 a1).f3) x7_3).f0) == 59) = false := beq_eq_false_iff_ne.mpr c40
                                      have c40b1 : (((rd_T64 ((rd_T60 l0_1 a1).f3) x7_3).f0) != 59) = true := bne_iff_ne.mpr c40
                                      obtain rfl := Option.some.inj H
                                      have hnb43 := NB178_176.out
                                      have hnc43 := NB176_178.out
                                      have hcz44_0 : wr.cell? ⟨gb178, 0, none⟩ = some (.string ((rd_T60 l0_1 a1).f0)) := (blk_cell BK178.out 0).trans rfl
                                      have hcz44_1 : wr.cell? ⟨gb178, 1, none⟩ = some (.int .i64 ((rd_T60 l0_1 a1).f1)) := (blk_cell BK178.out 1).trans rfl
                                      have hcz44_2 : wr.cell? ⟨gb178, 2, none⟩ = some (.int .i64 ((rd_T60 l0_1 a1).f2)) := (blk_cell BK178.out 2).trans rfl
                                      have hcz44_3 : wr.cell? ⟨gb178, 3, none⟩ = some (.slice A177_3 ((rd_T60 l0_1 a1).f3).length c177_3) := (blk_cell BK178.out 3).trans rfl
                                      have hcz44_4 : wr.cell? ⟨gb178, 4, none⟩ = some (.slice A177_4 ((rd_T60 l0_1 a1).f4).length c177_4) := (blk_cell BK178.out 4).trans rfl
                                      have hfz44_0 := blk_frozen BK178.out 0
                                      have hfz44_1 := blk_frozen BK178.out 1
                                      have hfz44_2 := blk_frozen BK178.out 2
                                      have hfz44_3 := blk_frozen BK178.out 3
                                      have hfz44_4 := blk_frozen BK178.out 4
                                      have p180 : 0 ≤ (x7_3 : Int) := of_decide_eq_true (by first | (with_reducible assumption) | assumption)
                                      have q180 : x7_3 < (((rd_T60 l0_1 a1).f3).length : Int) := of_decide_eq_true (by first | (with_reducible assumption) | assumption)
                                      obtain ⟨ad180, e180, hx180_0, hx180_1⟩ := at_T64 HR177_3.out x7_3 p180 q180
                                      cases e180
                                      replace hx180_0 := (HB.out.cell (World.block_lt_of_cell? w _ hx180_0)).trans hx180_0
                                      replace hx180_1 := (HB.out.cell (World.block_lt_of_cell? w _ hx180_1)).trans hx180_1
                                      replace p180 := eq_true p180
                                      replace q180 := eq_true q180
                                      go_wp2_with (first | (go_at_call 21; (with_reducible refine (portageref13_Applies.calls ((rd_T64 ((rd_T60 l0_1 a1).f3) x7_3).f0) false _ A33.out).mono ?_); rintro e w' ⟨rfl, ⟨nd, rfl⟩⟩))
                                      go_ret
                                      exact ⟨by first | rfl | (simp [errW_none, errW_some] <;> rfl) | (simp [*, errW_none, errW_some] <;> rfl), by repeat (first | (with_reducible first | exact HB.out | apply below_alloc | apply pw_below_drewN | apply below_drew1 | refine below_set ?_ GE176.out | refine below_set ?_ GE178.out) | exact HB.out)⟩
                            · rw [if_neg c29] at H
                              have c29b0 : decide (0 ≤ ((rd_T64 ((rd_T60 l0_1 a1).f3) x7_3).f0)) = false := decide_eq_false c29
                              clear c29
                              replace H := Option.bind_eq_some_iff.mp H
                              obtain ⟨t182, A450, H⟩ := H
                              replace H : (if t182 = true then (portageref20_Fits.l0 k3 (((rd_T60 l0_1 a1).f3).length : Int) (wrap64 (x7_3 + 1)) ((rd_T60 l0_1 a1).f0) ((rd_T60 l0_1 a1).f1) ((rd_T60 l0_1 a1).f2) ((rd_T60 l0_1 a1).f3) ((rd_T60 l0_1 a1).f4)) else (if ((rd_T64 ((rd_T60 l0_1 a1).f3) x7_3).f0) = 58 then (portageref20_Fits.l0 k3 (((rd_T60 l0_1 a1).f3).length : Int) (wrap64 (x7_3 + 1)) ((rd_T60 l0_1 a1).f0) ((rd_T60 l0_1 a1).f1) ((rd_T60 l0_1 a1).f2) ((rd_T60 l0_1 a1).f3) ((rd_T60 l0_1 a1).f4)) else (if ((rd_T64 ((rd_T60 l0_1 a1).f3) x7_3).f0) = 59 then (portageref20_Fits.l0 k3 (((rd_T60 l0_1 a1).f3).length : Int) (wrap64 (x7_3 + 1)) ((rd_T60 l0_1 a1).f0) ((rd_T60 l0_1 a1).f1) ((rd_T60 l0_1 a1).f2) ((rd_T60 l0_1 a1).f3) ((rd_T60 l0_1 a1).f4)) else (some false)))) = some r := H
                              have A45 := Aside0.mk A450
                              clear A450
                              by_cases c46 : t182 = true
                              · subst c46
                                have H1 : (portageref20_Fits.l0 k3 (((rd_T60 l0_1 a1).f3).length : Int) (wrap64 (x7_3 + 1)) ((rd_T60 l0_1 a1).f0) ((rd_T60 l0_1 a1).f1) ((rd_T60 l0_1 a1).f2) ((rd_T60 l0_1 a1).f3) ((rd_T60 l0_1 a1).f4)) = some r := by rw [if_pos rfl] at H; exact H
                                clear H
                                have H := H1
                                clear H1
                                have H' := Aside0.mk H
                                clear H
                                have hnb47 := NB178_176.out
                                have hnc47 := NB176_178.out
                                have hcz48_0 : wr.cell? ⟨gb178, 0, none⟩ = some (.string ((rd_T60 l0_1 a1).f0)) := (blk_cell BK178.out 0).trans rfl
                                have hcz48_1 : wr.cell? ⟨gb178, 1, none⟩ = some (.int .i64 ((rd_T60 l0_1 a1).f1)) := (blk_cell BK178.out 1).trans rfl
                                have hcz48_2 : wr.cell? ⟨gb178, 2, none⟩ = some (.int .i64 ((rd_T60 l0_1 a1).f2)) := (blk_cell BK178.out 2).trans rfl
                                have hcz48_3 : wr.cell? ⟨gb178, 3, none⟩ = some (.slice A177_3 ((rd_T60 l0_1 a1).f3).length c177_3) := (blk_cell BK178.out 3).trans rfl
                                have hcz48_4 : wr.cell? ⟨gb178, 4, none⟩ = some (.slice A177_4 ((rd_T60 l0_1 a1).f4).length c177_4) := (blk_cell BK178.out 4).trans rfl
                                have hfz48_0 := blk_frozen BK178.out 0
                                have hfz48_1 := blk_frozen BK178.out 1
                                have hfz48_2 := blk_frozen BK178.out 2
                                have hfz48_3 := blk_frozen BK178.out 3
                                have hfz48_4 := blk_frozen BK178.out 4
                                have p180 : 0 ≤ (x7_3 : Int) := of_decide_eq_true (by first | (with_reducible assumption) | assumption)
                                have q180 : x7_3 < (((rd_T60 l0_1 a1).f3).length : Int) := of_decide_eq_true (by first | (with_reducible assumption) | assumption)
                                obtain ⟨ad180, e180, hx180_0, hx180_1⟩ := at_T64 HR177_3.out x7_3 p180 q180
                                cases e180
                                replace hx180_0 := (HB.out.cell (World.block_lt_of_cell? w _ hx180_0)).trans hx180_0
                                replace hx180_1 := (HB.out.cell (World.block_lt_of_cell? w _ hx180_1)).trans hx180_1
                                replace p180 := eq_true p180
                                replace q180 := eq_true q180
                                go_wp2_with (first | (go_at_call 21; (with_reducible refine (portageref13_Applies.calls ((rd_T64 ((rd_T60 l0_1 a1).f3) x7_3).f0) true _ A45.out).mono ?_); rintro e w' ⟨rfl, ⟨nd, rfl⟩⟩))
                                go_roundg k3
                                case measure => have := HJ2.out; have := HJ9.out; have := HK3.out; omega
                                case rel => exact ⟨(wrap64 (x7_3 + 1)), (by first | rfl | (simp; done) | (simp [*]; done)), H', ⟨by have := HJ2.out; have := HJ9.out; have := HK3.out; omega⟩, ⟨by (with_reducible repeat (first | refine blk_drewN ?_ _ | refine blk_drew ?_ | refine blk_alloc ?_ _)); exact BK176.out⟩, ⟨by (with_reducible repeat (first | refine blk_drewN ?_ _ | refine blk_drew ?_ | refine blk_alloc ?_ _)); exact BK178.out⟩, ⟨by repeat (first | (with_reducible first | exact HB.out | apply below_alloc | apply pw_below_drewN | apply below_drew1 | refine below_set ?_ GE176.out | refine below_set ?_ GE178.out) | exact HB.out)⟩⟩
                              · replace c46 := Bool.eq_false_iff.mpr c46
                                subst c46
                                have H1 : (if ((rd_T64 ((rd_T60 l0_1 a1).f3) x7_3).f0) = 58 then (portageref20_Fits.l0 k3 (((rd_T60 l0_1 a1).f3).length : Int) (wrap64 (x7_3 + 1)) ((rd_T60 l0_1 a1).f0) ((rd_T60 l0_1 a1).f1) ((rd_T60 l0_1 a1).f2) ((rd_T60 l0_1 a1).f3) ((rd_T60 l0_1 a1).f4)) else (if ((rd_T64 ((rd_T60 l0_1 a1).f3) x7_3).f0) = 59 then (portageref20_Fits.l0 k3 (((rd_T60 l0_1 a1).f3).length : Int) (wrap64 (x7_3 + 1)) ((rd_T60 l0_1 a1).f0) ((rd_T60 l0_1 a1).f1) ((rd_T60 l0_1 a1).f2) ((rd_T60 l0_1 a1).f3) ((rd_T60 l0_1 a1).f4)) else (some false))) = some r := by rw [if_neg (show ¬ (false = true) by decide)] at H; exact H
                                clear H
                                have H := H1
                                clear H1
                                by_cases c49 : ((rd_T64 ((rd_T60 l0_1 a1).f3) x7_3).f0) = 58
                                · rw [if_pos c49] at H
                                  have c49b0 : (((rd_T64 ((rd_T60 l0_1 a1).f3) x7_3).f0) == 58) = true := beq_iff_eq.mpr c49
                                  have c49b1 : (((rd_T64 ((rd_T60 l0_1 a1).f3) x7_3).f0) != 58) = false := bne_eq_false_iff_eq.mpr c49
                                  clear c49
                                  have H' := Aside0.mk H
                                  clear H
                                  have hnb50 := NB178_176.out
                                  have hnc50 := NB176_178.out
                                  have hcz51_0 : wr.cell? ⟨gb178, 0, none⟩ = some (.string ((rd_T60 l0_1 a1).f0)) := (blk_cell BK178.out 0).trans rfl
                                  have hcz51_1 : wr.cell? ⟨gb178, 1, none⟩ = some (.int .i64 ((rd_T60 l0_1 a1).f1)) := (blk_cell BK178.out 1).trans rfl
                                  have hcz51_2 : wr.cell? ⟨gb178, 2, none⟩ = some (.int .i64 ((rd_T60 l0_1 a1).f2)) := (blk_cell BK178.out 2).trans rfl
                                  have hcz51_3 : wr.cell? ⟨gb178, 3, none⟩ = some (.slice A177_3 ((rd_T60 l0_1 a1).f3).length c177_3) := (blk_cell BK178.out 3).trans rfl
                                  have hcz51_4 : wr.cell? ⟨gb178, 4, none⟩ = some (.slice A177_4 ((rd_T60 l0_1 a1).f4).length c177_4) := (blk_cell BK178.out 4).trans rfl
                                  have hfz51_0 := blk_frozen BK178.out 0
                                  have hfz51_1 := blk_frozen BK178.out 1
                                  have hfz51_2 := blk_frozen BK178.out 2
                                  have hfz51_3 := blk_frozen BK178.out 3
                                  have hfz51_4 := blk_frozen BK178.out 4
                                  have p180 : 0 ≤ (x7_3 : Int) := of_decide_eq_true (by first | (with_reducible assumption) | assumption)
                                  have q180 : x7_3 < (((rd_T60 l0_1 a1).f3).length : Int) := of_decide_eq_true (by first | (with_reducible assumption) | assumption)
                                  obtain ⟨ad180, e180, hx180_0, hx180_1⟩ := at_T64 HR177_3.out x7_3 p180 q180
                                  cases e180
                                  replace hx180_0 := (HB.out.cell (World.block_lt_of_cell? w _ hx180_0)).trans hx180_0
                                  replace hx180_1 := (HB.out.cell (World.block_lt_of_cell? w _ hx180_1)).trans hx180_1
                                  replace p180 := eq_true p180
                                  replace q180 := eq_true q180
                                  go_wp2_with (first | (go_at_call 21; (with_reducible refine (portageref13_Applies.calls ((rd_T64 ((rd_T60 l0_1 a1).f3) x7_3).f0) false _ A45.out).mono ?_); rintro e w' ⟨rfl, ⟨nd, rfl⟩⟩))
                                  go_roundg k3
                                  case measure => have := HJ2.out; have := HJ9.out; have := HK3.out; omega
                                  case rel => exact ⟨(wrap64 (x7_3 + 1)), (by first | rfl | (simp; done) | (simp [*]; done)), H', ⟨by have := HJ2.out; have := HJ9.out; have := HK3.out; omega⟩, ⟨by (with_reducible repeat (first | refine blk_drewN ?_ _ | refine blk_drew ?_ | refine blk_alloc ?_ _)); exact BK176.out⟩, ⟨by (with_reducible repeat (first | refine blk_drewN ?_ _ | refine blk_drew ?_ | refine blk_alloc ?_ _)); exact BK178.out⟩, ⟨by repeat (first | (with_reducible first | exact HB.out | apply below_alloc | apply pw_below_drewN | apply below_drew1 | refine below_set ?_ GE176.out | refine below_set ?_ GE178.out) | exact HB.out)⟩⟩
                                · rw [if_neg c49] at H
                                  have c49b0 : (((rd_T64 ((rd_T60 l0_1 a1).f3) x7_3).f0) == 58) = false := beq_eq_false_iff_ne.mpr c49
                                  have c49b1 : (((rd_T64 ((rd_T60 l0_1 a1).f3) x7_3).f0) != 58) = true := bne_iff_ne.mpr c49
                                  by_cases c52 : ((rd_T64 ((rd_T60 l0_1 a1).f3) x7_3).f0) = 59
                                  · rw [if_pos c52] at H
                                    have c52b0 : (((rd_T64 ((rd_T60 l0_1 a1).f3) x7_3).f0) == 59) = true := beq_iff_eq.mpr c52
                                    have c52b1 : (((rd_T64 ((rd_T60 l0_1 a1).f3) x7_3).f0) != 59) = false := bne_eq_false_iff_eq.mpr c52
                                    clear c52
                                    have H' := Aside0.mk H
                                    clear H
                                    have hnb53 := NB178_176.out
                                    have hnc53 := NB176_178.out
                                    have hcz54_0 : wr.cell? ⟨gb178, 0, none⟩ = some (.string ((rd_T60 l0_1 a1).f0)) := (blk_cell BK178.out 0).trans rfl
                                    have hcz54_1 : wr.cell? ⟨gb178, 1, none⟩ = some (.int .i64 ((rd_T60 l0_1 a1).f1)) := (blk_cell BK178.out 1).trans rfl
                                    have hcz54_2 : wr.cell? ⟨gb178, 2, none⟩ = some (.int .i64 ((rd_T60 l0_1 a1).f2)) := (blk_cell BK178.out 2).trans rfl
                                    have hcz54_3 : wr.cell? ⟨gb178, 3, none⟩ = some (.slice A177_3 ((rd_T60 l0_1 a1).f3).length c177_3) := (blk_cell BK178.out 3).trans rfl
                                    have hcz54_4 : wr.cell? ⟨gb178, 4, none⟩ = some (.slice A177_4 ((rd_T60 l0_1 a1).f4).length c177_4) := (blk_cell BK178.out 4).trans rfl
                                    have hfz54_0 := blk_frozen BK178.out 0
                                    have hfz54_1 := blk_frozen BK178.out 1
                                    have hfz54_2 := blk_frozen BK178.out 2
                                    have hfz54_3 := blk_frozen BK178.out 3
                                    have hfz54_4 := blk_frozen BK178.out 4
                                    have p180 : 0 ≤ (x7_3 : Int) := of_decide_eq_true (by first | (with_reducible assumption) | assumption)
                                    have q180 : x7_3 < (((rd_T60 l0_1 a1).f3).length : Int) := of_decide_eq_true (by first | (with_reducible assumption) | assumption)
                                    obtain ⟨ad180, e180, hx180_0, hx180_1⟩ := at_T64 HR177_3.out x7_3 p180 q180
                                    cases e180
                                    replace hx180_0 := (HB.out.cell (World.block_lt_of_cell? w _ hx180_0)).trans hx180_0
                                    replace hx180_1 := (HB.out.cell (World.block_lt_of_cell? w _ hx180_1)).trans hx180_1
                                    replace p180 := eq_true p180
                                    replace q180 := eq_true q180
                                    go_wp2_with (first | (go_at_call 21; (with_reducible refine (portageref13_Applies.calls ((rd_T64 ((rd_T60 l0_1 a1).f3) x7_3).f0) false _ A45.out).mono ?_); rintro e w' ⟨rfl, ⟨nd, rfl⟩⟩))
                                    go_roundg k3
                                    case measure => have := HJ2.out; have := HJ9.out; have := HK3.out; omega
                                    case rel => exact ⟨(wrap64 (x7_3 + 1)), (by first | rfl | (simp; done) | (simp [*]; done)), H', ⟨by have := HJ2.out; have := HJ9.out; have := HK3.out; omega⟩, ⟨by (with_reducible repeat (first | refine blk_drewN ?_ _ | refine blk_drew ?_ | refine blk_alloc ?_ _)); exact BK176.out⟩, ⟨by (with_reducible repeat (first | refine blk_drewN ?_ _ | refine blk_drew ?_ | refine blk_alloc ?_ _)); exact BK178.out⟩, ⟨by repeat (first | (with_reducible first | exact HB.out | apply below_alloc | apply pw_below_drewN | apply below_drew1 | refine below_set ?_ GE176.out | refine below_set ?_ GE178.out) | exact HB.out)⟩⟩
                                  · rw [if_neg c52] at H
                                    have c52b0 : (((rd_T64 ((rd_T60 l0_1 a1).f3) x7_3).f0) == 59) = false := beq_eq_false_iff_ne.mpr c52
                                    have c52b1 : (((rd_T64 ((rd_T60 l0_1 a1).f3) x7_3).f0) != 59) = true := bne_iff_ne.mpr c52
                                    obtain rfl := Option.some.inj H
                                    have hnb55 := NB178_176.out
                                    have hnc55 := NB176_178.out
                                    have hcz56_0 : wr.cell? ⟨gb178, 0, none⟩ = some (.string ((rd_T60 l0_1 a1).f0)) := (blk_cell BK178.out 0).trans rfl
                                    have hcz56_1 : wr.cell? ⟨gb178, 1, none⟩ = some (.int .i64 ((rd_T60 l0_1 a1).f1)) := (blk_cell BK178.out 1).trans rfl
                                    have hcz56_2 : wr.cell? ⟨gb178, 2, none⟩ = some (.int .i64 ((rd_T60 l0_1 a1).f2)) := (blk_cell BK178.out 2).trans rfl
                                    have hcz56_3 : wr.cell? ⟨gb178, 3, none⟩ = some (.slice A177_3 ((rd_T60 l0_1 a1).f3).length c177_3) := (blk_cell BK178.out 3).trans rfl
                                    have hcz56_4 : wr.cell? ⟨gb178, 4, none⟩ = some (.slice A177_4 ((rd_T60 l0_1 a1).f4).length c177_4) := (blk_cell BK178.out 4).trans rfl
                                    have hfz56_0 := blk_frozen BK178.out 0
                                    have hfz56_1 := blk_frozen BK178.out 1
                                    have hfz56_2 := blk_frozen BK178.out 2
                                    have hfz56_3 := blk_frozen BK178.out 3
                                    have hfz56_4 := blk_frozen BK178.out 4
                                    have p180 : 0 ≤ (x7_3 : Int) := of_decide_eq_true (by first | (with_reducible assumption) | assumption)
                                    have q180 : x7_3 < (((rd_T60 l0_1 a1).f3).length : Int) := of_decide_eq_true (by first | (with_reducible assumption) | assumption)
                                    obtain ⟨ad180, e180, hx180_0, hx180_1⟩ := at_T64 HR177_3.out x7_3 p180 q180
                                    cases e180
                                    replace hx180_0 := (HB.out.cell (World.block_lt_of_cell? w _ hx180_0)).trans hx180_0
                                    replace hx180_1 := (HB.out.cell (World.block_lt_of_cell? w _ hx180_1)).trans hx180_1
                                    replace p180 := eq_true p180
                                    replace q180 := eq_true q180
                                    go_wp2_with (first | (go_at_call 21; (with_reducible refine (portageref13_Applies.calls ((rd_T64 ((rd_T60 l0_1 a1).f3) x7_3).f0) false _ A45.out).mono ?_); rintro e w' ⟨rfl, ⟨nd, rfl⟩⟩))
                                    go_ret
                                    exact ⟨by first | rfl | (simp [errW_none, errW_some] <;> rfl) | (simp [*, errW_none, errW_some] <;> rfl), by repeat (first | (with_reducible first | exact HB.out | apply below_alloc | apply pw_below_drewN | apply below_drew1 | refine below_set ?_ GE176.out | refine below_set ?_ GE178.out) | exact HB.out)⟩
                          · rw [if_neg c28] at H
                            exact absurd H (by simp)
                        · rw [if_neg c27] at H
                          exact absurd H (by simp)
                      · rw [if_neg c26] at H
                        have c26b0 : decide (x7_3 < (wrap64 ((((rd_T60 l0_1 a1).f3).length : Int) - 1))) = false := decide_eq_false c26
                        clear c26
                        obtain rfl := Option.some.inj H
                        go_wp2
                        go_ret
                        exact ⟨by first | rfl | (simp [errW_none, errW_some] <;> rfl) | (simp [*, errW_none, errW_some] <;> rfl), by repeat (first | (with_reducible first | exact HB.out | apply below_alloc | apply pw_below_drewN | apply below_drew1 | refine below_set ?_ GE176.out | refine below_set ?_ GE178.out) | exact HB.out)⟩
          · rw [if_neg c9] at H
            exact absurd H (by simp)
        · rw [if_neg c8] at H
          exact absurd H (by simp)

end Go.Proofs.Ytdjpamgjmpibnaa.PFit
