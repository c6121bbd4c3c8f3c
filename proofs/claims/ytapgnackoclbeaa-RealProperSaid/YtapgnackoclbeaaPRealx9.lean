-- written by a program of this session (leafprint.py) over the translation; Lean checks it
import Derived.Test.YtapgnackoclbeaaPRealx0
import Derived.Test.YtapgnackoclbeaaPRealx8
namespace Go.Proofs.Ytapgnackoclbeaa.PReal
open Go.RowKit Go.Proofs.YtapgnackoclbeaaW.PrintWords Go.Proofs.YtapgnackoclbeaaW.PrintLast Go.Proofs.YtapgnackoclbeaaW.PrintMore
attribute [local go_sem] max2_int min2_int max_two min_two max_three min_three max_four min_four   -- for this text's walks alone
set_option linter.unusedVariables false
set_option linter.unusedSimpArgs false

/-! ### portagelaw03_RealInts: function 7 -/
def portagelaw03_RealInts.j0 : Nat → Int → Bool → Option (Bool)
  | 0, _, _ => none
  | k + 1, x0, x52 => if x52 = true then (some false) else ((real_FromInt.f x0).bind fun t415 => ((portageref03_FromInt.f k x0).bind fun t416 => (some (t415 == t416))))
def portagelaw03_RealInts.f (k : Nat) (a0 : Int) (a1 : Int) : Option (Bool) := (portageref03_ToInt.f k a1).bind fun bt405 => ((real_ToInt.f a1).bind fun bt407 => ((real_FromInt.f a0).bind fun t409 => ((real_ToInt.f t409).bind fun bt410 => ((portageref03_FromInt.f k a0).bind fun t412 => ((portageref03_ToInt.f k t412).bind fun bt413 => (if bt407.1 = bt405.1 then (if (bt407.2 != bt405.2) = true then (portagelaw03_RealInts.j0 k a0 true) else (if bt410.1 = bt413.1 then (portagelaw03_RealInts.j0 k a0 (bt410.2 != bt413.2)) else (portagelaw03_RealInts.j0 k a0 true))) else (portagelaw03_RealInts.j0 k a0 true)))))))
theorem portagelaw03_RealInts.mono_l : ∀ k, (∀ y0 y1, LeO (portagelaw03_RealInts.j0 k y0 y1) (portagelaw03_RealInts.j0 (k + 1) y0 y1))
  | 0 => fun _ _ r h => by simp [portagelaw03_RealInts.j0] at h
  | k + 1 => by
    have ih0 := portagelaw03_RealInts.mono_l k
    · intro y0 y1
      unfold portagelaw03_RealInts.j0
      repeat' first
      | (with_reducible exact ih0 _ _)
      | (with_reducible exact portageref03_FromInt.mono _ _)
      | (with_reducible exact portageref03_ToInt.mono _ _)
      | (with_reducible exact LeO.refl _)
      | (with_reducible exact LeO.none _)
      | (with_reducible refine LeO.ite ?_ ?_)
      | (with_reducible refine LeO.bind ?_ (fun _ => ?_))
      | exact ih0 _ _
      | exact portageref03_FromInt.mono _ _
      | exact portageref03_ToInt.mono _ _
      | exact LeO.none _
      | refine LeO.ite ?_ ?_
      | refine LeO.bind ?_ (fun _ => ?_)
theorem portagelaw03_RealInts.mono : ∀ a0 a1 k, LeO (portagelaw03_RealInts.f k a0 a1) (portagelaw03_RealInts.f (k + 1) a0 a1) := by
  intro a0 a1 k
  have ih0 := portagelaw03_RealInts.mono_l k
  unfold portagelaw03_RealInts.f
  repeat' first
      | (with_reducible exact ih0 _ _)
      | (with_reducible exact portageref03_FromInt.mono _ _)
      | (with_reducible exact portageref03_ToInt.mono _ _)
      | (with_reducible exact LeO.refl _)
      | (with_reducible exact LeO.none _)
      | (with_reducible refine LeO.ite ?_ ?_)
      | (with_reducible refine LeO.bind ?_ (fun _ => ?_))
      | exact ih0 _ _
      | exact portageref03_FromInt.mono _ _
      | exact portageref03_ToInt.mono _ _
      | exact LeO.none _
      | refine LeO.ite ?_ ?_
      | refine LeO.bind ?_ (fun _ => ?_)
set_option maxHeartbeats 8000000 in
set_option maxRecDepth 100000 in
theorem portagelaw03_RealInts.calls (k : Nat) (a0 : Int) (a1 : Int) (r : Bool) (w : World) (h : portagelaw03_RealInts.f k a0 a1 = some r) :
    Calls Try.prog 7 #[.int .i64 a0, .int .u64 a1] w fun e w' => e = .returned (.bool r) ∧ Below w.heap.size w w' := by
  have HB := Aside0.mk (Below.refl w.heap.size w)
  have H : ((portageref03_ToInt.f k a1).bind fun bt405 => ((real_ToInt.f a1).bind fun bt407 => ((real_FromInt.f a0).bind fun t409 => ((real_ToInt.f t409).bind fun bt410 => ((portageref03_FromInt.f k a0).bind fun t412 => ((portageref03_ToInt.f k t412).bind fun bt413 => (if bt407.1 = bt405.1 then (if (bt407.2 != bt405.2) = true then (portagelaw03_RealInts.j0 k a0 true) else (if bt410.1 = bt413.1 then (portagelaw03_RealInts.j0 k a0 (bt410.2 != bt413.2)) else (portagelaw03_RealInts.j0 k a0 true))) else (portagelaw03_RealInts.j0 k a0 true)))))))) = some r := h
  clear h
  replace H := Option.bind_eq_some_iff.mp H
  obtain ⟨⟨t405, t406⟩, A30, H⟩ := H
  replace H : ((real_ToInt.f a1).bind fun bt407 => ((real_FromInt.f a0).bind fun t409 => ((real_ToInt.f t409).bind fun bt410 => ((portageref03_FromInt.f k a0).bind fun t412 => ((portageref03_ToInt.f k t412).bind fun bt413 => (if bt407.1 = t405 then (if (bt407.2 != t406) = true then (portagelaw03_RealInts.j0 k a0 true) else (if bt410.1 = bt413.1 then (portagelaw03_RealInts.j0 k a0 (bt410.2 != bt413.2)) else (portagelaw03_RealInts.j0 k a0 true))) else (portagelaw03_RealInts.j0 k a0 true))))))) = some r := H
  have A3 := Aside0.mk A30
  clear A30
  replace H := Option.bind_eq_some_iff.mp H
  obtain ⟨⟨t407, t408⟩, A40, H⟩ := H
  replace H : ((real_FromInt.f a0).bind fun t409 => ((real_ToInt.f t409).bind fun bt410 => ((portageref03_FromInt.f k a0).bind fun t412 => ((portageref03_ToInt.f k t412).bind fun bt413 => (if t407 = t405 then (if (t408 != t406) = true then (portagelaw03_RealInts.j0 k a0 true) else (if bt410.1 = bt413.1 then (portagelaw03_RealInts.j0 k a0 (bt410.2 != bt413.2)) else (portagelaw03_RealInts.j0 k a0 true))) else (portagelaw03_RealInts.j0 k a0 true)))))) = some r := H
  have A4 := Aside0.mk A40
  clear A40
  replace H := Option.bind_eq_some_iff.mp H
  obtain ⟨t409, A50, H⟩ := H
  replace H : ((real_ToInt.f t409).bind fun bt410 => ((portageref03_FromInt.f k a0).bind fun t412 => ((portageref03_ToInt.f k t412).bind fun bt413 => (if t407 = t405 then (if (t408 != t406) = true then (portagelaw03_RealInts.j0 k a0 true) else (if bt410.1 = bt413.1 then (portagelaw03_RealInts.j0 k a0 (bt410.2 != bt413.2)) else (portagelaw03_RealInts.j0 k a0 true))) else (portagelaw03_RealInts.j0 k a0 true))))) = some r := H
  have A5 := Aside0.mk A50
  clear A50
  replace H := Option.bind_eq_some_iff.mp H
  obtain ⟨⟨t410, t411⟩, A60, H⟩ := H
  replace H : ((portageref03_FromInt.f k a0).bind fun t412 => ((portageref03_ToInt.f k t412).bind fun bt413 => (if t407 = t405 then (if (t408 != t406) = true then (portagelaw03_RealInts.j0 k a0 true) else (if t410 = bt413.1 then (portagelaw03_RealInts.j0 k a0 (t411 != bt413.2)) else (portagelaw03_RealInts.j0 k a0 true))) else (portagelaw03_RealInts.j0 k a0 true)))) = some r := H
  have A6 := Aside0.mk A60
  clear A60
  replace H := Option.bind_eq_some_iff.mp H
  obtain ⟨t412, A70, H⟩ := H
  replace H : ((portageref03_ToInt.f k t412).bind fun bt413 => (if t407 = t405 then (if (t408 != t406) = true then (portagelaw03_RealInts.j0 k a0 true) else (if t410 = bt413.1 then (portagelaw03_RealInts.j0 k a0 (t411 != bt413.2)) else (portagelaw03_RealInts.j0 k a0 true))) else (portagelaw03_RealInts.j0 k a0 true))) = some r := H
  have A7 := Aside0.mk A70
  clear A70
  replace H := Option.bind_eq_some_iff.mp H
  obtain ⟨⟨t413, t414⟩, A80, H⟩ := H
  replace H : (if t407 = t405 then (if (t408 != t406) = true then (portagelaw03_RealInts.j0 k a0 true) else (if t410 = t413 then (portagelaw03_RealInts.j0 k a0 (t411 != t414)) else (portagelaw03_RealInts.j0 k a0 true))) else (portagelaw03_RealInts.j0 k a0 true)) = some r := H
  have A8 := Aside0.mk A80
  clear A80
  have HC9 := Aside0.mk H
  clear H
  go_enter Try.func7, Try.ntmps7
  go_upto_region 5 with (first | ((with_reducible refine gate_callee (f := 33) rfl ?_); refine goesL_ (some 15) rfl rfl Try.func33 (by kernel_rfl) rfl #[.int .u64 a1] rfl (by (try simp only [List.map_toArray, List.map_cons, List.map_nil]); first | done | rfl | (simp only [List.length_drop, List.length_take]; rfl)) ?_; (with_reducible refine (portageref03_ToInt.calls k a1 t405 t406 _ A3.out).mono ?_); rintro e w10 ⟨rfl, hb⟩; refine ⟨_, rfl, ?_⟩; have n0_ := Aside0.mk (below_step (by repeat (first | (with_reducible first | exact HB.out | apply below_alloc | apply pw_below_drewN | apply below_drew1) | exact HB.out)) hb); clear HB; have HB := n0_; clear n0_; (try clear hb); (try clear hb2); (try clear hk); (try clear hi)) | ((with_reducible refine gate_callee (f := 34) rfl ?_); refine goesL_ (some 20) rfl rfl Try.func34 (by kernel_rfl) rfl #[.int .u64 a1] rfl (by (try simp only [List.map_toArray, List.map_cons, List.map_nil]); first | done | rfl | (simp only [List.length_drop, List.length_take]; rfl)) ?_; (with_reducible refine (real_ToInt.calls a1 t407 t408 _ A4.out).mono ?_); rintro e w' ⟨rfl, ⟨nd, rfl⟩⟩; refine ⟨_, rfl, ?_⟩) | ((with_reducible refine gate_callee (f := 35) rfl ?_); refine goesL_ (some 25) rfl rfl Try.func35 (by kernel_rfl) rfl #[.int .i64 a0] rfl (by (try simp only [List.map_toArray, List.map_cons, List.map_nil]); first | done | rfl | (simp only [List.length_drop, List.length_take]; rfl)) ?_; (with_reducible refine (real_FromInt.calls a0 t409 _ A5.out).mono ?_); rintro e w' ⟨rfl, ⟨nd, rfl⟩⟩; refine ⟨_, rfl, ?_⟩) | ((with_reducible refine gate_callee (f := 34) rfl ?_); refine goesL_ (some 26) rfl rfl Try.func34 (by kernel_rfl) rfl #[.int .u64 t409] rfl (by (try simp only [List.map_toArray, List.map_cons, List.map_nil]); first | done | rfl | (simp only [List.length_drop, List.length_take]; rfl)) ?_; (with_reducible refine (real_ToInt.calls t409 t410 t411 _ A6.out).mono ?_); rintro e w' ⟨rfl, ⟨nd, rfl⟩⟩; refine ⟨_, rfl, ?_⟩) | ((with_reducible refine gate_callee (f := 36) rfl ?_); refine goesL_ (some 31) rfl rfl Try.func36 (by kernel_rfl) rfl #[.int .i64 a0] rfl (by (try simp only [List.map_toArray, List.map_cons, List.map_nil]); first | done | rfl | (simp only [List.length_drop, List.length_take]; rfl)) ?_; (with_reducible refine (portageref03_FromInt.calls k a0 t412 _ A7.out).mono ?_); rintro e w11 ⟨rfl, hb⟩; refine ⟨_, rfl, ?_⟩; have n0_ := Aside0.mk (below_step (by repeat (first | (with_reducible first | exact HB.out | apply below_alloc | apply pw_below_drewN | apply below_drew1) | exact HB.out)) hb); clear HB; have HB := n0_; clear n0_; (try clear hb); (try clear hb2); (try clear hk); (try clear hi)) | ((with_reducible refine gate_callee (f := 33) rfl ?_); refine goesL_ (some 32) rfl rfl Try.func33 (by kernel_rfl) rfl #[.int .u64 t412] rfl (by (try simp only [List.map_toArray, List.map_cons, List.map_nil]); first | done | rfl | (simp only [List.length_drop, List.length_take]; rfl)) ?_; (with_reducible refine (portageref03_ToInt.calls k t412 t413 t414 _ A8.out).mono ?_); rintro e w12 ⟨rfl, hb⟩; refine ⟨_, rfl, ?_⟩; have n0_ := Aside0.mk (below_step (by repeat (first | (with_reducible first | exact HB.out | apply below_alloc | apply pw_below_drewN | apply below_drew1) | exact HB.out)) hb); clear HB; have HB := n0_; clear n0_; (try clear hb); (try clear hb2); (try clear hk); (try clear hi)))
  (try simp only [Act.put, List.setIfInBounds_toArray, List.set_cons_zero, List.set_cons_succ])
  go_cut [52] (fun v52 wc => ∃ (kq : Nat) (x52_8 : Bool), v52 = .bool x52_8 ∧ Aside0 (portagelaw03_RealInts.j0 kq a0 x52_8 = some r) ∧ Aside0 (kq ≤ k) ∧ Aside0 (Below w.heap.size w wc))
  case first =>
    have H := HC9.out
    clear HC9
    by_cases c13 : t407 = t405
    · rw [if_pos c13] at H
      have c13b0 : (t407 == t405) = true := beq_iff_eq.mpr c13
      have c13b1 : (t407 != t405) = false := bne_eq_false_iff_eq.mpr c13
      clear c13
      (first | rw [c13b0] | (simp only [i64_w, i32_w]; rw [c13b0]) | skip)
      by_cases c14 : (t408 != t406) = true
      · rw [if_pos c14] at H
        have c14b0 : (t408 != t406) = true := c14
        (try (have c14b1 : decide (t408 = t406) = false := by simpa using c14))
        (try (have c14b2 : (t408 == t406) = false := by simpa using c14))
        (try (have c14b3 : ¬ (t408 = t406) := by simpa using c14))
        clear c14
        have H' := Aside0.mk H
        clear H
        go_wp2
        go_meet
        case rel => exact ⟨_, (true), (by first | rfl | (simp; done) | (simp [*]; done)), H', ⟨by first | omega | exact Nat.le_refl _⟩, ⟨by repeat (first | (with_reducible first | exact HB.out | apply below_alloc | apply pw_below_drewN | apply below_drew1) | exact HB.out)⟩⟩
      · rw [if_neg c14] at H
        have c14b0 : (t408 != t406) = false := by simpa using c14
        (try (have c14b1 : decide (t408 = t406) = true := by simpa using c14))
        (try (have c14b2 : (t408 == t406) = true := by simpa using c14))
        clear c14
        by_cases c15 : t410 = t413
        · rw [if_pos c15] at H
          have c15b0 : (t410 == t413) = true := beq_iff_eq.mpr c15
          have c15b1 : (t410 != t413) = false := bne_eq_false_iff_eq.mpr c15
          clear c15
          have H' := Aside0.mk H
          clear H
          go_wp2
          go_meet
          case rel => exact ⟨_, ((t411 != t414)), (by first | rfl | (simp; done) | (simp [*]; done)), H', ⟨by first | omega | exact Nat.le_refl _⟩, ⟨by repeat (first | (with_reducible first | exact HB.out | apply below_alloc | apply pw_below_drewN | apply below_drew1) | exact HB.out)⟩⟩
        · rw [if_neg c15] at H
          have c15b0 : (t410 == t413) = false := beq_eq_false_iff_ne.mpr c15
          have c15b1 : (t410 != t413) = true := bne_iff_ne.mpr c15
          have H' := Aside0.mk H
          clear H
          go_wp2
          go_meet
          case rel => exact ⟨_, (true), (by first | rfl | (simp; done) | (simp [*]; done)), H', ⟨by first | omega | exact Nat.le_refl _⟩, ⟨by repeat (first | (with_reducible first | exact HB.out | apply below_alloc | apply pw_below_drewN | apply below_drew1) | exact HB.out)⟩⟩
    · rw [if_neg c13] at H
      have c13b0 : (t407 == t405) = false := beq_eq_false_iff_ne.mpr c13
      have c13b1 : (t407 != t405) = true := bne_iff_ne.mpr c13
      (first | rw [c13b0] | (simp only [i64_w, i32_w]; rw [c13b0]) | skip)
      have H' := Aside0.mk H
      clear H
      go_wp2
      go_meet
      case rel => exact ⟨_, (true), (by first | rfl | (simp; done) | (simp [*]; done)), H', ⟨by first | omega | exact Nat.le_refl _⟩, ⟨by repeat (first | (with_reducible first | exact HB.out | apply below_alloc | apply pw_below_drewN | apply below_drew1) | exact HB.out)⟩⟩
  case rest =>
    clear HC9
    try clear c1
    try clear p2
    try clear c3
    try clear c7
    try clear c13
    try clear c13b0
    try clear c13b1
    try clear c14
    try clear c14b0
    try clear c14b1
    try clear c14b2
    try clear c15
    try clear c15b0
    try clear c15b1
    obtain ⟨kq, x52_8, rfl, HA, HJ8, HB⟩ := hcut
    cases kq with
    | zero => exact absurd HA.out (by simp [portagelaw03_RealInts.j0])
    | succ kj8 =>
      have H := HA.out
      clear HA
      simp only [portagelaw03_RealInts.j0] at H
      by_cases c16 : x52_8 = true
      · subst c16
        have H1 : (some false) = some r := by rw [if_pos rfl] at H; exact H
        clear H
        have H := H1
        clear H1
        obtain rfl := Option.some.inj H
        go_wp2
        go_ret
        exact ⟨by first | rfl | (simp [errW_none, errW_some] <;> rfl) | (simp [*, errW_none, errW_some] <;> rfl), by repeat (first | (with_reducible first | exact HB.out | apply below_alloc | apply pw_below_drewN | apply below_drew1) | exact HB.out)⟩
      · replace c16 := Bool.eq_false_iff.mpr c16
        subst c16
        have H1 : ((real_FromInt.f a0).bind fun t415 => ((portageref03_FromInt.f kj8 a0).bind fun t416 => (some (t415 == t416)))) = some r := by rw [if_neg (show ¬ (false = true) by decide)] at H; exact H
        clear H
        have H := H1
        clear H1
        replace H := Option.bind_eq_some_iff.mp H
        obtain ⟨t415, A170, H⟩ := H
        replace H : ((portageref03_FromInt.f kj8 a0).bind fun t416 => (some (t415 == t416))) = some r := H
        have A17 := Aside0.mk A170
        clear A170
        replace H := Option.bind_eq_some_iff.mp H
        obtain ⟨t416, A180, H⟩ := H
        replace H : (some (t415 == t416)) = some r := H
        have A18 := Aside0.mk A180
        clear A180
        obtain rfl := Option.some.inj H
        go_wp2_with (first | ((with_reducible refine gate_callee (f := 35) rfl ?_); refine goesL_ (some 54) rfl rfl Try.func35 (by kernel_rfl) rfl #[.int .i64 a0] rfl (by (try simp only [List.map_toArray, List.map_cons, List.map_nil]); first | done | rfl | (simp only [List.length_drop, List.length_take]; rfl)) ?_; (with_reducible refine (real_FromInt.calls a0 t415 _ A17.out).mono ?_); rintro e w' ⟨rfl, ⟨nd, rfl⟩⟩; refine ⟨_, rfl, ?_⟩) | ((with_reducible refine gate_callee (f := 36) rfl ?_); refine goesL_ (some 56) rfl rfl Try.func36 (by kernel_rfl) rfl #[.int .i64 a0] rfl (by (try simp only [List.map_toArray, List.map_cons, List.map_nil]); first | done | rfl | (simp only [List.length_drop, List.length_take]; rfl)) ?_; (with_reducible refine (portageref03_FromInt.calls kj8 a0 t416 _ A18.out).mono ?_); rintro e w19 ⟨rfl, hb⟩; refine ⟨_, rfl, ?_⟩; have n0_ := Aside0.mk (below_step (by repeat (first | (with_reducible first | exact HB.out | apply below_alloc | apply pw_below_drewN | apply below_drew1) | exact HB.out)) hb); clear HB; have HB := n0_; clear n0_; (try clear hb); (try clear hb2); (try clear hk); (try clear hi)))
        go_ret
        exact ⟨by first | rfl | (simp [errW_none, errW_some] <;> rfl) | (simp [*, errW_none, errW_some] <;> rfl), by repeat (first | (with_reducible first | exact HB.out | apply below_alloc | apply pw_below_drewN | apply below_drew1) | exact HB.out)⟩

/-- THE ONE PURE STATEMENT of portagelaw03_RealInts: yours. -/
def portagelaw03_RealInts.Pure : Prop := ∀ (a0 : Int) (a1 : Int), (Lit.int .i64 a0).wf = true → (Lit.int .u64 a1).wf = true → ∃ k, portagelaw03_RealInts.f k a0 a1 = some true
theorem portagelaw03_RealInts.walk (P : portagelaw03_RealInts.Pure) (a0 : Int) (a1 : Int) (w : World) (w0 : (Lit.int .i64 a0).wf = true) (w1 : (Lit.int .u64 a1).wf = true) :
    Calls Try.prog 7 #[.int .i64 a0, .int .u64 a1] w fun e w' => e = .returned (.bool true) ∧ Below w.heap.size w w' := by
  obtain ⟨k, h⟩ := P a0 a1 w0 w1
  refine (portagelaw03_RealInts.calls k a0 a1 true w h).mono ?_
  rintro e w' ⟨rfl, hd⟩
  exact ⟨rfl, hd⟩

-- NOT PRINTED: function 89 (math_sqrt)

-- NOT PRINTED: function 73 (math_Sqrt)

/-! ### portagelaw03_RealRoots: function 8 -/
def portagelaw03_RealRoots.j0 : Nat → Int → Bool → Option (Bool)
  | 0, _, _ => none
  | k + 1, x0, x12 => if x12 = true then (some true) else ((real_Mul.f x0 x0).bind fun t417 => ((real_Sqrt.f t417).bind fun t418 => (some (t418 == (Go.bits .and .u64 x0 9223372036854775807)))))
def portagelaw03_RealRoots.f (k : Nat) (a0 : Int) : Option (Bool) := if (Go.bits .and .u64 (a0 / 4503599627370496) 2047) < 523 then (portagelaw03_RealRoots.j0 k a0 true) else (portagelaw03_RealRoots.j0 k a0 (decide ((Go.bits .and .u64 (a0 / 4503599627370496) 2047) ≥ 1523)))
theorem portagelaw03_RealRoots.mono_l : ∀ k, (∀ y0 y1, LeO (portagelaw03_RealRoots.j0 k y0 y1) (portagelaw03_RealRoots.j0 (k + 1) y0 y1))
  | 0 => fun _ _ r h => by simp [portagelaw03_RealRoots.j0] at h
  | k + 1 => by
    have ih0 := portagelaw03_RealRoots.mono_l k
    · intro y0 y1
      unfold portagelaw03_RealRoots.j0
      repeat' first
      | (with_reducible exact ih0 _ _)
      | (with_reducible exact LeO.refl _)
      | (with_reducible exact LeO.none _)
      | (with_reducible refine LeO.ite ?_ ?_)
      | (with_reducible refine LeO.bind ?_ (fun _ => ?_))
      | exact ih0 _ _
      | exact LeO.none _
      | refine LeO.ite ?_ ?_
      | refine LeO.bind ?_ (fun _ => ?_)
theorem portagelaw03_RealRoots.mono : ∀ a0 k, LeO (portagelaw03_RealRoots.f k a0) (portagelaw03_RealRoots.f (k + 1) a0) := by
  intro a0 k
  have ih0 := portagelaw03_RealRoots.mono_l k
  unfold portagelaw03_RealRoots.f
  repeat' first
      | (with_reducible exact ih0 _ _)
      | (with_reducible exact LeO.refl _)
      | (with_reducible exact LeO.none _)
      | (with_reducible refine LeO.ite ?_ ?_)
      | (with_reducible refine LeO.bind ?_ (fun _ => ?_))
      | exact ih0 _ _
      | exact LeO.none _
      | refine LeO.ite ?_ ?_
      | refine LeO.bind ?_ (fun _ => ?_)
set_option maxHeartbeats 8000000 in
set_option maxRecDepth 100000 in
theorem portagelaw03_RealRoots.calls (k : Nat) (a0 : Int) (r : Bool) (w : World) (h : portagelaw03_RealRoots.f k a0 = some r) :
    Calls Try.prog 8 #[.int .u64 a0] w fun e w' => e = .returned (.bool r) ∧ Drawn0 w w' := by
  have H : (if (Go.bits .and .u64 (a0 / 4503599627370496) 2047) < 523 then (portagelaw03_RealRoots.j0 k a0 true) else (portagelaw03_RealRoots.j0 k a0 (decide ((Go.bits .and .u64 (a0 / 4503599627370496) 2047) ≥ 1523)))) = some r := h
  clear h
  have HC2 := Aside0.mk H
  clear H
  go_enter Try.func8, Try.ntmps8
  go_upto_region 2 with (fail)
  go_cut [12] (fun v12 wc => ∃ (kq : Nat) (x12_1 : Bool), v12 = .bool x12_1 ∧ Aside0 (portagelaw03_RealRoots.j0 kq a0 x12_1 = some r) ∧ Aside0 (kq ≤ k) ∧ Drawn0 w wc)
  case first =>
    have H := HC2.out
    clear HC2
    by_cases c3 : (Go.bits .and .u64 (a0 / 4503599627370496) 2047) < 523
    · rw [if_pos c3] at H
      have c3b0 : decide ((Go.bits .and .u64 (a0 / 4503599627370496) 2047) < 523) = true := decide_eq_true c3
      clear c3
      (first | rw [c3b0] | (simp only [i64_w, i32_w]; rw [c3b0]) | skip)
      have H' := Aside0.mk H
      clear H
      go_wp2
      go_meet
      case rel => exact ⟨_, (true), (by first | rfl | (simp; done) | (simp [*]; done)), H', ⟨by first | omega | exact Nat.le_refl _⟩, by repeat (first | exact Drawn0.refl _ | apply Drawn0.step)⟩
    · rw [if_neg c3] at H
      have c3b0 : decide ((Go.bits .and .u64 (a0 / 4503599627370496) 2047) < 523) = false := decide_eq_false c3
      clear c3
      (first | rw [c3b0] | (simp only [i64_w, i32_w]; rw [c3b0]) | skip)
      have H' := Aside0.mk H
      clear H
      go_wp2
      go_meet
      case rel => exact ⟨_, (decide ((Go.bits .and .u64 (a0 / 4503599627370496) 2047) ≥ 1523)), (by first | rfl | (simp; done) | (simp [*]; done)), H', ⟨by first | omega | exact Nat.le_refl _⟩, by repeat (first | exact Drawn0.refl _ | apply Drawn0.step)⟩
  case rest =>
    clear HC2
    try clear p2
    try clear c3
    try clear c3b0
    obtain ⟨kq, x12_1, rfl, HA, HJ1, ⟨mc1, rfl⟩⟩ := hcut
    cases kq with
    | zero => exact absurd HA.out (by simp [portagelaw03_RealRoots.j0])
    | succ kj1 =>
      have H := HA.out
      clear HA
      simp only [portagelaw03_RealRoots.j0] at H
      by_cases c4 : x12_1 = true
      · subst c4
        have H1 : (some true) = some r := by rw [if_pos rfl] at H; exact H
        clear H
        have H := H1
        clear H1
        obtain rfl := Option.some.inj H
        go_wp2
        go_ret
        exact ⟨by first | rfl | (simp; done) | (simp [*]; done), by repeat (first | exact Drawn0.refl _ | apply Drawn0.step)⟩
      · replace c4 := Bool.eq_false_iff.mpr c4
        subst c4
        have H1 : ((real_Mul.f a0 a0).bind fun t417 => ((real_Sqrt.f t417).bind fun t418 => (some (t418 == (Go.bits .and .u64 a0 9223372036854775807))))) = some r := by rw [if_neg (show ¬ (false = true) by decide)] at H; exact H
        clear H
        have H := H1
        clear H1
        replace H := Option.bind_eq_some_iff.mp H
        obtain ⟨t417, A50, H⟩ := H
        replace H : ((real_Sqrt.f t417).bind fun t418 => (some (t418 == (Go.bits .and .u64 a0 9223372036854775807)))) = some r := H
        have A5 := Aside0.mk A50
        clear A50
        replace H := Option.bind_eq_some_iff.mp H
        obtain ⟨t418, A60, H⟩ := H
        replace H : (some (t418 == (Go.bits .and .u64 a0 9223372036854775807))) = some r := H
        have A6 := Aside0.mk A60
        clear A60
        obtain rfl := Option.some.inj H
        go_wp2_with (first | ((with_reducible refine gate_callee (f := 28) rfl ?_); refine goesL_ (some 15) rfl rfl Try.func28 (by kernel_rfl) rfl #[.int .u64 a0, .int .u64 a0] rfl (by (try simp only [List.map_toArray, List.map_cons, List.map_nil]); first | done | rfl | (simp only [List.length_drop, List.length_take]; rfl)) ?_; (with_reducible refine (real_Mul.calls a0 a0 t417 _ A5.out).mono ?_); rintro e w' ⟨rfl, ⟨nd, rfl⟩⟩; refine ⟨_, rfl, ?_⟩) | ((with_reducible refine gate_callee (f := 37) rfl ?_); refine goesL_ (some 16) rfl rfl Try.func37 (by kernel_rfl) rfl #[.int .u64 t417] rfl (by (try simp only [List.map_toArray, List.map_cons, List.map_nil]); first | done | rfl | (simp only [List.length_drop, List.length_take]; rfl)) ?_; (with_reducible refine (real_Sqrt.calls t417 t418 _ A6.out).mono ?_); rintro e w' ⟨rfl, ⟨nd, rfl⟩⟩; refine ⟨_, rfl, ?_⟩))
        go_ret
        exact ⟨by first | rfl | (simp; done) | (simp [*]; done), by repeat (first | exact Drawn0.refl _ | apply Drawn0.step)⟩

/-- THE ONE PURE STATEMENT of portagelaw03_RealRoots: yours. -/
def portagelaw03_RealRoots.Pure : Prop := ∀ (a0 : Int), (Lit.int .u64 a0).wf = true → ∃ k, portagelaw03_RealRoots.f k a0 = some true
theorem portagelaw03_RealRoots.walk (P : portagelaw03_RealRoots.Pure) (a0 : Int) (w : World) (w0 : (Lit.int .u64 a0).wf = true) :
    Calls Try.prog 8 #[.int .u64 a0] w fun e w' => e = .returned (.bool true) ∧ Below w.heap.size w w' := by
  obtain ⟨k, h⟩ := P a0 w0
  refine (portagelaw03_RealRoots.calls k a0 true w h).mono ?_
  rintro e w' ⟨rfl, hd⟩
  exact ⟨rfl, hd.below⟩

/-! ### portagelaw03_isNaN: function 38 -/
def portagelaw03_isNaN.f (a0 : Int) : Option (Bool) := some (decide ((Go.bits .and .u64 a0 9223372036854775807) > 9218868437227405312))
set_option maxHeartbeats 8000000 in
set_option maxRecDepth 100000 in
theorem portagelaw03_isNaN.calls (a0 : Int) (r : Bool) (w : World) (h : portagelaw03_isNaN.f a0 = some r) :
    Calls Try.prog 38 #[.int .u64 a0] w fun e w' => e = .returned (.bool r) ∧ Drawn0 w w' := by
  have H : (some (decide ((Go.bits .and .u64 a0 9223372036854775807) > 9218868437227405312))) = some r := h
  clear h
  obtain rfl := Option.some.inj H
  go_enter Try.func38, Try.ntmps38
  go_wp2
  go_ret
  exact ⟨by first | rfl | (simp; done) | (simp [*]; done), by repeat (first | exact Drawn0.refl _ | apply Drawn0.step)⟩

/-! ### portagelaw03_awake: function 39 -/
def portagelaw03_awake.j0 : Nat → Bool → Option (Bool)
  | 0, _ => none
  | k + 1, x10 => if x10 = true then (some false) else ((real_Less.f 4607182418800017408 4611686018427387904).bind fun t422 => (if t422 = true then ((real_Equal.f 4613937818241073152 4613937818241073152).bind fun t423 => (if t423 = true then ((real_Sqrt.f 4607182418800017408).bind fun t424 => (if t424 = 4607182418800017408 then ((real_FromInt.f 6).bind fun t425 => (some (t425 == 4618441417868443648))) else (some false))) else (some false))) else (some false)))
def portagelaw03_awake.f (k : Nat)  : Option (Bool) := (real_Add.f 4607182418800017408 4611686018427387904).bind fun t419 => (if t419 = 4613937818241073152 then ((real_Mul.f 4611686018427387904 4613937818241073152).bind fun t420 => (if t420 = 4618441417868443648 then ((real_Div.f 4618441417868443648 4613937818241073152).bind fun t421 => (portagelaw03_awake.j0 k (t421 != 4611686018427387904))) else (portagelaw03_awake.j0 k true))) else (portagelaw03_awake.j0 k true))
theorem portagelaw03_awake.mono_l : ∀ k, (∀ y0, LeO (portagelaw03_awake.j0 k y0) (portagelaw03_awake.j0 (k + 1) y0))
  | 0 => fun _ r h => by simp [portagelaw03_awake.j0] at h
  | k + 1 => by
    have ih0 := portagelaw03_awake.mono_l k
    · intro y0
      unfold portagelaw03_awake.j0
      repeat' first
      | (with_reducible exact ih0 _)
      | (with_reducible exact LeO.refl _)
      | (with_reducible exact LeO.none _)
      | (with_reducible refine LeO.ite ?_ ?_)
      | (with_reducible refine LeO.bind ?_ (fun _ => ?_))
      | exact ih0 _
      | exact LeO.none _
      | refine LeO.ite ?_ ?_
      | refine LeO.bind ?_ (fun _ => ?_)
theorem portagelaw03_awake.mono : ∀ k, LeO (portagelaw03_awake.f k ) (portagelaw03_awake.f (k + 1) ) := by
  intro  k
  have ih0 := portagelaw03_awake.mono_l k
  unfold portagelaw03_awake.f
  repeat' first
      | (with_reducible exact ih0 _)
      | (with_reducible exact LeO.refl _)
      | (with_reducible exact LeO.none _)
      | (with_reducible refine LeO.ite ?_ ?_)
      | (with_reducible refine LeO.bind ?_ (fun _ => ?_))
      | exact ih0 _
      | exact LeO.none _
      | refine LeO.ite ?_ ?_
      | refine LeO.bind ?_ (fun _ => ?_)
set_option maxHeartbeats 8000000 in
set_option maxRecDepth 100000 in
theorem portagelaw03_awake.calls (k : Nat)  (r : Bool) (w : World) (h : portagelaw03_awake.f k  = some r) :
    Calls Try.prog 39 #[] w fun e w' => e = .returned (.bool r) ∧ Drawn0 w w' := by
  have H : ((real_Add.f 4607182418800017408 4611686018427387904).bind fun t419 => (if t419 = 4613937818241073152 then ((real_Mul.f 4611686018427387904 4613937818241073152).bind fun t420 => (if t420 = 4618441417868443648 then ((real_Div.f 4618441417868443648 4613937818241073152).bind fun t421 => (portagelaw03_awake.j0 k (t421 != 4611686018427387904))) else (portagelaw03_awake.j0 k true))) else (portagelaw03_awake.j0 k true))) = some r := h
  clear h
  have HC1 := Aside0.mk H
  clear H
  go_enter Try.func39, Try.ntmps39
  go_upto_region 1 with (fail)
  go_cut [10] (fun v10 wc => ∃ (kq : Nat) (x10_0 : Bool), v10 = .bool x10_0 ∧ Aside0 (portagelaw03_awake.j0 kq x10_0 = some r) ∧ Aside0 (kq ≤ k) ∧ Drawn0 w wc)
  case first =>
    have H := HC1.out
    clear HC1
    replace H := Option.bind_eq_some_iff.mp H
    obtain ⟨t419, A20, H⟩ := H
    replace H : (if t419 = 4613937818241073152 then ((real_Mul.f 4611686018427387904 4613937818241073152).bind fun t420 => (if t420 = 4618441417868443648 then ((real_Div.f 4618441417868443648 4613937818241073152).bind fun t421 => (portagelaw03_awake.j0 k (t421 != 4611686018427387904))) else (portagelaw03_awake.j0 k true))) else (portagelaw03_awake.j0 k true)) = some r := H
    have A2 := Aside0.mk A20
    clear A20
    by_cases c3 : t419 = 4613937818241073152
    · rw [if_pos c3] at H
      have c3b0 : (t419 == 4613937818241073152) = true := beq_iff_eq.mpr c3
      have c3b1 : (t419 != 4613937818241073152) = false := bne_eq_false_iff_eq.mpr c3
      clear c3
      (first | rw [c3b0] | (simp only [i64_w, i32_w]; rw [c3b0]) | skip)
      replace H := Option.bind_eq_some_iff.mp H
      obtain ⟨t420, A40, H⟩ := H
      replace H : (if t420 = 4618441417868443648 then ((real_Div.f 4618441417868443648 4613937818241073152).bind fun t421 => (portagelaw03_awake.j0 k (t421 != 4611686018427387904))) else (portagelaw03_awake.j0 k true)) = some r := H
      have A4 := Aside0.mk A40
      clear A40
      by_cases c5 : t420 = 4618441417868443648
      · rw [if_pos c5] at H
        have c5b0 : (t420 == 4618441417868443648) = true := beq_iff_eq.mpr c5
        have c5b1 : (t420 != 4618441417868443648) = false := bne_eq_false_iff_eq.mpr c5
        clear c5
        replace H := Option.bind_eq_some_iff.mp H
        obtain ⟨t421, A60, H⟩ := H
        replace H : (portagelaw03_awake.j0 k (t421 != 4611686018427387904)) = some r := H
        have A6 := Aside0.mk A60
        clear A60
        have H' := Aside0.mk H
        clear H
        go_wp2_with (first | ((with_reducible refine gate_callee (f := 24) rfl ?_); refine goesL_ (some 1) rfl rfl Try.func24 (by kernel_rfl) rfl #[.int .u64 4607182418800017408, .int .u64 4611686018427387904] rfl (by (try simp only [List.map_toArray, List.map_cons, List.map_nil]); first | done | rfl | (simp only [List.length_drop, List.length_take]; rfl)) ?_; (with_reducible refine (real_Add.calls 4607182418800017408 4611686018427387904 t419 _ A2.out).mono ?_); rintro e w' ⟨rfl, ⟨nd, rfl⟩⟩; refine ⟨_, rfl, ?_⟩) | (go_at_call 28; (with_reducible refine (real_Mul.calls 4611686018427387904 4613937818241073152 t420 _ A4.out).mono ?_); rintro e w' ⟨rfl, ⟨nd, rfl⟩⟩) | (go_at_call 30; (with_reducible refine (real_Div.calls 4618441417868443648 4613937818241073152 t421 _ A6.out).mono ?_); rintro e w' ⟨rfl, ⟨nd, rfl⟩⟩))
        go_meet
        case rel => exact ⟨_, ((t421 != 4611686018427387904)), (by first | rfl | (simp; done) | (simp [*]; done)), H', ⟨by first | omega | exact Nat.le_refl _⟩, by repeat (first | exact Drawn0.refl _ | apply Drawn0.step)⟩
      · rw [if_neg c5] at H
        have c5b0 : (t420 == 4618441417868443648) = false := beq_eq_false_iff_ne.mpr c5
        have c5b1 : (t420 != 4618441417868443648) = true := bne_iff_ne.mpr c5
        have H' := Aside0.mk H
        clear H
        go_wp2_with (first | ((with_reducible refine gate_callee (f := 24) rfl ?_); refine goesL_ (some 1) rfl rfl Try.func24 (by kernel_rfl) rfl #[.int .u64 4607182418800017408, .int .u64 4611686018427387904] rfl (by (try simp only [List.map_toArray, List.map_cons, List.map_nil]); first | done | rfl | (simp only [List.length_drop, List.length_take]; rfl)) ?_; (with_reducible refine (real_Add.calls 4607182418800017408 4611686018427387904 t419 _ A2.out).mono ?_); rintro e w' ⟨rfl, ⟨nd, rfl⟩⟩; refine ⟨_, rfl, ?_⟩) | (go_at_call 28; (with_reducible refine (real_Mul.calls 4611686018427387904 4613937818241073152 t420 _ A4.out).mono ?_); rintro e w' ⟨rfl, ⟨nd, rfl⟩⟩))
        go_meet
        case rel => exact ⟨_, (true), (by first | rfl | (simp; done) | (simp [*]; done)), H', ⟨by first | omega | exact Nat.le_refl _⟩, by repeat (first | exact Drawn0.refl _ | apply Drawn0.step)⟩
    · rw [if_neg c3] at H
      have c3b0 : (t419 == 4613937818241073152) = false := beq_eq_false_iff_ne.mpr c3
      have c3b1 : (t419 != 4613937818241073152) = true := bne_iff_ne.mpr c3
      (first | rw [c3b0] | (simp only [i64_w, i32_w]; rw [c3b0]) | skip)
      have H' := Aside0.mk H
      clear H
      go_wp2_with (first | ((with_reducible refine gate_callee (f := 24) rfl ?_); refine goesL_ (some 1) rfl rfl Try.func24 (by kernel_rfl) rfl #[.int .u64 4607182418800017408, .int .u64 4611686018427387904] rfl (by (try simp only [List.map_toArray, List.map_cons, List.map_nil]); first | done | rfl | (simp only [List.length_drop, List.length_take]; rfl)) ?_; (with_reducible refine (real_Add.calls 4607182418800017408 4611686018427387904 t419 _ A2.out).mono ?_); rintro e w' ⟨rfl, ⟨nd, rfl⟩⟩; refine ⟨_, rfl, ?_⟩))
      go_meet
      case rel => exact ⟨_, (true), (by first | rfl | (simp; done) | (simp [*]; done)), H', ⟨by first | omega | exact Nat.le_refl _⟩, by repeat (first | exact Drawn0.refl _ | apply Drawn0.step)⟩
  case rest =>
    clear HC1
    try clear c2
    try clear p2
    try clear c3
    try clear c3b0
    try clear c3b1
    try clear c5
    try clear c5b0
    try clear c5b1
    obtain ⟨kq, x10_0, rfl, HA, HJ0, ⟨mc0, rfl⟩⟩ := hcut
    cases kq with
    | zero => exact absurd HA.out (by simp [portagelaw03_awake.j0])
    | succ kj0 =>
      have H := HA.out
      clear HA
      simp only [portagelaw03_awake.j0] at H
      by_cases c7 : x10_0 = true
      · subst c7
        have H1 : (some false) = some r := by rw [if_pos rfl] at H; exact H
        clear H
        have H := H1
        clear H1
        obtain rfl := Option.some.inj H
        go_wp2
        go_ret
        exact ⟨by first | rfl | (simp; done) | (simp [*]; done), by repeat (first | exact Drawn0.refl _ | apply Drawn0.step)⟩
      · replace c7 := Bool.eq_false_iff.mpr c7
        subst c7
        have H1 : ((real_Less.f 4607182418800017408 4611686018427387904).bind fun t422 => (if t422 = true then ((real_Equal.f 4613937818241073152 4613937818241073152).bind fun t423 => (if t423 = true then ((real_Sqrt.f 4607182418800017408).bind fun t424 => (if t424 = 4607182418800017408 then ((real_FromInt.f 6).bind fun t425 => (some (t425 == 4618441417868443648))) else (some false))) else (some false))) else (some false))) = some r := by rw [if_neg (show ¬ (false = true) by decide)] at H; exact H
        clear H
        have H := H1
        clear H1
        replace H := Option.bind_eq_some_iff.mp H
        obtain ⟨t422, A80, H⟩ := H
        replace H : (if t422 = true then ((real_Equal.f 4613937818241073152 4613937818241073152).bind fun t423 => (if t423 = true then ((real_Sqrt.f 4607182418800017408).bind fun t424 => (if t424 = 4607182418800017408 then ((real_FromInt.f 6).bind fun t425 => (some (t425 == 4618441417868443648))) else (some false))) else (some false))) else (some false)) = some r := H
        have A8 := Aside0.mk A80
        clear A80
        by_cases c9 : t422 = true
        · subst c9
          have H1 : ((real_Equal.f 4613937818241073152 4613937818241073152).bind fun t423 => (if t423 = true then ((real_Sqrt.f 4607182418800017408).bind fun t424 => (if t424 = 4607182418800017408 then ((real_FromInt.f 6).bind fun t425 => (some (t425 == 4618441417868443648))) else (some false))) else (some false))) = some r := by rw [if_pos rfl] at H; exact H
          clear H
          have H := H1
          clear H1
          replace H := Option.bind_eq_some_iff.mp H
          obtain ⟨t423, A100, H⟩ := H
          replace H : (if t423 = true then ((real_Sqrt.f 4607182418800017408).bind fun t424 => (if t424 = 4607182418800017408 then ((real_FromInt.f 6).bind fun t425 => (some (t425 == 4618441417868443648))) else (some false))) else (some false)) = some r := H
          have A10 := Aside0.mk A100
          clear A100
          by_cases c11 : t423 = true
          · subst c11
            have H1 : ((real_Sqrt.f 4607182418800017408).bind fun t424 => (if t424 = 4607182418800017408 then ((real_FromInt.f 6).bind fun t425 => (some (t425 == 4618441417868443648))) else (some false))) = some r := by rw [if_pos rfl] at H; exact H
            clear H
            have H := H1
            clear H1
            replace H := Option.bind_eq_some_iff.mp H
            obtain ⟨t424, A120, H⟩ := H
            replace H : (if t424 = 4607182418800017408 then ((real_FromInt.f 6).bind fun t425 => (some (t425 == 4618441417868443648))) else (some false)) = some r := H
            have A12 := Aside0.mk A120
            clear A120
            by_cases c13 : t424 = 4607182418800017408
            · rw [if_pos c13] at H
              have c13b0 : (t424 == 4607182418800017408) = true := beq_iff_eq.mpr c13
              have c13b1 : (t424 != 4607182418800017408) = false := bne_eq_false_iff_eq.mpr c13
              clear c13
              replace H := Option.bind_eq_some_iff.mp H
              obtain ⟨t425, A140, H⟩ := H
              replace H : (some (t425 == 4618441417868443648)) = some r := H
              have A14 := Aside0.mk A140
              clear A140
              obtain rfl := Option.some.inj H
              go_wp2_with (first | ((with_reducible refine gate_callee (f := 20) rfl ?_); refine goesL_ (some 11) rfl rfl Try.func20 (by kernel_rfl) rfl #[.int .u64 4607182418800017408, .int .u64 4611686018427387904] rfl (by (try simp only [List.map_toArray, List.map_cons, List.map_nil]); first | done | rfl | (simp only [List.length_drop, List.length_take]; rfl)) ?_; (with_reducible refine (real_Less.calls 4607182418800017408 4611686018427387904 true _ A8.out).mono ?_); rintro e w' ⟨rfl, ⟨nd, rfl⟩⟩; refine ⟨_, rfl, ?_⟩) | (go_at_call 22; (with_reducible refine (real_Equal.calls 4613937818241073152 4613937818241073152 true _ A10.out).mono ?_); rintro e w' ⟨rfl, ⟨nd, rfl⟩⟩) | (go_at_call 37; (with_reducible refine (real_Sqrt.calls 4607182418800017408 t424 _ A12.out).mono ?_); rintro e w' ⟨rfl, ⟨nd, rfl⟩⟩) | (go_at_call 35; (with_reducible refine (real_FromInt.calls 6 t425 _ A14.out).mono ?_); rintro e w' ⟨rfl, ⟨nd, rfl⟩⟩))
              go_ret
              exact ⟨by first | rfl | (simp; done) | (simp [*]; done), by repeat (first | exact Drawn0.refl _ | apply Drawn0.step)⟩
            · rw [if_neg c13] at H
              have c13b0 : (t424 == 4607182418800017408) = false := beq_eq_false_iff_ne.mpr c13
              have c13b1 : (t424 != 4607182418800017408) = true := bne_iff_ne.mpr c13
              obtain rfl := Option.some.inj H
              go_wp2_with (first | ((with_reducible refine gate_callee (f := 20) rfl ?_); refine goesL_ (some 11) rfl rfl Try.func20 (by kernel_rfl) rfl #[.int .u64 4607182418800017408, .int .u64 4611686018427387904] rfl (by (try simp only [List.map_toArray, List.map_cons, List.map_nil]); first | done | rfl | (simp only [List.length_drop, List.length_take]; rfl)) ?_; (with_reducible refine (real_Less.calls 4607182418800017408 4611686018427387904 true _ A8.out).mono ?_); rintro e w' ⟨rfl, ⟨nd, rfl⟩⟩; refine ⟨_, rfl, ?_⟩) | (go_at_call 22; (with_reducible refine (real_Equal.calls 4613937818241073152 4613937818241073152 true _ A10.out).mono ?_); rintro e w' ⟨rfl, ⟨nd, rfl⟩⟩) | (go_at_call 37; (with_reducible refine (real_Sqrt.calls 4607182418800017408 t424 _ A12.out).mono ?_); rintro e w' ⟨rfl, ⟨nd, rfl⟩⟩))
              go_ret
              exact ⟨by first | rfl | (simp; done) | (simp [*]; done), by repeat (first | exact Drawn0.refl _ | apply Drawn0.step)⟩
          · replace c11 := Bool.eq_false_iff.mpr c11
            subst c11
            have H1 : (some false) = some r := by rw [if_neg (show ¬ (false = true) by decide)] at H; exact H
            clear H
            have H := H1
            clear H1
            obtain rfl := Option.some.inj H
            go_wp2_with (first | ((with_reducible refine gate_callee (f := 20) rfl ?_); refine goesL_ (some 11) rfl rfl Try.func20 (by kernel_rfl) rfl #[.int .u64 4607182418800017408, .int .u64 4611686018427387904] rfl (by (try simp only [List.map_toArray, List.map_cons, List.map_nil]); first | done | rfl | (simp only [List.length_drop, List.length_take]; rfl)) ?_; (with_reducible refine (real_Less.calls 4607182418800017408 4611686018427387904 true _ A8.out).mono ?_); rintro e w' ⟨rfl, ⟨nd, rfl⟩⟩; refine ⟨_, rfl, ?_⟩) | (go_at_call 22; (with_reducible refine (real_Equal.calls 4613937818241073152 4613937818241073152 false _ A10.out).mono ?_); rintro e w' ⟨rfl, ⟨nd, rfl⟩⟩))
            go_ret
            exact ⟨by first | rfl | (simp; done) | (simp [*]; done), by repeat (first | exact Drawn0.refl _ | apply Drawn0.step)⟩
        · replace c9 := Bool.eq_false_iff.mpr c9
          subst c9
          have H1 : (some false) = some r := by rw [if_neg (show ¬ (false = true) by decide)] at H; exact H
          clear H
          have H := H1
          clear H1
          obtain rfl := Option.some.inj H
          go_wp2_with (first | ((with_reducible refine gate_callee (f := 20) rfl ?_); refine goesL_ (some 11) rfl rfl Try.func20 (by kernel_rfl) rfl #[.int .u64 4607182418800017408, .int .u64 4611686018427387904] rfl (by (try simp only [List.map_toArray, List.map_cons, List.map_nil]); first | done | rfl | (simp only [List.length_drop, List.length_take]; rfl)) ?_; (with_reducible refine (real_Less.calls 4607182418800017408 4611686018427387904 false _ A8.out).mono ?_); rintro e w' ⟨rfl, ⟨nd, rfl⟩⟩; refine ⟨_, rfl, ?_⟩))
          go_ret
          exact ⟨by first | rfl | (simp; done) | (simp [*]; done), by repeat (first | exact Drawn0.refl _ | apply Drawn0.step)⟩

/-! ### portagelaw03_key: function 40 -/
def portagelaw03_key.f (a0 : Int) : Option (Int) := if (Go.bits .and .u64 a0 9223372036854775808) = 0 then (some (wrap64 (Go.bits .and .u64 a0 9223372036854775807))) else (some (wrap64 (-(wrap64 (Go.bits .and .u64 a0 9223372036854775807)))))
set_option maxHeartbeats 8000000 in
set_option maxRecDepth 100000 in
theorem portagelaw03_key.calls (a0 : Int) (r : Int) (w : World) (h : portagelaw03_key.f a0 = some r) :
    Calls Try.prog 40 #[.int .u64 a0] w fun e w' => e = .returned (.int .i64 r) ∧ Drawn0 w w' := by
  have H : (if (Go.bits .and .u64 a0 9223372036854775808) = 0 then (some (wrap64 (Go.bits .and .u64 a0 9223372036854775807))) else (some (wrap64 (-(wrap64 (Go.bits .and .u64 a0 9223372036854775807)))))) = some r := h
  clear h
  by_cases c2 : (Go.bits .and .u64 a0 9223372036854775808) = 0
  · rw [if_pos c2] at H
    have c2b0 : ((Go.bits .and .u64 a0 9223372036854775808) == 0) = true := beq_iff_eq.mpr c2
    have c2b1 : ((Go.bits .and .u64 a0 9223372036854775808) != 0) = false := bne_eq_false_iff_eq.mpr c2
    clear c2
    obtain rfl := Option.some.inj H
    go_enter Try.func40, Try.ntmps40
    go_wp2
    go_ret
    exact ⟨by first | rfl | (simp; done) | (simp [*]; done), by repeat (first | exact Drawn0.refl _ | apply Drawn0.step)⟩
  · rw [if_neg c2] at H
    have c2b0 : ((Go.bits .and .u64 a0 9223372036854775808) == 0) = false := beq_eq_false_iff_ne.mpr c2
    have c2b1 : ((Go.bits .and .u64 a0 9223372036854775808) != 0) = true := bne_iff_ne.mpr c2
    obtain rfl := Option.some.inj H
    go_enter Try.func40, Try.ntmps40
    go_wp2
    go_ret
    exact ⟨by first | rfl | (simp; done) | (simp [*]; done), by repeat (first | exact Drawn0.refl _ | apply Drawn0.step)⟩

/-! ### portagelaw03_RealOrder: function 9 -/
def portagelaw03_RealOrder.j0 : Nat → Int → Int → Bool → Option (Bool)
  | 0, _, _, _ => none
  | k + 1, x0, x1, x10 => if x10 = true then ((real_Less.f x0 x1).bind fun t428 => (if t428 = true then (some false) else ((real_Equal.f x0 x1).bind fun t429 => (if t429 = true then (some false) else ((portagelaw03_awake.f k).bind fun t430 => (some t430)))))) else ((real_Less.f x0 x1).bind fun t431 => ((portagelaw03_key.f x0).bind fun t432 => ((portagelaw03_key.f x1).bind fun t433 => (if (t431 == (decide (t432 < t433))) = true then ((real_Equal.f x0 x1).bind fun t434 => ((portagelaw03_key.f x0).bind fun t435 => ((portagelaw03_key.f x1).bind fun t436 => (some (t434 == (t435 == t436)))))) else (some false)))))
def portagelaw03_RealOrder.f (k : Nat) (a0 : Int) (a1 : Int) : Option (Bool) := (portagelaw03_isNaN.f a0).bind fun t426 => (if t426 = true then (portagelaw03_RealOrder.j0 k a0 a1 true) else ((portagelaw03_isNaN.f a1).bind fun t427 => (portagelaw03_RealOrder.j0 k a0 a1 t427)))
theorem portagelaw03_RealOrder.mono_l : ∀ k, (∀ y0 y1 y2, LeO (portagelaw03_RealOrder.j0 k y0 y1 y2) (portagelaw03_RealOrder.j0 (k + 1) y0 y1 y2))
  | 0 => fun _ _ _ r h => by simp [portagelaw03_RealOrder.j0] at h
  | k + 1 => by
    have ih0 := portagelaw03_RealOrder.mono_l k
    · intro y0 y1 y2
      unfold portagelaw03_RealOrder.j0
      repeat' first
      | (with_reducible exact ih0 _ _ _)
      | (with_reducible exact portagelaw03_awake.mono _)
      | (with_reducible exact LeO.refl _)
      | (with_reducible exact LeO.none _)
      | (with_reducible refine LeO.ite ?_ ?_)
      | (with_reducible refine LeO.bind ?_ (fun _ => ?_))
      | exact ih0 _ _ _
      | exact portagelaw03_awake.mono _
      | exact LeO.none _
      | refine LeO.ite ?_ ?_
      | refine LeO.bind ?_ (fun _ => ?_)
theorem portagelaw03_RealOrder.mono : ∀ a0 a1 k, LeO (portagelaw03_RealOrder.f k a0 a1) (portagelaw03_RealOrder.f (k + 1) a0 a1) := by
  intro a0 a1 k
  have ih0 := portagelaw03_RealOrder.mono_l k
  unfold portagelaw03_RealOrder.f
  repeat' first
      | (with_reducible exact ih0 _ _ _)
      | (with_reducible exact portagelaw03_awake.mono _)
      | (with_reducible exact LeO.refl _)
      | (with_reducible exact LeO.none _)
      | (with_reducible refine LeO.ite ?_ ?_)
      | (with_reducible refine LeO.bind ?_ (fun _ => ?_))
      | exact ih0 _ _ _
      | exact portagelaw03_awake.mono _
      | exact LeO.none _
      | refine LeO.ite ?_ ?_
      | refine LeO.bind ?_ (fun _ => ?_)
set_option maxHeartbeats 8000000 in
set_option maxRecDepth 100000 in
theorem portagelaw03_RealOrder.calls (k : Nat) (a0 : Int) (a1 : Int) (r : Bool) (w : World) (h : portagelaw03_RealOrder.f k a0 a1 = some r) :
    Calls Try.prog 9 #[.int .u64 a0, .int .u64 a1] w fun e w' => e = .returned (.bool r) ∧ Drawn0 w w' := by
  have H : ((portagelaw03_isNaN.f a0).bind fun t426 => (if t426 = true then (portagelaw03_RealOrder.j0 k a0 a1 true) else ((portagelaw03_isNaN.f a1).bind fun t427 => (portagelaw03_RealOrder.j0 k a0 a1 t427)))) = some r := h
  clear h
  have HC3 := Aside0.mk H
  clear H
  go_enter Try.func9, Try.ntmps9
  go_upto_region 1 with (fail)
  go_cut [10] (fun v10 wc => ∃ (kq : Nat) (x10_2 : Bool), v10 = .bool x10_2 ∧ Aside0 (portagelaw03_RealOrder.j0 kq a0 a1 x10_2 = some r) ∧ Aside0 (kq ≤ k) ∧ Drawn0 w wc)
  case first =>
    have H := HC3.out
    clear HC3
    replace H := Option.bind_eq_some_iff.mp H
    obtain ⟨t426, A40, H⟩ := H
    replace H : (if t426 = true then (portagelaw03_RealOrder.j0 k a0 a1 true) else ((portagelaw03_isNaN.f a1).bind fun t427 => (portagelaw03_RealOrder.j0 k a0 a1 t427))) = some r := H
    have A4 := Aside0.mk A40
    clear A40
    by_cases c5 : t426 = true
    · subst c5
      have H1 : (portagelaw03_RealOrder.j0 k a0 a1 true) = some r := by rw [if_pos rfl] at H; exact H
      clear H
      have H := H1
      clear H1
      have H' := Aside0.mk H
      clear H
      go_wp2_with (first | ((with_reducible refine gate_callee (f := 38) rfl ?_); refine goesL_ (some 6) rfl rfl Try.func38 (by kernel_rfl) rfl #[.int .u64 a0] rfl (by (try simp only [List.map_toArray, List.map_cons, List.map_nil]); first | done | rfl | (simp only [List.length_drop, List.length_take]; rfl)) ?_; (with_reducible refine (portagelaw03_isNaN.calls a0 true _ A4.out).mono ?_); rintro e w' ⟨rfl, ⟨nd, rfl⟩⟩; refine ⟨_, rfl, ?_⟩))
      go_meet
      case rel => exact ⟨_, (true), (by first | rfl | (simp; done) | (simp [*]; done)), H', ⟨by first | omega | exact Nat.le_refl _⟩, by repeat (first | exact Drawn0.refl _ | apply Drawn0.step)⟩
    · replace c5 := Bool.eq_false_iff.mpr c5
      subst c5
      have H1 : ((portagelaw03_isNaN.f a1).bind fun t427 => (portagelaw03_RealOrder.j0 k a0 a1 t427)) = some r := by rw [if_neg (show ¬ (false = true) by decide)] at H; exact H
      clear H
      have H := H1
      clear H1
      replace H := Option.bind_eq_some_iff.mp H
      obtain ⟨t427, A60, H⟩ := H
      replace H : (portagelaw03_RealOrder.j0 k a0 a1 t427) = some r := H
      have A6 := Aside0.mk A60
      clear A60
      have H' := Aside0.mk H
      clear H
      go_wp2_with (first | ((with_reducible refine gate_callee (f := 38) rfl ?_); refine goesL_ (some 6) rfl rfl Try.func38 (by kernel_rfl) rfl #[.int .u64 a0] rfl (by (try simp only [List.map_toArray, List.map_cons, List.map_nil]); first | done | rfl | (simp only [List.length_drop, List.length_take]; rfl)) ?_; (with_reducible refine (portagelaw03_isNaN.calls a0 false _ A4.out).mono ?_); rintro e w' ⟨rfl, ⟨nd, rfl⟩⟩; refine ⟨_, rfl, ?_⟩) | (go_at_call 38; (with_reducible refine (portagelaw03_isNaN.calls a1 t427 _ A6.out).mono ?_); rintro e w' ⟨rfl, ⟨nd, rfl⟩⟩))
      go_meet
      case rel => exact ⟨_, (t427), (by first | rfl | (simp; done) | (simp [*]; done)), H', ⟨by first | omega | exact Nat.le_refl _⟩, by repeat (first | exact Drawn0.refl _ | apply Drawn0.step)⟩
  case rest =>
    clear HC3
    try clear p2
    try clear c3
    try clear c5
    obtain ⟨kq, x10_2, rfl, HA, HJ2, ⟨mc2, rfl⟩⟩ := hcut
    cases kq with
    | zero => exact absurd HA.out (by simp [portagelaw03_RealOrder.j0])
    | succ kj2 =>
      have H := HA.out
      clear HA
      simp only [portagelaw03_RealOrder.j0] at H
      by_cases c7 : x10_2 = true
      · subst c7
        have H1 : ((real_Less.f a0 a1).bind fun t428 => (if t428 = true then (some false) else ((real_Equal.f a0 a1).bind fun t429 => (if t429 = true then (some false) else ((portagelaw03_awake.f kj2).bind fun t430 => (some t430)))))) = some r := by rw [if_pos rfl] at H; exact H
        clear H
        have H := H1
        clear H1
        replace H := Option.bind_eq_some_iff.mp H
        obtain ⟨t428, A80, H⟩ := H
        replace H : (if t428 = true then (some false) else ((real_Equal.f a0 a1).bind fun t429 => (if t429 = true then (some false) else ((portagelaw03_awake.f kj2).bind fun t430 => (some t430))))) = some r := H
        have A8 := Aside0.mk A80
        clear A80
        by_cases c9 : t428 = true
        · subst c9
          have H1 : (some false) = some r := by rw [if_pos rfl] at H; exact H
          clear H
          have H := H1
          clear H1
          obtain rfl := Option.some.inj H
          go_wp2_with (first | ((with_reducible refine gate_callee (f := 20) rfl ?_); refine goesL_ (some 13) rfl rfl Try.func20 (by kernel_rfl) rfl #[.int .u64 a0, .int .u64 a1] rfl (by (try simp only [List.map_toArray, List.map_cons, List.map_nil]); first | done | rfl | (simp only [List.length_drop, List.length_take]; rfl)) ?_; (with_reducible refine (real_Less.calls a0 a1 true _ A8.out).mono ?_); rintro e w' ⟨rfl, ⟨nd, rfl⟩⟩; refine ⟨_, rfl, ?_⟩))
          go_ret
          exact ⟨by first | rfl | (simp; done) | (simp [*]; done), by repeat (first | exact Drawn0.refl _ | apply Drawn0.step)⟩
        · replace c9 := Bool.eq_false_iff.mpr c9
          subst c9
          have H1 : ((real_Equal.f a0 a1).bind fun t429 => (if t429 = true then (some false) else ((portagelaw03_awake.f kj2).bind fun t430 => (some t430)))) = some r := by rw [if_neg (show ¬ (false = true) by decide)] at H; exact H
          clear H
          have H := H1
          clear H1
          replace H := Option.bind_eq_some_iff.mp H
          obtain ⟨t429, A100, H⟩ := H
          replace H : (if t429 = true then (some false) else ((portagelaw03_awake.f kj2).bind fun t430 => (some t430))) = some r := H
          have A10 := Aside0.mk A100
          clear A100
          by_cases c11 : t429 = true
          · subst c11
            have H1 : (some false) = some r := by rw [if_pos rfl] at H; exact H
            clear H
            have H := H1
            clear H1
            obtain rfl := Option.some.inj H
            go_wp2_with (first | ((with_reducible refine gate_callee (f := 20) rfl ?_); refine goesL_ (some 13) rfl rfl Try.func20 (by kernel_rfl) rfl #[.int .u64 a0, .int .u64 a1] rfl (by (try simp only [List.map_toArray, List.map_cons, List.map_nil]); first | done | rfl | (simp only [List.length_drop, List.length_take]; rfl)) ?_; (with_reducible refine (real_Less.calls a0 a1 false _ A8.out).mono ?_); rintro e w' ⟨rfl, ⟨nd, rfl⟩⟩; refine ⟨_, rfl, ?_⟩) | (go_at_call 22; (with_reducible refine (real_Equal.calls a0 a1 true _ A10.out).mono ?_); rintro e w' ⟨rfl, ⟨nd, rfl⟩⟩))
            go_ret
            exact ⟨by first | rfl | (simp; done) | (simp [*]; done), by repeat (first | exact Drawn0.refl _ | apply Drawn0.step)⟩
          · replace c11 := Bool.eq_false_iff.mpr c11
            subst c11
            have H1 : ((portagelaw03_awake.f kj2).bind fun t430 => (some t430)) = some r := by rw [if_neg (show ¬ (false = true) by decide)] at H; exact H
            clear H
            have H := H1
            clear H1
            replace H := Option.bind_eq_some_iff.mp H
            obtain ⟨t430, A120, H⟩ := H
            replace H : (some t430) = some r := H
            have A12 := Aside0.mk A120
            clear A120
            obtain rfl := Option.some.inj H
            go_wp2_with (first | ((with_reducible refine gate_callee (f := 20) rfl ?_); refine goesL_ (some 13) rfl rfl Try.func20 (by kernel_rfl) rfl #[.int .u64 a0, .int .u64 a1] rfl (by (try simp only [List.map_toArray, List.map_cons, List.map_nil]); first | done | rfl | (simp only [List.length_drop, List.length_take]; rfl)) ?_; (with_reducible refine (real_Less.calls a0 a1 false _ A8.out).mono ?_); rintro e w' ⟨rfl, ⟨nd, rfl⟩⟩; refine ⟨_, rfl, ?_⟩) | (go_at_call 22; (with_reducible refine (real_Equal.calls a0 a1 false _ A10.out).mono ?_); rintro e w' ⟨rfl, ⟨nd, rfl⟩⟩) | (go_at_call 39; (with_reducible refine (portagelaw03_awake.calls kj2  t430 _ A12.out).mono ?_); rintro e w' ⟨rfl, ⟨nd, rfl⟩⟩))
            go_ret
            exact ⟨by first | rfl | (simp; done) | (simp [*]; done), by repeat (first | exact Drawn0.refl _ | apply Drawn0.step)⟩
      · replace c7 := Bool.eq_false_iff.mpr c7
        subst c7
        have H1 : ((real_Less.f a0 a1).bind fun t431 => ((portagelaw03_key.f a0).bind fun t432 => ((portagelaw03_key.f a1).bind fun t433 => (if (t431 == (decide (t432 < t433))) = true then ((real_Equal.f a0 a1).bind fun t434 => ((portagelaw03_key.f a0).bind fun t435 => ((portagelaw03_key.f a1).bind fun t436 => (some (t434 == (t435 == t436)))))) else (some false))))) = some r := by rw [if_neg (show ¬ (false = true) by decide)] at H; exact H
        clear H
        have H := H1
        clear H1
        replace H := Option.bind_eq_some_iff.mp H
        obtain ⟨t431, A130, H⟩ := H
        replace H : ((portagelaw03_key.f a0).bind fun t432 => ((portagelaw03_key.f a1).bind fun t433 => (if (t431 == (decide (t432 < t433))) = true then ((real_Equal.f a0 a1).bind fun t434 => ((portagelaw03_key.f a0).bind fun t435 => ((portagelaw03_key.f a1).bind fun t436 => (some (t434 == (t435 == t436)))))) else (some false)))) = some r := H
        have A13 := Aside0.mk A130
        clear A130
        replace H := Option.bind_eq_some_iff.mp H
        obtain ⟨t432, A140, H⟩ := H
        replace H : ((portagelaw03_key.f a1).bind fun t433 => (if (t431 == (decide (t432 < t433))) = true then ((real_Equal.f a0 a1).bind fun t434 => ((portagelaw03_key.f a0).bind fun t435 => ((portagelaw03_key.f a1).bind fun t436 => (some (t434 == (t435 == t436)))))) else (some false))) = some r := H
        have A14 := Aside0.mk A140
        clear A140
        replace H := Option.bind_eq_some_iff.mp H
        obtain ⟨t433, A150, H⟩ := H
        replace H : (if (t431 == (decide (t432 < t433))) = true then ((real_Equal.f a0 a1).bind fun t434 => ((portagelaw03_key.f a0).bind fun t435 => ((portagelaw03_key.f a1).bind fun t436 => (some (t434 == (t435 == t436)))))) else (some false)) = some r := H
        have A15 := Aside0.mk A150
        clear A150
        by_cases c16 : (t431 == (decide (t432 < t433))) = true
        · rw [if_pos c16] at H
          have c16b0 : (t431 == (decide (t432 < t433))) = true := c16
          (try (have c16b1 : decide (t431 = (decide (t432 < t433))) = true := by simpa using c16))
          (try (have c16b2 : (t431 == (decide (t432 < t433))) = true := by simpa using c16))
          clear c16
          replace H := Option.bind_eq_some_iff.mp H
          obtain ⟨t434, A170, H⟩ := H
          replace H : ((portagelaw03_key.f a0).bind fun t435 => ((portagelaw03_key.f a1).bind fun t436 => (some (t434 == (t435 == t436))))) = some r := H
          have A17 := Aside0.mk A170
          clear A170
          replace H := Option.bind_eq_some_iff.mp H
          obtain ⟨t435, A180, H⟩ := H
          replace H : ((portagelaw03_key.f a1).bind fun t436 => (some (t434 == (t435 == t436)))) = some r := H
          have A18 := Aside0.mk A180
          clear A180
          replace H := Option.bind_eq_some_iff.mp H
          obtain ⟨t436, A190, H⟩ := H
          replace H : (some (t434 == (t435 == t436))) = some r := H
          have A19 := Aside0.mk A190
          clear A190
          obtain rfl := Option.some.inj H
          go_wp2_with (first | ((with_reducible refine gate_callee (f := 20) rfl ?_); refine goesL_ (some 26) rfl rfl Try.func20 (by kernel_rfl) rfl #[.int .u64 a0, .int .u64 a1] rfl (by (try simp only [List.map_toArray, List.map_cons, List.map_nil]); first | done | rfl | (simp only [List.length_drop, List.length_take]; rfl)) ?_; (with_reducible refine (real_Less.calls a0 a1 t431 _ A13.out).mono ?_); rintro e w' ⟨rfl, ⟨nd, rfl⟩⟩; refine ⟨_, rfl, ?_⟩) | ((with_reducible refine gate_callee (f := 40) rfl ?_); refine goesL_ (some 28) rfl rfl Try.func40 (by kernel_rfl) rfl #[.int .u64 a0] rfl (by (try simp only [List.map_toArray, List.map_cons, List.map_nil]); first | done | rfl | (simp only [List.length_drop, List.length_take]; rfl)) ?_; (with_reducible refine (portagelaw03_key.calls a0 t432 _ A14.out).mono ?_); rintro e w' ⟨rfl, ⟨nd, rfl⟩⟩; refine ⟨_, rfl, ?_⟩) | ((with_reducible refine gate_callee (f := 40) rfl ?_); refine goesL_ (some 30) rfl rfl Try.func40 (by kernel_rfl) rfl #[.int .u64 a1] rfl (by (try simp only [List.map_toArray, List.map_cons, List.map_nil]); first | done | rfl | (simp only [List.length_drop, List.length_take]; rfl)) ?_; (with_reducible refine (portagelaw03_key.calls a1 t433 _ A15.out).mono ?_); rintro e w' ⟨rfl, ⟨nd, rfl⟩⟩; refine ⟨_, rfl, ?_⟩) | (go_at_call 22; (with_reducible refine (real_Equal.calls a0 a1 t434 _ A17.out).mono ?_); rintro e w' ⟨rfl, ⟨nd, rfl⟩⟩) | (go_at_call 40; (with_reducible refine (portagelaw03_key.calls a0 t435 _ A18.out).mono ?_); rintro e w' ⟨rfl, ⟨nd, rfl⟩⟩) | (go_at_call 40; (with_reducible refine (portagelaw03_key.calls a1 t436 _ A19.out).mono ?_); rintro e w' ⟨rfl, ⟨nd, rfl⟩⟩))
          go_ret
          exact ⟨by first | rfl | (simp; done) | (simp [*]; done), by repeat (first | exact Drawn0.refl _ | apply Drawn0.step)⟩
        · rw [if_neg c16] at H
          have c16b0 : (t431 == (decide (t432 < t433))) = false := by simpa using c16
          (try (have c16b1 : decide (t431 = (decide (t432 < t433))) = false := by simpa using c16))
          (try (have c16b2 : (t431 == (decide (t432 < t433))) = false := by simpa using c16))
          (try (have c16b3 : ¬ (t431 = (decide (t432 < t433))) := by simpa using c16))
          clear c16
          obtain rfl := Option.some.inj H
          go_wp2_with (first | ((with_reducible refine gate_callee (f := 20) rfl ?_); refine goesL_ (some 26) rfl rfl Try.func20 (by kernel_rfl) rfl #[.int .u64 a0, .int .u64 a1] rfl (by (try simp only [List.map_toArray, List.map_cons, List.map_nil]); first | done | rfl | (simp only [List.length_drop, List.length_take]; rfl)) ?_; (with_reducible refine (real_Less.calls a0 a1 t431 _ A13.out).mono ?_); rintro e w' ⟨rfl, ⟨nd, rfl⟩⟩; refine ⟨_, rfl, ?_⟩) | ((with_reducible refine gate_callee (f := 40) rfl ?_); refine goesL_ (some 28) rfl rfl Try.func40 (by kernel_rfl) rfl #[.int .u64 a0] rfl (by (try simp only [List.map_toArray, List.map_cons, List.map_nil]); first | done | rfl | (simp only [List.length_drop, List.length_take]; rfl)) ?_; (with_reducible refine (portagelaw03_key.calls a0 t432 _ A14.out).mono ?_); rintro e w' ⟨rfl, ⟨nd, rfl⟩⟩; refine ⟨_, rfl, ?_⟩) | ((with_reducible refine gate_callee (f := 40) rfl ?_); refine goesL_ (some 30) rfl rfl Try.func40 (by kernel_rfl) rfl #[.int .u64 a1] rfl (by (try simp only [List.map_toArray, List.map_cons, List.map_nil]); first | done | rfl | (simp only [List.length_drop, List.length_take]; rfl)) ?_; (with_reducible refine (portagelaw03_key.calls a1 t433 _ A15.out).mono ?_); rintro e w' ⟨rfl, ⟨nd, rfl⟩⟩; refine ⟨_, rfl, ?_⟩))
          go_ret
          exact ⟨by first | rfl | (simp; done) | (simp [*]; done), by repeat (first | exact Drawn0.refl _ | apply Drawn0.step)⟩

/-- THE ONE PURE STATEMENT of portagelaw03_RealOrder: yours. -/
def portagelaw03_RealOrder.Pure : Prop := ∀ (a0 : Int) (a1 : Int), (Lit.int .u64 a0).wf = true → (Lit.int .u64 a1).wf = true → ∃ k, portagelaw03_RealOrder.f k a0 a1 = some true
theorem portagelaw03_RealOrder.walk (P : portagelaw03_RealOrder.Pure) (a0 : Int) (a1 : Int) (w : World) (w0 : (Lit.int .u64 a0).wf = true) (w1 : (Lit.int .u64 a1).wf = true) :
    Calls Try.prog 9 #[.int .u64 a0, .int .u64 a1] w fun e w' => e = .returned (.bool true) ∧ Below w.heap.size w w' := by
  obtain ⟨k, h⟩ := P a0 a1 w0 w1
  refine (portagelaw03_RealOrder.calls k a0 a1 true w h).mono ?_
  rintro e w' ⟨rfl, hd⟩
  exact ⟨rfl, hd.below⟩

end Go.Proofs.Ytapgnackoclbeaa.PReal
