-- written by a program of this session (leafprint.py) over the translation; Lean checks it
import Derived.Test.YtapgnackoclbeaaPRealx0
import Derived.Test.YtapgnackoclbeaaPRealx9
namespace Go.Proofs.Ytapgnackoclbeaa.PReal
open Go.RowKit Go.Proofs.YtapgnackoclbeaaW.PrintWords Go.Proofs.YtapgnackoclbeaaW.PrintLast Go.Proofs.YtapgnackoclbeaaW.PrintMore
attribute [local go_sem] max2_int min2_int max_two min_two max_three min_three max_four min_four   -- for this text's walks alone
set_option linter.unusedVariables false
set_option linter.unusedSimpArgs false

/-! ### portagelaw03_RealScales: function 10 -/
mutual
def portagelaw03_RealScales.j0 : Nat → Int → Int → Int → Int → Bool → Option (Bool)
  | 0, _, _, _, _, _ => none
  | k + 1, x0, x5, x6, x7, x38 => if x38 = true then (some false) else (if (wrap64 (Go.bits .and .u64 (x0 / 4503599627370496) 2047)) = 0 then (portagelaw03_RealScales.j1 k x0 x5 x6 x7 (wrap64 (Go.bits .and .u64 (x0 / 4503599627370496) 2047)) true) else (if (wrap64 (Go.bits .and .u64 (x0 / 4503599627370496) 2047)) = 2047 then (portagelaw03_RealScales.j1 k x0 x5 x6 x7 (wrap64 (Go.bits .and .u64 (x0 / 4503599627370496) 2047)) true) else (if (wrap64 ((wrap64 (Go.bits .and .u64 (x0 / 4503599627370496) 2047)) + x5)) < 1 then (portagelaw03_RealScales.j1 k x0 x5 x6 x7 (wrap64 (Go.bits .and .u64 (x0 / 4503599627370496) 2047)) true) else (portagelaw03_RealScales.j1 k x0 x5 x6 x7 (wrap64 (Go.bits .and .u64 (x0 / 4503599627370496) 2047)) (decide ((wrap64 ((wrap64 (Go.bits .and .u64 (x0 / 4503599627370496) 2047)) + x5)) > 2046))))))
def portagelaw03_RealScales.j1 : Nat → Int → Int → Int → Int → Int → Bool → Option (Bool)
  | 0, _, _, _, _, _, _ => none
  | k + 1, x0, x5, x6, x7, x8, x60 => if x60 = true then (some true) else ((real_Mul.f x0 x6).bind fun t442 => (if t442 = (Go.bits .or .u64 (IntKind.u64.wrap ((IntKind.u64.wrap (wrap64 (x8 + x5))) * 4503599627370496)) (Go.bits .and .u64 x0 9227875636482146303)) then ((real_Mul.f t442 x7).bind fun t443 => (some (t443 == x0))) else (some false)))
end
def portagelaw03_RealScales.f (k : Nat) (a0 : Int) (a1 : Int) : Option (Bool) := (real_Div.f a0 (IntKind.u64.wrap ((IntKind.u64.wrap (wrap64 (1023 + (Int.tmod a1 1001)))) * 4503599627370496))).bind fun t437 => ((real_Mul.f a0 (IntKind.u64.wrap ((IntKind.u64.wrap (wrap64 (1023 - (Int.tmod a1 1001)))) * 4503599627370496))).bind fun t438 => (if t437 = t438 then ((real_Add.f a0 a0).bind fun t439 => ((real_Mul.f a0 4611686018427387904).bind fun t440 => (if t439 = t440 then ((portagelaw03_awake.f k).bind fun t441 => (portagelaw03_RealScales.j0 k a0 (Int.tmod a1 1001) (IntKind.u64.wrap ((IntKind.u64.wrap (wrap64 (1023 + (Int.tmod a1 1001)))) * 4503599627370496)) (IntKind.u64.wrap ((IntKind.u64.wrap (wrap64 (1023 - (Int.tmod a1 1001)))) * 4503599627370496)) (!t441))) else (portagelaw03_RealScales.j0 k a0 (Int.tmod a1 1001) (IntKind.u64.wrap ((IntKind.u64.wrap (wrap64 (1023 + (Int.tmod a1 1001)))) * 4503599627370496)) (IntKind.u64.wrap ((IntKind.u64.wrap (wrap64 (1023 - (Int.tmod a1 1001)))) * 4503599627370496)) true)))) else (portagelaw03_RealScales.j0 k a0 (Int.tmod a1 1001) (IntKind.u64.wrap ((IntKind.u64.wrap (wrap64 (1023 + (Int.tmod a1 1001)))) * 4503599627370496)) (IntKind.u64.wrap ((IntKind.u64.wrap (wrap64 (1023 - (Int.tmod a1 1001)))) * 4503599627370496)) true)))
theorem portagelaw03_RealScales.mono_l : ∀ k, (∀ y0 y1 y2 y3 y4, LeO (portagelaw03_RealScales.j0 k y0 y1 y2 y3 y4) (portagelaw03_RealScales.j0 (k + 1) y0 y1 y2 y3 y4)) ∧ (∀ y0 y1 y2 y3 y4 y5, LeO (portagelaw03_RealScales.j1 k y0 y1 y2 y3 y4 y5) (portagelaw03_RealScales.j1 (k + 1) y0 y1 y2 y3 y4 y5))
  | 0 => ⟨fun _ _ _ _ _ r h => by simp [portagelaw03_RealScales.j0] at h, fun _ _ _ _ _ _ r h => by simp [portagelaw03_RealScales.j1] at h⟩
  | k + 1 => by
    obtain ⟨ih0, ih1⟩ := portagelaw03_RealScales.mono_l k
    refine ⟨?_, ?_⟩
    · intro y0 y1 y2 y3 y4
      unfold portagelaw03_RealScales.j0
      repeat' first
      | (with_reducible exact ih0 _ _ _ _ _)
      | (with_reducible exact ih1 _ _ _ _ _ _)
      | (with_reducible exact portagelaw03_awake.mono _)
      | (with_reducible exact LeO.refl _)
      | (with_reducible exact LeO.none _)
      | (with_reducible refine LeO.ite ?_ ?_)
      | (with_reducible refine LeO.bind ?_ (fun _ => ?_))
      | exact ih0 _ _ _ _ _
      | exact ih1 _ _ _ _ _ _
      | exact portagelaw03_awake.mono _
      | exact LeO.none _
      | refine LeO.ite ?_ ?_
      | refine LeO.bind ?_ (fun _ => ?_)
    · intro y0 y1 y2 y3 y4 y5
      unfold portagelaw03_RealScales.j1
      repeat' first
      | (with_reducible exact ih0 _ _ _ _ _)
      | (with_reducible exact ih1 _ _ _ _ _ _)
      | (with_reducible exact portagelaw03_awake.mono _)
      | (with_reducible exact LeO.refl _)
      | (with_reducible exact LeO.none _)
      | (with_reducible refine LeO.ite ?_ ?_)
      | (with_reducible refine LeO.bind ?_ (fun _ => ?_))
      | exact ih0 _ _ _ _ _
      | exact ih1 _ _ _ _ _ _
      | exact portagelaw03_awake.mono _
      | exact LeO.none _
      | refine LeO.ite ?_ ?_
      | refine LeO.bind ?_ (fun _ => ?_)
theorem portagelaw03_RealScales.mono : ∀ a0 a1 k, LeO (portagelaw03_RealScales.f k a0 a1) (portagelaw03_RealScales.f (k + 1) a0 a1) := by
  intro a0 a1 k
  obtain ⟨ih0, ih1⟩ := portagelaw03_RealScales.mono_l k
  unfold portagelaw03_RealScales.f
  repeat' first
      | (with_reducible exact ih0 _ _ _ _ _)
      | (with_reducible exact ih1 _ _ _ _ _ _)
      | (with_reducible exact portagelaw03_awake.mono _)
      | (with_reducible exact LeO.refl _)
      | (with_reducible exact LeO.none _)
      | (with_reducible refine LeO.ite ?_ ?_)
      | (with_reducible refine LeO.bind ?_ (fun _ => ?_))
      | exact ih0 _ _ _ _ _
      | exact ih1 _ _ _ _ _ _
      | exact portagelaw03_awake.mono _
      | exact LeO.none _
      | refine LeO.ite ?_ ?_
      | refine LeO.bind ?_ (fun _ => ?_)
set_option maxHeartbeats 8000000 in
set_option maxRecDepth 100000 in
theorem portagelaw03_RealScales.calls (k : Nat) (a0 : Int) (a1 : Int) (r : Bool) (w : World) (h : portagelaw03_RealScales.f k a0 a1 = some r) :
    Calls Try.prog 10 #[.int .u64 a0, .int .i64 a1] w fun e w' => e = .returned (.bool r) ∧ Drawn0 w w' := by
  have H : ((real_Div.f a0 (IntKind.u64.wrap ((IntKind.u64.wrap (wrap64 (1023 + (Int.tmod a1 1001)))) * 4503599627370496))).bind fun t437 => ((real_Mul.f a0 (IntKind.u64.wrap ((IntKind.u64.wrap (wrap64 (1023 - (Int.tmod a1 1001)))) * 4503599627370496))).bind fun t438 => (if t437 = t438 then ((real_Add.f a0 a0).bind fun t439 => ((real_Mul.f a0 4611686018427387904).bind fun t440 => (if t439 = t440 then ((portagelaw03_awake.f k).bind fun t441 => (portagelaw03_RealScales.j0 k a0 (Int.tmod a1 1001) (IntKind.u64.wrap ((IntKind.u64.wrap (wrap64 (1023 + (Int.tmod a1 1001)))) * 4503599627370496)) (IntKind.u64.wrap ((IntKind.u64.wrap (wrap64 (1023 - (Int.tmod a1 1001)))) * 4503599627370496)) (!t441))) else (portagelaw03_RealScales.j0 k a0 (Int.tmod a1 1001) (IntKind.u64.wrap ((IntKind.u64.wrap (wrap64 (1023 + (Int.tmod a1 1001)))) * 4503599627370496)) (IntKind.u64.wrap ((IntKind.u64.wrap (wrap64 (1023 - (Int.tmod a1 1001)))) * 4503599627370496)) true)))) else (portagelaw03_RealScales.j0 k a0 (Int.tmod a1 1001) (IntKind.u64.wrap ((IntKind.u64.wrap (wrap64 (1023 + (Int.tmod a1 1001)))) * 4503599627370496)) (IntKind.u64.wrap ((IntKind.u64.wrap (wrap64 (1023 - (Int.tmod a1 1001)))) * 4503599627370496)) true)))) = some r := h
  clear h
  have HC3 := Aside0.mk H
  clear H
  go_enter Try.func10, Try.ntmps10
  go_upto_region 4 with (fail)
  go_cut [38] (fun v38 wc => ∃ (kq : Nat) (x38_2 : Bool), v38 = .bool x38_2 ∧ Aside0 (portagelaw03_RealScales.j0 kq a0 (Int.tmod a1 1001) (IntKind.u64.wrap ((IntKind.u64.wrap (wrap64 (1023 + (Int.tmod a1 1001)))) * 4503599627370496)) (IntKind.u64.wrap ((IntKind.u64.wrap (wrap64 (1023 - (Int.tmod a1 1001)))) * 4503599627370496)) x38_2 = some r) ∧ Aside0 (kq ≤ k) ∧ Drawn0 w wc)
  case first =>
    have H := HC3.out
    clear HC3
    replace H := Option.bind_eq_some_iff.mp H
    obtain ⟨t437, A40, H⟩ := H
    replace H : ((real_Mul.f a0 (IntKind.u64.wrap ((IntKind.u64.wrap (wrap64 (1023 - (Int.tmod a1 1001)))) * 4503599627370496))).bind fun t438 => (if t437 = t438 then ((real_Add.f a0 a0).bind fun t439 => ((real_Mul.f a0 4611686018427387904).bind fun t440 => (if t439 = t440 then ((portagelaw03_awake.f k).bind fun t441 => (portagelaw03_RealScales.j0 k a0 (Int.tmod a1 1001) (IntKind.u64.wrap ((IntKind.u64.wrap (wrap64 (1023 + (Int.tmod a1 1001)))) * 4503599627370496)) (IntKind.u64.wrap ((IntKind.u64.wrap (wrap64 (1023 - (Int.tmod a1 1001)))) * 4503599627370496)) (!t441))) else (portagelaw03_RealScales.j0 k a0 (Int.tmod a1 1001) (IntKind.u64.wrap ((IntKind.u64.wrap (wrap64 (1023 + (Int.tmod a1 1001)))) * 4503599627370496)) (IntKind.u64.wrap ((IntKind.u64.wrap (wrap64 (1023 - (Int.tmod a1 1001)))) * 4503599627370496)) true)))) else (portagelaw03_RealScales.j0 k a0 (Int.tmod a1 1001) (IntKind.u64.wrap ((IntKind.u64.wrap (wrap64 (1023 + (Int.tmod a1 1001)))) * 4503599627370496)) (IntKind.u64.wrap ((IntKind.u64.wrap (wrap64 (1023 - (Int.tmod a1 1001)))) * 4503599627370496)) true))) = some r := H
    have A4 := Aside0.mk A40
    clear A40
    replace H := Option.bind_eq_some_iff.mp H
    obtain ⟨t438, A50, H⟩ := H
    replace H : (if t437 = t438 then ((real_Add.f a0 a0).bind fun t439 => ((real_Mul.f a0 4611686018427387904).bind fun t440 => (if t439 = t440 then ((portagelaw03_awake.f k).bind fun t441 => (portagelaw03_RealScales.j0 k a0 (Int.tmod a1 1001) (IntKind.u64.wrap ((IntKind.u64.wrap (wrap64 (1023 + (Int.tmod a1 1001)))) * 4503599627370496)) (IntKind.u64.wrap ((IntKind.u64.wrap (wrap64 (1023 - (Int.tmod a1 1001)))) * 4503599627370496)) (!t441))) else (portagelaw03_RealScales.j0 k a0 (Int.tmod a1 1001) (IntKind.u64.wrap ((IntKind.u64.wrap (wrap64 (1023 + (Int.tmod a1 1001)))) * 4503599627370496)) (IntKind.u64.wrap ((IntKind.u64.wrap (wrap64 (1023 - (Int.tmod a1 1001)))) * 4503599627370496)) true)))) else (portagelaw03_RealScales.j0 k a0 (Int.tmod a1 1001) (IntKind.u64.wrap ((IntKind.u64.wrap (wrap64 (1023 + (Int.tmod a1 1001)))) * 4503599627370496)) (IntKind.u64.wrap ((IntKind.u64.wrap (wrap64 (1023 - (Int.tmod a1 1001)))) * 4503599627370496)) true)) = some r := H
    have A5 := Aside0.mk A50
    clear A50
    by_cases c6 : t437 = t438
    · rw [if_pos c6] at H
      have c6b0 : (t437 == t438) = true := beq_iff_eq.mpr c6
      have c6b1 : (t437 != t438) = false := bne_eq_false_iff_eq.mpr c6
      clear c6
      (first | rw [c6b0] | (simp only [i64_w, i32_w]; rw [c6b0]) | skip)
      replace H := Option.bind_eq_some_iff.mp H
      obtain ⟨t439, A70, H⟩ := H
      replace H : ((real_Mul.f a0 4611686018427387904).bind fun t440 => (if t439 = t440 then ((portagelaw03_awake.f k).bind fun t441 => (portagelaw03_RealScales.j0 k a0 (Int.tmod a1 1001) (IntKind.u64.wrap ((IntKind.u64.wrap (wrap64 (1023 + (Int.tmod a1 1001)))) * 4503599627370496)) (IntKind.u64.wrap ((IntKind.u64.wrap (wrap64 (1023 - (Int.tmod a1 1001)))) * 4503599627370496)) (!t441))) else (portagelaw03_RealScales.j0 k a0 (Int.tmod a1 1001) (IntKind.u64.wrap ((IntKind.u64.wrap (wrap64 (1023 + (Int.tmod a1 1001)))) * 4503599627370496)) (IntKind.u64.wrap ((IntKind.u64.wrap (wrap64 (1023 - (Int.tmod a1 1001)))) * 4503599627370496)) true))) = some r := H
      have A7 := Aside0.mk A70
      clear A70
      replace H := Option.bind_eq_some_iff.mp H
      obtain ⟨t440, A80, H⟩ := H
      replace H : (if t439 = t440 then ((portagelaw03_awake.f k).bind fun t441 => (portagelaw03_RealScales.j0 k a0 (Int.tmod a1 1001) (IntKind.u64.wrap ((IntKind.u64.wrap (wrap64 (1023 + (Int.tmod a1 1001)))) * 4503599627370496)) (IntKind.u64.wrap ((IntKind.u64.wrap (wrap64 (1023 - (Int.tmod a1 1001)))) * 4503599627370496)) (!t441))) else (portagelaw03_RealScales.j0 k a0 (Int.tmod a1 1001) (IntKind.u64.wrap ((IntKind.u64.wrap (wrap64 (1023 + (Int.tmod a1 1001)))) * 4503599627370496)) (IntKind.u64.wrap ((IntKind.u64.wrap (wrap64 (1023 - (Int.tmod a1 1001)))) * 4503599627370496)) true)) = some r := H
      have A8 := Aside0.mk A80
      clear A80
      by_cases c9 : t439 = t440
      · rw [if_pos c9] at H
        have c9b0 : (t439 == t440) = true := beq_iff_eq.mpr c9
        have c9b1 : (t439 != t440) = false := bne_eq_false_iff_eq.mpr c9
        clear c9
        replace H := Option.bind_eq_some_iff.mp H
        obtain ⟨t441, A100, H⟩ := H
        replace H : (portagelaw03_RealScales.j0 k a0 (Int.tmod a1 1001) (IntKind.u64.wrap ((IntKind.u64.wrap (wrap64 (1023 + (Int.tmod a1 1001)))) * 4503599627370496)) (IntKind.u64.wrap ((IntKind.u64.wrap (wrap64 (1023 - (Int.tmod a1 1001)))) * 4503599627370496)) (!t441)) = some r := H
        have A10 := Aside0.mk A100
        clear A100
        have H' := Aside0.mk H
        clear H
        go_wp2_with (first | ((with_reducible refine gate_callee (f := 30) rfl ?_); refine goesL_ (some 22) rfl rfl Try.func30 (by kernel_rfl) rfl #[.int .u64 a0, .int .u64 (IntKind.u64.wrap ((IntKind.u64.wrap (wrap64 (1023 + (Int.tmod a1 1001)))) * 4503599627370496))] rfl (by (try simp only [List.map_toArray, List.map_cons, List.map_nil]); first | done | rfl | (simp only [List.length_drop, List.length_take]; rfl)) ?_; (with_reducible refine (real_Div.calls a0 (IntKind.u64.wrap ((IntKind.u64.wrap (wrap64 (1023 + (Int.tmod a1 1001)))) * 4503599627370496)) t437 _ A4.out).mono ?_); rintro e w' ⟨rfl, ⟨nd, rfl⟩⟩; refine ⟨_, rfl, ?_⟩) | ((with_reducible refine gate_callee (f := 28) rfl ?_); refine goesL_ (some 25) rfl rfl Try.func28 (by kernel_rfl) rfl #[.int .u64 a0, .int .u64 (IntKind.u64.wrap ((IntKind.u64.wrap (wrap64 (1023 - (Int.tmod a1 1001)))) * 4503599627370496))] rfl (by (try simp only [List.map_toArray, List.map_cons, List.map_nil]); first | done | rfl | (simp only [List.length_drop, List.length_take]; rfl)) ?_; (with_reducible refine (real_Mul.calls a0 (IntKind.u64.wrap ((IntKind.u64.wrap (wrap64 (1023 - (Int.tmod a1 1001)))) * 4503599627370496)) t438 _ A5.out).mono ?_); rintro e w' ⟨rfl, ⟨nd, rfl⟩⟩; refine ⟨_, rfl, ?_⟩) | (go_at_call 24; (with_reducible refine (real_Add.calls a0 a0 t439 _ A7.out).mono ?_); rintro e w' ⟨rfl, ⟨nd, rfl⟩⟩) | (go_at_call 28; (with_reducible refine (real_Mul.calls a0 4611686018427387904 t440 _ A8.out).mono ?_); rintro e w' ⟨rfl, ⟨nd, rfl⟩⟩) | (go_at_call 39; (with_reducible refine (portagelaw03_awake.calls k  t441 _ A10.out).mono ?_); rintro e w' ⟨rfl, ⟨nd, rfl⟩⟩))
        go_meet
        case rel => exact ⟨_, (!t441), (by first | rfl | (simp; done) | (simp [*]; done)), H', ⟨by first | omega | exact Nat.le_refl _⟩, by repeat (first | exact Drawn0.refl _ | apply Drawn0.step)⟩
      · rw [if_neg c9] at H
        have c9b0 : (t439 == t440) = false := beq_eq_false_iff_ne.mpr c9
        have c9b1 : (t439 != t440) = true := bne_iff_ne.mpr c9
        have H' := Aside0.mk H
        clear H
        go_wp2_with (first | ((with_reducible refine gate_callee (f := 30) rfl ?_); refine goesL_ (some 22) rfl rfl Try.func30 (by kernel_rfl) rfl #[.int .u64 a0, .int .u64 (IntKind.u64.wrap ((IntKind.u64.wrap (wrap64 (1023 + (Int.tmod a1 1001)))) * 4503599627370496))] rfl (by (try simp only [List.map_toArray, List.map_cons, List.map_nil]); first | done | rfl | (simp only [List.length_drop, List.length_take]; rfl)) ?_; (with_reducible refine (real_Div.calls a0 (IntKind.u64.wrap ((IntKind.u64.wrap (wrap64 (1023 + (Int.tmod a1 1001)))) * 4503599627370496)) t437 _ A4.out).mono ?_); rintro e w' ⟨rfl, ⟨nd, rfl⟩⟩; refine ⟨_, rfl, ?_⟩) | ((with_reducible refine gate_callee (f := 28) rfl ?_); refine goesL_ (some 25) rfl rfl Try.func28 (by kernel_rfl) rfl #[.int .u64 a0, .int .u64 (IntKind.u64.wrap ((IntKind.u64.wrap (wrap64 (1023 - (Int.tmod a1 1001)))) * 4503599627370496))] rfl (by (try simp only [List.map_toArray, List.map_cons, List.map_nil]); first | done | rfl | (simp only [List.length_drop, List.length_take]; rfl)) ?_; (with_reducible refine (real_Mul.calls a0 (IntKind.u64.wrap ((IntKind.u64.wrap (wrap64 (1023 - (Int.tmod a1 1001)))) * 4503599627370496)) t438 _ A5.out).mono ?_); rintro e w' ⟨rfl, ⟨nd, rfl⟩⟩; refine ⟨_, rfl, ?_⟩) | (go_at_call 24; (with_reducible refine (real_Add.calls a0 a0 t439 _ A7.out).mono ?_); rintro e w' ⟨rfl, ⟨nd, rfl⟩⟩) | (go_at_call 28; (with_reducible refine (real_Mul.calls a0 4611686018427387904 t440 _ A8.out).mono ?_); rintro e w' ⟨rfl, ⟨nd, rfl⟩⟩))
        go_meet
        case rel => exact ⟨_, (true), (by first | rfl | (simp; done) | (simp [*]; done)), H', ⟨by first | omega | exact Nat.le_refl _⟩, by repeat (first | exact Drawn0.refl _ | apply Drawn0.step)⟩
    · rw [if_neg c6] at H
      have c6b0 : (t437 == t438) = false := beq_eq_false_iff_ne.mpr c6
      have c6b1 : (t437 != t438) = true := bne_iff_ne.mpr c6
      (first | rw [c6b0] | (simp only [i64_w, i32_w]; rw [c6b0]) | skip)
      have H' := Aside0.mk H
      clear H
      go_wp2_with (first | ((with_reducible refine gate_callee (f := 30) rfl ?_); refine goesL_ (some 22) rfl rfl Try.func30 (by kernel_rfl) rfl #[.int .u64 a0, .int .u64 (IntKind.u64.wrap ((IntKind.u64.wrap (wrap64 (1023 + (Int.tmod a1 1001)))) * 4503599627370496))] rfl (by (try simp only [List.map_toArray, List.map_cons, List.map_nil]); first | done | rfl | (simp only [List.length_drop, List.length_take]; rfl)) ?_; (with_reducible refine (real_Div.calls a0 (IntKind.u64.wrap ((IntKind.u64.wrap (wrap64 (1023 + (Int.tmod a1 1001)))) * 4503599627370496)) t437 _ A4.out).mono ?_); rintro e w' ⟨rfl, ⟨nd, rfl⟩⟩; refine ⟨_, rfl, ?_⟩) | ((with_reducible refine gate_callee (f := 28) rfl ?_); refine goesL_ (some 25) rfl rfl Try.func28 (by kernel_rfl) rfl #[.int .u64 a0, .int .u64 (IntKind.u64.wrap ((IntKind.u64.wrap (wrap64 (1023 - (Int.tmod a1 1001)))) * 4503599627370496))] rfl (by (try simp only [List.map_toArray, List.map_cons, List.map_nil]); first | done | rfl | (simp only [List.length_drop, List.length_take]; rfl)) ?_; (with_reducible refine (real_Mul.calls a0 (IntKind.u64.wrap ((IntKind.u64.wrap (wrap64 (1023 - (Int.tmod a1 1001)))) * 4503599627370496)) t438 _ A5.out).mono ?_); rintro e w' ⟨rfl, ⟨nd, rfl⟩⟩; refine ⟨_, rfl, ?_⟩))
      go_meet
      case rel => exact ⟨_, (true), (by first | rfl | (simp; done) | (simp [*]; done)), H', ⟨by first | omega | exact Nat.le_refl _⟩, by repeat (first | exact Drawn0.refl _ | apply Drawn0.step)⟩
  case rest =>
    clear HC3
    try clear c1
    try clear c2
    try clear p2
    try clear c3
    try clear c6
    try clear c6b0
    try clear c6b1
    try clear p6
    try clear c9
    try clear c9b0
    try clear c9b1
    try clear c10
    obtain ⟨kq, x38_2, rfl, HA, HJ2, ⟨mc2, rfl⟩⟩ := hcut
    cases kq with
    | zero => exact absurd HA.out (by simp [portagelaw03_RealScales.j0])
    | succ kj2 =>
      have H := HA.out
      clear HA
      simp only [portagelaw03_RealScales.j0] at H
      by_cases c11 : x38_2 = true
      · subst c11
        have H1 : (some false) = some r := by rw [if_pos rfl] at H; exact H
        clear H
        have H := H1
        clear H1
        obtain rfl := Option.some.inj H
        go_wp2
        go_ret
        exact ⟨by first | rfl | (simp; done) | (simp [*]; done), by repeat (first | exact Drawn0.refl _ | apply Drawn0.step)⟩
      · replace c11 := Bool.eq_false_iff.mpr c11
        subst c11
        have H1 : (if (wrap64 (Go.bits .and .u64 (a0 / 4503599627370496) 2047)) = 0 then (portagelaw03_RealScales.j1 kj2 a0 (Int.tmod a1 1001) (IntKind.u64.wrap ((IntKind.u64.wrap (wrap64 (1023 + (Int.tmod a1 1001)))) * 4503599627370496)) (IntKind.u64.wrap ((IntKind.u64.wrap (wrap64 (1023 - (Int.tmod a1 1001)))) * 4503599627370496)) (wrap64 (Go.bits .and .u64 (a0 / 4503599627370496) 2047)) true) else (if (wrap64 (Go.bits .and .u64 (a0 / 4503599627370496) 2047)) = 2047 then (portagelaw03_RealScales.j1 kj2 a0 (Int.tmod a1 1001) (IntKind.u64.wrap ((IntKind.u64.wrap (wrap64 (1023 + (Int.tmod a1 1001)))) * 4503599627370496)) (IntKind.u64.wrap ((IntKind.u64.wrap (wrap64 (1023 - (Int.tmod a1 1001)))) * 4503599627370496)) (wrap64 (Go.bits .and .u64 (a0 / 4503599627370496) 2047)) true) else (if (wrap64 ((wrap64 (Go.bits .and .u64 (a0 / 4503599627370496) 2047)) + (Int.tmod a1 1001))) < 1 then (portagelaw03_RealScales.j1 kj2 a0 (Int.tmod a1 1001) (IntKind.u64.wrap ((IntKind.u64.wrap (wrap64 (1023 + (Int.tmod a1 1001)))) * 4503599627370496)) (IntKind.u64.wrap ((IntKind.u64.wrap (wrap64 (1023 - (Int.tmod a1 1001)))) * 4503599627370496)) (wrap64 (Go.bits .and .u64 (a0 / 4503599627370496) 2047)) true) else (portagelaw03_RealScales.j1 kj2 a0 (Int.tmod a1 1001) (IntKind.u64.wrap ((IntKind.u64.wrap (wrap64 (1023 + (Int.tmod a1 1001)))) * 4503599627370496)) (IntKind.u64.wrap ((IntKind.u64.wrap (wrap64 (1023 - (Int.tmod a1 1001)))) * 4503599627370496)) (wrap64 (Go.bits .and .u64 (a0 / 4503599627370496) 2047)) (decide ((wrap64 ((wrap64 (Go.bits .and .u64 (a0 / 4503599627370496) 2047)) + (Int.tmod a1 1001))) > 2046)))))) = some r := by rw [if_neg (show ¬ (false = true) by decide)] at H; exact H
        clear H
        have H := H1
        clear H1
        have HC12 := Aside0.mk H
        clear H
        go_upto_region 7 with (fail)
        go_cut [60] (fun v60 wc => ∃ (kq : Nat) (x60_11 : Bool), v60 = .bool x60_11 ∧ Aside0 (portagelaw03_RealScales.j1 kq a0 (Int.tmod a1 1001) (IntKind.u64.wrap ((IntKind.u64.wrap (wrap64 (1023 + (Int.tmod a1 1001)))) * 4503599627370496)) (IntKind.u64.wrap ((IntKind.u64.wrap (wrap64 (1023 - (Int.tmod a1 1001)))) * 4503599627370496)) (wrap64 (Go.bits .and .u64 (a0 / 4503599627370496) 2047)) x60_11 = some r) ∧ Aside0 (kq ≤ kj2) ∧ Drawn0 w wc)
        case first =>
          have H := HC12.out
          clear HC12
          by_cases c13 : (wrap64 (Go.bits .and .u64 (a0 / 4503599627370496) 2047)) = 0
          · rw [if_pos c13] at H
            have c13b0 : ((wrap64 (Go.bits .and .u64 (a0 / 4503599627370496) 2047)) == 0) = true := beq_iff_eq.mpr c13
            have c13b1 : ((wrap64 (Go.bits .and .u64 (a0 / 4503599627370496) 2047)) != 0) = false := bne_eq_false_iff_eq.mpr c13
            clear c13
            (first | rw [c13b0] | (simp only [i64_w, i32_w]; rw [c13b0]) | skip)
            have H' := Aside0.mk H
            clear H
            go_wp2
            go_meet
            case rel => exact ⟨_, (true), (by first | rfl | (simp; done) | (simp [*]; done)), H', ⟨by have := HJ2.out; first | omega | exact Nat.le_refl _⟩, by repeat (first | exact Drawn0.refl _ | apply Drawn0.step)⟩
          · rw [if_neg c13] at H
            have c13b0 : ((wrap64 (Go.bits .and .u64 (a0 / 4503599627370496) 2047)) == 0) = false := beq_eq_false_iff_ne.mpr c13
            have c13b1 : ((wrap64 (Go.bits .and .u64 (a0 / 4503599627370496) 2047)) != 0) = true := bne_iff_ne.mpr c13
            (first | rw [c13b0] | (simp only [i64_w, i32_w]; rw [c13b0]) | skip)
            by_cases c14 : (wrap64 (Go.bits .and .u64 (a0 / 4503599627370496) 2047)) = 2047
            · rw [if_pos c14] at H
              have c14b0 : ((wrap64 (Go.bits .and .u64 (a0 / 4503599627370496) 2047)) == 2047) = true := beq_iff_eq.mpr c14
              have c14b1 : ((wrap64 (Go.bits .and .u64 (a0 / 4503599627370496) 2047)) != 2047) = false := bne_eq_false_iff_eq.mpr c14
              clear c14
              have H' := Aside0.mk H
              clear H
              go_wp2
              go_meet
              case rel => exact ⟨_, (true), (by first | rfl | (simp; done) | (simp [*]; done)), H', ⟨by have := HJ2.out; first | omega | exact Nat.le_refl _⟩, by repeat (first | exact Drawn0.refl _ | apply Drawn0.step)⟩
            · rw [if_neg c14] at H
              have c14b0 : ((wrap64 (Go.bits .and .u64 (a0 / 4503599627370496) 2047)) == 2047) = false := beq_eq_false_iff_ne.mpr c14
              have c14b1 : ((wrap64 (Go.bits .and .u64 (a0 / 4503599627370496) 2047)) != 2047) = true := bne_iff_ne.mpr c14
              by_cases c15 : (wrap64 ((wrap64 (Go.bits .and .u64 (a0 / 4503599627370496) 2047)) + (Int.tmod a1 1001))) < 1
              · rw [if_pos c15] at H
                have c15b0 : decide ((wrap64 ((wrap64 (Go.bits .and .u64 (a0 / 4503599627370496) 2047)) + (Int.tmod a1 1001))) < 1) = true := decide_eq_true c15
                clear c15
                have H' := Aside0.mk H
                clear H
                go_wp2
                go_meet
                case rel => exact ⟨_, (true), (by first | rfl | (simp; done) | (simp [*]; done)), H', ⟨by have := HJ2.out; first | omega | exact Nat.le_refl _⟩, by repeat (first | exact Drawn0.refl _ | apply Drawn0.step)⟩
              · rw [if_neg c15] at H
                have c15b0 : decide ((wrap64 ((wrap64 (Go.bits .and .u64 (a0 / 4503599627370496) 2047)) + (Int.tmod a1 1001))) < 1) = false := decide_eq_false c15
                clear c15
                have H' := Aside0.mk H
                clear H
                go_wp2
                go_meet
                case rel => exact ⟨_, (decide ((wrap64 ((wrap64 (Go.bits .and .u64 (a0 / 4503599627370496) 2047)) + (Int.tmod a1 1001))) > 2046)), (by first | rfl | (simp; done) | (simp [*]; done)), H', ⟨by have := HJ2.out; first | omega | exact Nat.le_refl _⟩, by repeat (first | exact Drawn0.refl _ | apply Drawn0.step)⟩
        case rest =>
          clear HC12
          try clear c1
          try clear c2
          try clear p2
          try clear c3
          try clear c6
          try clear c6b0
          try clear c6b1
          try clear p6
          try clear c9
          try clear c9b0
          try clear c9b1
          try clear c10
          try clear c11
          try clear c13
          try clear c13b0
          try clear c13b1
          try clear c14
          try clear c14b0
          try clear c14b1
          try clear c15
          try clear c15b0
          try clear p2
          try clear p6
          obtain ⟨kq, x60_11, rfl, HA, HJ11, ⟨mc11, rfl⟩⟩ := hcut
          cases kq with
          | zero => exact absurd HA.out (by simp [portagelaw03_RealScales.j1])
          | succ kj11 =>
            have H := HA.out
            clear HA
            simp only [portagelaw03_RealScales.j1] at H
            by_cases c16 : x60_11 = true
            · subst c16
              have H1 : (some true) = some r := by rw [if_pos rfl] at H; exact H
              clear H
              have H := H1
              clear H1
              obtain rfl := Option.some.inj H
              go_wp2
              go_ret
              exact ⟨by first | rfl | (simp; done) | (simp [*]; done), by repeat (first | exact Drawn0.refl _ | apply Drawn0.step)⟩
            · replace c16 := Bool.eq_false_iff.mpr c16
              subst c16
              have H1 : ((real_Mul.f a0 (IntKind.u64.wrap ((IntKind.u64.wrap (wrap64 (1023 + (Int.tmod a1 1001)))) * 4503599627370496))).bind fun t442 => (if t442 = (Go.bits .or .u64 (IntKind.u64.wrap ((IntKind.u64.wrap (wrap64 ((wrap64 (Go.bits .and .u64 (a0 / 4503599627370496) 2047)) + (Int.tmod a1 1001)))) * 4503599627370496)) (Go.bits .and .u64 a0 9227875636482146303)) then ((real_Mul.f t442 (IntKind.u64.wrap ((IntKind.u64.wrap (wrap64 (1023 - (Int.tmod a1 1001)))) * 4503599627370496))).bind fun t443 => (some (t443 == a0))) else (some false))) = some r := by rw [if_neg (show ¬ (false = true) by decide)] at H; exact H
              clear H
              have H := H1
              clear H1
              replace H := Option.bind_eq_some_iff.mp H
              obtain ⟨t442, A170, H⟩ := H
              replace H : (if t442 = (Go.bits .or .u64 (IntKind.u64.wrap ((IntKind.u64.wrap (wrap64 ((wrap64 (Go.bits .and .u64 (a0 / 4503599627370496) 2047)) + (Int.tmod a1 1001)))) * 4503599627370496)) (Go.bits .and .u64 a0 9227875636482146303)) then ((real_Mul.f t442 (IntKind.u64.wrap ((IntKind.u64.wrap (wrap64 (1023 - (Int.tmod a1 1001)))) * 4503599627370496))).bind fun t443 => (some (t443 == a0))) else (some false)) = some r := H
              have A17 := Aside0.mk A170
              clear A170
              by_cases c18 : t442 = (Go.bits .or .u64 (IntKind.u64.wrap ((IntKind.u64.wrap (wrap64 ((wrap64 (Go.bits .and .u64 (a0 / 4503599627370496) 2047)) + (Int.tmod a1 1001)))) * 4503599627370496)) (Go.bits .and .u64 a0 9227875636482146303))
              · rw [if_pos c18] at H
                have c18b0 : (t442 == (Go.bits .or .u64 (IntKind.u64.wrap ((IntKind.u64.wrap (wrap64 ((wrap64 (Go.bits .and .u64 (a0 / 4503599627370496) 2047)) + (Int.tmod a1 1001)))) * 4503599627370496)) (Go.bits .and .u64 a0 9227875636482146303))) = true := beq_iff_eq.mpr c18
                have c18b1 : (t442 != (Go.bits .or .u64 (IntKind.u64.wrap ((IntKind.u64.wrap (wrap64 ((wrap64 (Go.bits .and .u64 (a0 / 4503599627370496) 2047)) + (Int.tmod a1 1001)))) * 4503599627370496)) (Go.bits .and .u64 a0 9227875636482146303))) = false := bne_eq_false_iff_eq.mpr c18
                clear c18
                replace H := Option.bind_eq_some_iff.mp H
                obtain ⟨t443, A190, H⟩ := H
                replace H : (some (t443 == a0)) = some r := H
                have A19 := Aside0.mk A190
                clear A190
                obtain rfl := Option.some.inj H
                go_wp2_with (first | ((with_reducible refine gate_callee (f := 28) rfl ?_); refine goesL_ (some 63) rfl rfl Try.func28 (by kernel_rfl) rfl #[.int .u64 a0, .int .u64 (IntKind.u64.wrap ((IntKind.u64.wrap (wrap64 (1023 + (Int.tmod a1 1001)))) * 4503599627370496))] rfl (by (try simp only [List.map_toArray, List.map_cons, List.map_nil]); first | done | rfl | (simp only [List.length_drop, List.length_take]; rfl)) ?_; (with_reducible refine (real_Mul.calls a0 (IntKind.u64.wrap ((IntKind.u64.wrap (wrap64 (1023 + (Int.tmod a1 1001)))) * 4503599627370496)) t442 _ A17.out).mono ?_); rintro e w' ⟨rfl, ⟨nd, rfl⟩⟩; refine ⟨_, rfl, ?_⟩) | (go_at_call 28; (with_reducible refine (real_Mul.calls t442 (IntKind.u64.wrap ((IntKind.u64.wrap (wrap64 (1023 - (Int.tmod a1 1001)))) * 4503599627370496)) t443 _ A19.out).mono ?_); rintro e w' ⟨rfl, ⟨nd, rfl⟩⟩))
                go_ret
                exact ⟨by first | rfl | (simp; done) | (simp [*]; done), by repeat (first | exact Drawn0.refl _ | apply Drawn0.step)⟩
              · rw [if_neg c18] at H
                have c18b0 : (t442 == (Go.bits .or .u64 (IntKind.u64.wrap ((IntKind.u64.wrap (wrap64 ((wrap64 (Go.bits .and .u64 (a0 / 4503599627370496) 2047)) + (Int.tmod a1 1001)))) * 4503599627370496)) (Go.bits .and .u64 a0 9227875636482146303))) = false := beq_eq_false_iff_ne.mpr c18
                have c18b1 : (t442 != (Go.bits .or .u64 (IntKind.u64.wrap ((IntKind.u64.wrap (wrap64 ((wrap64 (Go.bits .and .u64 (a0 / 4503599627370496) 2047)) + (Int.tmod a1 1001)))) * 4503599627370496)) (Go.bits .and .u64 a0 9227875636482146303))) = true := bne_iff_ne.mpr c18
                obtain rfl := Option.some.inj H
                go_wp2_with (first | ((with_reducible refine gate_callee (f := 28) rfl ?_); refine goesL_ (some 63) rfl rfl Try.func28 (by kernel_rfl) rfl #[.int .u64 a0, .int .u64 (IntKind.u64.wrap ((IntKind.u64.wrap (wrap64 (1023 + (Int.tmod a1 1001)))) * 4503599627370496))] rfl (by (try simp only [List.map_toArray, List.map_cons, List.map_nil]); first | done | rfl | (simp only [List.length_drop, List.length_take]; rfl)) ?_; (with_reducible refine (real_Mul.calls a0 (IntKind.u64.wrap ((IntKind.u64.wrap (wrap64 (1023 + (Int.tmod a1 1001)))) * 4503599627370496)) t442 _ A17.out).mono ?_); rintro e w' ⟨rfl, ⟨nd, rfl⟩⟩; refine ⟨_, rfl, ?_⟩))
                go_ret
                exact ⟨by first | rfl | (simp; done) | (simp [*]; done), by repeat (first | exact Drawn0.refl _ | apply Drawn0.step)⟩

/-- THE ONE PURE STATEMENT of portagelaw03_RealScales: yours. -/
def portagelaw03_RealScales.Pure : Prop := ∀ (a0 : Int) (a1 : Int), (Lit.int .u64 a0).wf = true → (Lit.int .i64 a1).wf = true → ∃ k, portagelaw03_RealScales.f k a0 a1 = some true
theorem portagelaw03_RealScales.walk (P : portagelaw03_RealScales.Pure) (a0 : Int) (a1 : Int) (w : World) (w0 : (Lit.int .u64 a0).wf = true) (w1 : (Lit.int .i64 a1).wf = true) :
    Calls Try.prog 10 #[.int .u64 a0, .int .i64 a1] w fun e w' => e = .returned (.bool true) ∧ Below w.heap.size w w' := by
  obtain ⟨k, h⟩ := P a0 a1 w0 w1
  refine (portagelaw03_RealScales.calls k a0 a1 true w h).mono ?_
  rintro e w' ⟨rfl, hd⟩
  exact ⟨rfl, hd.below⟩

/-! ### portagelaw03_twice: function 41 -/
def portagelaw03_twice.f (a0 : Int) : Option (Int) := if a0 < 4503599627370496 then (some (IntKind.u64.wrap (a0 * 2))) else (some (IntKind.u64.wrap (a0 + 4503599627370496)))
set_option maxHeartbeats 8000000 in
set_option maxRecDepth 100000 in
theorem portagelaw03_twice.calls (a0 : Int) (r : Int) (w : World) (h : portagelaw03_twice.f a0 = some r) :
    Calls Try.prog 41 #[.int .u64 a0] w fun e w' => e = .returned (.int .u64 r) ∧ Drawn0 w w' := by
  have H : (if a0 < 4503599627370496 then (some (IntKind.u64.wrap (a0 * 2))) else (some (IntKind.u64.wrap (a0 + 4503599627370496)))) = some r := h
  clear h
  by_cases c2 : a0 < 4503599627370496
  · rw [if_pos c2] at H
    have c2b0 : decide (a0 < 4503599627370496) = true := decide_eq_true c2
    clear c2
    obtain rfl := Option.some.inj H
    go_enter Try.func41, Try.ntmps41
    go_wp2
    go_ret
    exact ⟨by first | rfl | (simp; done) | (simp [*]; done), by repeat (first | exact Drawn0.refl _ | apply Drawn0.step)⟩
  · rw [if_neg c2] at H
    have c2b0 : decide (a0 < 4503599627370496) = false := decide_eq_false c2
    clear c2
    obtain rfl := Option.some.inj H
    go_enter Try.func41, Try.ntmps41
    go_wp2
    go_ret
    exact ⟨by first | rfl | (simp; done) | (simp [*]; done), by repeat (first | exact Drawn0.refl _ | apply Drawn0.step)⟩

/-! ### portagelaw03_RealNear: function 11 -/
def portagelaw03_RealNear.j0 : Nat → Int → Int → Bool → Option (Bool)
  | 0, _, _, _ => none
  | k + 1, x0, x1, x30 => if x30 = true then ((portagelaw03_awake.f k).bind fun t446 => (some t446)) else ((real_Sub.f x0 x1).bind fun t447 => ((real_Add.f t447 x1).bind fun t448 => (if t448 = x0 then ((real_Sub.f x1 x0).bind fun t449 => ((real_Add.f t449 x0).bind fun t450 => (if t450 = x1 then ((portagelaw03_awake.f k).bind fun t451 => (some t451)) else (some false)))) else (some false))))
def portagelaw03_RealNear.f (k : Nat) (a0 : Int) (a1 : Int) : Option (Bool) := if a0 = 0 then (portagelaw03_RealNear.j0 k a0 a1 true) else (if a1 = 0 then (portagelaw03_RealNear.j0 k a0 a1 true) else (if a0 ≥ 9218868437227405312 then (portagelaw03_RealNear.j0 k a0 a1 true) else (if a1 ≥ 9218868437227405312 then (portagelaw03_RealNear.j0 k a0 a1 true) else ((portagelaw03_twice.f a1).bind fun t444 => (if a0 > t444 then (portagelaw03_RealNear.j0 k a0 a1 true) else ((portagelaw03_twice.f a0).bind fun t445 => (portagelaw03_RealNear.j0 k a0 a1 (decide (a1 > t445)))))))))
theorem portagelaw03_RealNear.mono_l : ∀ k, (∀ y0 y1 y2, LeO (portagelaw03_RealNear.j0 k y0 y1 y2) (portagelaw03_RealNear.j0 (k + 1) y0 y1 y2))
  | 0 => fun _ _ _ r h => by simp [portagelaw03_RealNear.j0] at h
  | k + 1 => by
    have ih0 := portagelaw03_RealNear.mono_l k
    · intro y0 y1 y2
      unfold portagelaw03_RealNear.j0
      repeat' first
      | (with_reducible exact ih0 _ _ _)
      | (with_reducible exact portagelaw03_awake.mono _)
      | (with_reducible exact LeO.refl _)
      | (with_reducible exact LeO.none _)
      | (with_reducible refine LeO.ite ?_ ?_)
      | (with_reducible refine LeO.bind ?_ (fun _ => ?_))
      | exact ih0 _ _ _
      | exact portagelaw03_awake.mono _
      | exact LeO.none _
      | refine LeO.ite ?_ ?_
      | refine LeO.bind ?_ (fun _ => ?_)
theorem portagelaw03_RealNear.mono : ∀ a0 a1 k, LeO (portagelaw03_RealNear.f k a0 a1) (portagelaw03_RealNear.f (k + 1) a0 a1) := by
  intro a0 a1 k
  have ih0 := portagelaw03_RealNear.mono_l k
  unfold portagelaw03_RealNear.f
  repeat' first
      | (with_reducible exact ih0 _ _ _)
      | (with_reducible exact portagelaw03_awake.mono _)
      | (with_reducible exact LeO.refl _)
      | (with_reducible exact LeO.none _)
      | (with_reducible refine LeO.ite ?_ ?_)
      | (with_reducible refine LeO.bind ?_ (fun _ => ?_))
      | exact ih0 _ _ _
      | exact portagelaw03_awake.mono _
      | exact LeO.none _
      | refine LeO.ite ?_ ?_
      | refine LeO.bind ?_ (fun _ => ?_)
set_option maxHeartbeats 8000000 in
set_option maxRecDepth 100000 in
theorem portagelaw03_RealNear.calls (k : Nat) (a0 : Int) (a1 : Int) (r : Bool) (w : World) (h : portagelaw03_RealNear.f k a0 a1 = some r) :
    Calls Try.prog 11 #[.int .u64 a0, .int .u64 a1] w fun e w' => e = .returned (.bool r) ∧ Drawn0 w w' := by
  have H : (if a0 = 0 then (portagelaw03_RealNear.j0 k a0 a1 true) else (if a1 = 0 then (portagelaw03_RealNear.j0 k a0 a1 true) else (if a0 ≥ 9218868437227405312 then (portagelaw03_RealNear.j0 k a0 a1 true) else (if a1 ≥ 9218868437227405312 then (portagelaw03_RealNear.j0 k a0 a1 true) else ((portagelaw03_twice.f a1).bind fun t444 => (if a0 > t444 then (portagelaw03_RealNear.j0 k a0 a1 true) else ((portagelaw03_twice.f a0).bind fun t445 => (portagelaw03_RealNear.j0 k a0 a1 (decide (a1 > t445)))))))))) = some r := h
  clear h
  have HC3 := Aside0.mk H
  clear H
  go_enter Try.func11, Try.ntmps11
  go_upto_region 1 with (fail)
  go_cut [30] (fun v30 wc => ∃ (kq : Nat) (x30_2 : Bool), v30 = .bool x30_2 ∧ Aside0 (portagelaw03_RealNear.j0 kq a0 a1 x30_2 = some r) ∧ Aside0 (kq ≤ k) ∧ Drawn0 w wc)
  case first =>
    have H := HC3.out
    clear HC3
    by_cases c4 : a0 = 0
    · rw [if_pos c4] at H
      have c4b0 : (a0 == 0) = true := beq_iff_eq.mpr c4
      have c4b1 : (a0 != 0) = false := bne_eq_false_iff_eq.mpr c4
      clear c4
      (first | rw [c4b0] | (simp only [i64_w, i32_w]; rw [c4b0]) | skip)
      have H' := Aside0.mk H
      clear H
      go_wp2
      go_meet
      case rel => exact ⟨_, (true), (by first | rfl | (simp; done) | (simp [*]; done)), H', ⟨by first | omega | exact Nat.le_refl _⟩, by repeat (first | exact Drawn0.refl _ | apply Drawn0.step)⟩
    · rw [if_neg c4] at H
      have c4b0 : (a0 == 0) = false := beq_eq_false_iff_ne.mpr c4
      have c4b1 : (a0 != 0) = true := bne_iff_ne.mpr c4
      (first | rw [c4b0] | (simp only [i64_w, i32_w]; rw [c4b0]) | skip)
      by_cases c5 : a1 = 0
      · rw [if_pos c5] at H
        have c5b0 : (a1 == 0) = true := beq_iff_eq.mpr c5
        have c5b1 : (a1 != 0) = false := bne_eq_false_iff_eq.mpr c5
        clear c5
        have H' := Aside0.mk H
        clear H
        go_wp2
        go_meet
        case rel => exact ⟨_, (true), (by first | rfl | (simp; done) | (simp [*]; done)), H', ⟨by first | omega | exact Nat.le_refl _⟩, by repeat (first | exact Drawn0.refl _ | apply Drawn0.step)⟩
      · rw [if_neg c5] at H
        have c5b0 : (a1 == 0) = false := beq_eq_false_iff_ne.mpr c5
        have c5b1 : (a1 != 0) = true := bne_iff_ne.mpr c5
        by_cases c6 : a0 ≥ 9218868437227405312
        · rw [if_pos c6] at H
          have c6b0 : decide (9218868437227405312 ≤ a0) = true := decide_eq_true c6
          clear c6
          have H' := Aside0.mk H
          clear H
          go_wp2
          go_meet
          case rel => exact ⟨_, (true), (by first | rfl | (simp; done) | (simp [*]; done)), H', ⟨by first | omega | exact Nat.le_refl _⟩, by repeat (first | exact Drawn0.refl _ | apply Drawn0.step)⟩
        · rw [if_neg c6] at H
          have c6b0 : decide (9218868437227405312 ≤ a0) = false := decide_eq_false c6
          clear c6
          by_cases c7 : a1 ≥ 9218868437227405312
          · rw [if_pos c7] at H
            have c7b0 : decide (9218868437227405312 ≤ a1) = true := decide_eq_true c7
            clear c7
            have H' := Aside0.mk H
            clear H
            go_wp2
            go_meet
            case rel => exact ⟨_, (true), (by first | rfl | (simp; done) | (simp [*]; done)), H', ⟨by first | omega | exact Nat.le_refl _⟩, by repeat (first | exact Drawn0.refl _ | apply Drawn0.step)⟩
          · rw [if_neg c7] at H
            have c7b0 : decide (9218868437227405312 ≤ a1) = false := decide_eq_false c7
            clear c7
            replace H := Option.bind_eq_some_iff.mp H
            obtain ⟨t444, A80, H⟩ := H
            replace H : (if a0 > t444 then (portagelaw03_RealNear.j0 k a0 a1 true) else ((portagelaw03_twice.f a0).bind fun t445 => (portagelaw03_RealNear.j0 k a0 a1 (decide (a1 > t445))))) = some r := H
            have A8 := Aside0.mk A80
            clear A80
            by_cases c9 : a0 > t444
            · rw [if_pos c9] at H
              have c9b0 : decide (t444 < a0) = true := decide_eq_true c9
              clear c9
              have H' := Aside0.mk H
              clear H
              go_wp2_with (first | (go_at_call 41; (with_reducible refine (portagelaw03_twice.calls a1 t444 _ A8.out).mono ?_); rintro e w' ⟨rfl, ⟨nd, rfl⟩⟩))
              go_meet
              case rel => exact ⟨_, (true), (by first | rfl | (simp; done) | (simp [*]; done)), H', ⟨by first | omega | exact Nat.le_refl _⟩, by repeat (first | exact Drawn0.refl _ | apply Drawn0.step)⟩
            · rw [if_neg c9] at H
              have c9b0 : decide (t444 < a0) = false := decide_eq_false c9
              clear c9
              replace H := Option.bind_eq_some_iff.mp H
              obtain ⟨t445, A100, H⟩ := H
              replace H : (portagelaw03_RealNear.j0 k a0 a1 (decide (a1 > t445))) = some r := H
              have A10 := Aside0.mk A100
              clear A100
              have H' := Aside0.mk H
              clear H
              go_wp2_with (first | (go_at_call 41; (with_reducible refine (portagelaw03_twice.calls a1 t444 _ A8.out).mono ?_); rintro e w' ⟨rfl, ⟨nd, rfl⟩⟩) | (go_at_call 41; (with_reducible refine (portagelaw03_twice.calls a0 t445 _ A10.out).mono ?_); rintro e w' ⟨rfl, ⟨nd, rfl⟩⟩))
              go_meet
              case rel => exact ⟨_, (decide (a1 > t445)), (by first | rfl | (simp; done) | (simp [*]; done)), H', ⟨by first | omega | exact Nat.le_refl _⟩, by repeat (first | exact Drawn0.refl _ | apply Drawn0.step)⟩
  case rest =>
    clear HC3
    try clear c1
    try clear p2
    try clear c4
    try clear c4b0
    try clear c4b1
    try clear c5
    try clear c5b0
    try clear c5b1
    try clear c6
    try clear c6b0
    try clear c7
    try clear c7b0
    try clear c9
    try clear c9b0
    obtain ⟨kq, x30_2, rfl, HA, HJ2, ⟨mc2, rfl⟩⟩ := hcut
    cases kq with
    | zero => exact absurd HA.out (by simp [portagelaw03_RealNear.j0])
    | succ kj2 =>
      have H := HA.out
      clear HA
      simp only [portagelaw03_RealNear.j0] at H
      by_cases c11 : x30_2 = true
      · subst c11
        have H1 : ((portagelaw03_awake.f kj2).bind fun t446 => (some t446)) = some r := by rw [if_pos rfl] at H; exact H
        clear H
        have H := H1
        clear H1
        replace H := Option.bind_eq_some_iff.mp H
        obtain ⟨t446, A120, H⟩ := H
        replace H : (some t446) = some r := H
        have A12 := Aside0.mk A120
        clear A120
        obtain rfl := Option.some.inj H
        go_wp2_with (first | ((with_reducible refine gate_callee (f := 39) rfl ?_); refine goesL_ (some 31) rfl rfl Try.func39 (by kernel_rfl) rfl #[] rfl (by (try simp only [List.map_toArray, List.map_cons, List.map_nil]); first | done | rfl | (simp only [List.length_drop, List.length_take]; rfl)) ?_; (with_reducible refine (portagelaw03_awake.calls kj2  t446 _ A12.out).mono ?_); rintro e w' ⟨rfl, ⟨nd, rfl⟩⟩; refine ⟨_, rfl, ?_⟩))
        go_ret
        exact ⟨by first | rfl | (simp; done) | (simp [*]; done), by repeat (first | exact Drawn0.refl _ | apply Drawn0.step)⟩
      · replace c11 := Bool.eq_false_iff.mpr c11
        subst c11
        have H1 : ((real_Sub.f a0 a1).bind fun t447 => ((real_Add.f t447 a1).bind fun t448 => (if t448 = a0 then ((real_Sub.f a1 a0).bind fun t449 => ((real_Add.f t449 a0).bind fun t450 => (if t450 = a1 then ((portagelaw03_awake.f kj2).bind fun t451 => (some t451)) else (some false)))) else (some false)))) = some r := by rw [if_neg (show ¬ (false = true) by decide)] at H; exact H
        clear H
        have H := H1
        clear H1
        replace H := Option.bind_eq_some_iff.mp H
        obtain ⟨t447, A130, H⟩ := H
        replace H : ((real_Add.f t447 a1).bind fun t448 => (if t448 = a0 then ((real_Sub.f a1 a0).bind fun t449 => ((real_Add.f t449 a0).bind fun t450 => (if t450 = a1 then ((portagelaw03_awake.f kj2).bind fun t451 => (some t451)) else (some false)))) else (some false))) = some r := H
        have A13 := Aside0.mk A130
        clear A130
        replace H := Option.bind_eq_some_iff.mp H
        obtain ⟨t448, A140, H⟩ := H
        replace H : (if t448 = a0 then ((real_Sub.f a1 a0).bind fun t449 => ((real_Add.f t449 a0).bind fun t450 => (if t450 = a1 then ((portagelaw03_awake.f kj2).bind fun t451 => (some t451)) else (some false)))) else (some false)) = some r := H
        have A14 := Aside0.mk A140
        clear A140
        by_cases c15 : t448 = a0
        · rw [if_pos c15] at H
          have c15b0 : (t448 == a0) = true := beq_iff_eq.mpr c15
          have c15b1 : (t448 != a0) = false := bne_eq_false_iff_eq.mpr c15
          clear c15
          replace H := Option.bind_eq_some_iff.mp H
          obtain ⟨t449, A160, H⟩ := H
          replace H : ((real_Add.f t449 a0).bind fun t450 => (if t450 = a1 then ((portagelaw03_awake.f kj2).bind fun t451 => (some t451)) else (some false))) = some r := H
          have A16 := Aside0.mk A160
          clear A160
          replace H := Option.bind_eq_some_iff.mp H
          obtain ⟨t450, A170, H⟩ := H
          replace H : (if t450 = a1 then ((portagelaw03_awake.f kj2).bind fun t451 => (some t451)) else (some false)) = some r := H
          have A17 := Aside0.mk A170
          clear A170
          by_cases c18 : t450 = a1
          · rw [if_pos c18] at H
            have c18b0 : (t450 == a1) = true := beq_iff_eq.mpr c18
            have c18b1 : (t450 != a1) = false := bne_eq_false_iff_eq.mpr c18
            clear c18
            replace H := Option.bind_eq_some_iff.mp H
            obtain ⟨t451, A190, H⟩ := H
            replace H : (some t451) = some r := H
            have A19 := Aside0.mk A190
            clear A190
            obtain rfl := Option.some.inj H
            go_wp2_with (first | ((with_reducible refine gate_callee (f := 26) rfl ?_); refine goesL_ (some 34) rfl rfl Try.func26 (by kernel_rfl) rfl #[.int .u64 a0, .int .u64 a1] rfl (by (try simp only [List.map_toArray, List.map_cons, List.map_nil]); first | done | rfl | (simp only [List.length_drop, List.length_take]; rfl)) ?_; (with_reducible refine (real_Sub.calls a0 a1 t447 _ A13.out).mono ?_); rintro e w' ⟨rfl, ⟨nd, rfl⟩⟩; refine ⟨_, rfl, ?_⟩) | ((with_reducible refine gate_callee (f := 24) rfl ?_); refine goesL_ (some 36) rfl rfl Try.func24 (by kernel_rfl) rfl #[.int .u64 t447, .int .u64 a1] rfl (by (try simp only [List.map_toArray, List.map_cons, List.map_nil]); first | done | rfl | (simp only [List.length_drop, List.length_take]; rfl)) ?_; (with_reducible refine (real_Add.calls t447 a1 t448 _ A14.out).mono ?_); rintro e w' ⟨rfl, ⟨nd, rfl⟩⟩; refine ⟨_, rfl, ?_⟩) | (go_at_call 26; (with_reducible refine (real_Sub.calls a1 a0 t449 _ A16.out).mono ?_); rintro e w' ⟨rfl, ⟨nd, rfl⟩⟩) | (go_at_call 24; (with_reducible refine (real_Add.calls t449 a0 t450 _ A17.out).mono ?_); rintro e w' ⟨rfl, ⟨nd, rfl⟩⟩) | (go_at_call 39; (with_reducible refine (portagelaw03_awake.calls kj2  t451 _ A19.out).mono ?_); rintro e w' ⟨rfl, ⟨nd, rfl⟩⟩))
            go_ret
            exact ⟨by first | rfl | (simp; done) | (simp [*]; done), by repeat (first | exact Drawn0.refl _ | apply Drawn0.step)⟩
          · rw [if_neg c18] at H
            have c18b0 : (t450 == a1) = false := beq_eq_false_iff_ne.mpr c18
            have c18b1 : (t450 != a1) = true := bne_iff_ne.mpr c18
            obtain rfl := Option.some.inj H
            go_wp2_with (first | ((with_reducible refine gate_callee (f := 26) rfl ?_); refine goesL_ (some 34) rfl rfl Try.func26 (by kernel_rfl) rfl #[.int .u64 a0, .int .u64 a1] rfl (by (try simp only [List.map_toArray, List.map_cons, List.map_nil]); first | done | rfl | (simp only [List.length_drop, List.length_take]; rfl)) ?_; (with_reducible refine (real_Sub.calls a0 a1 t447 _ A13.out).mono ?_); rintro e w' ⟨rfl, ⟨nd, rfl⟩⟩; refine ⟨_, rfl, ?_⟩) | ((with_reducible refine gate_callee (f := 24) rfl ?_); refine goesL_ (some 36) rfl rfl Try.func24 (by kernel_rfl) rfl #[.int .u64 t447, .int .u64 a1] rfl (by (try simp only [List.map_toArray, List.map_cons, List.map_nil]); first | done | rfl | (simp only [List.length_drop, List.length_take]; rfl)) ?_; (with_reducible refine (real_Add.calls t447 a1 t448 _ A14.out).mono ?_); rintro e w' ⟨rfl, ⟨nd, rfl⟩⟩; refine ⟨_, rfl, ?_⟩) | (go_at_call 26; (with_reducible refine (real_Sub.calls a1 a0 t449 _ A16.out).mono ?_); rintro e w' ⟨rfl, ⟨nd, rfl⟩⟩) | (go_at_call 24; (with_reducible refine (real_Add.calls t449 a0 t450 _ A17.out).mono ?_); rintro e w' ⟨rfl, ⟨nd, rfl⟩⟩))
            go_ret
            exact ⟨by first | rfl | (simp; done) | (simp [*]; done), by repeat (first | exact Drawn0.refl _ | apply Drawn0.step)⟩
        · rw [if_neg c15] at H
          have c15b0 : (t448 == a0) = false := beq_eq_false_iff_ne.mpr c15
          have c15b1 : (t448 != a0) = true := bne_iff_ne.mpr c15
          obtain rfl := Option.some.inj H
          go_wp2_with (first | ((with_reducible refine gate_callee (f := 26) rfl ?_); refine goesL_ (some 34) rfl rfl Try.func26 (by kernel_rfl) rfl #[.int .u64 a0, .int .u64 a1] rfl (by (try simp only [List.map_toArray, List.map_cons, List.map_nil]); first | done | rfl | (simp only [List.length_drop, List.length_take]; rfl)) ?_; (with_reducible refine (real_Sub.calls a0 a1 t447 _ A13.out).mono ?_); rintro e w' ⟨rfl, ⟨nd, rfl⟩⟩; refine ⟨_, rfl, ?_⟩) | ((with_reducible refine gate_callee (f := 24) rfl ?_); refine goesL_ (some 36) rfl rfl Try.func24 (by kernel_rfl) rfl #[.int .u64 t447, .int .u64 a1] rfl (by (try simp only [List.map_toArray, List.map_cons, List.map_nil]); first | done | rfl | (simp only [List.length_drop, List.length_take]; rfl)) ?_; (with_reducible refine (real_Add.calls t447 a1 t448 _ A14.out).mono ?_); rintro e w' ⟨rfl, ⟨nd, rfl⟩⟩; refine ⟨_, rfl, ?_⟩))
          go_ret
          exact ⟨by first | rfl | (simp; done) | (simp [*]; done), by repeat (first | exact Drawn0.refl _ | apply Drawn0.step)⟩

/-- THE ONE PURE STATEMENT of portagelaw03_RealNear: yours. -/
def portagelaw03_RealNear.Pure : Prop := ∀ (a0 : Int) (a1 : Int), (Lit.int .u64 a0).wf = true → (Lit.int .u64 a1).wf = true → ∃ k, portagelaw03_RealNear.f k a0 a1 = some true
theorem portagelaw03_RealNear.walk (P : portagelaw03_RealNear.Pure) (a0 : Int) (a1 : Int) (w : World) (w0 : (Lit.int .u64 a0).wf = true) (w1 : (Lit.int .u64 a1).wf = true) :
    Calls Try.prog 11 #[.int .u64 a0, .int .u64 a1] w fun e w' => e = .returned (.bool true) ∧ Below w.heap.size w w' := by
  obtain ⟨k, h⟩ := P a0 a1 w0 w1
  refine (portagelaw03_RealNear.calls k a0 a1 true w h).mono ?_
  rintro e w' ⟨rfl, hd⟩
  exact ⟨rfl, hd.below⟩

end Go.Proofs.Ytapgnackoclbeaa.PReal
