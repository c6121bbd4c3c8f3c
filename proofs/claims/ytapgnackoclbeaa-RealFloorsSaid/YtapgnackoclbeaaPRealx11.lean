-- written by a program of this session (leafprint.py) over the translation; Lean checks it
import Derived.Test.YtapgnackoclbeaaPRealx0
import Derived.Test.YtapgnackoclbeaaPRealx9
namespace Go.Proofs.Ytapgnackoclbeaa.PReal
open Go.RowKit Go.Proofs.YtapgnackoclbeaaW.PrintWords Go.Proofs.YtapgnackoclbeaaW.PrintLast Go.Proofs.YtapgnackoclbeaaW.PrintMore
attribute [local go_sem] max2_int min2_int max_two min_two max_three min_three max_four min_four   -- for this text's walks alone
set_option linter.unusedVariables false
set_option linter.unusedSimpArgs false

/-! ### portagelaw03_RealSigns: function 12 -/
mutual
def portagelaw03_RealSigns.j0 : Nat → Int → Int → Int → Int → Int → Int → Int → Bool → Option (Bool)
  | 0, _, _, _, _, _, _, _, _ => none
  | k + 1, x0, x1, x5, x6, x7, x8, x9, x51 => if x51 = true then (some false) else ((real_Mul.f x8 x1).bind fun t464 => ((real_Neg.f x6).bind fun t465 => (if t464 = t465 then ((real_Mul.f x0 x9).bind fun t466 => ((real_Neg.f x6).bind fun t467 => (portagelaw03_RealSigns.j1 k x0 x1 x5 x7 x8 x9 (t466 != t467)))) else (portagelaw03_RealSigns.j1 k x0 x1 x5 x7 x8 x9 true))))
def portagelaw03_RealSigns.j1 : Nat → Int → Int → Int → Int → Int → Int → Bool → Option (Bool)
  | 0, _, _, _, _, _, _, _ => none
  | k + 1, x0, x1, x5, x7, x8, x9, x65 => if x65 = true then (some false) else ((real_Div.f x8 x1).bind fun t468 => ((real_Neg.f x7).bind fun t469 => (if t468 = t469 then ((real_Div.f x0 x9).bind fun t470 => ((real_Neg.f x7).bind fun t471 => (portagelaw03_RealSigns.j2 k x0 x1 x5 x8 x9 (t470 != t471)))) else (portagelaw03_RealSigns.j2 k x0 x1 x5 x8 x9 true))))
def portagelaw03_RealSigns.j2 : Nat → Int → Int → Int → Int → Int → Bool → Option (Bool)
  | 0, _, _, _, _, _, _ => none
  | k + 1, x0, x1, x5, x8, x9, x79 => if x79 = true then (some false) else (if (Go.bits .and .u64 x5 9223372036854775807) = 0 then ((real_Sub.f x0 x1).bind fun t472 => ((real_Add.f x0 x9).bind fun t473 => (if t472 = t473 then ((portagelaw03_awake.f k).bind fun t474 => (some t474)) else (some false)))) else ((real_Add.f x8 x9).bind fun t475 => ((real_Neg.f x5).bind fun t476 => (if t475 = t476 then ((real_Sub.f x0 x1).bind fun t477 => ((real_Add.f x0 x9).bind fun t478 => (if t477 = t478 then ((portagelaw03_awake.f k).bind fun t479 => (some t479)) else (some false)))) else (some false)))))
end
def portagelaw03_RealSigns.f (k : Nat) (a0 : Int) (a1 : Int) : Option (Bool) := (real_Add.f a0 a1).bind fun t452 => ((real_Mul.f a0 a1).bind fun t453 => ((real_Div.f a0 a1).bind fun t454 => ((real_Neg.f a0).bind fun t455 => ((real_Neg.f a1).bind fun t456 => ((real_Add.f a1 a0).bind fun t457 => (if t457 = t452 then ((real_Mul.f a1 a0).bind fun t458 => (if t458 = t453 then ((real_Sub.f a0 t456).bind fun t459 => ((real_Neg.f t456).bind fun t460 => ((real_Add.f a0 t460).bind fun t461 => (if t459 = t461 then ((real_Neg.f t455).bind fun t462 => ((real_Canon.f a0).bind fun t463 => (portagelaw03_RealSigns.j0 k a0 a1 t452 t453 t454 t455 t456 (t462 != t463)))) else (portagelaw03_RealSigns.j0 k a0 a1 t452 t453 t454 t455 t456 true))))) else (portagelaw03_RealSigns.j0 k a0 a1 t452 t453 t454 t455 t456 true))) else (portagelaw03_RealSigns.j0 k a0 a1 t452 t453 t454 t455 t456 true)))))))
theorem portagelaw03_RealSigns.mono_l : ∀ k, (∀ y0 y1 y2 y3 y4 y5 y6 y7, LeO (portagelaw03_RealSigns.j0 k y0 y1 y2 y3 y4 y5 y6 y7) (portagelaw03_RealSigns.j0 (k + 1) y0 y1 y2 y3 y4 y5 y6 y7)) ∧ (∀ y0 y1 y2 y3 y4 y5 y6, LeO (portagelaw03_RealSigns.j1 k y0 y1 y2 y3 y4 y5 y6) (portagelaw03_RealSigns.j1 (k + 1) y0 y1 y2 y3 y4 y5 y6)) ∧ (∀ y0 y1 y2 y3 y4 y5, LeO (portagelaw03_RealSigns.j2 k y0 y1 y2 y3 y4 y5) (portagelaw03_RealSigns.j2 (k + 1) y0 y1 y2 y3 y4 y5))
  | 0 => ⟨fun _ _ _ _ _ _ _ _ r h => by simp [portagelaw03_RealSigns.j0] at h, fun _ _ _ _ _ _ _ r h => by simp [portagelaw03_RealSigns.j1] at h, fun _ _ _ _ _ _ r h => by simp [portagelaw03_RealSigns.j2] at h⟩
  | k + 1 => by
    obtain ⟨ih0, ih1, ih2⟩ := portagelaw03_RealSigns.mono_l k
    refine ⟨?_, ?_, ?_⟩
    · intro y0 y1 y2 y3 y4 y5 y6 y7
      unfold portagelaw03_RealSigns.j0
      repeat' first
      | (with_reducible exact ih0 _ _ _ _ _ _ _ _)
      | (with_reducible exact ih1 _ _ _ _ _ _ _)
      | (with_reducible exact ih2 _ _ _ _ _ _)
      | (with_reducible exact portagelaw03_awake.mono _)
      | (with_reducible exact LeO.refl _)
      | (with_reducible exact LeO.none _)
      | (with_reducible refine LeO.ite ?_ ?_)
      | (with_reducible refine LeO.bind ?_ (fun _ => ?_))
      | exact ih0 _ _ _ _ _ _ _ _
      | exact ih1 _ _ _ _ _ _ _
      | exact ih2 _ _ _ _ _ _
      | exact portagelaw03_awake.mono _
      | exact LeO.none _
      | refine LeO.ite ?_ ?_
      | refine LeO.bind ?_ (fun _ => ?_)
    · intro y0 y1 y2 y3 y4 y5 y6
      unfold portagelaw03_RealSigns.j1
      repeat' first
      | (with_reducible exact ih0 _ _ _ _ _ _ _ _)
      | (with_reducible exact ih1 _ _ _ _ _ _ _)
      | (with_reducible exact ih2 _ _ _ _ _ _)
      | (with_reducible exact portagelaw03_awake.mono _)
      | (with_reducible exact LeO.refl _)
      | (with_reducible exact LeO.none _)
      | (with_reducible refine LeO.ite ?_ ?_)
      | (with_reducible refine LeO.bind ?_ (fun _ => ?_))
      | exact ih0 _ _ _ _ _ _ _ _
      | exact ih1 _ _ _ _ _ _ _
      | exact ih2 _ _ _ _ _ _
      | exact portagelaw03_awake.mono _
      | exact LeO.none _
      | refine LeO.ite ?_ ?_
      | refine LeO.bind ?_ (fun _ => ?_)
    · intro y0 y1 y2 y3 y4 y5
      unfold portagelaw03_RealSigns.j2
      repeat' first
      | (with_reducible exact ih0 _ _ _ _ _ _ _ _)
      | (with_reducible exact ih1 _ _ _ _ _ _ _)
      | (with_reducible exact ih2 _ _ _ _ _ _)
      | (with_reducible exact portagelaw03_awake.mono _)
      | (with_reducible exact LeO.refl _)
      | (with_reducible exact LeO.none _)
      | (with_reducible refine LeO.ite ?_ ?_)
      | (with_reducible refine LeO.bind ?_ (fun _ => ?_))
      | exact ih0 _ _ _ _ _ _ _ _
      | exact ih1 _ _ _ _ _ _ _
      | exact ih2 _ _ _ _ _ _
      | exact portagelaw03_awake.mono _
      | exact LeO.none _
      | refine LeO.ite ?_ ?_
      | refine LeO.bind ?_ (fun _ => ?_)
theorem portagelaw03_RealSigns.mono : ∀ a0 a1 k, LeO (portagelaw03_RealSigns.f k a0 a1) (portagelaw03_RealSigns.f (k + 1) a0 a1) := by
  intro a0 a1 k
  obtain ⟨ih0, ih1, ih2⟩ := portagelaw03_RealSigns.mono_l k
  unfold portagelaw03_RealSigns.f
  repeat' first
      | (with_reducible exact ih0 _ _ _ _ _ _ _ _)
      | (with_reducible exact ih1 _ _ _ _ _ _ _)
      | (with_reducible exact ih2 _ _ _ _ _ _)
      | (with_reducible exact portagelaw03_awake.mono _)
      | (with_reducible exact LeO.refl _)
      | (with_reducible exact LeO.none _)
      | (with_reducible refine LeO.ite ?_ ?_)
      | (with_reducible refine LeO.bind ?_ (fun _ => ?_))
      | exact ih0 _ _ _ _ _ _ _ _
      | exact ih1 _ _ _ _ _ _ _
      | exact ih2 _ _ _ _ _ _
      | exact portagelaw03_awake.mono _
      | exact LeO.none _
      | refine LeO.ite ?_ ?_
      | refine LeO.bind ?_ (fun _ => ?_)
set_option maxHeartbeats 8000000 in
set_option maxRecDepth 100000 in
theorem portagelaw03_RealSigns.calls (k : Nat) (a0 : Int) (a1 : Int) (r : Bool) (w : World) (h : portagelaw03_RealSigns.f k a0 a1 = some r) :
    Calls Try.prog 12 #[.int .u64 a0, .int .u64 a1] w fun e w' => e = .returned (.bool r) ∧ Drawn0 w w' := by
  have H : ((real_Add.f a0 a1).bind fun t452 => ((real_Mul.f a0 a1).bind fun t453 => ((real_Div.f a0 a1).bind fun t454 => ((real_Neg.f a0).bind fun t455 => ((real_Neg.f a1).bind fun t456 => ((real_Add.f a1 a0).bind fun t457 => (if t457 = t452 then ((real_Mul.f a1 a0).bind fun t458 => (if t458 = t453 then ((real_Sub.f a0 t456).bind fun t459 => ((real_Neg.f t456).bind fun t460 => ((real_Add.f a0 t460).bind fun t461 => (if t459 = t461 then ((real_Neg.f t455).bind fun t462 => ((real_Canon.f a0).bind fun t463 => (portagelaw03_RealSigns.j0 k a0 a1 t452 t453 t454 t455 t456 (t462 != t463)))) else (portagelaw03_RealSigns.j0 k a0 a1 t452 t453 t454 t455 t456 true))))) else (portagelaw03_RealSigns.j0 k a0 a1 t452 t453 t454 t455 t456 true))) else (portagelaw03_RealSigns.j0 k a0 a1 t452 t453 t454 t455 t456 true)))))))) = some r := h
  clear h
  replace H := Option.bind_eq_some_iff.mp H
  obtain ⟨t452, A30, H⟩ := H
  replace H : ((real_Mul.f a0 a1).bind fun t453 => ((real_Div.f a0 a1).bind fun t454 => ((real_Neg.f a0).bind fun t455 => ((real_Neg.f a1).bind fun t456 => ((real_Add.f a1 a0).bind fun t457 => (if t457 = t452 then ((real_Mul.f a1 a0).bind fun t458 => (if t458 = t453 then ((real_Sub.f a0 t456).bind fun t459 => ((real_Neg.f t456).bind fun t460 => ((real_Add.f a0 t460).bind fun t461 => (if t459 = t461 then ((real_Neg.f t455).bind fun t462 => ((real_Canon.f a0).bind fun t463 => (portagelaw03_RealSigns.j0 k a0 a1 t452 t453 t454 t455 t456 (t462 != t463)))) else (portagelaw03_RealSigns.j0 k a0 a1 t452 t453 t454 t455 t456 true))))) else (portagelaw03_RealSigns.j0 k a0 a1 t452 t453 t454 t455 t456 true))) else (portagelaw03_RealSigns.j0 k a0 a1 t452 t453 t454 t455 t456 true))))))) = some r := H
  have A3 := Aside0.mk A30
  clear A30
  replace H := Option.bind_eq_some_iff.mp H
  obtain ⟨t453, A40, H⟩ := H
  replace H : ((real_Div.f a0 a1).bind fun t454 => ((real_Neg.f a0).bind fun t455 => ((real_Neg.f a1).bind fun t456 => ((real_Add.f a1 a0).bind fun t457 => (if t457 = t452 then ((real_Mul.f a1 a0).bind fun t458 => (if t458 = t453 then ((real_Sub.f a0 t456).bind fun t459 => ((real_Neg.f t456).bind fun t460 => ((real_Add.f a0 t460).bind fun t461 => (if t459 = t461 then ((real_Neg.f t455).bind fun t462 => ((real_Canon.f a0).bind fun t463 => (portagelaw03_RealSigns.j0 k a0 a1 t452 t453 t454 t455 t456 (t462 != t463)))) else (portagelaw03_RealSigns.j0 k a0 a1 t452 t453 t454 t455 t456 true))))) else (portagelaw03_RealSigns.j0 k a0 a1 t452 t453 t454 t455 t456 true))) else (portagelaw03_RealSigns.j0 k a0 a1 t452 t453 t454 t455 t456 true)))))) = some r := H
  have A4 := Aside0.mk A40
  clear A40
  replace H := Option.bind_eq_some_iff.mp H
  obtain ⟨t454, A50, H⟩ := H
  replace H : ((real_Neg.f a0).bind fun t455 => ((real_Neg.f a1).bind fun t456 => ((real_Add.f a1 a0).bind fun t457 => (if t457 = t452 then ((real_Mul.f a1 a0).bind fun t458 => (if t458 = t453 then ((real_Sub.f a0 t456).bind fun t459 => ((real_Neg.f t456).bind fun t460 => ((real_Add.f a0 t460).bind fun t461 => (if t459 = t461 then ((real_Neg.f t455).bind fun t462 => ((real_Canon.f a0).bind fun t463 => (portagelaw03_RealSigns.j0 k a0 a1 t452 t453 t454 t455 t456 (t462 != t463)))) else (portagelaw03_RealSigns.j0 k a0 a1 t452 t453 t454 t455 t456 true))))) else (portagelaw03_RealSigns.j0 k a0 a1 t452 t453 t454 t455 t456 true))) else (portagelaw03_RealSigns.j0 k a0 a1 t452 t453 t454 t455 t456 true))))) = some r := H
  have A5 := Aside0.mk A50
  clear A50
  replace H := Option.bind_eq_some_iff.mp H
  obtain ⟨t455, A60, H⟩ := H
  replace H : ((real_Neg.f a1).bind fun t456 => ((real_Add.f a1 a0).bind fun t457 => (if t457 = t452 then ((real_Mul.f a1 a0).bind fun t458 => (if t458 = t453 then ((real_Sub.f a0 t456).bind fun t459 => ((real_Neg.f t456).bind fun t460 => ((real_Add.f a0 t460).bind fun t461 => (if t459 = t461 then ((real_Neg.f t455).bind fun t462 => ((real_Canon.f a0).bind fun t463 => (portagelaw03_RealSigns.j0 k a0 a1 t452 t453 t454 t455 t456 (t462 != t463)))) else (portagelaw03_RealSigns.j0 k a0 a1 t452 t453 t454 t455 t456 true))))) else (portagelaw03_RealSigns.j0 k a0 a1 t452 t453 t454 t455 t456 true))) else (portagelaw03_RealSigns.j0 k a0 a1 t452 t453 t454 t455 t456 true)))) = some r := H
  have A6 := Aside0.mk A60
  clear A60
  replace H := Option.bind_eq_some_iff.mp H
  obtain ⟨t456, A70, H⟩ := H
  replace H : ((real_Add.f a1 a0).bind fun t457 => (if t457 = t452 then ((real_Mul.f a1 a0).bind fun t458 => (if t458 = t453 then ((real_Sub.f a0 t456).bind fun t459 => ((real_Neg.f t456).bind fun t460 => ((real_Add.f a0 t460).bind fun t461 => (if t459 = t461 then ((real_Neg.f t455).bind fun t462 => ((real_Canon.f a0).bind fun t463 => (portagelaw03_RealSigns.j0 k a0 a1 t452 t453 t454 t455 t456 (t462 != t463)))) else (portagelaw03_RealSigns.j0 k a0 a1 t452 t453 t454 t455 t456 true))))) else (portagelaw03_RealSigns.j0 k a0 a1 t452 t453 t454 t455 t456 true))) else (portagelaw03_RealSigns.j0 k a0 a1 t452 t453 t454 t455 t456 true))) = some r := H
  have A7 := Aside0.mk A70
  clear A70
  have HC8 := Aside0.mk H
  clear H
  go_enter Try.func12, Try.ntmps12
  go_upto_region 6 with (first | ((with_reducible refine gate_callee (f := 24) rfl ?_); refine goesL_ (some 12) rfl rfl Try.func24 (by kernel_rfl) rfl #[.int .u64 a0, .int .u64 a1] rfl (by (try simp only [List.map_toArray, List.map_cons, List.map_nil]); first | done | rfl | (simp only [List.length_drop, List.length_take]; rfl)) ?_; (with_reducible refine (real_Add.calls a0 a1 t452 _ A3.out).mono ?_); rintro e w' ⟨rfl, ⟨nd, rfl⟩⟩; refine ⟨_, rfl, ?_⟩) | ((with_reducible refine gate_callee (f := 28) rfl ?_); refine goesL_ (some 15) rfl rfl Try.func28 (by kernel_rfl) rfl #[.int .u64 a0, .int .u64 a1] rfl (by (try simp only [List.map_toArray, List.map_cons, List.map_nil]); first | done | rfl | (simp only [List.length_drop, List.length_take]; rfl)) ?_; (with_reducible refine (real_Mul.calls a0 a1 t453 _ A4.out).mono ?_); rintro e w' ⟨rfl, ⟨nd, rfl⟩⟩; refine ⟨_, rfl, ?_⟩) | ((with_reducible refine gate_callee (f := 30) rfl ?_); refine goesL_ (some 18) rfl rfl Try.func30 (by kernel_rfl) rfl #[.int .u64 a0, .int .u64 a1] rfl (by (try simp only [List.map_toArray, List.map_cons, List.map_nil]); first | done | rfl | (simp only [List.length_drop, List.length_take]; rfl)) ?_; (with_reducible refine (real_Div.calls a0 a1 t454 _ A5.out).mono ?_); rintro e w' ⟨rfl, ⟨nd, rfl⟩⟩; refine ⟨_, rfl, ?_⟩) | ((with_reducible refine gate_callee (f := 42) rfl ?_); refine goesL_ (some 20) rfl rfl Try.func42 (by kernel_rfl) rfl #[.int .u64 a0] rfl (by (try simp only [List.map_toArray, List.map_cons, List.map_nil]); first | done | rfl | (simp only [List.length_drop, List.length_take]; rfl)) ?_; (with_reducible refine (real_Neg.calls a0 t455 _ A6.out).mono ?_); rintro e w' ⟨rfl, ⟨nd, rfl⟩⟩; refine ⟨_, rfl, ?_⟩) | ((with_reducible refine gate_callee (f := 42) rfl ?_); refine goesL_ (some 22) rfl rfl Try.func42 (by kernel_rfl) rfl #[.int .u64 a1] rfl (by (try simp only [List.map_toArray, List.map_cons, List.map_nil]); first | done | rfl | (simp only [List.length_drop, List.length_take]; rfl)) ?_; (with_reducible refine (real_Neg.calls a1 t456 _ A7.out).mono ?_); rintro e w' ⟨rfl, ⟨nd, rfl⟩⟩; refine ⟨_, rfl, ?_⟩))
  (try simp only [Act.put, List.setIfInBounds_toArray, List.set_cons_zero, List.set_cons_succ])
  go_cut [51] (fun v51 wc => ∃ (kq : Nat) (x51_7 : Bool), v51 = .bool x51_7 ∧ Aside0 (portagelaw03_RealSigns.j0 kq a0 a1 t452 t453 t454 t455 t456 x51_7 = some r) ∧ Aside0 (kq ≤ k) ∧ Drawn0 w wc)
  case first =>
    have H := HC8.out
    clear HC8
    replace H := Option.bind_eq_some_iff.mp H
    obtain ⟨t457, A90, H⟩ := H
    replace H : (if t457 = t452 then ((real_Mul.f a1 a0).bind fun t458 => (if t458 = t453 then ((real_Sub.f a0 t456).bind fun t459 => ((real_Neg.f t456).bind fun t460 => ((real_Add.f a0 t460).bind fun t461 => (if t459 = t461 then ((real_Neg.f t455).bind fun t462 => ((real_Canon.f a0).bind fun t463 => (portagelaw03_RealSigns.j0 k a0 a1 t452 t453 t454 t455 t456 (t462 != t463)))) else (portagelaw03_RealSigns.j0 k a0 a1 t452 t453 t454 t455 t456 true))))) else (portagelaw03_RealSigns.j0 k a0 a1 t452 t453 t454 t455 t456 true))) else (portagelaw03_RealSigns.j0 k a0 a1 t452 t453 t454 t455 t456 true)) = some r := H
    have A9 := Aside0.mk A90
    clear A90
    by_cases c10 : t457 = t452
    · rw [if_pos c10] at H
      have c10b0 : (t457 == t452) = true := beq_iff_eq.mpr c10
      have c10b1 : (t457 != t452) = false := bne_eq_false_iff_eq.mpr c10
      clear c10
      (first | rw [c10b0] | (simp only [i64_w, i32_w]; rw [c10b0]) | skip)
      replace H := Option.bind_eq_some_iff.mp H
      obtain ⟨t458, A110, H⟩ := H
      replace H : (if t458 = t453 then ((real_Sub.f a0 t456).bind fun t459 => ((real_Neg.f t456).bind fun t460 => ((real_Add.f a0 t460).bind fun t461 => (if t459 = t461 then ((real_Neg.f t455).bind fun t462 => ((real_Canon.f a0).bind fun t463 => (portagelaw03_RealSigns.j0 k a0 a1 t452 t453 t454 t455 t456 (t462 != t463)))) else (portagelaw03_RealSigns.j0 k a0 a1 t452 t453 t454 t455 t456 true))))) else (portagelaw03_RealSigns.j0 k a0 a1 t452 t453 t454 t455 t456 true)) = some r := H
      have A11 := Aside0.mk A110
      clear A110
      by_cases c12 : t458 = t453
      · rw [if_pos c12] at H
        have c12b0 : (t458 == t453) = true := beq_iff_eq.mpr c12
        have c12b1 : (t458 != t453) = false := bne_eq_false_iff_eq.mpr c12
        clear c12
        replace H := Option.bind_eq_some_iff.mp H
        obtain ⟨t459, A130, H⟩ := H
        replace H : ((real_Neg.f t456).bind fun t460 => ((real_Add.f a0 t460).bind fun t461 => (if t459 = t461 then ((real_Neg.f t455).bind fun t462 => ((real_Canon.f a0).bind fun t463 => (portagelaw03_RealSigns.j0 k a0 a1 t452 t453 t454 t455 t456 (t462 != t463)))) else (portagelaw03_RealSigns.j0 k a0 a1 t452 t453 t454 t455 t456 true)))) = some r := H
        have A13 := Aside0.mk A130
        clear A130
        replace H := Option.bind_eq_some_iff.mp H
        obtain ⟨t460, A140, H⟩ := H
        replace H : ((real_Add.f a0 t460).bind fun t461 => (if t459 = t461 then ((real_Neg.f t455).bind fun t462 => ((real_Canon.f a0).bind fun t463 => (portagelaw03_RealSigns.j0 k a0 a1 t452 t453 t454 t455 t456 (t462 != t463)))) else (portagelaw03_RealSigns.j0 k a0 a1 t452 t453 t454 t455 t456 true))) = some r := H
        have A14 := Aside0.mk A140
        clear A140
        replace H := Option.bind_eq_some_iff.mp H
        obtain ⟨t461, A150, H⟩ := H
        replace H : (if t459 = t461 then ((real_Neg.f t455).bind fun t462 => ((real_Canon.f a0).bind fun t463 => (portagelaw03_RealSigns.j0 k a0 a1 t452 t453 t454 t455 t456 (t462 != t463)))) else (portagelaw03_RealSigns.j0 k a0 a1 t452 t453 t454 t455 t456 true)) = some r := H
        have A15 := Aside0.mk A150
        clear A150
        by_cases c16 : t459 = t461
        · rw [if_pos c16] at H
          have c16b0 : (t459 == t461) = true := beq_iff_eq.mpr c16
          have c16b1 : (t459 != t461) = false := bne_eq_false_iff_eq.mpr c16
          clear c16
          replace H := Option.bind_eq_some_iff.mp H
          obtain ⟨t462, A170, H⟩ := H
          replace H : ((real_Canon.f a0).bind fun t463 => (portagelaw03_RealSigns.j0 k a0 a1 t452 t453 t454 t455 t456 (t462 != t463))) = some r := H
          have A17 := Aside0.mk A170
          clear A170
          replace H := Option.bind_eq_some_iff.mp H
          obtain ⟨t463, A180, H⟩ := H
          replace H : (portagelaw03_RealSigns.j0 k a0 a1 t452 t453 t454 t455 t456 (t462 != t463)) = some r := H
          have A18 := Aside0.mk A180
          clear A180
          have H' := Aside0.mk H
          clear H
          go_wp2_with (first | ((with_reducible refine gate_callee (f := 24) rfl ?_); refine goesL_ (some 25) rfl rfl Try.func24 (by kernel_rfl) rfl #[.int .u64 a1, .int .u64 a0] rfl (by (try simp only [List.map_toArray, List.map_cons, List.map_nil]); first | done | rfl | (simp only [List.length_drop, List.length_take]; rfl)) ?_; (with_reducible refine (real_Add.calls a1 a0 t457 _ A9.out).mono ?_); rintro e w' ⟨rfl, ⟨nd, rfl⟩⟩; refine ⟨_, rfl, ?_⟩) | (go_at_call 28; (with_reducible refine (real_Mul.calls a1 a0 t458 _ A11.out).mono ?_); rintro e w' ⟨rfl, ⟨nd, rfl⟩⟩) | (go_at_call 26; (with_reducible refine (real_Sub.calls a0 t456 t459 _ A13.out).mono ?_); rintro e w' ⟨rfl, ⟨nd, rfl⟩⟩) | (go_at_call 42; (with_reducible refine (real_Neg.calls t456 t460 _ A14.out).mono ?_); rintro e w' ⟨rfl, ⟨nd, rfl⟩⟩) | (go_at_call 24; (with_reducible refine (real_Add.calls a0 t460 t461 _ A15.out).mono ?_); rintro e w' ⟨rfl, ⟨nd, rfl⟩⟩) | (go_at_call 42; (with_reducible refine (real_Neg.calls t455 t462 _ A17.out).mono ?_); rintro e w' ⟨rfl, ⟨nd, rfl⟩⟩) | (go_at_call 43; (with_reducible refine (real_Canon.calls a0 t463 _ A18.out).mono ?_); rintro e w' ⟨rfl, ⟨nd, rfl⟩⟩))
          go_meet
          case rel => exact ⟨_, ((t462 != t463)), (by first | rfl | (simp; done) | (simp [*]; done)), H', ⟨by first | omega | exact Nat.le_refl _⟩, by repeat (first | exact Drawn0.refl _ | apply Drawn0.step)⟩
        · rw [if_neg c16] at H
          have c16b0 : (t459 == t461) = false := beq_eq_false_iff_ne.mpr c16
          have c16b1 : (t459 != t461) = true := bne_iff_ne.mpr c16
          have H' := Aside0.mk H
          clear H
          go_wp2_with (first | ((with_reducible refine gate_callee (f := 24) rfl ?_); refine goesL_ (some 25) rfl rfl Try.func24 (by kernel_rfl) rfl #[.int .u64 a1, .int .u64 a0] rfl (by (try simp only [List.map_toArray, List.map_cons, List.map_nil]); first | done | rfl | (simp only [List.length_drop, List.length_take]; rfl)) ?_; (with_reducible refine (real_Add.calls a1 a0 t457 _ A9.out).mono ?_); rintro e w' ⟨rfl, ⟨nd, rfl⟩⟩; refine ⟨_, rfl, ?_⟩) | (go_at_call 28; (with_reducible refine (real_Mul.calls a1 a0 t458 _ A11.out).mono ?_); rintro e w' ⟨rfl, ⟨nd, rfl⟩⟩) | (go_at_call 26; (with_reducible refine (real_Sub.calls a0 t456 t459 _ A13.out).mono ?_); rintro e w' ⟨rfl, ⟨nd, rfl⟩⟩) | (go_at_call 42; (with_reducible refine (real_Neg.calls t456 t460 _ A14.out).mono ?_); rintro e w' ⟨rfl, ⟨nd, rfl⟩⟩) | (go_at_call 24; (with_reducible refine (real_Add.calls a0 t460 t461 _ A15.out).mono ?_); rintro e w' ⟨rfl, ⟨nd, rfl⟩⟩))
          go_meet
          case rel => exact ⟨_, (true), (by first | rfl | (simp; done) | (simp [*]; done)), H', ⟨by first | omega | exact Nat.le_refl _⟩, by repeat (first | exact Drawn0.refl _ | apply Drawn0.step)⟩
      · rw [if_neg c12] at H
        have c12b0 : (t458 == t453) = false := beq_eq_false_iff_ne.mpr c12
        have c12b1 : (t458 != t453) = true := bne_iff_ne.mpr c12
        have H' := Aside0.mk H
        clear H
        go_wp2_with (first | ((with_reducible refine gate_callee (f := 24) rfl ?_); refine goesL_ (some 25) rfl rfl Try.func24 (by kernel_rfl) rfl #[.int .u64 a1, .int .u64 a0] rfl (by (try simp only [List.map_toArray, List.map_cons, List.map_nil]); first | done | rfl | (simp only [List.length_drop, List.length_take]; rfl)) ?_; (with_reducible refine (real_Add.calls a1 a0 t457 _ A9.out).mono ?_); rintro e w' ⟨rfl, ⟨nd, rfl⟩⟩; refine ⟨_, rfl, ?_⟩) | (go_at_call 28; (with_reducible refine (real_Mul.calls a1 a0 t458 _ A11.out).mono ?_); rintro e w' ⟨rfl, ⟨nd, rfl⟩⟩))
        go_meet
        case rel => exact ⟨_, (true), (by first | rfl | (simp; done) | (simp [*]; done)), H', ⟨by first | omega | exact Nat.le_refl _⟩, by repeat (first | exact Drawn0.refl _ | apply Drawn0.step)⟩
    · rw [if_neg c10] at H
      have c10b0 : (t457 == t452) = false := beq_eq_false_iff_ne.mpr c10
      have c10b1 : (t457 != t452) = true := bne_iff_ne.mpr c10
      (first | rw [c10b0] | (simp only [i64_w, i32_w]; rw [c10b0]) | skip)
      have H' := Aside0.mk H
      clear H
      go_wp2_with (first | ((with_reducible refine gate_callee (f := 24) rfl ?_); refine goesL_ (some 25) rfl rfl Try.func24 (by kernel_rfl) rfl #[.int .u64 a1, .int .u64 a0] rfl (by (try simp only [List.map_toArray, List.map_cons, List.map_nil]); first | done | rfl | (simp only [List.length_drop, List.length_take]; rfl)) ?_; (with_reducible refine (real_Add.calls a1 a0 t457 _ A9.out).mono ?_); rintro e w' ⟨rfl, ⟨nd, rfl⟩⟩; refine ⟨_, rfl, ?_⟩))
      go_meet
      case rel => exact ⟨_, (true), (by first | rfl | (simp; done) | (simp [*]; done)), H', ⟨by first | omega | exact Nat.le_refl _⟩, by repeat (first | exact Drawn0.refl _ | apply Drawn0.step)⟩
  case rest =>
    clear HC8
    try clear c1
    try clear c2
    try clear p2
    try clear c3
    try clear c4
    try clear c10
    try clear c10b0
    try clear c10b1
    try clear c12
    try clear c12b0
    try clear c12b1
    try clear c16
    try clear c16b0
    try clear c16b1
    obtain ⟨kq, x51_7, rfl, HA, HJ7, ⟨mc7, rfl⟩⟩ := hcut
    cases kq with
    | zero => exact absurd HA.out (by simp [portagelaw03_RealSigns.j0])
    | succ kj7 =>
      have H := HA.out
      clear HA
      simp only [portagelaw03_RealSigns.j0] at H
      by_cases c19 : x51_7 = true
      · subst c19
        have H1 : (some false) = some r := by rw [if_pos rfl] at H; exact H
        clear H
        have H := H1
        clear H1
        obtain rfl := Option.some.inj H
        go_wp2
        go_ret
        exact ⟨by first | rfl | (simp; done) | (simp [*]; done), by repeat (first | exact Drawn0.refl _ | apply Drawn0.step)⟩
      · replace c19 := Bool.eq_false_iff.mpr c19
        subst c19
        have H1 : ((real_Mul.f t455 a1).bind fun t464 => ((real_Neg.f t453).bind fun t465 => (if t464 = t465 then ((real_Mul.f a0 t456).bind fun t466 => ((real_Neg.f t453).bind fun t467 => (portagelaw03_RealSigns.j1 kj7 a0 a1 t452 t454 t455 t456 (t466 != t467)))) else (portagelaw03_RealSigns.j1 kj7 a0 a1 t452 t454 t455 t456 true)))) = some r := by rw [if_neg (show ¬ (false = true) by decide)] at H; exact H
        clear H
        have H := H1
        clear H1
        have HC20 := Aside0.mk H
        clear H
        go_upto_region 8 with (fail)
        go_cut [65] (fun v65 wc => ∃ (kq : Nat) (x65_19 : Bool), v65 = .bool x65_19 ∧ Aside0 (portagelaw03_RealSigns.j1 kq a0 a1 t452 t454 t455 t456 x65_19 = some r) ∧ Aside0 (kq ≤ kj7) ∧ Drawn0 w wc)
        case first =>
          have H := HC20.out
          clear HC20
          replace H := Option.bind_eq_some_iff.mp H
          obtain ⟨t464, A210, H⟩ := H
          replace H : ((real_Neg.f t453).bind fun t465 => (if t464 = t465 then ((real_Mul.f a0 t456).bind fun t466 => ((real_Neg.f t453).bind fun t467 => (portagelaw03_RealSigns.j1 kj7 a0 a1 t452 t454 t455 t456 (t466 != t467)))) else (portagelaw03_RealSigns.j1 kj7 a0 a1 t452 t454 t455 t456 true))) = some r := H
          have A21 := Aside0.mk A210
          clear A210
          replace H := Option.bind_eq_some_iff.mp H
          obtain ⟨t465, A220, H⟩ := H
          replace H : (if t464 = t465 then ((real_Mul.f a0 t456).bind fun t466 => ((real_Neg.f t453).bind fun t467 => (portagelaw03_RealSigns.j1 kj7 a0 a1 t452 t454 t455 t456 (t466 != t467)))) else (portagelaw03_RealSigns.j1 kj7 a0 a1 t452 t454 t455 t456 true)) = some r := H
          have A22 := Aside0.mk A220
          clear A220
          by_cases c23 : t464 = t465
          · rw [if_pos c23] at H
            have c23b0 : (t464 == t465) = true := beq_iff_eq.mpr c23
            have c23b1 : (t464 != t465) = false := bne_eq_false_iff_eq.mpr c23
            clear c23
            (first | rw [c23b0] | (simp only [i64_w, i32_w]; rw [c23b0]) | skip)
            replace H := Option.bind_eq_some_iff.mp H
            obtain ⟨t466, A240, H⟩ := H
            replace H : ((real_Neg.f t453).bind fun t467 => (portagelaw03_RealSigns.j1 kj7 a0 a1 t452 t454 t455 t456 (t466 != t467))) = some r := H
            have A24 := Aside0.mk A240
            clear A240
            replace H := Option.bind_eq_some_iff.mp H
            obtain ⟨t467, A250, H⟩ := H
            replace H : (portagelaw03_RealSigns.j1 kj7 a0 a1 t452 t454 t455 t456 (t466 != t467)) = some r := H
            have A25 := Aside0.mk A250
            clear A250
            have H' := Aside0.mk H
            clear H
            go_wp2_with (first | ((with_reducible refine gate_callee (f := 28) rfl ?_); refine goesL_ (some 54) rfl rfl Try.func28 (by kernel_rfl) rfl #[.int .u64 t455, .int .u64 a1] rfl (by (try simp only [List.map_toArray, List.map_cons, List.map_nil]); first | done | rfl | (simp only [List.length_drop, List.length_take]; rfl)) ?_; (with_reducible refine (real_Mul.calls t455 a1 t464 _ A21.out).mono ?_); rintro e w' ⟨rfl, ⟨nd, rfl⟩⟩; refine ⟨_, rfl, ?_⟩) | ((with_reducible refine gate_callee (f := 42) rfl ?_); refine goesL_ (some 56) rfl rfl Try.func42 (by kernel_rfl) rfl #[.int .u64 t453] rfl (by (try simp only [List.map_toArray, List.map_cons, List.map_nil]); first | done | rfl | (simp only [List.length_drop, List.length_take]; rfl)) ?_; (with_reducible refine (real_Neg.calls t453 t465 _ A22.out).mono ?_); rintro e w' ⟨rfl, ⟨nd, rfl⟩⟩; refine ⟨_, rfl, ?_⟩) | (go_at_call 28; (with_reducible refine (real_Mul.calls a0 t456 t466 _ A24.out).mono ?_); rintro e w' ⟨rfl, ⟨nd, rfl⟩⟩) | (go_at_call 42; (with_reducible refine (real_Neg.calls t453 t467 _ A25.out).mono ?_); rintro e w' ⟨rfl, ⟨nd, rfl⟩⟩))
            go_meet
            case rel => exact ⟨_, ((t466 != t467)), (by first | rfl | (simp; done) | (simp [*]; done)), H', ⟨by have := HJ7.out; first | omega | exact Nat.le_refl _⟩, by repeat (first | exact Drawn0.refl _ | apply Drawn0.step)⟩
          · rw [if_neg c23] at H
            have c23b0 : (t464 == t465) = false := beq_eq_false_iff_ne.mpr c23
            have c23b1 : (t464 != t465) = true := bne_iff_ne.mpr c23
            (first | rw [c23b0] | (simp only [i64_w, i32_w]; rw [c23b0]) | skip)
            have H' := Aside0.mk H
            clear H
            go_wp2_with (first | ((with_reducible refine gate_callee (f := 28) rfl ?_); refine goesL_ (some 54) rfl rfl Try.func28 (by kernel_rfl) rfl #[.int .u64 t455, .int .u64 a1] rfl (by (try simp only [List.map_toArray, List.map_cons, List.map_nil]); first | done | rfl | (simp only [List.length_drop, List.length_take]; rfl)) ?_; (with_reducible refine (real_Mul.calls t455 a1 t464 _ A21.out).mono ?_); rintro e w' ⟨rfl, ⟨nd, rfl⟩⟩; refine ⟨_, rfl, ?_⟩) | ((with_reducible refine gate_callee (f := 42) rfl ?_); refine goesL_ (some 56) rfl rfl Try.func42 (by kernel_rfl) rfl #[.int .u64 t453] rfl (by (try simp only [List.map_toArray, List.map_cons, List.map_nil]); first | done | rfl | (simp only [List.length_drop, List.length_take]; rfl)) ?_; (with_reducible refine (real_Neg.calls t453 t465 _ A22.out).mono ?_); rintro e w' ⟨rfl, ⟨nd, rfl⟩⟩; refine ⟨_, rfl, ?_⟩))
            go_meet
            case rel => exact ⟨_, (true), (by first | rfl | (simp; done) | (simp [*]; done)), H', ⟨by have := HJ7.out; first | omega | exact Nat.le_refl _⟩, by repeat (first | exact Drawn0.refl _ | apply Drawn0.step)⟩
        case rest =>
          clear HC20
          try clear c1
          try clear c2
          try clear p2
          try clear c3
          try clear c4
          try clear c7
          try clear c10
          try clear c10b0
          try clear c10b1
          try clear c12
          try clear c12b0
          try clear c12b1
          try clear c16
          try clear c16b0
          try clear c16b1
          try clear c19
          try clear c23
          try clear c23b0
          try clear c23b1
          try clear c24
          try clear p2
          obtain ⟨kq, x65_19, rfl, HA, HJ19, ⟨mc19, rfl⟩⟩ := hcut
          cases kq with
          | zero => exact absurd HA.out (by simp [portagelaw03_RealSigns.j1])
          | succ kj19 =>
            have H := HA.out
            clear HA
            simp only [portagelaw03_RealSigns.j1] at H
            by_cases c26 : x65_19 = true
            · subst c26
              have H1 : (some false) = some r := by rw [if_pos rfl] at H; exact H
              clear H
              have H := H1
              clear H1
              obtain rfl := Option.some.inj H
              go_wp2
              go_ret
              exact ⟨by first | rfl | (simp; done) | (simp [*]; done), by repeat (first | exact Drawn0.refl _ | apply Drawn0.step)⟩
            · replace c26 := Bool.eq_false_iff.mpr c26
              subst c26
              have H1 : ((real_Div.f t455 a1).bind fun t468 => ((real_Neg.f t454).bind fun t469 => (if t468 = t469 then ((real_Div.f a0 t456).bind fun t470 => ((real_Neg.f t454).bind fun t471 => (portagelaw03_RealSigns.j2 kj19 a0 a1 t452 t455 t456 (t470 != t471)))) else (portagelaw03_RealSigns.j2 kj19 a0 a1 t452 t455 t456 true)))) = some r := by rw [if_neg (show ¬ (false = true) by decide)] at H; exact H
              clear H
              have H := H1
              clear H1
              have HC27 := Aside0.mk H
              clear H
              go_upto_region 10 with (fail)
              go_cut [79] (fun v79 wc => ∃ (kq : Nat) (x79_26 : Bool), v79 = .bool x79_26 ∧ Aside0 (portagelaw03_RealSigns.j2 kq a0 a1 t452 t455 t456 x79_26 = some r) ∧ Aside0 (kq ≤ kj19) ∧ Drawn0 w wc)
              case first =>
                have H := HC27.out
                clear HC27
                replace H := Option.bind_eq_some_iff.mp H
                obtain ⟨t468, A280, H⟩ := H
                replace H : ((real_Neg.f t454).bind fun t469 => (if t468 = t469 then ((real_Div.f a0 t456).bind fun t470 => ((real_Neg.f t454).bind fun t471 => (portagelaw03_RealSigns.j2 kj19 a0 a1 t452 t455 t456 (t470 != t471)))) else (portagelaw03_RealSigns.j2 kj19 a0 a1 t452 t455 t456 true))) = some r := H
                have A28 := Aside0.mk A280
                clear A280
                replace H := Option.bind_eq_some_iff.mp H
                obtain ⟨t469, A290, H⟩ := H
                replace H : (if t468 = t469 then ((real_Div.f a0 t456).bind fun t470 => ((real_Neg.f t454).bind fun t471 => (portagelaw03_RealSigns.j2 kj19 a0 a1 t452 t455 t456 (t470 != t471)))) else (portagelaw03_RealSigns.j2 kj19 a0 a1 t452 t455 t456 true)) = some r := H
                have A29 := Aside0.mk A290
                clear A290
                by_cases c30 : t468 = t469
                · rw [if_pos c30] at H
                  have c30b0 : (t468 == t469) = true := beq_iff_eq.mpr c30
                  have c30b1 : (t468 != t469) = false := bne_eq_false_iff_eq.mpr c30
                  clear c30
                  (first | rw [c30b0] | (simp only [i64_w, i32_w]; rw [c30b0]) | skip)
                  replace H := Option.bind_eq_some_iff.mp H
                  obtain ⟨t470, A310, H⟩ := H
                  replace H : ((real_Neg.f t454).bind fun t471 => (portagelaw03_RealSigns.j2 kj19 a0 a1 t452 t455 t456 (t470 != t471))) = some r := H
                  have A31 := Aside0.mk A310
                  clear A310
                  replace H := Option.bind_eq_some_iff.mp H
                  obtain ⟨t471, A320, H⟩ := H
                  replace H : (portagelaw03_RealSigns.j2 kj19 a0 a1 t452 t455 t456 (t470 != t471)) = some r := H
                  have A32 := Aside0.mk A320
                  clear A320
                  have H' := Aside0.mk H
                  clear H
                  go_wp2_with (first | ((with_reducible refine gate_callee (f := 30) rfl ?_); refine goesL_ (some 68) rfl rfl Try.func30 (by kernel_rfl) rfl #[.int .u64 t455, .int .u64 a1] rfl (by (try simp only [List.map_toArray, List.map_cons, List.map_nil]); first | done | rfl | (simp only [List.length_drop, List.length_take]; rfl)) ?_; (with_reducible refine (real_Div.calls t455 a1 t468 _ A28.out).mono ?_); rintro e w' ⟨rfl, ⟨nd, rfl⟩⟩; refine ⟨_, rfl, ?_⟩) | ((with_reducible refine gate_callee (f := 42) rfl ?_); refine goesL_ (some 70) rfl rfl Try.func42 (by kernel_rfl) rfl #[.int .u64 t454] rfl (by (try simp only [List.map_toArray, List.map_cons, List.map_nil]); first | done | rfl | (simp only [List.length_drop, List.length_take]; rfl)) ?_; (with_reducible refine (real_Neg.calls t454 t469 _ A29.out).mono ?_); rintro e w' ⟨rfl, ⟨nd, rfl⟩⟩; refine ⟨_, rfl, ?_⟩) | (go_at_call 30; (with_reducible refine (real_Div.calls a0 t456 t470 _ A31.out).mono ?_); rintro e w' ⟨rfl, ⟨nd, rfl⟩⟩) | (go_at_call 42; (with_reducible refine (real_Neg.calls t454 t471 _ A32.out).mono ?_); rintro e w' ⟨rfl, ⟨nd, rfl⟩⟩))
                  go_meet
                  case rel => exact ⟨_, ((t470 != t471)), (by first | rfl | (simp; done) | (simp [*]; done)), H', ⟨by have := HJ7.out; have := HJ19.out; first | omega | exact Nat.le_refl _⟩, by repeat (first | exact Drawn0.refl _ | apply Drawn0.step)⟩
                · rw [if_neg c30] at H
                  have c30b0 : (t468 == t469) = false := beq_eq_false_iff_ne.mpr c30
                  have c30b1 : (t468 != t469) = true := bne_iff_ne.mpr c30
                  (first | rw [c30b0] | (simp only [i64_w, i32_w]; rw [c30b0]) | skip)
                  have H' := Aside0.mk H
                  clear H
                  go_wp2_with (first | ((with_reducible refine gate_callee (f := 30) rfl ?_); refine goesL_ (some 68) rfl rfl Try.func30 (by kernel_rfl) rfl #[.int .u64 t455, .int .u64 a1] rfl (by (try simp only [List.map_toArray, List.map_cons, List.map_nil]); first | done | rfl | (simp only [List.length_drop, List.length_take]; rfl)) ?_; (with_reducible refine (real_Div.calls t455 a1 t468 _ A28.out).mono ?_); rintro e w' ⟨rfl, ⟨nd, rfl⟩⟩; refine ⟨_, rfl, ?_⟩) | ((with_reducible refine gate_callee (f := 42) rfl ?_); refine goesL_ (some 70) rfl rfl Try.func42 (by kernel_rfl) rfl #[.int .u64 t454] rfl (by (try simp only [List.map_toArray, List.map_cons, List.map_nil]); first | done | rfl | (simp only [List.length_drop, List.length_take]; rfl)) ?_; (with_reducible refine (real_Neg.calls t454 t469 _ A29.out).mono ?_); rintro e w' ⟨rfl, ⟨nd, rfl⟩⟩; refine ⟨_, rfl, ?_⟩))
                  go_meet
                  case rel => exact ⟨_, (true), (by first | rfl | (simp; done) | (simp [*]; done)), H', ⟨by have := HJ7.out; have := HJ19.out; first | omega | exact Nat.le_refl _⟩, by repeat (first | exact Drawn0.refl _ | apply Drawn0.step)⟩
              case rest =>
                clear HC27
                try clear c1
                try clear c2
                try clear p2
                try clear c3
                try clear c4
                try clear c7
                try clear c10
                try clear c10b0
                try clear c10b1
                try clear c12
                try clear c12b0
                try clear c12b1
                try clear c16
                try clear c16b0
                try clear c16b1
                try clear c19
                try clear c23
                try clear c23b0
                try clear c23b1
                try clear c24
                try clear c26
                try clear c28
                try clear c30
                try clear c30b0
                try clear c30b1
                try clear p2
                obtain ⟨kq, x79_26, rfl, HA, HJ26, ⟨mc26, rfl⟩⟩ := hcut
                cases kq with
                | zero => exact absurd HA.out (by simp [portagelaw03_RealSigns.j2])
                | succ kj26 =>
                  have H := HA.out
                  clear HA
                  simp only [portagelaw03_RealSigns.j2] at H
                  by_cases c33 : x79_26 = true
                  · subst c33
                    have H1 : (some false) = some r := by rw [if_pos rfl] at H; exact H
                    clear H
                    have H := H1
                    clear H1
                    obtain rfl := Option.some.inj H
                    go_wp2
                    go_ret
                    exact ⟨by first | rfl | (simp; done) | (simp [*]; done), by repeat (first | exact Drawn0.refl _ | apply Drawn0.step)⟩
                  · replace c33 := Bool.eq_false_iff.mpr c33
                    subst c33
                    have H1 : (if (Go.bits .and .u64 t452 9223372036854775807) = 0 then ((real_Sub.f a0 a1).bind fun t472 => ((real_Add.f a0 t456).bind fun t473 => (if t472 = t473 then ((portagelaw03_awake.f kj26).bind fun t474 => (some t474)) else (some false)))) else ((real_Add.f t455 t456).bind fun t475 => ((real_Neg.f t452).bind fun t476 => (if t475 = t476 then ((real_Sub.f a0 a1).bind fun t477 => ((real_Add.f a0 t456).bind fun t478 => (if t477 = t478 then ((portagelaw03_awake.f kj26).bind fun t479 => (some t479)) else (some false)))) else (some false))))) = some r := by rw [if_neg (show ¬ (false = true) by decide)] at H; exact H
                    clear H
                    have H := H1
                    clear H1
                    by_cases c34 : (Go.bits .and .u64 t452 9223372036854775807) = 0
                    · rw [if_pos c34] at H
                      have c34b0 : ((Go.bits .and .u64 t452 9223372036854775807) == 0) = true := beq_iff_eq.mpr c34
                      have c34b1 : ((Go.bits .and .u64 t452 9223372036854775807) != 0) = false := bne_eq_false_iff_eq.mpr c34
                      clear c34
                      replace H := Option.bind_eq_some_iff.mp H
                      obtain ⟨t472, A350, H⟩ := H
                      replace H : ((real_Add.f a0 t456).bind fun t473 => (if t472 = t473 then ((portagelaw03_awake.f kj26).bind fun t474 => (some t474)) else (some false))) = some r := H
                      have A35 := Aside0.mk A350
                      clear A350
                      replace H := Option.bind_eq_some_iff.mp H
                      obtain ⟨t473, A360, H⟩ := H
                      replace H : (if t472 = t473 then ((portagelaw03_awake.f kj26).bind fun t474 => (some t474)) else (some false)) = some r := H
                      have A36 := Aside0.mk A360
                      clear A360
                      by_cases c37 : t472 = t473
                      · rw [if_pos c37] at H
                        have c37b0 : (t472 == t473) = true := beq_iff_eq.mpr c37
                        have c37b1 : (t472 != t473) = false := bne_eq_false_iff_eq.mpr c37
                        clear c37
                        replace H := Option.bind_eq_some_iff.mp H
                        obtain ⟨t474, A380, H⟩ := H
                        replace H : (some t474) = some r := H
                        have A38 := Aside0.mk A380
                        clear A380
                        obtain rfl := Option.some.inj H
                        go_wp2_with (first | (go_at_call 26; (with_reducible refine (real_Sub.calls a0 a1 t472 _ A35.out).mono ?_); rintro e w' ⟨rfl, ⟨nd, rfl⟩⟩) | (go_at_call 24; (with_reducible refine (real_Add.calls a0 t456 t473 _ A36.out).mono ?_); rintro e w' ⟨rfl, ⟨nd, rfl⟩⟩) | (go_at_call 39; (with_reducible refine (portagelaw03_awake.calls kj26  t474 _ A38.out).mono ?_); rintro e w' ⟨rfl, ⟨nd, rfl⟩⟩))
                        go_ret
                        exact ⟨by first | rfl | (simp; done) | (simp [*]; done), by repeat (first | exact Drawn0.refl _ | apply Drawn0.step)⟩
                      · rw [if_neg c37] at H
                        have c37b0 : (t472 == t473) = false := beq_eq_false_iff_ne.mpr c37
                        have c37b1 : (t472 != t473) = true := bne_iff_ne.mpr c37
                        obtain rfl := Option.some.inj H
                        go_wp2_with (first | (go_at_call 26; (with_reducible refine (real_Sub.calls a0 a1 t472 _ A35.out).mono ?_); rintro e w' ⟨rfl, ⟨nd, rfl⟩⟩) | (go_at_call 24; (with_reducible refine (real_Add.calls a0 t456 t473 _ A36.out).mono ?_); rintro e w' ⟨rfl, ⟨nd, rfl⟩⟩))
                        go_ret
                        exact ⟨by first | rfl | (simp; done) | (simp [*]; done), by repeat (first | exact Drawn0.refl _ | apply Drawn0.step)⟩
                    · rw [if_neg c34] at H
                      have c34b0 : ((Go.bits .and .u64 t452 9223372036854775807) == 0) = false := beq_eq_false_iff_ne.mpr c34
                      have c34b1 : ((Go.bits .and .u64 t452 9223372036854775807) != 0) = true := bne_iff_ne.mpr c34
                      replace H := Option.bind_eq_some_iff.mp H
                      obtain ⟨t475, A390, H⟩ := H
                      replace H : ((real_Neg.f t452).bind fun t476 => (if t475 = t476 then ((real_Sub.f a0 a1).bind fun t477 => ((real_Add.f a0 t456).bind fun t478 => (if t477 = t478 then ((portagelaw03_awake.f kj26).bind fun t479 => (some t479)) else (some false)))) else (some false))) = some r := H
                      have A39 := Aside0.mk A390
                      clear A390
                      replace H := Option.bind_eq_some_iff.mp H
                      obtain ⟨t476, A400, H⟩ := H
                      replace H : (if t475 = t476 then ((real_Sub.f a0 a1).bind fun t477 => ((real_Add.f a0 t456).bind fun t478 => (if t477 = t478 then ((portagelaw03_awake.f kj26).bind fun t479 => (some t479)) else (some false)))) else (some false)) = some r := H
                      have A40 := Aside0.mk A400
                      clear A400
                      by_cases c41 : t475 = t476
                      · rw [if_pos c41] at H
                        have c41b0 : (t475 == t476) = true := beq_iff_eq.mpr c41
                        have c41b1 : (t475 != t476) = false := bne_eq_false_iff_eq.mpr c41
                        clear c41
                        replace H := Option.bind_eq_some_iff.mp H
                        obtain ⟨t477, A420, H⟩ := H
                        replace H : ((real_Add.f a0 t456).bind fun t478 => (if t477 = t478 then ((portagelaw03_awake.f kj26).bind fun t479 => (some t479)) else (some false))) = some r := H
                        have A42 := Aside0.mk A420
                        clear A420
                        replace H := Option.bind_eq_some_iff.mp H
                        obtain ⟨t478, A430, H⟩ := H
                        replace H : (if t477 = t478 then ((portagelaw03_awake.f kj26).bind fun t479 => (some t479)) else (some false)) = some r := H
                        have A43 := Aside0.mk A430
                        clear A430
                        by_cases c44 : t477 = t478
                        · rw [if_pos c44] at H
                          have c44b0 : (t477 == t478) = true := beq_iff_eq.mpr c44
                          have c44b1 : (t477 != t478) = false := bne_eq_false_iff_eq.mpr c44
                          clear c44
                          replace H := Option.bind_eq_some_iff.mp H
                          obtain ⟨t479, A450, H⟩ := H
                          replace H : (some t479) = some r := H
                          have A45 := Aside0.mk A450
                          clear A450
                          obtain rfl := Option.some.inj H
                          go_wp2_with (first | (go_at_call 24; (with_reducible refine (real_Add.calls t455 t456 t475 _ A39.out).mono ?_); rintro e w' ⟨rfl, ⟨nd, rfl⟩⟩) | (go_at_call 42; (with_reducible refine (real_Neg.calls t452 t476 _ A40.out).mono ?_); rintro e w' ⟨rfl, ⟨nd, rfl⟩⟩) | (go_at_call 26; (with_reducible refine (real_Sub.calls a0 a1 t477 _ A42.out).mono ?_); rintro e w' ⟨rfl, ⟨nd, rfl⟩⟩) | (go_at_call 24; (with_reducible refine (real_Add.calls a0 t456 t478 _ A43.out).mono ?_); rintro e w' ⟨rfl, ⟨nd, rfl⟩⟩) | (go_at_call 39; (with_reducible refine (portagelaw03_awake.calls kj26  t479 _ A45.out).mono ?_); rintro e w' ⟨rfl, ⟨nd, rfl⟩⟩))
                          go_ret
                          exact ⟨by first | rfl | (simp; done) | (simp [*]; done), by repeat (first | exact Drawn0.refl _ | apply Drawn0.step)⟩
                        · rw [if_neg c44] at H
                          have c44b0 : (t477 == t478) = false := beq_eq_false_iff_ne.mpr c44
                          have c44b1 : (t477 != t478) = true := bne_iff_ne.mpr c44
                          obtain rfl := Option.some.inj H
                          go_wp2_with (first | (go_at_call 24; (with_reducible refine (real_Add.calls t455 t456 t475 _ A39.out).mono ?_); rintro e w' ⟨rfl, ⟨nd, rfl⟩⟩) | (go_at_call 42; (with_reducible refine (real_Neg.calls t452 t476 _ A40.out).mono ?_); rintro e w' ⟨rfl, ⟨nd, rfl⟩⟩) | (go_at_call 26; (with_reducible refine (real_Sub.calls a0 a1 t477 _ A42.out).mono ?_); rintro e w' ⟨rfl, ⟨nd, rfl⟩⟩) | (go_at_call 24; (with_reducible refine (real_Add.calls a0 t456 t478 _ A43.out).mono ?_); rintro e w' ⟨rfl, ⟨nd, rfl⟩⟩))
                          go_ret
                          exact ⟨by first | rfl | (simp; done) | (simp [*]; done), by repeat (first | exact Drawn0.refl _ | apply Drawn0.step)⟩
                      · rw [if_neg c41] at H
                        have c41b0 : (t475 == t476) = false := beq_eq_false_iff_ne.mpr c41
                        have c41b1 : (t475 != t476) = true := bne_iff_ne.mpr c41
                        obtain rfl := Option.some.inj H
                        go_wp2_with (first | (go_at_call 24; (with_reducible refine (real_Add.calls t455 t456 t475 _ A39.out).mono ?_); rintro e w' ⟨rfl, ⟨nd, rfl⟩⟩) | (go_at_call 42; (with_reducible refine (real_Neg.calls t452 t476 _ A40.out).mono ?_); rintro e w' ⟨rfl, ⟨nd, rfl⟩⟩))
                        go_ret
                        exact ⟨by first | rfl | (simp; done) | (simp [*]; done), by repeat (first | exact Drawn0.refl _ | apply Drawn0.step)⟩

/-- THE ONE PURE STATEMENT of portagelaw03_RealSigns: yours. -/
def portagelaw03_RealSigns.Pure : Prop := ∀ (a0 : Int) (a1 : Int), (Lit.int .u64 a0).wf = true → (Lit.int .u64 a1).wf = true → ∃ k, portagelaw03_RealSigns.f k a0 a1 = some true
theorem portagelaw03_RealSigns.walk (P : portagelaw03_RealSigns.Pure) (a0 : Int) (a1 : Int) (w : World) (w0 : (Lit.int .u64 a0).wf = true) (w1 : (Lit.int .u64 a1).wf = true) :
    Calls Try.prog 12 #[.int .u64 a0, .int .u64 a1] w fun e w' => e = .returned (.bool true) ∧ Below w.heap.size w w' := by
  obtain ⟨k, h⟩ := P a0 a1 w0 w1
  refine (portagelaw03_RealSigns.calls k a0 a1 true w h).mono ?_
  rintro e w' ⟨rfl, hd⟩
  exact ⟨rfl, hd.below⟩

-- NOT PRINTED: function 90 (math_archFloor)

-- NOT PRINTED: function 93 (math_IsNaN)

-- NOT PRINTED: function 94 (math_IsInf)

-- NOT PRINTED: function 95 (math_Modf)

-- NOT PRINTED: function 91 (math_floor)

-- NOT PRINTED: function 74 (math_Floor)

/-! ### portagelaw03_quotients: function 47 -/
def portagelaw03_quotients.f (k : Nat) (a0 : Int) (a1 : Int) : Option (Bool) := (real_FromInt.f (wrap64 ((wrap64 (Int.tmod a0 4503599627370496)) + 1))).bind fun t480 => ((real_FromInt.f (wrap64 ((wrap64 (Int.tmod a1 4503599627370496)) + 1))).bind fun t481 => ((real_Div.f t480 t481).bind fun t482 => ((real_Floor.f t482).bind fun t483 => ((real_ToInt.f t483).bind fun bt484 => (if bt484.2 = true then (if (wrap64 ((wrap64 (Int.tmod a1 4503599627370496)) + 1)) = 0 then (none) else (if bt484.1 = (wrap64 (Int.tdiv (wrap64 ((wrap64 (Int.tmod a0 4503599627370496)) + 1)) (wrap64 ((wrap64 (Int.tmod a1 4503599627370496)) + 1)))) then ((real_FromInt.f (wrap64 (Int.tdiv (wrap64 ((wrap64 (Int.tmod a0 4503599627370496)) + 1)) (wrap64 ((wrap64 (Int.tmod a1 4503599627370496)) + 1))))).bind fun t486 => (if t483 = t486 then ((portagelaw03_awake.f k).bind fun t487 => (some t487)) else (some false))) else (some false))) else (some false))))))
theorem portagelaw03_quotients.mono : ∀ a0 a1 k, LeO (portagelaw03_quotients.f k a0 a1) (portagelaw03_quotients.f (k + 1) a0 a1) := by
  intro a0 a1 k
  unfold portagelaw03_quotients.f
  repeat' first
      | (with_reducible exact portagelaw03_awake.mono _)
      | (with_reducible exact LeO.refl _)
      | (with_reducible exact LeO.none _)
      | (with_reducible refine LeO.ite ?_ ?_)
      | (with_reducible refine LeO.bind ?_ (fun _ => ?_))
      | exact portagelaw03_awake.mono _
      | exact LeO.none _
      | refine LeO.ite ?_ ?_
      | refine LeO.bind ?_ (fun _ => ?_)
set_option maxHeartbeats 8000000 in
set_option maxRecDepth 100000 in
theorem portagelaw03_quotients.calls (k : Nat) (a0 : Int) (a1 : Int) (r : Bool) (w : World) (h : portagelaw03_quotients.f k a0 a1 = some r) :
    Calls Try.prog 47 #[.int .u64 a0, .int .u64 a1] w fun e w' => e = .returned (.bool r) ∧ Drawn0 w w' := by
  have H : ((real_FromInt.f (wrap64 ((wrap64 (Int.tmod a0 4503599627370496)) + 1))).bind fun t480 => ((real_FromInt.f (wrap64 ((wrap64 (Int.tmod a1 4503599627370496)) + 1))).bind fun t481 => ((real_Div.f t480 t481).bind fun t482 => ((real_Floor.f t482).bind fun t483 => ((real_ToInt.f t483).bind fun bt484 => (if bt484.2 = true then (if (wrap64 ((wrap64 (Int.tmod a1 4503599627370496)) + 1)) = 0 then (none) else (if bt484.1 = (wrap64 (Int.tdiv (wrap64 ((wrap64 (Int.tmod a0 4503599627370496)) + 1)) (wrap64 ((wrap64 (Int.tmod a1 4503599627370496)) + 1)))) then ((real_FromInt.f (wrap64 (Int.tdiv (wrap64 ((wrap64 (Int.tmod a0 4503599627370496)) + 1)) (wrap64 ((wrap64 (Int.tmod a1 4503599627370496)) + 1))))).bind fun t486 => (if t483 = t486 then ((portagelaw03_awake.f k).bind fun t487 => (some t487)) else (some false))) else (some false))) else (some false))))))) = some r := h
  clear h
  replace H := Option.bind_eq_some_iff.mp H
  obtain ⟨t480, A30, H⟩ := H
  replace H : ((real_FromInt.f (wrap64 ((wrap64 (Int.tmod a1 4503599627370496)) + 1))).bind fun t481 => ((real_Div.f t480 t481).bind fun t482 => ((real_Floor.f t482).bind fun t483 => ((real_ToInt.f t483).bind fun bt484 => (if bt484.2 = true then (if (wrap64 ((wrap64 (Int.tmod a1 4503599627370496)) + 1)) = 0 then (none) else (if bt484.1 = (wrap64 (Int.tdiv (wrap64 ((wrap64 (Int.tmod a0 4503599627370496)) + 1)) (wrap64 ((wrap64 (Int.tmod a1 4503599627370496)) + 1)))) then ((real_FromInt.f (wrap64 (Int.tdiv (wrap64 ((wrap64 (Int.tmod a0 4503599627370496)) + 1)) (wrap64 ((wrap64 (Int.tmod a1 4503599627370496)) + 1))))).bind fun t486 => (if t483 = t486 then ((portagelaw03_awake.f k).bind fun t487 => (some t487)) else (some false))) else (some false))) else (some false)))))) = some r := H
  have A3 := Aside0.mk A30
  clear A30
  replace H := Option.bind_eq_some_iff.mp H
  obtain ⟨t481, A40, H⟩ := H
  replace H : ((real_Div.f t480 t481).bind fun t482 => ((real_Floor.f t482).bind fun t483 => ((real_ToInt.f t483).bind fun bt484 => (if bt484.2 = true then (if (wrap64 ((wrap64 (Int.tmod a1 4503599627370496)) + 1)) = 0 then (none) else (if bt484.1 = (wrap64 (Int.tdiv (wrap64 ((wrap64 (Int.tmod a0 4503599627370496)) + 1)) (wrap64 ((wrap64 (Int.tmod a1 4503599627370496)) + 1)))) then ((real_FromInt.f (wrap64 (Int.tdiv (wrap64 ((wrap64 (Int.tmod a0 4503599627370496)) + 1)) (wrap64 ((wrap64 (Int.tmod a1 4503599627370496)) + 1))))).bind fun t486 => (if t483 = t486 then ((portagelaw03_awake.f k).bind fun t487 => (some t487)) else (some false))) else (some false))) else (some false))))) = some r := H
  have A4 := Aside0.mk A40
  clear A40
  replace H := Option.bind_eq_some_iff.mp H
  obtain ⟨t482, A50, H⟩ := H
  replace H : ((real_Floor.f t482).bind fun t483 => ((real_ToInt.f t483).bind fun bt484 => (if bt484.2 = true then (if (wrap64 ((wrap64 (Int.tmod a1 4503599627370496)) + 1)) = 0 then (none) else (if bt484.1 = (wrap64 (Int.tdiv (wrap64 ((wrap64 (Int.tmod a0 4503599627370496)) + 1)) (wrap64 ((wrap64 (Int.tmod a1 4503599627370496)) + 1)))) then ((real_FromInt.f (wrap64 (Int.tdiv (wrap64 ((wrap64 (Int.tmod a0 4503599627370496)) + 1)) (wrap64 ((wrap64 (Int.tmod a1 4503599627370496)) + 1))))).bind fun t486 => (if t483 = t486 then ((portagelaw03_awake.f k).bind fun t487 => (some t487)) else (some false))) else (some false))) else (some false)))) = some r := H
  have A5 := Aside0.mk A50
  clear A50
  replace H := Option.bind_eq_some_iff.mp H
  obtain ⟨t483, A60, H⟩ := H
  replace H : ((real_ToInt.f t483).bind fun bt484 => (if bt484.2 = true then (if (wrap64 ((wrap64 (Int.tmod a1 4503599627370496)) + 1)) = 0 then (none) else (if bt484.1 = (wrap64 (Int.tdiv (wrap64 ((wrap64 (Int.tmod a0 4503599627370496)) + 1)) (wrap64 ((wrap64 (Int.tmod a1 4503599627370496)) + 1)))) then ((real_FromInt.f (wrap64 (Int.tdiv (wrap64 ((wrap64 (Int.tmod a0 4503599627370496)) + 1)) (wrap64 ((wrap64 (Int.tmod a1 4503599627370496)) + 1))))).bind fun t486 => (if t483 = t486 then ((portagelaw03_awake.f k).bind fun t487 => (some t487)) else (some false))) else (some false))) else (some false))) = some r := H
  have A6 := Aside0.mk A60
  clear A60
  replace H := Option.bind_eq_some_iff.mp H
  obtain ⟨⟨t484, t485⟩, A70, H⟩ := H
  replace H : (if t485 = true then (if (wrap64 ((wrap64 (Int.tmod a1 4503599627370496)) + 1)) = 0 then (none) else (if t484 = (wrap64 (Int.tdiv (wrap64 ((wrap64 (Int.tmod a0 4503599627370496)) + 1)) (wrap64 ((wrap64 (Int.tmod a1 4503599627370496)) + 1)))) then ((real_FromInt.f (wrap64 (Int.tdiv (wrap64 ((wrap64 (Int.tmod a0 4503599627370496)) + 1)) (wrap64 ((wrap64 (Int.tmod a1 4503599627370496)) + 1))))).bind fun t486 => (if t483 = t486 then ((portagelaw03_awake.f k).bind fun t487 => (some t487)) else (some false))) else (some false))) else (some false)) = some r := H
  have A7 := Aside0.mk A70
  clear A70
  by_cases c8 : t485 = true
  · subst c8
    have H1 : (if (wrap64 ((wrap64 (Int.tmod a1 4503599627370496)) + 1)) = 0 then (none) else (if t484 = (wrap64 (Int.tdiv (wrap64 ((wrap64 (Int.tmod a0 4503599627370496)) + 1)) (wrap64 ((wrap64 (Int.tmod a1 4503599627370496)) + 1)))) then ((real_FromInt.f (wrap64 (Int.tdiv (wrap64 ((wrap64 (Int.tmod a0 4503599627370496)) + 1)) (wrap64 ((wrap64 (Int.tmod a1 4503599627370496)) + 1))))).bind fun t486 => (if t483 = t486 then ((portagelaw03_awake.f k).bind fun t487 => (some t487)) else (some false))) else (some false))) = some r := by rw [if_pos rfl] at H; exact H
    clear H
    have H := H1
    clear H1
    by_cases c9 : (wrap64 ((wrap64 (Int.tmod a1 4503599627370496)) + 1)) = 0
    · rw [if_pos c9] at H
      exact absurd H (by simp)
    · rw [if_neg c9] at H
      have c9b0 : ((wrap64 ((wrap64 (Int.tmod a1 4503599627370496)) + 1)) == 0) = false := beq_eq_false_iff_ne.mpr c9
      have c9b1 : ((wrap64 ((wrap64 (Int.tmod a1 4503599627370496)) + 1)) != 0) = true := bne_iff_ne.mpr c9
      by_cases c10 : t484 = (wrap64 (Int.tdiv (wrap64 ((wrap64 (Int.tmod a0 4503599627370496)) + 1)) (wrap64 ((wrap64 (Int.tmod a1 4503599627370496)) + 1))))
      · rw [if_pos c10] at H
        have c10b0 : (t484 == (wrap64 (Int.tdiv (wrap64 ((wrap64 (Int.tmod a0 4503599627370496)) + 1)) (wrap64 ((wrap64 (Int.tmod a1 4503599627370496)) + 1))))) = true := beq_iff_eq.mpr c10
        have c10b1 : (t484 != (wrap64 (Int.tdiv (wrap64 ((wrap64 (Int.tmod a0 4503599627370496)) + 1)) (wrap64 ((wrap64 (Int.tmod a1 4503599627370496)) + 1))))) = false := bne_eq_false_iff_eq.mpr c10
        clear c10
        replace H := Option.bind_eq_some_iff.mp H
        obtain ⟨t486, A110, H⟩ := H
        replace H : (if t483 = t486 then ((portagelaw03_awake.f k).bind fun t487 => (some t487)) else (some false)) = some r := H
        have A11 := Aside0.mk A110
        clear A110
        by_cases c12 : t483 = t486
        · rw [if_pos c12] at H
          have c12b0 : (t483 == t486) = true := beq_iff_eq.mpr c12
          have c12b1 : (t483 != t486) = false := bne_eq_false_iff_eq.mpr c12
          clear c12
          replace H := Option.bind_eq_some_iff.mp H
          obtain ⟨t487, A130, H⟩ := H
          replace H : (some t487) = some r := H
          have A13 := Aside0.mk A130
          clear A130
          obtain rfl := Option.some.inj H
          go_enter Try.func47, Try.ntmps47
          go_wp2_with (first | ((with_reducible refine gate_callee (f := 35) rfl ?_); refine goesL_ (some 19) rfl rfl Try.func35 (by kernel_rfl) rfl #[.int .i64 (wrap64 ((wrap64 (Int.tmod a0 4503599627370496)) + 1))] rfl (by (try simp only [List.map_toArray, List.map_cons, List.map_nil]); first | done | rfl | (simp only [List.length_drop, List.length_take]; rfl)) ?_; (with_reducible refine (real_FromInt.calls (wrap64 ((wrap64 (Int.tmod a0 4503599627370496)) + 1)) t480 _ A3.out).mono ?_); rintro e w' ⟨rfl, ⟨nd, rfl⟩⟩; refine ⟨_, rfl, ?_⟩) | ((with_reducible refine gate_callee (f := 35) rfl ?_); refine goesL_ (some 21) rfl rfl Try.func35 (by kernel_rfl) rfl #[.int .i64 (wrap64 ((wrap64 (Int.tmod a1 4503599627370496)) + 1))] rfl (by (try simp only [List.map_toArray, List.map_cons, List.map_nil]); first | done | rfl | (simp only [List.length_drop, List.length_take]; rfl)) ?_; (with_reducible refine (real_FromInt.calls (wrap64 ((wrap64 (Int.tmod a1 4503599627370496)) + 1)) t481 _ A4.out).mono ?_); rintro e w' ⟨rfl, ⟨nd, rfl⟩⟩; refine ⟨_, rfl, ?_⟩) | ((with_reducible refine gate_callee (f := 30) rfl ?_); refine goesL_ (some 22) rfl rfl Try.func30 (by kernel_rfl) rfl #[.int .u64 t480, .int .u64 t481] rfl (by (try simp only [List.map_toArray, List.map_cons, List.map_nil]); first | done | rfl | (simp only [List.length_drop, List.length_take]; rfl)) ?_; (with_reducible refine (real_Div.calls t480 t481 t482 _ A5.out).mono ?_); rintro e w' ⟨rfl, ⟨nd, rfl⟩⟩; refine ⟨_, rfl, ?_⟩) | ((with_reducible refine gate_callee (f := 46) rfl ?_); refine goesL_ (some 23) rfl rfl Try.func46 (by kernel_rfl) rfl #[.int .u64 t482] rfl (by (try simp only [List.map_toArray, List.map_cons, List.map_nil]); first | done | rfl | (simp only [List.length_drop, List.length_take]; rfl)) ?_; (with_reducible refine (real_Floor.calls t482 t483 _ A6.out).mono ?_); rintro e w' ⟨rfl, ⟨nd, rfl⟩⟩; refine ⟨_, rfl, ?_⟩) | ((with_reducible refine gate_callee (f := 34) rfl ?_); refine goesL_ (some 26) rfl rfl Try.func34 (by kernel_rfl) rfl #[.int .u64 t483] rfl (by (try simp only [List.map_toArray, List.map_cons, List.map_nil]); first | done | rfl | (simp only [List.length_drop, List.length_take]; rfl)) ?_; (with_reducible refine (real_ToInt.calls t483 t484 true _ A7.out).mono ?_); rintro e w' ⟨rfl, ⟨nd, rfl⟩⟩; refine ⟨_, rfl, ?_⟩) | (go_at_call 35; (with_reducible refine (real_FromInt.calls (wrap64 (Int.tdiv (wrap64 ((wrap64 (Int.tmod a0 4503599627370496)) + 1)) (wrap64 ((wrap64 (Int.tmod a1 4503599627370496)) + 1)))) t486 _ A11.out).mono ?_); rintro e w' ⟨rfl, ⟨nd, rfl⟩⟩) | (go_at_call 39; (with_reducible refine (portagelaw03_awake.calls k  t487 _ A13.out).mono ?_); rintro e w' ⟨rfl, ⟨nd, rfl⟩⟩))
          go_ret
          exact ⟨by first | rfl | (simp; done) | (simp [*]; done), by repeat (first | exact Drawn0.refl _ | apply Drawn0.step)⟩
        · rw [if_neg c12] at H
          have c12b0 : (t483 == t486) = false := beq_eq_false_iff_ne.mpr c12
          have c12b1 : (t483 != t486) = true := bne_iff_ne.mpr c12
          obtain rfl := Option.some.inj H
          go_enter Try.func47, Try.ntmps47
          go_wp2_with (first | ((with_reducible refine gate_callee (f := 35) rfl ?_); refine goesL_ (some 19) rfl rfl Try.func35 (by kernel_rfl) rfl #[.int .i64 (wrap64 ((wrap64 (Int.tmod a0 4503599627370496)) + 1))] rfl (by (try simp only [List.map_toArray, List.map_cons, List.map_nil]); first | done | rfl | (simp only [List.length_drop, List.length_take]; rfl)) ?_; (with_reducible refine (real_FromInt.calls (wrap64 ((wrap64 (Int.tmod a0 4503599627370496)) + 1)) t480 _ A3.out).mono ?_); rintro e w' ⟨rfl, ⟨nd, rfl⟩⟩; refine ⟨_, rfl, ?_⟩) | ((with_reducible refine gate_callee (f := 35) rfl ?_); refine goesL_ (some 21) rfl rfl Try.func35 (by kernel_rfl) rfl #[.int .i64 (wrap64 ((wrap64 (Int.tmod a1 4503599627370496)) + 1))] rfl (by (try simp only [List.map_toArray, List.map_cons, List.map_nil]); first | done | rfl | (simp only [List.length_drop, List.length_take]; rfl)) ?_; (with_reducible refine (real_FromInt.calls (wrap64 ((wrap64 (Int.tmod a1 4503599627370496)) + 1)) t481 _ A4.out).mono ?_); rintro e w' ⟨rfl, ⟨nd, rfl⟩⟩; refine ⟨_, rfl, ?_⟩) | ((with_reducible refine gate_callee (f := 30) rfl ?_); refine goesL_ (some 22) rfl rfl Try.func30 (by kernel_rfl) rfl #[.int .u64 t480, .int .u64 t481] rfl (by (try simp only [List.map_toArray, List.map_cons, List.map_nil]); first | done | rfl | (simp only [List.length_drop, List.length_take]; rfl)) ?_; (with_reducible refine (real_Div.calls t480 t481 t482 _ A5.out).mono ?_); rintro e w' ⟨rfl, ⟨nd, rfl⟩⟩; refine ⟨_, rfl, ?_⟩) | ((with_reducible refine gate_callee (f := 46) rfl ?_); refine goesL_ (some 23) rfl rfl Try.func46 (by kernel_rfl) rfl #[.int .u64 t482] rfl (by (try simp only [List.map_toArray, List.map_cons, List.map_nil]); first | done | rfl | (simp only [List.length_drop, List.length_take]; rfl)) ?_; (with_reducible refine (real_Floor.calls t482 t483 _ A6.out).mono ?_); rintro e w' ⟨rfl, ⟨nd, rfl⟩⟩; refine ⟨_, rfl, ?_⟩) | ((with_reducible refine gate_callee (f := 34) rfl ?_); refine goesL_ (some 26) rfl rfl Try.func34 (by kernel_rfl) rfl #[.int .u64 t483] rfl (by (try simp only [List.map_toArray, List.map_cons, List.map_nil]); first | done | rfl | (simp only [List.length_drop, List.length_take]; rfl)) ?_; (with_reducible refine (real_ToInt.calls t483 t484 true _ A7.out).mono ?_); rintro e w' ⟨rfl, ⟨nd, rfl⟩⟩; refine ⟨_, rfl, ?_⟩) | (go_at_call 35; (with_reducible refine (real_FromInt.calls (wrap64 (Int.tdiv (wrap64 ((wrap64 (Int.tmod a0 4503599627370496)) + 1)) (wrap64 ((wrap64 (Int.tmod a1 4503599627370496)) + 1)))) t486 _ A11.out).mono ?_); rintro e w' ⟨rfl, ⟨nd, rfl⟩⟩))
          go_ret
          exact ⟨by first | rfl | (simp; done) | (simp [*]; done), by repeat (first | exact Drawn0.refl _ | apply Drawn0.step)⟩
      · rw [if_neg c10] at H
        have c10b0 : (t484 == (wrap64 (Int.tdiv (wrap64 ((wrap64 (Int.tmod a0 4503599627370496)) + 1)) (wrap64 ((wrap64 (Int.tmod a1 4503599627370496)) + 1))))) = false := beq_eq_false_iff_ne.mpr c10
        have c10b1 : (t484 != (wrap64 (Int.tdiv (wrap64 ((wrap64 (Int.tmod a0 4503599627370496)) + 1)) (wrap64 ((wrap64 (Int.tmod a1 4503599627370496)) + 1))))) = true := bne_iff_ne.mpr c10
        obtain rfl := Option.some.inj H
        go_enter Try.func47, Try.ntmps47
        go_wp2_with (first | ((with_reducible refine gate_callee (f := 35) rfl ?_); refine goesL_ (some 19) rfl rfl Try.func35 (by kernel_rfl) rfl #[.int .i64 (wrap64 ((wrap64 (Int.tmod a0 4503599627370496)) + 1))] rfl (by (try simp only [List.map_toArray, List.map_cons, List.map_nil]); first | done | rfl | (simp only [List.length_drop, List.length_take]; rfl)) ?_; (with_reducible refine (real_FromInt.calls (wrap64 ((wrap64 (Int.tmod a0 4503599627370496)) + 1)) t480 _ A3.out).mono ?_); rintro e w' ⟨rfl, ⟨nd, rfl⟩⟩; refine ⟨_, rfl, ?_⟩) | ((with_reducible refine gate_callee (f := 35) rfl ?_); refine goesL_ (some 21) rfl rfl Try.func35 (by kernel_rfl) rfl #[.int .i64 (wrap64 ((wrap64 (Int.tmod a1 4503599627370496)) + 1))] rfl (by (try simp only [List.map_toArray, List.map_cons, List.map_nil]); first | done | rfl | (simp only [List.length_drop, List.length_take]; rfl)) ?_; (with_reducible refine (real_FromInt.calls (wrap64 ((wrap64 (Int.tmod a1 4503599627370496)) + 1)) t481 _ A4.out).mono ?_); rintro e w' ⟨rfl, ⟨nd, rfl⟩⟩; refine ⟨_, rfl, ?_⟩) | ((with_reducible refine gate_callee (f := 30) rfl ?_); refine goesL_ (some 22) rfl rfl Try.func30 (by kernel_rfl) rfl #[.int .u64 t480, .int .u64 t481] rfl (by (try simp only [List.map_toArray, List.map_cons, List.map_nil]); first | done | rfl | (simp only [List.length_drop, List.length_take]; rfl)) ?_; (with_reducible refine (real_Div.calls t480 t481 t482 _ A5.out).mono ?_); rintro e w' ⟨rfl, ⟨nd, rfl⟩⟩; refine ⟨_, rfl, ?_⟩) | ((with_reducible refine gate_callee (f := 46) rfl ?_); refine goesL_ (some 23) rfl rfl Try.func46 (by kernel_rfl) rfl #[.int .u64 t482] rfl (by (try simp only [List.map_toArray, List.map_cons, List.map_nil]); first | done | rfl | (simp only [List.length_drop, List.length_take]; rfl)) ?_; (with_reducible refine (real_Floor.calls t482 t483 _ A6.out).mono ?_); rintro e w' ⟨rfl, ⟨nd, rfl⟩⟩; refine ⟨_, rfl, ?_⟩) | ((with_reducible refine gate_callee (f := 34) rfl ?_); refine goesL_ (some 26) rfl rfl Try.func34 (by kernel_rfl) rfl #[.int .u64 t483] rfl (by (try simp only [List.map_toArray, List.map_cons, List.map_nil]); first | done | rfl | (simp only [List.length_drop, List.length_take]; rfl)) ?_; (with_reducible refine (real_ToInt.calls t483 t484 true _ A7.out).mono ?_); rintro e w' ⟨rfl, ⟨nd, rfl⟩⟩; refine ⟨_, rfl, ?_⟩))
        go_ret
        exact ⟨by first | rfl | (simp; done) | (simp [*]; done), by repeat (first | exact Drawn0.refl _ | apply Drawn0.step)⟩
  · replace c8 := Bool.eq_false_iff.mpr c8
    subst c8
    have H1 : (some false) = some r := by rw [if_neg (show ¬ (false = true) by decide)] at H; exact H
    clear H
    have H := H1
    clear H1
    obtain rfl := Option.some.inj H
    go_enter Try.func47, Try.ntmps47
    go_wp2_with (first | ((with_reducible refine gate_callee (f := 35) rfl ?_); refine goesL_ (some 19) rfl rfl Try.func35 (by kernel_rfl) rfl #[.int .i64 (wrap64 ((wrap64 (Int.tmod a0 4503599627370496)) + 1))] rfl (by (try simp only [List.map_toArray, List.map_cons, List.map_nil]); first | done | rfl | (simp only [List.length_drop, List.length_take]; rfl)) ?_; (with_reducible refine (real_FromInt.calls (wrap64 ((wrap64 (Int.tmod a0 4503599627370496)) + 1)) t480 _ A3.out).mono ?_); rintro e w' ⟨rfl, ⟨nd, rfl⟩⟩; refine ⟨_, rfl, ?_⟩) | ((with_reducible refine gate_callee (f := 35) rfl ?_); refine goesL_ (some 21) rfl rfl Try.func35 (by kernel_rfl) rfl #[.int .i64 (wrap64 ((wrap64 (Int.tmod a1 4503599627370496)) + 1))] rfl (by (try simp only [List.map_toArray, List.map_cons, List.map_nil]); first | done | rfl | (simp only [List.length_drop, List.length_take]; rfl)) ?_; (with_reducible refine (real_FromInt.calls (wrap64 ((wrap64 (Int.tmod a1 4503599627370496)) + 1)) t481 _ A4.out).mono ?_); rintro e w' ⟨rfl, ⟨nd, rfl⟩⟩; refine ⟨_, rfl, ?_⟩) | ((with_reducible refine gate_callee (f := 30) rfl ?_); refine goesL_ (some 22) rfl rfl Try.func30 (by kernel_rfl) rfl #[.int .u64 t480, .int .u64 t481] rfl (by (try simp only [List.map_toArray, List.map_cons, List.map_nil]); first | done | rfl | (simp only [List.length_drop, List.length_take]; rfl)) ?_; (with_reducible refine (real_Div.calls t480 t481 t482 _ A5.out).mono ?_); rintro e w' ⟨rfl, ⟨nd, rfl⟩⟩; refine ⟨_, rfl, ?_⟩) | ((with_reducible refine gate_callee (f := 46) rfl ?_); refine goesL_ (some 23) rfl rfl Try.func46 (by kernel_rfl) rfl #[.int .u64 t482] rfl (by (try simp only [List.map_toArray, List.map_cons, List.map_nil]); first | done | rfl | (simp only [List.length_drop, List.length_take]; rfl)) ?_; (with_reducible refine (real_Floor.calls t482 t483 _ A6.out).mono ?_); rintro e w' ⟨rfl, ⟨nd, rfl⟩⟩; refine ⟨_, rfl, ?_⟩) | ((with_reducible refine gate_callee (f := 34) rfl ?_); refine goesL_ (some 26) rfl rfl Try.func34 (by kernel_rfl) rfl #[.int .u64 t483] rfl (by (try simp only [List.map_toArray, List.map_cons, List.map_nil]); first | done | rfl | (simp only [List.length_drop, List.length_take]; rfl)) ?_; (with_reducible refine (real_ToInt.calls t483 t484 false _ A7.out).mono ?_); rintro e w' ⟨rfl, ⟨nd, rfl⟩⟩; refine ⟨_, rfl, ?_⟩))
    go_ret
    exact ⟨by first | rfl | (simp; done) | (simp [*]; done), by repeat (first | exact Drawn0.refl _ | apply Drawn0.step)⟩

end Go.Proofs.Ytapgnackoclbeaa.PReal
