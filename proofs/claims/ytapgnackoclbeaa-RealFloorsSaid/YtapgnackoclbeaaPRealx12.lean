-- written by a program of this session (leafprint.py) over the translation; Lean checks it
import Derived.Test.YtapgnackoclbeaaPRealx0
import Derived.Test.YtapgnackoclbeaaPRealx9
import Derived.Test.YtapgnackoclbeaaPRealx11
namespace Go.Proofs.Ytapgnackoclbeaa.PReal
open Go.RowKit Go.Proofs.YtapgnackoclbeaaW.PrintWords Go.Proofs.YtapgnackoclbeaaW.PrintLast Go.Proofs.YtapgnackoclbeaaW.PrintMore
attribute [local go_sem] max2_int min2_int max_two min_two max_three min_three max_four min_four   -- for this text's walks alone
set_option linter.unusedVariables false
set_option linter.unusedSimpArgs false

/-! ### portagelaw03_RealWhole: function 15 -/
def portagelaw03_RealWhole.j0 : Nat → Int → Int → Bool → Option (Bool)
  | 0, _, _, _ => none
  | k + 1, x0, x1, x57 => if x57 = true then (some false) else ((real_FromInt.f (x0 / 137438953472)).bind fun t497 => ((real_FromInt.f (x1 / 137438953472)).bind fun t498 => ((real_Mul.f t497 t498).bind fun t499 => (if (wrap64 ((x0 / 137438953472) * (x1 / 137438953472))) = 0 then (if (Go.bits .and .u64 t499 9223372036854775807) = 0 then ((portagelaw03_awake.f k).bind fun t500 => (some t500)) else (some false)) else ((real_FromInt.f (wrap64 ((x0 / 137438953472) * (x1 / 137438953472)))).bind fun t501 => (if t499 = t501 then ((portagelaw03_awake.f k).bind fun t502 => (some t502)) else (some false)))))))
def portagelaw03_RealWhole.f (k : Nat) (a0 : Int) (a1 : Int) : Option (Bool) := (portagelaw03_quotients.f k (IntKind.u64.wrap (a0)) (IntKind.u64.wrap (a1))).bind fun t488 => (if t488 = true then ((real_FromInt.f (a0 / 2048)).bind fun t489 => ((real_FromInt.f (a1 / 2048)).bind fun t490 => ((real_ToInt.f t489).bind fun bt491 => (if bt491.2 = true then (if bt491.1 = (a0 / 2048) then ((real_Add.f t489 t490).bind fun t493 => ((real_FromInt.f (wrap64 ((a0 / 2048) + (a1 / 2048)))).bind fun t494 => (if t493 = t494 then ((real_Sub.f t489 t490).bind fun t495 => ((real_FromInt.f (wrap64 ((a0 / 2048) - (a1 / 2048)))).bind fun t496 => (portagelaw03_RealWhole.j0 k a0 a1 (t495 != t496)))) else (portagelaw03_RealWhole.j0 k a0 a1 true)))) else (portagelaw03_RealWhole.j0 k a0 a1 true)) else (portagelaw03_RealWhole.j0 k a0 a1 true))))) else (some false))
theorem portagelaw03_RealWhole.mono_l : ∀ k, (∀ y0 y1 y2, LeO (portagelaw03_RealWhole.j0 k y0 y1 y2) (portagelaw03_RealWhole.j0 (k + 1) y0 y1 y2))
  | 0 => fun _ _ _ r h => by simp [portagelaw03_RealWhole.j0] at h
  | k + 1 => by
    have ih0 := portagelaw03_RealWhole.mono_l k
    · intro y0 y1 y2
      unfold portagelaw03_RealWhole.j0
      repeat' first
      | (with_reducible exact ih0 _ _ _)
      | (with_reducible exact portagelaw03_awake.mono _)
      | (with_reducible exact portagelaw03_quotients.mono _ _ _)
      | (with_reducible exact LeO.refl _)
      | (with_reducible exact LeO.none _)
      | (with_reducible refine LeO.ite ?_ ?_)
      | (with_reducible refine LeO.bind ?_ (fun _ => ?_))
      | exact ih0 _ _ _
      | exact portagelaw03_awake.mono _
      | exact portagelaw03_quotients.mono _ _ _
      | exact LeO.none _
      | refine LeO.ite ?_ ?_
      | refine LeO.bind ?_ (fun _ => ?_)
theorem portagelaw03_RealWhole.mono : ∀ a0 a1 k, LeO (portagelaw03_RealWhole.f k a0 a1) (portagelaw03_RealWhole.f (k + 1) a0 a1) := by
  intro a0 a1 k
  have ih0 := portagelaw03_RealWhole.mono_l k
  unfold portagelaw03_RealWhole.f
  repeat' first
      | (with_reducible exact ih0 _ _ _)
      | (with_reducible exact portagelaw03_awake.mono _)
      | (with_reducible exact portagelaw03_quotients.mono _ _ _)
      | (with_reducible exact LeO.refl _)
      | (with_reducible exact LeO.none _)
      | (with_reducible refine LeO.ite ?_ ?_)
      | (with_reducible refine LeO.bind ?_ (fun _ => ?_))
      | exact ih0 _ _ _
      | exact portagelaw03_awake.mono _
      | exact portagelaw03_quotients.mono _ _ _
      | exact LeO.none _
      | refine LeO.ite ?_ ?_
      | refine LeO.bind ?_ (fun _ => ?_)
set_option maxHeartbeats 8000000 in
set_option maxRecDepth 100000 in
theorem portagelaw03_RealWhole.calls (k : Nat) (a0 : Int) (a1 : Int) (r : Bool) (w : World) (h : portagelaw03_RealWhole.f k a0 a1 = some r) :
    Calls Try.prog 15 #[.int .i64 a0, .int .i64 a1] w fun e w' => e = .returned (.bool r) ∧ Drawn0 w w' := by
  have H : ((portagelaw03_quotients.f k (IntKind.u64.wrap (a0)) (IntKind.u64.wrap (a1))).bind fun t488 => (if t488 = true then ((real_FromInt.f (a0 / 2048)).bind fun t489 => ((real_FromInt.f (a1 / 2048)).bind fun t490 => ((real_ToInt.f t489).bind fun bt491 => (if bt491.2 = true then (if bt491.1 = (a0 / 2048) then ((real_Add.f t489 t490).bind fun t493 => ((real_FromInt.f (wrap64 ((a0 / 2048) + (a1 / 2048)))).bind fun t494 => (if t493 = t494 then ((real_Sub.f t489 t490).bind fun t495 => ((real_FromInt.f (wrap64 ((a0 / 2048) - (a1 / 2048)))).bind fun t496 => (portagelaw03_RealWhole.j0 k a0 a1 (t495 != t496)))) else (portagelaw03_RealWhole.j0 k a0 a1 true)))) else (portagelaw03_RealWhole.j0 k a0 a1 true)) else (portagelaw03_RealWhole.j0 k a0 a1 true))))) else (some false))) = some r := h
  clear h
  replace H := Option.bind_eq_some_iff.mp H
  obtain ⟨t488, A30, H⟩ := H
  replace H : (if t488 = true then ((real_FromInt.f (a0 / 2048)).bind fun t489 => ((real_FromInt.f (a1 / 2048)).bind fun t490 => ((real_ToInt.f t489).bind fun bt491 => (if bt491.2 = true then (if bt491.1 = (a0 / 2048) then ((real_Add.f t489 t490).bind fun t493 => ((real_FromInt.f (wrap64 ((a0 / 2048) + (a1 / 2048)))).bind fun t494 => (if t493 = t494 then ((real_Sub.f t489 t490).bind fun t495 => ((real_FromInt.f (wrap64 ((a0 / 2048) - (a1 / 2048)))).bind fun t496 => (portagelaw03_RealWhole.j0 k a0 a1 (t495 != t496)))) else (portagelaw03_RealWhole.j0 k a0 a1 true)))) else (portagelaw03_RealWhole.j0 k a0 a1 true)) else (portagelaw03_RealWhole.j0 k a0 a1 true))))) else (some false)) = some r := H
  have A3 := Aside0.mk A30
  clear A30
  by_cases c4 : t488 = true
  · subst c4
    have H1 : ((real_FromInt.f (a0 / 2048)).bind fun t489 => ((real_FromInt.f (a1 / 2048)).bind fun t490 => ((real_ToInt.f t489).bind fun bt491 => (if bt491.2 = true then (if bt491.1 = (a0 / 2048) then ((real_Add.f t489 t490).bind fun t493 => ((real_FromInt.f (wrap64 ((a0 / 2048) + (a1 / 2048)))).bind fun t494 => (if t493 = t494 then ((real_Sub.f t489 t490).bind fun t495 => ((real_FromInt.f (wrap64 ((a0 / 2048) - (a1 / 2048)))).bind fun t496 => (portagelaw03_RealWhole.j0 k a0 a1 (t495 != t496)))) else (portagelaw03_RealWhole.j0 k a0 a1 true)))) else (portagelaw03_RealWhole.j0 k a0 a1 true)) else (portagelaw03_RealWhole.j0 k a0 a1 true))))) = some r := by rw [if_pos rfl] at H; exact H
    clear H
    have H := H1
    clear H1
    replace H := Option.bind_eq_some_iff.mp H
    obtain ⟨t489, A50, H⟩ := H
    replace H : ((real_FromInt.f (a1 / 2048)).bind fun t490 => ((real_ToInt.f t489).bind fun bt491 => (if bt491.2 = true then (if bt491.1 = (a0 / 2048) then ((real_Add.f t489 t490).bind fun t493 => ((real_FromInt.f (wrap64 ((a0 / 2048) + (a1 / 2048)))).bind fun t494 => (if t493 = t494 then ((real_Sub.f t489 t490).bind fun t495 => ((real_FromInt.f (wrap64 ((a0 / 2048) - (a1 / 2048)))).bind fun t496 => (portagelaw03_RealWhole.j0 k a0 a1 (t495 != t496)))) else (portagelaw03_RealWhole.j0 k a0 a1 true)))) else (portagelaw03_RealWhole.j0 k a0 a1 true)) else (portagelaw03_RealWhole.j0 k a0 a1 true)))) = some r := H
    have A5 := Aside0.mk A50
    clear A50
    replace H := Option.bind_eq_some_iff.mp H
    obtain ⟨t490, A60, H⟩ := H
    replace H : ((real_ToInt.f t489).bind fun bt491 => (if bt491.2 = true then (if bt491.1 = (a0 / 2048) then ((real_Add.f t489 t490).bind fun t493 => ((real_FromInt.f (wrap64 ((a0 / 2048) + (a1 / 2048)))).bind fun t494 => (if t493 = t494 then ((real_Sub.f t489 t490).bind fun t495 => ((real_FromInt.f (wrap64 ((a0 / 2048) - (a1 / 2048)))).bind fun t496 => (portagelaw03_RealWhole.j0 k a0 a1 (t495 != t496)))) else (portagelaw03_RealWhole.j0 k a0 a1 true)))) else (portagelaw03_RealWhole.j0 k a0 a1 true)) else (portagelaw03_RealWhole.j0 k a0 a1 true))) = some r := H
    have A6 := Aside0.mk A60
    clear A60
    replace H := Option.bind_eq_some_iff.mp H
    obtain ⟨⟨t491, t492⟩, A70, H⟩ := H
    replace H : (if t492 = true then (if t491 = (a0 / 2048) then ((real_Add.f t489 t490).bind fun t493 => ((real_FromInt.f (wrap64 ((a0 / 2048) + (a1 / 2048)))).bind fun t494 => (if t493 = t494 then ((real_Sub.f t489 t490).bind fun t495 => ((real_FromInt.f (wrap64 ((a0 / 2048) - (a1 / 2048)))).bind fun t496 => (portagelaw03_RealWhole.j0 k a0 a1 (t495 != t496)))) else (portagelaw03_RealWhole.j0 k a0 a1 true)))) else (portagelaw03_RealWhole.j0 k a0 a1 true)) else (portagelaw03_RealWhole.j0 k a0 a1 true)) = some r := H
    have A7 := Aside0.mk A70
    clear A70
    have HC8 := Aside0.mk H
    clear H
    go_enter Try.func15, Try.ntmps15
    go_upto_region 8 with (first | ((with_reducible refine gate_callee (f := 47) rfl ?_); refine goesL_ (some 16) rfl rfl Try.func47 (by kernel_rfl) rfl #[.int .u64 (IntKind.u64.wrap (a0)), .int .u64 (IntKind.u64.wrap (a1))] rfl (by (try simp only [List.map_toArray, List.map_cons, List.map_nil]); first | done | rfl | (simp only [List.length_drop, List.length_take]; rfl)) ?_; (with_reducible refine (portagelaw03_quotients.calls k (IntKind.u64.wrap (a0)) (IntKind.u64.wrap (a1)) true _ A3.out).mono ?_); rintro e w' ⟨rfl, ⟨nd, rfl⟩⟩; refine ⟨_, rfl, ?_⟩) | ((with_reducible refine gate_callee (f := 35) rfl ?_); refine goesL_ (some 23) rfl rfl Try.func35 (by kernel_rfl) rfl #[.int .i64 (a0 / 2048)] rfl (by (try simp only [List.map_toArray, List.map_cons, List.map_nil]); first | done | rfl | (simp only [List.length_drop, List.length_take]; rfl)) ?_; (with_reducible refine (real_FromInt.calls (a0 / 2048) t489 _ A5.out).mono ?_); rintro e w' ⟨rfl, ⟨nd, rfl⟩⟩; refine ⟨_, rfl, ?_⟩) | ((with_reducible refine gate_callee (f := 35) rfl ?_); refine goesL_ (some 25) rfl rfl Try.func35 (by kernel_rfl) rfl #[.int .i64 (a1 / 2048)] rfl (by (try simp only [List.map_toArray, List.map_cons, List.map_nil]); first | done | rfl | (simp only [List.length_drop, List.length_take]; rfl)) ?_; (with_reducible refine (real_FromInt.calls (a1 / 2048) t490 _ A6.out).mono ?_); rintro e w' ⟨rfl, ⟨nd, rfl⟩⟩; refine ⟨_, rfl, ?_⟩) | ((with_reducible refine gate_callee (f := 34) rfl ?_); refine goesL_ (some 28) rfl rfl Try.func34 (by kernel_rfl) rfl #[.int .u64 t489] rfl (by (try simp only [List.map_toArray, List.map_cons, List.map_nil]); first | done | rfl | (simp only [List.length_drop, List.length_take]; rfl)) ?_; (with_reducible refine (real_ToInt.calls t489 t491 t492 _ A7.out).mono ?_); rintro e w' ⟨rfl, ⟨nd, rfl⟩⟩; refine ⟨_, rfl, ?_⟩))
    (try simp only [Act.put, List.setIfInBounds_toArray, List.set_cons_zero, List.set_cons_succ])
    go_cut [57] (fun v57 wc => ∃ (kq : Nat) (x57_7 : Bool), v57 = .bool x57_7 ∧ Aside0 (portagelaw03_RealWhole.j0 kq a0 a1 x57_7 = some r) ∧ Aside0 (kq ≤ k) ∧ Drawn0 w wc)
    case first =>
      have H := HC8.out
      clear HC8
      by_cases c9 : t492 = true
      · subst c9
        have H1 : (if t491 = (a0 / 2048) then ((real_Add.f t489 t490).bind fun t493 => ((real_FromInt.f (wrap64 ((a0 / 2048) + (a1 / 2048)))).bind fun t494 => (if t493 = t494 then ((real_Sub.f t489 t490).bind fun t495 => ((real_FromInt.f (wrap64 ((a0 / 2048) - (a1 / 2048)))).bind fun t496 => (portagelaw03_RealWhole.j0 k a0 a1 (t495 != t496)))) else (portagelaw03_RealWhole.j0 k a0 a1 true)))) else (portagelaw03_RealWhole.j0 k a0 a1 true)) = some r := by rw [if_pos rfl] at H; exact H
        clear H
        have H := H1
        clear H1
        by_cases c10 : t491 = (a0 / 2048)
        · rw [if_pos c10] at H
          have c10b0 : (t491 == (a0 / 2048)) = true := beq_iff_eq.mpr c10
          have c10b1 : (t491 != (a0 / 2048)) = false := bne_eq_false_iff_eq.mpr c10
          clear c10
          (first | rw [c10b0] | (simp only [i64_w, i32_w]; rw [c10b0]) | skip)
          replace H := Option.bind_eq_some_iff.mp H
          obtain ⟨t493, A110, H⟩ := H
          replace H : ((real_FromInt.f (wrap64 ((a0 / 2048) + (a1 / 2048)))).bind fun t494 => (if t493 = t494 then ((real_Sub.f t489 t490).bind fun t495 => ((real_FromInt.f (wrap64 ((a0 / 2048) - (a1 / 2048)))).bind fun t496 => (portagelaw03_RealWhole.j0 k a0 a1 (t495 != t496)))) else (portagelaw03_RealWhole.j0 k a0 a1 true))) = some r := H
          have A11 := Aside0.mk A110
          clear A110
          replace H := Option.bind_eq_some_iff.mp H
          obtain ⟨t494, A120, H⟩ := H
          replace H : (if t493 = t494 then ((real_Sub.f t489 t490).bind fun t495 => ((real_FromInt.f (wrap64 ((a0 / 2048) - (a1 / 2048)))).bind fun t496 => (portagelaw03_RealWhole.j0 k a0 a1 (t495 != t496)))) else (portagelaw03_RealWhole.j0 k a0 a1 true)) = some r := H
          have A12 := Aside0.mk A120
          clear A120
          by_cases c13 : t493 = t494
          · rw [if_pos c13] at H
            have c13b0 : (t493 == t494) = true := beq_iff_eq.mpr c13
            have c13b1 : (t493 != t494) = false := bne_eq_false_iff_eq.mpr c13
            clear c13
            replace H := Option.bind_eq_some_iff.mp H
            obtain ⟨t495, A140, H⟩ := H
            replace H : ((real_FromInt.f (wrap64 ((a0 / 2048) - (a1 / 2048)))).bind fun t496 => (portagelaw03_RealWhole.j0 k a0 a1 (t495 != t496))) = some r := H
            have A14 := Aside0.mk A140
            clear A140
            replace H := Option.bind_eq_some_iff.mp H
            obtain ⟨t496, A150, H⟩ := H
            replace H : (portagelaw03_RealWhole.j0 k a0 a1 (t495 != t496)) = some r := H
            have A15 := Aside0.mk A150
            clear A150
            have H' := Aside0.mk H
            clear H
            go_wp2_with (first | (go_at_call 24; (with_reducible refine (real_Add.calls t489 t490 t493 _ A11.out).mono ?_); rintro e w' ⟨rfl, ⟨nd, rfl⟩⟩) | (go_at_call 35; (with_reducible refine (real_FromInt.calls (wrap64 ((a0 / 2048) + (a1 / 2048))) t494 _ A12.out).mono ?_); rintro e w' ⟨rfl, ⟨nd, rfl⟩⟩) | (go_at_call 26; (with_reducible refine (real_Sub.calls t489 t490 t495 _ A14.out).mono ?_); rintro e w' ⟨rfl, ⟨nd, rfl⟩⟩) | (go_at_call 35; (with_reducible refine (real_FromInt.calls (wrap64 ((a0 / 2048) - (a1 / 2048))) t496 _ A15.out).mono ?_); rintro e w' ⟨rfl, ⟨nd, rfl⟩⟩))
            go_meet
            case rel => exact ⟨_, ((t495 != t496)), (by first | rfl | (simp; done) | (simp [*]; done)), H', ⟨by first | omega | exact Nat.le_refl _⟩, by repeat (first | exact Drawn0.refl _ | apply Drawn0.step)⟩
          · rw [if_neg c13] at H
            have c13b0 : (t493 == t494) = false := beq_eq_false_iff_ne.mpr c13
            have c13b1 : (t493 != t494) = true := bne_iff_ne.mpr c13
            have H' := Aside0.mk H
            clear H
            go_wp2_with (first | (go_at_call 24; (with_reducible refine (real_Add.calls t489 t490 t493 _ A11.out).mono ?_); rintro e w' ⟨rfl, ⟨nd, rfl⟩⟩) | (go_at_call 35; (with_reducible refine (real_FromInt.calls (wrap64 ((a0 / 2048) + (a1 / 2048))) t494 _ A12.out).mono ?_); rintro e w' ⟨rfl, ⟨nd, rfl⟩⟩))
            go_meet
            case rel => exact ⟨_, (true), (by first | rfl | (simp; done) | (simp [*]; done)), H', ⟨by first | omega | exact Nat.le_refl _⟩, by repeat (first | exact Drawn0.refl _ | apply Drawn0.step)⟩
        · rw [if_neg c10] at H
          have c10b0 : (t491 == (a0 / 2048)) = false := beq_eq_false_iff_ne.mpr c10
          have c10b1 : (t491 != (a0 / 2048)) = true := bne_iff_ne.mpr c10
          (first | rw [c10b0] | (simp only [i64_w, i32_w]; rw [c10b0]) | skip)
          have H' := Aside0.mk H
          clear H
          go_wp2
          go_meet
          case rel => exact ⟨_, (true), (by first | rfl | (simp; done) | (simp [*]; done)), H', ⟨by first | omega | exact Nat.le_refl _⟩, by repeat (first | exact Drawn0.refl _ | apply Drawn0.step)⟩
      · replace c9 := Bool.eq_false_iff.mpr c9
        subst c9
        have H1 : (portagelaw03_RealWhole.j0 k a0 a1 true) = some r := by rw [if_neg (show ¬ (false = true) by decide)] at H; exact H
        clear H
        have H := H1
        clear H1
        have H' := Aside0.mk H
        clear H
        go_wp2
        go_meet
        case rel => exact ⟨_, (true), (by first | rfl | (simp; done) | (simp [*]; done)), H', ⟨by first | omega | exact Nat.le_refl _⟩, by repeat (first | exact Drawn0.refl _ | apply Drawn0.step)⟩
    case rest =>
      clear HC8
      try clear c1
      try clear p2
      try clear c3
      try clear c4
      try clear p6
      try clear c9
      try clear c10
      try clear c10b0
      try clear c10b1
      try clear c13
      try clear c13b0
      try clear c13b1
      try clear c15
      obtain ⟨kq, x57_7, rfl, HA, HJ7, ⟨mc7, rfl⟩⟩ := hcut
      cases kq with
      | zero => exact absurd HA.out (by simp [portagelaw03_RealWhole.j0])
      | succ kj7 =>
        have H := HA.out
        clear HA
        simp only [portagelaw03_RealWhole.j0] at H
        by_cases c16 : x57_7 = true
        · subst c16
          have H1 : (some false) = some r := by rw [if_pos rfl] at H; exact H
          clear H
          have H := H1
          clear H1
          obtain rfl := Option.some.inj H
          go_wp2
          go_ret
          exact ⟨by first | rfl | (simp; done) | (simp [*]; done), by repeat (first | exact Drawn0.refl _ | apply Drawn0.step)⟩
        · replace c16 := Bool.eq_false_iff.mpr c16
          subst c16
          have H1 : ((real_FromInt.f (a0 / 137438953472)).bind fun t497 => ((real_FromInt.f (a1 / 137438953472)).bind fun t498 => ((real_Mul.f t497 t498).bind fun t499 => (if (wrap64 ((a0 / 137438953472) * (a1 / 137438953472))) = 0 then (if (Go.bits .and .u64 t499 9223372036854775807) = 0 then ((portagelaw03_awake.f kj7).bind fun t500 => (some t500)) else (some false)) else ((real_FromInt.f (wrap64 ((a0 / 137438953472) * (a1 / 137438953472)))).bind fun t501 => (if t499 = t501 then ((portagelaw03_awake.f kj7).bind fun t502 => (some t502)) else (some false))))))) = some r := by rw [if_neg (show ¬ (false = true) by decide)] at H; exact H
          clear H
          have H := H1
          clear H1
          replace H := Option.bind_eq_some_iff.mp H
          obtain ⟨t497, A170, H⟩ := H
          replace H : ((real_FromInt.f (a1 / 137438953472)).bind fun t498 => ((real_Mul.f t497 t498).bind fun t499 => (if (wrap64 ((a0 / 137438953472) * (a1 / 137438953472))) = 0 then (if (Go.bits .and .u64 t499 9223372036854775807) = 0 then ((portagelaw03_awake.f kj7).bind fun t500 => (some t500)) else (some false)) else ((real_FromInt.f (wrap64 ((a0 / 137438953472) * (a1 / 137438953472)))).bind fun t501 => (if t499 = t501 then ((portagelaw03_awake.f kj7).bind fun t502 => (some t502)) else (some false)))))) = some r := H
          have A17 := Aside0.mk A170
          clear A170
          replace H := Option.bind_eq_some_iff.mp H
          obtain ⟨t498, A180, H⟩ := H
          replace H : ((real_Mul.f t497 t498).bind fun t499 => (if (wrap64 ((a0 / 137438953472) * (a1 / 137438953472))) = 0 then (if (Go.bits .and .u64 t499 9223372036854775807) = 0 then ((portagelaw03_awake.f kj7).bind fun t500 => (some t500)) else (some false)) else ((real_FromInt.f (wrap64 ((a0 / 137438953472) * (a1 / 137438953472)))).bind fun t501 => (if t499 = t501 then ((portagelaw03_awake.f kj7).bind fun t502 => (some t502)) else (some false))))) = some r := H
          have A18 := Aside0.mk A180
          clear A180
          replace H := Option.bind_eq_some_iff.mp H
          obtain ⟨t499, A190, H⟩ := H
          replace H : (if (wrap64 ((a0 / 137438953472) * (a1 / 137438953472))) = 0 then (if (Go.bits .and .u64 t499 9223372036854775807) = 0 then ((portagelaw03_awake.f kj7).bind fun t500 => (some t500)) else (some false)) else ((real_FromInt.f (wrap64 ((a0 / 137438953472) * (a1 / 137438953472)))).bind fun t501 => (if t499 = t501 then ((portagelaw03_awake.f kj7).bind fun t502 => (some t502)) else (some false)))) = some r := H
          have A19 := Aside0.mk A190
          clear A190
          by_cases c20 : (wrap64 ((a0 / 137438953472) * (a1 / 137438953472))) = 0
          · rw [if_pos c20] at H
            have c20b0 : ((wrap64 ((a0 / 137438953472) * (a1 / 137438953472))) == 0) = true := beq_iff_eq.mpr c20
            have c20b1 : ((wrap64 ((a0 / 137438953472) * (a1 / 137438953472))) != 0) = false := bne_eq_false_iff_eq.mpr c20
            clear c20
            by_cases c21 : (Go.bits .and .u64 t499 9223372036854775807) = 0
            · rw [if_pos c21] at H
              have c21b0 : ((Go.bits .and .u64 t499 9223372036854775807) == 0) = true := beq_iff_eq.mpr c21
              have c21b1 : ((Go.bits .and .u64 t499 9223372036854775807) != 0) = false := bne_eq_false_iff_eq.mpr c21
              clear c21
              replace H := Option.bind_eq_some_iff.mp H
              obtain ⟨t500, A220, H⟩ := H
              replace H : (some t500) = some r := H
              have A22 := Aside0.mk A220
              clear A220
              obtain rfl := Option.some.inj H
              go_wp2_with (first | ((with_reducible refine gate_callee (f := 35) rfl ?_); refine goesL_ (some 63) rfl rfl Try.func35 (by kernel_rfl) rfl #[.int .i64 (a0 / 137438953472)] rfl (by (try simp only [List.map_toArray, List.map_cons, List.map_nil]); first | done | rfl | (simp only [List.length_drop, List.length_take]; rfl)) ?_; (with_reducible refine (real_FromInt.calls (a0 / 137438953472) t497 _ A17.out).mono ?_); rintro e w' ⟨rfl, ⟨nd, rfl⟩⟩; refine ⟨_, rfl, ?_⟩) | ((with_reducible refine gate_callee (f := 35) rfl ?_); refine goesL_ (some 65) rfl rfl Try.func35 (by kernel_rfl) rfl #[.int .i64 (a1 / 137438953472)] rfl (by (try simp only [List.map_toArray, List.map_cons, List.map_nil]); first | done | rfl | (simp only [List.length_drop, List.length_take]; rfl)) ?_; (with_reducible refine (real_FromInt.calls (a1 / 137438953472) t498 _ A18.out).mono ?_); rintro e w' ⟨rfl, ⟨nd, rfl⟩⟩; refine ⟨_, rfl, ?_⟩) | ((with_reducible refine gate_callee (f := 28) rfl ?_); refine goesL_ (some 66) rfl rfl Try.func28 (by kernel_rfl) rfl #[.int .u64 t497, .int .u64 t498] rfl (by (try simp only [List.map_toArray, List.map_cons, List.map_nil]); first | done | rfl | (simp only [List.length_drop, List.length_take]; rfl)) ?_; (with_reducible refine (real_Mul.calls t497 t498 t499 _ A19.out).mono ?_); rintro e w' ⟨rfl, ⟨nd, rfl⟩⟩; refine ⟨_, rfl, ?_⟩) | (go_at_call 39; (with_reducible refine (portagelaw03_awake.calls kj7  t500 _ A22.out).mono ?_); rintro e w' ⟨rfl, ⟨nd, rfl⟩⟩))
              go_ret
              exact ⟨by first | rfl | (simp; done) | (simp [*]; done), by repeat (first | exact Drawn0.refl _ | apply Drawn0.step)⟩
            · rw [if_neg c21] at H
              have c21b0 : ((Go.bits .and .u64 t499 9223372036854775807) == 0) = false := beq_eq_false_iff_ne.mpr c21
              have c21b1 : ((Go.bits .and .u64 t499 9223372036854775807) != 0) = true := bne_iff_ne.mpr c21
              obtain rfl := Option.some.inj H
              go_wp2_with (first | ((with_reducible refine gate_callee (f := 35) rfl ?_); refine goesL_ (some 63) rfl rfl Try.func35 (by kernel_rfl) rfl #[.int .i64 (a0 / 137438953472)] rfl (by (try simp only [List.map_toArray, List.map_cons, List.map_nil]); first | done | rfl | (simp only [List.length_drop, List.length_take]; rfl)) ?_; (with_reducible refine (real_FromInt.calls (a0 / 137438953472) t497 _ A17.out).mono ?_); rintro e w' ⟨rfl, ⟨nd, rfl⟩⟩; refine ⟨_, rfl, ?_⟩) | ((with_reducible refine gate_callee (f := 35) rfl ?_); refine goesL_ (some 65) rfl rfl Try.func35 (by kernel_rfl) rfl #[.int .i64 (a1 / 137438953472)] rfl (by (try simp only [List.map_toArray, List.map_cons, List.map_nil]); first | done | rfl | (simp only [List.length_drop, List.length_take]; rfl)) ?_; (with_reducible refine (real_FromInt.calls (a1 / 137438953472) t498 _ A18.out).mono ?_); rintro e w' ⟨rfl, ⟨nd, rfl⟩⟩; refine ⟨_, rfl, ?_⟩) | ((with_reducible refine gate_callee (f := 28) rfl ?_); refine goesL_ (some 66) rfl rfl Try.func28 (by kernel_rfl) rfl #[.int .u64 t497, .int .u64 t498] rfl (by (try simp only [List.map_toArray, List.map_cons, List.map_nil]); first | done | rfl | (simp only [List.length_drop, List.length_take]; rfl)) ?_; (with_reducible refine (real_Mul.calls t497 t498 t499 _ A19.out).mono ?_); rintro e w' ⟨rfl, ⟨nd, rfl⟩⟩; refine ⟨_, rfl, ?_⟩))
              go_ret
              exact ⟨by first | rfl | (simp; done) | (simp [*]; done), by repeat (first | exact Drawn0.refl _ | apply Drawn0.step)⟩
          · rw [if_neg c20] at H
            have c20b0 : ((wrap64 ((a0 / 137438953472) * (a1 / 137438953472))) == 0) = false := beq_eq_false_iff_ne.mpr c20
            have c20b1 : ((wrap64 ((a0 / 137438953472) * (a1 / 137438953472))) != 0) = true := bne_iff_ne.mpr c20
            replace H := Option.bind_eq_some_iff.mp H
            obtain ⟨t501, A230, H⟩ := H
            replace H : (if t499 = t501 then ((portagelaw03_awake.f kj7).bind fun t502 => (some t502)) else (some false)) = some r := H
            have A23 := Aside0.mk A230
            clear A230
            by_cases c24 : t499 = t501
            · rw [if_pos c24] at H
              have c24b0 : (t499 == t501) = true := beq_iff_eq.mpr c24
              have c24b1 : (t499 != t501) = false := bne_eq_false_iff_eq.mpr c24
              clear c24
              replace H := Option.bind_eq_some_iff.mp H
              obtain ⟨t502, A250, H⟩ := H
              replace H : (some t502) = some r := H
              have A25 := Aside0.mk A250
              clear A250
              obtain rfl := Option.some.inj H
              go_wp2_with (first | ((with_reducible refine gate_callee (f := 35) rfl ?_); refine goesL_ (some 63) rfl rfl Try.func35 (by kernel_rfl) rfl #[.int .i64 (a0 / 137438953472)] rfl (by (try simp only [List.map_toArray, List.map_cons, List.map_nil]); first | done | rfl | (simp only [List.length_drop, List.length_take]; rfl)) ?_; (with_reducible refine (real_FromInt.calls (a0 / 137438953472) t497 _ A17.out).mono ?_); rintro e w' ⟨rfl, ⟨nd, rfl⟩⟩; refine ⟨_, rfl, ?_⟩) | ((with_reducible refine gate_callee (f := 35) rfl ?_); refine goesL_ (some 65) rfl rfl Try.func35 (by kernel_rfl) rfl #[.int .i64 (a1 / 137438953472)] rfl (by (try simp only [List.map_toArray, List.map_cons, List.map_nil]); first | done | rfl | (simp only [List.length_drop, List.length_take]; rfl)) ?_; (with_reducible refine (real_FromInt.calls (a1 / 137438953472) t498 _ A18.out).mono ?_); rintro e w' ⟨rfl, ⟨nd, rfl⟩⟩; refine ⟨_, rfl, ?_⟩) | ((with_reducible refine gate_callee (f := 28) rfl ?_); refine goesL_ (some 66) rfl rfl Try.func28 (by kernel_rfl) rfl #[.int .u64 t497, .int .u64 t498] rfl (by (try simp only [List.map_toArray, List.map_cons, List.map_nil]); first | done | rfl | (simp only [List.length_drop, List.length_take]; rfl)) ?_; (with_reducible refine (real_Mul.calls t497 t498 t499 _ A19.out).mono ?_); rintro e w' ⟨rfl, ⟨nd, rfl⟩⟩; refine ⟨_, rfl, ?_⟩) | ((with_reducible refine gate_callee (f := 35) rfl ?_); refine goesL_ (some 81) rfl rfl Try.func35 (by kernel_rfl) rfl #[.int .i64 (wrap64 ((a0 / 137438953472) * (a1 / 137438953472)))] rfl (by (try simp only [List.map_toArray, List.map_cons, List.map_nil]); first | done | rfl | (simp only [List.length_drop, List.length_take]; rfl)) ?_; (with_reducible refine (real_FromInt.calls (wrap64 ((a0 / 137438953472) * (a1 / 137438953472))) t501 _ A23.out).mono ?_); rintro e w' ⟨rfl, ⟨nd, rfl⟩⟩; refine ⟨_, rfl, ?_⟩) | (go_at_call 39; (with_reducible refine (portagelaw03_awake.calls kj7  t502 _ A25.out).mono ?_); rintro e w' ⟨rfl, ⟨nd, rfl⟩⟩))
              go_ret
              exact ⟨by first | rfl | (simp; done) | (simp [*]; done), by repeat (first | exact Drawn0.refl _ | apply Drawn0.step)⟩
            · rw [if_neg c24] at H
              have c24b0 : (t499 == t501) = false := beq_eq_false_iff_ne.mpr c24
              have c24b1 : (t499 != t501) = true := bne_iff_ne.mpr c24
              obtain rfl := Option.some.inj H
              go_wp2_with (first | ((with_reducible refine gate_callee (f := 35) rfl ?_); refine goesL_ (some 63) rfl rfl Try.func35 (by kernel_rfl) rfl #[.int .i64 (a0 / 137438953472)] rfl (by (try simp only [List.map_toArray, List.map_cons, List.map_nil]); first | done | rfl | (simp only [List.length_drop, List.length_take]; rfl)) ?_; (with_reducible refine (real_FromInt.calls (a0 / 137438953472) t497 _ A17.out).mono ?_); rintro e w' ⟨rfl, ⟨nd, rfl⟩⟩; refine ⟨_, rfl, ?_⟩) | ((with_reducible refine gate_callee (f := 35) rfl ?_); refine goesL_ (some 65) rfl rfl Try.func35 (by kernel_rfl) rfl #[.int .i64 (a1 / 137438953472)] rfl (by (try simp only [List.map_toArray, List.map_cons, List.map_nil]); first | done | rfl | (simp only [List.length_drop, List.length_take]; rfl)) ?_; (with_reducible refine (real_FromInt.calls (a1 / 137438953472) t498 _ A18.out).mono ?_); rintro e w' ⟨rfl, ⟨nd, rfl⟩⟩; refine ⟨_, rfl, ?_⟩) | ((with_reducible refine gate_callee (f := 28) rfl ?_); refine goesL_ (some 66) rfl rfl Try.func28 (by kernel_rfl) rfl #[.int .u64 t497, .int .u64 t498] rfl (by (try simp only [List.map_toArray, List.map_cons, List.map_nil]); first | done | rfl | (simp only [List.length_drop, List.length_take]; rfl)) ?_; (with_reducible refine (real_Mul.calls t497 t498 t499 _ A19.out).mono ?_); rintro e w' ⟨rfl, ⟨nd, rfl⟩⟩; refine ⟨_, rfl, ?_⟩) | ((with_reducible refine gate_callee (f := 35) rfl ?_); refine goesL_ (some 81) rfl rfl Try.func35 (by kernel_rfl) rfl #[.int .i64 (wrap64 ((a0 / 137438953472) * (a1 / 137438953472)))] rfl (by (try simp only [List.map_toArray, List.map_cons, List.map_nil]); first | done | rfl | (simp only [List.length_drop, List.length_take]; rfl)) ?_; (with_reducible refine (real_FromInt.calls (wrap64 ((a0 / 137438953472) * (a1 / 137438953472))) t501 _ A23.out).mono ?_); rintro e w' ⟨rfl, ⟨nd, rfl⟩⟩; refine ⟨_, rfl, ?_⟩))
              go_ret
              exact ⟨by first | rfl | (simp; done) | (simp [*]; done), by repeat (first | exact Drawn0.refl _ | apply Drawn0.step)⟩
  · replace c4 := Bool.eq_false_iff.mpr c4
    subst c4
    have H1 : (some false) = some r := by rw [if_neg (show ¬ (false = true) by decide)] at H; exact H
    clear H
    have H := H1
    clear H1
    obtain rfl := Option.some.inj H
    go_enter Try.func15, Try.ntmps15
    go_wp2_with (first | ((with_reducible refine gate_callee (f := 47) rfl ?_); refine goesL_ (some 16) rfl rfl Try.func47 (by kernel_rfl) rfl #[.int .u64 (IntKind.u64.wrap (a0)), .int .u64 (IntKind.u64.wrap (a1))] rfl (by (try simp only [List.map_toArray, List.map_cons, List.map_nil]); first | done | rfl | (simp only [List.length_drop, List.length_take]; rfl)) ?_; (with_reducible refine (portagelaw03_quotients.calls k (IntKind.u64.wrap (a0)) (IntKind.u64.wrap (a1)) false _ A3.out).mono ?_); rintro e w' ⟨rfl, ⟨nd, rfl⟩⟩; refine ⟨_, rfl, ?_⟩))
    go_ret
    exact ⟨by first | rfl | (simp; done) | (simp [*]; done), by repeat (first | exact Drawn0.refl _ | apply Drawn0.step)⟩

/-- THE ONE PURE STATEMENT of portagelaw03_RealWhole: yours. -/
def portagelaw03_RealWhole.Pure : Prop := ∀ (a0 : Int) (a1 : Int), (Lit.int .i64 a0).wf = true → (Lit.int .i64 a1).wf = true → ∃ k, portagelaw03_RealWhole.f k a0 a1 = some true
theorem portagelaw03_RealWhole.walk (P : portagelaw03_RealWhole.Pure) (a0 : Int) (a1 : Int) (w : World) (w0 : (Lit.int .i64 a0).wf = true) (w1 : (Lit.int .i64 a1).wf = true) :
    Calls Try.prog 15 #[.int .i64 a0, .int .i64 a1] w fun e w' => e = .returned (.bool true) ∧ Below w.heap.size w w' := by
  obtain ⟨k, h⟩ := P a0 a1 w0 w1
  refine (portagelaw03_RealWhole.calls k a0 a1 true w h).mono ?_
  rintro e w' ⟨rfl, hd⟩
  exact ⟨rfl, hd.below⟩

/-! ### portagelaw03_notBelow: function 44 -/
def portagelaw03_notBelow.f (a0 : Int) (a1 : Int) : Option (Bool) := (portagelaw03_isNaN.f a0).bind fun t503 => (if t503 = true then (some true) else ((portagelaw03_isNaN.f a1).bind fun t504 => (if t504 = true then (some true) else ((portagelaw03_key.f a0).bind fun t505 => ((portagelaw03_key.f a1).bind fun t506 => (some (decide (t505 ≤ t506))))))))
set_option maxHeartbeats 8000000 in
set_option maxRecDepth 100000 in
theorem portagelaw03_notBelow.calls (a0 : Int) (a1 : Int) (r : Bool) (w : World) (h : portagelaw03_notBelow.f a0 a1 = some r) :
    Calls Try.prog 44 #[.int .u64 a0, .int .u64 a1] w fun e w' => e = .returned (.bool r) ∧ Drawn0 w w' := by
  have H : ((portagelaw03_isNaN.f a0).bind fun t503 => (if t503 = true then (some true) else ((portagelaw03_isNaN.f a1).bind fun t504 => (if t504 = true then (some true) else ((portagelaw03_key.f a0).bind fun t505 => ((portagelaw03_key.f a1).bind fun t506 => (some (decide (t505 ≤ t506))))))))) = some r := h
  clear h
  replace H := Option.bind_eq_some_iff.mp H
  obtain ⟨t503, A30, H⟩ := H
  replace H : (if t503 = true then (some true) else ((portagelaw03_isNaN.f a1).bind fun t504 => (if t504 = true then (some true) else ((portagelaw03_key.f a0).bind fun t505 => ((portagelaw03_key.f a1).bind fun t506 => (some (decide (t505 ≤ t506)))))))) = some r := H
  have A3 := Aside0.mk A30
  clear A30
  by_cases c4 : t503 = true
  · subst c4
    have H1 : (some true) = some r := by rw [if_pos rfl] at H; exact H
    clear H
    have H := H1
    clear H1
    obtain rfl := Option.some.inj H
    go_enter Try.func44, Try.ntmps44
    go_wp2_with (first | ((with_reducible refine gate_callee (f := 38) rfl ?_); refine goesL_ (some 6) rfl rfl Try.func38 (by kernel_rfl) rfl #[.int .u64 a0] rfl (by (try simp only [List.map_toArray, List.map_cons, List.map_nil]); first | done | rfl | (simp only [List.length_drop, List.length_take]; rfl)) ?_; (with_reducible refine (portagelaw03_isNaN.calls a0 true _ A3.out).mono ?_); rintro e w' ⟨rfl, ⟨nd, rfl⟩⟩; refine ⟨_, rfl, ?_⟩))
    go_ret
    exact ⟨by first | rfl | (simp; done) | (simp [*]; done), by repeat (first | exact Drawn0.refl _ | apply Drawn0.step)⟩
  · replace c4 := Bool.eq_false_iff.mpr c4
    subst c4
    have H1 : ((portagelaw03_isNaN.f a1).bind fun t504 => (if t504 = true then (some true) else ((portagelaw03_key.f a0).bind fun t505 => ((portagelaw03_key.f a1).bind fun t506 => (some (decide (t505 ≤ t506))))))) = some r := by rw [if_neg (show ¬ (false = true) by decide)] at H; exact H
    clear H
    have H := H1
    clear H1
    replace H := Option.bind_eq_some_iff.mp H
    obtain ⟨t504, A50, H⟩ := H
    replace H : (if t504 = true then (some true) else ((portagelaw03_key.f a0).bind fun t505 => ((portagelaw03_key.f a1).bind fun t506 => (some (decide (t505 ≤ t506)))))) = some r := H
    have A5 := Aside0.mk A50
    clear A50
    by_cases c6 : t504 = true
    · subst c6
      have H1 : (some true) = some r := by rw [if_pos rfl] at H; exact H
      clear H
      have H := H1
      clear H1
      obtain rfl := Option.some.inj H
      go_enter Try.func44, Try.ntmps44
      go_wp2_with (first | ((with_reducible refine gate_callee (f := 38) rfl ?_); refine goesL_ (some 6) rfl rfl Try.func38 (by kernel_rfl) rfl #[.int .u64 a0] rfl (by (try simp only [List.map_toArray, List.map_cons, List.map_nil]); first | done | rfl | (simp only [List.length_drop, List.length_take]; rfl)) ?_; (with_reducible refine (portagelaw03_isNaN.calls a0 false _ A3.out).mono ?_); rintro e w' ⟨rfl, ⟨nd, rfl⟩⟩; refine ⟨_, rfl, ?_⟩) | (go_at_call 38; (with_reducible refine (portagelaw03_isNaN.calls a1 true _ A5.out).mono ?_); rintro e w' ⟨rfl, ⟨nd, rfl⟩⟩))
      go_ret
      exact ⟨by first | rfl | (simp; done) | (simp [*]; done), by repeat (first | exact Drawn0.refl _ | apply Drawn0.step)⟩
    · replace c6 := Bool.eq_false_iff.mpr c6
      subst c6
      have H1 : ((portagelaw03_key.f a0).bind fun t505 => ((portagelaw03_key.f a1).bind fun t506 => (some (decide (t505 ≤ t506))))) = some r := by rw [if_neg (show ¬ (false = true) by decide)] at H; exact H
      clear H
      have H := H1
      clear H1
      replace H := Option.bind_eq_some_iff.mp H
      obtain ⟨t505, A70, H⟩ := H
      replace H : ((portagelaw03_key.f a1).bind fun t506 => (some (decide (t505 ≤ t506)))) = some r := H
      have A7 := Aside0.mk A70
      clear A70
      replace H := Option.bind_eq_some_iff.mp H
      obtain ⟨t506, A80, H⟩ := H
      replace H : (some (decide (t505 ≤ t506))) = some r := H
      have A8 := Aside0.mk A80
      clear A80
      obtain rfl := Option.some.inj H
      go_enter Try.func44, Try.ntmps44
      go_wp2_with (first | ((with_reducible refine gate_callee (f := 38) rfl ?_); refine goesL_ (some 6) rfl rfl Try.func38 (by kernel_rfl) rfl #[.int .u64 a0] rfl (by (try simp only [List.map_toArray, List.map_cons, List.map_nil]); first | done | rfl | (simp only [List.length_drop, List.length_take]; rfl)) ?_; (with_reducible refine (portagelaw03_isNaN.calls a0 false _ A3.out).mono ?_); rintro e w' ⟨rfl, ⟨nd, rfl⟩⟩; refine ⟨_, rfl, ?_⟩) | (go_at_call 38; (with_reducible refine (portagelaw03_isNaN.calls a1 false _ A5.out).mono ?_); rintro e w' ⟨rfl, ⟨nd, rfl⟩⟩) | (go_at_call 40; (with_reducible refine (portagelaw03_key.calls a0 t505 _ A7.out).mono ?_); rintro e w' ⟨rfl, ⟨nd, rfl⟩⟩) | (go_at_call 40; (with_reducible refine (portagelaw03_key.calls a1 t506 _ A8.out).mono ?_); rintro e w' ⟨rfl, ⟨nd, rfl⟩⟩))
      go_ret
      exact ⟨by first | rfl | (simp; done) | (simp [*]; done), by repeat (first | exact Drawn0.refl _ | apply Drawn0.step)⟩

/-! ### portagelaw03_RealFloors: function 16 -/
def portagelaw03_RealFloors.j0 : Nat → Int → Int → Int → Bool → Option (Bool)
  | 0, _, _, _, _ => none
  | k + 1, x0, x3, x4, x61 => if x61 = true then (some false) else ((real_ToInt.f x0).bind fun bt519 => (if (Go.bits .and .u64 x0 9223372036854775808) = 0 then (if bt519.2 = true then (some (bt519.1 == x4)) else (some false)) else (if bt519.2 = true then (if x3 = x0 then (if bt519.1 = x4 then (some true) else (some false)) else (some (bt519.1 == (wrap64 (x4 + 1))))) else (some false))))
def portagelaw03_RealFloors.f (k : Nat) (a0 : Int) : Option (Bool) := (real_Floor.f a0).bind fun t507 => ((real_Floor.f t507).bind fun t508 => (if t508 = t507 then (if (Go.bits .and .u64 a0 9223372036854775807) ≥ 9218868437227405312 then ((real_Canon.f a0).bind fun t509 => (if t507 = t509 then ((portagelaw03_awake.f k).bind fun t510 => (some t510)) else (some false))) else (if (Go.bits .and .u64 a0 9223372036854775807) ≥ 4841369599423283200 then (if t507 = a0 then ((portagelaw03_awake.f k).bind fun t511 => (some t511)) else (some false)) else ((real_ToInt.f t507).bind fun bt512 => (if bt512.2 = true then ((real_FromInt.f bt512.1).bind fun t514 => (if (Go.bits .and .u64 t514 9223372036854775807) = (Go.bits .and .u64 t507 9223372036854775807) then ((portagelaw03_notBelow.f t507 a0).bind fun t515 => (if t515 = true then ((portagelaw03_key.f a0).bind fun t516 => ((real_Add.f t507 4607182418800017408).bind fun t517 => ((portagelaw03_key.f t517).bind fun t518 => (portagelaw03_RealFloors.j0 k a0 t507 bt512.1 (decide (t516 ≥ t518)))))) else (portagelaw03_RealFloors.j0 k a0 t507 bt512.1 true))) else (portagelaw03_RealFloors.j0 k a0 t507 bt512.1 true))) else (portagelaw03_RealFloors.j0 k a0 t507 bt512.1 true))))) else (some false)))
theorem portagelaw03_RealFloors.mono_l : ∀ k, (∀ y0 y1 y2 y3, LeO (portagelaw03_RealFloors.j0 k y0 y1 y2 y3) (portagelaw03_RealFloors.j0 (k + 1) y0 y1 y2 y3))
  | 0 => fun _ _ _ _ r h => by simp [portagelaw03_RealFloors.j0] at h
  | k + 1 => by
    have ih0 := portagelaw03_RealFloors.mono_l k
    · intro y0 y1 y2 y3
      unfold portagelaw03_RealFloors.j0
      repeat' first
      | (with_reducible exact ih0 _ _ _ _)
      | (with_reducible exact portagelaw03_awake.mono _)
      | (with_reducible exact LeO.refl _)
      | (with_reducible exact LeO.none _)
      | (with_reducible refine LeO.ite ?_ ?_)
      | (with_reducible refine LeO.bind ?_ (fun _ => ?_))
      | exact ih0 _ _ _ _
      | exact portagelaw03_awake.mono _
      | exact LeO.none _
      | refine LeO.ite ?_ ?_
      | refine LeO.bind ?_ (fun _ => ?_)
theorem portagelaw03_RealFloors.mono : ∀ a0 k, LeO (portagelaw03_RealFloors.f k a0) (portagelaw03_RealFloors.f (k + 1) a0) := by
  intro a0 k
  have ih0 := portagelaw03_RealFloors.mono_l k
  unfold portagelaw03_RealFloors.f
  repeat' first
      | (with_reducible exact ih0 _ _ _ _)
      | (with_reducible exact portagelaw03_awake.mono _)
      | (with_reducible exact LeO.refl _)
      | (with_reducible exact LeO.none _)
      | (with_reducible refine LeO.ite ?_ ?_)
      | (with_reducible refine LeO.bind ?_ (fun _ => ?_))
      | exact ih0 _ _ _ _
      | exact portagelaw03_awake.mono _
      | exact LeO.none _
      | refine LeO.ite ?_ ?_
      | refine LeO.bind ?_ (fun _ => ?_)
set_option maxHeartbeats 8000000 in
set_option maxRecDepth 100000 in
theorem portagelaw03_RealFloors.calls (k : Nat) (a0 : Int) (r : Bool) (w : World) (h : portagelaw03_RealFloors.f k a0 = some r) :
    Calls Try.prog 16 #[.int .u64 a0] w fun e w' => e = .returned (.bool r) ∧ Drawn0 w w' := by
  have H : ((real_Floor.f a0).bind fun t507 => ((real_Floor.f t507).bind fun t508 => (if t508 = t507 then (if (Go.bits .and .u64 a0 9223372036854775807) ≥ 9218868437227405312 then ((real_Canon.f a0).bind fun t509 => (if t507 = t509 then ((portagelaw03_awake.f k).bind fun t510 => (some t510)) else (some false))) else (if (Go.bits .and .u64 a0 9223372036854775807) ≥ 4841369599423283200 then (if t507 = a0 then ((portagelaw03_awake.f k).bind fun t511 => (some t511)) else (some false)) else ((real_ToInt.f t507).bind fun bt512 => (if bt512.2 = true then ((real_FromInt.f bt512.1).bind fun t514 => (if (Go.bits .and .u64 t514 9223372036854775807) = (Go.bits .and .u64 t507 9223372036854775807) then ((portagelaw03_notBelow.f t507 a0).bind fun t515 => (if t515 = true then ((portagelaw03_key.f a0).bind fun t516 => ((real_Add.f t507 4607182418800017408).bind fun t517 => ((portagelaw03_key.f t517).bind fun t518 => (portagelaw03_RealFloors.j0 k a0 t507 bt512.1 (decide (t516 ≥ t518)))))) else (portagelaw03_RealFloors.j0 k a0 t507 bt512.1 true))) else (portagelaw03_RealFloors.j0 k a0 t507 bt512.1 true))) else (portagelaw03_RealFloors.j0 k a0 t507 bt512.1 true))))) else (some false)))) = some r := h
  clear h
  replace H := Option.bind_eq_some_iff.mp H
  obtain ⟨t507, A20, H⟩ := H
  replace H : ((real_Floor.f t507).bind fun t508 => (if t508 = t507 then (if (Go.bits .and .u64 a0 9223372036854775807) ≥ 9218868437227405312 then ((real_Canon.f a0).bind fun t509 => (if t507 = t509 then ((portagelaw03_awake.f k).bind fun t510 => (some t510)) else (some false))) else (if (Go.bits .and .u64 a0 9223372036854775807) ≥ 4841369599423283200 then (if t507 = a0 then ((portagelaw03_awake.f k).bind fun t511 => (some t511)) else (some false)) else ((real_ToInt.f t507).bind fun bt512 => (if bt512.2 = true then ((real_FromInt.f bt512.1).bind fun t514 => (if (Go.bits .and .u64 t514 9223372036854775807) = (Go.bits .and .u64 t507 9223372036854775807) then ((portagelaw03_notBelow.f t507 a0).bind fun t515 => (if t515 = true then ((portagelaw03_key.f a0).bind fun t516 => ((real_Add.f t507 4607182418800017408).bind fun t517 => ((portagelaw03_key.f t517).bind fun t518 => (portagelaw03_RealFloors.j0 k a0 t507 bt512.1 (decide (t516 ≥ t518)))))) else (portagelaw03_RealFloors.j0 k a0 t507 bt512.1 true))) else (portagelaw03_RealFloors.j0 k a0 t507 bt512.1 true))) else (portagelaw03_RealFloors.j0 k a0 t507 bt512.1 true))))) else (some false))) = some r := H
  have A2 := Aside0.mk A20
  clear A20
  replace H := Option.bind_eq_some_iff.mp H
  obtain ⟨t508, A30, H⟩ := H
  replace H : (if t508 = t507 then (if (Go.bits .and .u64 a0 9223372036854775807) ≥ 9218868437227405312 then ((real_Canon.f a0).bind fun t509 => (if t507 = t509 then ((portagelaw03_awake.f k).bind fun t510 => (some t510)) else (some false))) else (if (Go.bits .and .u64 a0 9223372036854775807) ≥ 4841369599423283200 then (if t507 = a0 then ((portagelaw03_awake.f k).bind fun t511 => (some t511)) else (some false)) else ((real_ToInt.f t507).bind fun bt512 => (if bt512.2 = true then ((real_FromInt.f bt512.1).bind fun t514 => (if (Go.bits .and .u64 t514 9223372036854775807) = (Go.bits .and .u64 t507 9223372036854775807) then ((portagelaw03_notBelow.f t507 a0).bind fun t515 => (if t515 = true then ((portagelaw03_key.f a0).bind fun t516 => ((real_Add.f t507 4607182418800017408).bind fun t517 => ((portagelaw03_key.f t517).bind fun t518 => (portagelaw03_RealFloors.j0 k a0 t507 bt512.1 (decide (t516 ≥ t518)))))) else (portagelaw03_RealFloors.j0 k a0 t507 bt512.1 true))) else (portagelaw03_RealFloors.j0 k a0 t507 bt512.1 true))) else (portagelaw03_RealFloors.j0 k a0 t507 bt512.1 true))))) else (some false)) = some r := H
  have A3 := Aside0.mk A30
  clear A30
  by_cases c4 : t508 = t507
  · rw [if_pos c4] at H
    have c4b0 : (t508 == t507) = true := beq_iff_eq.mpr c4
    have c4b1 : (t508 != t507) = false := bne_eq_false_iff_eq.mpr c4
    clear c4
    by_cases c5 : (Go.bits .and .u64 a0 9223372036854775807) ≥ 9218868437227405312
    · rw [if_pos c5] at H
      have c5b0 : decide (9218868437227405312 ≤ (Go.bits .and .u64 a0 9223372036854775807)) = true := decide_eq_true c5
      clear c5
      replace H := Option.bind_eq_some_iff.mp H
      obtain ⟨t509, A60, H⟩ := H
      replace H : (if t507 = t509 then ((portagelaw03_awake.f k).bind fun t510 => (some t510)) else (some false)) = some r := H
      have A6 := Aside0.mk A60
      clear A60
      by_cases c7 : t507 = t509
      · rw [if_pos c7] at H
        have c7b0 : (t507 == t509) = true := beq_iff_eq.mpr c7
        have c7b1 : (t507 != t509) = false := bne_eq_false_iff_eq.mpr c7
        clear c7
        replace H := Option.bind_eq_some_iff.mp H
        obtain ⟨t510, A80, H⟩ := H
        replace H : (some t510) = some r := H
        have A8 := Aside0.mk A80
        clear A80
        obtain rfl := Option.some.inj H
        go_enter Try.func16, Try.ntmps16
        go_wp2_with (first | ((with_reducible refine gate_callee (f := 46) rfl ?_); refine goesL_ (some 9) rfl rfl Try.func46 (by kernel_rfl) rfl #[.int .u64 a0] rfl (by (try simp only [List.map_toArray, List.map_cons, List.map_nil]); first | done | rfl | (simp only [List.length_drop, List.length_take]; rfl)) ?_; (with_reducible refine (real_Floor.calls a0 t507 _ A2.out).mono ?_); rintro e w' ⟨rfl, ⟨nd, rfl⟩⟩; refine ⟨_, rfl, ?_⟩) | ((with_reducible refine gate_callee (f := 46) rfl ?_); refine goesL_ (some 11) rfl rfl Try.func46 (by kernel_rfl) rfl #[.int .u64 t507] rfl (by (try simp only [List.map_toArray, List.map_cons, List.map_nil]); first | done | rfl | (simp only [List.length_drop, List.length_take]; rfl)) ?_; (with_reducible refine (real_Floor.calls t507 t508 _ A3.out).mono ?_); rintro e w' ⟨rfl, ⟨nd, rfl⟩⟩; refine ⟨_, rfl, ?_⟩) | ((with_reducible refine gate_callee (f := 43) rfl ?_); refine goesL_ (some 19) rfl rfl Try.func43 (by kernel_rfl) rfl #[.int .u64 a0] rfl (by (try simp only [List.map_toArray, List.map_cons, List.map_nil]); first | done | rfl | (simp only [List.length_drop, List.length_take]; rfl)) ?_; (with_reducible refine (real_Canon.calls a0 t509 _ A6.out).mono ?_); rintro e w' ⟨rfl, ⟨nd, rfl⟩⟩; refine ⟨_, rfl, ?_⟩) | (go_at_call 39; (with_reducible refine (portagelaw03_awake.calls k  t510 _ A8.out).mono ?_); rintro e w' ⟨rfl, ⟨nd, rfl⟩⟩))
        go_ret
        exact ⟨by first | rfl | (simp; done) | (simp [*]; done), by repeat (first | exact Drawn0.refl _ | apply Drawn0.step)⟩
      · rw [if_neg c7] at H
        have c7b0 : (t507 == t509) = false := beq_eq_false_iff_ne.mpr c7
        have c7b1 : (t507 != t509) = true := bne_iff_ne.mpr c7
        obtain rfl := Option.some.inj H
        go_enter Try.func16, Try.ntmps16
        go_wp2_with (first | ((with_reducible refine gate_callee (f := 46) rfl ?_); refine goesL_ (some 9) rfl rfl Try.func46 (by kernel_rfl) rfl #[.int .u64 a0] rfl (by (try simp only [List.map_toArray, List.map_cons, List.map_nil]); first | done | rfl | (simp only [List.length_drop, List.length_take]; rfl)) ?_; (with_reducible refine (real_Floor.calls a0 t507 _ A2.out).mono ?_); rintro e w' ⟨rfl, ⟨nd, rfl⟩⟩; refine ⟨_, rfl, ?_⟩) | ((with_reducible refine gate_callee (f := 46) rfl ?_); refine goesL_ (some 11) rfl rfl Try.func46 (by kernel_rfl) rfl #[.int .u64 t507] rfl (by (try simp only [List.map_toArray, List.map_cons, List.map_nil]); first | done | rfl | (simp only [List.length_drop, List.length_take]; rfl)) ?_; (with_reducible refine (real_Floor.calls t507 t508 _ A3.out).mono ?_); rintro e w' ⟨rfl, ⟨nd, rfl⟩⟩; refine ⟨_, rfl, ?_⟩) | ((with_reducible refine gate_callee (f := 43) rfl ?_); refine goesL_ (some 19) rfl rfl Try.func43 (by kernel_rfl) rfl #[.int .u64 a0] rfl (by (try simp only [List.map_toArray, List.map_cons, List.map_nil]); first | done | rfl | (simp only [List.length_drop, List.length_take]; rfl)) ?_; (with_reducible refine (real_Canon.calls a0 t509 _ A6.out).mono ?_); rintro e w' ⟨rfl, ⟨nd, rfl⟩⟩; refine ⟨_, rfl, ?_⟩))
        go_ret
        exact ⟨by first | rfl | (simp; done) | (simp [*]; done), by repeat (first | exact Drawn0.refl _ | apply Drawn0.step)⟩
    · rw [if_neg c5] at H
      have c5b0 : decide (9218868437227405312 ≤ (Go.bits .and .u64 a0 9223372036854775807)) = false := decide_eq_false c5
      clear c5
      by_cases c9 : (Go.bits .and .u64 a0 9223372036854775807) ≥ 4841369599423283200
      · rw [if_pos c9] at H
        have c9b0 : decide (4841369599423283200 ≤ (Go.bits .and .u64 a0 9223372036854775807)) = true := decide_eq_true c9
        clear c9
        by_cases c10 : t507 = a0
        · rw [if_pos c10] at H
          have c10b0 : (t507 == a0) = true := beq_iff_eq.mpr c10
          have c10b1 : (t507 != a0) = false := bne_eq_false_iff_eq.mpr c10
          clear c10
          replace H := Option.bind_eq_some_iff.mp H
          obtain ⟨t511, A110, H⟩ := H
          replace H : (some t511) = some r := H
          have A11 := Aside0.mk A110
          clear A110
          obtain rfl := Option.some.inj H
          go_enter Try.func16, Try.ntmps16
          go_wp2_with (first | ((with_reducible refine gate_callee (f := 46) rfl ?_); refine goesL_ (some 9) rfl rfl Try.func46 (by kernel_rfl) rfl #[.int .u64 a0] rfl (by (try simp only [List.map_toArray, List.map_cons, List.map_nil]); first | done | rfl | (simp only [List.length_drop, List.length_take]; rfl)) ?_; (with_reducible refine (real_Floor.calls a0 t507 _ A2.out).mono ?_); rintro e w' ⟨rfl, ⟨nd, rfl⟩⟩; refine ⟨_, rfl, ?_⟩) | ((with_reducible refine gate_callee (f := 46) rfl ?_); refine goesL_ (some 11) rfl rfl Try.func46 (by kernel_rfl) rfl #[.int .u64 t507] rfl (by (try simp only [List.map_toArray, List.map_cons, List.map_nil]); first | done | rfl | (simp only [List.length_drop, List.length_take]; rfl)) ?_; (with_reducible refine (real_Floor.calls t507 t508 _ A3.out).mono ?_); rintro e w' ⟨rfl, ⟨nd, rfl⟩⟩; refine ⟨_, rfl, ?_⟩) | (go_at_call 39; (with_reducible refine (portagelaw03_awake.calls k  t511 _ A11.out).mono ?_); rintro e w' ⟨rfl, ⟨nd, rfl⟩⟩))
          go_ret
          exact ⟨by first | rfl | (simp; done) | (simp [*]; done), by repeat (first | exact Drawn0.refl _ | apply Drawn0.step)⟩
        · rw [if_neg c10] at H
          have c10b0 : (t507 == a0) = false := beq_eq_false_iff_ne.mpr c10
          have c10b1 : (t507 != a0) = true := bne_iff_ne.mpr c10
          obtain rfl := Option.some.inj H
          go_enter Try.func16, Try.ntmps16
          go_wp2_with (first | ((with_reducible refine gate_callee (f := 46) rfl ?_); refine goesL_ (some 9) rfl rfl Try.func46 (by kernel_rfl) rfl #[.int .u64 a0] rfl (by (try simp only [List.map_toArray, List.map_cons, List.map_nil]); first | done | rfl | (simp only [List.length_drop, List.length_take]; rfl)) ?_; (with_reducible refine (real_Floor.calls a0 t507 _ A2.out).mono ?_); rintro e w' ⟨rfl, ⟨nd, rfl⟩⟩; refine ⟨_, rfl, ?_⟩) | ((with_reducible refine gate_callee (f := 46) rfl ?_); refine goesL_ (some 11) rfl rfl Try.func46 (by kernel_rfl) rfl #[.int .u64 t507] rfl (by (try simp only [List.map_toArray, List.map_cons, List.map_nil]); first | done | rfl | (simp only [List.length_drop, List.length_take]; rfl)) ?_; (with_reducible refine (real_Floor.calls t507 t508 _ A3.out).mono ?_); rintro e w' ⟨rfl, ⟨nd, rfl⟩⟩; refine ⟨_, rfl, ?_⟩))
          go_ret
          exact ⟨by first | rfl | (simp; done) | (simp [*]; done), by repeat (first | exact Drawn0.refl _ | apply Drawn0.step)⟩
      · rw [if_neg c9] at H
        have c9b0 : decide (4841369599423283200 ≤ (Go.bits .and .u64 a0 9223372036854775807)) = false := decide_eq_false c9
        clear c9
        replace H := Option.bind_eq_some_iff.mp H
        obtain ⟨⟨t512, t513⟩, A120, H⟩ := H
        replace H : (if t513 = true then ((real_FromInt.f t512).bind fun t514 => (if (Go.bits .and .u64 t514 9223372036854775807) = (Go.bits .and .u64 t507 9223372036854775807) then ((portagelaw03_notBelow.f t507 a0).bind fun t515 => (if t515 = true then ((portagelaw03_key.f a0).bind fun t516 => ((real_Add.f t507 4607182418800017408).bind fun t517 => ((portagelaw03_key.f t517).bind fun t518 => (portagelaw03_RealFloors.j0 k a0 t507 t512 (decide (t516 ≥ t518)))))) else (portagelaw03_RealFloors.j0 k a0 t507 t512 true))) else (portagelaw03_RealFloors.j0 k a0 t507 t512 true))) else (portagelaw03_RealFloors.j0 k a0 t507 t512 true)) = some r := H
        have A12 := Aside0.mk A120
        clear A120
        have HC13 := Aside0.mk H
        clear H
        go_enter Try.func16, Try.ntmps16
        go_upto_region 9 with (first | ((with_reducible refine gate_callee (f := 46) rfl ?_); refine goesL_ (some 9) rfl rfl Try.func46 (by kernel_rfl) rfl #[.int .u64 a0] rfl (by (try simp only [List.map_toArray, List.map_cons, List.map_nil]); first | done | rfl | (simp only [List.length_drop, List.length_take]; rfl)) ?_; (with_reducible refine (real_Floor.calls a0 t507 _ A2.out).mono ?_); rintro e w' ⟨rfl, ⟨nd, rfl⟩⟩; refine ⟨_, rfl, ?_⟩) | ((with_reducible refine gate_callee (f := 46) rfl ?_); refine goesL_ (some 11) rfl rfl Try.func46 (by kernel_rfl) rfl #[.int .u64 t507] rfl (by (try simp only [List.map_toArray, List.map_cons, List.map_nil]); first | done | rfl | (simp only [List.length_drop, List.length_take]; rfl)) ?_; (with_reducible refine (real_Floor.calls t507 t508 _ A3.out).mono ?_); rintro e w' ⟨rfl, ⟨nd, rfl⟩⟩; refine ⟨_, rfl, ?_⟩) | ((with_reducible refine gate_callee (f := 34) rfl ?_); refine goesL_ (some 35) rfl rfl Try.func34 (by kernel_rfl) rfl #[.int .u64 t507] rfl (by (try simp only [List.map_toArray, List.map_cons, List.map_nil]); first | done | rfl | (simp only [List.length_drop, List.length_take]; rfl)) ?_; (with_reducible refine (real_ToInt.calls t507 t512 t513 _ A12.out).mono ?_); rintro e w' ⟨rfl, ⟨nd, rfl⟩⟩; refine ⟨_, rfl, ?_⟩))
        (try simp only [Act.put, List.setIfInBounds_toArray, List.set_cons_zero, List.set_cons_succ])
        go_cut [61] (fun v61 wc => ∃ (kq : Nat) (x61_12 : Bool), v61 = .bool x61_12 ∧ Aside0 (portagelaw03_RealFloors.j0 kq a0 t507 t512 x61_12 = some r) ∧ Aside0 (kq ≤ k) ∧ Drawn0 w wc)
        case first =>
          have H := HC13.out
          clear HC13
          by_cases c14 : t513 = true
          · subst c14
            have H1 : ((real_FromInt.f t512).bind fun t514 => (if (Go.bits .and .u64 t514 9223372036854775807) = (Go.bits .and .u64 t507 9223372036854775807) then ((portagelaw03_notBelow.f t507 a0).bind fun t515 => (if t515 = true then ((portagelaw03_key.f a0).bind fun t516 => ((real_Add.f t507 4607182418800017408).bind fun t517 => ((portagelaw03_key.f t517).bind fun t518 => (portagelaw03_RealFloors.j0 k a0 t507 t512 (decide (t516 ≥ t518)))))) else (portagelaw03_RealFloors.j0 k a0 t507 t512 true))) else (portagelaw03_RealFloors.j0 k a0 t507 t512 true))) = some r := by rw [if_pos rfl] at H; exact H
            clear H
            have H := H1
            clear H1
            replace H := Option.bind_eq_some_iff.mp H
            obtain ⟨t514, A150, H⟩ := H
            replace H : (if (Go.bits .and .u64 t514 9223372036854775807) = (Go.bits .and .u64 t507 9223372036854775807) then ((portagelaw03_notBelow.f t507 a0).bind fun t515 => (if t515 = true then ((portagelaw03_key.f a0).bind fun t516 => ((real_Add.f t507 4607182418800017408).bind fun t517 => ((portagelaw03_key.f t517).bind fun t518 => (portagelaw03_RealFloors.j0 k a0 t507 t512 (decide (t516 ≥ t518)))))) else (portagelaw03_RealFloors.j0 k a0 t507 t512 true))) else (portagelaw03_RealFloors.j0 k a0 t507 t512 true)) = some r := H
            have A15 := Aside0.mk A150
            clear A150
            by_cases c16 : (Go.bits .and .u64 t514 9223372036854775807) = (Go.bits .and .u64 t507 9223372036854775807)
            · rw [if_pos c16] at H
              have c16b0 : ((Go.bits .and .u64 t514 9223372036854775807) == (Go.bits .and .u64 t507 9223372036854775807)) = true := beq_iff_eq.mpr c16
              have c16b1 : ((Go.bits .and .u64 t514 9223372036854775807) != (Go.bits .and .u64 t507 9223372036854775807)) = false := bne_eq_false_iff_eq.mpr c16
              clear c16
              (first | rw [c16b0] | (simp only [i64_w, i32_w]; rw [c16b0]) | skip)
              replace H := Option.bind_eq_some_iff.mp H
              obtain ⟨t515, A170, H⟩ := H
              replace H : (if t515 = true then ((portagelaw03_key.f a0).bind fun t516 => ((real_Add.f t507 4607182418800017408).bind fun t517 => ((portagelaw03_key.f t517).bind fun t518 => (portagelaw03_RealFloors.j0 k a0 t507 t512 (decide (t516 ≥ t518)))))) else (portagelaw03_RealFloors.j0 k a0 t507 t512 true)) = some r := H
              have A17 := Aside0.mk A170
              clear A170
              by_cases c18 : t515 = true
              · subst c18
                have H1 : ((portagelaw03_key.f a0).bind fun t516 => ((real_Add.f t507 4607182418800017408).bind fun t517 => ((portagelaw03_key.f t517).bind fun t518 => (portagelaw03_RealFloors.j0 k a0 t507 t512 (decide (t516 ≥ t518)))))) = some r := by rw [if_pos rfl] at H; exact H
                clear H
                have H := H1
                clear H1
                replace H := Option.bind_eq_some_iff.mp H
                obtain ⟨t516, A190, H⟩ := H
                replace H : ((real_Add.f t507 4607182418800017408).bind fun t517 => ((portagelaw03_key.f t517).bind fun t518 => (portagelaw03_RealFloors.j0 k a0 t507 t512 (decide (t516 ≥ t518))))) = some r := H
                have A19 := Aside0.mk A190
                clear A190
                replace H := Option.bind_eq_some_iff.mp H
                obtain ⟨t517, A200, H⟩ := H
                replace H : ((portagelaw03_key.f t517).bind fun t518 => (portagelaw03_RealFloors.j0 k a0 t507 t512 (decide (t516 ≥ t518)))) = some r := H
                have A20 := Aside0.mk A200
                clear A200
                replace H := Option.bind_eq_some_iff.mp H
                obtain ⟨t518, A210, H⟩ := H
                replace H : (portagelaw03_RealFloors.j0 k a0 t507 t512 (decide (t516 ≥ t518))) = some r := H
                have A21 := Aside0.mk A210
                clear A210
                have H' := Aside0.mk H
                clear H
                go_wp2_with (first | (go_at_call 35; (with_reducible refine (real_FromInt.calls t512 t514 _ A15.out).mono ?_); rintro e w' ⟨rfl, ⟨nd, rfl⟩⟩) | (go_at_call 44; (with_reducible refine (portagelaw03_notBelow.calls t507 a0 true _ A17.out).mono ?_); rintro e w' ⟨rfl, ⟨nd, rfl⟩⟩) | (go_at_call 40; (with_reducible refine (portagelaw03_key.calls a0 t516 _ A19.out).mono ?_); rintro e w' ⟨rfl, ⟨nd, rfl⟩⟩) | (go_at_call 24; (with_reducible refine (real_Add.calls t507 4607182418800017408 t517 _ A20.out).mono ?_); rintro e w' ⟨rfl, ⟨nd, rfl⟩⟩) | (go_at_call 40; (with_reducible refine (portagelaw03_key.calls t517 t518 _ A21.out).mono ?_); rintro e w' ⟨rfl, ⟨nd, rfl⟩⟩))
                go_meet
                case rel => exact ⟨_, (decide (t516 ≥ t518)), (by first | rfl | (simp; done) | (simp [*]; done)), H', ⟨by first | omega | exact Nat.le_refl _⟩, by repeat (first | exact Drawn0.refl _ | apply Drawn0.step)⟩
              · replace c18 := Bool.eq_false_iff.mpr c18
                subst c18
                have H1 : (portagelaw03_RealFloors.j0 k a0 t507 t512 true) = some r := by rw [if_neg (show ¬ (false = true) by decide)] at H; exact H
                clear H
                have H := H1
                clear H1
                have H' := Aside0.mk H
                clear H
                go_wp2_with (first | (go_at_call 35; (with_reducible refine (real_FromInt.calls t512 t514 _ A15.out).mono ?_); rintro e w' ⟨rfl, ⟨nd, rfl⟩⟩) | (go_at_call 44; (with_reducible refine (portagelaw03_notBelow.calls t507 a0 false _ A17.out).mono ?_); rintro e w' ⟨rfl, ⟨nd, rfl⟩⟩))
                go_meet
                case rel => exact ⟨_, (true), (by first | rfl | (simp; done) | (simp [*]; done)), H', ⟨by first | omega | exact Nat.le_refl _⟩, by repeat (first | exact Drawn0.refl _ | apply Drawn0.step)⟩
            · rw [if_neg c16] at H
              have c16b0 : ((Go.bits .and .u64 t514 9223372036854775807) == (Go.bits .and .u64 t507 9223372036854775807)) = false := beq_eq_false_iff_ne.mpr c16
              have c16b1 : ((Go.bits .and .u64 t514 9223372036854775807) != (Go.bits .and .u64 t507 9223372036854775807)) = true := bne_iff_ne.mpr c16
              (first | rw [c16b0] | (simp only [i64_w, i32_w]; rw [c16b0]) | skip)
              have H' := Aside0.mk H
              clear H
              go_wp2_with (first | (go_at_call 35; (with_reducible refine (real_FromInt.calls t512 t514 _ A15.out).mono ?_); rintro e w' ⟨rfl, ⟨nd, rfl⟩⟩))
              go_meet
              case rel => exact ⟨_, (true), (by first | rfl | (simp; done) | (simp [*]; done)), H', ⟨by first | omega | exact Nat.le_refl _⟩, by repeat (first | exact Drawn0.refl _ | apply Drawn0.step)⟩
          · replace c14 := Bool.eq_false_iff.mpr c14
            subst c14
            have H1 : (portagelaw03_RealFloors.j0 k a0 t507 t512 true) = some r := by rw [if_neg (show ¬ (false = true) by decide)] at H; exact H
            clear H
            have H := H1
            clear H1
            have H' := Aside0.mk H
            clear H
            go_wp2
            go_meet
            case rel => exact ⟨_, (true), (by first | rfl | (simp; done) | (simp [*]; done)), H', ⟨by first | omega | exact Nat.le_refl _⟩, by repeat (first | exact Drawn0.refl _ | apply Drawn0.step)⟩
        case rest =>
          clear HC13
          try clear c1
          try clear p2
          try clear c3
          try clear c4
          try clear c4b0
          try clear c4b1
          try clear c5
          try clear c5b0
          try clear c7
          try clear c7b0
          try clear c7b1
          try clear c9
          try clear c9b0
          try clear c10
          try clear c10b0
          try clear c10b1
          try clear c14
          try clear c16
          try clear c16b0
          try clear c16b1
          try clear c18
          obtain ⟨kq, x61_12, rfl, HA, HJ12, ⟨mc12, rfl⟩⟩ := hcut
          cases kq with
          | zero => exact absurd HA.out (by simp [portagelaw03_RealFloors.j0])
          | succ kj12 =>
            have H := HA.out
            clear HA
            simp only [portagelaw03_RealFloors.j0] at H
            by_cases c22 : x61_12 = true
            · subst c22
              have H1 : (some false) = some r := by rw [if_pos rfl] at H; exact H
              clear H
              have H := H1
              clear H1
              obtain rfl := Option.some.inj H
              go_wp2
              go_ret
              exact ⟨by first | rfl | (simp; done) | (simp [*]; done), by repeat (first | exact Drawn0.refl _ | apply Drawn0.step)⟩
            · replace c22 := Bool.eq_false_iff.mpr c22
              subst c22
              have H1 : ((real_ToInt.f a0).bind fun bt519 => (if (Go.bits .and .u64 a0 9223372036854775808) = 0 then (if bt519.2 = true then (some (bt519.1 == t512)) else (some false)) else (if bt519.2 = true then (if t507 = a0 then (if bt519.1 = t512 then (some true) else (some false)) else (some (bt519.1 == (wrap64 (t512 + 1))))) else (some false)))) = some r := by rw [if_neg (show ¬ (false = true) by decide)] at H; exact H
              clear H
              have H := H1
              clear H1
              replace H := Option.bind_eq_some_iff.mp H
              obtain ⟨⟨t519, t520⟩, A230, H⟩ := H
              replace H : (if (Go.bits .and .u64 a0 9223372036854775808) = 0 then (if t520 = true then (some (t519 == t512)) else (some false)) else (if t520 = true then (if t507 = a0 then (if t519 = t512 then (some true) else (some false)) else (some (t519 == (wrap64 (t512 + 1))))) else (some false))) = some r := H
              have A23 := Aside0.mk A230
              clear A230
              by_cases c24 : (Go.bits .and .u64 a0 9223372036854775808) = 0
              · rw [if_pos c24] at H
                have c24b0 : ((Go.bits .and .u64 a0 9223372036854775808) == 0) = true := beq_iff_eq.mpr c24
                have c24b1 : ((Go.bits .and .u64 a0 9223372036854775808) != 0) = false := bne_eq_false_iff_eq.mpr c24
                clear c24
                by_cases c25 : t520 = true
                · subst c25
                  have H1 : (some (t519 == t512)) = some r := by rw [if_pos rfl] at H; exact H
                  clear H
                  have H := H1
                  clear H1
                  obtain rfl := Option.some.inj H
                  go_wp2_with (first | ((with_reducible refine gate_callee (f := 34) rfl ?_); refine goesL_ (some 64) rfl rfl Try.func34 (by kernel_rfl) rfl #[.int .u64 a0] rfl (by (try simp only [List.map_toArray, List.map_cons, List.map_nil]); first | done | rfl | (simp only [List.length_drop, List.length_take]; rfl)) ?_; (with_reducible refine (real_ToInt.calls a0 t519 true _ A23.out).mono ?_); rintro e w' ⟨rfl, ⟨nd, rfl⟩⟩; refine ⟨_, rfl, ?_⟩))
                  go_ret
                  exact ⟨by first | rfl | (simp; done) | (simp [*]; done), by repeat (first | exact Drawn0.refl _ | apply Drawn0.step)⟩
                · replace c25 := Bool.eq_false_iff.mpr c25
                  subst c25
                  have H1 : (some false) = some r := by rw [if_neg (show ¬ (false = true) by decide)] at H; exact H
                  clear H
                  have H := H1
                  clear H1
                  obtain rfl := Option.some.inj H
                  go_wp2_with (first | ((with_reducible refine gate_callee (f := 34) rfl ?_); refine goesL_ (some 64) rfl rfl Try.func34 (by kernel_rfl) rfl #[.int .u64 a0] rfl (by (try simp only [List.map_toArray, List.map_cons, List.map_nil]); first | done | rfl | (simp only [List.length_drop, List.length_take]; rfl)) ?_; (with_reducible refine (real_ToInt.calls a0 t519 false _ A23.out).mono ?_); rintro e w' ⟨rfl, ⟨nd, rfl⟩⟩; refine ⟨_, rfl, ?_⟩))
                  go_ret
                  exact ⟨by first | rfl | (simp; done) | (simp [*]; done), by repeat (first | exact Drawn0.refl _ | apply Drawn0.step)⟩
              · rw [if_neg c24] at H
                have c24b0 : ((Go.bits .and .u64 a0 9223372036854775808) == 0) = false := beq_eq_false_iff_ne.mpr c24
                have c24b1 : ((Go.bits .and .u64 a0 9223372036854775808) != 0) = true := bne_iff_ne.mpr c24
                by_cases c26 : t520 = true
                · subst c26
                  have H1 : (if t507 = a0 then (if t519 = t512 then (some true) else (some false)) else (some (t519 == (wrap64 (t512 + 1))))) = some r := by rw [if_pos rfl] at H; exact H
                  clear H
                  have H := H1
                  clear H1
                  by_cases c27 : t507 = a0
                  · rw [if_pos c27] at H
                    have c27b0 : (t507 == a0) = true := beq_iff_eq.mpr c27
                    have c27b1 : (t507 != a0) = false := bne_eq_false_iff_eq.mpr c27
                    clear c27
                    by_cases c28 : t519 = t512
                    · rw [if_pos c28] at H
                      have c28b0 : (t519 == t512) = true := beq_iff_eq.mpr c28
                      have c28b1 : (t519 != t512) = false := bne_eq_false_iff_eq.mpr c28
                      clear c28
                      obtain rfl := Option.some.inj H
                      go_wp2_with (first | ((with_reducible refine gate_callee (f := 34) rfl ?_); refine goesL_ (some 64) rfl rfl Try.func34 (by kernel_rfl) rfl #[.int .u64 a0] rfl (by (try simp only [List.map_toArray, List.map_cons, List.map_nil]); first | done | rfl | (simp only [List.length_drop, List.length_take]; rfl)) ?_; (with_reducible refine (real_ToInt.calls a0 t519 true _ A23.out).mono ?_); rintro e w' ⟨rfl, ⟨nd, rfl⟩⟩; refine ⟨_, rfl, ?_⟩))
                      go_ret
                      exact ⟨by first | rfl | (simp; done) | (simp [*]; done), by repeat (first | exact Drawn0.refl _ | apply Drawn0.step)⟩
                    · rw [if_neg c28] at H
                      have c28b0 : (t519 == t512) = false := beq_eq_false_iff_ne.mpr c28
                      have c28b1 : (t519 != t512) = true := bne_iff_ne.mpr c28
                      obtain rfl := Option.some.inj H
                      go_wp2_with (first | ((with_reducible refine gate_callee (f := 34) rfl ?_); refine goesL_ (some 64) rfl rfl Try.func34 (by kernel_rfl) rfl #[.int .u64 a0] rfl (by (try simp only [List.map_toArray, List.map_cons, List.map_nil]); first | done | rfl | (simp only [List.length_drop, List.length_take]; rfl)) ?_; (with_reducible refine (real_ToInt.calls a0 t519 true _ A23.out).mono ?_); rintro e w' ⟨rfl, ⟨nd, rfl⟩⟩; refine ⟨_, rfl, ?_⟩))
                      go_ret
                      exact ⟨by first | rfl | (simp; done) | (simp [*]; done), by repeat (first | exact Drawn0.refl _ | apply Drawn0.step)⟩
                  · rw [if_neg c27] at H
                    have c27b0 : (t507 == a0) = false := beq_eq_false_iff_ne.mpr c27
                    have c27b1 : (t507 != a0) = true := bne_iff_ne.mpr c27
                    obtain rfl := Option.some.inj H
                    go_wp2_with (first | ((with_reducible refine gate_callee (f := 34) rfl ?_); refine goesL_ (some 64) rfl rfl Try.func34 (by kernel_rfl) rfl #[.int .u64 a0] rfl (by (try simp only [List.map_toArray, List.map_cons, List.map_nil]); first | done | rfl | (simp only [List.length_drop, List.length_take]; rfl)) ?_; (with_reducible refine (real_ToInt.calls a0 t519 true _ A23.out).mono ?_); rintro e w' ⟨rfl, ⟨nd, rfl⟩⟩; refine ⟨_, rfl, ?_⟩))
                    go_ret
                    exact ⟨by first | rfl | (simp; done) | (simp [*]; done), by repeat (first | exact Drawn0.refl _ | apply Drawn0.step)⟩
                · replace c26 := Bool.eq_false_iff.mpr c26
                  subst c26
                  have H1 : (some false) = some r := by rw [if_neg (show ¬ (false = true) by decide)] at H; exact H
                  clear H
                  have H := H1
                  clear H1
                  obtain rfl := Option.some.inj H
                  go_wp2_with (first | ((with_reducible refine gate_callee (f := 34) rfl ?_); refine goesL_ (some 64) rfl rfl Try.func34 (by kernel_rfl) rfl #[.int .u64 a0] rfl (by (try simp only [List.map_toArray, List.map_cons, List.map_nil]); first | done | rfl | (simp only [List.length_drop, List.length_take]; rfl)) ?_; (with_reducible refine (real_ToInt.calls a0 t519 false _ A23.out).mono ?_); rintro e w' ⟨rfl, ⟨nd, rfl⟩⟩; refine ⟨_, rfl, ?_⟩))
                  go_ret
                  exact ⟨by first | rfl | (simp; done) | (simp [*]; done), by repeat (first | exact Drawn0.refl _ | apply Drawn0.step)⟩
  · rw [if_neg c4] at H
    have c4b0 : (t508 == t507) = false := beq_eq_false_iff_ne.mpr c4
    have c4b1 : (t508 != t507) = true := bne_iff_ne.mpr c4
    obtain rfl := Option.some.inj H
    go_enter Try.func16, Try.ntmps16
    go_wp2_with (first | ((with_reducible refine gate_callee (f := 46) rfl ?_); refine goesL_ (some 9) rfl rfl Try.func46 (by kernel_rfl) rfl #[.int .u64 a0] rfl (by (try simp only [List.map_toArray, List.map_cons, List.map_nil]); first | done | rfl | (simp only [List.length_drop, List.length_take]; rfl)) ?_; (with_reducible refine (real_Floor.calls a0 t507 _ A2.out).mono ?_); rintro e w' ⟨rfl, ⟨nd, rfl⟩⟩; refine ⟨_, rfl, ?_⟩) | ((with_reducible refine gate_callee (f := 46) rfl ?_); refine goesL_ (some 11) rfl rfl Try.func46 (by kernel_rfl) rfl #[.int .u64 t507] rfl (by (try simp only [List.map_toArray, List.map_cons, List.map_nil]); first | done | rfl | (simp only [List.length_drop, List.length_take]; rfl)) ?_; (with_reducible refine (real_Floor.calls t507 t508 _ A3.out).mono ?_); rintro e w' ⟨rfl, ⟨nd, rfl⟩⟩; refine ⟨_, rfl, ?_⟩))
    go_ret
    exact ⟨by first | rfl | (simp; done) | (simp [*]; done), by repeat (first | exact Drawn0.refl _ | apply Drawn0.step)⟩

/-- THE ONE PURE STATEMENT of portagelaw03_RealFloors: yours. -/
def portagelaw03_RealFloors.Pure : Prop := ∀ (a0 : Int), (Lit.int .u64 a0).wf = true → ∃ k, portagelaw03_RealFloors.f k a0 = some true
theorem portagelaw03_RealFloors.walk (P : portagelaw03_RealFloors.Pure) (a0 : Int) (w : World) (w0 : (Lit.int .u64 a0).wf = true) :
    Calls Try.prog 16 #[.int .u64 a0] w fun e w' => e = .returned (.bool true) ∧ Below w.heap.size w w' := by
  obtain ⟨k, h⟩ := P a0 w0
  refine (portagelaw03_RealFloors.calls k a0 true w h).mono ?_
  rintro e w' ⟨rfl, hd⟩
  exact ⟨rfl, hd.below⟩

end Go.Proofs.Ytapgnackoclbeaa.PReal
