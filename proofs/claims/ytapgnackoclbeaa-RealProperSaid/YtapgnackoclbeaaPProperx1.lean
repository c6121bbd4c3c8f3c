-- written by a program of this session (leafprint.py) over the translation; Lean checks it
import Derived.Test.YtapgnackoclbeaaPProperx0
namespace Go.Proofs.Ytapgnackoclbeaa.PProper
open Go.RowKit Go.Proofs.YtapgnackoclbeaaW.PrintWords Go.Proofs.YtapgnackoclbeaaW.PrintLast Go.Proofs.YtapgnackoclbeaaW.PrintMore
attribute [local go_sem] max2_int min2_int max_two min_two max_three min_three max_four min_four   -- for this text's walks alone
set_option linter.unusedVariables false
set_option linter.unusedSimpArgs false

-- NOT PRINTED: function 82 (math_Float64frombits)

-- NOT PRINTED: function 57 (real_number)

-- NOT PRINTED: function 84 (math_Float64bits)

-- NOT PRINTED: function 60 (real_laid)

-- NOT PRINTED: function 89 (math_sqrt)

-- NOT PRINTED: function 73 (math_Sqrt)

/-! ### portagelaw03_isNaN: function 38 -/
def portagelaw03_isNaN.f (a0 : Int) : Option (Bool) := some (decide ((Go.bits .and .u64 a0 9223372036854775807) > 9218868437227405312))
set_option maxHeartbeats 8000000 in
set_option maxRecDepth 100000 in
theorem portagelaw03_isNaN.calls (a0 : Int) (r : Bool) (w : World) (h : portagelaw03_isNaN.f a0 = some r) :
    Calls Try.prog 38 #[.int .u64 a0] w fun e w' => e = .returned (.bool r) ∧ Drawn0 w w' := by
  have H : (some (decide ((Go.bits .and .u64 a0 9223372036854775807) > 9218868437227405312))) = some r := h
  clear h
  obtain rfl := Option.some.inj H
  go_enter Try.func38, Try.ntmps38
  go_wp2
  go_ret
  exact ⟨by first | rfl | (simp; done) | (simp [*]; done), by repeat (first | exact Drawn0.refl _ | apply Drawn0.step)⟩

/-! ### portagelaw03_awake: function 39 -/
def portagelaw03_awake.j0 : Nat → Bool → Option (Bool)
  | 0, _ => none
  | k + 1, x10 => if x10 = true then (some false) else ((real_Less.f 4607182418800017408 4611686018427387904).bind fun t104 => (if t104 = true then ((real_Equal.f 4613937818241073152 4613937818241073152).bind fun t105 => (if t105 = true then ((real_Sqrt.f 4607182418800017408).bind fun t106 => (if t106 = 4607182418800017408 then ((real_FromInt.f 6).bind fun t107 => (some (t107 == 4618441417868443648))) else (some false))) else (some false))) else (some false)))
def portagelaw03_awake.f (k : Nat)  : Option (Bool) := (real_Add.f 4607182418800017408 4611686018427387904).bind fun t101 => (if t101 = 4613937818241073152 then ((real_Mul.f 4611686018427387904 4613937818241073152).bind fun t102 => (if t102 = 4618441417868443648 then ((real_Div.f 4618441417868443648 4613937818241073152).bind fun t103 => (portagelaw03_awake.j0 k (t103 != 4611686018427387904))) else (portagelaw03_awake.j0 k true))) else (portagelaw03_awake.j0 k true))
theorem portagelaw03_awake.mono_l : ∀ k, (∀ y0, LeO (portagelaw03_awake.j0 k y0) (portagelaw03_awake.j0 (k + 1) y0))
  | 0 => fun _ r h => by simp [portagelaw03_awake.j0] at h
  | k + 1 => by
    have ih0 := portagelaw03_awake.mono_l k
    · intro y0
      unfold portagelaw03_awake.j0
      repeat' first
      | (with_reducible exact ih0 _)
      | (with_reducible exact LeO.refl _)
      | (with_reducible exact LeO.none _)
      | (with_reducible refine LeO.ite ?_ ?_)
      | (with_reducible refine LeO.bind ?_ (fun _ => ?_))
      | exact ih0 _
      | exact LeO.none _
      | refine LeO.ite ?_ ?_
      | refine LeO.bind ?_ (fun _ => ?_)
theorem portagelaw03_awake.mono : ∀ k, LeO (portagelaw03_awake.f k ) (portagelaw03_awake.f (k + 1) ) := by
  intro  k
  have ih0 := portagelaw03_awake.mono_l k
  unfold portagelaw03_awake.f
  repeat' first
      | (with_reducible exact ih0 _)
      | (with_reducible exact LeO.refl _)
      | (with_reducible exact LeO.none _)
      | (with_reducible refine LeO.ite ?_ ?_)
      | (with_reducible refine LeO.bind ?_ (fun _ => ?_))
      | exact ih0 _
      | exact LeO.none _
      | refine LeO.ite ?_ ?_
      | refine LeO.bind ?_ (fun _ => ?_)
set_option maxHeartbeats 8000000 in
set_option maxRecDepth 100000 in
theorem portagelaw03_awake.calls (k : Nat)  (r : Bool) (w : World) (h : portagelaw03_awake.f k  = some r) :
    Calls Try.prog 39 #[] w fun e w' => e = .returned (.bool r) ∧ Drawn0 w w' := by
  have H : ((real_Add.f 4607182418800017408 4611686018427387904).bind fun t101 => (if t101 = 4613937818241073152 then ((real_Mul.f 4611686018427387904 4613937818241073152).bind fun t102 => (if t102 = 4618441417868443648 then ((real_Div.f 4618441417868443648 4613937818241073152).bind fun t103 => (portagelaw03_awake.j0 k (t103 != 4611686018427387904))) else (portagelaw03_awake.j0 k true))) else (portagelaw03_awake.j0 k true))) = some r := h
  clear h
  have HC1 := Aside0.mk H
  clear H
  go_enter Try.func39, Try.ntmps39
  go_upto_region 1 with (fail)
  go_cut [10] (fun v10 wc => ∃ (kq : Nat) (x10_0 : Bool), v10 = .bool x10_0 ∧ Aside0 (portagelaw03_awake.j0 kq x10_0 = some r) ∧ Aside0 (kq ≤ k) ∧ Drawn0 w wc)
  case first =>
    have H := HC1.out
    clear HC1
    replace H := Option.bind_eq_some_iff.mp H
    obtain ⟨t101, A20, H⟩ := H
    replace H : (if t101 = 4613937818241073152 then ((real_Mul.f 4611686018427387904 4613937818241073152).bind fun t102 => (if t102 = 4618441417868443648 then ((real_Div.f 4618441417868443648 4613937818241073152).bind fun t103 => (portagelaw03_awake.j0 k (t103 != 4611686018427387904))) else (portagelaw03_awake.j0 k true))) else (portagelaw03_awake.j0 k true)) = some r := H
    have A2 := Aside0.mk A20
    clear A20
    by_cases c3 : t101 = 4613937818241073152
    · rw [if_pos c3] at H
      have c3b0 : (t101 == 4613937818241073152) = true := beq_iff_eq.mpr c3
      have c3b1 : (t101 != 4613937818241073152) = false := bne_eq_false_iff_eq.mpr c3
      clear c3
      (first | rw [c3b0] | (simp only [i64_w, i32_w]; rw [c3b0]) | skip)
      replace H := Option.bind_eq_some_iff.mp H
      obtain ⟨t102, A40, H⟩ := H
      replace H : (if t102 = 4618441417868443648 then ((real_Div.f 4618441417868443648 4613937818241073152).bind fun t103 => (portagelaw03_awake.j0 k (t103 != 4611686018427387904))) else (portagelaw03_awake.j0 k true)) = some r := H
      have A4 := Aside0.mk A40
      clear A40
      by_cases c5 : t102 = 4618441417868443648
      · rw [if_pos c5] at H
        have c5b0 : (t102 == 4618441417868443648) = true := beq_iff_eq.mpr c5
        have c5b1 : (t102 != 4618441417868443648) = false := bne_eq_false_iff_eq.mpr c5
        clear c5
        replace H := Option.bind_eq_some_iff.mp H
        obtain ⟨t103, A60, H⟩ := H
        replace H : (portagelaw03_awake.j0 k (t103 != 4611686018427387904)) = some r := H
        have A6 := Aside0.mk A60
        clear A60
        have H' := Aside0.mk H
        clear H
        go_wp2_with (first | ((with_reducible refine gate_callee (f := 24) rfl ?_); refine goesL_ (some 1) rfl rfl Try.func24 (by kernel_rfl) rfl #[.int .u64 4607182418800017408, .int .u64 4611686018427387904] rfl (by (try simp only [List.map_toArray, List.map_cons, List.map_nil]); first | done | rfl | (simp only [List.length_drop, List.length_take]; rfl)) ?_; (with_reducible refine (real_Add.calls 4607182418800017408 4611686018427387904 t101 _ A2.out).mono ?_); rintro e w' ⟨rfl, ⟨nd, rfl⟩⟩; refine ⟨_, rfl, ?_⟩) | (go_at_call 28; (with_reducible refine (real_Mul.calls 4611686018427387904 4613937818241073152 t102 _ A4.out).mono ?_); rintro e w' ⟨rfl, ⟨nd, rfl⟩⟩) | (go_at_call 30; (with_reducible refine (real_Div.calls 4618441417868443648 4613937818241073152 t103 _ A6.out).mono ?_); rintro e w' ⟨rfl, ⟨nd, rfl⟩⟩))
        go_meet
        case rel => exact ⟨_, ((t103 != 4611686018427387904)), (by first | rfl | (simp; done) | (simp [*]; done)), H', ⟨by first | omega | exact Nat.le_refl _⟩, by repeat (first | exact Drawn0.refl _ | apply Drawn0.step)⟩
      · rw [if_neg c5] at H
        have c5b0 : (t102 == 4618441417868443648) = false := beq_eq_false_iff_ne.mpr c5
        have c5b1 : (t102 != 4618441417868443648) = true := bne_iff_ne.mpr c5
        have H' := Aside0.mk H
        clear H
        go_wp2_with (first | ((with_reducible refine gate_callee (f := 24) rfl ?_); refine goesL_ (some 1) rfl rfl Try.func24 (by kernel_rfl) rfl #[.int .u64 4607182418800017408, .int .u64 4611686018427387904] rfl (by (try simp only [List.map_toArray, List.map_cons, List.map_nil]); first | done | rfl | (simp only [List.length_drop, List.length_take]; rfl)) ?_; (with_reducible refine (real_Add.calls 4607182418800017408 4611686018427387904 t101 _ A2.out).mono ?_); rintro e w' ⟨rfl, ⟨nd, rfl⟩⟩; refine ⟨_, rfl, ?_⟩) | (go_at_call 28; (with_reducible refine (real_Mul.calls 4611686018427387904 4613937818241073152 t102 _ A4.out).mono ?_); rintro e w' ⟨rfl, ⟨nd, rfl⟩⟩))
        go_meet
        case rel => exact ⟨_, (true), (by first | rfl | (simp; done) | (simp [*]; done)), H', ⟨by first | omega | exact Nat.le_refl _⟩, by repeat (first | exact Drawn0.refl _ | apply Drawn0.step)⟩
    · rw [if_neg c3] at H
      have c3b0 : (t101 == 4613937818241073152) = false := beq_eq_false_iff_ne.mpr c3
      have c3b1 : (t101 != 4613937818241073152) = true := bne_iff_ne.mpr c3
      (first | rw [c3b0] | (simp only [i64_w, i32_w]; rw [c3b0]) | skip)
      have H' := Aside0.mk H
      clear H
      go_wp2_with (first | ((with_reducible refine gate_callee (f := 24) rfl ?_); refine goesL_ (some 1) rfl rfl Try.func24 (by kernel_rfl) rfl #[.int .u64 4607182418800017408, .int .u64 4611686018427387904] rfl (by (try simp only [List.map_toArray, List.map_cons, List.map_nil]); first | done | rfl | (simp only [List.length_drop, List.length_take]; rfl)) ?_; (with_reducible refine (real_Add.calls 4607182418800017408 4611686018427387904 t101 _ A2.out).mono ?_); rintro e w' ⟨rfl, ⟨nd, rfl⟩⟩; refine ⟨_, rfl, ?_⟩))
      go_meet
      case rel => exact ⟨_, (true), (by first | rfl | (simp; done) | (simp [*]; done)), H', ⟨by first | omega | exact Nat.le_refl _⟩, by repeat (first | exact Drawn0.refl _ | apply Drawn0.step)⟩
  case rest =>
    clear HC1
    try clear c2
    try clear p2
    try clear c3
    try clear c3b0
    try clear c3b1
    try clear c5
    try clear c5b0
    try clear c5b1
    obtain ⟨kq, x10_0, rfl, HA, HJ0, ⟨mc0, rfl⟩⟩ := hcut
    cases kq with
    | zero => exact absurd HA.out (by simp [portagelaw03_awake.j0])
    | succ kj0 =>
      have H := HA.out
      clear HA
      simp only [portagelaw03_awake.j0] at H
      by_cases c7 : x10_0 = true
      · subst c7
        have H1 : (some false) = some r := by rw [if_pos rfl] at H; exact H
        clear H
        have H := H1
        clear H1
        obtain rfl := Option.some.inj H
        go_wp2
        go_ret
        exact ⟨by first | rfl | (simp; done) | (simp [*]; done), by repeat (first | exact Drawn0.refl _ | apply Drawn0.step)⟩
      · replace c7 := Bool.eq_false_iff.mpr c7
        subst c7
        have H1 : ((real_Less.f 4607182418800017408 4611686018427387904).bind fun t104 => (if t104 = true then ((real_Equal.f 4613937818241073152 4613937818241073152).bind fun t105 => (if t105 = true then ((real_Sqrt.f 4607182418800017408).bind fun t106 => (if t106 = 4607182418800017408 then ((real_FromInt.f 6).bind fun t107 => (some (t107 == 4618441417868443648))) else (some false))) else (some false))) else (some false))) = some r := by rw [if_neg (show ¬ (false = true) by decide)] at H; exact H
        clear H
        have H := H1
        clear H1
        replace H := Option.bind_eq_some_iff.mp H
        obtain ⟨t104, A80, H⟩ := H
        replace H : (if t104 = true then ((real_Equal.f 4613937818241073152 4613937818241073152).bind fun t105 => (if t105 = true then ((real_Sqrt.f 4607182418800017408).bind fun t106 => (if t106 = 4607182418800017408 then ((real_FromInt.f 6).bind fun t107 => (some (t107 == 4618441417868443648))) else (some false))) else (some false))) else (some false)) = some r := H
        have A8 := Aside0.mk A80
        clear A80
        by_cases c9 : t104 = true
        · subst c9
          have H1 : ((real_Equal.f 4613937818241073152 4613937818241073152).bind fun t105 => (if t105 = true then ((real_Sqrt.f 4607182418800017408).bind fun t106 => (if t106 = 4607182418800017408 then ((real_FromInt.f 6).bind fun t107 => (some (t107 == 4618441417868443648))) else (some false))) else (some false))) = some r := by rw [if_pos rfl] at H; exact H
          clear H
          have H := H1
          clear H1
          replace H := Option.bind_eq_some_iff.mp H
          obtain ⟨t105, A100, H⟩ := H
          replace H : (if t105 = true then ((real_Sqrt.f 4607182418800017408).bind fun t106 => (if t106 = 4607182418800017408 then ((real_FromInt.f 6).bind fun t107 => (some (t107 == 4618441417868443648))) else (some false))) else (some false)) = some r := H
          have A10 := Aside0.mk A100
          clear A100
          by_cases c11 : t105 = true
          · subst c11
            have H1 : ((real_Sqrt.f 4607182418800017408).bind fun t106 => (if t106 = 4607182418800017408 then ((real_FromInt.f 6).bind fun t107 => (some (t107 == 4618441417868443648))) else (some false))) = some r := by rw [if_pos rfl] at H; exact H
            clear H
            have H := H1
            clear H1
            replace H := Option.bind_eq_some_iff.mp H
            obtain ⟨t106, A120, H⟩ := H
            replace H : (if t106 = 4607182418800017408 then ((real_FromInt.f 6).bind fun t107 => (some (t107 == 4618441417868443648))) else (some false)) = some r := H
            have A12 := Aside0.mk A120
            clear A120
            by_cases c13 : t106 = 4607182418800017408
            · rw [if_pos c13] at H
              have c13b0 : (t106 == 4607182418800017408) = true := beq_iff_eq.mpr c13
              have c13b1 : (t106 != 4607182418800017408) = false := bne_eq_false_iff_eq.mpr c13
              clear c13
              replace H := Option.bind_eq_some_iff.mp H
              obtain ⟨t107, A140, H⟩ := H
              replace H : (some (t107 == 4618441417868443648)) = some r := H
              have A14 := Aside0.mk A140
              clear A140
              obtain rfl := Option.some.inj H
              go_wp2_with (first | ((with_reducible refine gate_callee (f := 20) rfl ?_); refine goesL_ (some 11) rfl rfl Try.func20 (by kernel_rfl) rfl #[.int .u64 4607182418800017408, .int .u64 4611686018427387904] rfl (by (try simp only [List.map_toArray, List.map_cons, List.map_nil]); first | done | rfl | (simp only [List.length_drop, List.length_take]; rfl)) ?_; (with_reducible refine (real_Less.calls 4607182418800017408 4611686018427387904 true _ A8.out).mono ?_); rintro e w' ⟨rfl, ⟨nd, rfl⟩⟩; refine ⟨_, rfl, ?_⟩) | (go_at_call 22; (with_reducible refine (real_Equal.calls 4613937818241073152 4613937818241073152 true _ A10.out).mono ?_); rintro e w' ⟨rfl, ⟨nd, rfl⟩⟩) | (go_at_call 37; (with_reducible refine (real_Sqrt.calls 4607182418800017408 t106 _ A12.out).mono ?_); rintro e w' ⟨rfl, ⟨nd, rfl⟩⟩) | (go_at_call 35; (with_reducible refine (real_FromInt.calls 6 t107 _ A14.out).mono ?_); rintro e w' ⟨rfl, ⟨nd, rfl⟩⟩))
              go_ret
              exact ⟨by first | rfl | (simp; done) | (simp [*]; done), by repeat (first | exact Drawn0.refl _ | apply Drawn0.step)⟩
            · rw [if_neg c13] at H
              have c13b0 : (t106 == 4607182418800017408) = false := beq_eq_false_iff_ne.mpr c13
              have c13b1 : (t106 != 4607182418800017408) = true := bne_iff_ne.mpr c13
              obtain rfl := Option.some.inj H
              go_wp2_with (first | ((with_reducible refine gate_callee (f := 20) rfl ?_); refine goesL_ (some 11) rfl rfl Try.func20 (by kernel_rfl) rfl #[.int .u64 4607182418800017408, .int .u64 4611686018427387904] rfl (by (try simp only [List.map_toArray, List.map_cons, List.map_nil]); first | done | rfl | (simp only [List.length_drop, List.length_take]; rfl)) ?_; (with_reducible refine (real_Less.calls 4607182418800017408 4611686018427387904 true _ A8.out).mono ?_); rintro e w' ⟨rfl, ⟨nd, rfl⟩⟩; refine ⟨_, rfl, ?_⟩) | (go_at_call 22; (with_reducible refine (real_Equal.calls 4613937818241073152 4613937818241073152 true _ A10.out).mono ?_); rintro e w' ⟨rfl, ⟨nd, rfl⟩⟩) | (go_at_call 37; (with_reducible refine (real_Sqrt.calls 4607182418800017408 t106 _ A12.out).mono ?_); rintro e w' ⟨rfl, ⟨nd, rfl⟩⟩))
              go_ret
              exact ⟨by first | rfl | (simp; done) | (simp [*]; done), by repeat (first | exact Drawn0.refl _ | apply Drawn0.step)⟩
          · replace c11 := Bool.eq_false_iff.mpr c11
            subst c11
            have H1 : (some false) = some r := by rw [if_neg (show ¬ (false = true) by decide)] at H; exact H
            clear H
            have H := H1
            clear H1
            obtain rfl := Option.some.inj H
            go_wp2_with (first | ((with_reducible refine gate_callee (f := 20) rfl ?_); refine goesL_ (some 11) rfl rfl Try.func20 (by kernel_rfl) rfl #[.int .u64 4607182418800017408, .int .u64 4611686018427387904] rfl (by (try simp only [List.map_toArray, List.map_cons, List.map_nil]); first | done | rfl | (simp only [List.length_drop, List.length_take]; rfl)) ?_; (with_reducible refine (real_Less.calls 4607182418800017408 4611686018427387904 true _ A8.out).mono ?_); rintro e w' ⟨rfl, ⟨nd, rfl⟩⟩; refine ⟨_, rfl, ?_⟩) | (go_at_call 22; (with_reducible refine (real_Equal.calls 4613937818241073152 4613937818241073152 false _ A10.out).mono ?_); rintro e w' ⟨rfl, ⟨nd, rfl⟩⟩))
            go_ret
            exact ⟨by first | rfl | (simp; done) | (simp [*]; done), by repeat (first | exact Drawn0.refl _ | apply Drawn0.step)⟩
        · replace c9 := Bool.eq_false_iff.mpr c9
          subst c9
          have H1 : (some false) = some r := by rw [if_neg (show ¬ (false = true) by decide)] at H; exact H
          clear H
          have H := H1
          clear H1
          obtain rfl := Option.some.inj H
          go_wp2_with (first | ((with_reducible refine gate_callee (f := 20) rfl ?_); refine goesL_ (some 11) rfl rfl Try.func20 (by kernel_rfl) rfl #[.int .u64 4607182418800017408, .int .u64 4611686018427387904] rfl (by (try simp only [List.map_toArray, List.map_cons, List.map_nil]); first | done | rfl | (simp only [List.length_drop, List.length_take]; rfl)) ?_; (with_reducible refine (real_Less.calls 4607182418800017408 4611686018427387904 false _ A8.out).mono ?_); rintro e w' ⟨rfl, ⟨nd, rfl⟩⟩; refine ⟨_, rfl, ?_⟩))
          go_ret
          exact ⟨by first | rfl | (simp; done) | (simp [*]; done), by repeat (first | exact Drawn0.refl _ | apply Drawn0.step)⟩

-- NOT PRINTED: function 90 (math_archFloor)

-- NOT PRINTED: function 93 (math_IsNaN)

-- NOT PRINTED: function 75 (math_Abs)

-- NOT PRINTED: function 94 (math_IsInf)

-- NOT PRINTED: function 87 (math_archTrunc)

-- NOT PRINTED: function 92 (math_Copysign)

-- NOT PRINTED: function 88 (math_trunc)

-- NOT PRINTED: function 72 (math_Trunc)

-- NOT PRINTED: function 95 (math_Modf)

-- NOT PRINTED: function 91 (math_floor)

-- NOT PRINTED: function 74 (math_Floor)

/-! ### portagelaw03_proper: function 55 -/
def portagelaw03_proper.f (a0 : Int) : Option (Bool) := if a0 = 9221120237041090560 then (some true) else ((portagelaw03_isNaN.f a0).bind fun t108 => (some (!t108)))
set_option maxHeartbeats 8000000 in
set_option maxRecDepth 100000 in
theorem portagelaw03_proper.calls (a0 : Int) (r : Bool) (w : World) (h : portagelaw03_proper.f a0 = some r) :
    Calls Try.prog 55 #[.int .u64 a0] w fun e w' => e = .returned (.bool r) ∧ Drawn0 w w' := by
  have H : (if a0 = 9221120237041090560 then (some true) else ((portagelaw03_isNaN.f a0).bind fun t108 => (some (!t108)))) = some r := h
  clear h
  by_cases c2 : a0 = 9221120237041090560
  · rw [if_pos c2] at H
    have c2b0 : (a0 == 9221120237041090560) = true := beq_iff_eq.mpr c2
    have c2b1 : (a0 != 9221120237041090560) = false := bne_eq_false_iff_eq.mpr c2
    clear c2
    obtain rfl := Option.some.inj H
    go_enter Try.func55, Try.ntmps55
    go_wp2
    go_ret
    exact ⟨by first | rfl | (simp; done) | (simp [*]; done), by repeat (first | exact Drawn0.refl _ | apply Drawn0.step)⟩
  · rw [if_neg c2] at H
    have c2b0 : (a0 == 9221120237041090560) = false := beq_eq_false_iff_ne.mpr c2
    have c2b1 : (a0 != 9221120237041090560) = true := bne_iff_ne.mpr c2
    replace H := Option.bind_eq_some_iff.mp H
    obtain ⟨t108, A30, H⟩ := H
    replace H : (some (!t108)) = some r := H
    have A3 := Aside0.mk A30
    clear A30
    obtain rfl := Option.some.inj H
    go_enter Try.func55, Try.ntmps55
    go_wp2_with (first | (go_at_call 38; (with_reducible refine (portagelaw03_isNaN.calls a0 t108 _ A3.out).mono ?_); rintro e w' ⟨rfl, ⟨nd, rfl⟩⟩))
    go_ret
    exact ⟨by first | rfl | (simp; done) | (simp [*]; done), by repeat (first | exact Drawn0.refl _ | apply Drawn0.step)⟩

end Go.Proofs.Ytapgnackoclbeaa.PProper
