-- written by a program of this session (leafprint.py) over the translation; Lean checks it
import Derived.Test.YtapgnackoclbeaaFlD
import Derived.Test.YtapgnackoclbeaaPProperx0
import Derived.Test.YtapgnackoclbeaaPProperx1
namespace Go.Proofs.Ytapgnackoclbeaa.PProper
open Go.RowKit Go.Proofs.YtapgnackoclbeaaW.PrintWords Go.Proofs.YtapgnackoclbeaaW.PrintLast Go.Proofs.YtapgnackoclbeaaW.PrintMore
attribute [local go_sem] max2_int min2_int max_two min_two max_three min_three max_four min_four   -- for this text's walks alone
set_option linter.unusedVariables false
set_option linter.unusedSimpArgs false

theorem bits_low (b : Nat) : Go.bits .and .u64 (b : Int) 9223372036854775807 = (Fl.rung b : Nat) := by
  have h1 : Go.bits .and .u64 (b : Int) 9223372036854775807 = Go.bits .and .u64 ((b % 2^64 : Nat) : Int) 9223372036854775807 := by
    have h : BitVec.ofInt 64 (b : Int) = BitVec.ofInt 64 ((b % 2^64 : Nat) : Int) := by
      rw [BitVec.ofInt_natCast, BitVec.ofInt_natCast]
      apply BitVec.eq_of_toNat_eq
      rw [BitVec.toNat_ofNat, BitVec.toNat_ofNat, Nat.mod_mod]
    show IntKind.u64.wrap ((BitVec.ofInt 64 (b : Int) &&& BitVec.ofInt 64 9223372036854775807).toNat : Int) = IntKind.u64.wrap ((BitVec.ofInt 64 ((b % 2^64 : Nat) : Int) &&& BitVec.ofInt 64 9223372036854775807).toNat : Int)
    rw [h]
  rw [h1, PReal.and_rung _ (Nat.mod_lt _ (by omega))]
  unfold Fl.rung
  omega
/-- what 'laid' gives is no NaN but the one -/
theorem proper_laid (b : Nat) : portagelaw03_proper.f ((laidB b : Nat) : Int) = some true := by
  unfold portagelaw03_proper.f laidB
  by_cases h : (FloatKind.f64.format.order b b == some .eq) = true
  · rw [if_pos h]
    have hn : ¬ Fl.infR < Fl.rung b := by
      intro hc
      have := Fl.order_nan (a := b) (b := b) (Or.inl hc)
      rw [show FloatKind.f64.format.order b b = none from this] at h
      exact absurd h (by decide)
    by_cases c : (b : Int) = 9221120237041090560
    · rw [if_pos c]
    · rw [if_neg c]
      unfold portagelaw03_isNaN.f
      rw [bits_low]
      have hi : Fl.infR = 9218868437227405312 := rfl
      rw [decide_eq_false (by omega)]
      rfl
  · rw [if_neg h]
    rfl
theorem single_true {a t : Int} {u : Bool} (h1 : real_Single.f a = some t) (h2 : portagelaw03_proper.f t = some u) : u = true := by
  obtain rfl := Option.some.inj h1
  exact (Option.some.inj h2).symm

/-! ### portagelaw03_RealProper: function 18 -/
mutual
def portagelaw03_RealProper.j0 : Nat → Int → Int → Int → Int → Int → Int → Bool → Option (Bool)
  | 0, _, _, _, _, _, _, _ => none
  | k + 1, x0, x1, x7, x8, x9, x10, x47 => if x47 = true then (some false) else ((real_Neg.f x0).bind fun t119 => ((portagelaw03_proper.f t119).bind fun t120 => (if t120 = true then ((real_Sqrt.f x0).bind fun t121 => ((portagelaw03_proper.f t121).bind fun t122 => (if t122 = true then ((real_Floor.f x0).bind fun t123 => ((portagelaw03_proper.f t123).bind fun t124 => (if t124 = true then ((real_Single.f x0).bind fun t125 => ((portagelaw03_proper.f t125).bind fun t126 => (portagelaw03_RealProper.j1 k x0 x1 x7 x8 x9 x10 (!t126)))) else (portagelaw03_RealProper.j1 k x0 x1 x7 x8 x9 x10 true)))) else (portagelaw03_RealProper.j1 k x0 x1 x7 x8 x9 x10 true)))) else (portagelaw03_RealProper.j1 k x0 x1 x7 x8 x9 x10 true))))
def portagelaw03_RealProper.j1 : Nat → Int → Int → Int → Int → Int → Int → Bool → Option (Bool)
  | 0, _, _, _, _, _, _, _ => none
  | k + 1, x0, x1, x7, x8, x9, x10, x69 => if x69 = true then (some false) else ((real_Canon.f x0).bind fun t127 => ((real_Canon.f x1).bind fun t128 => ((portagelaw03_proper.f t127).bind fun t129 => (if t129 = true then ((portagelaw03_isNaN.f x0).bind fun t130 => (if t130 = true then ((portagelaw03_isNaN.f x0).bind fun t131 => (if t131 = true then (if t127 = 9221120237041090560 then ((real_Class.f t127).bind fun t132 => ((real_Class.f x0).bind fun t133 => (portagelaw03_RealProper.j2 k x0 x1 x7 x8 x9 x10 t127 t128 (t132 != t133)))) else (portagelaw03_RealProper.j2 k x0 x1 x7 x8 x9 x10 t127 t128 true)) else ((real_Class.f t127).bind fun t134 => ((real_Class.f x0).bind fun t135 => (portagelaw03_RealProper.j2 k x0 x1 x7 x8 x9 x10 t127 t128 (t134 != t135)))))) else (if t127 = x0 then ((portagelaw03_isNaN.f x0).bind fun t136 => (if t136 = true then (if t127 = 9221120237041090560 then ((real_Class.f t127).bind fun t137 => ((real_Class.f x0).bind fun t138 => (portagelaw03_RealProper.j2 k x0 x1 x7 x8 x9 x10 t127 t128 (t137 != t138)))) else (portagelaw03_RealProper.j2 k x0 x1 x7 x8 x9 x10 t127 t128 true)) else ((real_Class.f t127).bind fun t139 => ((real_Class.f x0).bind fun t140 => (portagelaw03_RealProper.j2 k x0 x1 x7 x8 x9 x10 t127 t128 (t139 != t140)))))) else (portagelaw03_RealProper.j2 k x0 x1 x7 x8 x9 x10 t127 t128 true)))) else (portagelaw03_RealProper.j2 k x0 x1 x7 x8 x9 x10 t127 t128 true)))))
def portagelaw03_RealProper.j2 : Nat → Int → Int → Int → Int → Int → Int → Int → Int → Bool → Option (Bool)
  | 0, _, _, _, _, _, _, _, _, _ => none
  | k + 1, x0, x1, x7, x8, x9, x10, x11, x12, x101 => if x101 = true then (some false) else ((real_Add.f x11 x12).bind fun t141 => (if t141 = x7 then ((real_Sub.f x11 x12).bind fun t142 => (if t142 = x8 then ((real_Mul.f x11 x12).bind fun t143 => (if t143 = x9 then ((real_Div.f x11 x12).bind fun t144 => (portagelaw03_RealProper.j3 k x0 x1 (t144 != x10))) else (portagelaw03_RealProper.j3 k x0 x1 true))) else (portagelaw03_RealProper.j3 k x0 x1 true))) else (portagelaw03_RealProper.j3 k x0 x1 true)))
def portagelaw03_RealProper.j3 : Nat → Int → Int → Bool → Option (Bool)
  | 0, _, _, _ => none
  | k + 1, x0, x1, x127 => if x127 = true then (some false) else ((portagelaw03_isNaN.f x0).bind fun t145 => (if t145 = true then ((real_Class.f x0).bind fun t146 => (if t146 = 0 then (if (true == true) = true then ((portagelaw03_awake.f k).bind fun t147 => (some t147)) else (some false)) else ((real_Class.f x1).bind fun t148 => (if (true == (t148 == 0)) = true then ((portagelaw03_awake.f k).bind fun t149 => (some t149)) else (some false))))) else ((portagelaw03_isNaN.f x1).bind fun t150 => ((real_Class.f x0).bind fun t151 => (if t151 = 0 then (if (t150 == true) = true then ((portagelaw03_awake.f k).bind fun t152 => (some t152)) else (some false)) else ((real_Class.f x1).bind fun t153 => (if (t150 == (t153 == 0)) = true then ((portagelaw03_awake.f k).bind fun t154 => (some t154)) else (some false))))))))
end
def portagelaw03_RealProper.f (k : Nat) (a0 : Int) (a1 : Int) (a2 : Int) : Option (Bool) := (real_Add.f a0 a1).bind fun t109 => ((real_Sub.f a0 a1).bind fun t110 => ((real_Mul.f a0 a1).bind fun t111 => ((real_Div.f a0 a1).bind fun t112 => ((portagelaw03_proper.f t109).bind fun t113 => (if t113 = true then ((portagelaw03_proper.f t110).bind fun t114 => (if t114 = true then ((portagelaw03_proper.f t111).bind fun t115 => (if t115 = true then ((portagelaw03_proper.f t112).bind fun t116 => (if t116 = true then ((real_FromInt.f a2).bind fun t117 => ((portagelaw03_isNaN.f t117).bind fun t118 => (portagelaw03_RealProper.j0 k a0 a1 t109 t110 t111 t112 t118))) else (portagelaw03_RealProper.j0 k a0 a1 t109 t110 t111 t112 true))) else (portagelaw03_RealProper.j0 k a0 a1 t109 t110 t111 t112 true))) else (portagelaw03_RealProper.j0 k a0 a1 t109 t110 t111 t112 true))) else (portagelaw03_RealProper.j0 k a0 a1 t109 t110 t111 t112 true))))))
theorem portagelaw03_RealProper.mono_l : ∀ k, (∀ y0 y1 y2 y3 y4 y5 y6, LeO (portagelaw03_RealProper.j0 k y0 y1 y2 y3 y4 y5 y6) (portagelaw03_RealProper.j0 (k + 1) y0 y1 y2 y3 y4 y5 y6)) ∧ (∀ y0 y1 y2 y3 y4 y5 y6, LeO (portagelaw03_RealProper.j1 k y0 y1 y2 y3 y4 y5 y6) (portagelaw03_RealProper.j1 (k + 1) y0 y1 y2 y3 y4 y5 y6)) ∧ (∀ y0 y1 y2 y3 y4 y5 y6 y7 y8, LeO (portagelaw03_RealProper.j2 k y0 y1 y2 y3 y4 y5 y6 y7 y8) (portagelaw03_RealProper.j2 (k + 1) y0 y1 y2 y3 y4 y5 y6 y7 y8)) ∧ (∀ y0 y1 y2, LeO (portagelaw03_RealProper.j3 k y0 y1 y2) (portagelaw03_RealProper.j3 (k + 1) y0 y1 y2))
  | 0 => ⟨fun _ _ _ _ _ _ _ r h => by simp [portagelaw03_RealProper.j0] at h, fun _ _ _ _ _ _ _ r h => by simp [portagelaw03_RealProper.j1] at h, fun _ _ _ _ _ _ _ _ _ r h => by simp [portagelaw03_RealProper.j2] at h, fun _ _ _ r h => by simp [portagelaw03_RealProper.j3] at h⟩
  | k + 1 => by
    obtain ⟨ih0, ih1, ih2, ih3⟩ := portagelaw03_RealProper.mono_l k
    refine ⟨?_, ?_, ?_, ?_⟩
    · intro y0 y1 y2 y3 y4 y5 y6
      unfold portagelaw03_RealProper.j0
      repeat' first
      | (with_reducible exact ih0 _ _ _ _ _ _ _)
      | (with_reducible exact ih1 _ _ _ _ _ _ _)
      | (with_reducible exact ih2 _ _ _ _ _ _ _ _ _)
      | (with_reducible exact ih3 _ _ _)
      | (with_reducible exact portagelaw03_awake.mono _)
      | (with_reducible exact LeO.refl _)
      | (with_reducible exact LeO.none _)
      | (with_reducible refine LeO.ite ?_ ?_)
      | (with_reducible refine LeO.bind ?_ (fun _ => ?_))
      | exact ih0 _ _ _ _ _ _ _
      | exact ih1 _ _ _ _ _ _ _
      | exact ih2 _ _ _ _ _ _ _ _ _
      | exact ih3 _ _ _
      | exact portagelaw03_awake.mono _
      | exact LeO.none _
      | refine LeO.ite ?_ ?_
      | refine LeO.bind ?_ (fun _ => ?_)
    · intro y0 y1 y2 y3 y4 y5 y6
      unfold portagelaw03_RealProper.j1
      repeat' first
      | (with_reducible exact ih0 _ _ _ _ _ _ _)
      | (with_reducible exact ih1 _ _ _ _ _ _ _)
      | (with_reducible exact ih2 _ _ _ _ _ _ _ _ _)
      | (with_reducible exact ih3 _ _ _)
      | (with_reducible exact portagelaw03_awake.mono _)
      | (with_reducible exact LeO.refl _)
      | (with_reducible exact LeO.none _)
      | (with_reducible refine LeO.ite ?_ ?_)
      | (with_reducible refine LeO.bind ?_ (fun _ => ?_))
      | exact ih0 _ _ _ _ _ _ _
      | exact ih1 _ _ _ _ _ _ _
      | exact ih2 _ _ _ _ _ _ _ _ _
      | exact ih3 _ _ _
      | exact portagelaw03_awake.mono _
      | exact LeO.none _
      | refine LeO.ite ?_ ?_
      | refine LeO.bind ?_ (fun _ => ?_)
    · intro y0 y1 y2 y3 y4 y5 y6 y7 y8
      unfold portagelaw03_RealProper.j2
      repeat' first
      | (with_reducible exact ih0 _ _ _ _ _ _ _)
      | (with_reducible exact ih1 _ _ _ _ _ _ _)
      | (with_reducible exact ih2 _ _ _ _ _ _ _ _ _)
      | (with_reducible exact ih3 _ _ _)
      | (with_reducible exact portagelaw03_awake.mono _)
      | (with_reducible exact LeO.refl _)
      | (with_reducible exact LeO.none _)
      | (with_reducible refine LeO.ite ?_ ?_)
      | (with_reducible refine LeO.bind ?_ (fun _ => ?_))
      | exact ih0 _ _ _ _ _ _ _
      | exact ih1 _ _ _ _ _ _ _
      | exact ih2 _ _ _ _ _ _ _ _ _
      | exact ih3 _ _ _
      | exact portagelaw03_awake.mono _
      | exact LeO.none _
      | refine LeO.ite ?_ ?_
      | refine LeO.bind ?_ (fun _ => ?_)
    · intro y0 y1 y2
      unfold portagelaw03_RealProper.j3
      repeat' first
      | (with_reducible exact ih0 _ _ _ _ _ _ _)
      | (with_reducible exact ih1 _ _ _ _ _ _ _)
      | (with_reducible exact ih2 _ _ _ _ _ _ _ _ _)
      | (with_reducible exact ih3 _ _ _)
      | (with_reducible exact portagelaw03_awake.mono _)
      | (with_reducible exact LeO.refl _)
      | (with_reducible exact LeO.none _)
      | (with_reducible refine LeO.ite ?_ ?_)
      | (with_reducible refine LeO.bind ?_ (fun _ => ?_))
      | exact ih0 _ _ _ _ _ _ _
      | exact ih1 _ _ _ _ _ _ _
      | exact ih2 _ _ _ _ _ _ _ _ _
      | exact ih3 _ _ _
      | exact portagelaw03_awake.mono _
      | exact LeO.none _
      | refine LeO.ite ?_ ?_
      | refine LeO.bind ?_ (fun _ => ?_)
theorem portagelaw03_RealProper.mono : ∀ a0 a1 a2 k, LeO (portagelaw03_RealProper.f k a0 a1 a2) (portagelaw03_RealProper.f (k + 1) a0 a1 a2) := by
  intro a0 a1 a2 k
  obtain ⟨ih0, ih1, ih2, ih3⟩ := portagelaw03_RealProper.mono_l k
  unfold portagelaw03_RealProper.f
  repeat' first
      | (with_reducible exact ih0 _ _ _ _ _ _ _)
      | (with_reducible exact ih1 _ _ _ _ _ _ _)
      | (with_reducible exact ih2 _ _ _ _ _ _ _ _ _)
      | (with_reducible exact ih3 _ _ _)
      | (with_reducible exact portagelaw03_awake.mono _)
      | (with_reducible exact LeO.refl _)
      | (with_reducible exact LeO.none _)
      | (with_reducible refine LeO.ite ?_ ?_)
      | (with_reducible refine LeO.bind ?_ (fun _ => ?_))
      | exact ih0 _ _ _ _ _ _ _
      | exact ih1 _ _ _ _ _ _ _
      | exact ih2 _ _ _ _ _ _ _ _ _
      | exact ih3 _ _ _
      | exact portagelaw03_awake.mono _
      | exact LeO.none _
      | refine LeO.ite ?_ ?_
      | refine LeO.bind ?_ (fun _ => ?_)
set_option maxHeartbeats 8000000 in
set_option maxRecDepth 100000 in
theorem portagelaw03_RealProper.calls (k : Nat) (a0 : Int) (a1 : Int) (a2 : Int) (r : Bool) (w : World) (h : portagelaw03_RealProper.f k a0 a1 a2 = some r) :
    Calls Try.prog 18 #[.int .u64 a0, .int .u64 a1, .int .i64 a2] w fun e w' => e = .returned (.bool r) ∧ Drawn0 w w' := by
  have H : ((real_Add.f a0 a1).bind fun t109 => ((real_Sub.f a0 a1).bind fun t110 => ((real_Mul.f a0 a1).bind fun t111 => ((real_Div.f a0 a1).bind fun t112 => ((portagelaw03_proper.f t109).bind fun t113 => (if t113 = true then ((portagelaw03_proper.f t110).bind fun t114 => (if t114 = true then ((portagelaw03_proper.f t111).bind fun t115 => (if t115 = true then ((portagelaw03_proper.f t112).bind fun t116 => (if t116 = true then ((real_FromInt.f a2).bind fun t117 => ((portagelaw03_isNaN.f t117).bind fun t118 => (portagelaw03_RealProper.j0 k a0 a1 t109 t110 t111 t112 t118))) else (portagelaw03_RealProper.j0 k a0 a1 t109 t110 t111 t112 true))) else (portagelaw03_RealProper.j0 k a0 a1 t109 t110 t111 t112 true))) else (portagelaw03_RealProper.j0 k a0 a1 t109 t110 t111 t112 true))) else (portagelaw03_RealProper.j0 k a0 a1 t109 t110 t111 t112 true))))))) = some r := h
  clear h
  replace H := Option.bind_eq_some_iff.mp H
  obtain ⟨t109, A40, H⟩ := H
  replace H : ((real_Sub.f a0 a1).bind fun t110 => ((real_Mul.f a0 a1).bind fun t111 => ((real_Div.f a0 a1).bind fun t112 => ((portagelaw03_proper.f t109).bind fun t113 => (if t113 = true then ((portagelaw03_proper.f t110).bind fun t114 => (if t114 = true then ((portagelaw03_proper.f t111).bind fun t115 => (if t115 = true then ((portagelaw03_proper.f t112).bind fun t116 => (if t116 = true then ((real_FromInt.f a2).bind fun t117 => ((portagelaw03_isNaN.f t117).bind fun t118 => (portagelaw03_RealProper.j0 k a0 a1 t109 t110 t111 t112 t118))) else (portagelaw03_RealProper.j0 k a0 a1 t109 t110 t111 t112 true))) else (portagelaw03_RealProper.j0 k a0 a1 t109 t110 t111 t112 true))) else (portagelaw03_RealProper.j0 k a0 a1 t109 t110 t111 t112 true))) else (portagelaw03_RealProper.j0 k a0 a1 t109 t110 t111 t112 true)))))) = some r := H
  have A4 := Aside0.mk A40
  clear A40
  replace H := Option.bind_eq_some_iff.mp H
  obtain ⟨t110, A50, H⟩ := H
  replace H : ((real_Mul.f a0 a1).bind fun t111 => ((real_Div.f a0 a1).bind fun t112 => ((portagelaw03_proper.f t109).bind fun t113 => (if t113 = true then ((portagelaw03_proper.f t110).bind fun t114 => (if t114 = true then ((portagelaw03_proper.f t111).bind fun t115 => (if t115 = true then ((portagelaw03_proper.f t112).bind fun t116 => (if t116 = true then ((real_FromInt.f a2).bind fun t117 => ((portagelaw03_isNaN.f t117).bind fun t118 => (portagelaw03_RealProper.j0 k a0 a1 t109 t110 t111 t112 t118))) else (portagelaw03_RealProper.j0 k a0 a1 t109 t110 t111 t112 true))) else (portagelaw03_RealProper.j0 k a0 a1 t109 t110 t111 t112 true))) else (portagelaw03_RealProper.j0 k a0 a1 t109 t110 t111 t112 true))) else (portagelaw03_RealProper.j0 k a0 a1 t109 t110 t111 t112 true))))) = some r := H
  have A5 := Aside0.mk A50
  clear A50
  replace H := Option.bind_eq_some_iff.mp H
  obtain ⟨t111, A60, H⟩ := H
  replace H : ((real_Div.f a0 a1).bind fun t112 => ((portagelaw03_proper.f t109).bind fun t113 => (if t113 = true then ((portagelaw03_proper.f t110).bind fun t114 => (if t114 = true then ((portagelaw03_proper.f t111).bind fun t115 => (if t115 = true then ((portagelaw03_proper.f t112).bind fun t116 => (if t116 = true then ((real_FromInt.f a2).bind fun t117 => ((portagelaw03_isNaN.f t117).bind fun t118 => (portagelaw03_RealProper.j0 k a0 a1 t109 t110 t111 t112 t118))) else (portagelaw03_RealProper.j0 k a0 a1 t109 t110 t111 t112 true))) else (portagelaw03_RealProper.j0 k a0 a1 t109 t110 t111 t112 true))) else (portagelaw03_RealProper.j0 k a0 a1 t109 t110 t111 t112 true))) else (portagelaw03_RealProper.j0 k a0 a1 t109 t110 t111 t112 true)))) = some r := H
  have A6 := Aside0.mk A60
  clear A60
  replace H := Option.bind_eq_some_iff.mp H
  obtain ⟨t112, A70, H⟩ := H
  replace H : ((portagelaw03_proper.f t109).bind fun t113 => (if t113 = true then ((portagelaw03_proper.f t110).bind fun t114 => (if t114 = true then ((portagelaw03_proper.f t111).bind fun t115 => (if t115 = true then ((portagelaw03_proper.f t112).bind fun t116 => (if t116 = true then ((real_FromInt.f a2).bind fun t117 => ((portagelaw03_isNaN.f t117).bind fun t118 => (portagelaw03_RealProper.j0 k a0 a1 t109 t110 t111 t112 t118))) else (portagelaw03_RealProper.j0 k a0 a1 t109 t110 t111 t112 true))) else (portagelaw03_RealProper.j0 k a0 a1 t109 t110 t111 t112 true))) else (portagelaw03_RealProper.j0 k a0 a1 t109 t110 t111 t112 true))) else (portagelaw03_RealProper.j0 k a0 a1 t109 t110 t111 t112 true))) = some r := H
  have A7 := Aside0.mk A70
  clear A70
  have HC8 := Aside0.mk H
  clear H
  go_enter Try.func18, Try.ntmps18
  go_upto_region 5 with (first | ((with_reducible refine gate_callee (f := 24) rfl ?_); refine goesL_ (some 15) rfl rfl Try.func24 (by kernel_rfl) rfl #[.int .u64 a0, .int .u64 a1] rfl (by (try simp only [List.map_toArray, List.map_cons, List.map_nil]); first | done | rfl | (simp only [List.length_drop, List.length_take]; rfl)) ?_; (with_reducible refine (real_Add.calls a0 a1 t109 _ A4.out).mono ?_); rintro e w' ⟨rfl, ⟨nd, rfl⟩⟩; refine ⟨_, rfl, ?_⟩) | ((with_reducible refine gate_callee (f := 26) rfl ?_); refine goesL_ (some 18) rfl rfl Try.func26 (by kernel_rfl) rfl #[.int .u64 a0, .int .u64 a1] rfl (by (try simp only [List.map_toArray, List.map_cons, List.map_nil]); first | done | rfl | (simp only [List.length_drop, List.length_take]; rfl)) ?_; (with_reducible refine (real_Sub.calls a0 a1 t110 _ A5.out).mono ?_); rintro e w' ⟨rfl, ⟨nd, rfl⟩⟩; refine ⟨_, rfl, ?_⟩) | ((with_reducible refine gate_callee (f := 28) rfl ?_); refine goesL_ (some 21) rfl rfl Try.func28 (by kernel_rfl) rfl #[.int .u64 a0, .int .u64 a1] rfl (by (try simp only [List.map_toArray, List.map_cons, List.map_nil]); first | done | rfl | (simp only [List.length_drop, List.length_take]; rfl)) ?_; (with_reducible refine (real_Mul.calls a0 a1 t111 _ A6.out).mono ?_); rintro e w' ⟨rfl, ⟨nd, rfl⟩⟩; refine ⟨_, rfl, ?_⟩) | ((with_reducible refine gate_callee (f := 30) rfl ?_); refine goesL_ (some 24) rfl rfl Try.func30 (by kernel_rfl) rfl #[.int .u64 a0, .int .u64 a1] rfl (by (try simp only [List.map_toArray, List.map_cons, List.map_nil]); first | done | rfl | (simp only [List.length_drop, List.length_take]; rfl)) ?_; (with_reducible refine (real_Div.calls a0 a1 t112 _ A7.out).mono ?_); rintro e w' ⟨rfl, ⟨nd, rfl⟩⟩; refine ⟨_, rfl, ?_⟩))
  (try simp only [Act.put, List.setIfInBounds_toArray, List.set_cons_zero, List.set_cons_succ])
  go_cut [47] (fun v47 wc => ∃ (kq : Nat) (x47_7 : Bool), v47 = .bool x47_7 ∧ Aside0 (portagelaw03_RealProper.j0 kq a0 a1 t109 t110 t111 t112 x47_7 = some r) ∧ Aside0 (kq ≤ k) ∧ Drawn0 w wc)
  case first =>
    have H := HC8.out
    clear HC8
    replace H := Option.bind_eq_some_iff.mp H
    obtain ⟨t113, A90, H⟩ := H
    replace H : (if t113 = true then ((portagelaw03_proper.f t110).bind fun t114 => (if t114 = true then ((portagelaw03_proper.f t111).bind fun t115 => (if t115 = true then ((portagelaw03_proper.f t112).bind fun t116 => (if t116 = true then ((real_FromInt.f a2).bind fun t117 => ((portagelaw03_isNaN.f t117).bind fun t118 => (portagelaw03_RealProper.j0 k a0 a1 t109 t110 t111 t112 t118))) else (portagelaw03_RealProper.j0 k a0 a1 t109 t110 t111 t112 true))) else (portagelaw03_RealProper.j0 k a0 a1 t109 t110 t111 t112 true))) else (portagelaw03_RealProper.j0 k a0 a1 t109 t110 t111 t112 true))) else (portagelaw03_RealProper.j0 k a0 a1 t109 t110 t111 t112 true)) = some r := H
    have A9 := Aside0.mk A90
    clear A90
    by_cases c10 : t113 = true
    · subst c10
      have H1 : ((portagelaw03_proper.f t110).bind fun t114 => (if t114 = true then ((portagelaw03_proper.f t111).bind fun t115 => (if t115 = true then ((portagelaw03_proper.f t112).bind fun t116 => (if t116 = true then ((real_FromInt.f a2).bind fun t117 => ((portagelaw03_isNaN.f t117).bind fun t118 => (portagelaw03_RealProper.j0 k a0 a1 t109 t110 t111 t112 t118))) else (portagelaw03_RealProper.j0 k a0 a1 t109 t110 t111 t112 true))) else (portagelaw03_RealProper.j0 k a0 a1 t109 t110 t111 t112 true))) else (portagelaw03_RealProper.j0 k a0 a1 t109 t110 t111 t112 true))) = some r := by rw [if_pos rfl] at H; exact H
      clear H
      have H := H1
      clear H1
      replace H := Option.bind_eq_some_iff.mp H
      obtain ⟨t114, A110, H⟩ := H
      replace H : (if t114 = true then ((portagelaw03_proper.f t111).bind fun t115 => (if t115 = true then ((portagelaw03_proper.f t112).bind fun t116 => (if t116 = true then ((real_FromInt.f a2).bind fun t117 => ((portagelaw03_isNaN.f t117).bind fun t118 => (portagelaw03_RealProper.j0 k a0 a1 t109 t110 t111 t112 t118))) else (portagelaw03_RealProper.j0 k a0 a1 t109 t110 t111 t112 true))) else (portagelaw03_RealProper.j0 k a0 a1 t109 t110 t111 t112 true))) else (portagelaw03_RealProper.j0 k a0 a1 t109 t110 t111 t112 true)) = some r := H
      have A11 := Aside0.mk A110
      clear A110
      by_cases c12 : t114 = true
      · subst c12
        have H1 : ((portagelaw03_proper.f t111).bind fun t115 => (if t115 = true then ((portagelaw03_proper.f t112).bind fun t116 => (if t116 = true then ((real_FromInt.f a2).bind fun t117 => ((portagelaw03_isNaN.f t117).bind fun t118 => (portagelaw03_RealProper.j0 k a0 a1 t109 t110 t111 t112 t118))) else (portagelaw03_RealProper.j0 k a0 a1 t109 t110 t111 t112 true))) else (portagelaw03_RealProper.j0 k a0 a1 t109 t110 t111 t112 true))) = some r := by rw [if_pos rfl] at H; exact H
        clear H
        have H := H1
        clear H1
        replace H := Option.bind_eq_some_iff.mp H
        obtain ⟨t115, A130, H⟩ := H
        replace H : (if t115 = true then ((portagelaw03_proper.f t112).bind fun t116 => (if t116 = true then ((real_FromInt.f a2).bind fun t117 => ((portagelaw03_isNaN.f t117).bind fun t118 => (portagelaw03_RealProper.j0 k a0 a1 t109 t110 t111 t112 t118))) else (portagelaw03_RealProper.j0 k a0 a1 t109 t110 t111 t112 true))) else (portagelaw03_RealProper.j0 k a0 a1 t109 t110 t111 t112 true)) = some r := H
        have A13 := Aside0.mk A130
        clear A130
        by_cases c14 : t115 = true
        · subst c14
          have H1 : ((portagelaw03_proper.f t112).bind fun t116 => (if t116 = true then ((real_FromInt.f a2).bind fun t117 => ((portagelaw03_isNaN.f t117).bind fun t118 => (portagelaw03_RealProper.j0 k a0 a1 t109 t110 t111 t112 t118))) else (portagelaw03_RealProper.j0 k a0 a1 t109 t110 t111 t112 true))) = some r := by rw [if_pos rfl] at H; exact H
          clear H
          have H := H1
          clear H1
          replace H := Option.bind_eq_some_iff.mp H
          obtain ⟨t116, A150, H⟩ := H
          replace H : (if t116 = true then ((real_FromInt.f a2).bind fun t117 => ((portagelaw03_isNaN.f t117).bind fun t118 => (portagelaw03_RealProper.j0 k a0 a1 t109 t110 t111 t112 t118))) else (portagelaw03_RealProper.j0 k a0 a1 t109 t110 t111 t112 true)) = some r := H
          have A15 := Aside0.mk A150
          clear A150
          by_cases c16 : t116 = true
          · subst c16
            have H1 : ((real_FromInt.f a2).bind fun t117 => ((portagelaw03_isNaN.f t117).bind fun t118 => (portagelaw03_RealProper.j0 k a0 a1 t109 t110 t111 t112 t118))) = some r := by rw [if_pos rfl] at H; exact H
            clear H
            have H := H1
            clear H1
            replace H := Option.bind_eq_some_iff.mp H
            obtain ⟨t117, A170, H⟩ := H
            replace H : ((portagelaw03_isNaN.f t117).bind fun t118 => (portagelaw03_RealProper.j0 k a0 a1 t109 t110 t111 t112 t118)) = some r := H
            have A17 := Aside0.mk A170
            clear A170
            replace H := Option.bind_eq_some_iff.mp H
            obtain ⟨t118, A180, H⟩ := H
            replace H : (portagelaw03_RealProper.j0 k a0 a1 t109 t110 t111 t112 t118) = some r := H
            have A18 := Aside0.mk A180
            clear A180
            have H' := Aside0.mk H
            clear H
            go_wp2_with (first | ((with_reducible refine gate_callee (f := 55) rfl ?_); refine goesL_ (some 26) rfl rfl Try.func55 (by kernel_rfl) rfl #[.int .u64 t109] rfl (by (try simp only [List.map_toArray, List.map_cons, List.map_nil]); first | done | rfl | (simp only [List.length_drop, List.length_take]; rfl)) ?_; (with_reducible refine (portagelaw03_proper.calls t109 true _ A9.out).mono ?_); rintro e w' ⟨rfl, ⟨nd, rfl⟩⟩; refine ⟨_, rfl, ?_⟩) | (go_at_call 55; (with_reducible refine (portagelaw03_proper.calls t110 true _ A11.out).mono ?_); rintro e w' ⟨rfl, ⟨nd, rfl⟩⟩) | (go_at_call 55; (with_reducible refine (portagelaw03_proper.calls t111 true _ A13.out).mono ?_); rintro e w' ⟨rfl, ⟨nd, rfl⟩⟩) | (go_at_call 55; (with_reducible refine (portagelaw03_proper.calls t112 true _ A15.out).mono ?_); rintro e w' ⟨rfl, ⟨nd, rfl⟩⟩) | (go_at_call 35; (with_reducible refine (real_FromInt.calls a2 t117 _ A17.out).mono ?_); rintro e w' ⟨rfl, ⟨nd, rfl⟩⟩) | (go_at_call 38; (with_reducible refine (portagelaw03_isNaN.calls t117 t118 _ A18.out).mono ?_); rintro e w' ⟨rfl, ⟨nd, rfl⟩⟩))
            go_meet
            case rel => exact ⟨_, (t118), (by first | rfl | (simp; done) | (simp [*]; done)), H', ⟨by first | omega | exact Nat.le_refl _⟩, by repeat (first | exact Drawn0.refl _ | apply Drawn0.step)⟩
          · replace c16 := Bool.eq_false_iff.mpr c16
            subst c16
            have H1 : (portagelaw03_RealProper.j0 k a0 a1 t109 t110 t111 t112 true) = some r := by rw [if_neg (show ¬ (false = true) by decide)] at H; exact H
            clear H
            have H := H1
            clear H1
            have H' := Aside0.mk H
            clear H
            go_wp2_with (first | ((with_reducible refine gate_callee (f := 55) rfl ?_); refine goesL_ (some 26) rfl rfl Try.func55 (by kernel_rfl) rfl #[.int .u64 t109] rfl (by (try simp only [List.map_toArray, List.map_cons, List.map_nil]); first | done | rfl | (simp only [List.length_drop, List.length_take]; rfl)) ?_; (with_reducible refine (portagelaw03_proper.calls t109 true _ A9.out).mono ?_); rintro e w' ⟨rfl, ⟨nd, rfl⟩⟩; refine ⟨_, rfl, ?_⟩) | (go_at_call 55; (with_reducible refine (portagelaw03_proper.calls t110 true _ A11.out).mono ?_); rintro e w' ⟨rfl, ⟨nd, rfl⟩⟩) | (go_at_call 55; (with_reducible refine (portagelaw03_proper.calls t111 true _ A13.out).mono ?_); rintro e w' ⟨rfl, ⟨nd, rfl⟩⟩) | (go_at_call 55; (with_reducible refine (portagelaw03_proper.calls t112 false _ A15.out).mono ?_); rintro e w' ⟨rfl, ⟨nd, rfl⟩⟩))
            go_meet
            case rel => exact ⟨_, (true), (by first | rfl | (simp; done) | (simp [*]; done)), H', ⟨by first | omega | exact Nat.le_refl _⟩, by repeat (first | exact Drawn0.refl _ | apply Drawn0.step)⟩
        · replace c14 := Bool.eq_false_iff.mpr c14
          subst c14
          have H1 : (portagelaw03_RealProper.j0 k a0 a1 t109 t110 t111 t112 true) = some r := by rw [if_neg (show ¬ (false = true) by decide)] at H; exact H
          clear H
          have H := H1
          clear H1
          have H' := Aside0.mk H
          clear H
          go_wp2_with (first | ((with_reducible refine gate_callee (f := 55) rfl ?_); refine goesL_ (some 26) rfl rfl Try.func55 (by kernel_rfl) rfl #[.int .u64 t109] rfl (by (try simp only [List.map_toArray, List.map_cons, List.map_nil]); first | done | rfl | (simp only [List.length_drop, List.length_take]; rfl)) ?_; (with_reducible refine (portagelaw03_proper.calls t109 true _ A9.out).mono ?_); rintro e w' ⟨rfl, ⟨nd, rfl⟩⟩; refine ⟨_, rfl, ?_⟩) | (go_at_call 55; (with_reducible refine (portagelaw03_proper.calls t110 true _ A11.out).mono ?_); rintro e w' ⟨rfl, ⟨nd, rfl⟩⟩) | (go_at_call 55; (with_reducible refine (portagelaw03_proper.calls t111 false _ A13.out).mono ?_); rintro e w' ⟨rfl, ⟨nd, rfl⟩⟩))
          go_meet
          case rel => exact ⟨_, (true), (by first | rfl | (simp; done) | (simp [*]; done)), H', ⟨by first | omega | exact Nat.le_refl _⟩, by repeat (first | exact Drawn0.refl _ | apply Drawn0.step)⟩
      · replace c12 := Bool.eq_false_iff.mpr c12
        subst c12
        have H1 : (portagelaw03_RealProper.j0 k a0 a1 t109 t110 t111 t112 true) = some r := by rw [if_neg (show ¬ (false = true) by decide)] at H; exact H
        clear H
        have H := H1
        clear H1
        have H' := Aside0.mk H
        clear H
        go_wp2_with (first | ((with_reducible refine gate_callee (f := 55) rfl ?_); refine goesL_ (some 26) rfl rfl Try.func55 (by kernel_rfl) rfl #[.int .u64 t109] rfl (by (try simp only [List.map_toArray, List.map_cons, List.map_nil]); first | done | rfl | (simp only [List.length_drop, List.length_take]; rfl)) ?_; (with_reducible refine (portagelaw03_proper.calls t109 true _ A9.out).mono ?_); rintro e w' ⟨rfl, ⟨nd, rfl⟩⟩; refine ⟨_, rfl, ?_⟩) | (go_at_call 55; (with_reducible refine (portagelaw03_proper.calls t110 false _ A11.out).mono ?_); rintro e w' ⟨rfl, ⟨nd, rfl⟩⟩))
        go_meet
        case rel => exact ⟨_, (true), (by first | rfl | (simp; done) | (simp [*]; done)), H', ⟨by first | omega | exact Nat.le_refl _⟩, by repeat (first | exact Drawn0.refl _ | apply Drawn0.step)⟩
    · replace c10 := Bool.eq_false_iff.mpr c10
      subst c10
      have H1 : (portagelaw03_RealProper.j0 k a0 a1 t109 t110 t111 t112 true) = some r := by rw [if_neg (show ¬ (false = true) by decide)] at H; exact H
      clear H
      have H := H1
      clear H1
      have H' := Aside0.mk H
      clear H
      go_wp2_with (first | ((with_reducible refine gate_callee (f := 55) rfl ?_); refine goesL_ (some 26) rfl rfl Try.func55 (by kernel_rfl) rfl #[.int .u64 t109] rfl (by (try simp only [List.map_toArray, List.map_cons, List.map_nil]); first | done | rfl | (simp only [List.length_drop, List.length_take]; rfl)) ?_; (with_reducible refine (portagelaw03_proper.calls t109 false _ A9.out).mono ?_); rintro e w' ⟨rfl, ⟨nd, rfl⟩⟩; refine ⟨_, rfl, ?_⟩))
      go_meet
      case rel => exact ⟨_, (true), (by first | rfl | (simp; done) | (simp [*]; done)), H', ⟨by first | omega | exact Nat.le_refl _⟩, by repeat (first | exact Drawn0.refl _ | apply Drawn0.step)⟩
  case rest =>
    clear HC8
    try clear c1
    try clear c2
    try clear p2
    try clear c3
    try clear c5
    try clear c10
    try clear c12
    try clear c14
    try clear c16
    try clear c18
    obtain ⟨kq, x47_7, rfl, HA, HJ7, ⟨mc7, rfl⟩⟩ := hcut
    cases kq with
    | zero => exact absurd HA.out (by simp [portagelaw03_RealProper.j0])
    | succ kj7 =>
      have H := HA.out
      clear HA
      simp only [portagelaw03_RealProper.j0] at H
      by_cases c19 : x47_7 = true
      · subst c19
        have H1 : (some false) = some r := by rw [if_pos rfl] at H; exact H
        clear H
        have H := H1
        clear H1
        obtain rfl := Option.some.inj H
        go_wp2
        go_ret
        exact ⟨by first | rfl | (simp; done) | (simp [*]; done), by repeat (first | exact Drawn0.refl _ | apply Drawn0.step)⟩
      · replace c19 := Bool.eq_false_iff.mpr c19
        subst c19
        have H1 : ((real_Neg.f a0).bind fun t119 => ((portagelaw03_proper.f t119).bind fun t120 => (if t120 = true then ((real_Sqrt.f a0).bind fun t121 => ((portagelaw03_proper.f t121).bind fun t122 => (if t122 = true then ((real_Floor.f a0).bind fun t123 => ((portagelaw03_proper.f t123).bind fun t124 => (if t124 = true then ((real_Single.f a0).bind fun t125 => ((portagelaw03_proper.f t125).bind fun t126 => (portagelaw03_RealProper.j1 kj7 a0 a1 t109 t110 t111 t112 (!t126)))) else (portagelaw03_RealProper.j1 kj7 a0 a1 t109 t110 t111 t112 true)))) else (portagelaw03_RealProper.j1 kj7 a0 a1 t109 t110 t111 t112 true)))) else (portagelaw03_RealProper.j1 kj7 a0 a1 t109 t110 t111 t112 true)))) = some r := by rw [if_neg (show ¬ (false = true) by decide)] at H; exact H
        clear H
        have H := H1
        clear H1
        have HC20 := Aside0.mk H
        clear H
        go_upto_region 7 with (fail)
        go_cut [69] (fun v69 wc => ∃ (kq : Nat) (x69_19 : Bool), v69 = .bool x69_19 ∧ Aside0 (portagelaw03_RealProper.j1 kq a0 a1 t109 t110 t111 t112 x69_19 = some r) ∧ Aside0 (kq ≤ kj7) ∧ Drawn0 w wc)
        case first =>
          have H := HC20.out
          clear HC20
          replace H := Option.bind_eq_some_iff.mp H
          obtain ⟨t119, A210, H⟩ := H
          replace H : ((portagelaw03_proper.f t119).bind fun t120 => (if t120 = true then ((real_Sqrt.f a0).bind fun t121 => ((portagelaw03_proper.f t121).bind fun t122 => (if t122 = true then ((real_Floor.f a0).bind fun t123 => ((portagelaw03_proper.f t123).bind fun t124 => (if t124 = true then ((real_Single.f a0).bind fun t125 => ((portagelaw03_proper.f t125).bind fun t126 => (portagelaw03_RealProper.j1 kj7 a0 a1 t109 t110 t111 t112 (!t126)))) else (portagelaw03_RealProper.j1 kj7 a0 a1 t109 t110 t111 t112 true)))) else (portagelaw03_RealProper.j1 kj7 a0 a1 t109 t110 t111 t112 true)))) else (portagelaw03_RealProper.j1 kj7 a0 a1 t109 t110 t111 t112 true))) = some r := H
          have A21 := Aside0.mk A210
          clear A210
          replace H := Option.bind_eq_some_iff.mp H
          obtain ⟨t120, A220, H⟩ := H
          replace H : (if t120 = true then ((real_Sqrt.f a0).bind fun t121 => ((portagelaw03_proper.f t121).bind fun t122 => (if t122 = true then ((real_Floor.f a0).bind fun t123 => ((portagelaw03_proper.f t123).bind fun t124 => (if t124 = true then ((real_Single.f a0).bind fun t125 => ((portagelaw03_proper.f t125).bind fun t126 => (portagelaw03_RealProper.j1 kj7 a0 a1 t109 t110 t111 t112 (!t126)))) else (portagelaw03_RealProper.j1 kj7 a0 a1 t109 t110 t111 t112 true)))) else (portagelaw03_RealProper.j1 kj7 a0 a1 t109 t110 t111 t112 true)))) else (portagelaw03_RealProper.j1 kj7 a0 a1 t109 t110 t111 t112 true)) = some r := H
          have A22 := Aside0.mk A220
          clear A220
          by_cases c23 : t120 = true
          · subst c23
            have H1 : ((real_Sqrt.f a0).bind fun t121 => ((portagelaw03_proper.f t121).bind fun t122 => (if t122 = true then ((real_Floor.f a0).bind fun t123 => ((portagelaw03_proper.f t123).bind fun t124 => (if t124 = true then ((real_Single.f a0).bind fun t125 => ((portagelaw03_proper.f t125).bind fun t126 => (portagelaw03_RealProper.j1 kj7 a0 a1 t109 t110 t111 t112 (!t126)))) else (portagelaw03_RealProper.j1 kj7 a0 a1 t109 t110 t111 t112 true)))) else (portagelaw03_RealProper.j1 kj7 a0 a1 t109 t110 t111 t112 true)))) = some r := by rw [if_pos rfl] at H; exact H
            clear H
            have H := H1
            clear H1
            replace H := Option.bind_eq_some_iff.mp H
            obtain ⟨t121, A240, H⟩ := H
            replace H : ((portagelaw03_proper.f t121).bind fun t122 => (if t122 = true then ((real_Floor.f a0).bind fun t123 => ((portagelaw03_proper.f t123).bind fun t124 => (if t124 = true then ((real_Single.f a0).bind fun t125 => ((portagelaw03_proper.f t125).bind fun t126 => (portagelaw03_RealProper.j1 kj7 a0 a1 t109 t110 t111 t112 (!t126)))) else (portagelaw03_RealProper.j1 kj7 a0 a1 t109 t110 t111 t112 true)))) else (portagelaw03_RealProper.j1 kj7 a0 a1 t109 t110 t111 t112 true))) = some r := H
            have A24 := Aside0.mk A240
            clear A240
            replace H := Option.bind_eq_some_iff.mp H
            obtain ⟨t122, A250, H⟩ := H
            replace H : (if t122 = true then ((real_Floor.f a0).bind fun t123 => ((portagelaw03_proper.f t123).bind fun t124 => (if t124 = true then ((real_Single.f a0).bind fun t125 => ((portagelaw03_proper.f t125).bind fun t126 => (portagelaw03_RealProper.j1 kj7 a0 a1 t109 t110 t111 t112 (!t126)))) else (portagelaw03_RealProper.j1 kj7 a0 a1 t109 t110 t111 t112 true)))) else (portagelaw03_RealProper.j1 kj7 a0 a1 t109 t110 t111 t112 true)) = some r := H
            have A25 := Aside0.mk A250
            clear A250
            by_cases c26 : t122 = true
            · subst c26
              have H1 : ((real_Floor.f a0).bind fun t123 => ((portagelaw03_proper.f t123).bind fun t124 => (if t124 = true then ((real_Single.f a0).bind fun t125 => ((portagelaw03_proper.f t125).bind fun t126 => (portagelaw03_RealProper.j1 kj7 a0 a1 t109 t110 t111 t112 (!t126)))) else (portagelaw03_RealProper.j1 kj7 a0 a1 t109 t110 t111 t112 true)))) = some r := by rw [if_pos rfl] at H; exact H
              clear H
              have H := H1
              clear H1
              replace H := Option.bind_eq_some_iff.mp H
              obtain ⟨t123, A270, H⟩ := H
              replace H : ((portagelaw03_proper.f t123).bind fun t124 => (if t124 = true then ((real_Single.f a0).bind fun t125 => ((portagelaw03_proper.f t125).bind fun t126 => (portagelaw03_RealProper.j1 kj7 a0 a1 t109 t110 t111 t112 (!t126)))) else (portagelaw03_RealProper.j1 kj7 a0 a1 t109 t110 t111 t112 true))) = some r := H
              have A27 := Aside0.mk A270
              clear A270
              replace H := Option.bind_eq_some_iff.mp H
              obtain ⟨t124, A280, H⟩ := H
              replace H : (if t124 = true then ((real_Single.f a0).bind fun t125 => ((portagelaw03_proper.f t125).bind fun t126 => (portagelaw03_RealProper.j1 kj7 a0 a1 t109 t110 t111 t112 (!t126)))) else (portagelaw03_RealProper.j1 kj7 a0 a1 t109 t110 t111 t112 true)) = some r := H
              have A28 := Aside0.mk A280
              clear A280
              by_cases c29 : t124 = true
              · subst c29
                have H1 : ((real_Single.f a0).bind fun t125 => ((portagelaw03_proper.f t125).bind fun t126 => (portagelaw03_RealProper.j1 kj7 a0 a1 t109 t110 t111 t112 (!t126)))) = some r := by rw [if_pos rfl] at H; exact H
                clear H
                have H := H1
                clear H1
                replace H := Option.bind_eq_some_iff.mp H
                obtain ⟨t125, A300, H⟩ := H
                replace H : ((portagelaw03_proper.f t125).bind fun t126 => (portagelaw03_RealProper.j1 kj7 a0 a1 t109 t110 t111 t112 (!t126))) = some r := H
                have A30 := Aside0.mk A300
                clear A300
                replace H := Option.bind_eq_some_iff.mp H
                obtain ⟨t126, A310, H⟩ := H
                replace H : (portagelaw03_RealProper.j1 kj7 a0 a1 t109 t110 t111 t112 (!t126)) = some r := H
                obtain rfl : t126 = true := single_true A30.out A310
                have A31 := Aside0.mk A310
                clear A310
                have H' := Aside0.mk H
                clear H
                go_wp2_with (first | ((with_reducible refine gate_callee (f := 42) rfl ?_); refine goesL_ (some 49) rfl rfl Try.func42 (by kernel_rfl) rfl #[.int .u64 a0] rfl (by (try simp only [List.map_toArray, List.map_cons, List.map_nil]); first | done | rfl | (simp only [List.length_drop, List.length_take]; rfl)) ?_; (with_reducible refine (real_Neg.calls a0 t119 _ A21.out).mono ?_); rintro e w' ⟨rfl, ⟨nd, rfl⟩⟩; refine ⟨_, rfl, ?_⟩) | ((with_reducible refine gate_callee (f := 55) rfl ?_); refine goesL_ (some 50) rfl rfl Try.func55 (by kernel_rfl) rfl #[.int .u64 t119] rfl (by (try simp only [List.map_toArray, List.map_cons, List.map_nil]); first | done | rfl | (simp only [List.length_drop, List.length_take]; rfl)) ?_; (with_reducible refine (portagelaw03_proper.calls t119 true _ A22.out).mono ?_); rintro e w' ⟨rfl, ⟨nd, rfl⟩⟩; refine ⟨_, rfl, ?_⟩) | (go_at_call 37; (with_reducible refine (real_Sqrt.calls a0 t121 _ A24.out).mono ?_); rintro e w' ⟨rfl, ⟨nd, rfl⟩⟩) | (go_at_call 55; (with_reducible refine (portagelaw03_proper.calls t121 true _ A25.out).mono ?_); rintro e w' ⟨rfl, ⟨nd, rfl⟩⟩) | (go_at_call 46; (with_reducible refine (real_Floor.calls a0 t123 _ A27.out).mono ?_); rintro e w' ⟨rfl, ⟨nd, rfl⟩⟩) | (go_at_call 55; (with_reducible refine (portagelaw03_proper.calls t123 true _ A28.out).mono ?_); rintro e w' ⟨rfl, ⟨nd, rfl⟩⟩) | (go_at_call 45; (with_reducible refine (Single_any a0 _).mono ?_); rintro e w' ⟨bS, nd, rfl, rfl⟩) | (go_at_call 55; (with_reducible refine (portagelaw03_proper.calls ((laidB bS : Nat) : Int) true _ (proper_laid bS)).mono ?_); rintro e w' ⟨rfl, ⟨nd, rfl⟩⟩))
                go_meet
                case rel => exact ⟨_, (!true), (by first | rfl | (simp; done) | (simp [*]; done)), H', ⟨by have := HJ7.out; first | omega | exact Nat.le_refl _⟩, by repeat (first | exact Drawn0.refl _ | apply Drawn0.step)⟩
              · replace c29 := Bool.eq_false_iff.mpr c29
                subst c29
                have H1 : (portagelaw03_RealProper.j1 kj7 a0 a1 t109 t110 t111 t112 true) = some r := by rw [if_neg (show ¬ (false = true) by decide)] at H; exact H
                clear H
                have H := H1
                clear H1
                have H' := Aside0.mk H
                clear H
                go_wp2_with (first | ((with_reducible refine gate_callee (f := 42) rfl ?_); refine goesL_ (some 49) rfl rfl Try.func42 (by kernel_rfl) rfl #[.int .u64 a0] rfl (by (try simp only [List.map_toArray, List.map_cons, List.map_nil]); first | done | rfl | (simp only [List.length_drop, List.length_take]; rfl)) ?_; (with_reducible refine (real_Neg.calls a0 t119 _ A21.out).mono ?_); rintro e w' ⟨rfl, ⟨nd, rfl⟩⟩; refine ⟨_, rfl, ?_⟩) | ((with_reducible refine gate_callee (f := 55) rfl ?_); refine goesL_ (some 50) rfl rfl Try.func55 (by kernel_rfl) rfl #[.int .u64 t119] rfl (by (try simp only [List.map_toArray, List.map_cons, List.map_nil]); first | done | rfl | (simp only [List.length_drop, List.length_take]; rfl)) ?_; (with_reducible refine (portagelaw03_proper.calls t119 true _ A22.out).mono ?_); rintro e w' ⟨rfl, ⟨nd, rfl⟩⟩; refine ⟨_, rfl, ?_⟩) | (go_at_call 37; (with_reducible refine (real_Sqrt.calls a0 t121 _ A24.out).mono ?_); rintro e w' ⟨rfl, ⟨nd, rfl⟩⟩) | (go_at_call 55; (with_reducible refine (portagelaw03_proper.calls t121 true _ A25.out).mono ?_); rintro e w' ⟨rfl, ⟨nd, rfl⟩⟩) | (go_at_call 46; (with_reducible refine (real_Floor.calls a0 t123 _ A27.out).mono ?_); rintro e w' ⟨rfl, ⟨nd, rfl⟩⟩) | (go_at_call 55; (with_reducible refine (portagelaw03_proper.calls t123 false _ A28.out).mono ?_); rintro e w' ⟨rfl, ⟨nd, rfl⟩⟩))
                go_meet
                case rel => exact ⟨_, (true), (by first | rfl | (simp; done) | (simp [*]; done)), H', ⟨by have := HJ7.out; first | omega | exact Nat.le_refl _⟩, by repeat (first | exact Drawn0.refl _ | apply Drawn0.step)⟩
            · replace c26 := Bool.eq_false_iff.mpr c26
              subst c26
              have H1 : (portagelaw03_RealProper.j1 kj7 a0 a1 t109 t110 t111 t112 true) = some r := by rw [if_neg (show ¬ (false = true) by decide)] at H; exact H
              clear H
              have H := H1
              clear H1
              have H' := Aside0.mk H
              clear H
              go_wp2_with (first | ((with_reducible refine gate_callee (f := 42) rfl ?_); refine goesL_ (some 49) rfl rfl Try.func42 (by kernel_rfl) rfl #[.int .u64 a0] rfl (by (try simp only [List.map_toArray, List.map_cons, List.map_nil]); first | done | rfl | (simp only [List.length_drop, List.length_take]; rfl)) ?_; (with_reducible refine (real_Neg.calls a0 t119 _ A21.out).mono ?_); rintro e w' ⟨rfl, ⟨nd, rfl⟩⟩; refine ⟨_, rfl, ?_⟩) | ((with_reducible refine gate_callee (f := 55) rfl ?_); refine goesL_ (some 50) rfl rfl Try.func55 (by kernel_rfl) rfl #[.int .u64 t119] rfl (by (try simp only [List.map_toArray, List.map_cons, List.map_nil]); first | done | rfl | (simp only [List.length_drop, List.length_take]; rfl)) ?_; (with_reducible refine (portagelaw03_proper.calls t119 true _ A22.out).mono ?_); rintro e w' ⟨rfl, ⟨nd, rfl⟩⟩; refine ⟨_, rfl, ?_⟩) | (go_at_call 37; (with_reducible refine (real_Sqrt.calls a0 t121 _ A24.out).mono ?_); rintro e w' ⟨rfl, ⟨nd, rfl⟩⟩) | (go_at_call 55; (with_reducible refine (portagelaw03_proper.calls t121 false _ A25.out).mono ?_); rintro e w' ⟨rfl, ⟨nd, rfl⟩⟩))
              go_meet
              case rel => exact ⟨_, (true), (by first | rfl | (simp; done) | (simp [*]; done)), H', ⟨by have := HJ7.out; first | omega | exact Nat.le_refl _⟩, by repeat (first | exact Drawn0.refl _ | apply Drawn0.step)⟩
          · replace c23 := Bool.eq_false_iff.mpr c23
            subst c23
            have H1 : (portagelaw03_RealProper.j1 kj7 a0 a1 t109 t110 t111 t112 true) = some r := by rw [if_neg (show ¬ (false = true) by decide)] at H; exact H
            clear H
            have H := H1
            clear H1
            have H' := Aside0.mk H
            clear H
            go_wp2_with (first | ((with_reducible refine gate_callee (f := 42) rfl ?_); refine goesL_ (some 49) rfl rfl Try.func42 (by kernel_rfl) rfl #[.int .u64 a0] rfl (by (try simp only [List.map_toArray, List.map_cons, List.map_nil]); first | done | rfl | (simp only [List.length_drop, List.length_take]; rfl)) ?_; (with_reducible refine (real_Neg.calls a0 t119 _ A21.out).mono ?_); rintro e w' ⟨rfl, ⟨nd, rfl⟩⟩; refine ⟨_, rfl, ?_⟩) | ((with_reducible refine gate_callee (f := 55) rfl ?_); refine goesL_ (some 50) rfl rfl Try.func55 (by kernel_rfl) rfl #[.int .u64 t119] rfl (by (try simp only [List.map_toArray, List.map_cons, List.map_nil]); first | done | rfl | (simp only [List.length_drop, List.length_take]; rfl)) ?_; (with_reducible refine (portagelaw03_proper.calls t119 false _ A22.out).mono ?_); rintro e w' ⟨rfl, ⟨nd, rfl⟩⟩; refine ⟨_, rfl, ?_⟩))
            go_meet
            case rel => exact ⟨_, (true), (by first | rfl | (simp; done) | (simp [*]; done)), H', ⟨by have := HJ7.out; first | omega | exact Nat.le_refl _⟩, by repeat (first | exact Drawn0.refl _ | apply Drawn0.step)⟩
        case rest =>
          clear HC20
          try clear c1
          try clear c2
          try clear p2
          try clear c3
          try clear c4
          try clear c5
          try clear c7
          try clear c10
          try clear c12
          try clear c14
          try clear c16
          try clear c18
          try clear c19
          try clear c23
          try clear c24
          try clear c26
          try clear c28
          try clear c29
          try clear c30
          try clear p2
          obtain ⟨kq, x69_19, rfl, HA, HJ19, ⟨mc19, rfl⟩⟩ := hcut
          cases kq with
          | zero => exact absurd HA.out (by simp [portagelaw03_RealProper.j1])
          | succ kj19 =>
            have H := HA.out
            clear HA
            simp only [portagelaw03_RealProper.j1] at H
            by_cases c32 : x69_19 = true
            · subst c32
              have H1 : (some false) = some r := by rw [if_pos rfl] at H; exact H
              clear H
              have H := H1
              clear H1
              obtain rfl := Option.some.inj H
              go_wp2
              go_ret
              exact ⟨by first | rfl | (simp; done) | (simp [*]; done), by repeat (first | exact Drawn0.refl _ | apply Drawn0.step)⟩
            · replace c32 := Bool.eq_false_iff.mpr c32
              subst c32
              have H1 : ((real_Canon.f a0).bind fun t127 => ((real_Canon.f a1).bind fun t128 => ((portagelaw03_proper.f t127).bind fun t129 => (if t129 = true then ((portagelaw03_isNaN.f a0).bind fun t130 => (if t130 = true then ((portagelaw03_isNaN.f a0).bind fun t131 => (if t131 = true then (if t127 = 9221120237041090560 then ((real_Class.f t127).bind fun t132 => ((real_Class.f a0).bind fun t133 => (portagelaw03_RealProper.j2 kj19 a0 a1 t109 t110 t111 t112 t127 t128 (t132 != t133)))) else (portagelaw03_RealProper.j2 kj19 a0 a1 t109 t110 t111 t112 t127 t128 true)) else ((real_Class.f t127).bind fun t134 => ((real_Class.f a0).bind fun t135 => (portagelaw03_RealProper.j2 kj19 a0 a1 t109 t110 t111 t112 t127 t128 (t134 != t135)))))) else (if t127 = a0 then ((portagelaw03_isNaN.f a0).bind fun t136 => (if t136 = true then (if t127 = 9221120237041090560 then ((real_Class.f t127).bind fun t137 => ((real_Class.f a0).bind fun t138 => (portagelaw03_RealProper.j2 kj19 a0 a1 t109 t110 t111 t112 t127 t128 (t137 != t138)))) else (portagelaw03_RealProper.j2 kj19 a0 a1 t109 t110 t111 t112 t127 t128 true)) else ((real_Class.f t127).bind fun t139 => ((real_Class.f a0).bind fun t140 => (portagelaw03_RealProper.j2 kj19 a0 a1 t109 t110 t111 t112 t127 t128 (t139 != t140)))))) else (portagelaw03_RealProper.j2 kj19 a0 a1 t109 t110 t111 t112 t127 t128 true)))) else (portagelaw03_RealProper.j2 kj19 a0 a1 t109 t110 t111 t112 t127 t128 true))))) = some r := by rw [if_neg (show ¬ (false = true) by decide)] at H; exact H
              clear H
              have H := H1
              clear H1
              replace H := Option.bind_eq_some_iff.mp H
              obtain ⟨t127, A330, H⟩ := H
              replace H : ((real_Canon.f a1).bind fun t128 => ((portagelaw03_proper.f t127).bind fun t129 => (if t129 = true then ((portagelaw03_isNaN.f a0).bind fun t130 => (if t130 = true then ((portagelaw03_isNaN.f a0).bind fun t131 => (if t131 = true then (if t127 = 9221120237041090560 then ((real_Class.f t127).bind fun t132 => ((real_Class.f a0).bind fun t133 => (portagelaw03_RealProper.j2 kj19 a0 a1 t109 t110 t111 t112 t127 t128 (t132 != t133)))) else (portagelaw03_RealProper.j2 kj19 a0 a1 t109 t110 t111 t112 t127 t128 true)) else ((real_Class.f t127).bind fun t134 => ((real_Class.f a0).bind fun t135 => (portagelaw03_RealProper.j2 kj19 a0 a1 t109 t110 t111 t112 t127 t128 (t134 != t135)))))) else (if t127 = a0 then ((portagelaw03_isNaN.f a0).bind fun t136 => (if t136 = true then (if t127 = 9221120237041090560 then ((real_Class.f t127).bind fun t137 => ((real_Class.f a0).bind fun t138 => (portagelaw03_RealProper.j2 kj19 a0 a1 t109 t110 t111 t112 t127 t128 (t137 != t138)))) else (portagelaw03_RealProper.j2 kj19 a0 a1 t109 t110 t111 t112 t127 t128 true)) else ((real_Class.f t127).bind fun t139 => ((real_Class.f a0).bind fun t140 => (portagelaw03_RealProper.j2 kj19 a0 a1 t109 t110 t111 t112 t127 t128 (t139 != t140)))))) else (portagelaw03_RealProper.j2 kj19 a0 a1 t109 t110 t111 t112 t127 t128 true)))) else (portagelaw03_RealProper.j2 kj19 a0 a1 t109 t110 t111 t112 t127 t128 true)))) = some r := H
              have A33 := Aside0.mk A330
              clear A330
              replace H := Option.bind_eq_some_iff.mp H
              obtain ⟨t128, A340, H⟩ := H
              replace H : ((portagelaw03_proper.f t127).bind fun t129 => (if t129 = true then ((portagelaw03_isNaN.f a0).bind fun t130 => (if t130 = true then ((portagelaw03_isNaN.f a0).bind fun t131 => (if t131 = true then (if t127 = 9221120237041090560 then ((real_Class.f t127).bind fun t132 => ((real_Class.f a0).bind fun t133 => (portagelaw03_RealProper.j2 kj19 a0 a1 t109 t110 t111 t112 t127 t128 (t132 != t133)))) else (portagelaw03_RealProper.j2 kj19 a0 a1 t109 t110 t111 t112 t127 t128 true)) else ((real_Class.f t127).bind fun t134 => ((real_Class.f a0).bind fun t135 => (portagelaw03_RealProper.j2 kj19 a0 a1 t109 t110 t111 t112 t127 t128 (t134 != t135)))))) else (if t127 = a0 then ((portagelaw03_isNaN.f a0).bind fun t136 => (if t136 = true then (if t127 = 9221120237041090560 then ((real_Class.f t127).bind fun t137 => ((real_Class.f a0).bind fun t138 => (portagelaw03_RealProper.j2 kj19 a0 a1 t109 t110 t111 t112 t127 t128 (t137 != t138)))) else (portagelaw03_RealProper.j2 kj19 a0 a1 t109 t110 t111 t112 t127 t128 true)) else ((real_Class.f t127).bind fun t139 => ((real_Class.f a0).bind fun t140 => (portagelaw03_RealProper.j2 kj19 a0 a1 t109 t110 t111 t112 t127 t128 (t139 != t140)))))) else (portagelaw03_RealProper.j2 kj19 a0 a1 t109 t110 t111 t112 t127 t128 true)))) else (portagelaw03_RealProper.j2 kj19 a0 a1 t109 t110 t111 t112 t127 t128 true))) = some r := H
              have A34 := Aside0.mk A340
              clear A340
              have HC35 := Aside0.mk H
              clear H
              go_upto_region 11 with (first | ((with_reducible refine gate_callee (f := 43) rfl ?_); refine goesL_ (some 71) rfl rfl Try.func43 (by kernel_rfl) rfl #[.int .u64 a0] rfl (by (try simp only [List.map_toArray, List.map_cons, List.map_nil]); first | done | rfl | (simp only [List.length_drop, List.length_take]; rfl)) ?_; (with_reducible refine (real_Canon.calls a0 t127 _ A33.out).mono ?_); rintro e w' ⟨rfl, ⟨nd, rfl⟩⟩; refine ⟨_, rfl, ?_⟩) | ((with_reducible refine gate_callee (f := 43) rfl ?_); refine goesL_ (some 73) rfl rfl Try.func43 (by kernel_rfl) rfl #[.int .u64 a1] rfl (by (try simp only [List.map_toArray, List.map_cons, List.map_nil]); first | done | rfl | (simp only [List.length_drop, List.length_take]; rfl)) ?_; (with_reducible refine (real_Canon.calls a1 t128 _ A34.out).mono ?_); rintro e w' ⟨rfl, ⟨nd, rfl⟩⟩; refine ⟨_, rfl, ?_⟩))
              (try simp only [Act.put, List.setIfInBounds_toArray, List.set_cons_zero, List.set_cons_succ])
              go_cut [101] (fun v101 wc => ∃ (kq : Nat) (x101_34 : Bool), v101 = .bool x101_34 ∧ Aside0 (portagelaw03_RealProper.j2 kq a0 a1 t109 t110 t111 t112 t127 t128 x101_34 = some r) ∧ Aside0 (kq ≤ kj19) ∧ Drawn0 w wc)
              case first =>
                have H := HC35.out
                clear HC35
                replace H := Option.bind_eq_some_iff.mp H
                obtain ⟨t129, A360, H⟩ := H
                replace H : (if t129 = true then ((portagelaw03_isNaN.f a0).bind fun t130 => (if t130 = true then ((portagelaw03_isNaN.f a0).bind fun t131 => (if t131 = true then (if t127 = 9221120237041090560 then ((real_Class.f t127).bind fun t132 => ((real_Class.f a0).bind fun t133 => (portagelaw03_RealProper.j2 kj19 a0 a1 t109 t110 t111 t112 t127 t128 (t132 != t133)))) else (portagelaw03_RealProper.j2 kj19 a0 a1 t109 t110 t111 t112 t127 t128 true)) else ((real_Class.f t127).bind fun t134 => ((real_Class.f a0).bind fun t135 => (portagelaw03_RealProper.j2 kj19 a0 a1 t109 t110 t111 t112 t127 t128 (t134 != t135)))))) else (if t127 = a0 then ((portagelaw03_isNaN.f a0).bind fun t136 => (if t136 = true then (if t127 = 9221120237041090560 then ((real_Class.f t127).bind fun t137 => ((real_Class.f a0).bind fun t138 => (portagelaw03_RealProper.j2 kj19 a0 a1 t109 t110 t111 t112 t127 t128 (t137 != t138)))) else (portagelaw03_RealProper.j2 kj19 a0 a1 t109 t110 t111 t112 t127 t128 true)) else ((real_Class.f t127).bind fun t139 => ((real_Class.f a0).bind fun t140 => (portagelaw03_RealProper.j2 kj19 a0 a1 t109 t110 t111 t112 t127 t128 (t139 != t140)))))) else (portagelaw03_RealProper.j2 kj19 a0 a1 t109 t110 t111 t112 t127 t128 true)))) else (portagelaw03_RealProper.j2 kj19 a0 a1 t109 t110 t111 t112 t127 t128 true)) = some r := H
                have A36 := Aside0.mk A360
                clear A360
                by_cases c37 : t129 = true
                · subst c37
                  have H1 : ((portagelaw03_isNaN.f a0).bind fun t130 => (if t130 = true then ((portagelaw03_isNaN.f a0).bind fun t131 => (if t131 = true then (if t127 = 9221120237041090560 then ((real_Class.f t127).bind fun t132 => ((real_Class.f a0).bind fun t133 => (portagelaw03_RealProper.j2 kj19 a0 a1 t109 t110 t111 t112 t127 t128 (t132 != t133)))) else (portagelaw03_RealProper.j2 kj19 a0 a1 t109 t110 t111 t112 t127 t128 true)) else ((real_Class.f t127).bind fun t134 => ((real_Class.f a0).bind fun t135 => (portagelaw03_RealProper.j2 kj19 a0 a1 t109 t110 t111 t112 t127 t128 (t134 != t135)))))) else (if t127 = a0 then ((portagelaw03_isNaN.f a0).bind fun t136 => (if t136 = true then (if t127 = 9221120237041090560 then ((real_Class.f t127).bind fun t137 => ((real_Class.f a0).bind fun t138 => (portagelaw03_RealProper.j2 kj19 a0 a1 t109 t110 t111 t112 t127 t128 (t137 != t138)))) else (portagelaw03_RealProper.j2 kj19 a0 a1 t109 t110 t111 t112 t127 t128 true)) else ((real_Class.f t127).bind fun t139 => ((real_Class.f a0).bind fun t140 => (portagelaw03_RealProper.j2 kj19 a0 a1 t109 t110 t111 t112 t127 t128 (t139 != t140)))))) else (portagelaw03_RealProper.j2 kj19 a0 a1 t109 t110 t111 t112 t127 t128 true)))) = some r := by rw [if_pos rfl] at H; exact H
                  clear H
                  have H := H1
                  clear H1
                  replace H := Option.bind_eq_some_iff.mp H
                  obtain ⟨t130, A380, H⟩ := H
                  replace H : (if t130 = true then ((portagelaw03_isNaN.f a0).bind fun t131 => (if t131 = true then (if t127 = 9221120237041090560 then ((real_Class.f t127).bind fun t132 => ((real_Class.f a0).bind fun t133 => (portagelaw03_RealProper.j2 kj19 a0 a1 t109 t110 t111 t112 t127 t128 (t132 != t133)))) else (portagelaw03_RealProper.j2 kj19 a0 a1 t109 t110 t111 t112 t127 t128 true)) else ((real_Class.f t127).bind fun t134 => ((real_Class.f a0).bind fun t135 => (portagelaw03_RealProper.j2 kj19 a0 a1 t109 t110 t111 t112 t127 t128 (t134 != t135)))))) else (if t127 = a0 then ((portagelaw03_isNaN.f a0).bind fun t136 => (if t136 = true then (if t127 = 9221120237041090560 then ((real_Class.f t127).bind fun t137 => ((real_Class.f a0).bind fun t138 => (portagelaw03_RealProper.j2 kj19 a0 a1 t109 t110 t111 t112 t127 t128 (t137 != t138)))) else (portagelaw03_RealProper.j2 kj19 a0 a1 t109 t110 t111 t112 t127 t128 true)) else ((real_Class.f t127).bind fun t139 => ((real_Class.f a0).bind fun t140 => (portagelaw03_RealProper.j2 kj19 a0 a1 t109 t110 t111 t112 t127 t128 (t139 != t140)))))) else (portagelaw03_RealProper.j2 kj19 a0 a1 t109 t110 t111 t112 t127 t128 true))) = some r := H
                  have A38 := Aside0.mk A380
                  clear A380
                  by_cases c39 : t130 = true
                  · subst c39
                    have H1 : ((portagelaw03_isNaN.f a0).bind fun t131 => (if t131 = true then (if t127 = 9221120237041090560 then ((real_Class.f t127).bind fun t132 => ((real_Class.f a0).bind fun t133 => (portagelaw03_RealProper.j2 kj19 a0 a1 t109 t110 t111 t112 t127 t128 (t132 != t133)))) else (portagelaw03_RealProper.j2 kj19 a0 a1 t109 t110 t111 t112 t127 t128 true)) else ((real_Class.f t127).bind fun t134 => ((real_Class.f a0).bind fun t135 => (portagelaw03_RealProper.j2 kj19 a0 a1 t109 t110 t111 t112 t127 t128 (t134 != t135)))))) = some r := by rw [if_pos rfl] at H; exact H
                    clear H
                    have H := H1
                    clear H1
                    replace H := Option.bind_eq_some_iff.mp H
                    obtain ⟨t131, A400, H⟩ := H
                    replace H : (if t131 = true then (if t127 = 9221120237041090560 then ((real_Class.f t127).bind fun t132 => ((real_Class.f a0).bind fun t133 => (portagelaw03_RealProper.j2 kj19 a0 a1 t109 t110 t111 t112 t127 t128 (t132 != t133)))) else (portagelaw03_RealProper.j2 kj19 a0 a1 t109 t110 t111 t112 t127 t128 true)) else ((real_Class.f t127).bind fun t134 => ((real_Class.f a0).bind fun t135 => (portagelaw03_RealProper.j2 kj19 a0 a1 t109 t110 t111 t112 t127 t128 (t134 != t135))))) = some r := H
                    have A40 := Aside0.mk A400
                    clear A400
                    by_cases c41 : t131 = true
                    · subst c41
                      have H1 : (if t127 = 9221120237041090560 then ((real_Class.f t127).bind fun t132 => ((real_Class.f a0).bind fun t133 => (portagelaw03_RealProper.j2 kj19 a0 a1 t109 t110 t111 t112 t127 t128 (t132 != t133)))) else (portagelaw03_RealProper.j2 kj19 a0 a1 t109 t110 t111 t112 t127 t128 true)) = some r := by rw [if_pos rfl] at H; exact H
                      clear H
                      have H := H1
                      clear H1
                      by_cases c42 : t127 = 9221120237041090560
                      · rw [if_pos c42] at H
                        have c42b0 : (t127 == 9221120237041090560) = true := beq_iff_eq.mpr c42
                        have c42b1 : (t127 != 9221120237041090560) = false := bne_eq_false_iff_eq.mpr c42
                        clear c42
                        (first | rw [c42b0] | (simp only [i64_w, i32_w]; rw [c42b0]) | skip)
                        replace H := Option.bind_eq_some_iff.mp H
                        obtain ⟨t132, A430, H⟩ := H
                        replace H : ((real_Class.f a0).bind fun t133 => (portagelaw03_RealProper.j2 kj19 a0 a1 t109 t110 t111 t112 t127 t128 (t132 != t133))) = some r := H
                        have A43 := Aside0.mk A430
                        clear A430
                        replace H := Option.bind_eq_some_iff.mp H
                        obtain ⟨t133, A440, H⟩ := H
                        replace H : (portagelaw03_RealProper.j2 kj19 a0 a1 t109 t110 t111 t112 t127 t128 (t132 != t133)) = some r := H
                        have A44 := Aside0.mk A440
                        clear A440
                        have H' := Aside0.mk H
                        clear H
                        go_wp2_with (first | ((with_reducible refine gate_callee (f := 55) rfl ?_); refine goesL_ (some 75) rfl rfl Try.func55 (by kernel_rfl) rfl #[.int .u64 t127] rfl (by (try simp only [List.map_toArray, List.map_cons, List.map_nil]); first | done | rfl | (simp only [List.length_drop, List.length_take]; rfl)) ?_; (with_reducible refine (portagelaw03_proper.calls t127 true _ A36.out).mono ?_); rintro e w' ⟨rfl, ⟨nd, rfl⟩⟩; refine ⟨_, rfl, ?_⟩) | (go_at_call 38; (with_reducible refine (portagelaw03_isNaN.calls a0 true _ A38.out).mono ?_); rintro e w' ⟨rfl, ⟨nd, rfl⟩⟩) | (go_at_call 38; (with_reducible refine (portagelaw03_isNaN.calls a0 true _ A40.out).mono ?_); rintro e w' ⟨rfl, ⟨nd, rfl⟩⟩) | (go_at_call 49; (with_reducible refine (real_Class.calls t127 t132 _ A43.out).mono ?_); rintro e w' ⟨rfl, ⟨nd, rfl⟩⟩) | (go_at_call 49; (with_reducible refine (real_Class.calls a0 t133 _ A44.out).mono ?_); rintro e w' ⟨rfl, ⟨nd, rfl⟩⟩))
                        go_meet
                        case rel => exact ⟨_, ((t132 != t133)), (by first | rfl | (simp; done) | (simp [*]; done)), H', ⟨by have := HJ7.out; have := HJ19.out; first | omega | exact Nat.le_refl _⟩, by repeat (first | exact Drawn0.refl _ | apply Drawn0.step)⟩
                      · rw [if_neg c42] at H
                        have c42b0 : (t127 == 9221120237041090560) = false := beq_eq_false_iff_ne.mpr c42
                        have c42b1 : (t127 != 9221120237041090560) = true := bne_iff_ne.mpr c42
                        (first | rw [c42b0] | (simp only [i64_w, i32_w]; rw [c42b0]) | skip)
                        have H' := Aside0.mk H
                        clear H
                        go_wp2_with (first | ((with_reducible refine gate_callee (f := 55) rfl ?_); refine goesL_ (some 75) rfl rfl Try.func55 (by kernel_rfl) rfl #[.int .u64 t127] rfl (by (try simp only [List.map_toArray, List.map_cons, List.map_nil]); first | done | rfl | (simp only [List.length_drop, List.length_take]; rfl)) ?_; (with_reducible refine (portagelaw03_proper.calls t127 true _ A36.out).mono ?_); rintro e w' ⟨rfl, ⟨nd, rfl⟩⟩; refine ⟨_, rfl, ?_⟩) | (go_at_call 38; (with_reducible refine (portagelaw03_isNaN.calls a0 true _ A38.out).mono ?_); rintro e w' ⟨rfl, ⟨nd, rfl⟩⟩) | (go_at_call 38; (with_reducible refine (portagelaw03_isNaN.calls a0 true _ A40.out).mono ?_); rintro e w' ⟨rfl, ⟨nd, rfl⟩⟩))
                        go_meet
                        case rel => exact ⟨_, (true), (by first | rfl | (simp; done) | (simp [*]; done)), H', ⟨by have := HJ7.out; have := HJ19.out; first | omega | exact Nat.le_refl _⟩, by repeat (first | exact Drawn0.refl _ | apply Drawn0.step)⟩
                    · replace c41 := Bool.eq_false_iff.mpr c41
                      subst c41
                      have H1 : ((real_Class.f t127).bind fun t134 => ((real_Class.f a0).bind fun t135 => (portagelaw03_RealProper.j2 kj19 a0 a1 t109 t110 t111 t112 t127 t128 (t134 != t135)))) = some r := by rw [if_neg (show ¬ (false = true) by decide)] at H; exact H
                      clear H
                      have H := H1
                      clear H1
                      replace H := Option.bind_eq_some_iff.mp H
                      obtain ⟨t134, A450, H⟩ := H
                      replace H : ((real_Class.f a0).bind fun t135 => (portagelaw03_RealProper.j2 kj19 a0 a1 t109 t110 t111 t112 t127 t128 (t134 != t135))) = some r := H
                      have A45 := Aside0.mk A450
                      clear A450
                      replace H := Option.bind_eq_some_iff.mp H
                      obtain ⟨t135, A460, H⟩ := H
                      replace H : (portagelaw03_RealProper.j2 kj19 a0 a1 t109 t110 t111 t112 t127 t128 (t134 != t135)) = some r := H
                      have A46 := Aside0.mk A460
                      clear A460
                      have H' := Aside0.mk H
                      clear H
                      exact absurd (A38.out.symm.trans A40.out) (by simp)
                  · replace c39 := Bool.eq_false_iff.mpr c39
                    subst c39
                    have H1 : (if t127 = a0 then ((portagelaw03_isNaN.f a0).bind fun t136 => (if t136 = true then (if t127 = 9221120237041090560 then ((real_Class.f t127).bind fun t137 => ((real_Class.f a0).bind fun t138 => (portagelaw03_RealProper.j2 kj19 a0 a1 t109 t110 t111 t112 t127 t128 (t137 != t138)))) else (portagelaw03_RealProper.j2 kj19 a0 a1 t109 t110 t111 t112 t127 t128 true)) else ((real_Class.f t127).bind fun t139 => ((real_Class.f a0).bind fun t140 => (portagelaw03_RealProper.j2 kj19 a0 a1 t109 t110 t111 t112 t127 t128 (t139 != t140)))))) else (portagelaw03_RealProper.j2 kj19 a0 a1 t109 t110 t111 t112 t127 t128 true)) = some r := by rw [if_neg (show ¬ (false = true) by decide)] at H; exact H
                    clear H
                    have H := H1
                    clear H1
                    by_cases c47 : t127 = a0
                    · rw [if_pos c47] at H
                      have c47b0 : (t127 == a0) = true := beq_iff_eq.mpr c47
                      have c47b1 : (t127 != a0) = false := bne_eq_false_iff_eq.mpr c47
                      clear c47
                      replace H := Option.bind_eq_some_iff.mp H
                      obtain ⟨t136, A480, H⟩ := H
                      replace H : (if t136 = true then (if t127 = 9221120237041090560 then ((real_Class.f t127).bind fun t137 => ((real_Class.f a0).bind fun t138 => (portagelaw03_RealProper.j2 kj19 a0 a1 t109 t110 t111 t112 t127 t128 (t137 != t138)))) else (portagelaw03_RealProper.j2 kj19 a0 a1 t109 t110 t111 t112 t127 t128 true)) else ((real_Class.f t127).bind fun t139 => ((real_Class.f a0).bind fun t140 => (portagelaw03_RealProper.j2 kj19 a0 a1 t109 t110 t111 t112 t127 t128 (t139 != t140))))) = some r := H
                      have A48 := Aside0.mk A480
                      clear A480
                      by_cases c49 : t136 = true
                      · subst c49
                        have H1 : (if t127 = 9221120237041090560 then ((real_Class.f t127).bind fun t137 => ((real_Class.f a0).bind fun t138 => (portagelaw03_RealProper.j2 kj19 a0 a1 t109 t110 t111 t112 t127 t128 (t137 != t138)))) else (portagelaw03_RealProper.j2 kj19 a0 a1 t109 t110 t111 t112 t127 t128 true)) = some r := by rw [if_pos rfl] at H; exact H
                        clear H
                        have H := H1
                        clear H1
                        by_cases c50 : t127 = 9221120237041090560
                        · rw [if_pos c50] at H
                          have c50b0 : (t127 == 9221120237041090560) = true := beq_iff_eq.mpr c50
                          have c50b1 : (t127 != 9221120237041090560) = false := bne_eq_false_iff_eq.mpr c50
                          clear c50
                          replace H := Option.bind_eq_some_iff.mp H
                          obtain ⟨t137, A510, H⟩ := H
                          replace H : ((real_Class.f a0).bind fun t138 => (portagelaw03_RealProper.j2 kj19 a0 a1 t109 t110 t111 t112 t127 t128 (t137 != t138))) = some r := H
                          have A51 := Aside0.mk A510
                          clear A510
                          replace H := Option.bind_eq_some_iff.mp H
                          obtain ⟨t138, A520, H⟩ := H
                          replace H : (portagelaw03_RealProper.j2 kj19 a0 a1 t109 t110 t111 t112 t127 t128 (t137 != t138)) = some r := H
                          have A52 := Aside0.mk A520
                          clear A520
                          have H' := Aside0.mk H
                          clear H
                          exact absurd (A48.out.symm.trans A38.out) (by simp)
                        · rw [if_neg c50] at H
                          have c50b0 : (t127 == 9221120237041090560) = false := beq_eq_false_iff_ne.mpr c50
                          have c50b1 : (t127 != 9221120237041090560) = true := bne_iff_ne.mpr c50
                          have H' := Aside0.mk H
                          clear H
                          exact absurd (A48.out.symm.trans A38.out) (by simp)
                      · replace c49 := Bool.eq_false_iff.mpr c49
                        subst c49
                        have H1 : ((real_Class.f t127).bind fun t139 => ((real_Class.f a0).bind fun t140 => (portagelaw03_RealProper.j2 kj19 a0 a1 t109 t110 t111 t112 t127 t128 (t139 != t140)))) = some r := by rw [if_neg (show ¬ (false = true) by decide)] at H; exact H
                        clear H
                        have H := H1
                        clear H1
                        replace H := Option.bind_eq_some_iff.mp H
                        obtain ⟨t139, A530, H⟩ := H
                        replace H : ((real_Class.f a0).bind fun t140 => (portagelaw03_RealProper.j2 kj19 a0 a1 t109 t110 t111 t112 t127 t128 (t139 != t140))) = some r := H
                        have A53 := Aside0.mk A530
                        clear A530
                        replace H := Option.bind_eq_some_iff.mp H
                        obtain ⟨t140, A540, H⟩ := H
                        replace H : (portagelaw03_RealProper.j2 kj19 a0 a1 t109 t110 t111 t112 t127 t128 (t139 != t140)) = some r := H
                        have A54 := Aside0.mk A540
                        clear A540
                        have H' := Aside0.mk H
                        clear H
                        go_wp2_with (first | ((with_reducible refine gate_callee (f := 55) rfl ?_); refine goesL_ (some 75) rfl rfl Try.func55 (by kernel_rfl) rfl #[.int .u64 t127] rfl (by (try simp only [List.map_toArray, List.map_cons, List.map_nil]); first | done | rfl | (simp only [List.length_drop, List.length_take]; rfl)) ?_; (with_reducible refine (portagelaw03_proper.calls t127 true _ A36.out).mono ?_); rintro e w' ⟨rfl, ⟨nd, rfl⟩⟩; refine ⟨_, rfl, ?_⟩) | (go_at_call 38; (with_reducible refine (portagelaw03_isNaN.calls a0 false _ A38.out).mono ?_); rintro e w' ⟨rfl, ⟨nd, rfl⟩⟩) | (go_at_call 38; (with_reducible refine (portagelaw03_isNaN.calls a0 false _ A48.out).mono ?_); rintro e w' ⟨rfl, ⟨nd, rfl⟩⟩) | (go_at_call 49; (with_reducible refine (real_Class.calls t127 t139 _ A53.out).mono ?_); rintro e w' ⟨rfl, ⟨nd, rfl⟩⟩) | (go_at_call 49; (with_reducible refine (real_Class.calls a0 t140 _ A54.out).mono ?_); rintro e w' ⟨rfl, ⟨nd, rfl⟩⟩))
                        go_meet
                        case rel => exact ⟨_, ((t139 != t140)), (by first | rfl | (simp; done) | (simp [*]; done)), H', ⟨by have := HJ7.out; have := HJ19.out; first | omega | exact Nat.le_refl _⟩, by repeat (first | exact Drawn0.refl _ | apply Drawn0.step)⟩
                    · rw [if_neg c47] at H
                      have c47b0 : (t127 == a0) = false := beq_eq_false_iff_ne.mpr c47
                      have c47b1 : (t127 != a0) = true := bne_iff_ne.mpr c47
                      have H' := Aside0.mk H
                      clear H
                      go_wp2_with (first | ((with_reducible refine gate_callee (f := 55) rfl ?_); refine goesL_ (some 75) rfl rfl Try.func55 (by kernel_rfl) rfl #[.int .u64 t127] rfl (by (try simp only [List.map_toArray, List.map_cons, List.map_nil]); first | done | rfl | (simp only [List.length_drop, List.length_take]; rfl)) ?_; (with_reducible refine (portagelaw03_proper.calls t127 true _ A36.out).mono ?_); rintro e w' ⟨rfl, ⟨nd, rfl⟩⟩; refine ⟨_, rfl, ?_⟩) | (go_at_call 38; (with_reducible refine (portagelaw03_isNaN.calls a0 false _ A38.out).mono ?_); rintro e w' ⟨rfl, ⟨nd, rfl⟩⟩))
                      go_meet
                      case rel => exact ⟨_, (true), (by first | rfl | (simp; done) | (simp [*]; done)), H', ⟨by have := HJ7.out; have := HJ19.out; first | omega | exact Nat.le_refl _⟩, by repeat (first | exact Drawn0.refl _ | apply Drawn0.step)⟩
                · replace c37 := Bool.eq_false_iff.mpr c37
                  subst c37
                  have H1 : (portagelaw03_RealProper.j2 kj19 a0 a1 t109 t110 t111 t112 t127 t128 true) = some r := by rw [if_neg (show ¬ (false = true) by decide)] at H; exact H
                  clear H
                  have H := H1
                  clear H1
                  have H' := Aside0.mk H
                  clear H
                  go_wp2_with (first | ((with_reducible refine gate_callee (f := 55) rfl ?_); refine goesL_ (some 75) rfl rfl Try.func55 (by kernel_rfl) rfl #[.int .u64 t127] rfl (by (try simp only [List.map_toArray, List.map_cons, List.map_nil]); first | done | rfl | (simp only [List.length_drop, List.length_take]; rfl)) ?_; (with_reducible refine (portagelaw03_proper.calls t127 false _ A36.out).mono ?_); rintro e w' ⟨rfl, ⟨nd, rfl⟩⟩; refine ⟨_, rfl, ?_⟩))
                  go_meet
                  case rel => exact ⟨_, (true), (by first | rfl | (simp; done) | (simp [*]; done)), H', ⟨by have := HJ7.out; have := HJ19.out; first | omega | exact Nat.le_refl _⟩, by repeat (first | exact Drawn0.refl _ | apply Drawn0.step)⟩
              case rest =>
                clear HC35
                try clear c1
                try clear c2
                try clear p2
                try clear c3
                try clear c4
                try clear c5
                try clear c7
                try clear c10
                try clear c12
                try clear c14
                try clear c16
                try clear c18
                try clear c19
                try clear c23
                try clear c24
                try clear c26
                try clear c28
                try clear c29
                try clear c30
                try clear c32
                try clear c37
                try clear c39
                try clear c41
                try clear c42
                try clear c42b0
                try clear c42b1
                try clear c43
                try clear c47
                try clear c47b0
                try clear c47b1
                try clear c49
                try clear c50
                try clear c50b0
                try clear c50b1
                try clear p2
                obtain ⟨kq, x101_34, rfl, HA, HJ34, ⟨mc34, rfl⟩⟩ := hcut
                cases kq with
                | zero => exact absurd HA.out (by simp [portagelaw03_RealProper.j2])
                | succ kj34 =>
                  have H := HA.out
                  clear HA
                  simp only [portagelaw03_RealProper.j2] at H
                  by_cases c55 : x101_34 = true
                  · subst c55
                    have H1 : (some false) = some r := by rw [if_pos rfl] at H; exact H
                    clear H
                    have H := H1
                    clear H1
                    obtain rfl := Option.some.inj H
                    go_wp2
                    go_ret
                    exact ⟨by first | rfl | (simp; done) | (simp [*]; done), by repeat (first | exact Drawn0.refl _ | apply Drawn0.step)⟩
                  · replace c55 := Bool.eq_false_iff.mpr c55
                    subst c55
                    have H1 : ((real_Add.f t127 t128).bind fun t141 => (if t141 = t109 then ((real_Sub.f t127 t128).bind fun t142 => (if t142 = t110 then ((real_Mul.f t127 t128).bind fun t143 => (if t143 = t111 then ((real_Div.f t127 t128).bind fun t144 => (portagelaw03_RealProper.j3 kj34 a0 a1 (t144 != t112))) else (portagelaw03_RealProper.j3 kj34 a0 a1 true))) else (portagelaw03_RealProper.j3 kj34 a0 a1 true))) else (portagelaw03_RealProper.j3 kj34 a0 a1 true))) = some r := by rw [if_neg (show ¬ (false = true) by decide)] at H; exact H
                    clear H
                    have H := H1
                    clear H1
                    have HC56 := Aside0.mk H
                    clear H
                    go_upto_region 13 with (fail)
                    go_cut [127] (fun v127 wc => ∃ (kq : Nat) (x127_55 : Bool), v127 = .bool x127_55 ∧ Aside0 (portagelaw03_RealProper.j3 kq a0 a1 x127_55 = some r) ∧ Aside0 (kq ≤ kj34) ∧ Drawn0 w wc)
                    case first =>
                      have H := HC56.out
                      clear HC56
                      replace H := Option.bind_eq_some_iff.mp H
                      obtain ⟨t141, A570, H⟩ := H
                      replace H : (if t141 = t109 then ((real_Sub.f t127 t128).bind fun t142 => (if t142 = t110 then ((real_Mul.f t127 t128).bind fun t143 => (if t143 = t111 then ((real_Div.f t127 t128).bind fun t144 => (portagelaw03_RealProper.j3 kj34 a0 a1 (t144 != t112))) else (portagelaw03_RealProper.j3 kj34 a0 a1 true))) else (portagelaw03_RealProper.j3 kj34 a0 a1 true))) else (portagelaw03_RealProper.j3 kj34 a0 a1 true)) = some r := H
                      have A57 := Aside0.mk A570
                      clear A570
                      by_cases c58 : t141 = t109
                      · rw [if_pos c58] at H
                        have c58b0 : (t141 == t109) = true := beq_iff_eq.mpr c58
                        have c58b1 : (t141 != t109) = false := bne_eq_false_iff_eq.mpr c58
                        clear c58
                        (first | rw [c58b0] | (simp only [i64_w, i32_w]; rw [c58b0]) | skip)
                        replace H := Option.bind_eq_some_iff.mp H
                        obtain ⟨t142, A590, H⟩ := H
                        replace H : (if t142 = t110 then ((real_Mul.f t127 t128).bind fun t143 => (if t143 = t111 then ((real_Div.f t127 t128).bind fun t144 => (portagelaw03_RealProper.j3 kj34 a0 a1 (t144 != t112))) else (portagelaw03_RealProper.j3 kj34 a0 a1 true))) else (portagelaw03_RealProper.j3 kj34 a0 a1 true)) = some r := H
                        have A59 := Aside0.mk A590
                        clear A590
                        by_cases c60 : t142 = t110
                        · rw [if_pos c60] at H
                          have c60b0 : (t142 == t110) = true := beq_iff_eq.mpr c60
                          have c60b1 : (t142 != t110) = false := bne_eq_false_iff_eq.mpr c60
                          clear c60
                          replace H := Option.bind_eq_some_iff.mp H
                          obtain ⟨t143, A610, H⟩ := H
                          replace H : (if t143 = t111 then ((real_Div.f t127 t128).bind fun t144 => (portagelaw03_RealProper.j3 kj34 a0 a1 (t144 != t112))) else (portagelaw03_RealProper.j3 kj34 a0 a1 true)) = some r := H
                          have A61 := Aside0.mk A610
                          clear A610
                          by_cases c62 : t143 = t111
                          · rw [if_pos c62] at H
                            have c62b0 : (t143 == t111) = true := beq_iff_eq.mpr c62
                            have c62b1 : (t143 != t111) = false := bne_eq_false_iff_eq.mpr c62
                            clear c62
                            replace H := Option.bind_eq_some_iff.mp H
                            obtain ⟨t144, A630, H⟩ := H
                            replace H : (portagelaw03_RealProper.j3 kj34 a0 a1 (t144 != t112)) = some r := H
                            have A63 := Aside0.mk A630
                            clear A630
                            have H' := Aside0.mk H
                            clear H
                            go_wp2_with (first | ((with_reducible refine gate_callee (f := 24) rfl ?_); refine goesL_ (some 104) rfl rfl Try.func24 (by kernel_rfl) rfl #[.int .u64 t127, .int .u64 t128] rfl (by (try simp only [List.map_toArray, List.map_cons, List.map_nil]); first | done | rfl | (simp only [List.length_drop, List.length_take]; rfl)) ?_; (with_reducible refine (real_Add.calls t127 t128 t141 _ A57.out).mono ?_); rintro e w' ⟨rfl, ⟨nd, rfl⟩⟩; refine ⟨_, rfl, ?_⟩) | (go_at_call 26; (with_reducible refine (real_Sub.calls t127 t128 t142 _ A59.out).mono ?_); rintro e w' ⟨rfl, ⟨nd, rfl⟩⟩) | (go_at_call 28; (with_reducible refine (real_Mul.calls t127 t128 t143 _ A61.out).mono ?_); rintro e w' ⟨rfl, ⟨nd, rfl⟩⟩) | (go_at_call 30; (with_reducible refine (real_Div.calls t127 t128 t144 _ A63.out).mono ?_); rintro e w' ⟨rfl, ⟨nd, rfl⟩⟩))
                            go_meet
                            case rel => exact ⟨_, ((t144 != t112)), (by first | rfl | (simp; done) | (simp [*]; done)), H', ⟨by have := HJ7.out; have := HJ19.out; have := HJ34.out; first | omega | exact Nat.le_refl _⟩, by repeat (first | exact Drawn0.refl _ | apply Drawn0.step)⟩
                          · rw [if_neg c62] at H
                            have c62b0 : (t143 == t111) = false := beq_eq_false_iff_ne.mpr c62
                            have c62b1 : (t143 != t111) = true := bne_iff_ne.mpr c62
                            have H' := Aside0.mk H
                            clear H
                            go_wp2_with (first | ((with_reducible refine gate_callee (f := 24) rfl ?_); refine goesL_ (some 104) rfl rfl Try.func24 (by kernel_rfl) rfl #[.int .u64 t127, .int .u64 t128] rfl (by (try simp only [List.map_toArray, List.map_cons, List.map_nil]); first | done | rfl | (simp only [List.length_drop, List.length_take]; rfl)) ?_; (with_reducible refine (real_Add.calls t127 t128 t141 _ A57.out).mono ?_); rintro e w' ⟨rfl, ⟨nd, rfl⟩⟩; refine ⟨_, rfl, ?_⟩) | (go_at_call 26; (with_reducible refine (real_Sub.calls t127 t128 t142 _ A59.out).mono ?_); rintro e w' ⟨rfl, ⟨nd, rfl⟩⟩) | (go_at_call 28; (with_reducible refine (real_Mul.calls t127 t128 t143 _ A61.out).mono ?_); rintro e w' ⟨rfl, ⟨nd, rfl⟩⟩))
                            go_meet
                            case rel => exact ⟨_, (true), (by first | rfl | (simp; done) | (simp [*]; done)), H', ⟨by have := HJ7.out; have := HJ19.out; have := HJ34.out; first | omega | exact Nat.le_refl _⟩, by repeat (first | exact Drawn0.refl _ | apply Drawn0.step)⟩
                        · rw [if_neg c60] at H
                          have c60b0 : (t142 == t110) = false := beq_eq_false_iff_ne.mpr c60
                          have c60b1 : (t142 != t110) = true := bne_iff_ne.mpr c60
                          have H' := Aside0.mk H
                          clear H
                          go_wp2_with (first | ((with_reducible refine gate_callee (f := 24) rfl ?_); refine goesL_ (some 104) rfl rfl Try.func24 (by kernel_rfl) rfl #[.int .u64 t127, .int .u64 t128] rfl (by (try simp only [List.map_toArray, List.map_cons, List.map_nil]); first | done | rfl | (simp only [List.length_drop, List.length_take]; rfl)) ?_; (with_reducible refine (real_Add.calls t127 t128 t141 _ A57.out).mono ?_); rintro e w' ⟨rfl, ⟨nd, rfl⟩⟩; refine ⟨_, rfl, ?_⟩) | (go_at_call 26; (with_reducible refine (real_Sub.calls t127 t128 t142 _ A59.out).mono ?_); rintro e w' ⟨rfl, ⟨nd, rfl⟩⟩))
                          go_meet
                          case rel => exact ⟨_, (true), (by first | rfl | (simp; done) | (simp [*]; done)), H', ⟨by have := HJ7.out; have := HJ19.out; have := HJ34.out; first | omega | exact Nat.le_refl _⟩, by repeat (first | exact Drawn0.refl _ | apply Drawn0.step)⟩
                      · rw [if_neg c58] at H
                        have c58b0 : (t141 == t109) = false := beq_eq_false_iff_ne.mpr c58
                        have c58b1 : (t141 != t109) = true := bne_iff_ne.mpr c58
                        (first | rw [c58b0] | (simp only [i64_w, i32_w]; rw [c58b0]) | skip)
                        have H' := Aside0.mk H
                        clear H
                        go_wp2_with (first | ((with_reducible refine gate_callee (f := 24) rfl ?_); refine goesL_ (some 104) rfl rfl Try.func24 (by kernel_rfl) rfl #[.int .u64 t127, .int .u64 t128] rfl (by (try simp only [List.map_toArray, List.map_cons, List.map_nil]); first | done | rfl | (simp only [List.length_drop, List.length_take]; rfl)) ?_; (with_reducible refine (real_Add.calls t127 t128 t141 _ A57.out).mono ?_); rintro e w' ⟨rfl, ⟨nd, rfl⟩⟩; refine ⟨_, rfl, ?_⟩))
                        go_meet
                        case rel => exact ⟨_, (true), (by first | rfl | (simp; done) | (simp [*]; done)), H', ⟨by have := HJ7.out; have := HJ19.out; have := HJ34.out; first | omega | exact Nat.le_refl _⟩, by repeat (first | exact Drawn0.refl _ | apply Drawn0.step)⟩
                    case rest =>
                      clear HC56
                      try clear c1
                      try clear c2
                      try clear p2
                      try clear c3
                      try clear c4
                      try clear c5
                      try clear c6
                      try clear c7
                      try clear c10
                      try clear c12
                      try clear c14
                      try clear c16
                      try clear c18
                      try clear c19
                      try clear c23
                      try clear c24
                      try clear c26
                      try clear c28
                      try clear c29
                      try clear c30
                      try clear c32
                      try clear c34
                      try clear c37
                      try clear c39
                      try clear c41
                      try clear c42
                      try clear c42b0
                      try clear c42b1
                      try clear c43
                      try clear c47
                      try clear c47b0
                      try clear c47b1
                      try clear c49
                      try clear c50
                      try clear c50b0
                      try clear c50b1
                      try clear c55
                      try clear c58
                      try clear c58b0
                      try clear c58b1
                      try clear c60
                      try clear c60b0
                      try clear c60b1
                      try clear c62
                      try clear c62b0
                      try clear c62b1
                      try clear p2
                      obtain ⟨kq, x127_55, rfl, HA, HJ55, ⟨mc55, rfl⟩⟩ := hcut
                      cases kq with
                      | zero => exact absurd HA.out (by simp [portagelaw03_RealProper.j3])
                      | succ kj55 =>
                        have H := HA.out
                        clear HA
                        simp only [portagelaw03_RealProper.j3] at H
                        by_cases c64 : x127_55 = true
                        · subst c64
                          have H1 : (some false) = some r := by rw [if_pos rfl] at H; exact H
                          clear H
                          have H := H1
                          clear H1
                          obtain rfl := Option.some.inj H
                          go_wp2
                          go_ret
                          exact ⟨by first | rfl | (simp; done) | (simp [*]; done), by repeat (first | exact Drawn0.refl _ | apply Drawn0.step)⟩
                        · replace c64 := Bool.eq_false_iff.mpr c64
                          subst c64
                          have H1 : ((portagelaw03_isNaN.f a0).bind fun t145 => (if t145 = true then ((real_Class.f a0).bind fun t146 => (if t146 = 0 then (if (true == true) = true then ((portagelaw03_awake.f kj55).bind fun t147 => (some t147)) else (some false)) else ((real_Class.f a1).bind fun t148 => (if (true == (t148 == 0)) = true then ((portagelaw03_awake.f kj55).bind fun t149 => (some t149)) else (some false))))) else ((portagelaw03_isNaN.f a1).bind fun t150 => ((real_Class.f a0).bind fun t151 => (if t151 = 0 then (if (t150 == true) = true then ((portagelaw03_awake.f kj55).bind fun t152 => (some t152)) else (some false)) else ((real_Class.f a1).bind fun t153 => (if (t150 == (t153 == 0)) = true then ((portagelaw03_awake.f kj55).bind fun t154 => (some t154)) else (some false)))))))) = some r := by rw [if_neg (show ¬ (false = true) by decide)] at H; exact H
                          clear H
                          have H := H1
                          clear H1
                          replace H := Option.bind_eq_some_iff.mp H
                          obtain ⟨t145, A650, H⟩ := H
                          replace H : (if t145 = true then ((real_Class.f a0).bind fun t146 => (if t146 = 0 then (if (true == true) = true then ((portagelaw03_awake.f kj55).bind fun t147 => (some t147)) else (some false)) else ((real_Class.f a1).bind fun t148 => (if (true == (t148 == 0)) = true then ((portagelaw03_awake.f kj55).bind fun t149 => (some t149)) else (some false))))) else ((portagelaw03_isNaN.f a1).bind fun t150 => ((real_Class.f a0).bind fun t151 => (if t151 = 0 then (if (t150 == true) = true then ((portagelaw03_awake.f kj55).bind fun t152 => (some t152)) else (some false)) else ((real_Class.f a1).bind fun t153 => (if (t150 == (t153 == 0)) = true then ((portagelaw03_awake.f kj55).bind fun t154 => (some t154)) else (some false))))))) = some r := H
                          have A65 := Aside0.mk A650
                          clear A650
                          by_cases c66 : t145 = true
                          · subst c66
                            have H1 : ((real_Class.f a0).bind fun t146 => (if t146 = 0 then (if (true == true) = true then ((portagelaw03_awake.f kj55).bind fun t147 => (some t147)) else (some false)) else ((real_Class.f a1).bind fun t148 => (if (true == (t148 == 0)) = true then ((portagelaw03_awake.f kj55).bind fun t149 => (some t149)) else (some false))))) = some r := by rw [if_pos rfl] at H; exact H
                            clear H
                            have H := H1
                            clear H1
                            replace H := Option.bind_eq_some_iff.mp H
                            obtain ⟨t146, A670, H⟩ := H
                            replace H : (if t146 = 0 then (if (true == true) = true then ((portagelaw03_awake.f kj55).bind fun t147 => (some t147)) else (some false)) else ((real_Class.f a1).bind fun t148 => (if (true == (t148 == 0)) = true then ((portagelaw03_awake.f kj55).bind fun t149 => (some t149)) else (some false)))) = some r := H
                            have A67 := Aside0.mk A670
                            clear A670
                            by_cases c68 : t146 = 0
                            · rw [if_pos c68] at H
                              have c68b0 : (t146 == 0) = true := beq_iff_eq.mpr c68
                              have c68b1 : (t146 != 0) = false := bne_eq_false_iff_eq.mpr c68
                              clear c68
                              by_cases c69 : (true == true) = true
                              · rw [if_pos c69] at H
                                have c69b0 : (true == true) = true := c69
                                clear c69
                                replace H := Option.bind_eq_some_iff.mp H
                                obtain ⟨t147, A700, H⟩ := H
                                replace H : (some t147) = some r := H
                                have A70 := Aside0.mk A700
                                clear A700
                                obtain rfl := Option.some.inj H
                                go_wp2_with (first | ((with_reducible refine gate_callee (f := 38) rfl ?_); refine goesL_ (some 129) rfl rfl Try.func38 (by kernel_rfl) rfl #[.int .u64 a0] rfl (by (try simp only [List.map_toArray, List.map_cons, List.map_nil]); first | done | rfl | (simp only [List.length_drop, List.length_take]; rfl)) ?_; (with_reducible refine (portagelaw03_isNaN.calls a0 true _ A65.out).mono ?_); rintro e w' ⟨rfl, ⟨nd, rfl⟩⟩; refine ⟨_, rfl, ?_⟩) | ((with_reducible refine gate_callee (f := 49) rfl ?_); refine goesL_ (some 135) rfl rfl Try.func49 (by kernel_rfl) rfl #[.int .u64 a0] rfl (by (try simp only [List.map_toArray, List.map_cons, List.map_nil]); first | done | rfl | (simp only [List.length_drop, List.length_take]; rfl)) ?_; (with_reducible refine (real_Class.calls a0 t146 _ A67.out).mono ?_); rintro e w' ⟨rfl, ⟨nd, rfl⟩⟩; refine ⟨_, rfl, ?_⟩) | (go_at_call 39; (with_reducible refine (portagelaw03_awake.calls kj55  t147 _ A70.out).mono ?_); rintro e w' ⟨rfl, ⟨nd, rfl⟩⟩))
                                go_ret
                                exact ⟨by first | rfl | (simp; done) | (simp [*]; done), by repeat (first | exact Drawn0.refl _ | apply Drawn0.step)⟩
                              · exact absurd rfl c69
                            · rw [if_neg c68] at H
                              have c68b0 : (t146 == 0) = false := beq_eq_false_iff_ne.mpr c68
                              have c68b1 : (t146 != 0) = true := bne_iff_ne.mpr c68
                              replace H := Option.bind_eq_some_iff.mp H
                              obtain ⟨t148, A710, H⟩ := H
                              replace H : (if (true == (t148 == 0)) = true then ((portagelaw03_awake.f kj55).bind fun t149 => (some t149)) else (some false)) = some r := H
                              have A71 := Aside0.mk A710
                              clear A710
                              by_cases c72 : (true == (t148 == 0)) = true
                              · rw [if_pos c72] at H
                                have c72b0 : (true == (t148 == 0)) = true := c72
                                (try (have c72b1 : decide (true = (t148 == 0)) = true := by simpa using c72))
                                (try (have c72b2 : (true == (t148 == 0)) = true := by simpa using c72))
                                clear c72
                                replace H := Option.bind_eq_some_iff.mp H
                                obtain ⟨t149, A730, H⟩ := H
                                replace H : (some t149) = some r := H
                                have A73 := Aside0.mk A730
                                clear A730
                                obtain rfl := Option.some.inj H
                                go_wp2_with (first | ((with_reducible refine gate_callee (f := 38) rfl ?_); refine goesL_ (some 129) rfl rfl Try.func38 (by kernel_rfl) rfl #[.int .u64 a0] rfl (by (try simp only [List.map_toArray, List.map_cons, List.map_nil]); first | done | rfl | (simp only [List.length_drop, List.length_take]; rfl)) ?_; (with_reducible refine (portagelaw03_isNaN.calls a0 true _ A65.out).mono ?_); rintro e w' ⟨rfl, ⟨nd, rfl⟩⟩; refine ⟨_, rfl, ?_⟩) | ((with_reducible refine gate_callee (f := 49) rfl ?_); refine goesL_ (some 135) rfl rfl Try.func49 (by kernel_rfl) rfl #[.int .u64 a0] rfl (by (try simp only [List.map_toArray, List.map_cons, List.map_nil]); first | done | rfl | (simp only [List.length_drop, List.length_take]; rfl)) ?_; (with_reducible refine (real_Class.calls a0 t146 _ A67.out).mono ?_); rintro e w' ⟨rfl, ⟨nd, rfl⟩⟩; refine ⟨_, rfl, ?_⟩) | (go_at_call 49; (with_reducible refine (real_Class.calls a1 t148 _ A71.out).mono ?_); rintro e w' ⟨rfl, ⟨nd, rfl⟩⟩) | (go_at_call 39; (with_reducible refine (portagelaw03_awake.calls kj55  t149 _ A73.out).mono ?_); rintro e w' ⟨rfl, ⟨nd, rfl⟩⟩))
                                go_ret
                                exact ⟨by first | rfl | (simp; done) | (simp [*]; done), by repeat (first | exact Drawn0.refl _ | apply Drawn0.step)⟩
                              · rw [if_neg c72] at H
                                have c72b0 : (true == (t148 == 0)) = false := by simpa using c72
                                (try (have c72b1 : decide (true = (t148 == 0)) = false := by simpa using c72))
                                (try (have c72b2 : (true == (t148 == 0)) = false := by simpa using c72))
                                (try (have c72b3 : ¬ (true = (t148 == 0)) := by simpa using c72))
                                clear c72
                                obtain rfl := Option.some.inj H
                                go_wp2_with (first | ((with_reducible refine gate_callee (f := 38) rfl ?_); refine goesL_ (some 129) rfl rfl Try.func38 (by kernel_rfl) rfl #[.int .u64 a0] rfl (by (try simp only [List.map_toArray, List.map_cons, List.map_nil]); first | done | rfl | (simp only [List.length_drop, List.length_take]; rfl)) ?_; (with_reducible refine (portagelaw03_isNaN.calls a0 true _ A65.out).mono ?_); rintro e w' ⟨rfl, ⟨nd, rfl⟩⟩; refine ⟨_, rfl, ?_⟩) | ((with_reducible refine gate_callee (f := 49) rfl ?_); refine goesL_ (some 135) rfl rfl Try.func49 (by kernel_rfl) rfl #[.int .u64 a0] rfl (by (try simp only [List.map_toArray, List.map_cons, List.map_nil]); first | done | rfl | (simp only [List.length_drop, List.length_take]; rfl)) ?_; (with_reducible refine (real_Class.calls a0 t146 _ A67.out).mono ?_); rintro e w' ⟨rfl, ⟨nd, rfl⟩⟩; refine ⟨_, rfl, ?_⟩) | (go_at_call 49; (with_reducible refine (real_Class.calls a1 t148 _ A71.out).mono ?_); rintro e w' ⟨rfl, ⟨nd, rfl⟩⟩))
                                go_ret
                                exact ⟨by first | rfl | (simp; done) | (simp [*]; done), by repeat (first | exact Drawn0.refl _ | apply Drawn0.step)⟩
                          · replace c66 := Bool.eq_false_iff.mpr c66
                            subst c66
                            have H1 : ((portagelaw03_isNaN.f a1).bind fun t150 => ((real_Class.f a0).bind fun t151 => (if t151 = 0 then (if (t150 == true) = true then ((portagelaw03_awake.f kj55).bind fun t152 => (some t152)) else (some false)) else ((real_Class.f a1).bind fun t153 => (if (t150 == (t153 == 0)) = true then ((portagelaw03_awake.f kj55).bind fun t154 => (some t154)) else (some false)))))) = some r := by rw [if_neg (show ¬ (false = true) by decide)] at H; exact H
                            clear H
                            have H := H1
                            clear H1
                            replace H := Option.bind_eq_some_iff.mp H
                            obtain ⟨t150, A740, H⟩ := H
                            replace H : ((real_Class.f a0).bind fun t151 => (if t151 = 0 then (if (t150 == true) = true then ((portagelaw03_awake.f kj55).bind fun t152 => (some t152)) else (some false)) else ((real_Class.f a1).bind fun t153 => (if (t150 == (t153 == 0)) = true then ((portagelaw03_awake.f kj55).bind fun t154 => (some t154)) else (some false))))) = some r := H
                            have A74 := Aside0.mk A740
                            clear A740
                            replace H := Option.bind_eq_some_iff.mp H
                            obtain ⟨t151, A750, H⟩ := H
                            replace H : (if t151 = 0 then (if (t150 == true) = true then ((portagelaw03_awake.f kj55).bind fun t152 => (some t152)) else (some false)) else ((real_Class.f a1).bind fun t153 => (if (t150 == (t153 == 0)) = true then ((portagelaw03_awake.f kj55).bind fun t154 => (some t154)) else (some false)))) = some r := H
                            have A75 := Aside0.mk A750
                            clear A750
                            by_cases c76 : t151 = 0
                            · rw [if_pos c76] at H
                              have c76b0 : (t151 == 0) = true := beq_iff_eq.mpr c76
                              have c76b1 : (t151 != 0) = false := bne_eq_false_iff_eq.mpr c76
                              clear c76
                              by_cases c77 : (t150 == true) = true
                              · rw [if_pos c77] at H
                                have c77b0 : (t150 == true) = true := c77
                                (try (have c77b1 : decide (t150 = true) = true := by simpa using c77))
                                (try (have c77b2 : (t150 == true) = true := by simpa using c77))
                                clear c77
                                replace H := Option.bind_eq_some_iff.mp H
                                obtain ⟨t152, A780, H⟩ := H
                                replace H : (some t152) = some r := H
                                have A78 := Aside0.mk A780
                                clear A780
                                obtain rfl := Option.some.inj H
                                go_wp2_with (first | ((with_reducible refine gate_callee (f := 38) rfl ?_); refine goesL_ (some 129) rfl rfl Try.func38 (by kernel_rfl) rfl #[.int .u64 a0] rfl (by (try simp only [List.map_toArray, List.map_cons, List.map_nil]); first | done | rfl | (simp only [List.length_drop, List.length_take]; rfl)) ?_; (with_reducible refine (portagelaw03_isNaN.calls a0 false _ A65.out).mono ?_); rintro e w' ⟨rfl, ⟨nd, rfl⟩⟩; refine ⟨_, rfl, ?_⟩) | (go_at_call 38; (with_reducible refine (portagelaw03_isNaN.calls a1 t150 _ A74.out).mono ?_); rintro e w' ⟨rfl, ⟨nd, rfl⟩⟩) | ((with_reducible refine gate_callee (f := 49) rfl ?_); refine goesL_ (some 135) rfl rfl Try.func49 (by kernel_rfl) rfl #[.int .u64 a0] rfl (by (try simp only [List.map_toArray, List.map_cons, List.map_nil]); first | done | rfl | (simp only [List.length_drop, List.length_take]; rfl)) ?_; (with_reducible refine (real_Class.calls a0 t151 _ A75.out).mono ?_); rintro e w' ⟨rfl, ⟨nd, rfl⟩⟩; refine ⟨_, rfl, ?_⟩) | (go_at_call 39; (with_reducible refine (portagelaw03_awake.calls kj55  t152 _ A78.out).mono ?_); rintro e w' ⟨rfl, ⟨nd, rfl⟩⟩))
                                go_ret
                                exact ⟨by first | rfl | (simp; done) | (simp [*]; done), by repeat (first | exact Drawn0.refl _ | apply Drawn0.step)⟩
                              · rw [if_neg c77] at H
                                have c77b0 : (t150 == true) = false := by simpa using c77
                                (try (have c77b1 : decide (t150 = true) = false := by simpa using c77))
                                (try (have c77b2 : (t150 == true) = false := by simpa using c77))
                                (try (have c77b3 : ¬ (t150 = true) := by simpa using c77))
                                clear c77
                                obtain rfl := Option.some.inj H
                                go_wp2_with (first | ((with_reducible refine gate_callee (f := 38) rfl ?_); refine goesL_ (some 129) rfl rfl Try.func38 (by kernel_rfl) rfl #[.int .u64 a0] rfl (by (try simp only [List.map_toArray, List.map_cons, List.map_nil]); first | done | rfl | (simp only [List.length_drop, List.length_take]; rfl)) ?_; (with_reducible refine (portagelaw03_isNaN.calls a0 false _ A65.out).mono ?_); rintro e w' ⟨rfl, ⟨nd, rfl⟩⟩; refine ⟨_, rfl, ?_⟩) | (go_at_call 38; (with_reducible refine (portagelaw03_isNaN.calls a1 t150 _ A74.out).mono ?_); rintro e w' ⟨rfl, ⟨nd, rfl⟩⟩) | ((with_reducible refine gate_callee (f := 49) rfl ?_); refine goesL_ (some 135) rfl rfl Try.func49 (by kernel_rfl) rfl #[.int .u64 a0] rfl (by (try simp only [List.map_toArray, List.map_cons, List.map_nil]); first | done | rfl | (simp only [List.length_drop, List.length_take]; rfl)) ?_; (with_reducible refine (real_Class.calls a0 t151 _ A75.out).mono ?_); rintro e w' ⟨rfl, ⟨nd, rfl⟩⟩; refine ⟨_, rfl, ?_⟩))
                                go_ret
                                exact ⟨by first | rfl | (simp; done) | (simp [*]; done), by repeat (first | exact Drawn0.refl _ | apply Drawn0.step)⟩
                            · rw [if_neg c76] at H
                              have c76b0 : (t151 == 0) = false := beq_eq_false_iff_ne.mpr c76
                              have c76b1 : (t151 != 0) = true := bne_iff_ne.mpr c76
                              replace H := Option.bind_eq_some_iff.mp H
                              obtain ⟨t153, A790, H⟩ := H
                              replace H : (if (t150 == (t153 == 0)) = true then ((portagelaw03_awake.f kj55).bind fun t154 => (some t154)) else (some false)) = some r := H
                              have A79 := Aside0.mk A790
                              clear A790
                              by_cases c80 : (t150 == (t153 == 0)) = true
                              · rw [if_pos c80] at H
                                have c80b0 : (t150 == (t153 == 0)) = true := c80
                                (try (have c80b1 : decide (t150 = (t153 == 0)) = true := by simpa using c80))
                                (try (have c80b2 : (t150 == (t153 == 0)) = true := by simpa using c80))
                                clear c80
                                replace H := Option.bind_eq_some_iff.mp H
                                obtain ⟨t154, A810, H⟩ := H
                                replace H : (some t154) = some r := H
                                have A81 := Aside0.mk A810
                                clear A810
                                obtain rfl := Option.some.inj H
                                go_wp2_with (first | ((with_reducible refine gate_callee (f := 38) rfl ?_); refine goesL_ (some 129) rfl rfl Try.func38 (by kernel_rfl) rfl #[.int .u64 a0] rfl (by (try simp only [List.map_toArray, List.map_cons, List.map_nil]); first | done | rfl | (simp only [List.length_drop, List.length_take]; rfl)) ?_; (with_reducible refine (portagelaw03_isNaN.calls a0 false _ A65.out).mono ?_); rintro e w' ⟨rfl, ⟨nd, rfl⟩⟩; refine ⟨_, rfl, ?_⟩) | (go_at_call 38; (with_reducible refine (portagelaw03_isNaN.calls a1 t150 _ A74.out).mono ?_); rintro e w' ⟨rfl, ⟨nd, rfl⟩⟩) | ((with_reducible refine gate_callee (f := 49) rfl ?_); refine goesL_ (some 135) rfl rfl Try.func49 (by kernel_rfl) rfl #[.int .u64 a0] rfl (by (try simp only [List.map_toArray, List.map_cons, List.map_nil]); first | done | rfl | (simp only [List.length_drop, List.length_take]; rfl)) ?_; (with_reducible refine (real_Class.calls a0 t151 _ A75.out).mono ?_); rintro e w' ⟨rfl, ⟨nd, rfl⟩⟩; refine ⟨_, rfl, ?_⟩) | (go_at_call 49; (with_reducible refine (real_Class.calls a1 t153 _ A79.out).mono ?_); rintro e w' ⟨rfl, ⟨nd, rfl⟩⟩) | (go_at_call 39; (with_reducible refine (portagelaw03_awake.calls kj55  t154 _ A81.out).mono ?_); rintro e w' ⟨rfl, ⟨nd, rfl⟩⟩))
                                go_ret
                                exact ⟨by first | rfl | (simp; done) | (simp [*]; done), by repeat (first | exact Drawn0.refl _ | apply Drawn0.step)⟩
                              · rw [if_neg c80] at H
                                have c80b0 : (t150 == (t153 == 0)) = false := by simpa using c80
                                (try (have c80b1 : decide (t150 = (t153 == 0)) = false := by simpa using c80))
                                (try (have c80b2 : (t150 == (t153 == 0)) = false := by simpa using c80))
                                (try (have c80b3 : ¬ (t150 = (t153 == 0)) := by simpa using c80))
                                clear c80
                                obtain rfl := Option.some.inj H
                                go_wp2_with (first | ((with_reducible refine gate_callee (f := 38) rfl ?_); refine goesL_ (some 129) rfl rfl Try.func38 (by kernel_rfl) rfl #[.int .u64 a0] rfl (by (try simp only [List.map_toArray, List.map_cons, List.map_nil]); first | done | rfl | (simp only [List.length_drop, List.length_take]; rfl)) ?_; (with_reducible refine (portagelaw03_isNaN.calls a0 false _ A65.out).mono ?_); rintro e w' ⟨rfl, ⟨nd, rfl⟩⟩; refine ⟨_, rfl, ?_⟩) | (go_at_call 38; (with_reducible refine (portagelaw03_isNaN.calls a1 t150 _ A74.out).mono ?_); rintro e w' ⟨rfl, ⟨nd, rfl⟩⟩) | ((with_reducible refine gate_callee (f := 49) rfl ?_); refine goesL_ (some 135) rfl rfl Try.func49 (by kernel_rfl) rfl #[.int .u64 a0] rfl (by (try simp only [List.map_toArray, List.map_cons, List.map_nil]); first | done | rfl | (simp only [List.length_drop, List.length_take]; rfl)) ?_; (with_reducible refine (real_Class.calls a0 t151 _ A75.out).mono ?_); rintro e w' ⟨rfl, ⟨nd, rfl⟩⟩; refine ⟨_, rfl, ?_⟩) | (go_at_call 49; (with_reducible refine (real_Class.calls a1 t153 _ A79.out).mono ?_); rintro e w' ⟨rfl, ⟨nd, rfl⟩⟩))
                                go_ret
                                exact ⟨by first | rfl | (simp; done) | (simp [*]; done), by repeat (first | exact Drawn0.refl _ | apply Drawn0.step)⟩

/-- THE ONE PURE STATEMENT of portagelaw03_RealProper: yours. -/
def portagelaw03_RealProper.Pure : Prop := ∀ (a0 : Int) (a1 : Int) (a2 : Int), (Lit.int .u64 a0).wf = true → (Lit.int .u64 a1).wf = true → (Lit.int .i64 a2).wf = true → ∃ k, portagelaw03_RealProper.f k a0 a1 a2 = some true
theorem portagelaw03_RealProper.walk (P : portagelaw03_RealProper.Pure) (a0 : Int) (a1 : Int) (a2 : Int) (w : World) (w0 : (Lit.int .u64 a0).wf = true) (w1 : (Lit.int .u64 a1).wf = true) (w2 : (Lit.int .i64 a2).wf = true) :
    Calls Try.prog 18 #[.int .u64 a0, .int .u64 a1, .int .i64 a2] w fun e w' => e = .returned (.bool true) ∧ Below w.heap.size w w' := by
  obtain ⟨k, h⟩ := P a0 a1 a2 w0 w1 w2
  refine (portagelaw03_RealProper.calls k a0 a1 a2 true w h).mono ?_
  rintro e w' ⟨rfl, hd⟩
  exact ⟨rfl, hd.below⟩

end Go.Proofs.Ytapgnackoclbeaa.PProper
