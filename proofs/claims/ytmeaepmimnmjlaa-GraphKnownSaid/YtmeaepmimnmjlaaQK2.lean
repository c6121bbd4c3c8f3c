/- The texts of a claim, one behind the other: SecG Kd PureG2 SecR Refs RStarts RBehind RReach RIdom ROrder RRows RBuild RBuildNo SameG BothG. -/
import Derived.Test.YtmeaepmimnmjlaaQK1
-- written by a program of this session (leafprint.py, cutsec.py) over the translation; Lean checks it
namespace Go.Proofs.Ytmeaepmimnmjlaa.PGb
open Go.RowKit Go.Proofs.YtmeaepmimnmjlaaW.PrintWords Go.Proofs.YtmeaepmimnmjlaaW.PrintLast Go.Proofs.YtmeaepmimnmjlaaW.PrintMore
attribute [local go_sem] max2_int min2_int max_two min_two max_three min_three max_four min_four   -- for this text's walks alone
set_option linter.unusedVariables false
set_option linter.unusedSimpArgs false

/-! ### graph_jumps: function 45 -/
def graph_jumps.f (a0 : Int) : Option (Bool) := if a0 ≥ 40 then (some (decide (a0 ≤ 42))) else (some false)
set_option maxHeartbeats 8000000 in
set_option maxRecDepth 100000 in
theorem graph_jumps.calls (a0 : Int) (r : Bool) (w : World) (h : graph_jumps.f a0 = some r) :
    Calls Try.prog 45 #[.int .i64 a0] w fun e w' => e = .returned (.bool r) ∧ Drawn0 w w' := by
 have H : (if a0 ≥ 40 then (some (decide (a0 ≤ 42))) else (some false)) = some r := h; clear h
 by_cases c2 : a0 ≥ 40
 ·rw [if_pos c2] at H; have c2b0 : decide (40 ≤ a0) = true := decide_eq_true c2; clear c2; obtain rfl := Option.some.inj H; go_enter Try.func45, Try.ntmps45; go_wp2; go_ret; exact ⟨by first | rfl | (simp; done) | (simp [*]; done), by repeat (first | exact Drawn0.refl _ | apply Drawn0.step)⟩
 ·rw [if_neg c2] at H; have c2b0 : decide (40 ≤ a0) = false := decide_eq_false c2; clear c2; obtain rfl := Option.some.inj H; go_enter Try.func45, Try.ntmps45; go_wp2; go_ret; exact ⟨by first | rfl | (simp; done) | (simp [*]; done), by repeat (first | exact Drawn0.refl _ | apply Drawn0.step)⟩
/-! ### graph_stops: function 62 -/
def graph_stops.f (a0 : Int) : Option (Bool) := if a0 = 40 then (some true) else (if a0 = 44 then (some true) else (if a0 = 45 then (some true) else (some false)))
set_option maxHeartbeats 8000000 in
set_option maxRecDepth 100000 in
theorem graph_stops.calls (a0 : Int) (r : Bool) (w : World) (h : graph_stops.f a0 = some r) :
    Calls Try.prog 62 #[.int .i64 a0] w fun e w' => e = .returned (.bool r) ∧ Drawn0 w w' := by
 have H : (if a0 = 40 then (some true) else (if a0 = 44 then (some true) else (if a0 = 45 then (some true) else (some false)))) = some r := h; clear h
 by_cases c2 : a0 = 40
 ·rw [if_pos c2] at H; have c2b0 : (a0 == 40) = true := beq_iff_eq.mpr c2; have c2b1 : (a0 != 40) = false := bne_eq_false_iff_eq.mpr c2; clear c2; obtain rfl := Option.some.inj H; go_enter Try.func62, Try.ntmps62; go_wp2; go_ret; exact ⟨by first | rfl | (simp; done) | (simp [*]; done), by repeat (first | exact Drawn0.refl _ | apply Drawn0.step)⟩
 ·rw [if_neg c2] at H; have c2b0 : (a0 == 40) = false := beq_eq_false_iff_ne.mpr c2; have c2b1 : (a0 != 40) = true := bne_iff_ne.mpr c2
  by_cases c3 : a0 = 44
  ·rw [if_pos c3] at H; have c3b0 : (a0 == 44) = true := beq_iff_eq.mpr c3; have c3b1 : (a0 != 44) = false := bne_eq_false_iff_eq.mpr c3; clear c3; obtain rfl := Option.some.inj H; go_enter Try.func62, Try.ntmps62; go_wp2; go_ret; exact ⟨by first | rfl | (simp; done) | (simp [*]; done), by repeat (first | exact Drawn0.refl _ | apply Drawn0.step)⟩
  ·rw [if_neg c3] at H; have c3b0 : (a0 == 44) = false := beq_eq_false_iff_ne.mpr c3; have c3b1 : (a0 != 44) = true := bne_iff_ne.mpr c3
   by_cases c4 : a0 = 45
   ·rw [if_pos c4] at H; have c4b0 : (a0 == 45) = true := beq_iff_eq.mpr c4; have c4b1 : (a0 != 45) = false := bne_eq_false_iff_eq.mpr c4; clear c4; obtain rfl := Option.some.inj H; go_enter Try.func62, Try.ntmps62; go_wp2; go_ret; exact ⟨by first | rfl | (simp; done) | (simp [*]; done), by repeat (first | exact Drawn0.refl _ | apply Drawn0.step)⟩
   ·rw [if_neg c4] at H; have c4b0 : (a0 == 45) = false := beq_eq_false_iff_ne.mpr c4; have c4b1 : (a0 != 45) = true := bne_iff_ne.mpr c4; obtain rfl := Option.some.inj H; go_enter Try.func62, Try.ntmps62; go_wp2; go_ret; exact ⟨by first | rfl | (simp; done) | (simp [*]; done), by repeat (first | exact Drawn0.refl _ | apply Drawn0.step)⟩
/-! ### graph_parts: function 44 -/
def graph_parts.j0 : Nat → Int → Bool → Option (Bool)
  | 0, _, _ => none
  | k + 1, x0, x4 => if x4 = true then (some true) else ((graph_jumps.f x0).bind fun t282 => (if t282 = true then (some true) else ((graph_stops.f x0).bind fun t283 => (some t283))))
def graph_parts.f (k : Nat) (a0 : Int) : Option (Bool) := if a0 = 43 then (graph_parts.j0 k a0 (a0 == 43)) else (if a0 = 60 then (graph_parts.j0 k a0 (a0 == 60)) else (if a0 = 61 then (graph_parts.j0 k a0 (a0 == 61)) else (if a0 = 63 then (graph_parts.j0 k a0 (a0 == 63)) else (graph_parts.j0 k a0 (a0 == 64)))))
theorem graph_parts.mono_l : ∀ k, (∀ y0 y1, LeO (graph_parts.j0 k y0 y1) (graph_parts.j0 (k + 1) y0 y1))
  | 0 => fun _ _ r h => by simp [graph_parts.j0] at h
  | k + 1 => by
    have ih0 := graph_parts.mono_l k
    · intro y0 y1
      unfold graph_parts.j0
      repeat' first
      | (with_reducible exact ih0 _ _)
      | (with_reducible exact LeO.refl _)
      | (with_reducible exact LeO.none _)
      | (with_reducible refine LeO.ite ?_ ?_)
      | (with_reducible refine LeO.bind ?_ (fun _ => ?_))
      | exact ih0 _ _
      | exact LeO.none _
      | refine LeO.ite ?_ ?_
      | refine LeO.bind ?_ (fun _ => ?_)
theorem graph_parts.mono : ∀ a0 k, LeO (graph_parts.f k a0) (graph_parts.f (k + 1) a0) := by
 intro a0 k; have ih0 := graph_parts.mono_l k; unfold graph_parts.f; repeat' first
  | (with_reducible exact ih0 _ _)
  | (with_reducible exact LeO.refl _)
  | (with_reducible exact LeO.none _)
  | (with_reducible refine LeO.ite ?_ ?_)
  | (with_reducible refine LeO.bind ?_ (fun _ => ?_))
  | exact ih0 _ _
  | exact LeO.none _
  | refine LeO.ite ?_ ?_
  | refine LeO.bind ?_ (fun _ => ?_)
set_option maxHeartbeats 8000000 in
set_option maxRecDepth 100000 in
theorem graph_parts.calls (k : Nat) (a0 : Int) (r : Bool) (w : World) (h : graph_parts.f k a0 = some r) :
    Calls Try.prog 44 #[.int .i64 a0] w fun e w' => e = .returned (.bool r) ∧ Drawn0 w w' := by
 have H : (if a0 = 43 then (graph_parts.j0 k a0 (a0 == 43)) else (if a0 = 60 then (graph_parts.j0 k a0 (a0 == 60)) else (if a0 = 61 then (graph_parts.j0 k a0 (a0 == 61)) else (if a0 = 63 then (graph_parts.j0 k a0 (a0 == 63)) else (graph_parts.j0 k a0 (a0 == 64)))))) = some r := h; clear h; have HC2 := Aside0.mk H; clear H; go_enter Try.func44, Try.ntmps44; go_upto_if 4 with (fail)
 go_cut [4] (fun v4 wc => ∃ (kq : Nat) (x4_1 : Bool), v4 = .bool x4_1 ∧ Aside0 (graph_parts.j0 kq a0 x4_1 = some r) ∧ Aside0 (kq ≤ k) ∧ Drawn0 w wc)
 case first =>
  have H := HC2.out; clear HC2
  by_cases c3 : a0 = 43
  ·rw [if_pos c3] at H; have c3b0 : (a0 == 43) = true := beq_iff_eq.mpr c3; have c3b1 : (a0 != 43) = false := bne_eq_false_iff_eq.mpr c3; clear c3; (first | rw [c3b0] | (simp only [i64_w, i32_w]; rw [c3b0]) | skip); have H' := Aside0.mk H; clear H; go_wp2; go_meet
   case rel => exact ⟨_, ((a0 == 43)), (by first | rfl | (simp; done) | (simp [*]; done)), H', ⟨by first | omega | exact Nat.le_refl _⟩, by repeat (first | exact Drawn0.refl _ | apply Drawn0.step)⟩
  ·rw [if_neg c3] at H; have c3b0 : (a0 == 43) = false := beq_eq_false_iff_ne.mpr c3; have c3b1 : (a0 != 43) = true := bne_iff_ne.mpr c3; (first | rw [c3b0] | (simp only [i64_w, i32_w]; rw [c3b0]) | skip)
   by_cases c4 : a0 = 60
   ·rw [if_pos c4] at H; have c4b0 : (a0 == 60) = true := beq_iff_eq.mpr c4; have c4b1 : (a0 != 60) = false := bne_eq_false_iff_eq.mpr c4; clear c4; have H' := Aside0.mk H; clear H; go_wp2; go_meet
    case rel => exact ⟨_, ((a0 == 60)), (by first | rfl | (simp; done) | (simp [*]; done)), H', ⟨by first | omega | exact Nat.le_refl _⟩, by repeat (first | exact Drawn0.refl _ | apply Drawn0.step)⟩
   ·rw [if_neg c4] at H; have c4b0 : (a0 == 60) = false := beq_eq_false_iff_ne.mpr c4; have c4b1 : (a0 != 60) = true := bne_iff_ne.mpr c4
    by_cases c5 : a0 = 61
    ·rw [if_pos c5] at H; have c5b0 : (a0 == 61) = true := beq_iff_eq.mpr c5; have c5b1 : (a0 != 61) = false := bne_eq_false_iff_eq.mpr c5; clear c5; have H' := Aside0.mk H; clear H; go_wp2; go_meet
     case rel => exact ⟨_, ((a0 == 61)), (by first | rfl | (simp; done) | (simp [*]; done)), H', ⟨by first | omega | exact Nat.le_refl _⟩, by repeat (first | exact Drawn0.refl _ | apply Drawn0.step)⟩
    ·rw [if_neg c5] at H; have c5b0 : (a0 == 61) = false := beq_eq_false_iff_ne.mpr c5; have c5b1 : (a0 != 61) = true := bne_iff_ne.mpr c5
     by_cases c6 : a0 = 63
     ·rw [if_pos c6] at H; have c6b0 : (a0 == 63) = true := beq_iff_eq.mpr c6; have c6b1 : (a0 != 63) = false := bne_eq_false_iff_eq.mpr c6; clear c6; have H' := Aside0.mk H; clear H; go_wp2; go_meet
      case rel => exact ⟨_, ((a0 == 63)), (by first | rfl | (simp; done) | (simp [*]; done)), H', ⟨by first | omega | exact Nat.le_refl _⟩, by repeat (first | exact Drawn0.refl _ | apply Drawn0.step)⟩
     ·rw [if_neg c6] at H; have c6b0 : (a0 == 63) = false := beq_eq_false_iff_ne.mpr c6; have c6b1 : (a0 != 63) = true := bne_iff_ne.mpr c6; have H' := Aside0.mk H; clear H; go_wp2; go_meet
      case rel => exact ⟨_, ((a0 == 64)), (by first | rfl | (simp; done) | (simp [*]; done)), H', ⟨by first | omega | exact Nat.le_refl _⟩, by repeat (first | exact Drawn0.refl _ | apply Drawn0.step)⟩
 case rest =>
  clear HC2; (try clear p2); (try clear c3); (try clear c3b0); (try clear c3b1); (try clear c4); (try clear c4b0); (try clear c4b1); (try clear c5); (try clear c5b0); (try clear c5b1); (try clear c6); (try clear c6b0); (try clear c6b1); obtain ⟨kq, x4_1, rfl, HA, HJ1, ⟨mc1, rfl⟩⟩ := hcut
  cases kq with
  | zero => exact absurd HA.out (by simp [graph_parts.j0])
  | succ kj1 =>
   have H := HA.out; clear HA; simp only [graph_parts.j0] at H
   by_cases c7 : x4_1 = true
   ·subst c7; have H1 : (some true) = some r := by rw [if_pos rfl] at H; exact H
    clear H; have H := H1; clear H1; obtain rfl := Option.some.inj H; go_wp2; go_ret; exact ⟨by first | rfl | (simp; done) | (simp [*]; done), by repeat (first | exact Drawn0.refl _ | apply Drawn0.step)⟩
   ·replace c7 := Bool.eq_false_iff.mpr c7; subst c7; have H1 : ((graph_jumps.f a0).bind fun t282 => (if t282 = true then (some true) else ((graph_stops.f a0).bind fun t283 => (some t283)))) = some r := by rw [if_neg (show ¬ (false = true) by decide)] at H; exact H
    clear H; have H := H1; clear H1; replace H := Option.bind_eq_some_iff.mp H; obtain ⟨t282, A80, H⟩ := H; replace H : (if t282 = true then (some true) else ((graph_stops.f a0).bind fun t283 => (some t283))) = some r := H; have A8 := Aside0.mk A80; clear A80
    by_cases c9 : t282 = true
    ·subst c9; have H1 : (some true) = some r := by rw [if_pos rfl] at H; exact H
     clear H; have H := H1; clear H1; obtain rfl := Option.some.inj H; go_wp2_with (first | ((with_reducible refine gate_callee (f := 45) rfl ?_); refine goesL_ (some 11) rfl rfl Try.func45 (by kernel_rfl) rfl #[.int .i64 a0] rfl (by (try simp only [List.map_toArray, List.map_cons, List.map_nil]); first | done | rfl | (simp only [List.length_drop, List.length_take]; rfl)) ?_; (with_reducible refine (graph_jumps.calls a0 true _ A8.out).mono ?_); rintro e w' ⟨rfl, ⟨nd, rfl⟩⟩; refine ⟨_, rfl, ?_⟩))
     go_ret; exact ⟨by first | rfl | (simp; done) | (simp [*]; done), by repeat (first | exact Drawn0.refl _ | apply Drawn0.step)⟩
    ·replace c9 := Bool.eq_false_iff.mpr c9; subst c9; have H1 : ((graph_stops.f a0).bind fun t283 => (some t283)) = some r := by rw [if_neg (show ¬ (false = true) by decide)] at H; exact H
     clear H; have H := H1; clear H1; replace H := Option.bind_eq_some_iff.mp H; obtain ⟨t283, A100, H⟩ := H; replace H : (some t283) = some r := H; have A10 := Aside0.mk A100; clear A100; obtain rfl := Option.some.inj H; go_wp2_with (first | ((with_reducible refine gate_callee (f := 45) rfl ?_); refine goesL_ (some 11) rfl rfl Try.func45 (by kernel_rfl) rfl #[.int .i64 a0] rfl (by (try simp only [List.map_toArray, List.map_cons, List.map_nil]); first | done | rfl | (simp only [List.length_drop, List.length_take]; rfl)) ?_; (with_reducible refine (graph_jumps.calls a0 false _ A8.out).mono ?_); rintro e w' ⟨rfl, ⟨nd, rfl⟩⟩; refine ⟨_, rfl, ?_⟩) | (go_at_call 62; (with_reducible refine (graph_stops.calls a0 t283 _ A10.out).mono ?_); rintro e w' ⟨rfl, ⟨nd, rfl⟩⟩))
     go_ret; exact ⟨by first | rfl | (simp; done) | (simp [*]; done), by repeat (first | exact Drawn0.refl _ | apply Drawn0.step)⟩
/-! ### graph_places: function 46 -/
def graph_places.l0 : Nat → List Int → List Bool → Int → Int → Option (List Int)
  | 0, _, _, _, _ => none
  | k + 1, x3, x6, x7, x8 => if x8 < x7 then (if 0 ≤ x8 then (if x8 < (x6.length : Int) then (if rdOf false x6 x8 = true then (if x3.length < 17592186044416 then (graph_places.l0 k (x3 ++ [x8]) x6 x7 (wrap64 (x8 + 1))) else (none)) else (graph_places.l0 k x3 x6 x7 (wrap64 (x8 + 1)))) else (none)) else (none)) else (some x3)
def graph_places.f (k : Nat) (l0 : List Bool) : Option (List Int) := graph_places.l0 k ([] : List Int) l0 (l0.length : Int) 0
theorem graph_places.mono_l : ∀ k, (∀ y0 y1 y2 y3, LeO (graph_places.l0 k y0 y1 y2 y3) (graph_places.l0 (k + 1) y0 y1 y2 y3))
  | 0 => fun _ _ _ _ r h => by simp [graph_places.l0] at h
  | k + 1 => by
    have ih0 := graph_places.mono_l k
    · intro y0 y1 y2 y3
      unfold graph_places.l0
      repeat' first
      | (with_reducible exact ih0 _ _ _ _)
      | (with_reducible exact LeO.refl _)
      | (with_reducible exact LeO.none _)
      | (with_reducible refine LeO.ite ?_ ?_)
      | (with_reducible refine LeO.bind ?_ (fun _ => ?_))
      | exact ih0 _ _ _ _
      | exact LeO.none _
      | refine LeO.ite ?_ ?_
      | refine LeO.bind ?_ (fun _ => ?_)
theorem graph_places.mono : ∀ a0 k, LeO (graph_places.f k a0) (graph_places.f (k + 1) a0) := by
 intro a0 k; have ih0 := graph_places.mono_l k; unfold graph_places.f; repeat' first
  | (with_reducible exact ih0 _ _ _ _)
  | (with_reducible exact LeO.refl _)
  | (with_reducible exact LeO.none _)
  | (with_reducible refine LeO.ite ?_ ?_)
  | (with_reducible refine LeO.bind ?_ (fun _ => ?_))
  | exact ih0 _ _ _ _
  | exact LeO.none _
  | refine LeO.ite ?_ ?_
  | refine LeO.bind ?_ (fun _ => ?_)
set_option maxHeartbeats 8000000 in
set_option maxRecDepth 100000 in
theorem graph_places.calls (k : Nat) (A0 : Option Addr) (c0 : Nat) (l0 : List Bool) (r : List Int) (w : World) (hr0 : Kd.C Kd.bool w A0 l0.length l0) (hc0 : l0.length ≤ c0) (h : graph_places.f k l0 = some r) :
    Calls Try.prog 46 #[.slice A0 l0.length c0] w fun e w' => ∃ v0_ : Value, e = .returned (v0_) ∧ Kd.R (Kd.int .i64) 3 w' w.heap.size (fun _ => True) v0_ r ∧ Below w.heap.size w w' := by
 have HR0 := Aside0.mk hr0; have HC0 := Aside0.mk hc0; clear hr0 hc0; have HB := Aside0.mk (Below.refl w.heap.size w); have H : (graph_places.l0 k ([] : List Int) l0 (l0.length : Int) 0) = some r := h; clear h; have H' := Aside0.mk H; clear H; go_enter Try.func46, Try.ntmps46; go_wp2; go_loopg [3, 8] k (fun kq v3 v8 w' => ∃ (x3_1 : List Int) (x8_1 : Int), v8 = .int .i64 x8_1 ∧ Aside0 (graph_places.l0 kq x3_1 l0 (l0.length : Int) x8_1 = some r) ∧ Aside0 (kq ≤ k) ∧ Aside0 (Kd.R (Kd.int .i64) 3 w' w.heap.size (fun _ => True) v3 x3_1) ∧ Aside0 (Below w.heap.size w w'))
 case atStart => exact ⟨(([] : List Int)), (0), (by first | rfl | (simp; done) | (simp [*]; done)), H', ⟨Nat.le_refl _⟩, ⟨by first | exact Kd.R_nil _ _ _ _ _ | exact Kd.N_nil _ _ _ _ _ | exact Kd.V_nil _ _ _ _ _ | exact Kd.Q_nil _ _ _ _ _ | exact Kd.S_nil _ _ _ _ _⟩, ⟨by repeat (first | (with_reducible first | exact HB.out | apply below_alloc | apply pw_below_drewN | apply below_drew1) | exact HB.out)⟩⟩
 case round =>
  clear H'; obtain ⟨x3_1, x8_1, rfl, HA, HK1, HO_3, HB⟩ := hrel
  cases gk with
  | zero => exact absurd HA.out (by simp [graph_places.l0])
  | succ k1 =>
   have H := HA.out; clear HA; simp only [graph_places.l0] at H
   by_cases c2 : x8_1 < (l0.length : Int)
   ·rw [if_pos c2] at H; have c2b0 : decide (x8_1 < (l0.length : Int)) = true := decide_eq_true c2; clear c2
    by_cases c3 : 0 ≤ x8_1
    ·rw [if_pos c3] at H; have c3b0 : decide (0 ≤ x8_1) = true := decide_eq_true c3; clear c3
     by_cases c4 : x8_1 < (l0.length : Int)
     ·rw [if_pos c4] at H; have c4b0 : decide (x8_1 < (l0.length : Int)) = true := decide_eq_true c4; clear c4; obtain ⟨bq5, hbq5⟩ : ∃ b_ : Bool, b_ = (rdOf false l0 x8_1) := ⟨_, rfl⟩; replace H : (if bq5 = true then (if x3_1.length < 17592186044416 then (graph_places.l0 k1 (x3_1 ++ [x8_1]) l0 (l0.length : Int) (wrap64 (x8_1 + 1))) else (none)) else (graph_places.l0 k1 x3_1 l0 (l0.length : Int) (wrap64 (x8_1 + 1)))) = some r := by rw [← hbq5] at H; exact H
      have Nbq5 := Aside0.mk hbq5; clear hbq5
      by_cases c6 : bq5 = true
      ·subst c6; have H1 : (if x3_1.length < 17592186044416 then (graph_places.l0 k1 (x3_1 ++ [x8_1]) l0 (l0.length : Int) (wrap64 (x8_1 + 1))) else (none)) = some r := by rw [if_pos rfl] at H; exact H
       clear H; have H := H1; clear H1
       by_cases c7 : x3_1.length < 17592186044416
       ·rw [if_pos c7] at H; have LMc7 := Aside0.mk c7; clear c7; obtain ⟨y285, hy285⟩ : ∃ y_ : List Int, y_ = (x3_1 ++ [x8_1]) := ⟨_, rfl⟩; replace H : (graph_places.l0 k1 y285 l0 (l0.length : Int) (wrap64 (x8_1 + 1))) = some r := by first | (rw [hy285]; with_reducible exact H) | (have H2_ := (Option.bind_some _ _).symm.trans H; rw [hy285]; with_reducible exact H2_) | (have H2_ := (Option.bind_some _ _).symm.trans H; with_reducible exact H2_) | with_reducible exact H | (rw [hy285]; exact H) | exact H
        have Ny285 := Aside0.mk hy285; clear hy285; have H' := Aside0.mk H; clear H; have p284 : 0 ≤ (x8_1 : Int) := of_decide_eq_true (by first | (with_reducible assumption) | assumption); have q284 : x8_1 < (l0.length : Int) := of_decide_eq_true (by first | (with_reducible assumption) | assumption); obtain ⟨ad284, e284, hx284_0⟩ := Kd.at_bool HR0.out x8_1 p284 q284; (try rw [← Nbq5.out] at hx284_0)
        cases e284; replace hx284_0 := (HB.out.cell (World.block_lt_of_cell? w _ hx284_0)).trans hx284_0; replace p284 := eq_true p284; replace q284 := eq_true q284; go_wp2_with (first | ((with_reducible refine gate_builtin (b := .append) (xs := #[.tmp 14, .tmp 16]) rfl ?_); at_builtin; refine Kd.R_append (Kd.int .i64) (w0 := w) w.heap.size rfl (.tmp 14) (.tmp 16) 26 3 (.int .i64 0) 8 rfl Try.underlying26 info3 rfl (by decide) (by omega) u3 x3_1 x8_1 [.int .i64 x8_1] (fun _ => True) (fun _ => False) rfl rfl ?aP (fun _ hk => hk.elim) ?aF ?aO ?aB ?aS ?aL ?_; (case aP => exact rfl); (case aB => exact (by repeat (first | (with_reducible first | exact HB.out | apply below_alloc | apply pw_below_drewN | apply below_drew1) | exact HB.out))); (case aF => exact (fun _ _ => trivial)); (case aO => exact (by (with_reducible repeat (first | apply Kd.R_alloc | apply Kd.R_drewN | apply Kd.R_drew)); exact HO_3.out)); (case aS => exact (below_size (by repeat (first | (with_reducible first | exact HB.out | apply below_alloc | apply pw_below_drewN | apply below_drew1) | exact HB.out)))); (case aL => have := LMc7.out; omega); intro v286 w8 ho hb hg hat; rw [← Ny285.out] at ho; have n0_ := Aside0.mk (hb); have n1_ := Aside0.mk (ho); clear HB; clear HO_3; have HB := n0_; have HO287 := n1_; clear n0_ n1_; clear ho hb hg hat))
        go_roundg k1
        case measure => have := HK1.out; omega
        case rel => exact ⟨(y285), (wrap64 (x8_1 + 1)), (by first | rfl | (simp; done) | (simp [*]; done)), H', ⟨by have := HK1.out; omega⟩, ⟨by (with_reducible repeat (first | apply Kd.R_alloc | apply Kd.R_drewN | apply Kd.R_drew)); exact HO287.out⟩, ⟨by repeat (first | (with_reducible first | exact HB.out | apply below_alloc | apply pw_below_drewN | apply below_drew1) | exact HB.out)⟩⟩
       ·rw [if_neg c7] at H
        exact absurd H (by simp)
      ·replace c6 := Bool.eq_false_iff.mpr c6; subst c6; have H1 : (graph_places.l0 k1 x3_1 l0 (l0.length : Int) (wrap64 (x8_1 + 1))) = some r := by rw [if_neg (show ¬ (false = true) by decide)] at H; exact H
       clear H; have H := H1; clear H1; have H' := Aside0.mk H; clear H; have p284 : 0 ≤ (x8_1 : Int) := of_decide_eq_true (by first | (with_reducible assumption) | assumption); have q284 : x8_1 < (l0.length : Int) := of_decide_eq_true (by first | (with_reducible assumption) | assumption); obtain ⟨ad284, e284, hx284_0⟩ := Kd.at_bool HR0.out x8_1 p284 q284; (try rw [← Nbq5.out] at hx284_0)
       cases e284; replace hx284_0 := (HB.out.cell (World.block_lt_of_cell? w _ hx284_0)).trans hx284_0; replace p284 := eq_true p284; replace q284 := eq_true q284; go_wp2; go_roundg k1
       case measure => have := HK1.out; omega
       case rel => exact ⟨(x3_1), (wrap64 (x8_1 + 1)), (by first | rfl | (simp; done) | (simp [*]; done)), H', ⟨by have := HK1.out; omega⟩, ⟨by (with_reducible repeat (first | apply Kd.R_alloc | apply Kd.R_drewN | apply Kd.R_drew)); exact HO_3.out⟩, ⟨by repeat (first | (with_reducible first | exact HB.out | apply below_alloc | apply pw_below_drewN | apply below_drew1) | exact HB.out)⟩⟩
     ·rw [if_neg c4] at H
      exact absurd H (by simp)
    ·rw [if_neg c3] at H
     exact absurd H (by simp)
   ·rw [if_neg c2] at H; have c2b0 : decide (x8_1 < (l0.length : Int)) = false := decide_eq_false c2; clear c2; obtain rfl := Option.some.inj H; go_wp2; go_ret; exact ⟨_, by first | rfl | (simp [errW_none, errW_some] <;> rfl) | (simp [*, errW_none, errW_some] <;> rfl), by (with_reducible repeat (first | apply Kd.R_alloc | apply Kd.R_drewN | apply Kd.R_drew)); exact HO_3.out, by repeat (first | (with_reducible first | exact HB.out | apply below_alloc | apply pw_below_drewN | apply below_drew1) | exact HB.out)⟩
/-! ### graph_check: function 43 -/
mutual
def graph_check.l0 : Nat → Int → List (S40) → Int → Int → ByteArray → Int → Int → List (S40) → List (S49) → Option (Int)
  | 0, _, _, _, _, _, _, _, _, _ => none
  | k + 1, x3, x14, x15, x16, x277000, x277001, x277002, x277003, x277004 => if x16 < x15 then (if 0 ≤ x16 then (if x16 < (x14.length : Int) then ((graph_jumps.f ((rd_T40 x14 x16).f0)).bind fun t279 => (if t279 = true then (if ((rd_T40 x14 x16).f1) < 0 then (some 8) else (if ((rd_T40 x14 x16).f1) ≥ x3 then (some 8) else (graph_check.l0 k x3 x14 x15 (wrap64 (x16 + 1)) x277000 x277001 x277002 x277003 x277004))) else (graph_check.l0 k x3 x14 x15 (wrap64 (x16 + 1)) x277000 x277001 x277002 x277003 x277004))) else (none)) else (none)) else (graph_check.l1 k x3 x277004 (x277004.length : Int) 0)
def graph_check.l1 : Nat → Int → List (S49) → Int → Int → Option (Int)
  | 0, _, _, _, _ => none
  | k + 1, x3, x36, x37, x38 => if x38 < x37 then (if 0 ≤ x38 then (if x38 < (x36.length : Int) then (if ((rd_T49 x36 x38).f0) < 0 then (some 8) else (if ((rd_T49 x36 x38).f0) ≥ ((rd_T49 x36 x38).f1) then (some 8) else (if ((rd_T49 x36 x38).f1) > x3 then (some 8) else (if ((rd_T49 x36 x38).f2) < 0 then (some 8) else (if ((rd_T49 x36 x38).f2) ≥ x3 then (some 8) else (graph_check.l1 k x3 x36 x37 (wrap64 (x38 + 1)))))))) else (none)) else (none)) else (some 0)
end
def graph_check.f (k : Nat) (a0_0 : ByteArray) (a0_1 : Int) (a0_2 : Int) (l0_3 : List (S40)) (l0_4 : List (S49)) : Option (Int) := if (l0_3.length : Int) = 0 then (some 2) else (graph_check.l0 k (l0_3.length : Int) l0_3 (l0_3.length : Int) 0 a0_0 a0_1 a0_2 l0_3 l0_4)
theorem graph_check.mono_l : ∀ k, (∀ y0 y1 y2 y3 y4 y5 y6 y7 y8, LeO (graph_check.l0 k y0 y1 y2 y3 y4 y5 y6 y7 y8) (graph_check.l0 (k + 1) y0 y1 y2 y3 y4 y5 y6 y7 y8)) ∧ (∀ y0 y1 y2 y3, LeO (graph_check.l1 k y0 y1 y2 y3) (graph_check.l1 (k + 1) y0 y1 y2 y3))
  | 0 => ⟨fun _ _ _ _ _ _ _ _ _ r h => by simp [graph_check.l0] at h, fun _ _ _ _ r h => by simp [graph_check.l1] at h⟩
  | k + 1 => by
    obtain ⟨ih0, ih1⟩ := graph_check.mono_l k
    refine ⟨?_, ?_⟩
    · intro y0 y1 y2 y3 y4 y5 y6 y7 y8
      unfold graph_check.l0
      repeat' first
      | (with_reducible exact ih0 _ _ _ _ _ _ _ _ _)
      | (with_reducible exact ih1 _ _ _ _)
      | (with_reducible exact LeO.refl _)
      | (with_reducible exact LeO.none _)
      | (with_reducible refine LeO.ite ?_ ?_)
      | (with_reducible refine LeO.bind ?_ (fun _ => ?_))
      | exact ih0 _ _ _ _ _ _ _ _ _
      | exact ih1 _ _ _ _
      | exact LeO.none _
      | refine LeO.ite ?_ ?_
      | refine LeO.bind ?_ (fun _ => ?_)
    · intro y0 y1 y2 y3
      unfold graph_check.l1
      repeat' first
      | (with_reducible exact ih0 _ _ _ _ _ _ _ _ _)
      | (with_reducible exact ih1 _ _ _ _)
      | (with_reducible exact LeO.refl _)
      | (with_reducible exact LeO.none _)
      | (with_reducible refine LeO.ite ?_ ?_)
      | (with_reducible refine LeO.bind ?_ (fun _ => ?_))
      | exact ih0 _ _ _ _ _ _ _ _ _
      | exact ih1 _ _ _ _
      | exact LeO.none _
      | refine LeO.ite ?_ ?_
      | refine LeO.bind ?_ (fun _ => ?_)
theorem graph_check.mono : ∀ a0 a1 a2 a3 a4 k, LeO (graph_check.f k a0 a1 a2 a3 a4) (graph_check.f (k + 1) a0 a1 a2 a3 a4) := by
 intro a0 a1 a2 a3 a4 k; obtain ⟨ih0, ih1⟩ := graph_check.mono_l k; unfold graph_check.f; repeat' first
  | (with_reducible exact ih0 _ _ _ _ _ _ _ _ _)
  | (with_reducible exact ih1 _ _ _ _)
  | (with_reducible exact LeO.refl _)
  | (with_reducible exact LeO.none _)
  | (with_reducible refine LeO.ite ?_ ?_)
  | (with_reducible refine LeO.bind ?_ (fun _ => ?_))
  | exact ih0 _ _ _ _ _ _ _ _ _
  | exact ih1 _ _ _ _
  | exact LeO.none _
  | refine LeO.ite ?_ ?_
  | refine LeO.bind ?_ (fun _ => ?_)
set_option maxHeartbeats 8000000 in
set_option maxRecDepth 100000 in
theorem graph_check.calls (k : Nat) (a0_0 : ByteArray) (a0_1 : Int) (a0_2 : Int) (A0_3 : Option Addr) (c0_3 : Nat) (l0_3 : List (S40)) (A0_4 : Option Addr) (c0_4 : Nat) (l0_4 : List (S49)) (r : Int) (w : World) (hr0_3 : Kd.C k40 w A0_3 l0_3.length l0_3) (hc0_3 : l0_3.length ≤ c0_3) (hr0_4 : Kd.C k49 w A0_4 l0_4.length l0_4) (hc0_4 : l0_4.length ≤ c0_4) (h : graph_check.f k a0_0 a0_1 a0_2 l0_3 l0_4 = some r) :
    Calls Try.prog 43 #[.agg #[.string a0_0, .int .i64 a0_1, .int .i64 a0_2, .slice A0_3 l0_3.length c0_3, .slice A0_4 l0_4.length c0_4]] w fun e w' => e = .returned (.int .i64 r) ∧ Below w.heap.size w w' := by
 have hu25 := Try.underlying25; have hu40 := Try.underlying40; have hu49 := Try.underlying49; have HR0_3 := Aside0.mk hr0_3; have HC0_3 := Aside0.mk hc0_3; clear hr0_3 hc0_3; have HR0_4 := Aside0.mk hr0_4; have HC0_4 := Aside0.mk hc0_4; clear hr0_4 hc0_4; have HB := Aside0.mk (Below.refl w.heap.size w); have H : (if (l0_3.length : Int) = 0 then (some 2) else (graph_check.l0 k (l0_3.length : Int) l0_3 (l0_3.length : Int) 0 a0_0 a0_1 a0_2 l0_3 l0_4)) = some r := h; clear h
 by_cases c2 : (l0_3.length : Int) = 0
 ·rw [if_pos c2] at H; have c2b0 : ((l0_3.length : Int) == 0) = true := beq_iff_eq.mpr c2; have c2b1 : ((l0_3.length : Int) != 0) = false := bne_eq_false_iff_eq.mpr c2; clear c2; obtain rfl := Option.some.inj H; go_enter Try.func43, Try.ntmps43; go_wp2_with (first | ((with_reducible refine gate_dst (N := 1) rfl ?_); refine box_event ?hg (N := 1) ?hd (cs := #[.string a0_0, .int .i64 a0_1, .int .i64 a0_2, .slice A0_3 l0_3.length c0_3, .slice A0_4 l0_4.length c0_4]) (t := 25) ?hr ?_; (case hd => rfl); (case hg => rfl); (case hr => first | (go_simp; done) | (go_simp; rfl)); intro gb276 hg w3 hbox hb; have n0_ := Aside0.mk (below_step (by repeat (first | (with_reducible first | exact HB.out | apply below_alloc | apply pw_below_drewN | apply below_drew1) | exact HB.out)) hb); have n1_ := Aside0.mk (hbox); have n2_ := Aside0.mk ((by rw [hg]; exact (below_size (by repeat (first | (with_reducible first | exact HB.out | apply below_alloc | apply pw_below_drewN | apply below_drew1) | exact HB.out))) : w.heap.size ≤ gb276)); have n3_ := Aside0.mk ((by rw [hg]; exact (below_size (by repeat (first | (with_reducible first | exact HB.out | apply below_alloc | apply pw_below_drewN | apply below_drew1) | exact HB.out))) : w.heap.size ≤ gb276)); clear HB; have HB := n0_; have BK276 := n1_; have GW276 := n2_; have GE276 := n3_; clear n0_ n1_ n2_ n3_; clear hb hbox hg; have hcz4_0 : w3.cell? ⟨gb276, 0, none⟩ = some (.string a0_0) := (blk_cell BK276.out 0).trans rfl; have hcz4_1 : w3.cell? ⟨gb276, 1, none⟩ = some (.int .i64 a0_1) := (blk_cell BK276.out 1).trans rfl; have hcz4_2 : w3.cell? ⟨gb276, 2, none⟩ = some (.int .i64 a0_2) := (blk_cell BK276.out 2).trans rfl; have hcz4_3 : w3.cell? ⟨gb276, 3, none⟩ = some (.slice A0_3 l0_3.length c0_3) := (blk_cell BK276.out 3).trans rfl; have hcz4_4 : w3.cell? ⟨gb276, 4, none⟩ = some (.slice A0_4 l0_4.length c0_4) := (blk_cell BK276.out 4).trans rfl; have hfz4_0 := blk_frozen BK276.out 0; have hfz4_1 := blk_frozen BK276.out 1; have hfz4_2 := blk_frozen BK276.out 2; have hfz4_3 := blk_frozen BK276.out 3; have hfz4_4 := blk_frozen BK276.out 4))
  go_ret; exact ⟨by first | rfl | (simp [errW_none, errW_some] <;> rfl) | (simp [*, errW_none, errW_some] <;> rfl), by repeat (first | (with_reducible first | exact HB.out | apply below_alloc | apply pw_below_drewN | apply below_drew1 | refine below_set ?_ GE276.out) | exact HB.out)⟩
 ·rw [if_neg c2] at H; have c2b0 : ((l0_3.length : Int) == 0) = false := beq_eq_false_iff_ne.mpr c2; have c2b1 : ((l0_3.length : Int) != 0) = true := bne_iff_ne.mpr c2; have c2b2 : ¬ (l0_3 = []) := fun h_ => c2 (by rw [h_]; rfl)
  have H' := Aside0.mk H; clear H; go_enter Try.func43, Try.ntmps43; go_wp2_with (first | ((with_reducible refine gate_dst (N := 1) rfl ?_); refine box_event ?hg (N := 1) ?hd (cs := #[.string a0_0, .int .i64 a0_1, .int .i64 a0_2, .slice A0_3 l0_3.length c0_3, .slice A0_4 l0_4.length c0_4]) (t := 25) ?hr ?_; (case hd => rfl); (case hg => rfl); (case hr => first | (go_simp; done) | (go_simp; rfl)); intro gb276 hg w5 hbox hb; have n0_ := Aside0.mk (below_step (by repeat (first | (with_reducible first | exact HB.out | apply below_alloc | apply pw_below_drewN | apply below_drew1) | exact HB.out)) hb); have n1_ := Aside0.mk (hbox); have n2_ := Aside0.mk ((by rw [hg]; exact (below_size (by repeat (first | (with_reducible first | exact HB.out | apply below_alloc | apply pw_below_drewN | apply below_drew1) | exact HB.out))) : w.heap.size ≤ gb276)); have n3_ := Aside0.mk ((by rw [hg]; exact (below_size (by repeat (first | (with_reducible first | exact HB.out | apply below_alloc | apply pw_below_drewN | apply below_drew1) | exact HB.out))) : w.heap.size ≤ gb276)); clear HB; have HB := n0_; have BK276 := n1_; have GW276 := n2_; have GE276 := n3_; clear n0_ n1_ n2_ n3_; clear hb hbox hg; have hcz6_0 : w5.cell? ⟨gb276, 0, none⟩ = some (.string a0_0) := (blk_cell BK276.out 0).trans rfl; have hcz6_1 : w5.cell? ⟨gb276, 1, none⟩ = some (.int .i64 a0_1) := (blk_cell BK276.out 1).trans rfl; have hcz6_2 : w5.cell? ⟨gb276, 2, none⟩ = some (.int .i64 a0_2) := (blk_cell BK276.out 2).trans rfl; have hcz6_3 : w5.cell? ⟨gb276, 3, none⟩ = some (.slice A0_3 l0_3.length c0_3) := (blk_cell BK276.out 3).trans rfl; have hcz6_4 : w5.cell? ⟨gb276, 4, none⟩ = some (.slice A0_4 l0_4.length c0_4) := (blk_cell BK276.out 4).trans rfl; have hfz6_0 := blk_frozen BK276.out 0; have hfz6_1 := blk_frozen BK276.out 1; have hfz6_2 := blk_frozen BK276.out 2; have hfz6_3 := blk_frozen BK276.out 3; have hfz6_4 := blk_frozen BK276.out 4))
  go_loopg [16] k (fun kq v16 w' => ∃ (x16_1 : Int), v16 = .int .i64 x16_1 ∧ Aside0 (graph_check.l0 kq (l0_3.length : Int) l0_3 (l0_3.length : Int) x16_1 a0_0 a0_1 a0_2 l0_3 l0_4 = some r) ∧ Aside0 (kq ≤ k) ∧ Aside0 (w'.heap[gb276]? = some (.cells #[.string a0_0, .int .i64 a0_1, .int .i64 a0_2, (.slice A0_3 l0_3.length c0_3), (.slice A0_4 l0_4.length c0_4)] 25 (0, 0))) ∧ Aside0 (Below w.heap.size w w'))
  case atStart => exact ⟨(0), (by first | rfl | (simp; done) | (simp [*]; done)), H', ⟨Nat.le_refl _⟩, ⟨by (with_reducible repeat (first | refine blk_drewN ?_ _ | refine blk_drew ?_ | refine blk_alloc ?_ _)); exact BK276.out⟩, ⟨by repeat (first | (with_reducible first | exact HB.out | apply below_alloc | apply pw_below_drewN | apply below_drew1 | refine below_set ?_ GE276.out) | exact HB.out)⟩⟩
  case round =>
   clear H'; (try clear c2); (try clear c2b0); (try clear c2b1); (try clear c2b2); (try clear p2); (try clear c4); (try clear hcz4_0); (try clear hcz4_1); (try clear hcz4_2); (try clear hcz4_3); (try clear hcz4_4); (try clear hcz6_0); (try clear hcz6_1); (try clear hcz6_2); (try clear hcz6_3); (try clear hcz6_4); (try clear hfz4_0); (try clear hfz4_1); (try clear hfz4_2); (try clear hfz4_3); (try clear hfz4_4); (try clear hfz6_0); (try clear hfz6_1); (try clear hfz6_2); (try clear hfz6_3); (try clear hfz6_4); obtain ⟨x16_1, rfl, HA, HK1, BK276, HB⟩ := hrel
   cases gk with
   | zero => exact absurd HA.out (by simp [graph_check.l0])
   | succ k1 =>
    have H := HA.out; clear HA; simp only [graph_check.l0] at H
    by_cases c7 : x16_1 < (l0_3.length : Int)
    ·rw [if_pos c7] at H; have c7b0 : decide (x16_1 < (l0_3.length : Int)) = true := decide_eq_true c7; clear c7
     by_cases c8 : 0 ≤ x16_1
     ·rw [if_pos c8] at H; have c8b0 : decide (0 ≤ x16_1) = true := decide_eq_true c8; clear c8
      by_cases c9 : x16_1 < (l0_3.length : Int)
      ·rw [if_pos c9] at H; have c9b0 : decide (x16_1 < (l0_3.length : Int)) = true := decide_eq_true c9; clear c9; replace H := Option.bind_eq_some_iff.mp H; obtain ⟨t279, A100, H⟩ := H; replace H : (if t279 = true then (if ((rd_T40 l0_3 x16_1).f1) < 0 then (some 8) else (if ((rd_T40 l0_3 x16_1).f1) ≥ (l0_3.length : Int) then (some 8) else (graph_check.l0 k1 (l0_3.length : Int) l0_3 (l0_3.length : Int) (wrap64 (x16_1 + 1)) a0_0 a0_1 a0_2 l0_3 l0_4))) else (graph_check.l0 k1 (l0_3.length : Int) l0_3 (l0_3.length : Int) (wrap64 (x16_1 + 1)) a0_0 a0_1 a0_2 l0_3 l0_4)) = some r := H; have A10 := Aside0.mk A100; clear A100
       by_cases c11 : t279 = true
       ·subst c11; have H1 : (if ((rd_T40 l0_3 x16_1).f1) < 0 then (some 8) else (if ((rd_T40 l0_3 x16_1).f1) ≥ (l0_3.length : Int) then (some 8) else (graph_check.l0 k1 (l0_3.length : Int) l0_3 (l0_3.length : Int) (wrap64 (x16_1 + 1)) a0_0 a0_1 a0_2 l0_3 l0_4))) = some r := by rw [if_pos rfl] at H; exact H
        clear H; have H := H1; clear H1
        by_cases c12 : ((rd_T40 l0_3 x16_1).f1) < 0
        ·rw [if_pos c12] at H; have c12b0 : decide (((rd_T40 l0_3 x16_1).f1) < 0) = true := decide_eq_true c12; clear c12; obtain rfl := Option.some.inj H; have p277 : 0 ≤ (x16_1 : Int) := of_decide_eq_true (by first | (with_reducible assumption) | assumption); have q277 : x16_1 < (l0_3.length : Int) := of_decide_eq_true (by first | (with_reducible assumption) | assumption); obtain ⟨ad277, e277, hx277_0, hx277_1⟩ := at_T40 HR0_3.out x16_1 p277 q277
         cases e277; replace hx277_0 := (HB.out.cell (World.block_lt_of_cell? w _ hx277_0)).trans hx277_0; replace hx277_1 := (HB.out.cell (World.block_lt_of_cell? w _ hx277_1)).trans hx277_1; replace p277 := eq_true p277; replace q277 := eq_true q277; go_wp2_with (first | ((with_reducible refine gate_dst (N := 5) rfl ?_); refine box_event ?hg (N := 5) ?hd (cs := #[.int .i64 0, .int .i64 0]) (t := 40) ?hr ?_; (case hd => rfl); (case hg => rfl); (case hr => first | (go_simp; done) | (go_simp; rfl)); intro gb278 hg w13 hbox hb; have n0_ := Aside0.mk (blk_below (g := gb276) (o := .cells #[.string a0_0, .int .i64 a0_1, .int .i64 a0_2, .slice (some ad277) l0_3.length c0_3, .slice A0_4 l0_4.length c0_4] 25 (0, 0)) (by (with_reducible repeat (first | refine blk_drewN ?_ _ | refine blk_drew ?_ | refine blk_alloc ?_ _)); exact BK276.out) hb); have n1_ := Aside0.mk (below_step (by repeat (first | (with_reducible first | exact HB.out | apply below_alloc | apply pw_below_drewN | apply below_drew1 | refine below_set ?_ GE276.out) | exact HB.out)) hb); have n2_ := Aside0.mk (hbox); have n3_ := Aside0.mk ((by rw [hg]; exact (below_size (by repeat (first | (with_reducible first | exact HB.out | apply below_alloc | apply pw_below_drewN | apply below_drew1 | refine below_set ?_ GE276.out) | exact HB.out))) : w.heap.size ≤ gb278)); have n4_ := Aside0.mk ((by rw [hg]; exact (below_size (by repeat (first | (with_reducible first | exact HB.out | apply below_alloc | apply pw_below_drewN | apply below_drew1 | refine below_set ?_ GE276.out) | exact HB.out))) : w.heap.size ≤ gb278)); have n5_ := Aside0.mk ((by rw [hg]; exact Nat.ne_of_lt (blk_lt (g := gb276) (o := .cells #[.string a0_0, .int .i64 a0_1, .int .i64 a0_2, .slice (some ad277) l0_3.length c0_3, .slice A0_4 l0_4.length c0_4] 25 (0, 0)) (by (with_reducible repeat (first | refine blk_drewN ?_ _ | refine blk_drew ?_ | refine blk_alloc ?_ _)); exact BK276.out)) : gb276 ≠ gb278)); have n6_ := Aside0.mk ((by rw [hg]; exact Nat.ne_of_gt (blk_lt (g := gb276) (o := .cells #[.string a0_0, .int .i64 a0_1, .int .i64 a0_2, .slice (some ad277) l0_3.length c0_3, .slice A0_4 l0_4.length c0_4] 25 (0, 0)) (by (with_reducible repeat (first | refine blk_drewN ?_ _ | refine blk_drew ?_ | refine blk_alloc ?_ _)); exact BK276.out)) : gb278 ≠ gb276)); clear BK276; clear HB; have BK276 := n0_; have HB := n1_; have BK278 := n2_; have GW278 := n3_; have GE278 := n4_; have NB276_278 := n5_; have NB278_276 := n6_; clear n0_ n1_ n2_ n3_ n4_ n5_ n6_; clear hb hbox hg; have hnb14 := NB278_276.out; have hnc14 := NB276_278.out; have hcz15_0 : w13.cell? ⟨gb278, 0, none⟩ = some (.int .i64 0) := (blk_cell BK278.out 0).trans rfl; have hcz15_1 : w13.cell? ⟨gb278, 1, none⟩ = some (.int .i64 0) := (blk_cell BK278.out 1).trans rfl; have hfz15_0 := blk_frozen BK278.out 0; have hfz15_1 := blk_frozen BK278.out 1) | ((with_reducible refine gate_callee (f := 45) rfl ?_); refine goesL_ (some 22) rfl rfl Try.func45 (by kernel_rfl) rfl #[.int .i64 ((rd_T40 l0_3 x16_1).f0)] rfl (by (try simp only [List.map_toArray, List.map_cons, List.map_nil]); first | done | rfl | (simp only [List.length_drop, List.length_take]; rfl)) ?_; (with_reducible refine (graph_jumps.calls ((rd_T40 l0_3 x16_1).f0) true _ A10.out).mono ?_); rintro e w' ⟨rfl, ⟨nd, rfl⟩⟩; refine ⟨_, rfl, ?_⟩))
         go_ret; exact ⟨by first | rfl | (simp [errW_none, errW_some] <;> rfl) | (simp [*, errW_none, errW_some] <;> rfl), by repeat (first | (with_reducible first | exact HB.out | apply below_alloc | apply pw_below_drewN | apply below_drew1 | refine below_set ?_ GE276.out | refine below_set ?_ GE278.out) | exact HB.out)⟩
        ·rw [if_neg c12] at H; have c12b0 : decide (((rd_T40 l0_3 x16_1).f1) < 0) = false := decide_eq_false c12; clear c12
         by_cases c16 : ((rd_T40 l0_3 x16_1).f1) ≥ (l0_3.length : Int)
         ·rw [if_pos c16] at H; have c16b0 : decide ((l0_3.length : Int) ≤ ((rd_T40 l0_3 x16_1).f1)) = true := decide_eq_true c16; clear c16; obtain rfl := Option.some.inj H; have p277 : 0 ≤ (x16_1 : Int) := of_decide_eq_true (by first | (with_reducible assumption) | assumption); have q277 : x16_1 < (l0_3.length : Int) := of_decide_eq_true (by first | (with_reducible assumption) | assumption); obtain ⟨ad277, e277, hx277_0, hx277_1⟩ := at_T40 HR0_3.out x16_1 p277 q277
          cases e277; replace hx277_0 := (HB.out.cell (World.block_lt_of_cell? w _ hx277_0)).trans hx277_0; replace hx277_1 := (HB.out.cell (World.block_lt_of_cell? w _ hx277_1)).trans hx277_1; replace p277 := eq_true p277; replace q277 := eq_true q277; go_wp2_with (first | ((with_reducible refine gate_dst (N := 5) rfl ?_); refine box_event ?hg (N := 5) ?hd (cs := #[.int .i64 0, .int .i64 0]) (t := 40) ?hr ?_; (case hd => rfl); (case hg => rfl); (case hr => first | (go_simp; done) | (go_simp; rfl)); intro gb278 hg w17 hbox hb; have n0_ := Aside0.mk (blk_below (g := gb276) (o := .cells #[.string a0_0, .int .i64 a0_1, .int .i64 a0_2, .slice (some ad277) l0_3.length c0_3, .slice A0_4 l0_4.length c0_4] 25 (0, 0)) (by (with_reducible repeat (first | refine blk_drewN ?_ _ | refine blk_drew ?_ | refine blk_alloc ?_ _)); exact BK276.out) hb); have n1_ := Aside0.mk (below_step (by repeat (first | (with_reducible first | exact HB.out | apply below_alloc | apply pw_below_drewN | apply below_drew1 | refine below_set ?_ GE276.out) | exact HB.out)) hb); have n2_ := Aside0.mk (hbox); have n3_ := Aside0.mk ((by rw [hg]; exact (below_size (by repeat (first | (with_reducible first | exact HB.out | apply below_alloc | apply pw_below_drewN | apply below_drew1 | refine below_set ?_ GE276.out) | exact HB.out))) : w.heap.size ≤ gb278)); have n4_ := Aside0.mk ((by rw [hg]; exact (below_size (by repeat (first | (with_reducible first | exact HB.out | apply below_alloc | apply pw_below_drewN | apply below_drew1 | refine below_set ?_ GE276.out) | exact HB.out))) : w.heap.size ≤ gb278)); have n5_ := Aside0.mk ((by rw [hg]; exact Nat.ne_of_lt (blk_lt (g := gb276) (o := .cells #[.string a0_0, .int .i64 a0_1, .int .i64 a0_2, .slice (some ad277) l0_3.length c0_3, .slice A0_4 l0_4.length c0_4] 25 (0, 0)) (by (with_reducible repeat (first | refine blk_drewN ?_ _ | refine blk_drew ?_ | refine blk_alloc ?_ _)); exact BK276.out)) : gb276 ≠ gb278)); have n6_ := Aside0.mk ((by rw [hg]; exact Nat.ne_of_gt (blk_lt (g := gb276) (o := .cells #[.string a0_0, .int .i64 a0_1, .int .i64 a0_2, .slice (some ad277) l0_3.length c0_3, .slice A0_4 l0_4.length c0_4] 25 (0, 0)) (by (with_reducible repeat (first | refine blk_drewN ?_ _ | refine blk_drew ?_ | refine blk_alloc ?_ _)); exact BK276.out)) : gb278 ≠ gb276)); clear BK276; clear HB; have BK276 := n0_; have HB := n1_; have BK278 := n2_; have GW278 := n3_; have GE278 := n4_; have NB276_278 := n5_; have NB278_276 := n6_; clear n0_ n1_ n2_ n3_ n4_ n5_ n6_; clear hb hbox hg; have hnb18 := NB278_276.out; have hnc18 := NB276_278.out; have hcz19_0 : w17.cell? ⟨gb278, 0, none⟩ = some (.int .i64 0) := (blk_cell BK278.out 0).trans rfl; have hcz19_1 : w17.cell? ⟨gb278, 1, none⟩ = some (.int .i64 0) := (blk_cell BK278.out 1).trans rfl; have hfz19_0 := blk_frozen BK278.out 0; have hfz19_1 := blk_frozen BK278.out 1) | ((with_reducible refine gate_callee (f := 45) rfl ?_); refine goesL_ (some 22) rfl rfl Try.func45 (by kernel_rfl) rfl #[.int .i64 ((rd_T40 l0_3 x16_1).f0)] rfl (by (try simp only [List.map_toArray, List.map_cons, List.map_nil]); first | done | rfl | (simp only [List.length_drop, List.length_take]; rfl)) ?_; (with_reducible refine (graph_jumps.calls ((rd_T40 l0_3 x16_1).f0) true _ A10.out).mono ?_); rintro e w' ⟨rfl, ⟨nd, rfl⟩⟩; refine ⟨_, rfl, ?_⟩))
          go_ret; exact ⟨by first | rfl | (simp [errW_none, errW_some] <;> rfl) | (simp [*, errW_none, errW_some] <;> rfl), by repeat (first | (with_reducible first | exact HB.out | apply below_alloc | apply pw_below_drewN | apply below_drew1 | refine below_set ?_ GE276.out | refine below_set ?_ GE278.out) | exact HB.out)⟩
         ·rw [if_neg c16] at H; have c16b0 : decide ((l0_3.length : Int) ≤ ((rd_T40 l0_3 x16_1).f1)) = false := decide_eq_false c16; clear c16; have H' := Aside0.mk H; clear H; have p277 : 0 ≤ (x16_1 : Int) := of_decide_eq_true (by first | (with_reducible assumption) | assumption); have q277 : x16_1 < (l0_3.length : Int) := of_decide_eq_true (by first | (with_reducible assumption) | assumption); obtain ⟨ad277, e277, hx277_0, hx277_1⟩ := at_T40 HR0_3.out x16_1 p277 q277
          cases e277; replace hx277_0 := (HB.out.cell (World.block_lt_of_cell? w _ hx277_0)).trans hx277_0; replace hx277_1 := (HB.out.cell (World.block_lt_of_cell? w _ hx277_1)).trans hx277_1; replace p277 := eq_true p277; replace q277 := eq_true q277; go_wp2_with (first | ((with_reducible refine gate_dst (N := 5) rfl ?_); refine box_event ?hg (N := 5) ?hd (cs := #[.int .i64 0, .int .i64 0]) (t := 40) ?hr ?_; (case hd => rfl); (case hg => rfl); (case hr => first | (go_simp; done) | (go_simp; rfl)); intro gb278 hg w20 hbox hb; have n0_ := Aside0.mk (blk_below (g := gb276) (o := .cells #[.string a0_0, .int .i64 a0_1, .int .i64 a0_2, .slice (some ad277) l0_3.length c0_3, .slice A0_4 l0_4.length c0_4] 25 (0, 0)) (by (with_reducible repeat (first | refine blk_drewN ?_ _ | refine blk_drew ?_ | refine blk_alloc ?_ _)); exact BK276.out) hb); have n1_ := Aside0.mk (below_step (by repeat (first | (with_reducible first | exact HB.out | apply below_alloc | apply pw_below_drewN | apply below_drew1 | refine below_set ?_ GE276.out) | exact HB.out)) hb); have n2_ := Aside0.mk (hbox); have n3_ := Aside0.mk ((by rw [hg]; exact (below_size (by repeat (first | (with_reducible first | exact HB.out | apply below_alloc | apply pw_below_drewN | apply below_drew1 | refine below_set ?_ GE276.out) | exact HB.out))) : w.heap.size ≤ gb278)); have n4_ := Aside0.mk ((by rw [hg]; exact (below_size (by repeat (first | (with_reducible first | exact HB.out | apply below_alloc | apply pw_below_drewN | apply below_drew1 | refine below_set ?_ GE276.out) | exact HB.out))) : w.heap.size ≤ gb278)); have n5_ := Aside0.mk ((by rw [hg]; exact Nat.ne_of_lt (blk_lt (g := gb276) (o := .cells #[.string a0_0, .int .i64 a0_1, .int .i64 a0_2, .slice (some ad277) l0_3.length c0_3, .slice A0_4 l0_4.length c0_4] 25 (0, 0)) (by (with_reducible repeat (first | refine blk_drewN ?_ _ | refine blk_drew ?_ | refine blk_alloc ?_ _)); exact BK276.out)) : gb276 ≠ gb278)); have n6_ := Aside0.mk ((by rw [hg]; exact Nat.ne_of_gt (blk_lt (g := gb276) (o := .cells #[.string a0_0, .int .i64 a0_1, .int .i64 a0_2, .slice (some ad277) l0_3.length c0_3, .slice A0_4 l0_4.length c0_4] 25 (0, 0)) (by (with_reducible repeat (first | refine blk_drewN ?_ _ | refine blk_drew ?_ | refine blk_alloc ?_ _)); exact BK276.out)) : gb278 ≠ gb276)); clear BK276; clear HB; have BK276 := n0_; have HB := n1_; have BK278 := n2_; have GW278 := n3_; have GE278 := n4_; have NB276_278 := n5_; have NB278_276 := n6_; clear n0_ n1_ n2_ n3_ n4_ n5_ n6_; clear hb hbox hg; have hnb21 := NB278_276.out; have hnc21 := NB276_278.out; have hcz22_0 : w20.cell? ⟨gb278, 0, none⟩ = some (.int .i64 0) := (blk_cell BK278.out 0).trans rfl; have hcz22_1 : w20.cell? ⟨gb278, 1, none⟩ = some (.int .i64 0) := (blk_cell BK278.out 1).trans rfl; have hfz22_0 := blk_frozen BK278.out 0; have hfz22_1 := blk_frozen BK278.out 1) | ((with_reducible refine gate_callee (f := 45) rfl ?_); refine goesL_ (some 22) rfl rfl Try.func45 (by kernel_rfl) rfl #[.int .i64 ((rd_T40 l0_3 x16_1).f0)] rfl (by (try simp only [List.map_toArray, List.map_cons, List.map_nil]); first | done | rfl | (simp only [List.length_drop, List.length_take]; rfl)) ?_; (with_reducible refine (graph_jumps.calls ((rd_T40 l0_3 x16_1).f0) true _ A10.out).mono ?_); rintro e w' ⟨rfl, ⟨nd, rfl⟩⟩; refine ⟨_, rfl, ?_⟩))
          go_roundg k1
          case measure => have := HK1.out; omega
          case rel => exact ⟨(wrap64 (x16_1 + 1)), (by first | rfl | (simp; done) | (simp [*]; done)), H', ⟨by have := HK1.out; omega⟩, ⟨by (with_reducible repeat (first | refine blk_drewN ?_ _ | refine blk_drew ?_ | refine blk_alloc ?_ _)); refine blk_far ?_ NB276_278.out _; (with_reducible repeat (first | refine blk_drewN ?_ _ | refine blk_drew ?_ | refine blk_alloc ?_ _)); refine blk_far ?_ NB276_278.out _; (with_reducible repeat (first | refine blk_drewN ?_ _ | refine blk_drew ?_ | refine blk_alloc ?_ _)); exact BK276.out⟩, ⟨by repeat (first | (with_reducible first | exact HB.out | apply below_alloc | apply pw_below_drewN | apply below_drew1 | refine below_set ?_ GE276.out | refine below_set ?_ GE278.out) | exact HB.out)⟩⟩
       ·replace c11 := Bool.eq_false_iff.mpr c11; subst c11; have H1 : (graph_check.l0 k1 (l0_3.length : Int) l0_3 (l0_3.length : Int) (wrap64 (x16_1 + 1)) a0_0 a0_1 a0_2 l0_3 l0_4) = some r := by rw [if_neg (show ¬ (false = true) by decide)] at H; exact H
        clear H; have H := H1; clear H1; have H' := Aside0.mk H; clear H; have p277 : 0 ≤ (x16_1 : Int) := of_decide_eq_true (by first | (with_reducible assumption) | assumption); have q277 : x16_1 < (l0_3.length : Int) := of_decide_eq_true (by first | (with_reducible assumption) | assumption); obtain ⟨ad277, e277, hx277_0, hx277_1⟩ := at_T40 HR0_3.out x16_1 p277 q277
        cases e277; replace hx277_0 := (HB.out.cell (World.block_lt_of_cell? w _ hx277_0)).trans hx277_0; replace hx277_1 := (HB.out.cell (World.block_lt_of_cell? w _ hx277_1)).trans hx277_1; replace p277 := eq_true p277; replace q277 := eq_true q277; go_wp2_with (first | ((with_reducible refine gate_dst (N := 5) rfl ?_); refine box_event ?hg (N := 5) ?hd (cs := #[.int .i64 0, .int .i64 0]) (t := 40) ?hr ?_; (case hd => rfl); (case hg => rfl); (case hr => first | (go_simp; done) | (go_simp; rfl)); intro gb278 hg w23 hbox hb; have n0_ := Aside0.mk (blk_below (g := gb276) (o := .cells #[.string a0_0, .int .i64 a0_1, .int .i64 a0_2, .slice (some ad277) l0_3.length c0_3, .slice A0_4 l0_4.length c0_4] 25 (0, 0)) (by (with_reducible repeat (first | refine blk_drewN ?_ _ | refine blk_drew ?_ | refine blk_alloc ?_ _)); exact BK276.out) hb); have n1_ := Aside0.mk (below_step (by repeat (first | (with_reducible first | exact HB.out | apply below_alloc | apply pw_below_drewN | apply below_drew1 | refine below_set ?_ GE276.out) | exact HB.out)) hb); have n2_ := Aside0.mk (hbox); have n3_ := Aside0.mk ((by rw [hg]; exact (below_size (by repeat (first | (with_reducible first | exact HB.out | apply below_alloc | apply pw_below_drewN | apply below_drew1 | refine below_set ?_ GE276.out) | exact HB.out))) : w.heap.size ≤ gb278)); have n4_ := Aside0.mk ((by rw [hg]; exact (below_size (by repeat (first | (with_reducible first | exact HB.out | apply below_alloc | apply pw_below_drewN | apply below_drew1 | refine below_set ?_ GE276.out) | exact HB.out))) : w.heap.size ≤ gb278)); have n5_ := Aside0.mk ((by rw [hg]; exact Nat.ne_of_lt (blk_lt (g := gb276) (o := .cells #[.string a0_0, .int .i64 a0_1, .int .i64 a0_2, .slice (some ad277) l0_3.length c0_3, .slice A0_4 l0_4.length c0_4] 25 (0, 0)) (by (with_reducible repeat (first | refine blk_drewN ?_ _ | refine blk_drew ?_ | refine blk_alloc ?_ _)); exact BK276.out)) : gb276 ≠ gb278)); have n6_ := Aside0.mk ((by rw [hg]; exact Nat.ne_of_gt (blk_lt (g := gb276) (o := .cells #[.string a0_0, .int .i64 a0_1, .int .i64 a0_2, .slice (some ad277) l0_3.length c0_3, .slice A0_4 l0_4.length c0_4] 25 (0, 0)) (by (with_reducible repeat (first | refine blk_drewN ?_ _ | refine blk_drew ?_ | refine blk_alloc ?_ _)); exact BK276.out)) : gb278 ≠ gb276)); clear BK276; clear HB; have BK276 := n0_; have HB := n1_; have BK278 := n2_; have GW278 := n3_; have GE278 := n4_; have NB276_278 := n5_; have NB278_276 := n6_; clear n0_ n1_ n2_ n3_ n4_ n5_ n6_; clear hb hbox hg; have hnb24 := NB278_276.out; have hnc24 := NB276_278.out; have hcz25_0 : w23.cell? ⟨gb278, 0, none⟩ = some (.int .i64 0) := (blk_cell BK278.out 0).trans rfl; have hcz25_1 : w23.cell? ⟨gb278, 1, none⟩ = some (.int .i64 0) := (blk_cell BK278.out 1).trans rfl; have hfz25_0 := blk_frozen BK278.out 0; have hfz25_1 := blk_frozen BK278.out 1) | ((with_reducible refine gate_callee (f := 45) rfl ?_); refine goesL_ (some 22) rfl rfl Try.func45 (by kernel_rfl) rfl #[.int .i64 ((rd_T40 l0_3 x16_1).f0)] rfl (by (try simp only [List.map_toArray, List.map_cons, List.map_nil]); first | done | rfl | (simp only [List.length_drop, List.length_take]; rfl)) ?_; (with_reducible refine (graph_jumps.calls ((rd_T40 l0_3 x16_1).f0) false _ A10.out).mono ?_); rintro e w' ⟨rfl, ⟨nd, rfl⟩⟩; refine ⟨_, rfl, ?_⟩))
        go_roundg k1
        case measure => have := HK1.out; omega
        case rel => exact ⟨(wrap64 (x16_1 + 1)), (by first | rfl | (simp; done) | (simp [*]; done)), H', ⟨by have := HK1.out; omega⟩, ⟨by (with_reducible repeat (first | refine blk_drewN ?_ _ | refine blk_drew ?_ | refine blk_alloc ?_ _)); refine blk_far ?_ NB276_278.out _; (with_reducible repeat (first | refine blk_drewN ?_ _ | refine blk_drew ?_ | refine blk_alloc ?_ _)); refine blk_far ?_ NB276_278.out _; (with_reducible repeat (first | refine blk_drewN ?_ _ | refine blk_drew ?_ | refine blk_alloc ?_ _)); exact BK276.out⟩, ⟨by repeat (first | (with_reducible first | exact HB.out | apply below_alloc | apply pw_below_drewN | apply below_drew1 | refine below_set ?_ GE276.out | refine below_set ?_ GE278.out) | exact HB.out)⟩⟩
      ·rw [if_neg c9] at H
       exact absurd H (by simp)
     ·rw [if_neg c8] at H
      exact absurd H (by simp)
    ·rw [if_neg c7] at H; have c7b0 : decide (x16_1 < (l0_3.length : Int)) = false := decide_eq_false c7; clear c7; have H' := Aside0.mk H; clear H; have hcz26_0 : wr.cell? ⟨gb276, 0, none⟩ = some (.string a0_0) := (blk_cell BK276.out 0).trans rfl; have hcz26_1 : wr.cell? ⟨gb276, 1, none⟩ = some (.int .i64 a0_1) := (blk_cell BK276.out 1).trans rfl; have hcz26_2 : wr.cell? ⟨gb276, 2, none⟩ = some (.int .i64 a0_2) := (blk_cell BK276.out 2).trans rfl; have hcz26_3 : wr.cell? ⟨gb276, 3, none⟩ = some (.slice A0_3 l0_3.length c0_3) := (blk_cell BK276.out 3).trans rfl; have hcz26_4 : wr.cell? ⟨gb276, 4, none⟩ = some (.slice A0_4 l0_4.length c0_4) := (blk_cell BK276.out 4).trans rfl; have hfz26_0 := blk_frozen BK276.out 0; have hfz26_1 := blk_frozen BK276.out 1; have hfz26_2 := blk_frozen BK276.out 2; have hfz26_3 := blk_frozen BK276.out 3; have hfz26_4 := blk_frozen BK276.out 4; go_wp2; go_loopg [38] k1 (fun kq v38 w' => ∃ (x38_2 : Int), v38 = .int .i64 x38_2 ∧ Aside0 (graph_check.l1 kq (l0_3.length : Int) l0_4 (l0_4.length : Int) x38_2 = some r) ∧ Aside0 (kq ≤ k1) ∧ Aside0 (w'.heap[gb276]? = some (.cells #[.string a0_0, .int .i64 a0_1, .int .i64 a0_2, (.slice A0_3 l0_3.length c0_3), (.slice A0_4 l0_4.length c0_4)] 25 (0, 0))) ∧ Aside0 (Below w.heap.size w w'))
     case atStart => exact ⟨(0), (by first | rfl | (simp; done) | (simp [*]; done)), H', ⟨Nat.le_refl _⟩, ⟨by (with_reducible repeat (first | refine blk_drewN ?_ _ | refine blk_drew ?_ | refine blk_alloc ?_ _)); exact BK276.out⟩, ⟨by repeat (first | (with_reducible first | exact HB.out | apply below_alloc | apply pw_below_drewN | apply below_drew1 | refine below_set ?_ GE276.out) | exact HB.out)⟩⟩
     case round =>
      clear H'; (try clear c1); (try clear c2); (try clear c2b0); (try clear c2b1); (try clear c2b2); (try clear p2); (try clear q2); (try clear hx2); (try clear c4); (try clear p6); (try clear c7); (try clear c7b0); (try clear c8); (try clear c8b0); (try clear c9); (try clear c9b0); (try clear c11); (try clear c12); (try clear c12b0); (try clear c14); (try clear c16); (try clear c16b0); (try clear c18); (try clear c21); (try clear c24); (try clear hcz15_0); (try clear hcz15_1); (try clear hcz19_0); (try clear hcz19_1); (try clear hcz22_0); (try clear hcz22_1); (try clear hcz25_0); (try clear hcz25_1); (try clear hcz26_0); (try clear hcz26_1); (try clear hcz26_2); (try clear hcz26_3); (try clear hcz26_4); (try clear hcz4_0); (try clear hcz4_1); (try clear hcz4_2); (try clear hcz4_3); (try clear hcz4_4); (try clear hcz6_0); (try clear hcz6_1); (try clear hcz6_2); (try clear hcz6_3); (try clear hcz6_4); (try clear hfz15_0); (try clear hfz15_1); (try clear hfz19_0); (try clear hfz19_1); (try clear hfz22_0); (try clear hfz22_1); (try clear hfz25_0); (try clear hfz25_1); (try clear hfz26_0); (try clear hfz26_1); (try clear hfz26_2); (try clear hfz26_3); (try clear hfz26_4); (try clear hfz4_0); (try clear hfz4_1); (try clear hfz4_2); (try clear hfz4_3); (try clear hfz4_4); (try clear hfz6_0); (try clear hfz6_1); (try clear hfz6_2); (try clear hfz6_3); (try clear hfz6_4); (try clear hx277_0); (try clear hx277_1); (try clear p2); (try clear p277); (try clear q277); obtain ⟨x38_2, rfl, HA, HK2, BK276, HB⟩ := hrel
      cases gk with
      | zero => exact absurd HA.out (by simp [graph_check.l1])
      | succ k2 =>
       have H := HA.out; clear HA; simp only [graph_check.l1] at H
       by_cases c27 : x38_2 < (l0_4.length : Int)
       ·rw [if_pos c27] at H; have c27b0 : decide (x38_2 < (l0_4.length : Int)) = true := decide_eq_true c27; clear c27
        by_cases c28 : 0 ≤ x38_2
        ·rw [if_pos c28] at H; have c28b0 : decide (0 ≤ x38_2) = true := decide_eq_true c28; clear c28
         by_cases c29 : x38_2 < (l0_4.length : Int)
         ·rw [if_pos c29] at H; have c29b0 : decide (x38_2 < (l0_4.length : Int)) = true := decide_eq_true c29; clear c29
          by_cases c30 : ((rd_T49 l0_4 x38_2).f0) < 0
          ·rw [if_pos c30] at H; have c30b0 : decide (((rd_T49 l0_4 x38_2).f0) < 0) = true := decide_eq_true c30; clear c30; obtain rfl := Option.some.inj H; have p280 : 0 ≤ (x38_2 : Int) := of_decide_eq_true (by first | (with_reducible assumption) | assumption); have q280 : x38_2 < (l0_4.length : Int) := of_decide_eq_true (by first | (with_reducible assumption) | assumption); obtain ⟨ad280, e280, hx280_0, hx280_1, hx280_2, hx280_3⟩ := at_T49 HR0_4.out x38_2 p280 q280
           cases e280; replace hx280_0 := (HB.out.cell (World.block_lt_of_cell? w _ hx280_0)).trans hx280_0; replace hx280_1 := (HB.out.cell (World.block_lt_of_cell? w _ hx280_1)).trans hx280_1; replace hx280_2 := (HB.out.cell (World.block_lt_of_cell? w _ hx280_2)).trans hx280_2; replace hx280_3 := (HB.out.cell (World.block_lt_of_cell? w _ hx280_3)).trans hx280_3; replace p280 := eq_true p280; replace q280 := eq_true q280; go_wp2_with (first | ((with_reducible refine gate_dst (N := 7) rfl ?_); refine box_event ?hg (N := 7) ?hd (cs := #[.int .i64 0, .int .i64 0, .int .i64 0, .int .i64 0]) (t := 49) ?hr ?_; (case hd => rfl); (case hg => rfl); (case hr => first | (go_simp; done) | (go_simp; rfl)); intro gb281 hg w31 hbox hb; have n0_ := Aside0.mk (blk_below (g := gb276) (o := .cells #[.string a0_0, .int .i64 a0_1, .int .i64 a0_2, .slice A0_3 l0_3.length c0_3, .slice (some ad280) l0_4.length c0_4] 25 (0, 0)) (by (with_reducible repeat (first | refine blk_drewN ?_ _ | refine blk_drew ?_ | refine blk_alloc ?_ _)); exact BK276.out) hb); have n1_ := Aside0.mk (below_step (by repeat (first | (with_reducible first | exact HB.out | apply below_alloc | apply pw_below_drewN | apply below_drew1 | refine below_set ?_ GE276.out) | exact HB.out)) hb); have n2_ := Aside0.mk (hbox); have n3_ := Aside0.mk ((by rw [hg]; exact (below_size (by repeat (first | (with_reducible first | exact HB.out | apply below_alloc | apply pw_below_drewN | apply below_drew1 | refine below_set ?_ GE276.out) | exact HB.out))) : w.heap.size ≤ gb281)); have n4_ := Aside0.mk ((by rw [hg]; exact (below_size (by repeat (first | (with_reducible first | exact HB.out | apply below_alloc | apply pw_below_drewN | apply below_drew1 | refine below_set ?_ GE276.out) | exact HB.out))) : w.heap.size ≤ gb281)); have n5_ := Aside0.mk ((by rw [hg]; exact Nat.ne_of_lt (blk_lt (g := gb276) (o := .cells #[.string a0_0, .int .i64 a0_1, .int .i64 a0_2, .slice A0_3 l0_3.length c0_3, .slice (some ad280) l0_4.length c0_4] 25 (0, 0)) (by (with_reducible repeat (first | refine blk_drewN ?_ _ | refine blk_drew ?_ | refine blk_alloc ?_ _)); exact BK276.out)) : gb276 ≠ gb281)); have n6_ := Aside0.mk ((by rw [hg]; exact Nat.ne_of_gt (blk_lt (g := gb276) (o := .cells #[.string a0_0, .int .i64 a0_1, .int .i64 a0_2, .slice A0_3 l0_3.length c0_3, .slice (some ad280) l0_4.length c0_4] 25 (0, 0)) (by (with_reducible repeat (first | refine blk_drewN ?_ _ | refine blk_drew ?_ | refine blk_alloc ?_ _)); exact BK276.out)) : gb281 ≠ gb276)); clear BK276; clear HB; have BK276 := n0_; have HB := n1_; have BK281 := n2_; have GW281 := n3_; have GE281 := n4_; have NB276_281 := n5_; have NB281_276 := n6_; clear n0_ n1_ n2_ n3_ n4_ n5_ n6_; clear hb hbox hg; have hnb32 := NB281_276.out; have hnc32 := NB276_281.out; have hcz33_0 : w31.cell? ⟨gb281, 0, none⟩ = some (.int .i64 0) := (blk_cell BK281.out 0).trans rfl; have hcz33_1 : w31.cell? ⟨gb281, 1, none⟩ = some (.int .i64 0) := (blk_cell BK281.out 1).trans rfl; have hcz33_2 : w31.cell? ⟨gb281, 2, none⟩ = some (.int .i64 0) := (blk_cell BK281.out 2).trans rfl; have hcz33_3 : w31.cell? ⟨gb281, 3, none⟩ = some (.int .i64 0) := (blk_cell BK281.out 3).trans rfl; have hfz33_0 := blk_frozen BK281.out 0; have hfz33_1 := blk_frozen BK281.out 1; have hfz33_2 := blk_frozen BK281.out 2; have hfz33_3 := blk_frozen BK281.out 3))
           go_ret; exact ⟨by first | rfl | (simp [errW_none, errW_some] <;> rfl) | (simp [*, errW_none, errW_some] <;> rfl), by repeat (first | (with_reducible first | exact HB.out | apply below_alloc | apply pw_below_drewN | apply below_drew1 | refine below_set ?_ GE276.out | refine below_set ?_ GE281.out) | exact HB.out)⟩
          ·rw [if_neg c30] at H; have c30b0 : decide (((rd_T49 l0_4 x38_2).f0) < 0) = false := decide_eq_false c30; clear c30
           by_cases c34 : ((rd_T49 l0_4 x38_2).f0) ≥ ((rd_T49 l0_4 x38_2).f1)
           ·rw [if_pos c34] at H; have c34b0 : decide (((rd_T49 l0_4 x38_2).f1) ≤ ((rd_T49 l0_4 x38_2).f0)) = true := decide_eq_true c34; clear c34; obtain rfl := Option.some.inj H; have p280 : 0 ≤ (x38_2 : Int) := of_decide_eq_true (by first | (with_reducible assumption) | assumption); have q280 : x38_2 < (l0_4.length : Int) := of_decide_eq_true (by first | (with_reducible assumption) | assumption); obtain ⟨ad280, e280, hx280_0, hx280_1, hx280_2, hx280_3⟩ := at_T49 HR0_4.out x38_2 p280 q280
            cases e280; replace hx280_0 := (HB.out.cell (World.block_lt_of_cell? w _ hx280_0)).trans hx280_0; replace hx280_1 := (HB.out.cell (World.block_lt_of_cell? w _ hx280_1)).trans hx280_1; replace hx280_2 := (HB.out.cell (World.block_lt_of_cell? w _ hx280_2)).trans hx280_2; replace hx280_3 := (HB.out.cell (World.block_lt_of_cell? w _ hx280_3)).trans hx280_3; replace p280 := eq_true p280; replace q280 := eq_true q280; go_wp2_with (first | ((with_reducible refine gate_dst (N := 7) rfl ?_); refine box_event ?hg (N := 7) ?hd (cs := #[.int .i64 0, .int .i64 0, .int .i64 0, .int .i64 0]) (t := 49) ?hr ?_; (case hd => rfl); (case hg => rfl); (case hr => first | (go_simp; done) | (go_simp; rfl)); intro gb281 hg w35 hbox hb; have n0_ := Aside0.mk (blk_below (g := gb276) (o := .cells #[.string a0_0, .int .i64 a0_1, .int .i64 a0_2, .slice A0_3 l0_3.length c0_3, .slice (some ad280) l0_4.length c0_4] 25 (0, 0)) (by (with_reducible repeat (first | refine blk_drewN ?_ _ | refine blk_drew ?_ | refine blk_alloc ?_ _)); exact BK276.out) hb); have n1_ := Aside0.mk (below_step (by repeat (first | (with_reducible first | exact HB.out | apply below_alloc | apply pw_below_drewN | apply below_drew1 | refine below_set ?_ GE276.out) | exact HB.out)) hb); have n2_ := Aside0.mk (hbox); have n3_ := Aside0.mk ((by rw [hg]; exact (below_size (by repeat (first | (with_reducible first | exact HB.out | apply below_alloc | apply pw_below_drewN | apply below_drew1 | refine below_set ?_ GE276.out) | exact HB.out))) : w.heap.size ≤ gb281)); have n4_ := Aside0.mk ((by rw [hg]; exact (below_size (by repeat (first | (with_reducible first | exact HB.out | apply below_alloc | apply pw_below_drewN | apply below_drew1 | refine below_set ?_ GE276.out) | exact HB.out))) : w.heap.size ≤ gb281)); have n5_ := Aside0.mk ((by rw [hg]; exact Nat.ne_of_lt (blk_lt (g := gb276) (o := .cells #[.string a0_0, .int .i64 a0_1, .int .i64 a0_2, .slice A0_3 l0_3.length c0_3, .slice (some ad280) l0_4.length c0_4] 25 (0, 0)) (by (with_reducible repeat (first | refine blk_drewN ?_ _ | refine blk_drew ?_ | refine blk_alloc ?_ _)); exact BK276.out)) : gb276 ≠ gb281)); have n6_ := Aside0.mk ((by rw [hg]; exact Nat.ne_of_gt (blk_lt (g := gb276) (o := .cells #[.string a0_0, .int .i64 a0_1, .int .i64 a0_2, .slice A0_3 l0_3.length c0_3, .slice (some ad280) l0_4.length c0_4] 25 (0, 0)) (by (with_reducible repeat (first | refine blk_drewN ?_ _ | refine blk_drew ?_ | refine blk_alloc ?_ _)); exact BK276.out)) : gb281 ≠ gb276)); clear BK276; clear HB; have BK276 := n0_; have HB := n1_; have BK281 := n2_; have GW281 := n3_; have GE281 := n4_; have NB276_281 := n5_; have NB281_276 := n6_; clear n0_ n1_ n2_ n3_ n4_ n5_ n6_; clear hb hbox hg; have hnb36 := NB281_276.out; have hnc36 := NB276_281.out; have hcz37_0 : w35.cell? ⟨gb281, 0, none⟩ = some (.int .i64 0) := (blk_cell BK281.out 0).trans rfl; have hcz37_1 : w35.cell? ⟨gb281, 1, none⟩ = some (.int .i64 0) := (blk_cell BK281.out 1).trans rfl; have hcz37_2 : w35.cell? ⟨gb281, 2, none⟩ = some (.int .i64 0) := (blk_cell BK281.out 2).trans rfl; have hcz37_3 : w35.cell? ⟨gb281, 3, none⟩ = some (.int .i64 0) := (blk_cell BK281.out 3).trans rfl; have hfz37_0 := blk_frozen BK281.out 0; have hfz37_1 := blk_frozen BK281.out 1; have hfz37_2 := blk_frozen BK281.out 2; have hfz37_3 := blk_frozen BK281.out 3))
            go_ret; exact ⟨by first | rfl | (simp [errW_none, errW_some] <;> rfl) | (simp [*, errW_none, errW_some] <;> rfl), by repeat (first | (with_reducible first | exact HB.out | apply below_alloc | apply pw_below_drewN | apply below_drew1 | refine below_set ?_ GE276.out | refine below_set ?_ GE281.out) | exact HB.out)⟩
           ·rw [if_neg c34] at H; have c34b0 : decide (((rd_T49 l0_4 x38_2).f1) ≤ ((rd_T49 l0_4 x38_2).f0)) = false := decide_eq_false c34; clear c34
            by_cases c38 : ((rd_T49 l0_4 x38_2).f1) > (l0_3.length : Int)
            ·rw [if_pos c38] at H; have c38b0 : decide ((l0_3.length : Int) < ((rd_T49 l0_4 x38_2).f1)) = true := decide_eq_true c38; clear c38; obtain rfl := Option.some.inj H; have p280 : 0 ≤ (x38_2 : Int) := of_decide_eq_true (by first | (with_reducible assumption) | assumption); have q280 : x38_2 < (l0_4.length : Int) := of_decide_eq_true (by first | (with_reducible assumption) | assumption); obtain ⟨ad280, e280, hx280_0, hx280_1, hx280_2, hx280_3⟩ := at_T49 HR0_4.out x38_2 p280 q280
             cases e280; replace hx280_0 := (HB.out.cell (World.block_lt_of_cell? w _ hx280_0)).trans hx280_0; replace hx280_1 := (HB.out.cell (World.block_lt_of_cell? w _ hx280_1)).trans hx280_1; replace hx280_2 := (HB.out.cell (World.block_lt_of_cell? w _ hx280_2)).trans hx280_2; replace hx280_3 := (HB.out.cell (World.block_lt_of_cell? w _ hx280_3)).trans hx280_3; replace p280 := eq_true p280; replace q280 := eq_true q280; go_wp2_with (first | ((with_reducible refine gate_dst (N := 7) rfl ?_); refine box_event ?hg (N := 7) ?hd (cs := #[.int .i64 0, .int .i64 0, .int .i64 0, .int .i64 0]) (t := 49) ?hr ?_; (case hd => rfl); (case hg => rfl); (case hr => first | (go_simp; done) | (go_simp; rfl)); intro gb281 hg w39 hbox hb; have n0_ := Aside0.mk (blk_below (g := gb276) (o := .cells #[.string a0_0, .int .i64 a0_1, .int .i64 a0_2, .slice A0_3 l0_3.length c0_3, .slice (some ad280) l0_4.length c0_4] 25 (0, 0)) (by (with_reducible repeat (first | refine blk_drewN ?_ _ | refine blk_drew ?_ | refine blk_alloc ?_ _)); exact BK276.out) hb); have n1_ := Aside0.mk (below_step (by repeat (first | (with_reducible first | exact HB.out | apply below_alloc | apply pw_below_drewN | apply below_drew1 | refine below_set ?_ GE276.out) | exact HB.out)) hb); have n2_ := Aside0.mk (hbox); have n3_ := Aside0.mk ((by rw [hg]; exact (below_size (by repeat (first | (with_reducible first | exact HB.out | apply below_alloc | apply pw_below_drewN | apply below_drew1 | refine below_set ?_ GE276.out) | exact HB.out))) : w.heap.size ≤ gb281)); have n4_ := Aside0.mk ((by rw [hg]; exact (below_size (by repeat (first | (with_reducible first | exact HB.out | apply below_alloc | apply pw_below_drewN | apply below_drew1 | refine below_set ?_ GE276.out) | exact HB.out))) : w.heap.size ≤ gb281)); have n5_ := Aside0.mk ((by rw [hg]; exact Nat.ne_of_lt (blk_lt (g := gb276) (o := .cells #[.string a0_0, .int .i64 a0_1, .int .i64 a0_2, .slice A0_3 l0_3.length c0_3, .slice (some ad280) l0_4.length c0_4] 25 (0, 0)) (by (with_reducible repeat (first | refine blk_drewN ?_ _ | refine blk_drew ?_ | refine blk_alloc ?_ _)); exact BK276.out)) : gb276 ≠ gb281)); have n6_ := Aside0.mk ((by rw [hg]; exact Nat.ne_of_gt (blk_lt (g := gb276) (o := .cells #[.string a0_0, .int .i64 a0_1, .int .i64 a0_2, .slice A0_3 l0_3.length c0_3, .slice (some ad280) l0_4.length c0_4] 25 (0, 0)) (by (with_reducible repeat (first | refine blk_drewN ?_ _ | refine blk_drew ?_ | refine blk_alloc ?_ _)); exact BK276.out)) : gb281 ≠ gb276)); clear BK276; clear HB; have BK276 := n0_; have HB := n1_; have BK281 := n2_; have GW281 := n3_; have GE281 := n4_; have NB276_281 := n5_; have NB281_276 := n6_; clear n0_ n1_ n2_ n3_ n4_ n5_ n6_; clear hb hbox hg; have hnb40 := NB281_276.out; have hnc40 := NB276_281.out; have hcz41_0 : w39.cell? ⟨gb281, 0, none⟩ = some (.int .i64 0) := (blk_cell BK281.out 0).trans rfl; have hcz41_1 : w39.cell? ⟨gb281, 1, none⟩ = some (.int .i64 0) := (blk_cell BK281.out 1).trans rfl; have hcz41_2 : w39.cell? ⟨gb281, 2, none⟩ = some (.int .i64 0) := (blk_cell BK281.out 2).trans rfl; have hcz41_3 : w39.cell? ⟨gb281, 3, none⟩ = some (.int .i64 0) := (blk_cell BK281.out 3).trans rfl; have hfz41_0 := blk_frozen BK281.out 0; have hfz41_1 := blk_frozen BK281.out 1; have hfz41_2 := blk_frozen BK281.out 2; have hfz41_3 := blk_frozen BK281.out 3))
             go_ret; exact ⟨by first | rfl | (simp [errW_none, errW_some] <;> rfl) | (simp [*, errW_none, errW_some] <;> rfl), by repeat (first | (with_reducible first | exact HB.out | apply below_alloc | apply pw_below_drewN | apply below_drew1 | refine below_set ?_ GE276.out | refine below_set ?_ GE281.out) | exact HB.out)⟩
            ·rw [if_neg c38] at H; have c38b0 : decide ((l0_3.length : Int) < ((rd_T49 l0_4 x38_2).f1)) = false := decide_eq_false c38; clear c38
             by_cases c42 : ((rd_T49 l0_4 x38_2).f2) < 0
             ·rw [if_pos c42] at H; have c42b0 : decide (((rd_T49 l0_4 x38_2).f2) < 0) = true := decide_eq_true c42; clear c42; obtain rfl := Option.some.inj H; have p280 : 0 ≤ (x38_2 : Int) := of_decide_eq_true (by first | (with_reducible assumption) | assumption); have q280 : x38_2 < (l0_4.length : Int) := of_decide_eq_true (by first | (with_reducible assumption) | assumption); obtain ⟨ad280, e280, hx280_0, hx280_1, hx280_2, hx280_3⟩ := at_T49 HR0_4.out x38_2 p280 q280
              cases e280; replace hx280_0 := (HB.out.cell (World.block_lt_of_cell? w _ hx280_0)).trans hx280_0; replace hx280_1 := (HB.out.cell (World.block_lt_of_cell? w _ hx280_1)).trans hx280_1; replace hx280_2 := (HB.out.cell (World.block_lt_of_cell? w _ hx280_2)).trans hx280_2; replace hx280_3 := (HB.out.cell (World.block_lt_of_cell? w _ hx280_3)).trans hx280_3; replace p280 := eq_true p280; replace q280 := eq_true q280; go_wp2_with (first | ((with_reducible refine gate_dst (N := 7) rfl ?_); refine box_event ?hg (N := 7) ?hd (cs := #[.int .i64 0, .int .i64 0, .int .i64 0, .int .i64 0]) (t := 49) ?hr ?_; (case hd => rfl); (case hg => rfl); (case hr => first | (go_simp; done) | (go_simp; rfl)); intro gb281 hg w43 hbox hb; have n0_ := Aside0.mk (blk_below (g := gb276) (o := .cells #[.string a0_0, .int .i64 a0_1, .int .i64 a0_2, .slice A0_3 l0_3.length c0_3, .slice (some ad280) l0_4.length c0_4] 25 (0, 0)) (by (with_reducible repeat (first | refine blk_drewN ?_ _ | refine blk_drew ?_ | refine blk_alloc ?_ _)); exact BK276.out) hb); have n1_ := Aside0.mk (below_step (by repeat (first | (with_reducible first | exact HB.out | apply below_alloc | apply pw_below_drewN | apply below_drew1 | refine below_set ?_ GE276.out) | exact HB.out)) hb); have n2_ := Aside0.mk (hbox); have n3_ := Aside0.mk ((by rw [hg]; exact (below_size (by repeat (first | (with_reducible first | exact HB.out | apply below_alloc | apply pw_below_drewN | apply below_drew1 | refine below_set ?_ GE276.out) | exact HB.out))) : w.heap.size ≤ gb281)); have n4_ := Aside0.mk ((by rw [hg]; exact (below_size (by repeat (first | (with_reducible first | exact HB.out | apply below_alloc | apply pw_below_drewN | apply below_drew1 | refine below_set ?_ GE276.out) | exact HB.out))) : w.heap.size ≤ gb281)); have n5_ := Aside0.mk ((by rw [hg]; exact Nat.ne_of_lt (blk_lt (g := gb276) (o := .cells #[.string a0_0, .int .i64 a0_1, .int .i64 a0_2, .slice A0_3 l0_3.length c0_3, .slice (some ad280) l0_4.length c0_4] 25 (0, 0)) (by (with_reducible repeat (first | refine blk_drewN ?_ _ | refine blk_drew ?_ | refine blk_alloc ?_ _)); exact BK276.out)) : gb276 ≠ gb281)); have n6_ := Aside0.mk ((by rw [hg]; exact Nat.ne_of_gt (blk_lt (g := gb276) (o := .cells #[.string a0_0, .int .i64 a0_1, .int .i64 a0_2, .slice A0_3 l0_3.length c0_3, .slice (some ad280) l0_4.length c0_4] 25 (0, 0)) (by (with_reducible repeat (first | refine blk_drewN ?_ _ | refine blk_drew ?_ | refine blk_alloc ?_ _)); exact BK276.out)) : gb281 ≠ gb276)); clear BK276; clear HB; have BK276 := n0_; have HB := n1_; have BK281 := n2_; have GW281 := n3_; have GE281 := n4_; have NB276_281 := n5_; have NB281_276 := n6_; clear n0_ n1_ n2_ n3_ n4_ n5_ n6_; clear hb hbox hg; have hnb44 := NB281_276.out; have hnc44 := NB276_281.out; have hcz45_0 : w43.cell? ⟨gb281, 0, none⟩ = some (.int .i64 0) := (blk_cell BK281.out 0).trans rfl; have hcz45_1 : w43.cell? ⟨gb281, 1, none⟩ = some (.int .i64 0) := (blk_cell BK281.out 1).trans rfl; have hcz45_2 : w43.cell? ⟨gb281, 2, none⟩ = some (.int .i64 0) := (blk_cell BK281.out 2).trans rfl; have hcz45_3 : w43.cell? ⟨gb281, 3, none⟩ = some (.int .i64 0) := (blk_cell BK281.out 3).trans rfl; have hfz45_0 := blk_frozen BK281.out 0; have hfz45_1 := blk_frozen BK281.out 1; have hfz45_2 := blk_frozen BK281.out 2; have hfz45_3 := blk_frozen BK281.out 3))
              go_ret; exact ⟨by first | rfl | (simp [errW_none, errW_some] <;> rfl) | (simp [*, errW_none, errW_some] <;> rfl), by repeat (first | (with_reducible first | exact HB.out | apply below_alloc | apply pw_below_drewN | apply below_drew1 | refine below_set ?_ GE276.out | refine below_set ?_ GE281.out) | exact HB.out)⟩
             ·rw [if_neg c42] at H; have c42b0 : decide (((rd_T49 l0_4 x38_2).f2) < 0) = false := decide_eq_false c42; clear c42
              by_cases c46 : ((rd_T49 l0_4 x38_2).f2) ≥ (l0_3.length : Int)
              ·rw [if_pos c46] at H; have c46b0 : decide ((l0_3.length : Int) ≤ ((rd_T49 l0_4 x38_2).f2)) = true := decide_eq_true c46; clear c46; obtain rfl := Option.some.inj H; have p280 : 0 ≤ (x38_2 : Int) := of_decide_eq_true (by first | (with_reducible assumption) | assumption); have q280 : x38_2 < (l0_4.length : Int) := of_decide_eq_true (by first | (with_reducible assumption) | assumption); obtain ⟨ad280, e280, hx280_0, hx280_1, hx280_2, hx280_3⟩ := at_T49 HR0_4.out x38_2 p280 q280
               cases e280; replace hx280_0 := (HB.out.cell (World.block_lt_of_cell? w _ hx280_0)).trans hx280_0; replace hx280_1 := (HB.out.cell (World.block_lt_of_cell? w _ hx280_1)).trans hx280_1; replace hx280_2 := (HB.out.cell (World.block_lt_of_cell? w _ hx280_2)).trans hx280_2; replace hx280_3 := (HB.out.cell (World.block_lt_of_cell? w _ hx280_3)).trans hx280_3; replace p280 := eq_true p280; replace q280 := eq_true q280; go_wp2_with (first | ((with_reducible refine gate_dst (N := 7) rfl ?_); refine box_event ?hg (N := 7) ?hd (cs := #[.int .i64 0, .int .i64 0, .int .i64 0, .int .i64 0]) (t := 49) ?hr ?_; (case hd => rfl); (case hg => rfl); (case hr => first | (go_simp; done) | (go_simp; rfl)); intro gb281 hg w47 hbox hb; have n0_ := Aside0.mk (blk_below (g := gb276) (o := .cells #[.string a0_0, .int .i64 a0_1, .int .i64 a0_2, .slice A0_3 l0_3.length c0_3, .slice (some ad280) l0_4.length c0_4] 25 (0, 0)) (by (with_reducible repeat (first | refine blk_drewN ?_ _ | refine blk_drew ?_ | refine blk_alloc ?_ _)); exact BK276.out) hb); have n1_ := Aside0.mk (below_step (by repeat (first | (with_reducible first | exact HB.out | apply below_alloc | apply pw_below_drewN | apply below_drew1 | refine below_set ?_ GE276.out) | exact HB.out)) hb); have n2_ := Aside0.mk (hbox); have n3_ := Aside0.mk ((by rw [hg]; exact (below_size (by repeat (first | (with_reducible first | exact HB.out | apply below_alloc | apply pw_below_drewN | apply below_drew1 | refine below_set ?_ GE276.out) | exact HB.out))) : w.heap.size ≤ gb281)); have n4_ := Aside0.mk ((by rw [hg]; exact (below_size (by repeat (first | (with_reducible first | exact HB.out | apply below_alloc | apply pw_below_drewN | apply below_drew1 | refine below_set ?_ GE276.out) | exact HB.out))) : w.heap.size ≤ gb281)); have n5_ := Aside0.mk ((by rw [hg]; exact Nat.ne_of_lt (blk_lt (g := gb276) (o := .cells #[.string a0_0, .int .i64 a0_1, .int .i64 a0_2, .slice A0_3 l0_3.length c0_3, .slice (some ad280) l0_4.length c0_4] 25 (0, 0)) (by (with_reducible repeat (first | refine blk_drewN ?_ _ | refine blk_drew ?_ | refine blk_alloc ?_ _)); exact BK276.out)) : gb276 ≠ gb281)); have n6_ := Aside0.mk ((by rw [hg]; exact Nat.ne_of_gt (blk_lt (g := gb276) (o := .cells #[.string a0_0, .int .i64 a0_1, .int .i64 a0_2, .slice A0_3 l0_3.length c0_3, .slice (some ad280) l0_4.length c0_4] 25 (0, 0)) (by (with_reducible repeat (first | refine blk_drewN ?_ _ | refine blk_drew ?_ | refine blk_alloc ?_ _)); exact BK276.out)) : gb281 ≠ gb276)); clear BK276; clear HB; have BK276 := n0_; have HB := n1_; have BK281 := n2_; have GW281 := n3_; have GE281 := n4_; have NB276_281 := n5_; have NB281_276 := n6_; clear n0_ n1_ n2_ n3_ n4_ n5_ n6_; clear hb hbox hg; have hnb48 := NB281_276.out; have hnc48 := NB276_281.out; have hcz49_0 : w47.cell? ⟨gb281, 0, none⟩ = some (.int .i64 0) := (blk_cell BK281.out 0).trans rfl; have hcz49_1 : w47.cell? ⟨gb281, 1, none⟩ = some (.int .i64 0) := (blk_cell BK281.out 1).trans rfl; have hcz49_2 : w47.cell? ⟨gb281, 2, none⟩ = some (.int .i64 0) := (blk_cell BK281.out 2).trans rfl; have hcz49_3 : w47.cell? ⟨gb281, 3, none⟩ = some (.int .i64 0) := (blk_cell BK281.out 3).trans rfl; have hfz49_0 := blk_frozen BK281.out 0; have hfz49_1 := blk_frozen BK281.out 1; have hfz49_2 := blk_frozen BK281.out 2; have hfz49_3 := blk_frozen BK281.out 3))
               go_ret; exact ⟨by first | rfl | (simp [errW_none, errW_some] <;> rfl) | (simp [*, errW_none, errW_some] <;> rfl), by repeat (first | (with_reducible first | exact HB.out | apply below_alloc | apply pw_below_drewN | apply below_drew1 | refine below_set ?_ GE276.out | refine below_set ?_ GE281.out) | exact HB.out)⟩
              ·rw [if_neg c46] at H; have c46b0 : decide ((l0_3.length : Int) ≤ ((rd_T49 l0_4 x38_2).f2)) = false := decide_eq_false c46; clear c46; have H' := Aside0.mk H; clear H; have p280 : 0 ≤ (x38_2 : Int) := of_decide_eq_true (by first | (with_reducible assumption) | assumption); have q280 : x38_2 < (l0_4.length : Int) := of_decide_eq_true (by first | (with_reducible assumption) | assumption); obtain ⟨ad280, e280, hx280_0, hx280_1, hx280_2, hx280_3⟩ := at_T49 HR0_4.out x38_2 p280 q280
               cases e280; replace hx280_0 := (HB.out.cell (World.block_lt_of_cell? w _ hx280_0)).trans hx280_0; replace hx280_1 := (HB.out.cell (World.block_lt_of_cell? w _ hx280_1)).trans hx280_1; replace hx280_2 := (HB.out.cell (World.block_lt_of_cell? w _ hx280_2)).trans hx280_2; replace hx280_3 := (HB.out.cell (World.block_lt_of_cell? w _ hx280_3)).trans hx280_3; replace p280 := eq_true p280; replace q280 := eq_true q280; go_wp2_with (first | ((with_reducible refine gate_dst (N := 7) rfl ?_); refine box_event ?hg (N := 7) ?hd (cs := #[.int .i64 0, .int .i64 0, .int .i64 0, .int .i64 0]) (t := 49) ?hr ?_; (case hd => rfl); (case hg => rfl); (case hr => first | (go_simp; done) | (go_simp; rfl)); intro gb281 hg w50 hbox hb; have n0_ := Aside0.mk (blk_below (g := gb276) (o := .cells #[.string a0_0, .int .i64 a0_1, .int .i64 a0_2, .slice A0_3 l0_3.length c0_3, .slice (some ad280) l0_4.length c0_4] 25 (0, 0)) (by (with_reducible repeat (first | refine blk_drewN ?_ _ | refine blk_drew ?_ | refine blk_alloc ?_ _)); exact BK276.out) hb); have n1_ := Aside0.mk (below_step (by repeat (first | (with_reducible first | exact HB.out | apply below_alloc | apply pw_below_drewN | apply below_drew1 | refine below_set ?_ GE276.out) | exact HB.out)) hb); have n2_ := Aside0.mk (hbox); have n3_ := Aside0.mk ((by rw [hg]; exact (below_size (by repeat (first | (with_reducible first | exact HB.out | apply below_alloc | apply pw_below_drewN | apply below_drew1 | refine below_set ?_ GE276.out) | exact HB.out))) : w.heap.size ≤ gb281)); have n4_ := Aside0.mk ((by rw [hg]; exact (below_size (by repeat (first | (with_reducible first | exact HB.out | apply below_alloc | apply pw_below_drewN | apply below_drew1 | refine below_set ?_ GE276.out) | exact HB.out))) : w.heap.size ≤ gb281)); have n5_ := Aside0.mk ((by rw [hg]; exact Nat.ne_of_lt (blk_lt (g := gb276) (o := .cells #[.string a0_0, .int .i64 a0_1, .int .i64 a0_2, .slice A0_3 l0_3.length c0_3, .slice (some ad280) l0_4.length c0_4] 25 (0, 0)) (by (with_reducible repeat (first | refine blk_drewN ?_ _ | refine blk_drew ?_ | refine blk_alloc ?_ _)); exact BK276.out)) : gb276 ≠ gb281)); have n6_ := Aside0.mk ((by rw [hg]; exact Nat.ne_of_gt (blk_lt (g := gb276) (o := .cells #[.string a0_0, .int .i64 a0_1, .int .i64 a0_2, .slice A0_3 l0_3.length c0_3, .slice (some ad280) l0_4.length c0_4] 25 (0, 0)) (by (with_reducible repeat (first | refine blk_drewN ?_ _ | refine blk_drew ?_ | refine blk_alloc ?_ _)); exact BK276.out)) : gb281 ≠ gb276)); clear BK276; clear HB; have BK276 := n0_; have HB := n1_; have BK281 := n2_; have GW281 := n3_; have GE281 := n4_; have NB276_281 := n5_; have NB281_276 := n6_; clear n0_ n1_ n2_ n3_ n4_ n5_ n6_; clear hb hbox hg; have hnb51 := NB281_276.out; have hnc51 := NB276_281.out; have hcz52_0 : w50.cell? ⟨gb281, 0, none⟩ = some (.int .i64 0) := (blk_cell BK281.out 0).trans rfl; have hcz52_1 : w50.cell? ⟨gb281, 1, none⟩ = some (.int .i64 0) := (blk_cell BK281.out 1).trans rfl; have hcz52_2 : w50.cell? ⟨gb281, 2, none⟩ = some (.int .i64 0) := (blk_cell BK281.out 2).trans rfl; have hcz52_3 : w50.cell? ⟨gb281, 3, none⟩ = some (.int .i64 0) := (blk_cell BK281.out 3).trans rfl; have hfz52_0 := blk_frozen BK281.out 0; have hfz52_1 := blk_frozen BK281.out 1; have hfz52_2 := blk_frozen BK281.out 2; have hfz52_3 := blk_frozen BK281.out 3))
               go_roundg k2
               case measure => have := HK1.out; have := HK2.out; omega
               case rel => exact ⟨(wrap64 (x38_2 + 1)), (by first | rfl | (simp; done) | (simp [*]; done)), H', ⟨by have := HK1.out; have := HK2.out; omega⟩, ⟨by (with_reducible repeat (first | refine blk_drewN ?_ _ | refine blk_drew ?_ | refine blk_alloc ?_ _)); refine blk_far ?_ NB276_281.out _; (with_reducible repeat (first | refine blk_drewN ?_ _ | refine blk_drew ?_ | refine blk_alloc ?_ _)); refine blk_far ?_ NB276_281.out _; (with_reducible repeat (first | refine blk_drewN ?_ _ | refine blk_drew ?_ | refine blk_alloc ?_ _)); refine blk_far ?_ NB276_281.out _; (with_reducible repeat (first | refine blk_drewN ?_ _ | refine blk_drew ?_ | refine blk_alloc ?_ _)); refine blk_far ?_ NB276_281.out _; (with_reducible repeat (first | refine blk_drewN ?_ _ | refine blk_drew ?_ | refine blk_alloc ?_ _)); exact BK276.out⟩, ⟨by repeat (first | (with_reducible first | exact HB.out | apply below_alloc | apply pw_below_drewN | apply below_drew1 | refine below_set ?_ GE276.out | refine below_set ?_ GE281.out) | exact HB.out)⟩⟩
         ·rw [if_neg c29] at H
          exact absurd H (by simp)
        ·rw [if_neg c28] at H
         exact absurd H (by simp)
       ·rw [if_neg c27] at H; have c27b0 : decide (x38_2 < (l0_4.length : Int)) = false := decide_eq_false c27; clear c27; obtain rfl := Option.some.inj H; go_wp2; go_ret; exact ⟨by first | rfl | (simp [errW_none, errW_some] <;> rfl) | (simp [*, errW_none, errW_some] <;> rfl), by repeat (first | (with_reducible first | exact HB.out | apply below_alloc | apply pw_below_drewN | apply below_drew1 | refine below_set ?_ GE276.out) | exact HB.out)⟩
end Go.Proofs.Ytmeaepmimnmjlaa.PGb
/- Tidy GridC Next BuildA PureNext CheckP Build BuildNo -/
/- slices.Sort, slices.Compact, slices.Clone of a row of the caller's own. -/
namespace Go.Proofs.Ytmeaepmimnmjlaa.Ask
open Go.RowKit Go.Shelf Go.Sort Go.Proofs.Ytmeaepmimnmjlaa.PGb Go.Proofs.Ytmeaepmimnmjlaa.Lit Go.Proofs.Ytmeaepmimnmjlaa.OwnCells Go.Proofs.YtmeaepmimnmjlaaW.PrintWords Go.Proofs.YtmeaepmimnmjlaaW.PrintLast Go.Proofs.YtmeaepmimnmjlaaW.PrintMore
set_option linter.unusedVariables false
set_option linter.unusedSimpArgs false
def srt (l : List Int) : List Int := l.mergeSort fun x y => decide (x ≤ y)
def tidy (l : List Int) : List Int := Lib.compact (srt l)
theorem srt_length (l : List Int) : (srt l).length = l.length := by unfold srt; simp
theorem sort_own (base : Nat) (v : Value) (l : List Int) (w : World) (h : w.ownsRow base 3 1 v l.length (l.map (Value.int .i64))) (hl : l.length < 4611686018427387904) :
    Calls Try.prog 63 #[v] w fun e w' => e = .returned (.tuple #[]) ∧ w'.ownsRow base 3 1 v l.length ((srt l).map (Value.int .i64)) ∧ w.grownBy w' v.ownBlock := by
  rcases h.2 with ⟨rfl, h0⟩ | ⟨g, cap, cur, rfl, hbase, hb, h1, h2, h3, h4⟩
  · refine (Try.slices_Sort_int_none none 0 w).mono ?_
    rintro e w' ⟨rfl, rfl⟩
    have hnil : l = [] := List.eq_nil_of_length_eq_zero h0
    subst hnil
    refine ⟨rfl, ?_, ⟨rfl, rfl, rfl, Nat.le_refl _, fun _ _ _ => rfl⟩⟩
    have e : srt [] = [] := List.eq_nil_of_length_eq_zero (srt_length [])
    rw [e]
    exact World.ownsRow_nil _ _ _ _
  · refine (Try.slices_Sort_int g 0 cap l w (holds_of_blockI hb (by simpa using h4)) (blk_lt hb) hl).mono ?_
    rintro e w' ⟨rfl, n, os, rfl⟩
    exact ⟨rfl, ownsRow_sortedI (by simp [srt]) hbase hb h1 h2 h3, grownBy_sortedI _⟩
theorem heap_put {w : World} {g n : Nat} {cur : Array Value} {e : TypeId} {fr : Nat × Nat} (d : Array Int) (hb : w.heap[g]? = some (.cells cur e fr)) :
    (putRow (Value.int .i64) (Sort.ahead w n) g 0 d).heap[g]? = some (.cells (putCells (Value.int .i64) 0 d cur) e fr) := by
  simp [putRow, mapBlock, Sort.ahead, Array.getElem?_modify, hb, onCells]
theorem grown_put {w : World} {g n : Nat} (d : Array Int) : w.grownBy (putRow (Value.int .i64) (Sort.ahead w n) g 0 d) (some g) := by
  refine ⟨rfl, rfl, rfl, by simp, fun k hk hne => ?_⟩
  have : g ≠ k := fun e => hne (by rw [e])
  simp [putRow, mapBlock, Sort.ahead, Array.getElem?_modify, this]
theorem compact_le (l : List Int) : (Lib.compact l).length ≤ l.length := by
  unfold Lib.compact Lib.compactUpTo
  rw [List.length_map]
  have := List.length_filter_le (Lib.keeps l.toArray) (List.range l.length)
  rwa [List.length_range] at this
theorem compact_own (base : Nat) (v : Value) (l : List Int) (w : World) (h : w.ownsRow base 3 1 v l.length (l.map (Value.int .i64))) (hl : l.length < 4611686018427387904) :
    Calls Try.prog 65 #[v] w fun e w' => ∃ v', e = .returned v' ∧ w'.ownsRow base 3 1 v' (Lib.compact l).length ((Lib.compact l).map (Value.int .i64)) ∧ v'.ownBlock = v.ownBlock ∧ w.grownBy w' v.ownBlock := by
  rcases h.2 with ⟨rfl, h0⟩ | ⟨g, cap, cur, rfl, hbase, hb, h1, h2, h3, h4⟩
  · refine (Try.slices_Compact_int_empty none 0 w).mono ?_
    rintro e w' ⟨rfl, rfl⟩
    have hnil : l = [] := List.eq_nil_of_length_eq_zero h0
    subst hnil
    exact ⟨_, rfl, World.ownsRow_nil _ _ _ _, rfl, ⟨rfl, rfl, rfl, Nat.le_refl _, fun _ _ _ => rfl⟩⟩
  · refine (Try.slices_Compact_int g 0 cap l w (holds_of_blockI hb (by simpa using h4)) (by omega) h1).mono ?_
    rintro e w' ⟨rfl, n, rfl⟩
    have hle := compact_le l
    refine ⟨_, rfl, ⟨by simp, .inr ⟨g, cap, _, rfl, hbase, heap_put _ hb, by omega, h2, by simp [putCells, h3], ?_⟩⟩, rfl, grown_put _⟩
    have ht := take_putCellsI cur (Lib.compact l ++ List.replicate (l.length - (Lib.compact l).length) 0) (by simp; omega)
    have hlen : (Lib.compact l ++ List.replicate (l.length - (Lib.compact l).length) (0 : Int)).length = l.length := by simp; omega
    rw [hlen] at ht
    have := congrArg (List.take (Lib.compact l).length) ht
    rw [List.take_take, Nat.min_eq_left hle, List.map_append, List.take_append_of_le_length (by simp)] at this
    have e3 : List.take (Lib.compact l).length (List.map (Value.int .i64) (Lib.compact l)) = List.map (Value.int .i64) (Lib.compact l) := List.take_of_length_le (by simp)
    rw [e3] at this
    rw [Nat.mul_one]
    exact this
theorem clone_own (base : Nat) (v : Value) (l : List Int) (w : World) (h : w.ownsRow base 3 1 v l.length (l.map (Value.int .i64))) (hl : l.length * 8 ≤ 140737488355328) :
    Calls Try.prog 64 #[v] w fun e w' => ∃ v', e = .returned v' ∧ w'.ownsRow w.heap.size 3 1 v' l.length (l.map (Value.int .i64)) ∧ Below w.heap.size w w' := by
  rcases h.2 with ⟨rfl, h0⟩ | ⟨g, cap, cur, rfl, hbase, hb, h1, h2, h3, h4⟩
  · refine (Try.slices_Clone_int_nil 0 0 w).mono ?_
    rintro e w' ⟨rfl, rfl⟩
    have hnil : l = [] := List.eq_nil_of_length_eq_zero h0
    subst hnil
    exact ⟨_, rfl, World.ownsRow_nil _ _ _ _, Below.refl _ _⟩
  · refine (Try.slices_Clone_int g 0 l.length cap l w (Nat.le_refl _) hl (fun j hj => ?_)).mono ?_
    · rw [Nat.zero_add, h.cellAt j (by omega), List.getElem?_map, List.getElem?_eq_getElem hj, List.getD_eq_getElem?_getD, List.getElem?_eq_getElem hj]; rfl
    · rintro e w' ⟨v', rfl, h1, _, h2⟩
      rw [List.take_length] at h1
      exact ⟨v', rfl, h1, h2⟩
end Go.Proofs.Ytmeaepmimnmjlaa.Ask
/- A grid reads as a list of lists; rows of marks read. -/
namespace Go.Proofs.Ytmeaepmimnmjlaa.Ask
open Go.RowKit Go.Shelf Go.Proofs.Ytmeaepmimnmjlaa.PGb Go.Proofs.Ytmeaepmimnmjlaa.Lit Go.Proofs.Ytmeaepmimnmjlaa.OwnCells Go.Proofs.YtmeaepmimnmjlaaW.PrintWords Go.Proofs.YtmeaepmimnmjlaaW.PrintLast Go.Proofs.YtmeaepmimnmjlaaW.PrintMore
set_option linter.unusedVariables false
theorem Grid.C {W : World} {base ga n : Nat} {vs : List Value} {ah : List (List Int)} (h : Grid W base ga n vs ah) (hn : n ≤ 9223372036854775807) : (Kd.slice 3 (Kd.int .i64)).C W (some ⟨ga, 0, none⟩) ah.length ah := by
  have hl := h.len
  refine ⟨rfl, by omega, fun hp => ⟨⟨ga, 0, none⟩, rfl, fun i p hi => ?_⟩⟩
  have hi' : i < n := by have := (List.getElem?_eq_some_iff.1 hi).1; omega
  obtain ⟨A, c, hv⟩ := row_slice (h.each i hi')
  have her := h.each i hi'
  have hg : ah.getD i [] = p := by rw [List.getD_eq_getElem?_getD, hi]; rfl
  rw [hv, hg] at her
  rw [hg] at hv
  obtain ⟨h1, h2⟩ := row_C her
  refine ⟨[.slice A p.length c], rfl, ⟨A, c, rfl, h2, h1⟩, fun j u hj => ?_⟩
  match j, hj with
  | 0, hj =>
    simp at hj
    subst hj
    have := h.cellAt hi'
    rw [hv] at this
    have e : ((⟨ga, 0, none⟩ : Addr).add (i * 1 + 0)) = ⟨ga, i, none⟩ := by simp [Addr.add]; omega
    show W.cell? ((⟨ga, 0, none⟩ : Addr).add (i * 1 + 0)) = _
    rw [e]; exact this
theorem bool_C {w : World} {base g n : Nat} {l : List Bool} (h : w.ownsRow base 4 1 (.slice (some ⟨g, 0, none⟩) n n) n (l.map Value.bool)) (hl : l.length = n) : Kd.bool.C w (some ⟨g, 0, none⟩) l.length l := by
  have hR : Kd.bool.R 4 w base (fun _ => True) (.slice (some ⟨g, 0, none⟩) n n) l := Kd.R_of_own (hl ▸ h) (fun _ _ => trivial)
  exact (Kd.R_reads' hR).2.2
end Go.Proofs.Ytmeaepmimnmjlaa.Ask
/- graph.next: for every world. -/
namespace Go.Proofs.Ytmeaepmimnmjlaa.Ask
open Go.Proofs.Ytmeaepmimnmjlaa.Dfs Go.Proofs.Ytmeaepmimnmjlaa.Dom Go.RowKit Go.Shelf Go.Proofs.Ytmeaepmimnmjlaa.PGb Go.Proofs.Ytmeaepmimnmjlaa.Lit Go.Proofs.Ytmeaepmimnmjlaa.OwnCells Go.Proofs.YtmeaepmimnmjlaaW.PrintWords Go.Proofs.YtmeaepmimnmjlaaW.PrintLast Go.Proofs.YtmeaepmimnmjlaaW.PrintMore
attribute [local go_sem] Oper.semAt_some
attribute [local go_sem] run_store_fn
attribute [local go_sem] run_eql_fn
set_option linter.unusedVariables false
set_option linter.unusedSimpArgs false
def jumpsP (op : Int) : Bool := decide (40 ≤ op) && decide (op ≤ 42)
def stopsP (op : Int) : Bool := decide (op = 40) || decide (op = 44) || decide (op = 45)
theorem jumps_f (op : Int) : graph_jumps.f op = some (jumpsP op) := by
  unfold graph_jumps.f jumpsP
  by_cases h : op ≥ 40
  · rw [if_pos h, decide_eq_true (show 40 ≤ op from h)]; simp
  · rw [if_neg h, decide_eq_false (show ¬ 40 ≤ op from h)]; simp
theorem stops_f (op : Int) : graph_stops.f op = some (stopsP op) := by
  unfold graph_stops.f stopsP
  by_cases h : op = 40
  · simp [h]
  · by_cases h2 : op = 44
    · simp [h2]
    · by_cases h3 : op = 45
      · simp [h3]
      · simp [h, h2, h3]
def blockOf (st : List Int) (pc : Int) : Int := blockAt pc (back st st.length)
def endOf (code : List S40) (st : List Int) (b : Nat) : Int := if b + 1 < st.length then rd st ((b + 1 : Nat) : Int) else (code.length : Int)
def raw1 (code : List S40) (st : List Int) (b : Nat) : List Int := if jumpsP (rd_T40 code (endOf code st b - 1)).f0 = true then [blockOf st (rd_T40 code (endOf code st b - 1)).f1] else []
def raw2 (code : List S40) (st : List Int) (b : Nat) : List Int := if stopsP (rd_T40 code (endOf code st b - 1)).f0 = false ∧ b + 1 < st.length then [((b + 1 : Nat) : Int)] else []
def rawH (st : List Int) (tt ff : Int) : List S49 → List Int
  | [] => []
  | h :: r => (if h.f0 < tt ∧ ff < h.f1 then [blockOf st h.f2] else []) ++ rawH st tt ff r
theorem rawH_append (st : List Int) (tt ff : Int) : ∀ (l r : List S49), rawH st tt ff (l ++ r) = rawH st tt ff l ++ rawH st tt ff r
  | [], _ => rfl
  | h :: l, r => by rw [List.cons_append, rawH, rawH, rawH_append st tt ff l r, List.append_assoc]
theorem rawH_length (st : List Int) (tt ff : Int) : ∀ (l : List S49), (rawH st tt ff l).length ≤ l.length
  | [] => Nat.le_refl _
  | h :: l => by
    have := rawH_length st tt ff l
    rw [rawH, List.length_append, List.length_cons]
    split <;> simp <;> omega
def rawOf (code : List S40) (hs : List S49) (st : List Int) (b : Nat) : List Int := raw1 code st b ++ raw2 code st b ++ rawH st (endOf code st b) (rd st (b : Int)) hs
def nextOf (code : List S40) (hs : List S49) (st : List Int) : List (List Int) := (List.range st.length).map fun b => tidy (rawOf code hs st b)
/-- the starts of the blocks -/
structure Sts (code : List S40) (st : List Int) : Prop where
  lo : ∀ b : Nat, b < st.length → 0 ≤ rd st (b : Int) ∧ rd st (b : Int) < (code.length : Int)
  up : ∀ b : Nat, b + 1 < st.length → rd st (b : Int) < rd st ((b + 1 : Nat) : Int)
theorem Sts.end_ {code : List S40} {st : List Int} (h : Sts code st) {b : Nat} (hb : b < st.length) : rd st (b : Int) < endOf code st b ∧ endOf code st b ≤ (code.length : Int) := by
  unfold endOf
  split
  · rename_i h1
    have := h.up b h1
    have := h.lo (b + 1) h1
    omega
  · have := h.lo b hb
    omega
theorem cell_blk {W : World} {k i : Nat} {cur : Array Value} {e : TypeId} {v : Value} (h : W.heap[k]? = some (.cells cur e (0, 0))) (hv : cur[i]? = some v) : W.cell? ⟨k, i, none⟩ = some v := by
  simp [World.cell?, h, hv]
/-- the two boxes of the arguments -/
structure Boxes (W : World) (F : Nat) (cf cg : Array Value) : Prop where
  f : W.heap[F]? = some (.cells cf 25 (0, 0))
  g : W.heap[F + 1]? = some (.cells cg 29 (0, 0))
theorem Boxes.from_ {W W' : World} {F m : Nat} {cf cg : Array Value} (h : Boxes W F cf cg) (hb : Below m W W') (hm : F + 2 ≤ m) : Boxes W' F cf cg := ⟨(hb.block F (by omega)).trans h.f, (hb.block (F + 1) (by omega)).trans h.g⟩
/-- what lies in memory from round to round -/
structure NS (w W : World) (n ga : Nat) (cf cg : Array Value) (rows : List (List Int)) : Prop where
  grid : ∃ vs, Grid W (w.heap.size + 2) ga n vs rows
  boxes : Boxes W w.heap.size cf cg
  below : Below w.heap.size w W
  lo : w.heap.size + 2 ≤ W.heap.size
theorem NS.from_ {w W W' : World} {n ga : Nat} {cf cg : Array Value} {rows : List (List Int)} (h : NS w W n ga cf cg rows) (hb : Below W.heap.size W W') : NS w W' n ga cf cg rows := by
  obtain ⟨vs, hg⟩ := h.grid
  exact ⟨⟨vs, hg.from_ hb (Nat.le_refl _)⟩, h.boxes.from_ hb h.lo, h.below.trans (hb.mono h.below.size), Nat.le_trans h.lo hb.size⟩
theorem NS.drew {w W : World} {n ga : Nat} {cf cg : Array Value} {rows : List (List Int)} (h : NS w W n ga cf cg rows) (k : Nat) : NS w (W.drewN k) n ga cf cg rows := h.from_ (pw_below_drewN (Below.refl _ _) k)
set_option maxRecDepth 100000 in
set_option maxHeartbeats 8000000 in
theorem next_calls (nm : ByteArray) (pa lo : Int) (A3 A4 As A1 A2 A5 A6 : Option Addr) (c3 c4 cs c1 c2 c5 c6 n1 n2 n5 n6 : Nat) (code : List S40) (hs : List S49) (st : List Int) (w : World) (hC : k40.C w A3 code.length code) (hH : k49.C w A4 hs.length hs) (hS : (Kd.int .i64).C w As st.length st) (hst : Sts code st) (hn : st.length ≤ 8796093022208) (hh : hs.length ≤ 8796093022208) (hcl : code.length < 9223372036854775807) :
    Calls Try.prog 47 #[.agg #[.string nm, .int .i64 pa, .int .i64 lo, .slice A3 code.length c3, .slice A4 hs.length c4], .agg #[.slice As st.length cs, .slice A1 n1 c1, .slice A2 n2 c2, .slice A5 n5 c5, .slice A6 n6 c6]] w fun e w' => ∃ ga vs, e = .returned (.slice (some ⟨ga, 0, none⟩) st.length st.length) ∧ Grid w' w.heap.size ga st.length vs (nextOf code hs st) ∧ Below w.heap.size w w' := by
  have HC := Aside0.mk hC
  have HH := Aside0.mk hH
  have HS := Aside0.mk hS
  have HST := Aside0.mk hst
  clear hC hH hS hst
  obtain ⟨i26, hi26, hz260, hz261, hz262⟩ := info_parts info26
  have hu25 := Try.underlying25
  have hu29 := Try.underlying29
  have hu40 := Try.underlying40
  have hu49 := Try.underlying49
  go_enter Try.func47, Try.ntmps47
  go_upto_region 1 with (fail)
  have hB0 : Boxes ((w.alloc (.cells #[.string nm, .int .i64 pa, .int .i64 lo, .slice A3 code.length c3, .slice A4 hs.length c4] 25)).alloc (.cells #[.slice As st.length cs, .slice A1 n1 c1, .slice A2 n2 c2, .slice A5 n5 c5, .slice A6 n6 c6] 29)) w.heap.size #[.string nm, .int .i64 pa, .int .i64 lo, .slice A3 code.length c3, .slice A4 hs.length c4] #[.slice As st.length cs, .slice A1 n1 c1, .slice A2 n2 c2, .slice A5 n5 c5, .slice A6 n6 c6] := by
    refine ⟨((World.grownBy_alloc (w.alloc _) _ none).block _ (by simp) (by simp)).trans (World.alloc_heap_new w _), ?_⟩
    have := World.alloc_heap_new (w.alloc (.cells #[.string nm, .int .i64 pa, .int .i64 lo, .slice A3 code.length c3, .slice A4 hs.length c4] 25)) (.cells #[.slice As st.length cs, .slice A1 n1 c1, .slice A2 n2 c2, .slice A5 n5 c5, .slice A6 n6 c6] 29)
    rw [World.size_alloc] at this
    exact this
  have hb0 : Below w.heap.size w ((w.alloc (.cells #[.string nm, .int .i64 pa, .int .i64 lo, .slice A3 code.length c3, .slice A4 hs.length c4] 25)).alloc (.cells #[.slice As st.length cs, .slice A1 n1 c1, .slice A2 n2 c2, .slice A5 n5 c5, .slice A6 n6 c6] 29)) := below_alloc (below_alloc (Below.refl _ _) _) _
  have hsz0 : ((w.alloc (.cells #[.string nm, .int .i64 pa, .int .i64 lo, .slice A3 code.length c3, .slice A4 hs.length c4] 25)).alloc (.cells #[.slice As st.length cs, .slice A1 n1 c1, .slice A2 n2 c2, .slice A5 n5 c5, .slice A6 n6 c6] 29)).heap.size = w.heap.size + 2 := by simp
  revert hB0 hb0 hsz0
  generalize (w.alloc (.cells #[.string nm, .int .i64 pa, .int .i64 lo, .slice A3 code.length c3, .slice A4 hs.length c4] 25)).alloc (.cells #[.slice As st.length cs, .slice A1 n1 c1, .slice A2 n2 c2, .slice A5 n5 c5, .slice A6 n6 c6] 29) = W0
  generalize hcf : #[Value.string nm, .int .i64 pa, .int .i64 lo, .slice A3 code.length c3, .slice A4 hs.length c4] = cf
  generalize hcg : #[Value.slice As st.length cs, .slice A1 n1 c1, .slice A2 n2 c2, .slice A5 n5 c5, .slice A6 n6 c6] = cg
  intro hB0 hb0 hsz0
  have kf3 : cf[3]? = some (.slice A3 code.length c3) := by rw [← hcf]; rfl
  have kf4 : cf[4]? = some (.slice A4 hs.length c4) := by rw [← hcf]; rfl
  have kg0 : cg[0]? = some (.slice As st.length cs) := by rw [← hcg]; rfl
  have kg1 : cg[1]? = some (.slice A1 n1 c1) := by rw [← hcg]; rfl
  have kg2 : cg[2]? = some (.slice A2 n2 c2) := by rw [← hcg]; rfl
  have kg3 : cg[3]? = some (.slice A5 n5 c5) := by rw [← hcg]; rfl
  have kg4 : cg[4]? = some (.slice A6 n6 c6) := by rw [← hcg]; rfl
  have g0 := cell_blk hB0.g kg0
  go_upto_region 2 with (first | (at_make; refine wpList_make_full _ rfl _ _ 27 rfl (w.heap.size + 2) 26 i26 (.slice none 0 0) 1 Try.underlying27 hi26 hz260 hz261 _ _ _ _ st.length rfl rfl rfl rfl (by rw [hz262]; omega) (by simp [maxLen]; omega) (by omega) ?_; intro w1 hown hgrow) | go_in)
  have hm1 : (madeCells (Value.slice none 0 0).cells (st.length * 1)).toList = List.replicate st.length (.slice none 0 0) := by
    rw [Nat.mul_one, show (Value.slice none 0 0).cells = #[.slice none 0 0] from rfl, toList_madeCells_one]
  rw [hm1] at hown
  have hb1 : Below W0.heap.size W0 w1 := (Below.refl _ W0).grown hgrow (Nat.le_refl _) (fun j e => by cases e)
  have hN0 : NS w w1 st.length W0.heap.size cf cg (List.replicate st.length []) := ⟨⟨_, Grid.start hown⟩, hB0.from_ hb1 (by omega), hb0.trans (hb1.mono (by omega)), by have := hb1.size; omega⟩
  clear hown hgrow hb1 hm1 hi26 hz260 hz261 hz262 i26 g0 hB0 hb0 hcf hcg
  rw [hsz0] at hN0
  have g0 := cell_blk hN0.boxes.g kg0
  have HN0 := Aside0.mk hN0
  clear hN0 hsz0
  have HKF := Aside0.mk (And.intro kf3 kf4)
  have HKG := Aside0.mk (And.intro kg0 (And.intro kg1 (And.intro kg2 (And.intro kg3 kg4))))
  clear kf3 kf4 kg0 kg1 kg2 kg3 kg4
  go_wp2_with (fail)
  clear g0
  go_loopw [20] (fun i wr => ∃ k : Nat, k ≤ st.length ∧ i = .int .i64 (k : Int) ∧ NS w wr st.length (w.heap.size + 2) cf cg ((nextOf code hs st).take k ++ List.replicate (st.length - k) [])) (fun i _ => ((st.length : Int) - intOf i).toNat)
  case atStart => exact ⟨0, Nat.zero_le _, rfl, by simpa using HN0.out⟩
  case round =>
    clear HN0
    obtain ⟨k, hk, rfl, hN⟩ := hrel
    have HNS := Aside0.mk hN
    by_cases hlt : k < st.length
    · have hbx := hN.boxes
      have hSw := Kd.C_below HS.out hN.below
      have hCw := Kd.C_below HC.out hN.below
      have hkl : (k : Int) < (st.length : Int) := by omega
      have h0k : (0 : Int) ≤ (k : Int) := by omega
      obtain ⟨aS, rfl, hs0⟩ := Kd.at_int hSw (k : Int) h0k hkl
      rw [Int.toNat_natCast] at hs0
      obtain ⟨he1, he2⟩ := HST.out.end_ hlt
      have hlo := (HST.out.lo k hlt).1
      obtain ⟨fr, hfr⟩ : ∃ fr, rd st (k : Int) = fr := ⟨_, rfl⟩
      obtain ⟨en, hen⟩ : ∃ en, endOf code st k = en := ⟨_, rfl⟩
      rw [hfr] at hs0 he1 hlo
      rw [hen] at he1 he2
      obtain ⟨m, hm⟩ : ∃ m : Nat, en = (m : Int) + 1 := ⟨(en - 1).toNat, by omega⟩
      subst hm
      obtain ⟨ac, rfl, hcc0, hcc1⟩ := at_T40 hCw (m : Int) (by omega) (by omega)
      rw [Int.toNat_natCast] at hcc0 hcc1
      obtain ⟨last, hlast⟩ : ∃ x, rd_T40 code (m : Int) = x := ⟨_, rfl⟩
      rw [hlast] at hcc0 hcc1
      have hml : (m : Int) < (code.length : Int) := by omega
      have hmn : m < 9223372036854775807 := by omega
      have f3 := cell_blk hbx.f HKF.out.1
      have g0 := cell_blk hbx.g HKG.out.1
      have HEN := Aside0.mk hen
      have HFR := Aside0.mk hfr
      have HLA := Aside0.mk hlast
      have HSW := Aside0.mk hSw
      clear hN hbx hSw hCw hen hfr hlast
      go_upto_if 33 with (fail)
      go_cut [8] (fun v8 wc => v8 = .int .i64 ((m : Int) + 1) ∧ wc = wr)
      case first =>
        by_cases hk1 : k + 1 < st.length
        · obtain ⟨aS2, e2, hs2⟩ := Kd.at_int HSW.out ((k + 1 : Nat) : Int) (by omega) (by omega)
          obtain rfl : aS = aS2 := by simpa using e2
          rw [Int.toNat_natCast] at hs2
          have heq : rd st ((k + 1 : Nat) : Int) = (m : Int) + 1 := by
            rw [← HEN.out]
            unfold endOf
            rw [if_pos hk1]
          rw [heq] at hs2
          have hs2' : wr.cell? ⟨aS.block, aS.off + (k + 1), none⟩ = some (.int .i64 ((m : Int) + 1)) := hs2
          have hk1' : (k : Int) + 1 < (st.length : Int) := by omega
          clear heq e2 hs2
          go_wp2_with (fail)
          go_meet
          case rel => exact ⟨rfl, rfl⟩
        · have hk1' : (st.length : Int) ≤ (k : Int) + 1 := by omega
          have heq : (code.length : Int) = (m : Int) + 1 := by
            rw [← HEN.out]
            unfold endOf
            rw [if_neg hk1]
          have HEQ := Aside0.mk heq
          clear heq
          go_wp2_with (fail)
          go_meet
          case rel => exact ⟨by rw [HEQ.out], rfl⟩
      case rest =>
        obtain ⟨rfl, rfl⟩ := hcut
        go_wp2_with (fail)
        obtain ⟨LB, hLB⟩ : ∃ LB, wc.heap.size = LB := ⟨_, rfl⟩
        have k0 : (wc.alloc (.cells #[.int .i64 last.f0, .int .i64 last.f1] 40)).heap[LB]? = some (.cells #[.int .i64 last.f0, .int .i64 last.f1] 40 (0, 0)) := by rw [← hLB]; exact World.alloc_heap_new wc _
        have HN2 := Aside0.mk (HNS.out.from_ (below_alloc (Below.refl _ wc) (.cells #[.int .i64 last.f0, .int .i64 last.f1] 40)))
        have hsz2 : (wc.alloc (.cells #[.int .i64 last.f0, .int .i64 last.f1] 40)).heap.size = LB + 1 := by simp [hLB]
        rw [hLB]
        revert k0 HN2 hsz2
        generalize wc.alloc (.cells #[.int .i64 last.f0, .int .i64 last.f1] 40) = W2
        intro k0 HN2 hsz2
        clear hcc0 hcc1 f3 g0 hs0 HSW HNS hLB
        have HK0 := Aside0.mk k0
        have HSZ := Aside0.mk hsz2
        clear k0 hsz2
        refine (graph_jumps.calls _ _ _ (jumps_f _)).mono ?_
        rintro e w9 ⟨rfl, hd⟩
        obtain ⟨d1, rfl⟩ := hd.out
        clear hd
        obtain ⟨jb, hjb⟩ : ∃ jb, jumpsP last.f0 = jb := ⟨_, rfl⟩
        rw [hjb]
        go_upto_if 48 with (fail)
        go_cut [10] (fun v10 wc => wc.ownsRow (LB + 1) 3 1 v10 (raw1 code st k).length ((raw1 code st k).map (Value.int .i64)) ∧ Below (LB + 1) W2 wc)
        case first =>
          have hr1 : raw1 code st k = if jb = true then [blockOf st last.f1] else [] := by
            unfold raw1
            rw [HEN.out, show (m : Int) + 1 - 1 = (m : Int) from by omega, HLA.out, hjb]
          have HR1 := Aside0.mk hr1
          clear hr1 hjb
          cases jb with
          | true =>
            have hbx := HN2.out.boxes
            have g0 : (W2.drewN d1).cell? ⟨w.heap.size + 1, 0, none⟩ = _ := cell_blk hbx.g HKG.out.1
            have g1 : (W2.drewN d1).cell? ⟨w.heap.size + 1, 1, none⟩ = _ := cell_blk hbx.g HKG.out.2.1
            have g2 : (W2.drewN d1).cell? ⟨w.heap.size + 1, 2, none⟩ = _ := cell_blk hbx.g HKG.out.2.2.1
            have g3 : (W2.drewN d1).cell? ⟨w.heap.size + 1, 3, none⟩ = _ := cell_blk hbx.g HKG.out.2.2.2.1
            have g4 : (W2.drewN d1).cell? ⟨w.heap.size + 1, 4, none⟩ = _ := cell_blk hbx.g HKG.out.2.2.2.2
            have k1 : (W2.drewN d1).cell? ⟨LB, 1, none⟩ = some (.int .i64 last.f1) := cell_blk HK0.out rfl
            clear hbx
            go_wp2_with (fail)
            refine (block_calls (some aS) A1 A2 A5 A6 cs c1 c2 c5 c6 n1 n2 n5 n6 st last.f1 _ (Kd.C_below HS.out (pw_below_drewN HN2.out.below d1)) (by omega)).mono ?_
            rintro e w3 ⟨rfl, hb3⟩
            have hb3' : Below (LB + 1) W2 w3 := (pw_below_drewN (Below.refl _ W2) d1).trans (hb3.mono (by show _ ≤ W2.heap.size; exact Nat.le_of_eq HSZ.out.symm))
            have hs3 : LB + 1 ≤ w3.heap.size := by have := hb3'.size; have := HSZ.out; omega
            have HB3 := Aside0.mk hb3'
            clear g0 g1 g2 g3 g4 k1 hb3 hb3'
            obtain ⟨i3, hi3, hz30, hz31, hz32⟩ := info_parts info3
            have HI := Aside0.mk hi3
            have HZ0 := Aside0.mk hz30
            have HZ1 := Aside0.mk hz31
            have HZ2 := Aside0.mk hz32
            clear hi3 hz30 hz31 hz32
            go_wp2_with (first | (at_builtin; refine wpList_append_own _ rfl _ _ 26 rfl (LB + 1) 3 i3 (.int .i64 0) 1 8 Try.underlying26 HI.out HZ0.out HZ1.out HZ2.out rfl (by decide) _ _ _ rfl (World.ownsRow_nil _ _ _ _) ⟨w3.heap.size, 0, none⟩ 1 1 [.int .i64 (blockAt last.f1 (back st st.length))] rfl rfl (cell_one_new _ _ _) (by simp [Value.oneCell']) (by simp [maxLen]) (by omega) (by simp; omega) ?_; intro v9 w9 hown9 hgrow9 _; refine Classical.byContradiction (fun hcon => ?hst)) | go_in)
            refine hcon ?_
            have hR : w9.ownsRow (LB + 1) 3 1 v9 (raw1 code st k).length ((raw1 code st k).map (Value.int .i64)) ∧ Below (LB + 1) W2 w9 := by
              rw [HR1.out]
              exact ⟨hown9, (HB3.out.alloc (by omega) _).grown hgrow9 (by simp; omega) (fun k e => by cases e)⟩
            have HRR := Aside0.mk hR
            clear hR hown9 hgrow9
            go_wp2_with (fail)
            go_meet
            case rel => exact HRR.out
          | false =>
            go_wp2_with (fail)
            go_meet
            case rel =>
              rw [HR1.out]
              exact ⟨World.ownsRow_nil _ _ _ _, pw_below_drewN (Below.refl _ W2) d1⟩
        case rest =>
          obtain ⟨hown, hbw⟩ := hcut
          have HO1 := Aside0.mk hown
          have HB1 := Aside0.mk hbw
          have k0 : wc.cell? ⟨LB, 0, none⟩ = some (.int .i64 last.f0) := cell_blk (hbw.block LB (Nat.lt_succ_self _) |>.trans HK0.out) rfl
          have hbx := HN2.out.boxes.from_ hbw (by have := HN2.out.lo; have := HSZ.out; omega)
          have g0 := cell_blk hbx.g HKG.out.1
          have hk1 := Nat.lt_or_ge (k + 1) st.length
          clear hown hbw hbx hjb
          obtain ⟨sb, hsb⟩ : ∃ sb, stopsP last.f0 = sb := ⟨_, rfl⟩
          have hr2 : raw2 code st k = if sb = false ∧ k + 1 < st.length then [((k + 1 : Nat) : Int)] else [] := by
            unfold raw2
            rw [HEN.out, show (m : Int) + 1 - 1 = (m : Int) from by omega, HLA.out, hsb]
          have HR2 := Aside0.mk hr2
          have HSB := Aside0.mk hsb
          clear hr2 hsb
          have HKK := Aside0.mk hk1
          clear hk1
          go_step
          go_step
          go_cut [10] (fun v10 wc => wc.ownsRow (LB + 1) 3 1 v10 (raw1 code st k ++ raw2 code st k).length ((raw1 code st k ++ raw2 code st k).map (Value.int .i64)) ∧ Below (LB + 1) W2 wc)
          case first =>
            go_wp2_with (fail)
            refine (graph_stops.calls _ _ _ (stops_f _)).mono ?_
            rintro e w9 ⟨rfl, hd⟩
            obtain ⟨d2, rfl⟩ := hd.out
            clear hd
            rw [HSB.out]
            have g0' : (wc.drewN d2).cell? ⟨w.heap.size + 1, 0, none⟩ = some (.slice (some aS) st.length cs) := g0
            clear g0 k0
            cases sb with
            | true =>
              go_wp2_with (fail)
              go_meet
              case rel =>
                rw [HR2.out, if_neg (by simp), List.append_nil]
                exact ⟨HO1.out, HB1.out.trans (pw_below_drewN (Below.refl _ wc) d2)⟩
            | false =>
              rcases HKK.out with hk1 | hk1
              · have hk1' : (k : Int) + 1 < (st.length : Int) := by omega
                obtain ⟨i3, hi3, hz30, hz31, hz32⟩ := info_parts info3
                have HI := Aside0.mk hi3
                have HZ0 := Aside0.mk hz30
                have HZ1 := Aside0.mk hz31
                have HZ2 := Aside0.mk hz32
                clear hi3 hz30 hz31 hz32
                have hle1 : (raw1 code st k).length ≤ 1 := by unfold raw1; split <;> simp
                have hszc : LB + 1 ≤ (wc.drewN d2).heap.size := by have := HB1.out.size; have := HSZ.out; show LB + 1 ≤ wc.heap.size; omega
                have HLE := Aside0.mk (And.intro hle1 hszc)
                clear hle1 hszc
                obtain ⟨A10, c10, rfl⟩ := row_slice HO1.out
                have HO2 : Aside0 ((wc.drewN d2).ownsRow (LB + 1) 3 1 (.slice A10 (raw1 code st k).length c10) (raw1 code st k).length ((raw1 code st k).map (Value.int .i64))) := ⟨HO1.out⟩
                go_wp2_with (first | (at_builtin; refine wpList_append_own _ rfl _ _ 26 rfl (LB + 1) 3 i3 (.int .i64 0) 1 8 Try.underlying26 HI.out HZ0.out HZ1.out HZ2.out rfl (by decide) _ _ _ rfl (World.ownsRow.alloc HO2.out _) ⟨(wc.drewN d2).heap.size, 0, none⟩ 1 1 [.int .i64 ((k : Int) + 1)] rfl rfl (cell_one_new _ _ _) (by simp [Value.oneCell']) (by have := HLE.out.1; unfold maxLen; omega) (by have := HLE.out.1; omega) (by rw [World.size_alloc]; have := HLE.out.2; omega) ?_; intro v9 w9 hown9 hgrow9 _; refine Classical.byContradiction (fun hcon => ?hst2)) | go_in)
                refine hcon ?_
                have hR : w9.ownsRow (LB + 1) 3 1 v9 (raw1 code st k ++ raw2 code st k).length ((raw1 code st k ++ raw2 code st k).map (Value.int .i64)) ∧ Below (LB + 1) W2 w9 := by
                  rw [HR2.out, if_pos (by first | exact ⟨rfl, hk1⟩ | exact ⟨trivial, hk1⟩ | simpa using hk1), List.length_append, List.map_append]
                  exact ⟨hown9, (((HB1.out.trans (pw_below_drewN (Below.refl _ wc) d2))).alloc HLE.out.2 _).grown hgrow9 (by rw [World.size_alloc]; have := HLE.out.2; omega) (fun k e => own_base HO2.out k e)⟩
                have HRR := Aside0.mk hR
                clear hR hown9 hgrow9 g0'
                go_wp2_with (fail)
                go_meet
                case rel => exact HRR.out
              · have hk1' : (st.length : Int) ≤ (k : Int) + 1 := by omega
                go_wp2_with (fail)
                go_meet
                case rel =>
                  rw [HR2.out, if_neg (by omega), List.append_nil]
                  exact ⟨HO1.out, HB1.out.trans (pw_below_drewN (Below.refl _ wc) d2)⟩
          case rest =>
            clear HO1 HB1 HR2 HSB HKK k0 g0
            obtain ⟨hown, hbw⟩ := hcut
            have HO1 := Aside0.mk hown
            have HB1 := Aside0.mk hbw
            have hbx := HN2.out.boxes.from_ hbw (by have := HN2.out.lo; have := HSZ.out; omega)
            have f4 := cell_blk hbx.f HKF.out.2
            clear hown hbw hbx
            obtain ⟨r12, hr12⟩ : ∃ r, raw1 code st k ++ raw2 code st k = r := ⟨_, rfl⟩
            have hl12 : r12.length ≤ 2 := by
              rw [← hr12, List.length_append]
              unfold raw1 raw2
              split <;> split <;> simp
            have HL12 := Aside0.mk hl12
            rw [hr12] at HO1
            have HR12 := Aside0.mk hr12
            clear hr12 hl12
            go_wp2_with (fail)
            clear f4
            go_loopw [10, 76] (fun v10 v76 wr => ∃ j : Nat, j ≤ hs.length ∧ v76 = .int .i64 (j : Int) ∧ wr.ownsRow (LB + 1) 3 1 v10 (r12 ++ rawH st ((m : Int) + 1) fr (hs.take j)).length ((r12 ++ rawH st ((m : Int) + 1) fr (hs.take j)).map (Value.int .i64)) ∧ Below (LB + 1) W2 wr) (fun v10 v76 _ => ((hs.length : Int) - intOf v76).toNat)
            case atStart => exact ⟨0, Nat.zero_le _, rfl, by rw [List.take_zero, rawH, List.append_nil]; exact HO1.out, HB1.out⟩
            case round =>
              clear HO1 HB1
              obtain ⟨j, hj, rfl, hown, hbw⟩ := hrel
              have HO1 := Aside0.mk hown
              have HB1 := Aside0.mk hbw
              have HSW := Aside0.mk (show LB + 1 ≤ wr.heap.size by have := hbw.size; have := HSZ.out; omega)
              clear hown
              by_cases hlj : j < hs.length
              · have hHw := Kd.C_below HH.out (HN2.out.below.trans (hbw.mono (by have := HN2.out.below.size; have := HSZ.out; have := HN2.out.lo; omega)))
                have hji : (j : Int) < (hs.length : Int) := by omega
                have h0j : (0 : Int) ≤ (j : Int) := by omega
                have hjn : j < 9223372036854775807 := by omega
                obtain ⟨ah, rfl, hh0, hh1, hh2, hh3⟩ := at_T49 hHw (j : Int) h0j hji
                rw [Int.toNat_natCast] at hh0 hh1 hh2 hh3
                obtain ⟨hd, hhd⟩ : ∃ x, rd_T49 hs (j : Int) = x := ⟨_, rfl⟩
                rw [hhd] at hh0 hh1 hh2 hh3
                have hget : hs[j]? = some hd := by
                  rw [← hhd, List.getElem?_eq_getElem hlj]
                  simp [rd_T49, hlj]
                have htk : hs.take (j + 1) = hs.take j ++ [hd] := by rw [List.take_add_one, hget]; rfl
                obtain ⟨L, hL⟩ : ∃ L, r12 ++ rawH st ((m : Int) + 1) fr (hs.take j) = L := ⟨_, rfl⟩
                have HTK : Aside0 (r12 ++ rawH st ((m : Int) + 1) fr (hs.take (j + 1)) = L ++ (if hd.f0 < (m : Int) + 1 ∧ fr < hd.f1 then [blockOf st hd.f2] else [])) := ⟨by rw [htk, rawH_append, rawH, rawH, List.append_nil, ← List.append_assoc, hL]⟩
                have hlen := rawH_length st ((m : Int) + 1) fr (hs.take j)
                rw [List.length_take] at hlen
                have HLEN := Aside0.mk (show L.length ≤ 8796093022210 by rw [← hL, List.length_append]; have := HL12.out; omega)
                rw [hL] at HO1
                clear hbw hHw hhd hget htk hlen hL
                have hnext : ∀ W', Below wr.heap.size wr W' → W'.ownsRow (LB + 1) 3 1 u10 L.length (L.map (Value.int .i64)) ∧ Below (LB + 1) W2 W' := fun W' hb => ⟨own_move HO1.out fun k hk => hb.block k (own_lt HO1.out k hk), HB1.out.trans (hb.mono HSW.out)⟩
                have HNX := Aside0.mk hnext
                clear hnext
                by_cases c1 : hd.f0 < (m : Int) + 1
                · by_cases c2 : fr < hd.f1
                  · have HC := Aside0.mk (And.intro c1 c2)
                    go_upto_if 89 with (fail)
                    obtain ⟨WB, hWB⟩ : ∃ WB, wr.alloc (.cells #[.int .i64 hd.f0, .int .i64 hd.f1, .int .i64 hd.f2, .int .i64 hd.f3] 49) = WB := ⟨_, rfl⟩
                    have hbB : Below wr.heap.size wr WB := by rw [← hWB]; exact below_alloc (Below.refl _ wr) _
                    have kh : WB.heap[wr.heap.size]? = some (.cells #[.int .i64 hd.f0, .int .i64 hd.f1, .int .i64 hd.f2, .int .i64 hd.f3] 49 (0, 0)) := by rw [← hWB]; exact World.alloc_heap_new wr _
                    have k2 : WB.cell? ⟨wr.heap.size, 2, none⟩ = some (.int .i64 hd.f2) := cell_blk kh rfl
                    obtain ⟨hoB, hbB2⟩ := HNX.out WB hbB
                    have hbx := HN2.out.boxes.from_ hbB2 (by have := HN2.out.lo; have := HSZ.out; omega)
                    have g0 := cell_blk hbx.g HKG.out.1
                    have g1 := cell_blk hbx.g HKG.out.2.1
                    have g2 := cell_blk hbx.g HKG.out.2.2.1
                    have g3 := cell_blk hbx.g HKG.out.2.2.2.1
                    have g4 := cell_blk hbx.g HKG.out.2.2.2.2
                    have HBB := Aside0.mk hbB2
                    have HOB := Aside0.mk hoB
                    have HSB := Aside0.mk (show LB + 1 ≤ WB.heap.size by have := hbB.size; have := HSW.out; omega)
                    rw [hWB]
                    clear hh0 hh1 hh2 hh3 hWB hbB kh hoB hbB2 hbx c1 c2
                    go_wp2_with (fail)
                    refine (block_calls (some aS) A1 A2 A5 A6 cs c1 c2 c5 c6 n1 n2 n5 n6 st hd.f2 _ (Kd.C_below HS.out (HN2.out.below.trans (HBB.out.mono (by have := HN2.out.below.size; have := HSZ.out; have := HN2.out.lo; omega)))) (by omega)).mono ?_
                    rintro e w3 ⟨rfl, hb3⟩
                    have hb3' : Below (LB + 1) W2 w3 := HBB.out.trans (hb3.mono HSB.out)
                    have hs3 : LB + 1 ≤ w3.heap.size := by have := hb3.size; have := HSB.out; omega
                    have ho3 := own_move HOB.out (w1 := w3) fun k hk => hb3.block k (own_lt HOB.out k hk)
                    have HB3 := Aside0.mk hb3'
                    have HO3 := Aside0.mk ho3
                    clear g0 g1 g2 g3 g4 k2 hb3 hb3' ho3
                    obtain ⟨i3, hi3, hz30, hz31, hz32⟩ := info_parts info3
                    have HI := Aside0.mk hi3
                    have HZ0 := Aside0.mk hz30
                    have HZ1 := Aside0.mk hz31
                    have HZ2 := Aside0.mk hz32
                    clear hi3 hz30 hz31 hz32
                    obtain ⟨A10, c10, rfl⟩ := row_slice HO3.out
                    go_wp2_with (first | (at_builtin; refine wpList_append_own _ rfl _ _ 26 rfl (LB + 1) 3 i3 (.int .i64 0) 1 8 Try.underlying26 HI.out HZ0.out HZ1.out HZ2.out rfl (by decide) _ _ _ rfl (World.ownsRow.alloc HO3.out _) ⟨w3.heap.size, 0, none⟩ 1 1 [.int .i64 (blockAt hd.f2 (back st st.length))] rfl rfl (cell_one_new _ _ _) (by simp [Value.oneCell']) (by have := HLEN.out; unfold maxLen; omega) (by have := HLEN.out; omega) (by rw [World.size_alloc]; omega) ?_; intro v9 w9 hown9 hgrow9 _; refine Classical.byContradiction (fun hcon => ?hst3)) | go_in)
                    refine hcon ?_
                    have hR : w9.ownsRow (LB + 1) 3 1 v9 (r12 ++ rawH st ((m : Int) + 1) fr (hs.take (j + 1))).length ((r12 ++ rawH st ((m : Int) + 1) fr (hs.take (j + 1))).map (Value.int .i64)) ∧ Below (LB + 1) W2 w9 := by
                      rw [HTK.out, if_pos HC.out, List.length_append, List.map_append]
                      exact ⟨hown9, (HB3.out.alloc hs3 _).grown hgrow9 (by rw [World.size_alloc]; omega) (fun k e => own_base HO3.out k e)⟩
                    have HRR := Aside0.mk hR
                    clear hR hown9 hgrow9
                    go_wp2_with (fail)
                    go_roundw
                    case measure => simp [intOf]; omega
                    case rel => exact ⟨j + 1, hlj, by first | rfl | go_num, HRR.out.1, HRR.out.2⟩
                  · have c2' : hd.f1 ≤ fr := by omega
                    have HC := Aside0.mk c2
                    clear c2
                    go_wp2_with (fail)
                    go_roundw
                    case measure => simp [intOf]; omega
                    case rel =>
                      refine ⟨j + 1, hlj, by first | rfl | go_num, ?_⟩
                      rw [HTK.out, if_neg (fun h => HC.out h.2), List.append_nil]
                      exact HNX.out _ (below_alloc (Below.refl _ wr) _)
                · have c1' : (m : Int) + 1 ≤ hd.f0 := by omega
                  have HC := Aside0.mk c1
                  clear c1
                  go_wp2_with (fail)
                  go_roundw
                  case measure => simp [intOf]; omega
                  case rel =>
                    refine ⟨j + 1, hlj, by first | rfl | go_num, ?_⟩
                    rw [HTK.out, if_neg (fun h => HC.out h.1), List.append_nil]
                    exact HNX.out _ (below_alloc (Below.refl _ wr) _)
              · have hjn : j = hs.length := by omega
                subst hjn
                rw [List.take_length] at HO1
                have hraw : rawOf code hs st k = r12 ++ rawH st ((m : Int) + 1) fr hs := by
                  unfold rawOf
                  rw [HR12.out, HEN.out, HFR.out]
                have hlen := rawH_length st ((m : Int) + 1) fr hs
                obtain ⟨L, hL⟩ : ∃ L, r12 ++ rawH st ((m : Int) + 1) fr hs = L := ⟨_, rfl⟩
                have HLEN := Aside0.mk (show L.length ≤ 8796093022210 by rw [← hL, List.length_append]; have := HL12.out; omega)
                rw [hL] at HO1 hraw
                have HRAW := Aside0.mk hraw
                clear hbw hraw hlen hL
                go_wp2_with (fail)
                refine (sort_own (LB + 1) u10 L wr HO1.out (by have := HLEN.out; omega)).mono ?_
                rintro e w3 ⟨rfl, ho3, hg3⟩
                have ho3' : w3.ownsRow (LB + 1) 3 1 u10 (srt L).length ((srt L).map (Value.int .i64)) := by rw [srt_length]; exact ho3
                have HO3 := Aside0.mk ho3'
                have HB3 := Aside0.mk (HB1.out.grown hg3 HSW.out (fun q e => own_base HO1.out q e))
                have HS3 := Aside0.mk (show LB + 1 ≤ w3.heap.size by have := hg3.size; have := HSW.out; omega)
                clear ho3 hg3 ho3'
                go_wp2_with (fail)
                refine (compact_own (LB + 1) u10 (srt L) w3 HO3.out (by rw [srt_length]; have := HLEN.out; omega)).mono ?_
                rintro e w4 ⟨v4, rfl, ho4, hv4, hg4⟩
                have HB4 := Aside0.mk (HB3.out.grown hg4 HS3.out (fun q e => own_base HO3.out q e))
                have HO4 := Aside0.mk ho4
                have HS4 := Aside0.mk (show LB + 1 ≤ w4.heap.size by have := hg4.size; have := HS3.out; omega)
                clear ho4 hv4 hg4
                go_wp2_with (fail)
                refine (clone_own (LB + 1) v4 (tidy L) w4 HO4.out (by have := compact_le (srt L); rw [srt_length] at this; have := HLEN.out; unfold tidy; omega)).mono ?_
                rintro e w5 ⟨v5, rfl, ho5, hb5⟩
                have hN4 := HN2.out.from_ (show Below W2.heap.size W2 w4 by rw [HSZ.out]; exact HB4.out)
                have hN5 := hN4.from_ hb5
                obtain ⟨vs4, hG4⟩ := hN4.grid
                have hG5 := hG4.from_ hb5 (Nat.le_refl _)
                have cgk := hG5.cellAt hlt
                have fg := hG5.row.frozenAt k
                have hput := hG4.put hlt (own_weaken ho5 hN4.lo) ⟨hb5.os, hb5.tape, hb5.output, hb5.size, fun q hq _ => hb5.block q hq⟩ (fun q hq => .inr (own_base ho5 q hq))
                have HP := Aside0.mk (show NS w (w5.setCell ⟨w.heap.size + 2, k, none⟩ v5) st.length (w.heap.size + 2) cf cg ((((nextOf code hs st).take k ++ List.replicate (st.length - k) [])).set k (tidy L)) from ⟨⟨_, hput⟩, ⟨(Below.heap_setCell w5 ⟨w.heap.size + 2, k, none⟩ v5 _ (by simp)).trans hN5.boxes.f, (Below.heap_setCell w5 ⟨w.heap.size + 2, k, none⟩ v5 _ (by simp)).trans hN5.boxes.g⟩, hN5.below.setCell (p := ⟨w.heap.size + 2, k, none⟩) (by simp) _, by simpa using hN5.lo⟩)
                obtain ⟨A5', c5', rfl⟩ := row_slice ho5
                clear hN4 hN5 hG4 hG5 hput ho5 hb5
                go_wp2_with (fail)
                go_roundw
                case measure => simp [intOf]; omega
                case rel =>
                  refine ⟨k + 1, hlt, by first | rfl | go_num, ?_⟩
                  have hnl : (nextOf code hs st).length = st.length := by simp [nextOf]
                  have e : ((nextOf code hs st).take k ++ List.replicate (st.length - k) []).set k (tidy L) = (nextOf code hs st).take (k + 1) ++ List.replicate (st.length - (k + 1)) [] := by
                    have htl : ((nextOf code hs st).take k).length = k := by rw [List.length_take, hnl]; omega
                    have hget : (nextOf code hs st)[k]? = some (tidy L) := by
                      unfold nextOf
                      rw [List.getElem?_map, List.getElem?_range hlt, ← HRAW.out]; rfl
                    rw [List.set_append_right _ _ (by omega), htl, Nat.sub_self, show st.length - k = (st.length - (k + 1)) + 1 from by omega, List.replicate_succ, List.set_cons_zero, List.take_add_one, hget, List.append_assoc]; rfl
                  rw [← e]
                  exact HP.out
    · have hkn : k = st.length := by omega
      subst hkn
      have hfin : (nextOf code hs st).take st.length ++ List.replicate (st.length - st.length) [] = nextOf code hs st := by
        rw [Nat.sub_self, List.replicate_zero, List.append_nil]
        exact List.take_of_length_le (by simp [nextOf])
      have HFIN := Aside0.mk hfin
      clear hN hfin
      go_wp2_with (fail)
      go_ret
      obtain ⟨vs, hG⟩ := HNS.out.grid
      rw [HFIN.out] at hG
      exact ⟨_, vs, rfl, ⟨own_weaken hG.row (by omega), hG.len, fun i hi => own_weaken (hG.each i hi) (by omega), hG.apart⟩, HNS.out.below⟩
end Go.Proofs.Ytmeaepmimnmjlaa.Ask
/- graph.Build, plainly: which places are starts, which are heads. -/
namespace Go.Proofs.Ytmeaepmimnmjlaa.Ask
open Go.Proofs.Ytmeaepmimnmjlaa.Dfs Go.Proofs.Ytmeaepmimnmjlaa.Dom Go.RowKit Go.Shelf Go.Proofs.Ytmeaepmimnmjlaa.PGb Go.Proofs.Ytmeaepmimnmjlaa.Lit Go.Proofs.Ytmeaepmimnmjlaa.OwnCells Go.Proofs.YtmeaepmimnmjlaaW.PrintWords Go.Proofs.YtmeaepmimnmjlaaW.PrintLast Go.Proofs.YtmeaepmimnmjlaaW.PrintMore
set_option linter.unusedVariables false
set_option linter.unusedSimpArgs false
def partsP (op : Int) : Bool := decide (op = 43) || decide (op = 60) || decide (op = 61) || decide (op = 63) || decide (op = 64) || (jumpsP op || stopsP op)
theorem parts_f (op : Int) : graph_parts.f 1 op = some (partsP op) := by
  unfold graph_parts.f partsP
  simp only [graph_parts.j0, jumps_f, stops_f, Option.bind_some]
  by_cases h1 : op = 43
  · simp [h1]
  · by_cases h2 : op = 60
    · simp [h2]
    · by_cases h3 : op = 61
      · simp [h3]
      · by_cases h4 : op = 63
        · simp [h4]
        · by_cases h5 : op = 64
          · simp [h5]
          · by_cases h6 : jumpsP op = true
            · simp [h1, h2, h3, h4, h5, h6]
            · simp [h1, h2, h3, h4, h5, h6]
/-- which places are marked -/
def Mk (s : List Bool) (n : Nat) (P : Nat → Prop) : Prop := s.length = n ∧ ∀ p, p < n → (s.getD p false = true ↔ P p)
theorem Mk.none_ (n : Nat) : Mk (List.replicate n false) n (fun _ => False) := ⟨List.length_replicate, fun p hp => by
  rw [List.getD_eq_getElem?_getD, List.getElem?_replicate, if_pos hp]; simp⟩
theorem Mk.set_ {s : List Bool} {n : Nat} {P : Nat → Prop} (h : Mk s n P) (q : Nat) : Mk (s.set q true) n (fun p => P p ∨ p = q) := by
  refine ⟨by rw [List.length_set]; exact h.1, fun p hp => ?_⟩
  have h1 := h.1
  rw [List.getD_eq_getElem?_getD, List.getElem?_set]
  by_cases hq : q = p
  · subst hq
    rw [if_pos rfl, if_pos (by omega)]; simp
  · rw [if_neg hq, ← List.getD_eq_getElem?_getD, h.2 p hp]
    constructor
    · exact .inl
    · rintro (h2 | h2)
      · exact h2
      · exact absurd h2.symm hq
theorem Mk.congr {s : List Bool} {n : Nat} {P Q : Nat → Prop} (h : Mk s n P) (hpq : ∀ p, p < n → (P p ↔ Q p)) : Mk s n Q := ⟨h.1, fun p hp => (h.2 p hp).trans (hpq p hp)⟩
/-- what an instruction marks -/
def Why (code : List S40) (k p : Nat) : Prop := p = 0 ∨ ∃ q i, q < k ∧ code[q]? = some i ∧ ((partsP i.f0 = true ∧ p = q + 1) ∨ (jumpsP i.f0 = true ∧ i.f1 = (p : Int)))
def Led (code : List S40) (k p : Nat) : Prop := ∃ q i, q < k ∧ code[q]? = some i ∧ jumpsP i.f0 = true ∧ i.f1 = (p : Int) ∧ p ≤ q
structure FitsP (code : List S40) (hs : List S49) : Prop where
  pos : 0 < code.length
  jmp : ∀ i ∈ code, jumpsP i.f0 = true → 0 ≤ i.f1 ∧ i.f1 < (code.length : Int)
  hnd : ∀ h ∈ hs, 0 ≤ h.f0 ∧ h.f0 < h.f1 ∧ h.f1 ≤ (code.length : Int) ∧ 0 ≤ h.f2 ∧ h.f2 < (code.length : Int)
theorem Why.step {code : List S40} {k : Nat} {i : S40} (hi : code[k]? = some i) (p : Nat) : Why code (k + 1) p ↔ (Why code k p ∨ (partsP i.f0 = true ∧ p = k + 1) ∨ (jumpsP i.f0 = true ∧ i.f1 = (p : Int))) := by
  constructor
  · rintro (h | ⟨q, j, hq, hj, hw⟩)
    · exact .inl (.inl h)
    · by_cases hqk : q = k
      · subst hqk
        rw [hi] at hj
        cases hj
        exact .inr hw
      · exact .inl (.inr ⟨q, j, by omega, hj, hw⟩)
  · rintro ((h | ⟨q, j, hq, hj, hw⟩) | h)
    · exact .inl h
    · exact .inr ⟨q, j, by omega, hj, hw⟩
    · exact .inr ⟨k, i, by omega, hi, h⟩
theorem Led.step {code : List S40} {k : Nat} {i : S40} (hi : code[k]? = some i) (p : Nat) : Led code (k + 1) p ↔ (Led code k p ∨ (jumpsP i.f0 = true ∧ i.f1 = (p : Int) ∧ p ≤ k)) := by
  constructor
  · rintro ⟨q, j, hq, hj, hw⟩
    by_cases hqk : q = k
    · subst hqk
      rw [hi] at hj
      cases hj
      exact .inr hw
    · exact .inl ⟨q, j, by omega, hj, hw⟩
  · rintro (⟨q, j, hq, hj, hw⟩ | h)
    · exact ⟨q, j, by omega, hj, hw⟩
    · exact ⟨k, i, by omega, hi, h⟩
/-- the places that are marked, rising -/
def idxs (l : List Bool) : List Int := ((List.range l.length).filter fun i => l.getD i false).map fun (i : Nat) => (i : Int)
theorem idxs_snoc (l : List Bool) (b : Bool) : idxs (l ++ [b]) = idxs l ++ (if b = true then [(l.length : Int)] else []) := by
  unfold idxs
  rw [List.length_append, List.length_singleton, List.range_succ, List.filter_append, List.map_append]
  congr 1
  · congr 1
    apply List.filter_congr
    intro i hi
    have := List.mem_range.1 hi
    rw [List.getD_eq_getElem?_getD, List.getD_eq_getElem?_getD, List.getElem?_append_left this]
  · rw [List.filter_cons, List.getD_eq_getElem?_getD, List.getElem?_append_right (Nat.le_refl _), Nat.sub_self]
    cases b <;> simp
theorem idxs_length (l : List Bool) : (idxs l).length ≤ l.length := by
  unfold idxs
  rw [List.length_map]
  have := List.length_filter_le (fun i => l.getD i false) (List.range l.length)
  rwa [List.length_range] at this
theorem places_f (l : List Bool) (hl : l.length < 17592186044416) : ∀ (d j : Nat) (k : Nat), j + d = l.length → d < k → graph_places.l0 k (idxs (l.take j)) l (l.length : Int) (j : Int) = some (idxs l)
  | 0, j, 0, _, hk => by omega
  | d + 1, j, 0, _, hk => by omega
  | 0, j, k + 1, hj, hk => by
    have : j = l.length := by omega
    subst this
    rw [graph_places.l0, if_neg (by omega), List.take_length]
  | d + 1, j, k + 1, hj, hk => by
    have hjl : j < l.length := by omega
    have hw : wrap64 ((j : Int) + 1) = ((j + 1 : Nat) : Int) := by
      unfold wrap64; omega
    have htk : l.take (j + 1) = l.take j ++ [l[j]] := List.take_succ_eq_append_getElem hjl
    have hlt : (l.take j).length = j := by rw [List.length_take]; omega
    have hrd : rdOf false l (j : Int) = l[j] := by simp [rdOf, hjl]
    have hlen := idxs_length (l.take j)
    rw [graph_places.l0, if_pos (by omega), if_pos (by omega), if_pos (by omega), hrd, hw]
    have ih := places_f l hl d (j + 1) k (by omega) (by omega)
    rw [htk, idxs_snoc, hlt] at ih
    cases hb : l[j] with
    | true =>
      rw [hb] at ih
      rw [if_pos rfl, if_pos (by omega)]
      rw [if_pos rfl] at ih
      exact ih
    | false =>
      rw [hb] at ih
      rw [if_neg (by decide)]
      rw [if_neg (by decide), List.append_nil] at ih
      exact ih
theorem places_all (l : List Bool) (hl : l.length < 17592186044416) : graph_places.f (l.length + 1) l = some (idxs l) := by
  have := places_f l hl l.length 0 (l.length + 1) (by omega) (by omega)
  exact this
theorem idxs_mk {s : List Bool} {n : Nat} {P : Nat → Prop} (h : Mk s n P) (x : Int) : x ∈ idxs s ↔ ∃ p : Nat, p < n ∧ x = (p : Int) ∧ P p := by
  unfold idxs
  rw [List.mem_map, h.1]
  constructor
  · rintro ⟨p, hp, rfl⟩
    rw [List.mem_filter, List.mem_range] at hp
    exact ⟨p, hp.1, rfl, (h.2 p hp.1).1 hp.2⟩
  · rintro ⟨p, hp, rfl, hP⟩
    exact ⟨p, List.mem_filter.2 ⟨List.mem_range.2 hp, (h.2 p hp).2 hP⟩, rfl⟩
theorem idxs_rise (l : List Bool) : (idxs l).Pairwise (· < ·) := by
  unfold idxs
  rw [List.pairwise_map]
  refine List.Pairwise.imp (R := fun (a b : Nat) => a < b) (fun h => by omega) ?_
  exact List.Pairwise.filter _ List.pairwise_lt_range
theorem idxs_take {s : List Bool} {n : Nat} {P : Nat → Prop} (h : Mk s n P) {m : Nat} (hm : m ≤ n) : Mk (s.take m) m P := by
  refine ⟨by rw [List.length_take, h.1]; omega, fun p hp => ?_⟩
  rw [List.getD_eq_getElem?_getD, List.getElem?_take_of_lt hp, ← List.getD_eq_getElem?_getD]
  exact h.2 p (by omega)
end Go.Proofs.Ytmeaepmimnmjlaa.Ask
/- What graph.next answers, plainly: rows that rise, within range. -/
namespace Go.Proofs.Ytmeaepmimnmjlaa.Ask
open Go.Proofs.Ytmeaepmimnmjlaa.Dfs Go.Proofs.Ytmeaepmimnmjlaa.Dom Go.RowKit Go.Shelf Go.Proofs.Ytmeaepmimnmjlaa.PGb Go.Proofs.Ytmeaepmimnmjlaa.Lit Go.Proofs.Ytmeaepmimnmjlaa.OwnCells Go.Proofs.YtmeaepmimnmjlaaW.PrintWords Go.Proofs.YtmeaepmimnmjlaaW.PrintLast Go.Proofs.YtmeaepmimnmjlaaW.PrintMore
set_option linter.unusedVariables false
set_option linter.unusedSimpArgs false
/-! ### compact of a sorted list -/
theorem compact_up (d : Array Int) (hs : ∀ i j, i ≤ j → j < d.size → d[i]! ≤ d[j]!) : ∀ m, m ≤ d.size → (Lib.compactUpTo d m).Pairwise (· < ·) ∧ (∀ x, x ∈ Lib.compactUpTo d m ↔ ∃ j, j < m ∧ d[j]! = x)
  | 0, _ => ⟨by simp [Lib.compactUpTo], fun x => by simp [Lib.compactUpTo]⟩
  | m + 1, hm => by
    obtain ⟨h1, h2⟩ := compact_up d hs m (by omega)
    rw [Lib.compactUpTo_succ]
    cases hk : Lib.keeps d m with
    | true =>
      rw [if_pos rfl]
      refine ⟨?_, fun x => ?_⟩
      · rw [List.pairwise_append]
        refine ⟨h1, List.pairwise_singleton _ _, fun a ha b hb => ?_⟩
        rw [List.mem_singleton.1 hb]
        obtain ⟨j, hj, rfl⟩ := (h2 a).1 ha
        have hle := hs j (m - 1) (by omega) (by omega)
        have hle2 := hs (m - 1) m (by omega) (by omega)
        have hne : d[m]! ≠ d[m - 1]! := by
          intro e
          have := Lib.keeps_neg (d := d) (m := m) (by omega) e
          rw [hk] at this
          cases this
        omega
      · rw [List.mem_append, List.mem_singleton, h2]
        constructor
        · rintro (⟨j, hj, rfl⟩ | rfl)
          · exact ⟨j, by omega, rfl⟩
          · exact ⟨m, by omega, rfl⟩
        · rintro ⟨j, hj, rfl⟩
          by_cases hjm : j = m
          · exact .inr (by rw [hjm])
          · exact .inl ⟨j, by omega, rfl⟩
    | false =>
      rw [if_neg (by decide), List.append_nil]
      refine ⟨h1, fun x => ?_⟩
      rw [h2]
      constructor
      · rintro ⟨j, hj, rfl⟩
        exact ⟨j, by omega, rfl⟩
      · rintro ⟨j, hj, rfl⟩
        by_cases hjm : j = m
        · have hm0 : 0 < m := by
            refine Nat.pos_of_ne_zero (fun e => ?_)
            rw [e] at hk
            have := Lib.keeps_lt_one d 0 (by omega)
            rw [hk] at this
            cases this
          refine ⟨m - 1, by omega, ?_⟩
          refine Classical.byContradiction fun hne => ?_
          have := Lib.keeps_pos (d := d) (m := m) (fun e => hne (by rw [hjm]; exact e.symm))
          rw [hk] at this
          cases this
        · exact ⟨j, by omega, rfl⟩
theorem srt_sorted (l : List Int) : (srt l).Pairwise (· ≤ ·) := by
  have := List.pairwise_mergeSort (le := fun (x y : Int) => decide (x ≤ y)) (fun a b c h1 h2 => by simp at *; omega) (fun a b => by simp; omega) l
  exact this.imp (fun h => by simpa using h)
theorem srt_mem (l : List Int) (x : Int) : x ∈ srt l ↔ x ∈ l := by unfold srt; simp
theorem tidy_facts (l : List Int) : (tidy l).Pairwise (· < ·) ∧ ∀ x, x ∈ tidy l ↔ x ∈ l := by
  have hs := srt_sorted l
  have hget : ∀ i, i < (srt l).length → (srt l).toArray[i]! = (srt l).getD i 0 := fun i hi => by simp [hi]
  have h := compact_up (srt l).toArray (fun i j hij hj => by
    have hj' : j < (srt l).length := by simpa using hj
    rw [hget i (by omega), hget j hj', List.getD_eq_getElem?_getD, List.getD_eq_getElem?_getD, List.getElem?_eq_getElem (by omega), List.getElem?_eq_getElem hj']
    simp only [Option.getD_some]
    by_cases e : i = j
    · subst e; exact Int.le_refl _
    · exact List.pairwise_iff_getElem.1 hs i j (by omega) hj' (by omega)) (srt l).length (by simp)
  refine ⟨h.1, fun x => ?_⟩
  show x ∈ Lib.compactUpTo (srt l).toArray (srt l).length ↔ _
  rw [h.2, ← srt_mem l x]
  constructor
  · rintro ⟨j, hj, rfl⟩
    rw [hget j hj, List.getD_eq_getElem?_getD, List.getElem?_eq_getElem hj]
    exact List.getElem_mem hj
  · intro hx
    obtain ⟨j, hj, e⟩ := List.getElem_of_mem hx
    exact ⟨j, hj, by rw [hget j hj, List.getD_eq_getElem?_getD, List.getElem?_eq_getElem hj]; exact e⟩
/-! ### the starts -/
theorem rise_rd {l : List Int} (h : l.Pairwise (· < ·)) {i j : Nat} (hij : i < j) (hj : j < l.length) : rd l (i : Int) < rd l (j : Int) := by
  have := List.pairwise_iff_getElem.1 h i j (by omega) hj hij
  simpa [rd, hj, show i < l.length by omega] using this
theorem rd_mem {l : List Int} {i : Nat} (hi : i < l.length) : rd l (i : Int) ∈ l := by
  have e : rd l (i : Int) = l[i] := by simp [rd, hi]
  rw [e]; exact List.getElem_mem hi
/-- the starts of a function that fits -/
structure Starts (code : List S40) (P : Nat → Prop) (st : List Int) : Prop where
  mem : ∀ x : Int, x ∈ st ↔ ∃ p : Nat, p < code.length ∧ x = (p : Int) ∧ P p
  rise : st.Pairwise (· < ·)
  zero : P 0
  pos : 0 < code.length
theorem starts_of {code : List S40} {P : Nat → Prop} {s : List Bool} (h : Mk s code.length P) (h0 : P 0) (hp : 0 < code.length) : Starts code P (idxs s) := ⟨idxs_mk h, idxs_rise s, h0, hp⟩
section
variable {code : List S40} {P : Nat → Prop} {st : List Int}
theorem Starts.len (h : Starts code P st) : 0 < st.length := by
  have : (0 : Int) ∈ st := (h.mem 0).2 ⟨0, h.pos, rfl, h.zero⟩
  exact List.length_pos_of_mem this
theorem Starts.in_ (h : Starts code P st) {i : Nat} (hi : i < st.length) : ∃ p : Nat, p < code.length ∧ rd st (i : Int) = (p : Int) ∧ P p := (h.mem _).1 (rd_mem hi)
theorem Starts.first (h : Starts code P st) : rd st (0 : Int) = 0 := by
  have hm : (0 : Int) ∈ st := (h.mem 0).2 ⟨0, h.pos, rfl, h.zero⟩
  obtain ⟨j, hj, e⟩ := List.getElem_of_mem hm
  have e2 : rd st (j : Int) = 0 := by simp [rd, hj, e]
  by_cases hj0 : j = 0
  · subst hj0; exact e2
  · have := rise_rd h.rise (i := 0) (j := j) (by omega) hj
    obtain ⟨p, _, hp, _⟩ := h.in_ h.len
    have hp' : rd st (0 : Int) = (p : Int) := hp
    have : rd st (0 : Int) < rd st (j : Int) := this
    omega
theorem Starts.sts (h : Starts code P st) : Sts code st := by
  refine ⟨fun b hb => ?_, fun b hb => rise_rd h.rise (by omega) hb⟩
  obtain ⟨p, hp, e, _⟩ := h.in_ hb
  omega
theorem Starts.short (h : Starts code P st) : st.length ≤ code.length := by
  have key : ∀ i : Nat, i < st.length → (i : Int) ≤ rd st (i : Int) := by
    intro i
    induction i with
    | zero => intro hi; obtain ⟨p, _, hp, _⟩ := h.in_ hi; omega
    | succ i ih =>
      intro hi
      have := ih (by omega)
      have := rise_rd h.rise (i := i) (j := i + 1) (by omega) hi
      omega
  have hl := h.len
  have := key (st.length - 1) (by omega)
  obtain ⟨p, hp, e, _⟩ := h.in_ (i := st.length - 1) (by omega)
  omega
/-- the block in which a place lies -/
theorem blockAt_back (st : List Int) (pc : Int) : ∀ k : Nat, (∃ i : Nat, i < k ∧ rd st (i : Int) ≤ pc) → ∃ i : Nat, i < k ∧ blockAt pc (back st k) = (i : Int) ∧ rd st (i : Int) ≤ pc ∧ ∀ j : Nat, i < j → j < k → pc < rd st (j : Int)
  | 0, ⟨i, hi, _⟩ => by omega
  | k + 1, ⟨i, hi, hle⟩ => by
    rw [back, blockAt]
    by_cases hk : rd st (k : Int) ≤ pc
    · rw [if_pos hk]
      exact ⟨k, by omega, rfl, hk, fun j h1 h2 => by omega⟩
    · rw [if_neg hk]
      have hik : i ≠ k := fun e => hk (e ▸ hle)
      obtain ⟨i', h1, h2, h3, h4⟩ := blockAt_back st pc k ⟨i, by omega, hle⟩
      refine ⟨i', by omega, h2, h3, fun j hj hjk => ?_⟩
      by_cases e : j = k
      · subst e; omega
      · exact h4 j hj (by omega)
theorem Starts.block (h : Starts code P st) {pc : Int} (hpc : 0 ≤ pc) : ∃ i : Nat, i < st.length ∧ blockOf st pc = (i : Int) ∧ rd st (i : Int) ≤ pc ∧ ∀ j : Nat, i < j → j < st.length → pc < rd st (j : Int) :=
  blockAt_back st pc st.length ⟨0, h.len, by have := h.first; show rd st (0 : Int) ≤ pc; omega⟩
/-- the block of a start -/
theorem Starts.block_start (h : Starts code P st) {c : Nat} (hc : c < st.length) : blockOf st (rd st (c : Int)) = (c : Int) := by
  obtain ⟨p, _, e, _⟩ := h.in_ hc
  obtain ⟨i, h1, h2, h3, h4⟩ := h.block (pc := rd st (c : Int)) (by omega)
  rw [h2]
  by_cases hic : i = c
  · rw [hic]
  · rcases Nat.lt_or_gt_of_ne hic with hlt | hlt
    · have := h4 c hlt hc
      omega
    · have := rise_rd h.rise hlt h1
      omega
theorem nextOf_nb (hs : List S49) {b : Int} (hb0 : 0 ≤ b) (hb1 : b < (st.length : Int)) : nb (nextOf code hs st) b = tidy (rawOf code hs st b.toNat) := by
  unfold nb nextOf
  rw [List.getD_eq_getElem?_getD, List.getElem?_map, List.getElem?_range (by omega)]
  rfl
theorem nextOf_off (hs : List S49) {b : Int} (hb : ¬ (b.toNat < st.length)) : nb (nextOf code hs st) b = [] := by
  unfold nb nextOf
  rw [List.getD_eq_getElem?_getD, List.getElem?_eq_none (by simp; omega)]
  rfl
theorem rawH_mem (st : List Int) (tt ff : Int) : ∀ (l : List S49) (x : Int), x ∈ rawH st tt ff l ↔ ∃ h ∈ l, h.f0 < tt ∧ ff < h.f1 ∧ x = blockOf st h.f2
  | [], x => by simp [rawH]
  | h :: l, x => by
    rw [rawH, List.mem_append, rawH_mem st tt ff l x]
    constructor
    · rintro (h1 | ⟨y, hy, h2⟩)
      · split at h1
        · rename_i hc
          exact ⟨h, List.mem_cons_self, hc.1, hc.2, by simpa using h1⟩
        · cases h1
      · exact ⟨y, List.mem_cons_of_mem _ hy, h2⟩
    · rintro ⟨y, hy, h1, h2, h3⟩
      rcases List.mem_cons.1 hy with rfl | hy
      · left
        rw [if_pos ⟨h1, h2⟩]
        simp [h3]
      · exact .inr ⟨y, hy, h1, h2, h3⟩
/-- what may come behind a block -/
theorem raw_mem (hs : List S49) (b : Nat) (x : Int) : x ∈ rawOf code hs st b ↔ ((jumpsP (rd_T40 code (endOf code st b - 1)).f0 = true ∧ x = blockOf st (rd_T40 code (endOf code st b - 1)).f1) ∨ (stopsP (rd_T40 code (endOf code st b - 1)).f0 = false ∧ b + 1 < st.length ∧ x = ((b + 1 : Nat) : Int)) ∨ ∃ h ∈ hs, h.f0 < endOf code st b ∧ rd st (b : Int) < h.f1 ∧ x = blockOf st h.f2) := by
  unfold rawOf raw1 raw2
  rw [List.mem_append, List.mem_append, rawH_mem, or_assoc]
  refine or_congr ?_ (or_congr ?_ Iff.rfl)
  · split
    · rename_i h; simp [h]
    · rename_i h; simp [h]
  · split
    · rename_i h; simp [h]
    · rename_i h
      constructor
      · intro h1; cases h1
      · rintro ⟨h1, h2, _⟩; exact absurd ⟨h1, h2⟩ h
theorem Starts.last (h : Starts code P st) {b : Nat} (hb : b < st.length) : rd_T40 code (endOf code st b - 1) ∈ code := by
  have he := h.sts.end_ hb
  have hl := (h.sts.lo b hb).1
  have hi : (endOf code st b - 1).toNat < code.length := by omega
  unfold rd_T40
  rw [List.getD_eq_getElem?_getD, List.getElem?_eq_getElem hi]
  exact List.getElem_mem hi
theorem Starts.wf (h : Starts code P st) {hs : List S49} (hf : FitsP code hs) : Wf (nextOf code hs st) := by
  have hnl : (nextOf code hs st).length = st.length := by simp [nextOf]
  refine ⟨by rw [hnl]; exact h.len, fun b c hc => ?_⟩
  rw [hnl]
  by_cases hb : b.toNat < st.length
  · have hrow : nb (nextOf code hs st) b = tidy (rawOf code hs st b.toNat) := by
      unfold nb nextOf
      rw [List.getD_eq_getElem?_getD, List.getElem?_map, List.getElem?_range hb]
      rfl
    rw [hrow, (tidy_facts _).2, raw_mem] at hc
    rcases hc with ⟨hj, rfl⟩ | ⟨_, hlt, rfl⟩ | ⟨y, hy, _, _, rfl⟩
    · obtain ⟨i, hi, e, _⟩ := h.block (hf.jmp _ (h.last hb) hj).1
      rw [e]; omega
    · omega
    · obtain ⟨i, hi, e, _⟩ := h.block (hf.hnd y hy).2.2.2.1
      rw [e]; omega
  · rw [nextOf_off hs hb] at hc
    cases hc
theorem nextOf_nodup (hs : List S49) (b : Int) : (nb (nextOf code hs st) b).Nodup := by
  by_cases hb : b.toNat < st.length
  · have hrow : nb (nextOf code hs st) b = tidy (rawOf code hs st b.toNat) := by
      unfold nb nextOf
      rw [List.getD_eq_getElem?_getD, List.getElem?_map, List.getElem?_range hb]
      rfl
    rw [hrow]
    exact (tidy_facts _).1.imp (fun h => by omega)
  · rw [nextOf_off hs hb]
    exact List.nodup_nil
end
end Go.Proofs.Ytmeaepmimnmjlaa.Ask
/- graph.check, plainly. -/
namespace Go.Proofs.Ytmeaepmimnmjlaa.Ask
open Go.RowKit Go.Shelf Go.Proofs.Ytmeaepmimnmjlaa.PGb Go.Proofs.YtmeaepmimnmjlaaW.PrintWords Go.Proofs.YtmeaepmimnmjlaaW.PrintLast Go.Proofs.YtmeaepmimnmjlaaW.PrintMore
set_option linter.unusedVariables false
set_option linter.unusedSimpArgs false
def okJ (n : Int) (i : S40) : Bool := !jumpsP i.f0 || (decide (0 ≤ i.f1) && decide (i.f1 < n))
def okH (n : Int) (h : S49) : Bool := decide (0 ≤ h.f0) && decide (h.f0 < h.f1) && decide (h.f1 ≤ n) && decide (0 ≤ h.f2) && decide (h.f2 < n)
theorem check_l1 (n : Int) (hs : List S49) (hl : hs.length < 9223372036854775807) : ∀ (d j k : Nat), j + d = hs.length → d < k → graph_check.l1 k n hs (hs.length : Int) (j : Int) = some (if (hs.drop j).all (okH n) = true then 0 else 8)
  | _, _, 0, _, hk => by omega
  | 0, j, k + 1, hj, hk => by
    rw [graph_check.l1, if_neg (by omega), List.drop_eq_nil_of_le (by omega)]; rfl
  | d + 1, j, k + 1, hj, hk => by
    have hjl : j < hs.length := by omega
    have hw : wrap64 ((j : Int) + 1) = ((j + 1 : Nat) : Int) := by unfold wrap64; omega
    have ih := check_l1 n hs hl d (j + 1) k (by omega) (by omega)
    obtain ⟨h, hh⟩ : ∃ h, rd_T49 hs (j : Int) = h := ⟨_, rfl⟩
    have hd : hs.drop j = h :: hs.drop (j + 1) := by
      rw [List.drop_eq_getElem_cons hjl]
      congr 1
      rw [← hh]; simp [rd_T49, hjl]
    rw [graph_check.l1, if_pos (by omega), if_pos (by omega), if_pos (by omega), hh, hw, ih, hd, List.all_cons]
    by_cases c1 : h.f0 < 0
    · rw [if_pos c1]; simp [okH, show ¬ (0 ≤ h.f0) by omega]
    · rw [if_neg c1]
      by_cases c2 : h.f0 ≥ h.f1
      · rw [if_pos c2]; simp [okH, show ¬ (h.f0 < h.f1) by omega]
      · rw [if_neg c2]
        by_cases c3 : h.f1 > n
        · rw [if_pos c3]; simp [okH, show ¬ (h.f1 ≤ n) by omega]
        · rw [if_neg c3]
          by_cases c4 : h.f2 < 0
          · rw [if_pos c4]; simp [okH, show ¬ (0 ≤ h.f2) by omega]
          · rw [if_neg c4]
            by_cases c5 : h.f2 ≥ n
            · rw [if_pos c5]; simp [okH, show ¬ (h.f2 < n) by omega]
            · rw [if_neg c5]
              have : okH n h = true := by
                simp only [okH, Bool.and_eq_true, decide_eq_true_eq]; omega
              rw [this, Bool.true_and]
theorem check_l0 (nm : ByteArray) (pa lo : Int) (code : List S40) (hs : List S49) (hc : code.length < 9223372036854775807) (hl : hs.length < 9223372036854775807) : ∀ (d j k : Nat), j + d = code.length → d + hs.length + 1 < k → graph_check.l0 k (code.length : Int) code (code.length : Int) (j : Int) nm pa lo code hs = some (if ((code.drop j).all (okJ code.length) && hs.all (okH code.length)) = true then 0 else 8)
  | _, _, 0, _, hk => by omega
  | 0, j, k + 1, hj, hk => by
    have h1 := check_l1 (code.length : Int) hs hl hs.length 0 k (by omega) (by omega)
    rw [graph_check.l0, if_neg (by omega), List.drop_eq_nil_of_le (by omega)]
    rw [List.drop_zero] at h1
    exact h1
  | d + 1, j, k + 1, hj, hk => by
    have hjl : j < code.length := by omega
    have hw : wrap64 ((j : Int) + 1) = ((j + 1 : Nat) : Int) := by unfold wrap64; omega
    have ih := check_l0 nm pa lo code hs hc hl d (j + 1) k (by omega) (by omega)
    obtain ⟨i, hi⟩ : ∃ i, rd_T40 code (j : Int) = i := ⟨_, rfl⟩
    have hd : code.drop j = i :: code.drop (j + 1) := by
      rw [List.drop_eq_getElem_cons hjl]
      congr 1
      rw [← hi]; simp [rd_T40, hjl]
    rw [graph_check.l0, if_pos (by omega), if_pos (by omega), if_pos (by omega), hi, hw, ih, hd, List.all_cons, jumps_f, Option.bind_some]
    cases hj : jumpsP i.f0 with
    | true =>
      rw [if_pos rfl]
      by_cases c1 : i.f1 < 0
      · rw [if_pos c1]; simp [okJ, hj, show ¬ (0 ≤ i.f1) by omega]
      · rw [if_neg c1]
        by_cases c2 : i.f1 ≥ (code.length : Int)
        · rw [if_pos c2]; simp [okJ, hj, show ¬ (i.f1 < (code.length : Int)) by omega]
        · rw [if_neg c2]
          have : okJ code.length i = true := by
            simp only [okJ, hj, Bool.not_true, Bool.false_or, Bool.and_eq_true, decide_eq_true_eq]; omega
          rw [this, Bool.true_and]
    | false =>
      rw [if_neg (by decide)]
      have : okJ code.length i = true := by simp [okJ, hj]
      rw [this, Bool.true_and]
def errOf (code : List S40) (hs : List S49) : Int := if code.length = 0 then 2 else if (code.all (okJ code.length) && hs.all (okH code.length)) = true then 0 else 8
theorem check_f (nm : ByteArray) (pa lo : Int) (code : List S40) (hs : List S49) (hc : code.length < 9223372036854775807) (hl : hs.length < 9223372036854775807) : graph_check.f (code.length + hs.length + 2) nm pa lo code hs = some (errOf code hs) := by
  unfold graph_check.f errOf
  by_cases h0 : code.length = 0
  · rw [if_pos (by omega), if_pos h0]
  · rw [if_neg (by omega), if_neg h0]
    exact check_l0 nm pa lo code hs hc hl code.length 0 _ (by omega) (by omega)
theorem errOf_fits (code : List S40) (hs : List S49) : errOf code hs = 0 ↔ FitsP code hs := by
  unfold errOf
  constructor
  · intro h
    by_cases h0 : code.length = 0
    · rw [if_pos h0] at h; cases h
    · rw [if_neg h0] at h
      split at h
      · rename_i hc
        rw [Bool.and_eq_true, List.all_eq_true, List.all_eq_true] at hc
        refine ⟨by omega, fun i hi hj => ?_, fun y hy => ?_⟩
        · have := hc.1 i hi
          simp only [okJ, hj, Bool.not_true, Bool.false_or, Bool.and_eq_true, decide_eq_true_eq] at this
          exact this
        · have := hc.2 y hy
          simp only [okH, Bool.and_eq_true, decide_eq_true_eq] at this
          omega
      · cases h
  · intro h
    have := h.pos
    rw [if_neg (by omega), if_pos]
    rw [Bool.and_eq_true, List.all_eq_true, List.all_eq_true]
    refine ⟨fun i hi => ?_, fun y hy => ?_⟩
    · cases hj : jumpsP i.f0 with
      | true =>
        have := h.jmp i hi hj
        simp only [okJ, hj, Bool.not_true, Bool.false_or, Bool.and_eq_true, decide_eq_true_eq]; omega
      | false => simp [okJ, hj]
    · have := h.hnd y hy
      simp only [okH, Bool.and_eq_true, decide_eq_true_eq]; omega
end Go.Proofs.Ytmeaepmimnmjlaa.Ask
/- graph.Build: for every world. -/
namespace Go.Proofs.Ytmeaepmimnmjlaa.Ask
open Go.Proofs.Ytmeaepmimnmjlaa.Dfs Go.Proofs.Ytmeaepmimnmjlaa.Dom Go.RowKit Go.Shelf Go.Proofs.Ytmeaepmimnmjlaa.PGb Go.Proofs.Ytmeaepmimnmjlaa.Lit Go.Proofs.Ytmeaepmimnmjlaa.OwnCells Go.Proofs.YtmeaepmimnmjlaaW.PrintWords Go.Proofs.YtmeaepmimnmjlaaW.PrintLast Go.Proofs.YtmeaepmimnmjlaaW.PrintMore
attribute [local go_sem] Oper.semAt_some
attribute [local go_sem] run_store_fn
attribute [local go_sem] run_eql_fn
set_option linter.unusedVariables false
set_option linter.unusedSimpArgs false
/-- what lies in memory while the marks are made -/
structure AS (w W : World) (n gs gh : Nat) (cf : Array Value) (s h : List Bool) : Prop where
  fb : W.heap[w.heap.size]? = some (.cells cf 25 (0, 0))
  rb : W.heap[w.heap.size + 1]? = some (.cells #[.slice none 0 0, .slice none 0 0, .slice none 0 0, .slice none 0 0, .slice none 0 0] 29 (0, 0))
  st : W.ownsRow (w.heap.size + 2) 4 1 (.slice (some ⟨gs, 0, none⟩) (n + 1) (n + 1)) (n + 1) (s.map Value.bool)
  hd : W.ownsRow (gs + 1) 4 1 (.slice (some ⟨gh, 0, none⟩) n n) n (h.map Value.bool)
  below : Below w.heap.size w W
section
variable {w W W' : World} {n gs gh : Nat} {cf : Array Value} {s h : List Bool}
theorem AS.gs_ (a : AS w W n gs gh cf s h) : w.heap.size + 2 ≤ gs := own_base a.st gs rfl
theorem AS.gh_ (a : AS w W n gs gh cf s h) : gs + 1 ≤ gh := own_base a.hd gh rfl
theorem AS.from_ (a : AS w W n gs gh cf s h) (hb : Below W.heap.size W W') : AS w W' n gs gh cf s h :=
  ⟨blk_below a.fb hb, blk_below a.rb hb, own_move a.st fun k hk => hb.block k (own_lt a.st k hk), own_move a.hd fun k hk => hb.block k (own_lt a.hd k hk), a.below.trans (hb.mono a.below.size)⟩
theorem AS.setS (a : AS w W n gs gh cf s h) (q : Nat) : AS w (W.setCell ⟨gs, q, none⟩ (.bool true)) n gs gh cf (s.set q true) h := by
  obtain ⟨h1, h2⟩ := a.st.stored q (.bool true)
  have := a.gs_
  have := a.gh_
  refine ⟨(Below.heap_setCell W ⟨gs, q, none⟩ _ _ (by simp; omega)).trans a.fb, (Below.heap_setCell W ⟨gs, q, none⟩ _ _ (by simp; omega)).trans a.rb, by rw [List.map_set]; exact h1, a.hd.kept h2 (.inr ?_), a.below.setCell (p := ⟨gs, q, none⟩) (by show w.heap.size ≤ gs; omega) _⟩
  simp [Value.ownBlock]; omega
theorem AS.setH (a : AS w W n gs gh cf s h) (q : Nat) : AS w (W.setCell ⟨gh, q, none⟩ (.bool true)) n gs gh cf s (h.set q true) := by
  obtain ⟨h1, h2⟩ := a.hd.stored q (.bool true)
  have := a.gs_
  have := a.gh_
  refine ⟨(Below.heap_setCell W ⟨gh, q, none⟩ _ _ (by simp; omega)).trans a.fb, (Below.heap_setCell W ⟨gh, q, none⟩ _ _ (by simp; omega)).trans a.rb, a.st.kept h2 (.inr ?_), by rw [List.map_set]; exact h1, a.below.setCell (p := ⟨gh, q, none⟩) (by show w.heap.size ≤ gh; omega) _⟩
  simp [Value.ownBlock]; omega
end
/-- the three boxes -/
structure BS (w W : World) (GB : Nat) (cf gc : Array Value) : Prop where
  fb : W.heap[w.heap.size]? = some (.cells cf 25 (0, 0))
  rb : W.heap[w.heap.size + 1]? = some (.cells #[.slice none 0 0, .slice none 0 0, .slice none 0 0, .slice none 0 0, .slice none 0 0] 29 (0, 0))
  gb : W.heap[GB]? = some (.cells gc 29 (0, 0))
  below : Below w.heap.size w W
  lo : w.heap.size + 2 ≤ GB
theorem BS.from_ {w W W' : World} {GB : Nat} {cf gc : Array Value} (a : BS w W GB cf gc) (hb : Below W.heap.size W W') : BS w W' GB cf gc := ⟨blk_below a.fb hb, blk_below a.rb hb, blk_below a.gb hb, a.below.trans (hb.mono a.below.size), a.lo⟩
theorem blk_set {W : World} {k j : Nat} {cur : Array Value} {e : TypeId} {v : Value} (h : W.heap[k]? = some (.cells cur e (0, 0))) : (W.setCell ⟨k, j, none⟩ v).heap[k]? = some (.cells (cur.setIfInBounds j v) e (0, 0)) := heap_setCell_same W k j cur e v h
theorem BS.set {w W : World} {GB : Nat} {cf gc : Array Value} (a : BS w W GB cf gc) (j : Nat) (v : Value) : BS w (W.setCell ⟨GB, j, none⟩ v) GB cf (gc.setIfInBounds j v) := by
  have := a.lo
  exact ⟨(Below.heap_setCell W ⟨GB, j, none⟩ v _ (by simp; omega)).trans a.fb, (Below.heap_setCell W ⟨GB, j, none⟩ v _ (by simp; omega)).trans a.rb, blk_set a.gb, a.below.setCell (p := ⟨GB, j, none⟩) (by show w.heap.size ≤ GB; omega) v, a.lo⟩
/-- the blocks that are not reached, rising -/
def unr (nx : List (List Int)) (j : Nat) : List Int := ((List.range j).filter fun (p : Nat) => decide (¬ (p : Int) ∈ post nx)).map fun (p : Nat) => (p : Int)
theorem unr_succ (nx : List (List Int)) (j : Nat) : unr nx (j + 1) = unr nx j ++ (if (j : Int) ∈ post nx then [] else [(j : Int)]) := by
  unfold unr
  rw [List.range_succ, List.filter_append, List.map_append]
  congr 1
  by_cases h : (j : Int) ∈ post nx <;> simp [h]
theorem unr_length (nx : List (List Int)) (j : Nat) : (unr nx j).length ≤ j := by
  unfold unr
  rw [List.length_map]
  have := List.length_filter_le (fun p : Nat => decide (¬ (p : Int) ∈ post nx)) (List.range j)
  rwa [List.length_range] at this
/-- what lies in memory while the order is written -/
structure OI (w W0 W : World) (GB gr n : Nat) (cf : Array Value) (a0 a1 a3 a4 v2 : Value) (marks : List Bool) (ordl : List Int) : Prop where
  bs : BS w W GB cf #[a0, a1, v2, a3, a4]
  ord : W.ownsRow W0.heap.size 3 1 v2 ordl.length (ordl.map (Value.int .i64))
  mks : W.ownsRow gr 4 1 (.slice (some ⟨gr, 0, none⟩) n n) n (marks.map Value.bool)
  k2 : K2 W0.heap.size GB gr W0 W
section
variable {w W0 W W' : World} {GB gr n : Nat} {cf : Array Value} {a0 a1 a3 a4 v2 : Value} {marks : List Bool} {ordl : List Int}
theorem OI.drew (h : OI w W0 W GB gr n cf a0 a1 a3 a4 v2 marks ordl) (hb : Below W.heap.size W W') (hs : W0.heap.size ≤ W.heap.size) : OI w W0 W' GB gr n cf a0 a1 a3 a4 v2 marks ordl :=
  ⟨h.bs.from_ hb, own_move h.ord fun k hk => hb.block k (own_lt h.ord k hk), own_move h.mks fun k hk => hb.block k (own_lt h.mks k hk), h.k2.trans (K2.of_below (hb.mono hs))⟩
theorem OI.ownF {β : Type} {B : Nat} (hB : W0.heap.size ≤ B) (hw : w.heap.size ≤ B) (f : β → List Int) (P : β → List Bool → Prop) : OwnFrom B (fun (s : β) W => ∃ v2 marks, OI w W0 W GB gr n cf a0 a1 a3 a4 v2 marks (f s) ∧ P s marks) := fun s X Y row ⟨v2, marks, h, hp⟩ hg hr => by
  have hc : ∀ (k : Nat) (o : Obj), X.heap[k]? = some o → o.isCells = true → Y.heap[k]? = some o := fun k o hk ho => by
    refine (hg.block k (blk_lt hk) (fun e => ?_)).trans hk
    obtain ⟨o', ho', hc'⟩ := (hr k e.symm).2
    rw [hk] at ho'
    cases ho'
    rw [ho] at hc'
    cases hc'
  refine ⟨v2, marks, ⟨⟨hc _ _ h.bs.fb rfl, hc _ _ h.bs.rb rfl, hc _ _ h.bs.gb rfl, h.bs.below.grown hg h.bs.below.size (fun k e => by have := (hr k e).1; omega), h.bs.lo⟩, own_held h.ord fun k o _ hk ho => hc k o hk ho, own_held h.mks fun k o _ hk ho => hc k o hk ho, ?_⟩, hp⟩
  exact K2.own (β := Unit) (Nat.le_refl _) hB () X Y row h.k2 hg hr
/-- a block has been written down: the order's row has grown, the graph's box holds it -/
theorem OI.more (h : OI w W0 W GB gr n cf a0 a1 a3 a4 v2 marks ordl) {v2' : Value} {b : Int} (hGr : GB < gr) (hg0 : gr < W0.heap.size) (hs : W0.heap.size ≤ W.heap.size) (ho : W'.ownsRow W0.heap.size 3 1 v2' (ordl ++ [b]).length ((ordl ++ [b]).map (Value.int .i64))) (hgr : W.grownBy W' v2.ownBlock) :
    OI w W0 (W'.setCell ⟨GB, 2, none⟩ v2') GB gr n cf a0 a1 a3 a4 v2' marks (ordl ++ [b]) := by
  have hlo : ∀ k, v2.ownBlock = some k → W0.heap.size ≤ k := fun k hk => own_base h.ord k hk
  have hbl := h.bs.lo
  have hne : ∀ k, k < W0.heap.size → k < W.heap.size → W'.heap[k]? = W.heap[k]? := fun k hk hk2 => hgr.block k hk2 (fun e => by have := hlo k e.symm; omega)
  have hbs : BS w W' GB cf #[a0, a1, v2, a3, a4] := ⟨(hne _ (by omega) (by have := blk_lt h.bs.fb; omega)).trans h.bs.fb, (hne _ (by omega) (by have := blk_lt h.bs.rb; omega)).trans h.bs.rb, (hne _ (by omega) (by have := blk_lt h.bs.gb; omega)).trans h.bs.gb, h.bs.below.grown hgr h.bs.below.size (fun k e => by have := hlo k e; omega), hbl⟩
  have hm : W'.ownsRow gr 4 1 (.slice (some ⟨gr, 0, none⟩) n n) n (marks.map Value.bool) := h.mks.kept hgr (own_ne h.mks h.ord (by decide))
  have hset : ∀ k, k ≠ GB → (W'.setCell ⟨GB, 2, none⟩ v2').heap[k]? = W'.heap[k]? := fun k hk => Below.heap_setCell W' ⟨GB, 2, none⟩ v2' k hk
  have hb2 := hbs.set 2 v2'
  refine ⟨hb2, own_move ho fun k hk => hset k (by have := own_base ho k hk; omega), own_move hm fun k hk => hset k (by simp [Value.ownBlock] at hk; omega), ?_⟩
  refine K2.set (h.k2.trans ⟨(Below.refl 0 W).grown hgr (Nat.zero_le _) (fun _ _ => Nat.zero_le _), fun k hk _ _ => ?_⟩) 2 v2'
  exact hne k hk (by omega)
theorem OI.mark (h : OI w W0 W GB gr n cf a0 a1 a3 a4 v2 marks ordl) (hGr : GB < gr) (hg0 : gr < W0.heap.size) (q : Nat) : OI w W0 (W.setCell ⟨gr, q, none⟩ (.bool true)) GB gr n cf a0 a1 a3 a4 v2 (marks.set q true) ordl := by
  obtain ⟨h1, h2⟩ := h.mks.stored q (.bool true)
  have hbl := h.bs.lo
  have hset : ∀ k, k ≠ gr → (W.setCell ⟨gr, q, none⟩ (.bool true)).heap[k]? = W.heap[k]? := fun k hk => Below.heap_setCell W ⟨gr, q, none⟩ _ k hk
  refine ⟨⟨(hset _ (by omega)).trans h.bs.fb, (hset _ (by omega)).trans h.bs.rb, (hset _ (by omega)).trans h.bs.gb, h.bs.below.setCell (p := ⟨gr, q, none⟩) (by show w.heap.size ≤ gr; omega) _, hbl⟩, h.ord.kept h2 (own_ne h.ord h.mks (by decide)), by rw [List.map_set]; exact h1, h.k2.set' q _⟩
end
/-- what comes out of Build: five lists of the call's own, each in blocks of its own -/
structure Built (w w' : World) (code : List S40) (hs : List S49) (v0 v1 v2 v3 v4 : Value) (st hdl l : List Int) : Prop where
  starts : Starts code (fun p => Why code code.length p ∨ ∃ x ∈ hs, x.f2 = (p : Int)) st
  heads : ∃ h, hdl = idxs h ∧ Mk h code.length (Led code code.length)
  dom : IsDom (nextOf code hs st) l
  mem : ∃ b1 b2 b3 b4 b5 ga vs, w.heap.size ≤ b1 ∧ b1 ≤ b2 ∧ b2 ≤ b3 ∧ b3 ≤ b4 ∧ b4 ≤ b5 ∧ b5 ≤ w'.heap.size ∧
    (w'.ownsRow w.heap.size 3 1 v0 st.length (st.map (Value.int .i64)) ∧ ∀ k, v0.ownBlock = some k → k < b1) ∧
    (w'.ownsRow b1 3 1 v4 hdl.length (hdl.map (Value.int .i64)) ∧ ∀ k, v4.ownBlock = some k → k < b2) ∧
    (v1 = .slice (some ⟨ga, 0, none⟩) st.length st.length ∧ Grid w' b2 ga st.length vs (nextOf code hs st) ∧ ga < b3 ∧ ∀ i, i < st.length → ∀ k, (vs.getD i undef).ownBlock = some k → k < b3) ∧
    (w'.ownsRow b4 3 1 v3 l.length (l.map (Value.int .i64)) ∧ ∀ k, v3.ownBlock = some k → k < b5) ∧
    w'.ownsRow b5 3 1 v2 ((post (nextOf code hs st)).reverse ++ unr (nextOf code hs st) st.length).length (((post (nextOf code hs st)).reverse ++ unr (nextOf code hs st) st.length).map (Value.int .i64))
theorem results_build {fn : Func} (h : fn.results = #[.cell 2 29, .tmp 3]) (tmps : Array Value) (w : World) (g : Nat) (a0 a1 a2 a3 a4 : Value) (A0 A1 A2 A3 A4 : Option Addr) (m0 m1 m2 m3 m4 c0 c1 c2 c3 c4 : Nat) (ea0 : a0 = .slice A0 m0 c0) (ea1 : a1 = .slice A1 m1 c1) (ea2 : a2 = .slice A2 m2 c2) (ea3 : a3 = .slice A3 m3 c3) (ea4 : a4 = .slice A4 m4 c4) (hp : tmps.getD 2 undef = .pointer (some ⟨g, 0, none⟩)) (hv : tmps.getD 3 undef = .int .i64 0)
    (hb : w.heap[g]? = some (.cells #[a0, a1, a2, a3, a4] 29 (0, 0))) : (results fn tmps).run Try.prog w = .ok (.tuple #[.agg #[a0, a1, a2, a3, a4], .int .i64 0]) w := by
  have q0 := cell_blk hb (i := 0) rfl
  have q1 := cell_blk hb (i := 1) rfl
  have q2 := cell_blk hb (i := 2) rfl
  have q3 := cell_blk hb (i := 3) rfl
  have q4 := cell_blk hb (i := 4) rfl
  subst ea0 ea1 ea2 ea3 ea4
  have hp' : tmps[2]?.getD undef = .pointer (some ⟨g, 0, none⟩) := gdq _ _ _ hp
  have hv' : tmps[3]?.getD undef = .int .i64 0 := gdq _ _ _ hv
  have hu29 := Try.underlying29
  simp [results, h, hp', hv', asAddr]
  go_simp
set_option maxRecDepth 100000 in
set_option maxHeartbeats 8000000 in
theorem build_yes (k0 : Nat) (nm : ByteArray) (pa lo : Int) (A3 A4 : Option Addr) (c3 c4 : Nat) (code : List S40) (hs : List S49) (w : World) (hC : k40.C w A3 code.length code) (hc3 : code.length ≤ c3) (hH : k49.C w A4 hs.length hs) (hc4 : hs.length ≤ c4) (hchk : graph_check.f k0 nm pa lo code hs = some 0) (hfit : FitsP code hs) (hn : code.length ≤ 8796093022207) (hh : hs.length ≤ 8796093022208) :
    Calls Try.prog 13 #[.agg #[.string nm, .int .i64 pa, .int .i64 lo, .slice A3 code.length c3, .slice A4 hs.length c4]] w fun e w' => ∃ v0 v1 v2 v3 v4 st hdl l, e = .returned (.tuple #[.agg #[v0, v1, v2, v3, v4], .int .i64 0]) ∧ Built w w' code hs v0 v1 v2 v3 v4 st hdl l ∧ Below w.heap.size w w' := by
  have HC := Aside0.mk hC
  have HH := Aside0.mk hH
  have HC3 := Aside0.mk hc3
  have HC4 := Aside0.mk hc4
  have HCK := Aside0.mk hchk
  have HF := Aside0.mk hfit
  have hpos := hfit.pos
  clear hC hH hc3 hc4 hchk hfit
  obtain ⟨i4, hi4, hz40, hz41, hz42⟩ := info_parts info4
  have hu25 := Try.underlying25
  have hu29 := Try.underlying29
  have hu40 := Try.underlying40
  have hu49 := Try.underlying49
  refine (callsIn_wide (n := 10)).1 ?_
  refine callsIn_of_wp_marks Try.func13 rfl trivial ?_ rfl
  refine wpIn_wide.2 ?_
  simp only [Try.ntmps13, List.size_toArray, List.length_cons, List.length_nil, Nat.reduceAdd, Nat.reduceSub, Array.replicate_succ, Array.replicate_zero, List.push_toArray, List.append_toArray, List.nil_append, List.cons_append]
  go_upto_region 1 with (fail)
  have hfb0 : ((w.alloc (.cells #[.string nm, .int .i64 pa, .int .i64 lo, .slice A3 code.length c3, .slice A4 hs.length c4] 25)).alloc (.cells #[.slice none 0 0, .slice none 0 0, .slice none 0 0, .slice none 0 0, .slice none 0 0] 29)).heap[w.heap.size]? = some (.cells #[.string nm, .int .i64 pa, .int .i64 lo, .slice A3 code.length c3, .slice A4 hs.length c4] 25 (0, 0)) := ((World.grownBy_alloc (w.alloc _) _ none).block _ (by simp) (by simp)).trans (World.alloc_heap_new w _)
  have hrb0 : ((w.alloc (.cells #[.string nm, .int .i64 pa, .int .i64 lo, .slice A3 code.length c3, .slice A4 hs.length c4] 25)).alloc (.cells #[.slice none 0 0, .slice none 0 0, .slice none 0 0, .slice none 0 0, .slice none 0 0] 29)).heap[w.heap.size + 1]? = some (.cells #[.slice none 0 0, .slice none 0 0, .slice none 0 0, .slice none 0 0, .slice none 0 0] 29 (0, 0)) := by
    have := World.alloc_heap_new (w.alloc (.cells #[.string nm, .int .i64 pa, .int .i64 lo, .slice A3 code.length c3, .slice A4 hs.length c4] 25)) (.cells #[.slice none 0 0, .slice none 0 0, .slice none 0 0, .slice none 0 0, .slice none 0 0] 29)
    rw [World.size_alloc] at this
    exact this
  have hb0 : Below w.heap.size w ((w.alloc (.cells #[.string nm, .int .i64 pa, .int .i64 lo, .slice A3 code.length c3, .slice A4 hs.length c4] 25)).alloc (.cells #[.slice none 0 0, .slice none 0 0, .slice none 0 0, .slice none 0 0, .slice none 0 0] 29)) := below_alloc (below_alloc (Below.refl _ _) _) _
  have hsz0 : ((w.alloc (.cells #[.string nm, .int .i64 pa, .int .i64 lo, .slice A3 code.length c3, .slice A4 hs.length c4] 25)).alloc (.cells #[.slice none 0 0, .slice none 0 0, .slice none 0 0, .slice none 0 0, .slice none 0 0] 29)).heap.size = w.heap.size + 2 := by simp
  revert hfb0 hrb0 hb0 hsz0
  generalize (w.alloc (.cells #[.string nm, .int .i64 pa, .int .i64 lo, .slice A3 code.length c3, .slice A4 hs.length c4] 25)).alloc (.cells #[.slice none 0 0, .slice none 0 0, .slice none 0 0, .slice none 0 0, .slice none 0 0] 29) = W0
  generalize hcf : #[Value.string nm, .int .i64 pa, .int .i64 lo, .slice A3 code.length c3, .slice A4 hs.length c4] = cf
  intro hfb0 hrb0 hb0 hsz0
  have kf0 : cf[0]? = some (.string nm) := by rw [← hcf]; rfl
  have kf1 : cf[1]? = some (.int .i64 pa) := by rw [← hcf]; rfl
  have kf2 : cf[2]? = some (.int .i64 lo) := by rw [← hcf]; rfl
  have kf3 : cf[3]? = some (.slice A3 code.length c3) := by rw [← hcf]; rfl
  have kf4 : cf[4]? = some (.slice A4 hs.length c4) := by rw [← hcf]; rfl
  have f0 := cell_blk hfb0 kf0
  have f1 := cell_blk hfb0 kf1
  have f2 := cell_blk hfb0 kf2
  have f3 := cell_blk hfb0 kf3
  have f4 := cell_blk hfb0 kf4
  have HKF := Aside0.mk (And.intro kf0 (And.intro kf1 (And.intro kf2 (And.intro kf3 kf4))))
  have HFB := Aside0.mk hfb0
  have HRB := Aside0.mk hrb0
  have HB0 := Aside0.mk hb0
  have HSZ := Aside0.mk hsz0
  clear kf0 kf1 kf2 kf3 kf4 hfb0 hrb0 hb0 hsz0 hcf
  go_wp2_with (fail)
  refine (graph_check.calls k0 nm pa lo A3 c3 code A4 c4 hs 0 W0 (Kd.C_below HC.out HB0.out) HC3.out (Kd.C_below HH.out HB0.out) HC4.out HCK.out).mono ?_
  rintro e w1 ⟨rfl, hb1⟩
  have hfb1 := blk_below HFB.out hb1
  have hrb1 := blk_below HRB.out hb1
  have HB1 := Aside0.mk (HB0.out.trans (hb1.mono HB0.out.size))
  have HS1 := Aside0.mk (show w.heap.size + 2 ≤ w1.heap.size by have := hb1.size; have := HSZ.out; omega)
  clear f0 f1 f2 f3 f4 hb1 HFB HRB HB0 HSZ
  have f3 := cell_blk hfb1 HKF.out.2.2.2.1
  go_upto_region 5 with (first | (at_make; refine wpList_make_full _ rfl _ _ 53 rfl (w.heap.size + 2) 4 i4 (.bool false) 1 Try.underlying53 hi4 hz40 hz41 _ _ _ _ (code.length + 1) rfl rfl (by first | rfl | (push_cast; rfl)) (by first | rfl | (push_cast; rfl)) (by rw [hz42]; omega) (by unfold maxLen; omega) HS1.out ?_; intro w2 hown hgrow) | go_in)
  have hmk : ∀ x : Nat, (madeCells (Value.bool false).cells (x * 1)).toList = (List.replicate x false).map Value.bool := fun x => by
    rw [Nat.mul_one, show (Value.bool false).cells = #[.bool false] from rfl, toList_madeCells_one]; simp
  rw [hmk] at hown
  have hbw2 : Below w1.heap.size w1 w2 := (Below.refl _ w1).grown hgrow (Nat.le_refl _) (fun j e => by cases e)
  have hfb2 := blk_below hfb1 hbw2
  have hrb2 := blk_below hrb1 hbw2
  have hgs : w1.heap.size < w2.heap.size := own_lt hown _ rfl
  have HB2 := Aside0.mk (HB1.out.trans (hbw2.mono HB1.out.size))
  clear hgrow hbw2 hfb1 hrb1 f3
  have f3 := cell_blk hfb2 HKF.out.2.2.2.1
  obtain ⟨gs, hgse⟩ : ∃ gs, w1.heap.size = gs := ⟨_, rfl⟩
  rw [hgse] at hown hgs ⊢
  clear hgse
  go_upto_region 6 with (first | (at_make; refine wpList_make_full _ rfl _ _ 53 rfl (gs + 1) 4 i4 (.bool false) 1 Try.underlying53 hi4 hz40 hz41 _ _ _ _ code.length rfl rfl rfl rfl (by rw [hz42]; omega) (by unfold maxLen; omega) hgs ?_; intro w3 hown3 hgrow3) | go_in)
  rw [hmk] at hown3
  have hbw3 : Below w2.heap.size w2 w3 := (Below.refl _ w2).grown hgrow3 (Nat.le_refl _) (fun j e => by cases e)
  obtain ⟨gh, hghe⟩ : ∃ gh, w2.heap.size = gh := ⟨_, rfl⟩
  have hA0 : AS w w3 code.length gs gh cf (List.replicate (code.length + 1) false) (List.replicate code.length false) := by
    rw [hghe] at hown3
    exact ⟨blk_below hfb2 hbw3, blk_below hrb2 hbw3, own_move hown fun k hk => hbw3.block k (own_lt hown k hk), hown3, HB2.out.trans (hbw3.mono HB2.out.size)⟩
  rw [hghe]
  have HA0 := Aside0.mk hA0
  clear hghe hown hown3 hgrow3 hbw3 hfb2 hrb2 hmk hgs f3 hi4 hz40 hz41 hz42 i4 HB1 HB2 HS1
  have hc0 := hA0.st.cellAt 0 (by omega)
  have hf0 := hA0.st.frozenAt 0
  rw [List.getElem?_map, List.getElem?_replicate, if_pos (by omega)] at hc0
  have hc0' : w3.cell? ⟨gs, 0, none⟩ = some (.bool false) := hc0
  have hp1 : (0 : Int) < (code.length : Int) + 1 := by omega
  clear hc0 hA0
  go_upto_region 7 with (fail)
  have HA1 := Aside0.mk (HA0.out.setS 0)
  clear hc0' hf0 HA0
  revert HA1
  generalize w3.setCell ⟨gs, 0, none⟩ (.bool true) = W1
  intro HA1
  have f3 := cell_blk HA1.out.fb HKF.out.2.2.2.1
  go_wp2_with (fail)
  clear f3
  go_loopw [38] (fun i wr => ∃ (k : Nat) (s h : List Bool), k ≤ code.length ∧ i = .int .i64 (k : Int) ∧ AS w wr code.length gs gh cf s h ∧ Mk s (code.length + 1) (Why code k) ∧ Mk h code.length (Led code k)) (fun i _ => ((code.length : Int) - intOf i).toNat)
  case atStart =>
    refine ⟨0, _, _, Nat.zero_le _, rfl, HA1.out, ((Mk.none_ _).set_ 0).congr (fun p hp => ?_), (Mk.none_ _).congr (fun p hp => ?_)⟩
    · constructor
      · rintro (h | h)
        · exact h.elim
        · exact .inl h
      · rintro (h | ⟨q, i, hq, _⟩)
        · exact .inr h
        · omega
    · constructor
      · exact fun h => h.elim
      · rintro ⟨q, i, hq, _⟩
        omega
  case round =>
    clear HA1
    obtain ⟨k, s, h, hk, rfl, hA, hS, hH⟩ := hrel
    have HA := Aside0.mk hA
    have HMS := Aside0.mk hS
    have HMH := Aside0.mk hH
    by_cases hlt : k < code.length
    · have hCw := Kd.C_below HC.out hA.below
      obtain ⟨ac, rfl, hcc0, hcc1⟩ := at_T40 hCw (k : Int) (by omega) (by omega)
      rw [Int.toNat_natCast] at hcc0 hcc1
      obtain ⟨i, hi⟩ : ∃ x, rd_T40 code (k : Int) = x := ⟨_, rfl⟩
      rw [hi] at hcc0 hcc1
      have hget : code[k]? = some i := by
        rw [← hi, List.getElem?_eq_getElem hlt]
        simp [rd_T40, hlt]
      have hki : (k : Int) < (code.length : Int) := by omega
      have h0k : (0 : Int) ≤ (k : Int) := by omega
      have HG := Aside0.mk hget
      have HJ := Aside0.mk (HF.out.jmp i (List.mem_of_getElem? hget))
      clear hA hS hH hCw hi hget
      go_wp2_with (fail)
      obtain ⟨LB, hLB⟩ : ∃ LB, wr.heap.size = LB := ⟨_, rfl⟩
      have k0' : (wr.alloc (.cells #[.int .i64 i.f0, .int .i64 i.f1] 40)).heap[LB]? = some (.cells #[.int .i64 i.f0, .int .i64 i.f1] 40 (0, 0)) := by rw [← hLB]; exact World.alloc_heap_new wr _
      have HA2 := Aside0.mk (HA.out.from_ (below_alloc (Below.refl _ wr) (.cells #[.int .i64 i.f0, .int .i64 i.f1] 40)))
      have HLB := Aside0.mk (show gh < LB by rw [← hLB]; exact own_lt HA.out.hd _ rfl)
      rw [hLB]
      revert k0' HA2
      generalize wr.alloc (.cells #[.int .i64 i.f0, .int .i64 i.f1] 40) = W2
      intro k0' HA2
      have HK0 := Aside0.mk k0'
      clear hcc0 hcc1 HA k0' hLB
      refine (graph_parts.calls 1 _ _ _ (parts_f _)).mono ?_
      rintro e w9 ⟨rfl, hd⟩
      obtain ⟨d1, rfl⟩ := hd.out
      clear hd
      obtain ⟨pb, hpb⟩ : ∃ pb, partsP i.f0 = pb := ⟨_, rfl⟩
      rw [hpb]
      have HPB := Aside0.mk hpb
      clear hpb
      go_upto_if 45 with (fail)
      go_cut [46] from 39 to 65 (fun v46 wc => ∃ s', AS w wc code.length gs gh cf s' h ∧ Mk s' (code.length + 1) (fun p => Why code k p ∨ (partsP i.f0 = true ∧ p = k + 1)) ∧ wc.heap[LB]? = some (.cells #[.int .i64 i.f0, .int .i64 i.f1] 40 (0, 0)))
      case first =>
        cases pb with
        | true =>
          have hAw : AS w (W2.drewN d1) code.length gs gh cf s h := HA2.out.from_ (pw_below_drewN (Below.refl _ _) d1)
          have hc := mark_cell hAw.st HMS.out.1 (k + 1) (by omega)
          have hf := hAw.st.frozenAt (k + 1)
          have hk1 : (k : Int) + 1 < (code.length : Int) + 1 := by omega
          have HAS := Aside0.mk (hAw.setS (k + 1))
          have hne : LB ≠ gs := by have := hAw.gh_; have := HLB.out; omega
          have HK1 := Aside0.mk (show ((W2.drewN d1).setCell ⟨gs, k + 1, none⟩ (.bool true)).heap[LB]? = some (.cells #[.int .i64 i.f0, .int .i64 i.f1] 40 (0, 0)) from (Below.heap_setCell (W2.drewN d1) ⟨gs, k + 1, none⟩ (.bool true) LB (by simpa using hne)).trans HK0.out)
          clear hAw hne
          go_wp2_with (fail)
          go_meet
          case rel => exact ⟨_, HAS.out, (HMS.out.set_ (k + 1)).congr (fun p hp => by rw [HPB.out]; simp), HK1.out⟩
        | false =>
          have HAS := Aside0.mk (show AS w (W2.drewN d1) code.length gs gh cf s h from HA2.out.from_ (pw_below_drewN (Below.refl _ _) d1))
          go_wp2_with (fail)
          go_meet
          case rel => exact ⟨s, HAS.out, HMS.out.congr (fun p hp => by rw [HPB.out]; simp), HK0.out⟩
      case rest =>
        obtain ⟨s', hA', hS', hk0⟩ := hcut
        have k0 := cell_blk hk0 (i := 0) rfl
        have HA' := Aside0.mk hA'
        have HS' := Aside0.mk hS'
        have HK' := Aside0.mk hk0
        clear hA' hS' hk0 HA2 HK0
        go_wp2_with (fail)
        refine (graph_jumps.calls _ _ _ (jumps_f _)).mono ?_
        rintro e w9 ⟨rfl, hd⟩
        obtain ⟨d2, rfl⟩ := hd.out
        clear hd k0
        obtain ⟨jb, hjb⟩ : ∃ jb, jumpsP i.f0 = jb := ⟨_, rfl⟩
        rw [hjb]
        have HJB := Aside0.mk hjb
        clear hjb
        have HA3 := Aside0.mk (show AS w (wc.drewN d2) code.length gs gh cf s' h from HA'.out.from_ (pw_below_drewN (Below.refl _ _) d2))
        have HK3 := Aside0.mk (show (wc.drewN d2).heap[LB]? = _ from HK'.out)
        clear HA' HK'
        revert HA3 HK3
        generalize wc.drewN d2 = W3
        intro HA3 HK3
        have HSt : Aside0 (∀ s2, Mk s2 (code.length + 1) (fun p => (Why code k p ∨ (partsP i.f0 = true ∧ p = k + 1)) ∨ (jumpsP i.f0 = true ∧ i.f1 = (p : Int))) → Mk s2 (code.length + 1) (Why code (k + 1))) := ⟨fun s2 h2 => h2.congr (fun p hp => by rw [Why.step HG.out p, or_assoc])⟩
        cases jb with
        | true =>
          obtain ⟨hj0, hj1⟩ := HJ.out HJB.out
          obtain ⟨t, ht⟩ : ∃ t : Nat, i.f1 = (t : Int) := ⟨i.f1.toNat, by omega⟩
          rw [ht] at hj1
          have k1 := cell_blk HK3.out (i := 1) rfl
          rw [ht] at k1
          have htn : t < code.length := by omega
          have hc := mark_cell HA3.out.st HS'.out.1 t (by omega)
          have hf := HA3.out.st.frozenAt t
          have hAS := HA3.out.setS t
          have hne : LB ≠ gs := by have := HA3.out.gh_; have := HLB.out; omega
          have hK4 : (W3.setCell ⟨gs, t, none⟩ (.bool true)).heap[LB]? = some (.cells #[.int .i64 i.f0, .int .i64 i.f1] 40 (0, 0)) := (Below.heap_setCell W3 ⟨gs, t, none⟩ (.bool true) LB (by simpa using hne)).trans HK3.out
          have k1' := cell_blk hK4 (i := 1) rfl
          rw [ht] at k1'
          have hcH := mark_cell hAS.hd HMH.out.1 t htn
          have hfH := hAS.hd.frozenAt t
          have HAS := Aside0.mk hAS
          have hmk2 : Mk (s'.set t true) (code.length + 1) (Why code (k + 1)) := HSt.out _ ((HS'.out.set_ t).congr (fun p hp => by
            rw [HJB.out, ht]
            constructor
            · rintro (h1 | h1)
              · exact .inl h1
              · exact .inr ⟨rfl, by omega⟩
            · rintro (h1 | ⟨_, h1⟩)
              · exact .inl h1
              · exact .inr (by omega)))
          have HM2 := Aside0.mk hmk2
          have HT := Aside0.mk ht
          have hj1' : (t : Int) < (code.length : Int) + 1 := by omega
          clear hne hK4 hAS hmk2 ht hj0
          by_cases htk : t ≤ k
          · have hled : Mk (h.set t true) code.length (Led code (k + 1)) := (HMH.out.set_ t).congr (fun p hp => by
              rw [Led.step HG.out p, HJB.out, HT.out]
              constructor
              · rintro (h1 | h1)
                · exact .inl h1
                · exact .inr ⟨rfl, by omega, by omega⟩
              · rintro (h1 | ⟨_, h1, _⟩)
                · exact .inl h1
                · exact .inr (by omega))
            have HLED := Aside0.mk hled
            have HAH := Aside0.mk (HAS.out.setH t)
            have htk' : (t : Int) ≤ (k : Int) := by omega
            clear hled
            go_wp2_with (fail)
            go_roundw
            case measure => simp [intOf]; omega
            case rel => exact ⟨k + 1, _, _, hlt, by first | rfl | go_num, HAH.out, HM2.out, HLED.out⟩
          · have hled : Mk h code.length (Led code (k + 1)) := HMH.out.congr (fun p hp => by
              rw [Led.step HG.out p, HJB.out, HT.out]
              constructor
              · exact .inl
              · rintro (h1 | ⟨_, h1, h2⟩)
                · exact h1
                · omega)
            have HLED := Aside0.mk hled
            have htk' : (k : Int) < (t : Int) := by omega
            clear hled
            go_wp2_with (fail)
            go_roundw
            case measure => simp [intOf]; omega
            case rel => exact ⟨k + 1, _, _, hlt, by first | rfl | go_num, HAS.out, HM2.out, HLED.out⟩
        | false =>
          have hmk2 : Mk s' (code.length + 1) (Why code (k + 1)) := HSt.out _ (HS'.out.congr (fun p hp => by rw [HJB.out]; simp))
          have hled : Mk h code.length (Led code (k + 1)) := HMH.out.congr (fun p hp => by
            rw [Led.step HG.out p, HJB.out]; simp)
          have HM2 := Aside0.mk hmk2
          have HLED := Aside0.mk hled
          clear hmk2 hled
          go_wp2_with (fail)
          go_roundw
          case measure => simp [intOf]; omega
          case rel => exact ⟨k + 1, _, _, hlt, by first | rfl | go_num, HA3.out, HM2.out, HLED.out⟩
    · have hkn : k = code.length := by omega
      subst hkn
      have f4 := cell_blk hA.fb HKF.out.2.2.2.2
      have HMH2 := Aside0.mk hH
      clear hA hS hH HMH hlt
      go_wp2_with (fail)
      clear f4
      revert HA HMS
      generalize wr = W1
      intro HA HMS
      go_loopw [69] (fun i wr => ∃ (j : Nat) (s : List Bool), j ≤ hs.length ∧ i = .int .i64 (j : Int) ∧ AS w wr code.length gs gh cf s h ∧ Mk s (code.length + 1) (fun p => Why code code.length p ∨ ∃ (q : Nat) (x : S49), q < j ∧ hs[q]? = some x ∧ x.f2 = (p : Int))) (fun i _ => ((hs.length : Int) - intOf i).toNat)
      case atStart => exact ⟨0, s, Nat.zero_le _, rfl, HA.out, HMS.out.congr (fun p hp => ⟨.inl, fun h => h.elim id (fun ⟨q, x, hq, _⟩ => absurd hq (by omega))⟩)⟩
      case round =>
        clear HA HMS
        obtain ⟨j, s, hj, rfl, hA, hS⟩ := hrel
        have HA := Aside0.mk hA
        have HMS := Aside0.mk hS
        by_cases hlj : j < hs.length
        · have hHw := Kd.C_below HH.out hA.below
          obtain ⟨ah, rfl, hh0, hh1, hh2, hh3⟩ := at_T49 hHw (j : Int) (by omega) (by omega)
          rw [Int.toNat_natCast] at hh0 hh1 hh2 hh3
          obtain ⟨x, hx⟩ : ∃ x, rd_T49 hs (j : Int) = x := ⟨_, rfl⟩
          rw [hx] at hh0 hh1 hh2 hh3
          have hget : hs[j]? = some x := by
            rw [← hx, List.getElem?_eq_getElem hlj]
            simp [rd_T49, hlj]
          obtain ⟨-, -, -, hx0, hx1⟩ := HF.out.hnd x (List.mem_of_getElem? hget)
          obtain ⟨t, ht⟩ : ∃ t : Nat, x.f2 = (t : Int) := ⟨x.f2.toNat, by omega⟩
          rw [ht] at hh2 hx1
          have htn : t < code.length := by omega
          have hji : (j : Int) < (hs.length : Int) := by omega
          have h0j : (0 : Int) ≤ (j : Int) := by omega
          have hjn : j < 9223372036854775807 := by omega
          have hx1' : (t : Int) < (code.length : Int) + 1 := by omega
          have hA2 := HA.out.from_ (below_alloc (Below.refl _ wr) (.cells #[.int .i64 x.f0, .int .i64 x.f1, .int .i64 (t : Int), .int .i64 x.f3] 49))
          have hc := mark_cell hA2.st HMS.out.1 t (by omega)
          have hf := hA2.st.frozenAt t
          have HAS := Aside0.mk (hA2.setS t)
          have hmk2 : Mk (s.set t true) (code.length + 1) (fun p => Why code code.length p ∨ ∃ (q : Nat) (x : S49), q < j + 1 ∧ hs[q]? = some x ∧ x.f2 = (p : Int)) := (HMS.out.set_ t).congr (fun p hp => by
            constructor
            · rintro ((h1 | ⟨q, y, hq, hy, hw⟩) | h1)
              · exact .inl h1
              · exact .inr ⟨q, y, by omega, hy, hw⟩
              · exact .inr ⟨j, x, by omega, hget, by rw [ht, h1]⟩
            · rintro (h1 | ⟨q, y, hq, hy, hw⟩)
              · exact .inl (.inl h1)
              · by_cases hqj : q = j
                · subst hqj
                  rw [hget] at hy
                  cases hy
                  exact .inr (by omega)
                · exact .inl (.inr ⟨q, y, by omega, hy, hw⟩))
          have HM2 := Aside0.mk hmk2
          clear hA hS hHw hx hget ht hA2 hmk2 hx0
          go_wp2_with (fail)
          go_roundw
          case measure => simp [intOf]; omega
          case rel => exact ⟨j + 1, _, hlj, by first | rfl | go_num, HAS.out, HM2.out⟩
        · have hjn : j = hs.length := by omega
          subst hjn
          have HWHY : Aside0 (Mk s (code.length + 1) (fun p => Why code code.length p ∨ ∃ x ∈ hs, x.f2 = (p : Int))) := ⟨hS.congr (fun p hp => or_congr Iff.rfl ⟨fun ⟨q, x, hq, hx, hw⟩ => ⟨x, List.mem_of_getElem? hx, hw⟩, fun ⟨x, hx, hw⟩ => by
            obtain ⟨q, hq, e⟩ := List.getElem_of_mem hx
            exact ⟨q, x, hq, by rw [List.getElem?_eq_getElem hq, e], hw⟩⟩)⟩
          have f3 := cell_blk hA.fb HKF.out.2.2.2.1
          have hcl1 : (code.length : Int) ≤ (code.length : Int) + 1 := by omega
          clear hA hS HMS hlj
          go_wp2_with (fail)
          clear f3
          have hsl : (s.take code.length).length = code.length := by rw [List.length_take, HWHY.out.1]; omega
          have hpl1 := graph_places.calls ((s.take code.length).length + 1) (some ⟨gs, 0, none⟩) (code.length + 1) (s.take code.length) _ wr (Kd.C_take (bool_C HA.out.st HWHY.out.1) (by rw [HWHY.out.1]; omega)) (by omega) (places_all _ (by omega))
          rw [hsl] at hpl1
          have HSTA := Aside0.mk (starts_of (idxs_take HWHY.out (Nat.le_succ code.length)) (.inl (.inl rfl)) hpos)
          obtain ⟨st, hst⟩ : ∃ st, idxs (s.take code.length) = st := ⟨_, rfl⟩
          rw [hst] at hpl1 HSTA
          refine hpl1.mono ?_
          rintro e w9 ⟨v0, rfl, hr0, hb9⟩
          have ho0 : w9.ownsRow wr.heap.size 3 1 v0 st.length (st.map (Value.int .i64)) := Kd.own_of_R hr0
          obtain ⟨As, cs, rfl⟩ := row_slice ho0
          have HO0 := Aside0.mk ho0
          have HB9 := Aside0.mk hb9
          clear hpl1 hsl hst hr0 ho0 hb9
          go_wp2_with (fail)
          have hhl : h.length = code.length := HMH2.out.1
          have hpl2 := graph_places.calls (h.length + 1) (some ⟨gh, 0, none⟩) code.length h _ w9 (Kd.C_below (bool_C HA.out.hd HMH2.out.1) HB9.out) (by omega) (places_all _ (by omega))
          rw [hhl] at hpl2
          obtain ⟨hdl, hhd⟩ : ∃ hdl, idxs h = hdl := ⟨_, rfl⟩
          have HHD := Aside0.mk hhd
          rw [hhd] at hpl2
          refine hpl2.mono ?_
          rintro e w10 ⟨v4, rfl, hr4, hb10⟩
          have ho4 : w10.ownsRow w9.heap.size 3 1 v4 hdl.length (hdl.map (Value.int .i64)) := Kd.own_of_R hr4
          obtain ⟨Ah, ch, rfl⟩ := row_slice ho4
          have HO4 := Aside0.mk ho4
          have HB10 := Aside0.mk hb10
          clear hpl2 hhl hhd hr4 ho4 hb10
          go_upto_region 23 with (fail)
          have hA10 := (HA.out.from_ HB9.out).from_ HB10.out
          have hBS : BS w (w10.alloc (.cells #[.slice As st.length cs, .slice none 0 0, .slice none 0 0, .slice none 0 0, .slice Ah hdl.length ch] 29)) w10.heap.size cf #[.slice As st.length cs, .slice none 0 0, .slice none 0 0, .slice none 0 0, .slice Ah hdl.length ch] := by
            have hh := below_alloc (Below.refl _ w10) (.cells #[.slice As st.length cs, .slice none 0 0, .slice none 0 0, .slice none 0 0, .slice Ah hdl.length ch] 29)
            refine ⟨blk_below hA10.fb hh, blk_below hA10.rb hh, World.alloc_heap_new w10 _, below_alloc hA10.below _, ?_⟩
            have := hA10.gs_
            have hlt2 : gs < w10.heap.size := own_lt hA10.st gs rfl
            omega
          have HBG := Aside0.mk (below_alloc (Below.refl _ w10) (.cells #[.slice As st.length cs, .slice none 0 0, .slice none 0 0, .slice none 0 0, .slice Ah hdl.length ch] 29))
          obtain ⟨GB, hGB⟩ : ∃ GB, w10.heap.size = GB := ⟨_, rfl⟩
          rw [hGB] at hBS ⊢
          revert HBG hBS
          generalize w10.alloc (.cells #[.slice As st.length cs, .slice none 0 0, .slice none 0 0, .slice none 0 0, .slice Ah hdl.length ch] 29) = w11
          intro HBG hBS
          have HGB := Aside0.mk hGB
          have f0 := cell_blk hBS.fb HKF.out.1
          have f1 := cell_blk hBS.fb HKF.out.2.1
          have f2 := cell_blk hBS.fb HKF.out.2.2.1
          have f3 := cell_blk hBS.fb HKF.out.2.2.2.1
          have f4 := cell_blk hBS.fb HKF.out.2.2.2.2
          have g0 := cell_blk hBS.gb (i := 0) rfl
          have g1 := cell_blk hBS.gb (i := 1) rfl
          have g2 := cell_blk hBS.gb (i := 2) rfl
          have g3 := cell_blk hBS.gb (i := 3) rfl
          have g4 := cell_blk hBS.gb (i := 4) rfl
          have HBS := Aside0.mk hBS
          have hsh := HSTA.out.short
          clear hA10 hBS hGB
          go_wp2_with (fail)
          have hCs : (Kd.int .i64).C w11 As st.length st := Kd.C_below (Kd.C_below (row_C HO0.out).1 HB10.out) HBG.out
          refine (next_calls nm pa lo A3 A4 As none none none Ah c3 c4 cs 0 0 0 ch 0 0 0 hdl.length code hs st w11 (Kd.C_below HC.out HBS.out.below) (Kd.C_below HH.out HBS.out.below) hCs HSTA.out.sts (by omega) hh (by omega)).mono ?_
          rintro e w12 ⟨ga, vs, rfl, hG12, hb12⟩
          have HG12 := Aside0.mk hG12
          have HB12 := Aside0.mk hb12
          have hBS12 := HBS.out.from_ hb12
          have g1' := cell_blk hBS12.gb (i := 1) rfl
          have fz1 : w12.frozen? ⟨GB, 1, none⟩ = false := by simp [World.frozen?, hBS12.gb]
          have HBS13 := Aside0.mk (hBS12.set 1 (.slice (some ⟨ga, 0, none⟩) st.length st.length))
          clear f0 f1 f2 f3 f4 g0 g1 g2 g3 g4 hCs hG12 hb12 hBS12
          go_upto_region 24 with (fail)
          have hgb11 : GB < w11.heap.size := blk_lt HBS.out.gb
          have hG13 : Grid (w12.setCell ⟨GB, 1, none⟩ (.slice (some ⟨ga, 0, none⟩) st.length st.length)) w11.heap.size ga st.length vs (nextOf code hs st) := HG12.out.far (p := ⟨GB, 1, none⟩) hgb11 _
          have hnl : (nextOf code hs st).length = st.length := by simp [nextOf]
          have hwf := HSTA.out.wf (hs := hs) HF.out
          have hnd := nextOf_nodup (code := code) (st := st) hs
          have HK13 := Aside0.mk ((Range.KBut.refl w12.heap.size GB w12).set 1 (.slice (some ⟨ga, 0, none⟩) st.length st.length))
          have HKB13 := Aside0.mk (show Below GB w12 (w12.setCell ⟨GB, 1, none⟩ (.slice (some ⟨ga, 0, none⟩) st.length st.length)) from (Below.refl _ _).setCell (p := ⟨GB, 1, none⟩) (Nat.le_refl _) _)
          have HGL := Aside0.mk hgb11
          revert hG13 HBS13 HK13 HKB13
          generalize w12.setCell ⟨GB, 1, none⟩ (.slice (some ⟨ga, 0, none⟩) st.length st.length) = w13
          intro HBS13 hG13 HK13 HKB13
          obtain ⟨nx, hnx⟩ : ∃ nx, nextOf code hs st = nx := ⟨_, rfl⟩
          rw [hnx] at hG13 hnl hwf hnd HG12
          have HNX := Aside0.mk hnx
          have HG13 := Aside0.mk hG13
          have HWF := Aside0.mk hwf
          have HND := Aside0.mk hnd
          have hpo := postorder_calls (some ⟨ga, 0, none⟩) st.length nx w13 (hG13.C (by omega)) hwf (by omega)
          rw [hnl] at hpo
          have HNL := Aside0.mk hnl
          have g1 := cell_blk HBS13.out.gb (i := 1) rfl
          clear hnx hG13 hwf hnd hnl fz1 hgb11 g1'
          go_wp2_with (fail)
          refine hpo.mono ?_
          rintro e w14 ⟨vp, rfl, hrp, hb14⟩
          have hop : w14.ownsRow w13.heap.size 3 1 vp (post nx).length ((post nx).map (Value.int .i64)) := Kd.own_of_R hrp
          obtain ⟨Ap, cp, rfl⟩ := row_slice hop
          have HOP := Aside0.mk hop
          have HB14 := Aside0.mk hb14
          have hBS14 := HBS13.out.from_ hb14
          have g1 := cell_blk hBS14.gb (i := 1) rfl
          have HBS14 := Aside0.mk hBS14
          have hdo := dominators_calls (some ⟨ga, 0, none⟩) Ap st.length cp nx w14 ((HG13.out.from_ hb14 (Nat.le_refl _)).C (by omega)) (row_C hop).1 HWF.out HND.out (by have := HNL.out; omega)
          rw [HNL.out] at hdo
          clear hpo hrp hop hb14 hBS14
          go_wp2_with (fail)
          refine hdo.mono ?_
          rintro e w15 ⟨vd, l, rfl, hrd, hdom, hb15⟩
          have hod : w15.ownsRow w14.heap.size 3 1 vd l.length (l.map (Value.int .i64)) := Kd.own_of_R hrd
          obtain ⟨Ad, cd, rfl⟩ := row_slice hod
          have HOD := Aside0.mk hod
          have HDOM := Aside0.mk hdom
          have HB15 := Aside0.mk hb15
          have hBS15 := HBS14.out.from_ hb15
          have g3 := cell_blk hBS15.gb (i := 3) rfl
          have fz3 : w15.frozen? ⟨GB, 3, none⟩ = false := by simp [World.frozen?, hBS15.gb]
          have HBS16 := Aside0.mk (hBS15.set 3 (.slice Ad l.length cd))
          clear hdo hrd hod hdom hb15 hBS15 g1
          go_upto_region 26 with (fail)
          have hk16 : Range.KBut w15.heap.size GB w15 (w15.setCell ⟨GB, 3, none⟩ (.slice Ad l.length cd)) := (Range.KBut.refl w15.heap.size GB w15).set 3 _
          have hgc : ((#[.slice As st.length cs, .slice none 0 0, .slice none 0 0, .slice none 0 0, .slice Ah hdl.length ch] : Array Value).setIfInBounds 1 (.slice (some ⟨ga, 0, none⟩) st.length st.length)).setIfInBounds 3 (.slice Ad l.length cd) = #[.slice As st.length cs, .slice (some ⟨ga, 0, none⟩) st.length st.length, .slice none 0 0, .slice Ad l.length cd, .slice Ah hdl.length ch] := rfl
          rw [hgc] at HBS16
          have hsz16 : w15.heap.size = (w15.setCell ⟨GB, 3, none⟩ (.slice Ad l.length cd)).heap.size := by simp
          revert HBS16 hk16 hsz16
          generalize w15.setCell ⟨GB, 3, none⟩ (.slice Ad l.length cd) = w16
          intro HBS16 hk16 hsz16
          have HK16 := Aside0.mk hk16
          have HSZ16 := Aside0.mk hsz16
          have g0 := cell_blk HBS16.out.gb (i := 0) rfl
          have hsh := HSTA.out.short
          have HSH := Aside0.mk hsh
          obtain ⟨i4, hi4, hz40, hz41, hz42⟩ := info_parts info4
          clear hgc hk16 hsz16 g3 fz3
          go_upto_region 27 with (first | (at_make; refine wpList_make_full _ rfl _ _ 53 rfl w16.heap.size 4 i4 (.bool false) 1 Try.underlying53 hi4 hz40 hz41 _ _ _ _ st.length rfl rfl rfl rfl (by rw [hz42]; omega) (by unfold maxLen; omega) (Nat.le_refl _) ?_; intro w17 hown17 hgrow17) | go_in)
          have hmk : (madeCells (Value.bool false).cells (st.length * 1)).toList = (List.replicate st.length false).map Value.bool := by
            rw [Nat.mul_one, show (Value.bool false).cells = #[.bool false] from rfl, toList_madeCells_one]; simp
          rw [hmk] at hown17
          obtain ⟨gr, hgr⟩ : ∃ gr, w16.heap.size = gr := ⟨_, rfl⟩
          obtain ⟨GR, hGR⟩ : ∃ GR, w17.heap.size = GR := ⟨_, rfl⟩
          have hb17 : Below w16.heap.size w16 w17 := (Below.refl _ w16).grown hgrow17 (Nat.le_refl _) (fun j e => by cases e)
          have hgrl : gr < w17.heap.size := by rw [← hgr]; exact own_lt hown17 _ rfl
          have hBS18 := (HBS16.out.from_ hb17).from_ (below_alloc (Below.refl _ w17) (.cells #[.slice (some ⟨gr, 0, none⟩) st.length st.length] 53))
          have hbx18 : Boxed (w17.alloc (.cells #[.slice (some ⟨gr, 0, none⟩) st.length st.length] 53)) GR 53 (.slice (some ⟨gr, 0, none⟩) st.length st.length) := by rw [← hGR]; exact Boxed.new w17 53 _
          have hown18 := World.ownsRow.alloc hown17 (.cells #[.slice (some ⟨gr, 0, none⟩) st.length st.length] 53)
          have hsz18 : (w17.alloc (.cells #[.slice (some ⟨gr, 0, none⟩) st.length st.length] 53)).heap.size = GR + 1 := by simp [hGR]
          have hb18 : Below w16.heap.size w16 (w17.alloc (.cells #[.slice (some ⟨gr, 0, none⟩) st.length st.length] 53)) := hb17.trans ((below_alloc (Below.refl _ w17) _).mono hb17.size)
          rw [hGR]
          rw [hgr] at hown18 hown17 ⊢
          revert hBS18 hbx18 hown18 hsz18 hb18
          generalize w17.alloc (.cells #[.slice (some ⟨gr, 0, none⟩) st.length st.length] 53) = w18
          intro hBS18 hbx18 hown18 hsz18 hb18
          have hgbgr : GB < gr := by rw [← hgr]; exact blk_lt HBS16.out.gb
          have HLT := Aside0.mk (show GB < gr ∧ gr < GR ∧ w18.heap.size = GR + 1 from ⟨hgbgr, by omega, hsz18⟩)
          have HB18 := Aside0.mk hb18
          have HBS18 := Aside0.mk hBS18
          have HBX18 := Aside0.mk hbx18
          have HOW18 := Aside0.mk hown18
          have hgb13 : GB < w13.heap.size := by have := HGL.out; have := HB12.out.size; have := HKB13.out.size; omega
          have hopb : ∀ k, (Value.slice Ap (post nx).length cp).ownBlock = some k → GB < k ∧ k < gr := fun k hk => by
            have h1 := own_base HOP.out k hk
            have h2 := own_lt HOP.out k hk
            have h3 := HB15.out.size
            have h4 := HSZ16.out
            omega
          have hop16 : w16.ownsRow w13.heap.size 3 1 (.slice Ap (post nx).length cp) (post nx).length ((post nx).map (Value.int .i64)) := own_move HOP.out fun k hk => by
            have h2 := own_lt HOP.out k hk
            rw [HK16.out.2 k (by have := HB15.out.size; omega) (by have := (hopb k hk).1; omega)]
            exact HB15.out.block k h2
          have HOPB := Aside0.mk hopb
          have HOP16 := Aside0.mk hop16
          have HGR := Aside0.mk hgr
          clear hBS18 hbx18 hown18 hsz18 hb18 hgbgr hb17 hgrl hgrow17 hown17 hmk hi4 hz40 hz41 hz42 i4 g0 hgr hGR hgb13 hopb hop16
          go_wp2_with (fail)
          refine (backward_calls Ap cp (post nx) w18).mono ?_
          rintro e w19 ⟨rfl, rfl⟩
          have hbb := below_alloc (Below.refl _ w18) (.cells #[.slice Ap (post nx).length cp] 26)
          have hbk : Boxed (w18.alloc (.cells #[.slice Ap (post nx).length cp] 26)) (GR + 1) 26 (.slice Ap (post nx).length cp) := by rw [← HLT.out.2.2]; exact Boxed.new w18 26 _
          have hsz19 : (w18.alloc (.cells #[.slice Ap (post nx).length cp] 26)).heap.size = GR + 2 := by simp [HLT.out.2.2]
          have hBS19 := HBS18.out.from_ hbb
          have hbx19 := blk_below HBX18.out hbb
          have hm19 := own_move HOW18.out (w1 := w18.alloc (.cells #[.slice Ap (post nx).length cp] 26)) fun k hk => hbb.block k (own_lt HOW18.out k hk)
          have hop19 := own_move HOP16.out (w1 := w18.alloc (.cells #[.slice Ap (post nx).length cp] 26)) fun k hk => (hbb.block k (by have := own_lt HOP16.out k hk; have := HB18.out.size; omega)).trans (HB18.out.block k (own_lt HOP16.out k hk))
          rw [HLT.out.2.2]
          revert hbb hbk hsz19 hBS19 hbx19 hm19 hop19
          generalize w18.alloc (.cells #[.slice Ap (post nx).length cp] 26) = w19
          intro hbb hbk hsz19 hBS19 hbx19 hm19 hop19
          have HBB := Aside0.mk hbb
          have HBK := Aside0.mk hbk
          have HS19 := Aside0.mk hsz19
          have HBX := Aside0.mk hbx19
          have HOP19 := Aside0.mk hop19
          have HI0 : Aside0 (OI w w19 w19 GB gr st.length cf (.slice As st.length cs) (.slice (some ⟨ga, 0, none⟩) st.length st.length) (.slice Ad l.length cd) (.slice Ah hdl.length ch) (.slice none 0 0) (List.replicate st.length false) []) := ⟨⟨hBS19, World.ownsRow_nil _ _ _ _, hm19, K2.refl _ _ _ _⟩⟩
          clear hbb hbk hsz19 hBS19 hbx19 hm19 hop19
          go_wp2_with (fail)
          have hplen := post_length nx HWF.out
          have hltA := HLT.out
          have hszA := HS19.out
          have hbel := HI0.out.bs.below
          have hwlo := HI0.out.bs.lo
          refine (wpIn_wide (n := 10)).1 ?_
          refine range12B (K2 w19.heap.size GB gr) K2.trans (K2.refl _ _ _) (by decide) rfl (enters_of Try.func67 (by kernel_rfl) rfl) (by simp) (by simp) (by decide) (rd (post nx))
            (downs_stops Fence.wide 9 trivial rfl (by decide) (GR + 1) (K2 w19.heap.size GB gr) K2.trans Ap cp (post nx) (by have := HNL.out; omega) w19 (fun W' h => ⟨h.blk HBK.out (by omega) (by omega) (by omega), (row_C (own_move HOP19.out (w1 := W') fun k hk => h.2 k (own_lt HOP19.out k hk) (by have := (HOPB.out k hk).1; omega) (by have := (HOPB.out k hk).2; omega))).1⟩) w19 (K2.refl _ _ _ _) (fun h => K2.of_below h))
            (fun W' l' o o' hl' h hc hw' => K2.put (Nat.le_refl _) W' l' o o' hl' h hc hw') (Below.refl _ _)
            (fun pre W' => ∃ v2 marks, OI w w19 W' GB gr st.length cf (.slice As st.length cs) (.slice (some ⟨ga, 0, none⟩) st.length st.length) (.slice Ad l.length cd) (.slice Ah hdl.length ch) v2 marks (pre.map (rd (post nx))) ∧ Mk marks st.length (fun p => (p : Int) ∈ pre.map (rd (post nx))))
            (OI.ownF (Nat.le_refl _) hbel.size (fun pre : List Int => pre.map (rd (post nx))) (fun pre marks => Mk marks st.length (fun p => (p : Int) ∈ pre.map (rd (post nx)))))
            ⟨_, _, HI0.out, (Mk.none_ _).congr (fun p hp => by simp)⟩ ?body ?done
          case body =>
            rintro lp pre x W hlp ⟨r, hr⟩ ⟨v2, marks, hO, hM⟩ hplt
            simp only [List.setIfInBounds_toArray, List.set_cons_succ, List.set_cons_zero]
            obtain ⟨b, hb⟩ : ∃ b, rd (post nx) x = b := ⟨_, rfl⟩
            obtain ⟨ordl, hol⟩ : ∃ ordl, pre.map (rd (post nx)) = ordl := ⟨_, rfl⟩
            have hoL : ordl.length = pre.length := by rw [← hol, List.length_map]
            have HOX := Aside0.mk (show (pre ++ [x]).map (rd (post nx)) = ordl ++ [b] by rw [List.map_append, hol]; simp [hb])
            rw [hol] at hO hM
            rw [hb]
            have hbd : 0 ≤ b ∧ b < (st.length : Int) := by
              rw [← hb]
              unfold rd
              rw [List.getD_eq_getElem?_getD]
              have hs0 := HSTA.out.len
              cases hg : (post nx)[x.toNat]? with
              | none => exact ⟨Int.le_refl _, by simp; omega⟩
              | some y =>
                have := post_bound nx HWF.out (List.mem_of_getElem? hg)
                rw [HNL.out] at this
                exact this
            obtain ⟨hb0, hb1⟩ := hbd
            have hWs : w19.heap.size ≤ W.heap.size := hO.k2.1.size
            have hlenA : ordl.length < 8796093022208 := by rw [hoL]; have := HNL.out; have := HSH.out; omega
            obtain ⟨A2, c2, rfl⟩ := row_slice hO.ord
            have HOO := Aside0.mk hO
            have HMM := Aside0.mk hM
            have g2 := cell_blk hO.bs.gb (i := 2) rfl
            obtain ⟨i3, hi3, hz30, hz31, hz32⟩ := info_parts info3
            have HI := Aside0.mk hi3
            have HZ0 := Aside0.mk hz30
            have HZ1 := Aside0.mk hz31
            have HZ2 := Aside0.mk hz32
            have HLA := Aside0.mk hlenA
            have HWS := Aside0.mk hWs
            clear hO hM hb hol hoL hi3 hz30 hz31 hz32 hlenA hWs hplen hltA hszA hbel hwlo
            gi_wp2_with (first | (gi_at_builtin; refine wpListIn_append_own _ rfl _ _ 26 rfl w19.heap.size 3 i3 (.int .i64 0) 1 8 Try.underlying26 HI.out HZ0.out HZ1.out HZ2.out rfl (by decide) _ _ _ rfl (HOO.out.ord.alloc _) ⟨W.heap.size, 0, none⟩ 1 1 [.int .i64 b] rfl rfl (cell_one_new _ _ _) (by simp [Value.oneCell']) (by have := HLA.out; unfold maxLen; omega) (by have := HLA.out; omega) (by rw [World.size_alloc]; have := HWS.out; omega) ?_; intro v9 w9 hown9 hgrow9 _; refine Classical.byContradiction (fun hcon => ?hst)))
            refine hcon ?_
            have hgW : W.grownBy w9 (Value.slice A2 ordl.length c2).ownBlock := (World.grownBy_alloc W _ _).trans hgrow9
            have hlo2 : ∀ k, (Value.slice A2 ordl.length c2).ownBlock = some k → w19.heap.size ≤ k := fun k hk => own_base HOO.out.ord k hk
            have hown' : w9.ownsRow w19.heap.size 3 1 v9 (ordl ++ [b]).length ((ordl ++ [b]).map (Value.int .i64)) := by
              rw [List.length_append, List.map_append]; exact hown9
            have hgb9 : w9.heap[GB]? = _ := (hgW.block GB (blk_lt HOO.out.bs.gb) (fun e => by have := hlo2 GB e.symm; have := HLT.out; have := HS19.out; omega)).trans HOO.out.bs.gb
            have g2' := cell_blk hgb9 (i := 2) rfl
            have fz2 : w9.frozen? ⟨GB, 2, none⟩ = false := by simp [World.frozen?, hgb9]
            have hO2 := HOO.out.more HLT.out.1 (by have := HLT.out; have := HS19.out; omega) HWS.out hown' hgW
            have HKF := Aside0.mk (show KeepsFrom w19.heap.size W w9 from ⟨hgW.size, fun k o _ hk ho => (hgW.block k (blk_lt hk) (fun e => by
              obtain ⟨cells, hc⟩ := own_typed HOO.out.ord k e.symm
              rw [hc] at hk
              cases hk
              cases ho)).trans hk⟩)
            have HKK := Aside0.mk (show K2 w19.heap.size GB gr W w9 from ⟨(Below.refl 0 W).grown hgW (Nat.zero_le _) (fun _ _ => Nat.zero_le _), fun k hk _ _ => hgW.block k (by have := HWS.out; omega) (fun e => by have := hlo2 k e.symm; omega)⟩)
            obtain ⟨A9, c9, rfl⟩ := row_slice hown9
            have HO2 := Aside0.mk hO2
            clear hgW hlo2 hown' hown9 hgrow9 hgb9 hO2 g2
            have kR := Boxed.cell (HO2.out.k2.blk HBX.out (by have := HLT.out; have := HS19.out; omega) (by have := HLT.out; omega) (by have := HLT.out; omega))
            have cm := mark_cell HO2.out.mks HMM.out.1 b.toNat (by omega)
            have fm := HO2.out.mks.frozenAt b.toNat
            gi_wp2_with (fail)
            refine ⟨(HKF.out.trans ((KeepsOthers.setCell _ _ _).from _)).trans ((KeepsOthers.setCell _ _ _).from _), (HKK.out.set _ _).set' _ _, _, _, by rw [HOX.out]; exact HO2.out.mark HLT.out.1 (by have := HLT.out; have := HS19.out; omega) b.toNat, ?_⟩
            refine (HMM.out.set_ b.toNat).congr (fun p hp => ?_)
            rw [HOX.out, List.mem_append, List.mem_singleton]
            exact or_congr Iff.rfl (by omega)
          case done =>
            rintro D xs W hDd rfl ⟨v2, marks, hO, hM⟩ hK
            rw [downs_all] at hO hM
            have hM' : Mk marks st.length (fun p => (p : Int) ∈ post nx) := hM.congr (fun p hp => by rw [List.mem_reverse])
            have kR := Boxed.cell (hO.k2.blk HBX.out (by omega) (by omega) (by omega))
            have HO := Aside0.mk hO
            have HM := Aside0.mk hM'
            have HK := Aside0.mk hK
            have HDD := Aside0.mk hDd
            have hmlen : marks.length = st.length := hM.1
            have HML := Aside0.mk hmlen
            clear hO hM hM' hK hmlen hplen hltA hszA hbel hwlo
            go_wp2_with (fail)
            clear kR
            go_loopw [118] (fun i wr => ∃ (j : Nat) (v2 : Value), j ≤ st.length ∧ i = .int .i64 (j : Int) ∧ OI w w19 wr GB gr st.length cf (.slice As st.length cs) (.slice (some ⟨ga, 0, none⟩) st.length st.length) (.slice Ad l.length cd) (.slice Ah hdl.length ch) v2 marks ((post nx).reverse ++ unr nx j) ∧ wr.heap[D]? = some (.deferred (some []))) (fun i _ => ((st.length : Int) - intOf i).toNat)
            case atStart => exact ⟨0, v2, Nat.zero_le _, rfl, by simpa [unr] using HO.out, HK.out⟩
            case round =>
              clear HO HK
              obtain ⟨j, v2, hj, rfl, hO, hK⟩ := hrel
              have HO := Aside0.mk hO
              have HK := Aside0.mk hK
              by_cases hlt : j < st.length
              · have cm := mark_cell hO.mks HML.out j hlt
                have hmj := HM.out.2 j hlt
                have hji : (j : Int) < (st.length : Int) := by omega
                have h0j : (0 : Int) ≤ (j : Int) := by omega
                have hjn : j < 9223372036854775807 := by have := HSH.out; omega
                have hus := unr_succ nx j
                by_cases hin : (j : Int) ∈ post nx
                · rw [hmj.2 hin] at cm
                  rw [if_pos hin, List.append_nil] at hus
                  have HUS := Aside0.mk hus
                  clear hO hK hmj hin hus
                  go_wp2_with (fail)
                  go_roundw
                  case measure => simp [intOf]; omega
                  case rel => exact ⟨j + 1, _, hlt, by first | rfl | go_num, by rw [HUS.out]; exact HO.out, HK.out⟩
                · have hmf : marks.getD j false = false := by
                    cases hc : marks.getD j false with
                    | false => rfl
                    | true => exact absurd (hmj.1 hc) hin
                  rw [hmf] at cm
                  rw [if_neg hin] at hus
                  have HUS := Aside0.mk hus
                  obtain ⟨ordl, hol⟩ : ∃ ordl, (post nx).reverse ++ unr nx j = ordl := ⟨_, rfl⟩
                  have hlenA : ordl.length < 17592186044416 := by
                    rw [← hol, List.length_append, List.length_reverse]
                    have := unr_length nx j
                    have := post_length nx HWF.out
                    have := HNL.out
                    have := HSH.out
                    omega
                  have HOL := Aside0.mk hol
                  rw [hol] at HO hO
                  obtain ⟨A2, c2, rfl⟩ := row_slice hO.ord
                  have g2 := cell_blk hO.bs.gb (i := 2) rfl
                  obtain ⟨i3, hi3, hz30, hz31, hz32⟩ := info_parts info3
                  have HI := Aside0.mk hi3
                  have HZ0 := Aside0.mk hz30
                  have HZ1 := Aside0.mk hz31
                  have HZ2 := Aside0.mk hz32
                  have HLA := Aside0.mk hlenA
                  have HWS := Aside0.mk (show w19.heap.size ≤ wr.heap.size from hO.k2.1.size)
                  clear hO hK hmj hin hus hmf hol hlenA hi3 hz30 hz31 hz32
                  go_wp2_with (first | (at_builtin; refine wpList_append_own _ rfl _ _ 26 rfl w19.heap.size 3 i3 (.int .i64 0) 1 8 Try.underlying26 HI.out HZ0.out HZ1.out HZ2.out rfl (by decide) _ _ _ rfl (HO.out.ord.alloc _) ⟨wr.heap.size, 0, none⟩ 1 1 [.int .i64 (j : Int)] rfl rfl (cell_one_new _ _ _) (by simp [Value.oneCell']) (by have := HLA.out; unfold maxLen; omega) (by have := HLA.out; omega) (by rw [World.size_alloc]; have := HWS.out; omega) ?_; intro v9 w9 hown9 hgrow9 _; refine Classical.byContradiction (fun hcon => ?hst2)))
                  refine hcon ?_
                  have hgW : wr.grownBy w9 (Value.slice A2 ordl.length c2).ownBlock := (World.grownBy_alloc wr _ _).trans hgrow9
                  have hlo2 : ∀ k, (Value.slice A2 ordl.length c2).ownBlock = some k → w19.heap.size ≤ k := fun k hk => own_base HO.out.ord k hk
                  have hown' : w9.ownsRow w19.heap.size 3 1 v9 (ordl ++ [(j : Int)]).length ((ordl ++ [(j : Int)]).map (Value.int .i64)) := by
                    rw [List.length_append, List.map_append]; exact hown9
                  have hgb9 : w9.heap[GB]? = _ := (hgW.block GB (blk_lt HO.out.bs.gb) (fun e => by have := hlo2 GB e.symm; have := HLT.out; have := HS19.out; omega)).trans HO.out.bs.gb
                  have g2' := cell_blk hgb9 (i := 2) rfl
                  have fz2 : w9.frozen? ⟨GB, 2, none⟩ = false := by simp [World.frozen?, hgb9]
                  have HO2 := Aside0.mk (HO.out.more HLT.out.1 (by have := HLT.out; have := HS19.out; omega) HWS.out hown' hgW)
                  have hK9 : w9.heap[D]? = some (.deferred (some [])) := (hgW.block D (blk_lt HK.out) (fun e => by
                    obtain ⟨cells, hc⟩ := own_typed HO.out.ord D e.symm
                    have := HK.out
                    rw [hc] at this
                    cases this)).trans HK.out
                  have HK2 := Aside0.mk (show (w9.setCell ⟨GB, 2, none⟩ v9).heap[D]? = some (.deferred (some [])) from (Below.heap_setCell w9 ⟨GB, 2, none⟩ v9 D (by have := HDD.out; have := HLT.out; have := HS19.out; simp; omega)).trans hK9)
                  obtain ⟨A9, c9, rfl⟩ := row_slice hown9
                  clear hgW hlo2 hown' hown9 hgrow9 hgb9 hK9 g2 cm
                  go_wp2_with (fail)
                  go_roundw
                  case measure => simp [intOf]; omega
                  case rel => exact ⟨j + 1, _, hlt, by first | rfl | go_num, by rw [HUS.out, ← List.append_assoc, HOL.out]; exact HO2.out, HK2.out⟩
              · have hjn : j = st.length := by omega
                subst hjn
                obtain ⟨ordl, hol⟩ : ∃ ordl, (post nx).reverse ++ unr nx st.length = ordl := ⟨_, rfl⟩
                rw [hol] at hO HO
                have HOL := Aside0.mk hol
                clear hol
                obtain ⟨A2, c2, rfl⟩ := row_slice hO.ord
                have q0 := cell_blk hO.bs.gb (i := 0) rfl
                have q1 := cell_blk hO.bs.gb (i := 1) rfl
                have q2 := cell_blk hO.bs.gb (i := 2) rfl
                have q3 := cell_blk hO.bs.gb (i := 3) rfl
                have q4 := cell_blk hO.bs.gb (i := 4) rfl
                have r0 := cell_blk hO.bs.rb (i := 0) rfl
                have r1 := cell_blk hO.bs.rb (i := 1) rfl
                have r2 := cell_blk hO.bs.rb (i := 2) rfl
                have r3 := cell_blk hO.bs.rb (i := 3) rfl
                have r4 := cell_blk hO.bs.rb (i := 4) rfl
                have fzr0 : wr.frozen? ⟨w.heap.size + 1, 0, none⟩ = false := by simp [World.frozen?, hO.bs.rb]
                have fzr1 : wr.frozen? ⟨w.heap.size + 1, 1, none⟩ = false := by simp [World.frozen?, hO.bs.rb]
                have fzr2 : wr.frozen? ⟨w.heap.size + 1, 2, none⟩ = false := by simp [World.frozen?, hO.bs.rb]
                have fzr3 : wr.frozen? ⟨w.heap.size + 1, 3, none⟩ = false := by simp [World.frozen?, hO.bs.rb]
                have fzr4 : wr.frozen? ⟨w.heap.size + 1, 4, none⟩ = false := by simp [World.frozen?, hO.bs.rb]
                have HKD := Aside0.mk hK
                clear hO hK hlt
                go_wp2_with (fail)
                have hw1 := HO.out.bs.lo
                have hL := HLT.out
                have hS := HS19.out
                have hne : ∀ (W : World) (j : Nat) (v : Value) (k : Nat), k ≠ w.heap.size + 1 → (W.setCell ⟨w.heap.size + 1, j, none⟩ v).heap[k]? = W.heap[k]? := fun W j v k hk => Below.heap_setCell W ⟨w.heap.size + 1, j, none⟩ v k hk
                have hfin : ∀ k, k ≠ w.heap.size + 1 → (((((wr.setCell ⟨w.heap.size + 1, 0, none⟩ (.slice As st.length cs)).setCell ⟨w.heap.size + 1, 1, none⟩ (.slice (some ⟨ga, 0, none⟩) st.length st.length)).setCell ⟨w.heap.size + 1, 2, none⟩ (.slice A2 ordl.length c2)).setCell ⟨w.heap.size + 1, 3, none⟩ (.slice Ad l.length cd)).setCell ⟨w.heap.size + 1, 4, none⟩ (.slice Ah hdl.length ch)).heap[k]? = wr.heap[k]? := fun k hk => by
                  rw [hne _ _ _ _ hk, hne _ _ _ _ hk, hne _ _ _ _ hk, hne _ _ _ _ hk, hne _ _ _ _ hk]
                have hrbF := blk_set (j := 4) (v := .slice Ah hdl.length ch) (blk_set (j := 3) (v := .slice Ad l.length cd) (blk_set (j := 2) (v := .slice A2 ordl.length c2) (blk_set (j := 1) (v := .slice (some ⟨ga, 0, none⟩) st.length st.length) (blk_set (j := 0) (v := .slice As st.length cs) HO.out.bs.rb))))
                have hbF : Below w.heap.size w (((((wr.setCell ⟨w.heap.size + 1, 0, none⟩ (.slice As st.length cs)).setCell ⟨w.heap.size + 1, 1, none⟩ (.slice (some ⟨ga, 0, none⟩) st.length st.length)).setCell ⟨w.heap.size + 1, 2, none⟩ (.slice A2 ordl.length c2)).setCell ⟨w.heap.size + 1, 3, none⟩ (.slice Ad l.length cd)).setCell ⟨w.heap.size + 1, 4, none⟩ (.slice Ah hdl.length ch)) := by
                  refine ((((HO.out.bs.below.setCell (p := ⟨w.heap.size + 1, 0, none⟩) ?_ _).setCell (p := ⟨w.heap.size + 1, 1, none⟩) ?_ _).setCell (p := ⟨w.heap.size + 1, 2, none⟩) ?_ _).setCell (p := ⟨w.heap.size + 1, 3, none⟩) ?_ _).setCell (p := ⟨w.heap.size + 1, 4, none⟩) ?_ _ <;> exact Nat.le_succ _
                have hszF : (((((wr.setCell ⟨w.heap.size + 1, 0, none⟩ (.slice As st.length cs)).setCell ⟨w.heap.size + 1, 1, none⟩ (.slice (some ⟨ga, 0, none⟩) st.length st.length)).setCell ⟨w.heap.size + 1, 2, none⟩ (.slice A2 ordl.length c2)).setCell ⟨w.heap.size + 1, 3, none⟩ (.slice Ad l.length cd)).setCell ⟨w.heap.size + 1, 4, none⟩ (.slice Ah hdl.length ch)).heap.size = wr.heap.size := by simp
                revert hfin hrbF hbF hszF
                generalize ((((wr.setCell ⟨w.heap.size + 1, 0, none⟩ (.slice As st.length cs)).setCell ⟨w.heap.size + 1, 1, none⟩ (.slice (some ⟨ga, 0, none⟩) st.length st.length)).setCell ⟨w.heap.size + 1, 2, none⟩ (.slice A2 ordl.length c2)).setCell ⟨w.heap.size + 1, 3, none⟩ (.slice Ad l.length cd)).setCell ⟨w.heap.size + 1, 4, none⟩ (.slice Ah hdl.length ch) = wF
                intro hfin hrbF hbF hszF
                refine leaves_marks (base := w.heap.size) [D] wF ⟨⟨by have := HDD.out; omega, (hfin D (by have := HDD.out; omega)).trans HKD.out, fun D' h => by cases h⟩, trivial⟩ fun W' hB' hc => ?_
                have hgb16 : GB < w13.heap.size := by have := HGL.out; have := HB12.out.size; have := HKB13.out.size; omega
                have hsz15 := HB15.out.size
                have hsz14 := HB14.out.size
                have hsz13 := HKB13.out.size
                have hsz12 := HB12.out.size
                have hszg := HBG.out.size
                have hsz10 := HB10.out.size
                have hgre := HGR.out
                have hs16 := HSZ16.out
                have hgl := HGL.out
                -- from w19 to wF
                have t19 : ∀ k, k < w19.heap.size → k ≠ GB → k ≠ gr → k ≠ w.heap.size + 1 → wF.heap[k]? = w19.heap[k]? := fun k h1 h2 h3 h4 => (hfin k h4).trans (HO.out.k2.2 k h1 h2 h3)
                have t16 : ∀ k, k < w16.heap.size → k ≠ GB → k ≠ w.heap.size + 1 → wF.heap[k]? = w16.heap[k]? := fun k h1 h2 h4 => (t19 k (by have := HB18.out.size; omega) h2 (by omega) h4).trans ((HBB.out.block k (by have := HB18.out.size; omega)).trans (HB18.out.block k h1))
                have t15 : ∀ k, k < w15.heap.size → k ≠ GB → k ≠ w.heap.size + 1 → wF.heap[k]? = w15.heap[k]? := fun k h1 h2 h4 => (t16 k (by omega) h2 h4).trans (HK16.out.2 k h1 h2)
                have t13 : ∀ k, k < w13.heap.size → k ≠ GB → k ≠ w.heap.size + 1 → wF.heap[k]? = w13.heap[k]? := fun k h1 h2 h4 => (t15 k (by omega) h2 h4).trans ((HB15.out.block k (by omega)).trans (HB14.out.block k h1))
                have t12 : ∀ k, k < w12.heap.size → k ≠ GB → k ≠ w.heap.size + 1 → wF.heap[k]? = w12.heap[k]? := fun k h1 h2 h4 => (t13 k (by omega) h2 h4).trans (HK13.out.2 k h1 h2)
                have t10 : ∀ k, k < w10.heap.size → k ≠ w.heap.size + 1 → wF.heap[k]? = w10.heap[k]? := fun k h1 h4 => by
                  have hGe := HGB.out
                  exact (t12 k (by omega) (by omega) h4).trans ((HB12.out.block k (by omega)).trans (HBG.out.block k h1))
                have hA0 := HA.out.gs_
                have hA1 := own_lt HA.out.st gs rfl
                have mv : ∀ {W : World} {base e size n : Nat} {v : Value} {xs : List Value}, W.ownsRow base e size v n xs → (∀ k, v.ownBlock = some k → wF.heap[k]? = W.heap[k]?) → W'.ownsRow base e size v n xs := fun h ht => own_move h fun k hk => by
                  obtain ⟨cells, hcl⟩ := own_typed h k hk
                  exact (hc k _ ((ht k hk).trans hcl) rfl).trans hcl.symm
                have hGe := HGB.out
                have R0 := mv HO0.out (fun k hk => (t10 k (by have := own_lt HO0.out k hk; omega) (by have := own_base HO0.out k hk; omega)).trans (HB10.out.block k (own_lt HO0.out k hk)))
                have R4 := mv HO4.out (fun k hk => t10 k (own_lt HO4.out k hk) (by have := own_base HO4.out k hk; have := HB9.out.size; omega))
                have R3 := mv HOD.out (fun k hk => t15 k (own_lt HOD.out k hk) (by have := own_base HOD.out k hk; omega) (by have := own_base HOD.out k hk; omega))
                have R2 := mv HO.out.ord (fun k hk => hfin k (by have := own_base HO.out.ord k hk; omega))
                have RG := HG12.out.held (W' := W') fun k o h1 h2 h3 => hc k o ((t12 k (blk_lt h2) (by omega) (by omega)).trans h2) h3
                have hb9s := HB9.out.size
                refine ⟨_, results_build rfl _ W' (w.heap.size + 1) _ _ _ _ _ _ _ _ _ _ _ _ _ _ _ _ _ _ _ _ rfl rfl rfl rfl rfl rfl rfl (hc _ _ hrbF rfl), _, _, _, _, _, st, hdl, l, rfl, ⟨HSTA.out, ⟨h, HHD.out.symm, HMH2.out⟩, by rw [HNX.out]; exact HDOM.out, ?_⟩, hbF.trans hB'⟩
                refine ⟨w9.heap.size, w11.heap.size, w12.heap.size, w14.heap.size, w19.heap.size, ga, vs, by omega, by omega, by omega, by omega, by have := HB18.out.size; omega, by have := HO.out.k2.1.size; have := hB'.size; omega, ⟨own_weaken R0 (by omega), fun k hk => own_lt HO0.out k hk⟩, ⟨R4, fun k hk => by have := own_lt HO4.out k hk; omega⟩, ⟨rfl, by rw [HNX.out]; exact RG, own_lt HG12.out.row ga rfl, fun i hi k hk => own_lt (HG12.out.each i hi) k hk⟩, ⟨R3, fun k hk => by have := own_lt HOD.out k hk; have := HB18.out.size; omega⟩, ?_⟩
                rw [HNX.out, HOL.out]
                exact R2
end Go.Proofs.Ytmeaepmimnmjlaa.Ask
/- graph.Build where a function has no flow. -/
namespace Go.Proofs.Ytmeaepmimnmjlaa.Ask
open Go.Proofs.Ytmeaepmimnmjlaa.Dfs Go.Proofs.Ytmeaepmimnmjlaa.Dom Go.RowKit Go.Shelf Go.Proofs.Ytmeaepmimnmjlaa.PGb Go.Proofs.Ytmeaepmimnmjlaa.Lit Go.Proofs.Ytmeaepmimnmjlaa.OwnCells Go.Proofs.YtmeaepmimnmjlaaW.PrintWords Go.Proofs.YtmeaepmimnmjlaaW.PrintLast Go.Proofs.YtmeaepmimnmjlaaW.PrintMore
attribute [local go_sem] Oper.semAt_some
attribute [local go_sem] run_store_fn
attribute [local go_sem] run_eql_fn
set_option linter.unusedVariables false
set_option linter.unusedSimpArgs false
theorem results_no {fn : Func} (h : fn.results = #[.cell 2 29, .tmp 3]) (tmps : Array Value) (w : World) (g : Nat) (e : Int) (hp : tmps.getD 2 undef = .pointer (some ⟨g, 0, none⟩)) (hv : tmps.getD 3 undef = .int .i64 e)
    (hb : w.heap[g]? = some (.cells #[.slice none 0 0, .slice none 0 0, .slice none 0 0, .slice none 0 0, .slice none 0 0] 29 (0, 0))) : (results fn tmps).run Try.prog w = .ok (.tuple #[.agg #[.slice none 0 0, .slice none 0 0, .slice none 0 0, .slice none 0 0, .slice none 0 0], .int .i64 e]) w := by
  have q0 := cell_blk hb (i := 0) rfl
  have q1 := cell_blk hb (i := 1) rfl
  have q2 := cell_blk hb (i := 2) rfl
  have q3 := cell_blk hb (i := 3) rfl
  have q4 := cell_blk hb (i := 4) rfl
  have hp' : tmps[2]?.getD undef = .pointer (some ⟨g, 0, none⟩) := gdq _ _ _ hp
  have hv' : tmps[3]?.getD undef = .int .i64 e := gdq _ _ _ hv
  have hu29 := Try.underlying29
  simp [results, h, hp', hv', asAddr]
  go_simp
set_option maxRecDepth 100000 in
set_option maxHeartbeats 8000000 in
theorem build_no (k0 : Nat) (nm : ByteArray) (pa lo er : Int) (A3 A4 : Option Addr) (c3 c4 : Nat) (code : List S40) (hs : List S49) (w : World) (hC : k40.C w A3 code.length code) (hc3 : code.length ≤ c3) (hH : k49.C w A4 hs.length hs) (hc4 : hs.length ≤ c4) (hchk : graph_check.f k0 nm pa lo code hs = some er) (her : er ≠ 0) :
    Calls Try.prog 13 #[.agg #[.string nm, .int .i64 pa, .int .i64 lo, .slice A3 code.length c3, .slice A4 hs.length c4]] w fun e w' => e = .returned (.tuple #[.agg #[.slice none 0 0, .slice none 0 0, .slice none 0 0, .slice none 0 0, .slice none 0 0], .int .i64 er]) ∧ Below w.heap.size w w' := by
  have HC := Aside0.mk hC
  have HH := Aside0.mk hH
  have HC3 := Aside0.mk hc3
  have HC4 := Aside0.mk hc4
  have HCK := Aside0.mk hchk
  clear hC hH hc3 hc4 hchk
  have hu25 := Try.underlying25
  have hu29 := Try.underlying29
  refine (callsIn_wide (n := 10)).1 ?_
  refine callsIn_of_wp_marks Try.func13 rfl trivial ?_ rfl
  refine wpIn_wide.2 ?_
  simp only [Try.ntmps13, List.size_toArray, List.length_cons, List.length_nil, Nat.reduceAdd, Nat.reduceSub, Array.replicate_succ, Array.replicate_zero, List.push_toArray, List.append_toArray, List.nil_append, List.cons_append]
  go_wp2_with (fail)
  obtain ⟨W0, hW0⟩ : ∃ W0, (w.alloc (.cells #[.string nm, .int .i64 pa, .int .i64 lo, .slice A3 code.length c3, .slice A4 hs.length c4] 25)).alloc (.cells #[.slice none 0 0, .slice none 0 0, .slice none 0 0, .slice none 0 0, .slice none 0 0] 29) = W0 := ⟨_, rfl⟩
  have hb0 : Below w.heap.size w W0 := by rw [← hW0]; exact below_alloc (below_alloc (Below.refl _ _) _) _
  have hrb : W0.heap[w.heap.size + 1]? = some (.cells #[.slice none 0 0, .slice none 0 0, .slice none 0 0, .slice none 0 0, .slice none 0 0] 29 (0, 0)) := by
    rw [← hW0]
    have := World.alloc_heap_new (w.alloc (.cells #[.string nm, .int .i64 pa, .int .i64 lo, .slice A3 code.length c3, .slice A4 hs.length c4] 25)) (.cells #[.slice none 0 0, .slice none 0 0, .slice none 0 0, .slice none 0 0, .slice none 0 0] 29)
    rw [World.size_alloc] at this
    exact this
  rw [hW0]
  clear hW0
  refine (graph_check.calls k0 nm pa lo A3 c3 code A4 c4 hs er W0 (Kd.C_below HC.out hb0) HC3.out (Kd.C_below HH.out hb0) HC4.out HCK.out).mono ?_
  rintro e w1 ⟨rfl, hb1⟩
  have hrb1 := blk_below hrb hb1
  have HB1 := Aside0.mk (hb0.trans (hb1.mono hb0.size))
  have HRB := Aside0.mk hrb1
  have r0 := cell_blk hrb1 (i := 0) rfl
  have r1 := cell_blk hrb1 (i := 1) rfl
  have r2 := cell_blk hrb1 (i := 2) rfl
  have r3 := cell_blk hrb1 (i := 3) rfl
  have r4 := cell_blk hrb1 (i := 4) rfl
  have z0 : w1.frozen? ⟨w.heap.size + 1, 0, none⟩ = false := by simp [World.frozen?, hrb1]
  have z1 : w1.frozen? ⟨w.heap.size + 1, 1, none⟩ = false := by simp [World.frozen?, hrb1]
  have z2 : w1.frozen? ⟨w.heap.size + 1, 2, none⟩ = false := by simp [World.frozen?, hrb1]
  have z3 : w1.frozen? ⟨w.heap.size + 1, 3, none⟩ = false := by simp [World.frozen?, hrb1]
  have z4 : w1.frozen? ⟨w.heap.size + 1, 4, none⟩ = false := by simp [World.frozen?, hrb1]
  have hne : (er == 0) = false := by simpa using her
  have hne2 : (er != 0) = true := by simpa using her
  clear hb0 hrb hb1 hrb1
  go_wp2_with (fail)
  have hrbF := blk_set (j := 4) (v := .slice none 0 0) (blk_set (j := 3) (v := .slice none 0 0) (blk_set (j := 2) (v := .slice none 0 0) (blk_set (j := 1) (v := .slice none 0 0) (blk_set (j := 0) (v := .slice none 0 0) HRB.out))))
  have hbF : Below w.heap.size w (((((w1.setCell ⟨w.heap.size + 1, 0, none⟩ (.slice none 0 0)).setCell ⟨w.heap.size + 1, 1, none⟩ (.slice none 0 0)).setCell ⟨w.heap.size + 1, 2, none⟩ (.slice none 0 0)).setCell ⟨w.heap.size + 1, 3, none⟩ (.slice none 0 0)).setCell ⟨w.heap.size + 1, 4, none⟩ (.slice none 0 0)) := by
    refine ((((HB1.out.setCell (p := ⟨w.heap.size + 1, 0, none⟩) ?_ _).setCell (p := ⟨w.heap.size + 1, 1, none⟩) ?_ _).setCell (p := ⟨w.heap.size + 1, 2, none⟩) ?_ _).setCell (p := ⟨w.heap.size + 1, 3, none⟩) ?_ _).setCell (p := ⟨w.heap.size + 1, 4, none⟩) ?_ _ <;> exact Nat.le_succ _
  exact leaves_marks (base := w.heap.size) [] _ trivial fun W' hB' hc => ⟨_, results_no rfl _ W' (w.heap.size + 1) er rfl rfl (hc _ _ hrbF rfl), rfl, hbF.trans hB'⟩
end Go.Proofs.Ytmeaepmimnmjlaa.Ask
/- The graph that Build answers, plainly; a function that fits has one alone. -/
/- The graph that Build answers, plainly: how long its lists are, and what stands in them. -/
namespace Go.Proofs.Ytmeaepmimnmjlaa.Ask
open Go.Proofs.Ytmeaepmimnmjlaa.Dfs Go.Proofs.Ytmeaepmimnmjlaa.Dom Go.Proofs.Ytmeaepmimnmjlaa.DomT Go.RowKit Go.Shelf Go.Proofs.Ytmeaepmimnmjlaa.PGb Go.Proofs.YtmeaepmimnmjlaaW.PrintWords
set_option linter.unusedVariables false
set_option linter.unusedSimpArgs false
def StP (code : List S40) (hs : List S49) : Nat → Prop := fun p => Why code code.length p ∨ ∃ x ∈ hs, x.f2 = (p : Int)
structure GF (code : List S40) (hs : List S49) (n m : Nat) (st : List Int) (nx : List (List Int)) (ord l hd : List Int) : Prop where
  fit : FitsP code hs
  sts : Starts code (StP code hs) st
  nxe : nx = nextOf code hs st
  orde : ord = (post nx).reverse ++ unr nx n
  dom : IsDom nx l
  hde : ∃ h, hd = idxs h ∧ Mk h code.length (Led code code.length)
  ln : st.length = n
  lm : hd.length = m
theorem cnt_step (j : Nat) : ∀ (l : List Int), l.Nodup → (l.filter fun x => decide (x < ((j + 1 : Nat) : Int))).length = (l.filter fun x => decide (x < (j : Int))).length + (if (j : Int) ∈ l then 1 else 0)
  | [], _ => rfl
  | a :: l, h => by
    obtain ⟨h1, h2⟩ := List.nodup_cons.1 h
    have ih := cnt_step j l h2
    rw [List.filter_cons, List.filter_cons]
    by_cases ha : a = (j : Int)
    · subst ha
      rw [if_neg h1] at ih
      rw [if_pos (decide_eq_true (by omega)), if_neg (by simp), if_pos List.mem_cons_self, List.length_cons, ih]
    · have e : (if (j : Int) ∈ a :: l then 1 else 0) = (if (j : Int) ∈ l then 1 else 0) := by
        by_cases hm : (j : Int) ∈ l
        · rw [if_pos hm, if_pos (List.mem_cons_of_mem _ hm)]
        · rw [if_neg hm, if_neg (fun hx => (List.mem_cons.1 hx).elim (fun e => ha e.symm) hm)]
      rw [e]
      by_cases hlt : a < (j : Int)
      · rw [if_pos (decide_eq_true (by omega)), if_pos (decide_eq_true hlt), List.length_cons, List.length_cons, ih]; omega
      · rw [if_neg (by simp; omega), if_neg (by simpa using hlt), ih]
theorem unr_count (nx : List (List Int)) (hw : Wf nx) : ∀ j : Nat, ((post nx).filter fun x => decide (x < (j : Int))).length + (unr nx j).length = j
  | 0 => by
    have : ((post nx).filter fun x => decide (x < ((0 : Nat) : Int))) = [] := by
      rw [List.filter_eq_nil_iff]
      intro x hx
      have := post_bound nx hw hx
      simp; omega
    rw [this]; rfl
  | j + 1 => by
    have ih := unr_count nx hw j
    rw [cnt_step j _ (post_nodup nx hw), unr_succ, List.length_append]
    by_cases h : (j : Int) ∈ post nx
    · rw [if_pos h, if_pos h]; simp; omega
    · rw [if_neg h, if_neg h]; simp; omega
section
variable {code : List S40} {hs : List S49} {n m : Nat} {st : List Int} {nx : List (List Int)} {ord l hd : List Int}
theorem GF.wf (g : GF code hs n m st nx ord l hd) : Wf nx := by rw [g.nxe]; exact g.sts.wf g.fit
theorem GF.lnx (g : GF code hs n m st nx ord l hd) : nx.length = n := by rw [g.nxe, ← g.ln]; simp [nextOf]
theorem GF.ll (g : GF code hs n m st nx ord l hd) : l.length = n := by rw [g.dom.len, g.lnx]
theorem GF.pos (g : GF code hs n m st nx ord l hd) : 0 < n := by rw [← g.ln]; exact g.sts.len
theorem GF.short (g : GF code hs n m st nx ord l hd) : n ≤ code.length := by rw [← g.ln]; exact g.sts.short
theorem GF.shorth (g : GF code hs n m st nx ord l hd) : m ≤ code.length := by
  obtain ⟨h, e, hm⟩ := g.hde
  rw [← g.lm, e, ← hm.1]; exact idxs_length h
theorem GF.lord (g : GF code hs n m st nx ord l hd) : ord.length = n := by
  have h1 := unr_count nx g.wf n
  have h2 : ((post nx).filter fun x => decide (x < (n : Int))) = post nx := by
    rw [List.filter_eq_self]
    intro x hx
    have := post_bound nx g.wf hx
    rw [g.lnx] at this
    simp; omega
  rw [h2] at h1
  rw [g.orde, List.length_append, List.length_reverse]; exact h1
theorem GF.row (g : GF code hs n m st nx ord l hd) {b : Nat} (hb : b < n) : rd_L3 nx (b : Int) = tidy (rawOf code hs st b) := by
  have := nextOf_nb (code := code) (st := st) hs (b := (b : Int)) (by omega) (by rw [g.ln]; omega)
  rw [g.nxe]
  exact this
theorem GF.nx_rise (g : GF code hs n m st nx ord l hd) {b : Nat} (hb : b < n) : (rd_L3 nx (b : Int)).Pairwise (· < ·) := by
  rw [g.row hb]; exact (tidy_facts _).1
theorem GF.row_len (g : GF code hs n m st nx ord l hd) {b : Nat} (hb : b < n) : (rd_L3 nx (b : Int)).length ≤ n := by
  refine nodup_le n _ ((g.nx_rise hb).imp (fun h => by omega)) (fun x hx => ?_)
  have := g.wf.in_ (b : Int) _ hx
  rw [g.lnx] at this; exact this
end
/-- the graph, read in memory -/
structure GV (W : World) (a0 a1 a2 a3 a4 : Option Addr) (c0 c1 c2 c3 c4 n m : Nat) (st : List Int) (nx : List (List Int)) (ord l hd : List Int) : Prop where
  r0 : (Kd.int .i64).C W a0 n st
  r1 : (Kd.slice 3 (Kd.int .i64)).C W a1 n nx
  r2 : (Kd.int .i64).C W a2 n ord
  r3 : (Kd.int .i64).C W a3 n l
  r4 : (Kd.int .i64).C W a4 m hd
  k0 : n ≤ c0
  k1 : n ≤ c1
  k2 : n ≤ c2
  k3 : n ≤ c3
  k4 : m ≤ c4
theorem GV.below {W W' : World} {a0 a1 a2 a3 a4 : Option Addr} {c0 c1 c2 c3 c4 n m : Nat} {st : List Int} {nx : List (List Int)} {ord l hd : List Int} (h : GV W a0 a1 a2 a3 a4 c0 c1 c2 c3 c4 n m st nx ord l hd) (hb : Below W.heap.size W W') : GV W' a0 a1 a2 a3 a4 c0 c1 c2 c3 c4 n m st nx ord l hd :=
  ⟨Kd.C_below h.r0 hb, Kd.C_below h.r1 hb, Kd.C_below h.r2 hb, Kd.C_below h.r3 hb, Kd.C_below h.r4 hb, h.k0, h.k1, h.k2, h.k3, h.k4⟩
/-- what Build answers of a function that fits, told as a graph that is read -/
theorem Built.gv {w w' : World} {code : List S40} {hs : List S49} {v0 v1 v2 v3 v4 : Value} {st hdl l : List Int} (hf : FitsP code hs) (hn : code.length ≤ 8796093022207) (h : Built w w' code hs v0 v1 v2 v3 v4 st hdl l) :
    ∃ a0 a1 a2 a3 a4 c0 c1 c2 c3 c4 n m nx ord, v0 = .slice a0 n c0 ∧ v1 = .slice a1 n c1 ∧ v2 = .slice a2 n c2 ∧ v3 = .slice a3 n c3 ∧ v4 = .slice a4 m c4 ∧ GV w' a0 a1 a2 a3 a4 c0 c1 c2 c3 c4 n m st nx ord l hdl ∧ GF code hs n m st nx ord l hdl := by
  obtain ⟨b1, b2, b3, b4, b5, ga, vs, _, _, _, _, _, _, ⟨o0, _⟩, ⟨o4, _⟩, ⟨e1, gr, _, _⟩, ⟨o3, _⟩, o2⟩ := h.mem
  have hG : GF code hs st.length hdl.length st (nextOf code hs st) ((post (nextOf code hs st)).reverse ++ unr (nextOf code hs st) st.length) l hdl := ⟨hf, h.starts, rfl, rfl, h.dom, h.heads, rfl, rfl⟩
  obtain ⟨ord, ho⟩ : ∃ ord, (post (nextOf code hs st)).reverse ++ unr (nextOf code hs st) st.length = ord := ⟨_, rfl⟩
  rw [ho] at hG o2
  obtain ⟨a0, c0, rfl⟩ := row_slice o0
  obtain ⟨a4, c4, rfl⟩ := row_slice o4
  obtain ⟨a3, c3, rfl⟩ := row_slice o3
  obtain ⟨a2, c2, rfl⟩ := row_slice o2
  obtain ⟨r0, k0⟩ := row_C o0
  obtain ⟨r4, k4⟩ := row_C o4
  obtain ⟨r3, k3⟩ := row_C o3
  obtain ⟨r2, k2⟩ := row_C o2
  have hsh := hG.short
  have r1 := gr.C (by omega)
  have hl := hG.ll
  have ho2 := hG.lord
  have hx := hG.lnx
  rw [hl] at r3 k3 ⊢
  rw [ho2] at r2 k2 ⊢
  rw [hx] at r1
  exact ⟨a0, some ⟨ga, 0, none⟩, a2, a3, a4, c0, st.length, c2, c3, c4, st.length, hdl.length, _, ord, rfl, e1, rfl, rfl, rfl, ⟨r0, r1, r2, r3, r4, k0, Nat.le_refl _, k2, k3, k4⟩, hG⟩
theorem Built.held {w w' W : World} {code : List S40} {hs : List S49} {v0 v1 v2 v3 v4 : Value} {st hdl l : List Int} (h : Built w w' code hs v0 v1 v2 v3 v4 st hdl l) (hz : w'.heap.size ≤ W.heap.size) (hm : ∀ k o, w.heap.size ≤ k → w'.heap[k]? = some o → o.isCells = true → W.heap[k]? = some o) : Built w W code hs v0 v1 v2 v3 v4 st hdl l := by
  obtain ⟨b1, b2, b3, b4, b5, ga, vs, i1, i2, i3, i4, i5, i6, ⟨o0, p0⟩, ⟨o4, p4⟩, ⟨e1, gr, p1, p2⟩, ⟨o3, p3⟩, o2⟩ := h.mem
  exact ⟨h.starts, h.heads, h.dom, b1, b2, b3, b4, b5, ga, vs, i1, i2, i3, i4, i5, by omega, ⟨own_held o0 hm, p0⟩, ⟨own_held o4 fun k o hk => hm k o (by omega), p4⟩, ⟨e1, gr.held fun k o hk => hm k o (by omega), p1, p2⟩, ⟨own_held o3 fun k o hk => hm k o (by omega), p3⟩, own_held o2 fun k o hk => hm k o (by omega)⟩
theorem Built.gv2 {w w' : World} {code : List S40} {hs : List S49} {a0 a1 a2 a3 a4 : Option Addr} {c0 c1 c2 c3 c4 n m : Nat} {st hd l ord : List Int} {nx : List (List Int)} (h : Built w w' code hs (.slice a0 n c0) (.slice a1 n c1) (.slice a2 n c2) (.slice a3 n c3) (.slice a4 m c4) st hd l) (hf : FitsP code hs) (hn : code.length ≤ 8796093022207) (g : GF code hs n m st nx ord l hd) : GV w' a0 a1 a2 a3 a4 c0 c1 c2 c3 c4 n m st nx ord l hd := by
  obtain ⟨a0', a1', a2', a3', a4', d0, d1, d2, d3, d4, n', m', nx', ord', e0, e1, e2, e3, e4, gv, gf⟩ := h.gv hf hn
  cases e0
  cases e1
  cases e2
  cases e3
  cases e4
  have h1 : nx' = nx := gf.nxe.trans g.nxe.symm
  subst h1
  have h2 : ord' = ord := gf.orde.trans g.orde.symm
  subst h2
  exact gv
end Go.Proofs.Ytmeaepmimnmjlaa.Ask
/- A function that fits has a graph, and one alone. -/
namespace Go.Proofs.Ytmeaepmimnmjlaa.Ask
open Go.Proofs.Ytmeaepmimnmjlaa.Dfs Go.Proofs.Ytmeaepmimnmjlaa.Dom Go.Proofs.Ytmeaepmimnmjlaa.DomT Go.RowKit Go.Shelf Go.Proofs.Ytmeaepmimnmjlaa.PGb Go.Proofs.YtmeaepmimnmjlaaW.PrintWords
set_option linter.unusedVariables false
set_option linter.unusedSimpArgs false
theorem rise_ext : ∀ (a b : List Int), a.Pairwise (· < ·) → b.Pairwise (· < ·) → (∀ x, x ∈ a ↔ x ∈ b) → a = b
  | [], [], _, _, _ => rfl
  | [], y :: b, _, _, h => absurd ((h y).2 List.mem_cons_self) (by simp)
  | x :: a, [], _, _, h => absurd ((h x).1 List.mem_cons_self) (by simp)
  | x :: a, y :: b, ha, hb, h => by
    obtain ⟨ha1, ha2⟩ := List.pairwise_cons.1 ha
    obtain ⟨hb1, hb2⟩ := List.pairwise_cons.1 hb
    have hxy : x = y := by
      rcases List.mem_cons.1 ((h x).1 List.mem_cons_self) with e | h1
      · exact e
      · rcases List.mem_cons.1 ((h y).2 List.mem_cons_self) with e | h2
        · exact e.symm
        · have := hb1 x h1; have := ha1 y h2; omega
    subst hxy
    congr 1
    refine rise_ext a b ha2 hb2 (fun z => ⟨fun hz => ?_, fun hz => ?_⟩)
    · rcases List.mem_cons.1 ((h z).1 (List.mem_cons_of_mem _ hz)) with e | h1
      · have := ha1 z hz; omega
      · exact h1
    · rcases List.mem_cons.1 ((h z).2 (List.mem_cons_of_mem _ hz)) with e | h1
      · have := hb1 z hz; omega
      · exact h1
section
variable {nx : List (List Int)} {l l' : List Int}
/-- what may come ahead of each block -/
def ahOf (nx : List (List Int)) : List (List Int) := (List.range nx.length).map fun (c : Nat) => (post nx).filter fun a => decide ((c : Int) ∈ nb nx a)
end
/-- the marks of a property -/
noncomputable def mksOf (n : Nat) (P : Nat → Prop) : List Bool := (List.range n).map fun p => @decide (P p) (Classical.propDecidable _)
end Go.Proofs.Ytmeaepmimnmjlaa.Ask
-- written by a program of this session (leafprint.py, cutsec.py) over the translation; Lean checks it
namespace Go.Proofs.Ytmeaepmimnmjlaa.PGb
open Go.RowKit Go.Proofs.YtmeaepmimnmjlaaW.PrintWords Go.Proofs.YtmeaepmimnmjlaaW.PrintLast Go.Proofs.YtmeaepmimnmjlaaW.PrintMore
attribute [local go_sem] max2_int min2_int max_two min_two max_three min_three max_four min_four   -- for this text's walks alone
set_option linter.unusedVariables false
set_option linter.unusedSimpArgs false

/-! ### portageref09_jumps: function 35 -/
def portageref09_jumps.f (a0 : Int) : Option (Bool) := if a0 = 40 then (some true) else (if a0 = 41 then (some true) else (some (a0 == 42)))
set_option maxHeartbeats 8000000 in
set_option maxRecDepth 100000 in
theorem portageref09_jumps.calls (a0 : Int) (r : Bool) (w : World) (h : portageref09_jumps.f a0 = some r) :
    Calls Try.prog 35 #[.int .i64 a0] w fun e w' => e = .returned (.bool r) ∧ Drawn0 w w' := by
 have H : (if a0 = 40 then (some true) else (if a0 = 41 then (some true) else (some (a0 == 42)))) = some r := h; clear h
 by_cases c2 : a0 = 40
 ·rw [if_pos c2] at H; have c2b0 : (a0 == 40) = true := beq_iff_eq.mpr c2; have c2b1 : (a0 != 40) = false := bne_eq_false_iff_eq.mpr c2; clear c2; obtain rfl := Option.some.inj H; go_enter Try.func35, Try.ntmps35; go_wp2; go_ret; exact ⟨by first | rfl | (simp; done) | (simp [*]; done), by repeat (first | exact Drawn0.refl _ | apply Drawn0.step)⟩
 ·rw [if_neg c2] at H; have c2b0 : (a0 == 40) = false := beq_eq_false_iff_ne.mpr c2; have c2b1 : (a0 != 40) = true := bne_iff_ne.mpr c2
  by_cases c3 : a0 = 41
  ·rw [if_pos c3] at H; have c3b0 : (a0 == 41) = true := beq_iff_eq.mpr c3; have c3b1 : (a0 != 41) = false := bne_eq_false_iff_eq.mpr c3; clear c3; obtain rfl := Option.some.inj H; go_enter Try.func35, Try.ntmps35; go_wp2; go_ret; exact ⟨by first | rfl | (simp; done) | (simp [*]; done), by repeat (first | exact Drawn0.refl _ | apply Drawn0.step)⟩
  ·rw [if_neg c3] at H; have c3b0 : (a0 == 41) = false := beq_eq_false_iff_ne.mpr c3; have c3b1 : (a0 != 41) = true := bne_iff_ne.mpr c3; obtain rfl := Option.some.inj H; go_enter Try.func35, Try.ntmps35; go_wp2; go_ret; exact ⟨by first | rfl | (simp; done) | (simp [*]; done), by repeat (first | exact Drawn0.refl _ | apply Drawn0.step)⟩
/-! ### portageref09_stops: function 60 -/
def portageref09_stops.f (a0 : Int) : Option (Bool) := if a0 = 40 then (some true) else (if a0 = 44 then (some true) else (some (a0 == 45)))
set_option maxHeartbeats 8000000 in
set_option maxRecDepth 100000 in
theorem portageref09_stops.calls (a0 : Int) (r : Bool) (w : World) (h : portageref09_stops.f a0 = some r) :
    Calls Try.prog 60 #[.int .i64 a0] w fun e w' => e = .returned (.bool r) ∧ Drawn0 w w' := by
 have H : (if a0 = 40 then (some true) else (if a0 = 44 then (some true) else (some (a0 == 45)))) = some r := h; clear h
 by_cases c2 : a0 = 40
 ·rw [if_pos c2] at H; have c2b0 : (a0 == 40) = true := beq_iff_eq.mpr c2; have c2b1 : (a0 != 40) = false := bne_eq_false_iff_eq.mpr c2; clear c2; obtain rfl := Option.some.inj H; go_enter Try.func60, Try.ntmps60; go_wp2; go_ret; exact ⟨by first | rfl | (simp; done) | (simp [*]; done), by repeat (first | exact Drawn0.refl _ | apply Drawn0.step)⟩
 ·rw [if_neg c2] at H; have c2b0 : (a0 == 40) = false := beq_eq_false_iff_ne.mpr c2; have c2b1 : (a0 != 40) = true := bne_iff_ne.mpr c2
  by_cases c3 : a0 = 44
  ·rw [if_pos c3] at H; have c3b0 : (a0 == 44) = true := beq_iff_eq.mpr c3; have c3b1 : (a0 != 44) = false := bne_eq_false_iff_eq.mpr c3; clear c3; obtain rfl := Option.some.inj H; go_enter Try.func60, Try.ntmps60; go_wp2; go_ret; exact ⟨by first | rfl | (simp; done) | (simp [*]; done), by repeat (first | exact Drawn0.refl _ | apply Drawn0.step)⟩
  ·rw [if_neg c3] at H; have c3b0 : (a0 == 44) = false := beq_eq_false_iff_ne.mpr c3; have c3b1 : (a0 != 44) = true := bne_iff_ne.mpr c3; obtain rfl := Option.some.inj H; go_enter Try.func60, Try.ntmps60; go_wp2; go_ret; exact ⟨by first | rfl | (simp; done) | (simp [*]; done), by repeat (first | exact Drawn0.refl _ | apply Drawn0.step)⟩
/-! ### portageref09_parts: function 59 -/
def portageref09_parts.f (a0 : Int) : Option (Bool) := (portageref09_jumps.f a0).bind fun t105 => (if t105 = true then (some true) else ((portageref09_stops.f a0).bind fun t106 => (if t106 = true then (some true) else (if a0 = 43 then (some true) else (if a0 = 60 then (some true) else (if a0 = 61 then (some true) else (if a0 = 63 then (some true) else (some (a0 == 64)))))))))
set_option maxHeartbeats 8000000 in
set_option maxRecDepth 100000 in
theorem portageref09_parts.calls (a0 : Int) (r : Bool) (w : World) (h : portageref09_parts.f a0 = some r) :
    Calls Try.prog 59 #[.int .i64 a0] w fun e w' => e = .returned (.bool r) ∧ Drawn0 w w' := by
 have H : ((portageref09_jumps.f a0).bind fun t105 => (if t105 = true then (some true) else ((portageref09_stops.f a0).bind fun t106 => (if t106 = true then (some true) else (if a0 = 43 then (some true) else (if a0 = 60 then (some true) else (if a0 = 61 then (some true) else (if a0 = 63 then (some true) else (some (a0 == 64)))))))))) = some r := h; clear h; replace H := Option.bind_eq_some_iff.mp H; obtain ⟨t105, A20, H⟩ := H; replace H : (if t105 = true then (some true) else ((portageref09_stops.f a0).bind fun t106 => (if t106 = true then (some true) else (if a0 = 43 then (some true) else (if a0 = 60 then (some true) else (if a0 = 61 then (some true) else (if a0 = 63 then (some true) else (some (a0 == 64))))))))) = some r := H; have A2 := Aside0.mk A20; clear A20
 by_cases c3 : t105 = true
 ·subst c3; have H1 : (some true) = some r := by rw [if_pos rfl] at H; exact H
  clear H; have H := H1; clear H1; obtain rfl := Option.some.inj H; go_enter Try.func59, Try.ntmps59; go_wp2_with (first | ((with_reducible refine gate_callee (f := 35) rfl ?_); refine goesL_ (some 4) rfl rfl Try.func35 (by kernel_rfl) rfl #[.int .i64 a0] rfl (by (try simp only [List.map_toArray, List.map_cons, List.map_nil]); first | done | rfl | (simp only [List.length_drop, List.length_take]; rfl)) ?_; (with_reducible refine (portageref09_jumps.calls a0 true _ A2.out).mono ?_); rintro e w' ⟨rfl, ⟨nd, rfl⟩⟩; refine ⟨_, rfl, ?_⟩))
  go_ret; exact ⟨by first | rfl | (simp; done) | (simp [*]; done), by repeat (first | exact Drawn0.refl _ | apply Drawn0.step)⟩
 ·replace c3 := Bool.eq_false_iff.mpr c3; subst c3; have H1 : ((portageref09_stops.f a0).bind fun t106 => (if t106 = true then (some true) else (if a0 = 43 then (some true) else (if a0 = 60 then (some true) else (if a0 = 61 then (some true) else (if a0 = 63 then (some true) else (some (a0 == 64)))))))) = some r := by rw [if_neg (show ¬ (false = true) by decide)] at H; exact H
  clear H; have H := H1; clear H1; replace H := Option.bind_eq_some_iff.mp H; obtain ⟨t106, A40, H⟩ := H; replace H : (if t106 = true then (some true) else (if a0 = 43 then (some true) else (if a0 = 60 then (some true) else (if a0 = 61 then (some true) else (if a0 = 63 then (some true) else (some (a0 == 64))))))) = some r := H; have A4 := Aside0.mk A40; clear A40
  by_cases c5 : t106 = true
  ·subst c5; have H1 : (some true) = some r := by rw [if_pos rfl] at H; exact H
   clear H; have H := H1; clear H1; obtain rfl := Option.some.inj H; go_enter Try.func59, Try.ntmps59; go_wp2_with (first | ((with_reducible refine gate_callee (f := 35) rfl ?_); refine goesL_ (some 4) rfl rfl Try.func35 (by kernel_rfl) rfl #[.int .i64 a0] rfl (by (try simp only [List.map_toArray, List.map_cons, List.map_nil]); first | done | rfl | (simp only [List.length_drop, List.length_take]; rfl)) ?_; (with_reducible refine (portageref09_jumps.calls a0 false _ A2.out).mono ?_); rintro e w' ⟨rfl, ⟨nd, rfl⟩⟩; refine ⟨_, rfl, ?_⟩) | (go_at_call 60; (with_reducible refine (portageref09_stops.calls a0 true _ A4.out).mono ?_); rintro e w' ⟨rfl, ⟨nd, rfl⟩⟩))
   go_ret; exact ⟨by first | rfl | (simp; done) | (simp [*]; done), by repeat (first | exact Drawn0.refl _ | apply Drawn0.step)⟩
  ·replace c5 := Bool.eq_false_iff.mpr c5; subst c5; have H1 : (if a0 = 43 then (some true) else (if a0 = 60 then (some true) else (if a0 = 61 then (some true) else (if a0 = 63 then (some true) else (some (a0 == 64)))))) = some r := by rw [if_neg (show ¬ (false = true) by decide)] at H; exact H
   clear H; have H := H1; clear H1
   by_cases c6 : a0 = 43
   ·rw [if_pos c6] at H; have c6b0 : (a0 == 43) = true := beq_iff_eq.mpr c6; have c6b1 : (a0 != 43) = false := bne_eq_false_iff_eq.mpr c6; clear c6; obtain rfl := Option.some.inj H; go_enter Try.func59, Try.ntmps59; go_wp2_with (first | ((with_reducible refine gate_callee (f := 35) rfl ?_); refine goesL_ (some 4) rfl rfl Try.func35 (by kernel_rfl) rfl #[.int .i64 a0] rfl (by (try simp only [List.map_toArray, List.map_cons, List.map_nil]); first | done | rfl | (simp only [List.length_drop, List.length_take]; rfl)) ?_; (with_reducible refine (portageref09_jumps.calls a0 false _ A2.out).mono ?_); rintro e w' ⟨rfl, ⟨nd, rfl⟩⟩; refine ⟨_, rfl, ?_⟩) | (go_at_call 60; (with_reducible refine (portageref09_stops.calls a0 false _ A4.out).mono ?_); rintro e w' ⟨rfl, ⟨nd, rfl⟩⟩))
    go_ret; exact ⟨by first | rfl | (simp; done) | (simp [*]; done), by repeat (first | exact Drawn0.refl _ | apply Drawn0.step)⟩
   ·rw [if_neg c6] at H; have c6b0 : (a0 == 43) = false := beq_eq_false_iff_ne.mpr c6; have c6b1 : (a0 != 43) = true := bne_iff_ne.mpr c6
    by_cases c7 : a0 = 60
    ·rw [if_pos c7] at H; have c7b0 : (a0 == 60) = true := beq_iff_eq.mpr c7; have c7b1 : (a0 != 60) = false := bne_eq_false_iff_eq.mpr c7; clear c7; obtain rfl := Option.some.inj H; go_enter Try.func59, Try.ntmps59; go_wp2_with (first | ((with_reducible refine gate_callee (f := 35) rfl ?_); refine goesL_ (some 4) rfl rfl Try.func35 (by kernel_rfl) rfl #[.int .i64 a0] rfl (by (try simp only [List.map_toArray, List.map_cons, List.map_nil]); first | done | rfl | (simp only [List.length_drop, List.length_take]; rfl)) ?_; (with_reducible refine (portageref09_jumps.calls a0 false _ A2.out).mono ?_); rintro e w' ⟨rfl, ⟨nd, rfl⟩⟩; refine ⟨_, rfl, ?_⟩) | (go_at_call 60; (with_reducible refine (portageref09_stops.calls a0 false _ A4.out).mono ?_); rintro e w' ⟨rfl, ⟨nd, rfl⟩⟩))
     go_ret; exact ⟨by first | rfl | (simp; done) | (simp [*]; done), by repeat (first | exact Drawn0.refl _ | apply Drawn0.step)⟩
    ·rw [if_neg c7] at H; have c7b0 : (a0 == 60) = false := beq_eq_false_iff_ne.mpr c7; have c7b1 : (a0 != 60) = true := bne_iff_ne.mpr c7
     by_cases c8 : a0 = 61
     ·rw [if_pos c8] at H; have c8b0 : (a0 == 61) = true := beq_iff_eq.mpr c8; have c8b1 : (a0 != 61) = false := bne_eq_false_iff_eq.mpr c8; clear c8; obtain rfl := Option.some.inj H; go_enter Try.func59, Try.ntmps59; go_wp2_with (first | ((with_reducible refine gate_callee (f := 35) rfl ?_); refine goesL_ (some 4) rfl rfl Try.func35 (by kernel_rfl) rfl #[.int .i64 a0] rfl (by (try simp only [List.map_toArray, List.map_cons, List.map_nil]); first | done | rfl | (simp only [List.length_drop, List.length_take]; rfl)) ?_; (with_reducible refine (portageref09_jumps.calls a0 false _ A2.out).mono ?_); rintro e w' ⟨rfl, ⟨nd, rfl⟩⟩; refine ⟨_, rfl, ?_⟩) | (go_at_call 60; (with_reducible refine (portageref09_stops.calls a0 false _ A4.out).mono ?_); rintro e w' ⟨rfl, ⟨nd, rfl⟩⟩))
      go_ret; exact ⟨by first | rfl | (simp; done) | (simp [*]; done), by repeat (first | exact Drawn0.refl _ | apply Drawn0.step)⟩
     ·rw [if_neg c8] at H; have c8b0 : (a0 == 61) = false := beq_eq_false_iff_ne.mpr c8; have c8b1 : (a0 != 61) = true := bne_iff_ne.mpr c8
      by_cases c9 : a0 = 63
      ·rw [if_pos c9] at H; have c9b0 : (a0 == 63) = true := beq_iff_eq.mpr c9; have c9b1 : (a0 != 63) = false := bne_eq_false_iff_eq.mpr c9; clear c9; obtain rfl := Option.some.inj H; go_enter Try.func59, Try.ntmps59; go_wp2_with (first | ((with_reducible refine gate_callee (f := 35) rfl ?_); refine goesL_ (some 4) rfl rfl Try.func35 (by kernel_rfl) rfl #[.int .i64 a0] rfl (by (try simp only [List.map_toArray, List.map_cons, List.map_nil]); first | done | rfl | (simp only [List.length_drop, List.length_take]; rfl)) ?_; (with_reducible refine (portageref09_jumps.calls a0 false _ A2.out).mono ?_); rintro e w' ⟨rfl, ⟨nd, rfl⟩⟩; refine ⟨_, rfl, ?_⟩) | (go_at_call 60; (with_reducible refine (portageref09_stops.calls a0 false _ A4.out).mono ?_); rintro e w' ⟨rfl, ⟨nd, rfl⟩⟩))
       go_ret; exact ⟨by first | rfl | (simp; done) | (simp [*]; done), by repeat (first | exact Drawn0.refl _ | apply Drawn0.step)⟩
      ·rw [if_neg c9] at H; have c9b0 : (a0 == 63) = false := beq_eq_false_iff_ne.mpr c9; have c9b1 : (a0 != 63) = true := bne_iff_ne.mpr c9; obtain rfl := Option.some.inj H; go_enter Try.func59, Try.ntmps59; go_wp2_with (first | ((with_reducible refine gate_callee (f := 35) rfl ?_); refine goesL_ (some 4) rfl rfl Try.func35 (by kernel_rfl) rfl #[.int .i64 a0] rfl (by (try simp only [List.map_toArray, List.map_cons, List.map_nil]); first | done | rfl | (simp only [List.length_drop, List.length_take]; rfl)) ?_; (with_reducible refine (portageref09_jumps.calls a0 false _ A2.out).mono ?_); rintro e w' ⟨rfl, ⟨nd, rfl⟩⟩; refine ⟨_, rfl, ?_⟩) | (go_at_call 60; (with_reducible refine (portageref09_stops.calls a0 false _ A4.out).mono ?_); rintro e w' ⟨rfl, ⟨nd, rfl⟩⟩))
       go_ret; exact ⟨by first | rfl | (simp; done) | (simp [*]; done), by repeat (first | exact Drawn0.refl _ | apply Drawn0.step)⟩
end Go.Proofs.Ytmeaepmimnmjlaa.PGb
/- The reference: led and starts, by their meaning. -/
namespace Go.Proofs.Ytmeaepmimnmjlaa.Ask
open Go.Proofs.Ytmeaepmimnmjlaa.Dfs Go.Proofs.Ytmeaepmimnmjlaa.Dom Go.Proofs.Ytmeaepmimnmjlaa.DomT Go.RowKit Go.Shelf Go.Proofs.Ytmeaepmimnmjlaa.PGb Go.Proofs.Ytmeaepmimnmjlaa.Lit Go.Proofs.Ytmeaepmimnmjlaa.OwnCells Go.Proofs.YtmeaepmimnmjlaaW.PrintWords Go.Proofs.YtmeaepmimnmjlaaW.PrintLast Go.Proofs.YtmeaepmimnmjlaaW.PrintMore
attribute [local go_sem] Oper.semAt_some
attribute [local go_sem] run_store_fn
attribute [local go_sem] run_eql_fn
set_option linter.unusedVariables false
set_option linter.unusedSimpArgs false
structure FB (w W : World) (cf : Array Value) : Prop where
  fb : W.heap[w.heap.size]? = some (.cells cf 25 (0, 0))
  below : Below w.heap.size w W
theorem FB.from_ {w W W' : World} {cf : Array Value} (a : FB w W cf) (hb : Below W.heap.size W W') : FB w W' cf := ⟨blk_below a.fb hb, a.below.trans (hb.mono a.below.size)⟩
/-- a jump from a place on leads to p -/
def LedR (code : List S40) (k e p : Nat) : Prop := ∃ (q : Nat) (i : S40), k ≤ q ∧ q < e ∧ code[q]? = some i ∧ jumpsP i.f0 = true ∧ i.f1 = (p : Int)
/-- the places with a property, rising -/
noncomputable def upTo (P : Nat → Prop) (k : Nat) : List Int := ((List.range k).filter fun p => @decide (P p) (Classical.propDecidable _)).map fun (p : Nat) => (p : Int)
theorem upTo_yes {P : Nat → Prop} {k : Nat} (h : P k) : upTo P (k + 1) = upTo P k ++ [(k : Int)] := by
  unfold upTo
  rw [List.range_succ, List.filter_append, List.map_append]
  congr 1
  simp [h]
theorem upTo_no {P : Nat → Prop} {k : Nat} (h : ¬ P k) : upTo P (k + 1) = upTo P k := by
  unfold upTo
  rw [List.range_succ, List.filter_append, List.map_append]
  simp [h]
theorem upTo_mem (P : Nat → Prop) (k : Nat) (x : Int) : x ∈ upTo P k ↔ ∃ p : Nat, p < k ∧ x = (p : Int) ∧ P p := by
  unfold upTo
  rw [List.mem_map]
  constructor
  · rintro ⟨p, hp, rfl⟩
    rw [List.mem_filter, List.mem_range] at hp
    exact ⟨p, hp.1, rfl, by simpa using hp.2⟩
  · rintro ⟨p, hp, rfl, h⟩
    exact ⟨p, List.mem_filter.2 ⟨List.mem_range.2 hp, by simpa using h⟩, rfl⟩
theorem upTo_rise (P : Nat → Prop) (k : Nat) : (upTo P k).Pairwise (· < ·) := by
  unfold upTo
  rw [List.pairwise_map]
  refine List.Pairwise.imp (R := fun (a b : Nat) => a < b) (fun h => by omega) ?_
  exact List.Pairwise.filter _ List.pairwise_lt_range
theorem GF.starts_upTo {n m : Nat} {st : List Int} {nx : List (List Int)} {ord l hd : List Int} {code : List S40} {hs : List S49} (g : GF code hs n m st nx ord l hd) : upTo (StP code hs) code.length = st :=
  rise_ext _ _ (upTo_rise _ _) g.sts.rise (fun x => (upTo_mem _ _ x).trans (g.sts.mem x).symm)
end Go.Proofs.Ytmeaepmimnmjlaa.Ask
/- The reference: starts, by its meaning. -/
namespace Go.Proofs.Ytmeaepmimnmjlaa.Ask
open Go.Proofs.Ytmeaepmimnmjlaa.Dfs Go.Proofs.Ytmeaepmimnmjlaa.Dom Go.Proofs.Ytmeaepmimnmjlaa.DomT Go.RowKit Go.Shelf Go.Proofs.Ytmeaepmimnmjlaa.PGb Go.Proofs.Ytmeaepmimnmjlaa.Lit Go.Proofs.Ytmeaepmimnmjlaa.OwnCells Go.Proofs.YtmeaepmimnmjlaaW.PrintWords Go.Proofs.YtmeaepmimnmjlaaW.PrintLast Go.Proofs.YtmeaepmimnmjlaaW.PrintMore
attribute [local go_sem] Oper.semAt_some
attribute [local go_sem] run_store_fn
attribute [local go_sem] run_eql_fn
set_option linter.unusedVariables false
set_option linter.unusedSimpArgs false
def HT (hs : List S49) (k p : Nat) : Prop := ∃ (q : Nat) (x : S49), q < k ∧ hs[q]? = some x ∧ x.f2 = (p : Int)
theorem own_ne_box {w : World} {base : Nat} {e t : TypeId} {size n g : Nat} {v : Value} {xs : List Value} {cs : Array Value} (h : w.ownsRow base e size v n xs) (hb : w.heap[g]? = some (.cells cs t (0, 0))) (ht : e ≠ t) : some g ≠ v.ownBlock := fun he => by
  obtain ⟨cells, hc⟩ := own_typed h g he.symm
  rw [hb] at hc
  cases hc
  exact ht rfl
end Go.Proofs.Ytmeaepmimnmjlaa.Ask
/- The reference: behind, by its meaning. -/
namespace Go.Proofs.Ytmeaepmimnmjlaa.Ask
open Go.Proofs.Ytmeaepmimnmjlaa.Dfs Go.Proofs.Ytmeaepmimnmjlaa.Dom Go.Proofs.Ytmeaepmimnmjlaa.DomT Go.RowKit Go.Shelf Go.Proofs.Ytmeaepmimnmjlaa.PGb Go.Proofs.Ytmeaepmimnmjlaa.Lit Go.Proofs.Ytmeaepmimnmjlaa.OwnCells Go.Proofs.YtmeaepmimnmjlaaW.PrintWords Go.Proofs.YtmeaepmimnmjlaaW.PrintLast Go.Proofs.YtmeaepmimnmjlaaW.PrintMore
attribute [local go_sem] Oper.semAt_some
attribute [local go_sem] run_store_fn
attribute [local go_sem] run_eql_fn
set_option linter.unusedVariables false
set_option linter.unusedSimpArgs false
/-- a handler leads from block b to block c -/
def HB (hs : List S49) (st : List Int) (ee : Int) (k b c : Nat) : Prop := ∃ (q : Nat) (x : S49), q < k ∧ hs[q]? = some x ∧ x.f2 = rd st (c : Int) ∧ x.f0 < ee ∧ rd st (b : Int) < x.f1
section
variable {code : List S40} {hs : List S49} {n m : Nat} {st : List Int} {nx : List (List Int)} {ord l hd : List Int}
theorem GF.jump_in (g : GF code hs n m st nx ord l hd) {i : S40} (hi : i ∈ code) (hj : jumpsP i.f0 = true) : i.f1 ∈ st := by
  have := g.fit.jmp i hi hj
  obtain ⟨q, hq, e⟩ := List.getElem_of_mem hi
  exact (g.sts.mem _).2 ⟨i.f1.toNat, by omega, by omega, .inl (.inr ⟨q, i, hq, by rw [List.getElem?_eq_getElem hq, e], .inr ⟨hj, by omega⟩⟩)⟩
theorem GF.target_in (g : GF code hs n m st nx ord l hd) {x : S49} (hx : x ∈ hs) : x.f2 ∈ st := by
  have := g.fit.hnd x hx
  exact (g.sts.mem _).2 ⟨x.f2.toNat, by omega, by omega, .inr ⟨x, hx, by omega⟩⟩
theorem GF.block_eq (g : GF code hs n m st nx ord l hd) {x : Int} (hx : x ∈ st) {c : Nat} (hc : c < n) : blockOf st x = (c : Int) ↔ x = rd st (c : Int) := by
  obtain ⟨j, hj, e⟩ := List.getElem_of_mem hx
  have e2 : rd st (j : Int) = x := by simp [rd, hj, e]
  have hb := g.sts.block_start hj
  rw [e2] at hb
  constructor
  · intro h
    have : (j : Int) = (c : Int) := hb.symm.trans h
    rw [← this, e2]
  · intro h
    rw [h]
    exact g.sts.block_start (by rw [g.ln]; exact hc)
theorem GF.row_iff (g : GF code hs n m st nx ord l hd) {b c : Nat} (hb : b < n) (hc : c < n) : (c : Int) ∈ rd_L3 nx (b : Int) ↔ (((jumpsP (rd_T40 code (endOf code st b - 1)).f0 = true ∧ (rd_T40 code (endOf code st b - 1)).f1 = rd st (c : Int)) ∨ (c = b + 1 ∧ stopsP (rd_T40 code (endOf code st b - 1)).f0 = false)) ∨ HB hs st (endOf code st b) hs.length b c) := by
  rw [g.row hb, (tidy_facts _).2, raw_mem, or_assoc]
  refine or_congr ?_ (or_congr ?_ ?_)
  · constructor
    · rintro ⟨h1, h2⟩
      exact ⟨h1, (g.block_eq (g.jump_in (g.sts.last (by rw [g.ln]; exact hb)) h1) hc).1 h2.symm⟩
    · rintro ⟨h1, h2⟩
      exact ⟨h1, ((g.block_eq (g.jump_in (g.sts.last (by rw [g.ln]; exact hb)) h1) hc).2 h2).symm⟩
  · constructor
    · rintro ⟨h1, h2, h3⟩
      exact ⟨by omega, h1⟩
    · rintro ⟨h1, h2⟩
      exact ⟨h2, by rw [g.ln]; omega, by omega⟩
  · constructor
    · rintro ⟨h, hh, h1, h2, h3⟩
      obtain ⟨q, hq, e⟩ := List.getElem_of_mem hh
      exact ⟨q, h, hq, by rw [List.getElem?_eq_getElem hq, e], (g.block_eq (g.target_in hh) hc).1 h3.symm, h1, h2⟩
    · rintro ⟨q, h, hq, hg, h4, h1, h2⟩
      have hh := List.mem_of_getElem? hg
      exact ⟨h, hh, h1, h2, ((g.block_eq (g.target_in hh) hc).2 h4).symm⟩
theorem GF.row_upTo (g : GF code hs n m st nx ord l hd) {b : Nat} (hb : b < n) : upTo (fun c => (c : Int) ∈ rd_L3 nx (b : Int)) n = rd_L3 nx (b : Int) := by
  refine rise_ext _ _ (upTo_rise _ _) (g.nx_rise hb) (fun x => (upTo_mem _ _ x).trans ⟨?_, fun h => ?_⟩)
  · rintro ⟨p, _, rfl, h⟩; exact h
  · have := g.wf.in_ (b : Int) x h
    rw [g.lnx] at this
    exact ⟨x.toNat, by omega, by omega, by rw [show ((x.toNat : Nat) : Int) = x by omega]; exact h⟩
end
end Go.Proofs.Ytmeaepmimnmjlaa.Ask
/- The reference: Reached, by its meaning. -/
namespace Go.Proofs.Ytmeaepmimnmjlaa.Ask
open Go.Proofs.Ytmeaepmimnmjlaa.Dfs Go.Proofs.Ytmeaepmimnmjlaa.Dom Go.Proofs.Ytmeaepmimnmjlaa.DomT Go.RowKit Go.Shelf Go.Proofs.Ytmeaepmimnmjlaa.PGb Go.Proofs.Ytmeaepmimnmjlaa.Lit Go.Proofs.Ytmeaepmimnmjlaa.OwnCells Go.Proofs.YtmeaepmimnmjlaaW.PrintWords Go.Proofs.YtmeaepmimnmjlaaW.PrintLast Go.Proofs.YtmeaepmimnmjlaaW.PrintMore
attribute [local go_sem] Oper.semAt_some
attribute [local go_sem] run_store_fn
attribute [local go_sem] run_eql_fn
set_option linter.unusedVariables false
set_option linter.unusedSimpArgs false
def cntF (l : List Bool) : Nat := (l.filter fun x => !x).length
theorem ar_post {nx : List (List Int)} (hw : Wf nx) {d x : Int} (h : AR (Ex nx) d x) : x ∈ post nx := by
  induction h with
  | zero _ => exact post_zero nx hw
  | step _ he _ _ => exact (post_mem nx hw _).2 (.step ((post_mem nx hw _).1 he.1) he.2)
/-- marks that are right so far -/
structure MI (nx : List (List Int)) (d : Int) (n : Nat) (is : List Bool) : Prop where
  len : is.length = n
  sound : ∀ x : Nat, x < n → is.getD x false = true → AR (Ex nx) d (x : Int)
  zero : d ≠ 0 → is.getD 0 false = true
/-- whatever may come behind a marked block is marked -/
def ClosedAt (nx : List (List Int)) (d : Int) (is : List Bool) (b : Nat) : Prop := is.getD b false = true → ∀ c ∈ nb nx (b : Int), c = d ∨ is.getD c.toNat false = true
theorem MI.done {nx : List (List Int)} {d : Int} {n : Nat} {is : List Bool} (hw : Wf nx) (hn : nx.length = n) (h : MI nx d n is) (hc : ∀ b, b < n → ClosedAt nx d is b) : ∀ x : Nat, x < n → (is.getD x false = true ↔ AR (Ex nx) d (x : Int)) := by
  have key : ∀ y, AR (Ex nx) d y → is.getD y.toNat false = true := by
    intro y hy
    induction hy with
    | zero hne => exact h.zero hne
    | @step a b h1 he hne ih =>
      have hb := post_bound nx hw he.1
      have := hc a.toNat (by omega) ih b (by rw [show ((a.toNat : Nat) : Int) = a by omega]; exact he.2)
      exact this.resolve_left hne
  exact fun x hx => ⟨h.sound x hx, fun ha => by have := key _ ha; rwa [Int.toNat_natCast] at this⟩
theorem MI.set {nx : List (List Int)} {d : Int} {n : Nat} {is : List Bool} (hw : Wf nx) (hn : nx.length = n) (h : MI nx d n is) {b c : Nat} (hb : b < n) (hm : is.getD b false = true) (hc : (c : Int) ∈ nb nx (b : Int)) (hcd : (c : Int) ≠ d) : MI nx d n (is.set c true) := by
  have hcn := hw.in_ _ _ hc
  have hl := h.len
  have ha := h.sound b hb hm
  refine ⟨by rw [List.length_set]; exact hl, fun x hx hx2 => ?_, fun hd => ?_⟩
  · rw [getD_set (by omega)] at hx2
    by_cases e : c = x
    · subst e; exact .step ha ⟨ar_post hw ha, hc⟩ hcd
    · rw [if_neg e] at hx2; exact h.sound x hx hx2
  · rw [getD_set (by omega)]
    split
    · rfl
    · exact h.zero hd
def is0 (d : Int) (k : Nat) : List Bool := (List.range k).map fun i => decide (i = 0) && decide (d ≠ 0)
theorem is0_getD (d : Int) {k x : Nat} (hx : x < k) : (is0 d k).getD x false = (decide (x = 0) && decide (d ≠ 0)) := by
  unfold is0; rw [List.getD_eq_getElem?_getD, List.getElem?_map, List.getElem?_range hx]; rfl
theorem MI.start {nx : List (List Int)} (hw : Wf nx) {n : Nat} (hp : 0 < n) (d : Int) : MI nx d n (is0 d n) := by
  refine ⟨by simp [is0], fun x hx h => ?_, fun hd => ?_⟩
  · rw [is0_getD d hx, Bool.and_eq_true, decide_eq_true_eq, decide_eq_true_eq] at h
    rw [h.1]; exact .zero h.2
  · rw [is0_getD d hp]; simp [hd]
end Go.Proofs.Ytmeaepmimnmjlaa.Ask
/- The reference: idom, by its meaning. -/
namespace Go.Proofs.Ytmeaepmimnmjlaa.Ask
open Go.Proofs.Ytmeaepmimnmjlaa.Dfs Go.Proofs.Ytmeaepmimnmjlaa.Dom Go.Proofs.Ytmeaepmimnmjlaa.DomT Go.RowKit Go.Shelf Go.Proofs.Ytmeaepmimnmjlaa.PGb Go.Proofs.Ytmeaepmimnmjlaa.Lit Go.Proofs.Ytmeaepmimnmjlaa.OwnCells Go.Proofs.YtmeaepmimnmjlaaW.PrintWords Go.Proofs.YtmeaepmimnmjlaaW.PrintLast Go.Proofs.YtmeaepmimnmjlaaW.PrintMore
attribute [local go_sem] Oper.semAt_some
attribute [local go_sem] run_store_fn
attribute [local go_sem] run_eql_fn
set_option linter.unusedVariables false
set_option linter.unusedSimpArgs false
section
variable {code : List S40} {hs : List S49} {n m : Nat} {st : List Int} {nx : List (List Int)} {ord l hd : List Int}
/-- strictly above b -/
def Above (nx : List (List Int)) (b : Nat) (a : Nat) : Prop := (a : Int) ≠ (b : Int) ∧ (a : Int) ∈ post nx ∧ ¬ AR (Ex nx) (a : Int) (b : Int)
end
end Go.Proofs.Ytmeaepmimnmjlaa.Ask
/- The reference: order, by its meaning. -/
namespace Go.Proofs.Ytmeaepmimnmjlaa.Ask
open Go.Proofs.Ytmeaepmimnmjlaa.Dfs Go.Proofs.Ytmeaepmimnmjlaa.Dom Go.Proofs.Ytmeaepmimnmjlaa.DomT Go.RowKit Go.Shelf Go.Proofs.Ytmeaepmimnmjlaa.PGb Go.Proofs.Ytmeaepmimnmjlaa.Lit Go.Proofs.Ytmeaepmimnmjlaa.OwnCells Go.Proofs.YtmeaepmimnmjlaaW.PrintWords Go.Proofs.YtmeaepmimnmjlaaW.PrintLast Go.Proofs.YtmeaepmimnmjlaaW.PrintMore
attribute [local go_sem] Oper.semAt_some
attribute [local go_sem] run_store_fn
attribute [local go_sem] run_eql_fn
set_option linter.unusedVariables false
set_option linter.unusedSimpArgs false
def mk0 (k : Nat) : List Bool := (List.range k).map fun i => decide (i = 0)
/-- two rows lie in different blocks -/
def Ap (v u : Value) : Prop := ∀ k, v.ownBlock = some k → u.ownBlock ≠ some k
theorem Ap.symm {v u : Value} (h : Ap v u) : Ap u v := fun k hk e => h k e hk
theorem Ap.grown {W : World} {B n s : Nat} {e : TypeId} {u v v' : Value} {xs : List Value} (hu : W.ownsRow B e s u n xs) (h : Ap u v) (hat : v'.ownBlock = v.ownBlock ∨ ∃ k, v'.ownBlock = some k ∧ W.heap.size ≤ k) : Ap u v' := by
  intro k hk e
  rcases hat with h1 | ⟨k', h1, h2⟩
  · exact h k hk (h1 ▸ e)
  · have := own_lt hu k hk
    rw [h1] at e
    cases e
    omega
/-- the four lists: marked, open, through, written -/
structure OR (w W : World) (n : Nat) (v3 v5 v6 v7 : Value) (M : List Bool) (O T X : List Int) : Prop where
  mks : W.ownsRow w.heap.size 4 1 v3 n (M.map Value.bool)
  op : W.ownsRow w.heap.size 3 1 v5 O.length (O.map (Value.int .i64))
  th : W.ownsRow w.heap.size 3 1 v6 T.length (T.map (Value.int .i64))
  out : W.ownsRow w.heap.size 3 1 v7 X.length (X.map (Value.int .i64))
  a56 : Ap v5 v6
  a57 : Ap v5 v7
  a67 : Ap v6 v7
  below : Below w.heap.size w W
section
variable {w W W' : World} {n : Nat} {v3 v5 v6 v7 v9 : Value} {M : List Bool} {O T X : List Int}
theorem OR.from_ (h : OR w W n v3 v5 v6 v7 M O T X) (hb : Below W.heap.size W W') : OR w W' n v3 v5 v6 v7 M O T X :=
  ⟨own_move h.mks fun k hk => hb.block k (own_lt h.mks k hk), own_move h.op fun k hk => hb.block k (own_lt h.op k hk), own_move h.th fun k hk => hb.block k (own_lt h.th k hk), own_move h.out fun k hk => hb.block k (own_lt h.out k hk), h.a56, h.a57, h.a67, h.below.trans (hb.mono h.below.size)⟩
end
end Go.Proofs.Ytmeaepmimnmjlaa.Ask
/- Rows of rows, of any element; rows beside a box. -/
namespace Go.Proofs.Ytmeaepmimnmjlaa.Ask
open Go.Proofs.Ytmeaepmimnmjlaa.Dfs Go.Proofs.Ytmeaepmimnmjlaa.Dom Go.Proofs.Ytmeaepmimnmjlaa.DomT Go.RowKit Go.Shelf Go.Proofs.Ytmeaepmimnmjlaa.PGb Go.Proofs.Ytmeaepmimnmjlaa.Lit Go.Proofs.Ytmeaepmimnmjlaa.OwnCells Go.Proofs.YtmeaepmimnmjlaaW.PrintWords Go.Proofs.YtmeaepmimnmjlaaW.PrintLast Go.Proofs.YtmeaepmimnmjlaaW.PrintMore
set_option linter.unusedVariables false
/-- lists of the call's own, one behind the other -/
structure RR {β : Type} (f : β → Value) (t : TypeId) (W : World) (base : Nat) (vs : List Value) (ls : List (List β)) : Prop where
  len : vs.length = ls.length
  each : ∀ j, j < ls.length → W.ownsRow base t 1 (vs.getD j undef) (ls.getD j []).length ((ls.getD j []).map f)
section
variable {β : Type} {f : β → Value} {t : TypeId} {W W' : World} {base : Nat} {vs : List Value} {ls : List (List β)}
theorem RR.nil (W : World) (base : Nat) : RR f t W base [] [] := ⟨rfl, fun j hj => absurd hj (Nat.not_lt_zero _)⟩
theorem RR.below (h : RR f t W base vs ls) (hb : Below W.heap.size W W') : RR f t W' base vs ls := ⟨h.len, fun j hj => own_move (h.each j hj) fun k hk => hb.block k (own_lt (h.each j hj) k hk)⟩
theorem RR.kept (h : RR f t W base vs ls) {e : TypeId} {b n : Nat} {v7 : Value} {xs : List Value} (h7 : W.ownsRow b e 1 v7 n xs) (he : t ≠ e) (hg : W.grownBy W' v7.ownBlock) : RR f t W' base vs ls := ⟨h.len, fun j hj => (h.each j hj).kept hg (own_ne (h.each j hj) h7 he)⟩
theorem RR.more (h : RR f t W base vs ls) {v : Value} {l : List β} (hv : W.ownsRow base t 1 v l.length (l.map f)) : RR f t W base (vs ++ [v]) (ls ++ [l]) := by
  refine ⟨by rw [List.length_append, List.length_append, h.len]; rfl, fun j hj => ?_⟩
  have hl := h.len
  rw [List.length_append] at hj
  simp only [List.length_cons, List.length_nil] at hj
  by_cases e : j < ls.length
  · have e1 : (vs ++ [v]).getD j undef = vs.getD j undef := by rw [List.getD_eq_getElem?_getD, List.getD_eq_getElem?_getD, List.getElem?_append_left (by omega)]
    have e2 : (ls ++ [l]).getD j [] = ls.getD j [] := by rw [List.getD_eq_getElem?_getD, List.getD_eq_getElem?_getD, List.getElem?_append_left e]
    rw [e1, e2]; exact h.each j e
  · have e0 : j = ls.length := by omega
    subst e0
    have e1 : (vs ++ [v]).getD ls.length undef = v := by rw [List.getD_eq_getElem?_getD, List.getElem?_append_right (by omega)]; simp [hl]
    have e2 : (ls ++ [l]).getD ls.length [] = l := by rw [List.getD_eq_getElem?_getD, List.getElem?_append_right (by omega)]; simp
    rw [e1, e2]; exact hv
theorem own_setLow {b e s n g j : Nat} {v u : Value} {xs : List Value} (h : W.ownsRow b e s v n xs) (hg : g < b) : (W.setCell ⟨g, j, none⟩ u).ownsRow b e s v n xs := own_move h fun k hk => Below.heap_setCell W ⟨g, j, none⟩ u k (by have := own_base h k hk; simp; omega)
/-- they read as a list of lists -/
theorem RR.C (h : RR f t W base vs ls) (k : Kd β) (hk : ∀ {A : Option Addr} {c : Nat} {l : List β}, W.ownsRow base t 1 (.slice A l.length c) l.length (l.map f) → k.C W A l.length l ∧ l.length ≤ c) {b e c : Nat} {A : Option Addr} (ho : W.ownsRow b e 1 (.slice A ls.length c) ls.length vs) (hn : ls.length < 9223372036854775807) (hs : 0 < ls.length) : (Kd.slice t k).C W A ls.length ls := by
  obtain ⟨g, rfl⟩ : ∃ g, A = some ⟨g, 0, none⟩ := by
    rcases ho.2 with ⟨e, _⟩ | ⟨g, cap, cur, e, _⟩
    · injection e with e1 e2 e3
      exact absurd hs (by omega)
    · injection e with e1 e2 e3
      exact ⟨g, e1⟩
  have hl := h.len
  refine ⟨rfl, by omega, fun hp => ⟨⟨g, 0, none⟩, rfl, fun i p hi => ?_⟩⟩
  have hi' : i < ls.length := (List.getElem?_eq_some_iff.1 hi).1
  have her := h.each i hi'
  obtain ⟨A, c, hv⟩ := row_slice her
  have hg : ls.getD i [] = p := by rw [List.getD_eq_getElem?_getD, hi]; rfl
  rw [hv, hg] at her
  rw [hg] at hv
  obtain ⟨h1, h2⟩ := hk her
  refine ⟨[.slice A p.length c], rfl, ⟨A, c, rfl, h2, h1⟩, fun j u hj => ?_⟩
  match j, hj with
  | 0, hj =>
    simp at hj
    subst hj
    have := ho.cellAt i (by omega)
    have e9 : vs[i]? = some (vs.getD i undef) := by rw [List.getD_eq_getElem?_getD, List.getElem?_eq_getElem (by omega)]; rfl
    rw [e9, hv] at this
    have e : ((⟨g, 0, none⟩ : Addr).add (i * 1 + 0)) = ⟨g, i, none⟩ := by rw [show i * 1 + 0 = i by omega]; by_cases h0 : i = 0 <;> simp [Addr.add, h0]
    show W.cell? ((⟨g, 0, none⟩ : Addr).add (i * 1 + 0)) = _
    rw [e]; exact this
end
/-- an own list of numbers whose block is not ve's -/
def OwnI (hs : Nat) (ve : Value) (L : List Int) (W : World) (v : Value) : Prop := ∃ A c, v = .slice A L.length c ∧ W.ownsRow hs 3 1 v L.length (L.map (Value.int .i64)) ∧ ∀ k, v.ownBlock = some k → ve.ownBlock ≠ some k
theorem OwnI.below {hs : Nat} {ve : Value} {L : List Int} {W W' : World} {v : Value} (h : OwnI hs ve L W v) (hb : Below W.heap.size W W') : OwnI hs ve L W' v := by
  obtain ⟨A, c, e, ho, hne⟩ := h
  exact ⟨A, c, e, own_move ho fun k hk => hb.block k (own_lt ho k hk), hne⟩
theorem OwnI.grown {hs : Nat} {ve : Value} {L : List Int} {W W' : World} {v : Value} (h : OwnI hs ve L W v) (hg : W.grownBy W' ve.ownBlock) : OwnI hs ve L W' v := by
  obtain ⟨A, c, e, ho, hne⟩ := h
  refine ⟨A, c, e, ho.kept hg ?_, hne⟩
  cases hv : v.ownBlock with
  | none => exact .inl rfl
  | some k => exact .inr (fun e => hne k hv e.symm)
theorem BS.grown {w W W' : World} {GB base n : Nat} {cf gc : Array Value} {v : Value} {e : TypeId} {xs : List Value} (a : BS w W GB cf gc) (h : W.ownsRow base e 1 v n xs) (hB : GB < base) (he : e ≠ 25 ∧ e ≠ 29) (hg : W.grownBy W' v.ownBlock) : BS w W' GB cf gc := by
  have hlo := a.lo
  refine ⟨(hg.block _ (blk_lt a.fb) (own_ne_box h a.fb he.1)).trans a.fb, (hg.block _ (blk_lt a.rb) (own_ne_box h a.rb he.2)).trans a.rb, (hg.block _ (blk_lt a.gb) (own_ne_box h a.gb he.2)).trans a.gb, a.below.grown hg a.below.size (fun k hk => ?_), a.lo⟩
  have := own_base h k hk
  omega
theorem RR.C_int {W : World} {base b e n c : Nat} {vs : List Value} {ls : List (List Int)} {A : Option Addr} (h : RR (Value.int .i64) 3 W base vs ls) (ho : W.ownsRow b e 1 (.slice A n c) n vs) (hl : ls.length = n) (hn : n < 9223372036854775807) (hs : 0 < n) : (Kd.slice 3 (Kd.int .i64)).C W A n ls := by
  subst hl
  exact h.C _ (fun h => row_C h) ho hn hs
/-- the four lists that stand when the order is made -/
structure RQ (W : World) (base n : Nat) (st : List Int) (nx : List (List Int)) (ord : List Int) (As A1 A2 : Option Addr) (cs c1 c2 : Nat) (vs : List Value) : Prop where
  s : W.ownsRow base 3 1 (.slice As n cs) n (st.map (Value.int .i64))
  o : W.ownsRow base 26 1 (.slice A1 n c1) n vs
  r : RR (Value.int .i64) 3 W base vs nx
  q : W.ownsRow base 3 1 (.slice A2 n c2) n (ord.map (Value.int .i64))
theorem GF.nb_len {code : List S40} {hs : List S49} {n m : Nat} {st : List Int} {nx : List (List Int)} {ord l hd : List Int} (g : GF code hs n m st nx ord l hd) (b : Int) : (nb nx b).length ≤ n := by
  by_cases h : b.toNat < n
  · have := g.row_len h
    rw [rd_L3, Int.toNat_natCast] at this
    exact this
  · have e : nb nx b = [] := by
      show nx.getD b.toNat [] = []
      rw [List.getD_eq_getElem?_getD, List.getElem?_eq_none (by rw [g.lnx]; omega)]; rfl
    rw [e]; exact Nat.zero_le _
end Go.Proofs.Ytmeaepmimnmjlaa.Ask
/- The reference: Build, by its meaning. -/
namespace Go.Proofs.Ytmeaepmimnmjlaa.Ask
open Go.Proofs.Ytmeaepmimnmjlaa.Dfs Go.Proofs.Ytmeaepmimnmjlaa.Dom Go.Proofs.Ytmeaepmimnmjlaa.DomT Go.RowKit Go.Shelf Go.Proofs.Ytmeaepmimnmjlaa.PGb Go.Proofs.Ytmeaepmimnmjlaa.Lit Go.Proofs.Ytmeaepmimnmjlaa.OwnCells Go.Proofs.YtmeaepmimnmjlaaW.PrintWords Go.Proofs.YtmeaepmimnmjlaaW.PrintLast Go.Proofs.YtmeaepmimnmjlaaW.PrintMore
attribute [local go_sem] Oper.semAt_some
attribute [local go_sem] run_store_fn
attribute [local go_sem] run_eql_fn
set_option linter.unusedVariables false
set_option linter.unusedSimpArgs false
def dQ20 : Nat → Option Tmp
  | 0 => some 103
  | 1 => some 104
  | 2 => some 105
  | 3 => some 106
  | 4 => some 107
  | 5 => some 108
  | 6 => some 109
  | 7 => some 110
  | 8 => some 111
  | 9 => some 112
  | _ => none
def FQ20 (GB b base hs m : Nat) (fa sl ve : Value) (xs : List Value) (L : List Int) : Nat → World → Value → Prop
  | 0, _, v => v = .pointer (some ⟨GB, 1, none⟩)
  | 1, _, v => v = ve
  | 2, _, v => v = fa
  | 3, _, v => v = .pointer (some ⟨GB, 0, none⟩)
  | 4, _, v => v = sl
  | 5, _, v => v = .int .i64 (b : Int)
  | 6, w, v => OwnI hs ve L w v
  | 7, w, v => ∃ g u, v = .slice (some ⟨g, 0, none⟩) 1 1 ∧ w.cell? ⟨g, 0, none⟩ = some u ∧ ve.ownBlock ≠ some g ∧ OwnI hs ve L w u
  | 8, w, v => ∃ u, OwnI hs ve L w u ∧ w.ownsRow base 26 1 v (m + 1) (xs ++ [u]) ∧ (v.ownBlock = ve.ownBlock ∨ ∃ k, v.ownBlock = some k ∧ hs ≤ k)
  | 9, _, v => v = .pointer (some ⟨GB, 1, none⟩)
  | _, _, _ => True
def dQ31 : Nat → Option Tmp
  | 0 => some 141
  | 1 => some 142
  | 2 => some 143
  | 3 => some 144
  | 4 => some 145
  | 5 => some 146
  | 6 => some 147
  | 7 => some 148
  | 8 => some 149
  | _ => none
def FQ31 (GB b base hs m : Nat) (al cu ve : Value) (x : Int) (xs : List Value) : Nat → World → Value → Prop
  | 0, _, v => v = .pointer (some ⟨GB, 3, none⟩)
  | 1, _, v => v = ve
  | 2, _, v => v = al
  | 3, _, v => v = cu
  | 4, _, v => v = .int .i64 (b : Int)
  | 5, _, v => v = .int .i64 x
  | 6, w, v => ∃ g, v = .slice (some ⟨g, 0, none⟩) 1 1 ∧ w.cell? ⟨g, 0, none⟩ = some (.int .i64 x) ∧ ve.ownBlock ≠ some g
  | 7, w, v => w.ownsRow base 3 1 v (m + 1) (xs ++ [.int .i64 x]) ∧ (v.ownBlock = ve.ownBlock ∨ ∃ k, v.ownBlock = some k ∧ hs ≤ k)
  | 8, _, v => v = .pointer (some ⟨GB, 3, none⟩)
  | _, _, _ => True
/-- the two boxes -/
structure FR (w W : World) (cf : Array Value) : Prop where
  fb : W.heap[w.heap.size]? = some (.cells cf 25 (0, 0))
  rb : W.heap[w.heap.size + 1]? = some (.cells #[.slice none 0 0, .slice none 0 0, .slice none 0 0, .slice none 0 0, .slice none 0 0] 29 (0, 0))
  below : Below w.heap.size w W
theorem FR.from_ {w W W' : World} {cf : Array Value} (a : FR w W cf) (hb : Below W.heap.size W W') : FR w W' cf := ⟨blk_below a.fb hb, blk_below a.rb hb, a.below.trans (hb.mono a.below.size)⟩
end Go.Proofs.Ytmeaepmimnmjlaa.Ask
/- The reference: Build, by its meaning: a function that does not fit. -/
namespace Go.Proofs.Ytmeaepmimnmjlaa.Ask
open Go.Proofs.Ytmeaepmimnmjlaa.Dfs Go.Proofs.Ytmeaepmimnmjlaa.Dom Go.Proofs.Ytmeaepmimnmjlaa.DomT Go.RowKit Go.Shelf Go.Proofs.Ytmeaepmimnmjlaa.PGb Go.Proofs.Ytmeaepmimnmjlaa.Lit Go.Proofs.Ytmeaepmimnmjlaa.OwnCells Go.Proofs.YtmeaepmimnmjlaaW.PrintWords Go.Proofs.YtmeaepmimnmjlaaW.PrintLast Go.Proofs.YtmeaepmimnmjlaaW.PrintMore
attribute [local go_sem] Oper.semAt_some
attribute [local go_sem] run_store_fn
attribute [local go_sem] run_eql_fn
set_option linter.unusedVariables false
set_option linter.unusedSimpArgs false
end Go.Proofs.Ytmeaepmimnmjlaa.Ask
/- What reads the same is found the same: numbers, rows, graphs, handlers. For every world. -/
namespace Go.Proofs.Ytmeaepmimnmjlaa.Ask
open Go.RowKit Go.Proofs.Ytmeaepmimnmjlaa.PGb Go.Proofs.Ytmeaepmimnmjlaa.Lit Go.Proofs.YtmeaepmimnmjlaaW.PrintWords Go.Proofs.YtmeaepmimnmjlaaW.PrintLast Go.Proofs.YtmeaepmimnmjlaaW.PrintMore
set_option linter.unusedVariables false
set_option linter.unusedSimpArgs false
theorem C_drewN' {α : Type} {d : Kd α} {w : World} {A : Option Addr} {n : Nat} {xs : List α} (h : d.C w A n xs) (m : Nat) : d.C (w.drewN m) A n xs := Kd.C_below h (pw_below_drewN (Below.refl _ _) m)
set_option maxHeartbeats 1000000 in
set_option maxRecDepth 100000 in
theorem same_ints (A B : Option Addr) (c d : Nat) (l : List Int) (w : World) (hA : (Kd.int .i64).C w A l.length l) (hB : (Kd.int .i64).C w B l.length l) (hl : l.length ≤ 17592186044416) :
    Calls Try.prog 31 #[.slice A l.length c, .slice B l.length d] w fun e w' => e = .returned (.bool true) ∧ ∃ m, w' = w.drewN m := by
  have HA := Aside0.mk hA
  have HB := Aside0.mk hB
  clear hA hB
  go_enter Try.func31, Try.ntmps31
  go_wp2
  go_loopw [5] (fun t wr => ∃ k : Nat, k ≤ l.length ∧ t = .int .i64 k ∧ ∃ m, wr = w.drewN m) (fun t _ => l.length - (intOf t).toNat)
  case atStart => exact ⟨0, Nat.zero_le _, rfl, 0, rfl⟩
  case round =>
    obtain ⟨k, hk, rfl, m, rfl⟩ := hrel
    by_cases hlt : k < l.length
    · obtain ⟨a, rfl, q0⟩ := Kd.at_int HA.out (k : Int) (by omega) (by omega)
      obtain ⟨b, rfl, p0⟩ := Kd.at_int HB.out (k : Int) (by omega) (by omega)
      rw [Int.toNat_natCast] at q0 p0
      go_wp2
      go_quiet (fail)
      go_wp2
      go_roundw
      case rel => exact ⟨k + 1, by omega, by go_num, _, rfl⟩
      case measure => simp [intOf]; omega
    · go_wp2
      go_ret
      exact ⟨rfl, m, rfl⟩
/-- a graph that is read -/
structure GX (W : World) (v : Value) (st : List Int) (nx : List (List Int)) (ord l hd : List Int) (a0 a1 a2 a3 a4 : Option Addr) (c0 c1 c2 c3 c4 : Nat) : Prop where
  val : v = .agg #[.slice a0 st.length c0, .slice a1 nx.length c1, .slice a2 ord.length c2, .slice a3 l.length c3, .slice a4 hd.length c4]
  r0 : (Kd.int .i64).C W a0 st.length st
  r1 : (Kd.slice 3 (Kd.int .i64)).C W a1 nx.length nx
  r2 : (Kd.int .i64).C W a2 ord.length ord
  r3 : (Kd.int .i64).C W a3 l.length l
  r4 : (Kd.int .i64).C W a4 hd.length hd
def GR (W : World) (v : Value) (st : List Int) (nx : List (List Int)) (ord l hd : List Int) : Prop := ∃ a0 a1 a2 a3 a4 c0 c1 c2 c3 c4, GX W v st nx ord l hd a0 a1 a2 a3 a4 c0 c1 c2 c3 c4
theorem GR.below {W W' : World} {v : Value} {st : List Int} {nx : List (List Int)} {ord l hd : List Int} (h : GR W v st nx ord l hd) (hb : Below W.heap.size W W') : GR W' v st nx ord l hd := by
  obtain ⟨a0, a1, a2, a3, a4, c0, c1, c2, c3, c4, hv, r0, r1, r2, r3, r4⟩ := h
  exact ⟨a0, a1, a2, a3, a4, c0, c1, c2, c3, c4, hv, Kd.C_below r0 hb, Kd.C_below r1 hb, Kd.C_below r2 hb, Kd.C_below r3 hb, Kd.C_below r4 hb⟩
/-- the bounds of a graph's lists -/
structure GSm (st : List Int) (nx : List (List Int)) (ord l hd : List Int) : Prop where
  s0 : st.length ≤ 17592186044416
  s1 : nx.length ≤ 17592186044416
  s2 : ord.length ≤ 17592186044416
  s3 : l.length ≤ 17592186044416
  s4 : hd.length ≤ 17592186044416
  s5 : ∀ i : Int, (rd_L3 nx i).length ≤ 17592186044416
end Go.Proofs.Ytmeaepmimnmjlaa.Ask
/- The program's Build and the reference's: the same graph, the same error. For every world. -/
namespace Go.Proofs.Ytmeaepmimnmjlaa.Ask
open Go.Proofs.Ytmeaepmimnmjlaa.Dfs Go.Proofs.Ytmeaepmimnmjlaa.Dom Go.Proofs.Ytmeaepmimnmjlaa.DomT Go.RowKit Go.Shelf Go.Proofs.Ytmeaepmimnmjlaa.PGb Go.Proofs.Ytmeaepmimnmjlaa.Lit Go.Proofs.Ytmeaepmimnmjlaa.OwnCells Go.Proofs.YtmeaepmimnmjlaaW.PrintWords Go.Proofs.YtmeaepmimnmjlaaW.PrintLast Go.Proofs.YtmeaepmimnmjlaaW.PrintMore
set_option linter.unusedVariables false
set_option linter.unusedSimpArgs false
/-- the graph that a function has -/
def GZ (code : List S40) (hs : List S49) (st : List Int) (nx : List (List Int)) (ord l hd : List Int) : Prop := (FitsP code hs ∧ ∃ n m, GF code hs n m st nx ord l hd) ∨ (¬ FitsP code hs ∧ st = [] ∧ nx = [] ∧ ord = [] ∧ l = [] ∧ hd = [])
theorem GZ.small {code : List S40} {hs : List S49} {st : List Int} {nx : List (List Int)} {ord l hd : List Int} (g : GZ code hs st nx ord l hd) (hn : code.length ≤ 1048576) : GSm st nx ord l hd := by
  rcases g with ⟨hf, n, m, g⟩ | ⟨hf, rfl, rfl, rfl, rfl, rfl⟩
  · have h := g.short
    have hm := g.shorth
    refine ⟨by rw [g.ln]; omega, by rw [g.lnx]; omega, by rw [g.lord]; omega, by rw [g.ll]; omega, by rw [g.lm]; omega, fun i => ?_⟩
    have := g.nb_len i
    show (nb nx i).length ≤ _
    omega
  · refine ⟨by simp, by simp, by simp, by simp, by simp, fun i => ?_⟩
    simp [rd_L3]
theorem GR.nil (W : World) : GR W (.agg #[.slice none 0 0, .slice none 0 0, .slice none 0 0, .slice none 0 0, .slice none 0 0]) [] [] [] [] [] :=
  ⟨none, none, none, none, none, 0, 0, 0, 0, 0, rfl, ⟨rfl, by decide, fun h => absurd h (by decide)⟩, ⟨rfl, by decide, fun h => absurd h (by decide)⟩, ⟨rfl, by decide, fun h => absurd h (by decide)⟩, ⟨rfl, by decide, fun h => absurd h (by decide)⟩, ⟨rfl, by decide, fun h => absurd h (by decide)⟩⟩
theorem GR.of_gv {W : World} {a0 a1 a2 a3 a4 : Option Addr} {c0 c1 c2 c3 c4 n m : Nat} {code : List S40} {hs : List S49} {st : List Int} {nx : List (List Int)} {ord l hd : List Int} (h : GV W a0 a1 a2 a3 a4 c0 c1 c2 c3 c4 n m st nx ord l hd) (g : GF code hs n m st nx ord l hd) : GR W (.agg #[.slice a0 n c0, .slice a1 n c1, .slice a2 n c2, .slice a3 n c3, .slice a4 m c4]) st nx ord l hd := by
  obtain ⟨r0, r1, r2, r3, r4, _⟩ := h
  refine ⟨a0, a1, a2, a3, a4, c0, c1, c2, c3, c4, by rw [g.ln, g.lnx, g.lord, g.ll, g.lm], ?_, ?_, ?_, ?_, ?_⟩
  · rw [g.ln]; exact r0
  · rw [g.lnx]; exact r1
  · rw [g.lord]; exact r2
  · rw [g.ll]; exact r3
  · rw [g.lm]; exact r4
/-- a graph that reads so in every world that keeps what was made between w and w' -/
def Held (w w' : World) (v : Value) (st : List Int) (nx : List (List Int)) (ord l hd : List Int) : Prop := ∀ W, w'.heap.size ≤ W.heap.size → (∀ k o, w.heap.size ≤ k → w'.heap[k]? = some o → o.isCells = true → W.heap[k]? = some o) → GR W v st nx ord l hd
section
variable {code : List S40} {hs : List S49} {w : World} {nm : ByteArray} {pa lo : Int} {A3 A4 : Option Addr} {c3 c4 : Nat}
theorem graph_build (hn : code.length ≤ 1048576) (hhn : hs.length ≤ 8796093022208) (hC : k40.C w A3 code.length code) (hc3 : code.length ≤ c3) (hH : k49.C w A4 hs.length hs) (hc4 : hs.length ≤ c4) :
    Calls Try.prog 13 #[.agg #[.string nm, .int .i64 pa, .int .i64 lo, .slice A3 code.length c3, .slice A4 hs.length c4]] w fun e w' => ∃ v st nx ord l hd, e = .returned (.tuple #[v, .int .i64 (errOf code hs)]) ∧ GZ code hs st nx ord l hd ∧ Held w w' v st nx ord l hd ∧ Below w.heap.size w w' := by
  have hchk := check_f nm pa lo code hs (by omega) (by omega)
  by_cases hf : FitsP code hs
  · rw [(errOf_fits code hs).2 hf] at hchk ⊢
    refine (build_yes _ nm pa lo A3 A4 c3 c4 code hs w hC hc3 hH hc4 hchk hf (by omega) hhn).mono ?_
    rintro e w' ⟨v0, v1, v2, v3, v4, st, hdl, l, rfl, hbt, hb⟩
    obtain ⟨a0, a1, a2, a3, a4, d0, d1, d2, d3, d4, n, m, nx, ord, rfl, rfl, rfl, rfl, rfl, gv, g⟩ := hbt.gv hf (by omega)
    refine ⟨_, st, nx, ord, l, hdl, rfl, .inl ⟨hf, n, m, g⟩, fun W h1 h2 => ?_, hb⟩
    exact GR.of_gv ((hbt.held h1 h2).gv2 hf (by omega) g) g
  · have he : errOf code hs ≠ 0 := fun h => hf ((errOf_fits code hs).1 h)
    refine (build_no _ nm pa lo (errOf code hs) A3 A4 c3 c4 code hs w hC hc3 hH hc4 hchk he).mono ?_
    rintro e w' ⟨rfl, hb⟩
    exact ⟨_, [], [], [], [], [], rfl, .inr ⟨hf, rfl, rfl, rfl, rfl, rfl⟩, fun W _ _ => GR.nil _, hb⟩
end
end Go.Proofs.Ytmeaepmimnmjlaa.Ask
