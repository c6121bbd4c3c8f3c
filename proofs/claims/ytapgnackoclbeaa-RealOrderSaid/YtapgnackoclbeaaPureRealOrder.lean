/- RealOrder: of every two 64 bits: Less and Equal hold just where they hold of the bits' own order. For every input. -/
import Derived.Test.YtapgnackoclbeaaPRealx9
import Derived.Test.YtapgnackoclbeaaFlE
namespace Go.Proofs.Ytapgnackoclbeaa.Pure
open Go.RowKit Go.Proofs.Ytapgnackoclbeaa.PReal Go.Proofs.Ytapgnackoclbeaa.Fl Go.Proofs.YtapgnackoclbeaaW.PrintWords Go.Proofs.YtapgnackoclbeaaW.PrintLast

theorem less_real {a b : Nat} (ha : rung a ≤ infR) (hb : rung b ≤ infR) : real_Less.f a b = some (decide (key a < key b)) := by
  unfold real_Less.f
  rw [Int.toNat_natCast, Int.toNat_natCast, order_real ha hb, cmp_def]
  have h1 := val_lt_iff a b
  by_cases h : val a < val b
  · rw [if_pos h, decide_eq_true (h1.mp h)]; rfl
  · rw [if_neg h, decide_eq_false (fun hh => h (h1.mpr hh))]
    split <;> rfl
theorem equal_real {a b : Nat} (ha : rung a ≤ infR) (hb : rung b ≤ infR) : real_Equal.f a b = some (decide (key a = key b)) := by
  unfold real_Equal.f
  rw [Int.toNat_natCast, Int.toNat_natCast, order_real ha hb, cmp_def]
  have h1 := val_eq_iff a b
  by_cases h : val a < val b
  · rw [if_pos h, decide_eq_false (fun hh => by have := h1.mpr hh; omega)]; rfl
  · rw [if_neg h]
    by_cases h2 : val a = val b
    · rw [if_pos h2, decide_eq_true (h1.mp h2)]; rfl
    · rw [if_neg h2, decide_eq_false (fun hh => h2 (h1.mpr hh))]; rfl
theorem less_nan {a b : Nat} (h : infR < rung a ∨ infR < rung b) : real_Less.f a b = some false := by
  unfold real_Less.f
  rw [Int.toNat_natCast, Int.toNat_natCast, Fl.order_nan h]; rfl
theorem equal_nan {a b : Nat} (h : infR < rung a ∨ infR < rung b) : real_Equal.f a b = some false := by
  unfold real_Equal.f
  rw [Int.toNat_natCast, Int.toNat_natCast, Fl.order_nan h]; rfl

theorem RealOrder : portagelaw03_RealOrder.Pure := by
  intro a0 b0 wa wb
  obtain ⟨a, rfl, ha⟩ := u64_nat wa
  obtain ⟨b, rfl, hb⟩ := u64_nat wb
  refine ⟨3, ?_⟩
  unfold portagelaw03_RealOrder.f
  rw [isNaN_eq a ha, isNaN_eq b hb]
  simp only [Option.bind_some]
  by_cases h1 : infR < rung a
  · rw [if_pos (by simpa using h1)]
    simp only [portagelaw03_RealOrder.j0, if_true]
    rw [less_nan (Or.inl h1), equal_nan (Or.inl h1)]
    simp only [Option.bind_some, Bool.false_eq_true, if_false]
    rw [awake_at 1]; rfl
  · rw [if_neg (by simpa using h1)]
    by_cases h2 : infR < rung b
    · simp only [portagelaw03_RealOrder.j0, decide_eq_true h2, if_true]
      rw [less_nan (Or.inr h2), equal_nan (Or.inr h2)]
      simp only [Option.bind_some, Bool.false_eq_true, if_false]
      rw [awake_at 1]; rfl
    · simp only [portagelaw03_RealOrder.j0, decide_eq_false h2, Bool.false_eq_true, if_false]
      rw [less_real (by omega) (by omega), equal_real (by omega) (by omega), key_eq a ha, key_eq b hb]
      simp only [Option.bind_some]
      rw [if_pos (by simp)]
      by_cases h : key a = key b <;> simp [h]
end Go.Proofs.Ytapgnackoclbeaa.Pure
