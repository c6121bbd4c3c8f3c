/- RealSigns: of every two 64 bits: sums and products do not hang on the operands' order; turned signs turn products, quotients, and sums that are no zeros. For every input. -/
import Derived.Test.YtapgnackoclbeaaPRealx11
import Derived.Test.YtapgnackoclbeaaFlE
namespace Go.Proofs.Ytapgnackoclbeaa.Pure
open Go.RowKit Go.Proofs.Ytapgnackoclbeaa.PReal Go.Proofs.Ytapgnackoclbeaa.Fl Go.Proofs.YtapgnackoclbeaaW.PrintWords Go.Proofs.YtapgnackoclbeaaW.PrintLast

theorem fadd_negW_fneg (a b : Nat) : fadd a (negW b) = fadd a (fneg b) := by
  unfold fneg; rw [fadd_comm, fadd_comm a, fadd_canon]

theorem RealSigns : portagelaw03_RealSigns.Pure := by
  intro a0 b0 wa wb
  obtain ⟨a, rfl, ha⟩ := u64_nat wa
  obtain ⟨b, rfl, hb⟩ := u64_nat wb
  refine ⟨6, ?_⟩
  unfold portagelaw03_RealSigns.f
  rw [Add_eq, Mul_eq, Div_eq, Neg_eq a ha, Neg_eq b hb, Add_eq, Mul_eq]
  simp only [Option.bind_some]
  rw [fadd_comm b a, if_pos rfl, fmul_comm b a, if_pos rfl, Sub_eq, Neg_eq _ (fneg_lt b)]
  simp only [Option.bind_some]
  rw [Add_eq, fadd_negW_fneg]
  simp only [Option.bind_some, if_true]
  rw [Neg_eq _ (fneg_lt a), Canon_eq, fneg_fneg a ha]
  simp only [Option.bind_some, bne_self_eq_false, portagelaw03_RealSigns.j0, Bool.false_eq_true, if_false]
  rw [Mul_eq, Neg_eq _ (fmul_lt a b), Mul_eq, fmul_neg, fmul_neg_right]
  simp only [Option.bind_some, if_true, bne_self_eq_false, portagelaw03_RealSigns.j1, Bool.false_eq_true, if_false]
  rw [Div_eq, Neg_eq _ (fdiv_lt a b), Div_eq, fdiv_neg, fdiv_neg_right]
  simp only [Option.bind_some, if_true, bne_self_eq_false, portagelaw03_RealSigns.j2, Bool.false_eq_true, if_false]
  rw [Sub_eq, Add_eq, fadd_negW_fneg, awake_at, and_rung _ (fadd_lt a b)]
  by_cases h0 : rung (fadd a b) = 0
  · rw [if_pos (by rw [h0]; rfl)]; simp
  · rw [if_neg (by omega), Add_eq, Neg_eq _ (fadd_lt a b), fadd_neg a b h0]; simp
end Go.Proofs.Ytapgnackoclbeaa.Pure
