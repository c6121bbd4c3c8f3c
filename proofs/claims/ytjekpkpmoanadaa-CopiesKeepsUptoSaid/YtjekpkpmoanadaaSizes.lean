/- The row's bounds as Run's. -/
import Derived.Test.YtjekpkpmoanadaaRun1
namespace Go.Proofs.Ytjekpkpmoanadaa.PCop
set_option linter.unusedVariables false
theorem okL_of {l : List S43} (h : l.length * 56 ≤ 140737488351232 ∧ ∀ x0 ∈ l, ((Lit.int .i64 x0.f0).wf = true ∧ (x0.f1.length * 96 ≤ 140737488351232 ∧ ∀ x1 ∈ x0.f1, ((Lit.int .i64 x1.f0).wf = true ∧ (Lit.int .i64 x1.f1).wf = true ∧ (Lit.int .i64 x1.f2).wf = true ∧ (x1.f3.length * 16 ≤ 140737488351232 ∧ ∀ x2 ∈ x1.f3, ((Lit.int .i64 x2.f0).wf = true ∧ (Lit.int .i64 x2.f1).wf = true)) ∧ (Lit.int .i64 x1.f4).wf = true ∧ (Lit.int .i64 x1.f5).wf = true ∧ (Lit.int .i64 x1.f6).wf = true ∧ (x1.f7.length * 40 ≤ 140737488351232 ∧ ∀ x2 ∈ x1.f7, ((Lit.int .i64 x2.f0).wf = true ∧ (Lit.int .i64 x2.f1).wf = true ∧ (x2.f2.length * 16 ≤ 140737488351232 ∧ ∀ x3 ∈ x2.f2, ((Lit.int .i64 x3.f0).wf = true ∧ (Lit.int .i64 x3.f1).wf = true))))) ) ∧ (x0.f2.length * 8 ≤ 140737488351232 ∧ ∀ x1 ∈ x0.f2, (Lit.int .i64 x1).wf = true))) : OkL l where
  len := h.1
  ins := fun b hb => (h.2 b hb).2.1.1
  next := fun b hb => (h.2 b hb).2.2.1
  each := fun b hb x hx =>
    let ⟨_, _, h2, h3, _, _, _, h7⟩ := (h.2 b hb).2.1.2 x hx
    { dst := h2, args := h3.1, exit := h7.1, slots := fun s hs => (h7.2 s hs).2.2.1, wfa := fun o ho => (h3.2 o ho).2, wfs := fun s hs o ho => ((h7.2 s hs).2.2.2 o ho).2 }
theorem okL_upto {l : List S43} (h : l.length ≤ 1048576 ∧ ∀ x0 ∈ l, ((Lit.int .i64 x0.f0).wf = true ∧ (x0.f1.length ≤ 1048576 ∧ ∀ x1 ∈ x0.f1, ((Lit.int .i64 x1.f0).wf = true ∧ (Lit.int .i64 x1.f1).wf = true ∧ (Lit.int .i64 x1.f2).wf = true ∧ (x1.f3.length ≤ 1048576 ∧ ∀ x2 ∈ x1.f3, ((Lit.int .i64 x2.f0).wf = true ∧ (Lit.int .i64 x2.f1).wf = true)) ∧ (Lit.int .i64 x1.f4).wf = true ∧ (Lit.int .i64 x1.f5).wf = true ∧ (Lit.int .i64 x1.f6).wf = true ∧ (x1.f7.length ≤ 1048576 ∧ ∀ x2 ∈ x1.f7, ((Lit.int .i64 x2.f0).wf = true ∧ (Lit.int .i64 x2.f1).wf = true ∧ (x2.f2.length ≤ 1048576 ∧ ∀ x3 ∈ x2.f2, ((Lit.int .i64 x3.f0).wf = true ∧ (Lit.int .i64 x3.f1).wf = true))))) ) ∧ (x0.f2.length ≤ 1048576 ∧ ∀ x1 ∈ x0.f2, (Lit.int .i64 x1).wf = true))) : OkL l where
  len := by have := h.1; omega
  ins := fun b hb => by have := (h.2 b hb).2.1.1; omega
  next := fun b hb => by have := (h.2 b hb).2.2.1; omega
  each := fun b hb x hx =>
    let ⟨_, _, h2, h3, _, _, _, h7⟩ := (h.2 b hb).2.1.2 x hx
    { dst := h2, args := by have := h3.1; omega, exit := by have := h7.1; omega, slots := fun s hs => by have := (h7.2 s hs).2.2.1; omega, wfa := fun o ho => (h3.2 o ho).2, wfs := fun s hs o ho => ((h7.2 s hs).2.2.2 o ho).2 }
end Go.Proofs.Ytjekpkpmoanadaa.PCop
