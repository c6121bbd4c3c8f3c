import Derived.Test.YtapgnackoclbeaaFlD
import Derived.Test.YtapgnackoclbeaaPRealx9
namespace Go.Proofs.Ytapgnackoclbeaa.PReal
open Go.RowKit Go.Proofs.Ytapgnackoclbeaa.Fl

theorem isNaN_eq (a : Nat) (h : a < 2^64) : portagelaw03_isNaN.f a = some (decide (infR < rung a)) := by
  unfold portagelaw03_isNaN.f
  rw [and_rung a h]
  congr 1
  rw [decide_eq_decide]
  show (9218868437227405312 : Int) < _ ↔ _
  rw [show (9218868437227405312 : Int) = (infR : Nat) from rfl]; omega

theorem key_eq (a : Nat) (h : a < 2^64) : portagelaw03_key.f a = some (Fl.key a) := by
  unfold portagelaw03_key.f Fl.key
  rw [and_rung a h, and_sgn a h]
  have h1 := rung_lt a
  cases sgn a
  · rw [if_pos (by simp), if_neg (by simp)]
    congr 1; unfold wrap64; omega
  · rw [if_neg (by simp), if_pos rfl]
    congr 1; unfold wrap64; omega

theorem awake_at (k : Nat) : portagelaw03_awake.f (k + 1) = some true := by
  have e1 : real_Add.f 4607182418800017408 4611686018427387904 = some 4613937818241073152 := by kernel_rfl
  have e2 : real_Mul.f 4611686018427387904 4613937818241073152 = some 4618441417868443648 := by kernel_rfl
  have e3 : real_Div.f 4618441417868443648 4613937818241073152 = some 4611686018427387904 := by kernel_rfl
  have e4 : real_Less.f 4607182418800017408 4611686018427387904 = some true := by kernel_rfl
  have e5 : real_Equal.f 4613937818241073152 4613937818241073152 = some true := by kernel_rfl
  have e6 : real_Sqrt.f 4607182418800017408 = some 4607182418800017408 := by kernel_rfl
  have e7 : real_FromInt.f 6 = some 4618441417868443648 := by kernel_rfl
  unfold portagelaw03_awake.f
  rw [e1, e2, e3]
  simp only [Option.bind_some, if_true, portagelaw03_awake.j0]
  rw [e4, e5, e6, e7]
  simp
end Go.Proofs.Ytapgnackoclbeaa.PReal
