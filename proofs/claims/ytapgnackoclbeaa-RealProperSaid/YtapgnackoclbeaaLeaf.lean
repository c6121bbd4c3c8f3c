/- The contracts of package real's functions over the machine's floats: what each of their calls gives, as a plain function of the operands' bits. For every input but Single's overflow. -/
import Derived.Test.YtapgnackoclbeaaProg
import Derived.WalkKit
import Derived.Tactics
import Derived.KernelRfl
import Derived.RowKit3
import Derived.WalkLawsBesides
import Derived.Laws.NewFold
import Derived.Laws.Externs
import Derived.Deep.Draws
import Derived.Lib.Hide
namespace Go.Proofs.Ytapgnackoclbeaa.PReal
open Go.RowKit
set_option linter.unusedVariables false
set_option linter.unusedSimpArgs false

/-- the one NaN -/
def nanW : Nat := 9221120237041090560
/-- the bits that 'laid' gives -/
def laidB (b : Nat) : Nat := if FloatKind.f64.format.order b b == some .eq then b else nanW
/-- what comes of an operation's answer -/
def opW : Option Nat → Nat
  | some r => laidB r
  | none => nanW

theorem order_nan {b : Nat} (h : Ieee.double.infRung < b % Ieee.double.signWeight) (c : Nat) : Ieee.double.order b c = none := by
  have hb : Ieee.double.read b = .nan (b / Ieee.double.signWeight % 2 == 1) (b % Ieee.double.signWeight - Ieee.double.infRung) := by
    unfold Ieee.Format.read
    have h1 : Ieee.double.binade ≤ Ieee.double.infRung := by decide
    rw [if_neg (by omega), if_neg (by omega), if_neg (by omega)]
  unfold Ieee.Format.order
  rw [hb]; rfl

theorem infRung_is : Ieee.double.infRung = 9218868437227405312 := by decide
theorem signWeight_is : Ieee.double.signWeight = 9223372036854775808 := by decide
theorem binade_is : Ieee.double.binade = 4503599627370496 := by decide

/-- the NaN that the tape gives -/
def tapeNaN (w : World) (q : Question) : Nat := q.cut (w.tape w.drawn q)
theorem nan_cut (t : Nat) : Ieee.double.infRung < ((t % 2) * 9223372036854775808 + 9218868437227405312 + 1 + (t / 2) % 4503599627370495) % Ieee.double.signWeight := by
  rw [infRung_is, signWeight_is]
  have h1 : t / 2 % 4503599627370495 < 4503599627370495 := Nat.mod_lt _ (by omega)
  generalize t / 2 % 4503599627370495 = r at *
  have h2 : t % 2 = 0 ∨ t % 2 = 1 := by omega
  rcases h2 with h2 | h2 <;> rw [h2] <;> omega
theorem tapeNaN_bits (w : World) (x y : Nat) (c : Nat) : Ieee.double.order (tapeNaN w (.nanBits .f64 x y)) c = none := order_nan (nan_cut _) _
theorem tapeNaN_conv (w : World) (x : Nat) (c : Nat) : Ieee.double.order (tapeNaN w (.nanConv .f64 x)) c = none := order_nan (nan_cut _) _
theorem laidB_nan {b : Nat} (h : Ieee.double.order b b = none) : laidB b = nanW := by
  unfold laidB; rw [show FloatKind.f64.format.order b b = none from h]; rfl

theorem run_float_nan {P : Program} (w : World) (op : BinOp) (t : TypeId) (x y : Nat) (hop : op = .add ∨ op = .sub ∨ op = .mul ∨ op = .quo) (h : floatBits op .f64 x y = none) :
    (binOp op t (.float .f64 x) (.float .f64 y)).run P w = .ok (.float .f64 (tapeNaN w (.nanBits .f64 x y))) w.drew := by
  unfold floatBits at h
  rcases hop with rfl | rfl | rfl | rfl <;> simp only at h <;> simp [binOp, Op.floatArith, h, Question.forced, tapeNaN]

@[go_sem] theorem call_frombits (n : Int) (w : World) : (callFunc 82 #[.int .u64 n]).run Try.prog w = .ok (.value (.float .f64 n.toNat)) w := by
  rw [run_callFunc_extern Try.func82 (by kernel_rfl) (by kernel_rfl) (by kernel_rfl) (e := Extern.MathFloatBits.float64frombits) (by kernel_rfl)]
  rfl
@[go_sem] theorem call_bits (b : Nat) (w : World) : (callFunc 84 #[.float .f64 b]).run Try.prog w = .ok (.value (.int .u64 b)) w := by
  rw [run_callFunc_extern Try.func84 (by kernel_rfl) (by kernel_rfl) (by kernel_rfl) (e := Extern.MathFloatBits.float64bits) (by kernel_rfl)]
  rfl
set_option maxHeartbeats 400000 in
theorem number_calls (a : Int) (w : World) :
    Calls Try.prog 57 #[.int .u64 a] w fun e w' => e = .returned (.float .f64 a.toNat) ∧ w' = w := by
  go_enter Try.func57, Try.ntmps57
  go_wp2
  go_ret
  exact ⟨rfl, rfl⟩

set_option maxHeartbeats 400000 in
theorem laid_calls (b : Nat) (w : World) :
    Calls Try.prog 60 #[.float .f64 b] w fun e w' => e = .returned (.int .u64 (laidB b : Nat)) ∧ w' = w := by
  unfold laidB
  by_cases h : (FloatKind.f64.format.order b b == some .eq) = true
  · have h' : (FloatKind.f64.format.order b b != some .eq) = false := by simp [bne, h]
    rw [if_pos h]
    go_enter Try.func60, Try.ntmps60
    go_wp2
    go_ret
    exact ⟨rfl, rfl⟩
  · have h' : (FloatKind.f64.format.order b b != some .eq) = true := by simp [bne, h]
    rw [if_neg h]
    go_enter Try.func60, Try.ntmps60
    go_wp2
    go_ret
    exact ⟨rfl, rfl⟩

/-- 'Add' -/
def real_Add.f (a0 a1 : Int) : Option Int := some ((opW (Ieee.double.add a0.toNat a1.toNat) : Nat) : Int)
set_option maxHeartbeats 800000 in
theorem real_Add.calls (a0 : Int) (a1 : Int) (r : Int) (w : World) (h : real_Add.f a0 a1 = some r) :
    Calls Try.prog 24 #[.int .u64 a0, .int .u64 a1] w fun e w' => e = .returned (.int .u64 r) ∧ ∃ n, w' = w.drewN n := by
  obtain rfl := Option.some.inj h
  clear h
  cases hx : Ieee.double.add a0.toNat a1.toNat with
  | some r =>
    have hrun := fun (w : World) => run_float_arith (P := Try.prog) w .add 40 .f64 a0.toNat a1.toNat r hx
    clear hx
    go_enter Try.func24, Try.ntmps24
    go_wp2_with (first | (go_at_call 57; refine (number_calls _ _).mono ?_; rintro e w' ⟨rfl, rfl⟩) | (go_at_call 60; refine (laid_calls _ _).mono ?_; rintro e w' ⟨rfl, rfl⟩))
    go_ret
    exact ⟨rfl, 0, rfl⟩
  | none =>
    have hrun := fun (w : World) => run_float_nan (P := Try.prog) w .add 40 a0.toNat a1.toNat (by simp) hx
    clear hx
    go_enter Try.func24, Try.ntmps24
    go_wp2_with (first | (go_at_call 57; refine (number_calls _ _).mono ?_; rintro e w' ⟨rfl, rfl⟩) | (go_at_call 60; refine (laid_calls _ _).mono ?_; rintro e w' ⟨rfl, rfl⟩))
    go_ret
    exact ⟨by rw [laidB_nan (tapeNaN_bits _ _ _ _)]; rfl, 1, rfl⟩

/-- 'Sub' -/
def real_Sub.f (a0 a1 : Int) : Option Int := some ((opW (Ieee.double.sub a0.toNat a1.toNat) : Nat) : Int)
set_option maxHeartbeats 800000 in
theorem real_Sub.calls (a0 : Int) (a1 : Int) (r : Int) (w : World) (h : real_Sub.f a0 a1 = some r) :
    Calls Try.prog 26 #[.int .u64 a0, .int .u64 a1] w fun e w' => e = .returned (.int .u64 r) ∧ ∃ n, w' = w.drewN n := by
  obtain rfl := Option.some.inj h
  clear h
  cases hx : Ieee.double.sub a0.toNat a1.toNat with
  | some r =>
    have hrun := fun (w : World) => run_float_arith (P := Try.prog) w .sub 40 .f64 a0.toNat a1.toNat r hx
    clear hx
    go_enter Try.func26, Try.ntmps26
    go_wp2_with (first | (go_at_call 57; refine (number_calls _ _).mono ?_; rintro e w' ⟨rfl, rfl⟩) | (go_at_call 60; refine (laid_calls _ _).mono ?_; rintro e w' ⟨rfl, rfl⟩))
    go_ret
    exact ⟨rfl, 0, rfl⟩
  | none =>
    have hrun := fun (w : World) => run_float_nan (P := Try.prog) w .sub 40 a0.toNat a1.toNat (by simp) hx
    clear hx
    go_enter Try.func26, Try.ntmps26
    go_wp2_with (first | (go_at_call 57; refine (number_calls _ _).mono ?_; rintro e w' ⟨rfl, rfl⟩) | (go_at_call 60; refine (laid_calls _ _).mono ?_; rintro e w' ⟨rfl, rfl⟩))
    go_ret
    exact ⟨by rw [laidB_nan (tapeNaN_bits _ _ _ _)]; rfl, 1, rfl⟩

/-- 'Mul' -/
def real_Mul.f (a0 a1 : Int) : Option Int := some ((opW (Ieee.double.mul a0.toNat a1.toNat) : Nat) : Int)
set_option maxHeartbeats 800000 in
theorem real_Mul.calls (a0 : Int) (a1 : Int) (r : Int) (w : World) (h : real_Mul.f a0 a1 = some r) :
    Calls Try.prog 28 #[.int .u64 a0, .int .u64 a1] w fun e w' => e = .returned (.int .u64 r) ∧ ∃ n, w' = w.drewN n := by
  obtain rfl := Option.some.inj h
  clear h
  cases hx : Ieee.double.mul a0.toNat a1.toNat with
  | some r =>
    have hrun := fun (w : World) => run_float_arith (P := Try.prog) w .mul 40 .f64 a0.toNat a1.toNat r hx
    clear hx
    go_enter Try.func28, Try.ntmps28
    go_wp2_with (first | (go_at_call 57; refine (number_calls _ _).mono ?_; rintro e w' ⟨rfl, rfl⟩) | (go_at_call 60; refine (laid_calls _ _).mono ?_; rintro e w' ⟨rfl, rfl⟩))
    go_ret
    exact ⟨rfl, 0, rfl⟩
  | none =>
    have hrun := fun (w : World) => run_float_nan (P := Try.prog) w .mul 40 a0.toNat a1.toNat (by simp) hx
    clear hx
    go_enter Try.func28, Try.ntmps28
    go_wp2_with (first | (go_at_call 57; refine (number_calls _ _).mono ?_; rintro e w' ⟨rfl, rfl⟩) | (go_at_call 60; refine (laid_calls _ _).mono ?_; rintro e w' ⟨rfl, rfl⟩))
    go_ret
    exact ⟨by rw [laidB_nan (tapeNaN_bits _ _ _ _)]; rfl, 1, rfl⟩

/-- 'Div' -/
def real_Div.f (a0 a1 : Int) : Option Int := some ((opW (Ieee.double.div a0.toNat a1.toNat) : Nat) : Int)
set_option maxHeartbeats 800000 in
theorem real_Div.calls (a0 : Int) (a1 : Int) (r : Int) (w : World) (h : real_Div.f a0 a1 = some r) :
    Calls Try.prog 30 #[.int .u64 a0, .int .u64 a1] w fun e w' => e = .returned (.int .u64 r) ∧ ∃ n, w' = w.drewN n := by
  obtain rfl := Option.some.inj h
  clear h
  cases hx : Ieee.double.div a0.toNat a1.toNat with
  | some r =>
    have hrun := fun (w : World) => run_float_arith (P := Try.prog) w .quo 40 .f64 a0.toNat a1.toNat r hx
    clear hx
    go_enter Try.func30, Try.ntmps30
    go_wp2_with (first | (go_at_call 57; refine (number_calls _ _).mono ?_; rintro e w' ⟨rfl, rfl⟩) | (go_at_call 60; refine (laid_calls _ _).mono ?_; rintro e w' ⟨rfl, rfl⟩))
    go_ret
    exact ⟨rfl, 0, rfl⟩
  | none =>
    have hrun := fun (w : World) => run_float_nan (P := Try.prog) w .quo 40 a0.toNat a1.toNat (by simp) hx
    clear hx
    go_enter Try.func30, Try.ntmps30
    go_wp2_with (first | (go_at_call 57; refine (number_calls _ _).mono ?_; rintro e w' ⟨rfl, rfl⟩) | (go_at_call 60; refine (laid_calls _ _).mono ?_; rintro e w' ⟨rfl, rfl⟩))
    go_ret
    exact ⟨by rw [laidB_nan (tapeNaN_bits _ _ _ _)]; rfl, 1, rfl⟩

/-- 'Less' -/
def real_Less.f (a0 a1 : Int) : Option Bool := some (Ieee.double.order a0.toNat a1.toNat == some .lt)
set_option maxHeartbeats 800000 in
theorem real_Less.calls (a0 : Int) (a1 : Int) (r : Bool) (w : World) (h : real_Less.f a0 a1 = some r) :
    Calls Try.prog 20 #[.int .u64 a0, .int .u64 a1] w fun e w' => e = .returned (.bool r) ∧ ∃ n, w' = w.drewN n := by
  obtain rfl := Option.some.inj h
  clear h
  go_enter Try.func20, Try.ntmps20
  go_wp2_with (first | (go_at_call 57; refine (number_calls _ _).mono ?_; rintro e w' ⟨rfl, rfl⟩) | (go_at_call 60; refine (laid_calls _ _).mono ?_; rintro e w' ⟨rfl, rfl⟩))
  go_ret
  exact ⟨rfl, 0, rfl⟩

/-- 'Equal' -/
def real_Equal.f (a0 a1 : Int) : Option Bool := some (Ieee.double.order a0.toNat a1.toNat == some .eq)
set_option maxHeartbeats 800000 in
theorem real_Equal.calls (a0 : Int) (a1 : Int) (r : Bool) (w : World) (h : real_Equal.f a0 a1 = some r) :
    Calls Try.prog 22 #[.int .u64 a0, .int .u64 a1] w fun e w' => e = .returned (.bool r) ∧ ∃ n, w' = w.drewN n := by
  obtain rfl := Option.some.inj h
  clear h
  go_enter Try.func22, Try.ntmps22
  go_wp2_with (first | (go_at_call 57; refine (number_calls _ _).mono ?_; rintro e w' ⟨rfl, rfl⟩) | (go_at_call 60; refine (laid_calls _ _).mono ?_; rintro e w' ⟨rfl, rfl⟩))
  go_ret
  exact ⟨rfl, 0, rfl⟩

/-- 'Canon' -/
def real_Canon.f (a0 : Int) : Option Int := some ((laidB a0.toNat : Nat) : Int)
set_option maxHeartbeats 800000 in
theorem real_Canon.calls (a0 : Int) (r : Int) (w : World) (h : real_Canon.f a0 = some r) :
    Calls Try.prog 43 #[.int .u64 a0] w fun e w' => e = .returned (.int .u64 r) ∧ ∃ n, w' = w.drewN n := by
  obtain rfl := Option.some.inj h
  clear h
  go_enter Try.func43, Try.ntmps43
  go_wp2_with (first | (go_at_call 57; refine (number_calls _ _).mono ?_; rintro e w' ⟨rfl, rfl⟩) | (go_at_call 60; refine (laid_calls _ _).mono ?_; rintro e w' ⟨rfl, rfl⟩))
  go_ret
  exact ⟨rfl, 0, rfl⟩

/-- 'Neg' -/
def real_Neg.f (a0 : Int) : Option Int := some ((laidB (Op.negFloat .f64 a0.toNat) : Nat) : Int)
set_option maxHeartbeats 800000 in
theorem real_Neg.calls (a0 : Int) (r : Int) (w : World) (h : real_Neg.f a0 = some r) :
    Calls Try.prog 42 #[.int .u64 a0] w fun e w' => e = .returned (.int .u64 r) ∧ ∃ n, w' = w.drewN n := by
  obtain rfl := Option.some.inj h
  clear h
  have hneg : ∀ (b : Nat) (w : World), (Op.unary .neg (.float .f64 b)).run Try.prog w = .ok (.float .f64 (Op.negFloat .f64 b)) w := fun _ _ => rfl
  go_enter Try.func42, Try.ntmps42
  go_wp2_with (first | (go_at_call 57; refine (number_calls _ _).mono ?_; rintro e w' ⟨rfl, rfl⟩) | (go_at_call 60; refine (laid_calls _ _).mono ?_; rintro e w' ⟨rfl, rfl⟩))
  go_ret
  exact ⟨rfl, 0, rfl⟩

/-- 'FromInt' -/
def real_FromInt.f (a0 : Int) : Option Int := some ((laidB (floatOfInt .f64 a0) : Nat) : Int)
set_option maxHeartbeats 800000 in
theorem real_FromInt.calls (a0 : Int) (r : Int) (w : World) (h : real_FromInt.f a0 = some r) :
    Calls Try.prog 35 #[.int .i64 a0] w fun e w' => e = .returned (.int .u64 r) ∧ ∃ n, w' = w.drewN n := by
  obtain rfl := Option.some.inj h
  clear h
  have hcv := fun (n : Int) (w : World) => run_convert_int_float (P := Try.prog) w 2 40 .i64 .f64 n (by rw [Try.underlying2]; rfl) Try.underlying40
  go_enter Try.func35, Try.ntmps35
  go_wp2_with (first | (go_at_call 57; refine (number_calls _ _).mono ?_; rintro e w' ⟨rfl, rfl⟩) | (go_at_call 60; refine (laid_calls _ _).mono ?_; rintro e w' ⟨rfl, rfl⟩))
  go_ret
  exact ⟨rfl, 0, rfl⟩

theorem call_sqrt_some (b r : Nat) (h : FloatKind.f64.format.sqrt b = some r) (w : World) : (callFunc 89 #[.float .f64 b]).run Try.prog w = .ok (.value (.float .f64 r)) w := by
  rw [run_callFunc_extern Try.func89 (by kernel_rfl) (by kernel_rfl) (by kernel_rfl) (e := Extern.MathSqrt.sqrt) (by kernel_rfl)]
  change (Sem.run Try.prog (match FloatKind.f64.format.sqrt b with | some r => pure (Value.float .f64 r) | none => do pure (Value.float .f64 (← choose (.nanBits .f64 b b)))) w).andThen _ = _
  rw [h]; rfl
theorem call_sqrt_none (b : Nat) (h : FloatKind.f64.format.sqrt b = none) (w : World) : (callFunc 89 #[.float .f64 b]).run Try.prog w = .ok (.value (.float .f64 (tapeNaN w (.nanBits .f64 b b)))) w.drew := by
  rw [run_callFunc_extern Try.func89 (by kernel_rfl) (by kernel_rfl) (by kernel_rfl) (e := Extern.MathSqrt.sqrt) (by kernel_rfl)]
  change (Sem.run Try.prog (match FloatKind.f64.format.sqrt b with | some r => pure (Value.float .f64 r) | none => do pure (Value.float .f64 (← choose (.nanBits .f64 b b)))) w).andThen _ = _
  rw [h]; rfl
set_option maxHeartbeats 400000 in
theorem msqrt_some (b r : Nat) (h : FloatKind.f64.format.sqrt b = some r) (w : World) :
    Calls Try.prog 73 #[.float .f64 b] w fun e w' => e = .returned (.float .f64 r) ∧ w' = w := by
  have hc := call_sqrt_some b r h
  clear h
  go_enter Try.func73, Try.ntmps73
  go_wp2
  go_ret
  exact ⟨rfl, rfl⟩
set_option maxHeartbeats 400000 in
theorem msqrt_none (b : Nat) (h : FloatKind.f64.format.sqrt b = none) (w : World) :
    Calls Try.prog 73 #[.float .f64 b] w fun e w' => e = .returned (.float .f64 (tapeNaN w (.nanBits .f64 b b))) ∧ w' = w.drew := by
  have hc := call_sqrt_none b h
  clear h
  go_enter Try.func73, Try.ntmps73
  go_wp2
  go_ret
  exact ⟨rfl, rfl⟩
/-- 'Sqrt' -/
def real_Sqrt.f (a0 : Int) : Option Int := some ((opW (Ieee.double.sqrt a0.toNat) : Nat) : Int)
set_option maxHeartbeats 800000 in
theorem real_Sqrt.calls (a0 : Int) (r : Int) (w : World) (h : real_Sqrt.f a0 = some r) :
    Calls Try.prog 37 #[.int .u64 a0] w fun e w' => e = .returned (.int .u64 r) ∧ ∃ n, w' = w.drewN n := by
  obtain rfl := Option.some.inj h
  clear h
  cases hx : Ieee.double.sqrt a0.toNat with
  | some r =>
    have H := Lib.hid hx
    clear hx
    go_enter Try.func37, Try.ntmps37
    go_wp2_with (first | (go_at_call 57; refine (number_calls _ _).mono ?_; rintro e w' ⟨rfl, rfl⟩) | (go_at_call 60; refine (laid_calls _ _).mono ?_; rintro e w' ⟨rfl, rfl⟩) | (go_at_call 73; refine (msqrt_some _ r H.out _).mono ?_; rintro e w' ⟨rfl, rfl⟩))
    go_ret
    exact ⟨rfl, 0, rfl⟩
  | none =>
    have H := Lib.hid hx
    clear hx
    go_enter Try.func37, Try.ntmps37
    go_wp2_with (first | (go_at_call 57; refine (number_calls _ _).mono ?_; rintro e w' ⟨rfl, rfl⟩) | (go_at_call 60; refine (laid_calls _ _).mono ?_; rintro e w' ⟨rfl, rfl⟩) | (go_at_call 73; refine (msqrt_none _ H.out _).mono ?_; rintro e w' ⟨rfl, rfl⟩))
    go_ret
    exact ⟨by rw [laidB_nan (tapeNaN_bits _ _ _ _)]; rfl, 1, rfl⟩

/-- a number made whole, of no NaN -/
def wholeB (way : Ieee.Toward) (b : Nat) : Nat := Ieee.double.write ((Ieee.double.read b).integral way)

theorem call_integral (way : Ieee.Toward) (nm : String) (b : Nat) (h : (Ieee.double.read b).isNaN = false) (w : World) :
    (Extern.MathFloor.toIntegral nm way #[.float .f64 b]).run Try.prog w = .ok (.float .f64 (wholeB way b)) w := by
  change Sem.run Try.prog (match Ieee.double.read b with
    | .nan s t =>
      if Ieee.double.quiet t = t then pure (Value.float .f64 b) else do
      let kept ← choose (.extern "math.Floor,Ceil,Trunc,RoundToEven.signallingNaN kept" 2)
      pure (Value.float .f64 (if kept == 1 then b else Ieee.double.write (.nan s (Ieee.double.quiet t))))
    | d => pure (Value.float .f64 (Ieee.double.write (d.integral way)))) w = _
  unfold wholeB
  cases hd : Ieee.double.read b with
  | nan s t => rw [hd] at h; simp [Ieee.Datum.isNaN] at h
  | infinity s => rfl
  | number s m e => rfl

theorem read_nan {b : Nat} (h : (Ieee.double.read b).isNaN = true) (c : Nat) : Ieee.double.order b c = none := by
  unfold Ieee.Format.order
  cases hd : Ieee.double.read b with
  | nan s t => rfl
  | infinity s => rw [hd] at h; simp [Ieee.Datum.isNaN] at h
  | number s m e => rw [hd] at h; simp [Ieee.Datum.isNaN] at h

theorem quiet_bit (t : Nat) : Ieee.double.quiet t % Ieee.double.binade ≠ 0 := by
  intro h
  have h1 : (Ieee.double.quiet t).testBit 51 = true := by
    unfold Ieee.Format.quiet
    rw [Nat.testBit_or, show Ieee.double.fractionBits - 1 = 51 from rfl, Nat.testBit_two_pow_self, Bool.or_true]
  have h2 : (Ieee.double.quiet t % 2^52).testBit 51 = true := by
    rw [Nat.testBit_mod_two_pow, h1]; rfl
  rw [show Ieee.double.quiet t % 2^52 = 0 from h] at h2
  simp at h2

/-- a NaN stays one -/
theorem call_integral_nan (way : Ieee.Toward) (nm : String) (b : Nat) (h : (Ieee.double.read b).isNaN = true) (w : World) :
    ∃ b' n, (Extern.MathFloor.toIntegral nm way #[.float .f64 b]).run Try.prog w = .ok (.float .f64 b') (w.drewN n) ∧ ∀ c, Ieee.double.order b' c = none := by
  have hself : ∀ c, Ieee.double.order b c = none := read_nan h
  have hch : (Extern.MathFloor.toIntegral nm way #[.float .f64 b]).run Try.prog w = Sem.run Try.prog (match Ieee.double.read b with
    | .nan s t =>
      if Ieee.double.quiet t = t then pure (Value.float .f64 b) else do
      let kept ← choose (.extern "math.Floor,Ceil,Trunc,RoundToEven.signallingNaN kept" 2)
      pure (Value.float .f64 (if kept == 1 then b else Ieee.double.write (.nan s (Ieee.double.quiet t))))
    | d => pure (Value.float .f64 (Ieee.double.write (d.integral way)))) w := rfl
  rw [hch]
  cases hd : Ieee.double.read b with
  | infinity s => rw [hd] at h; simp [Ieee.Datum.isNaN] at h
  | number s m e => rw [hd] at h; simp [Ieee.Datum.isNaN] at h
  | nan s t =>
    by_cases hq : Ieee.double.quiet t = t
    · exact ⟨b, 0, by simp [hq, World.drewN], hself⟩
    · by_cases hk : (Question.extern "math.Floor,Ceil,Trunc,RoundToEven.signallingNaN kept" 2).cut (w.tape w.drawn (Question.extern "math.Floor,Ceil,Trunc,RoundToEven.signallingNaN kept" 2)) = 1
      · refine ⟨b, 1, ?_, hself⟩
        simp only [hq, if_false, Sem.run_bind, run_choose_drew, Question.forced]
        simp [hk, World.drewN, World.drew_eq]
      · refine ⟨Ieee.double.write (.nan s (Ieee.double.quiet t)), 1, ?_, ?_⟩
        · simp only [hq, if_false, Sem.run_bind, run_choose_drew, Question.forced]
          simp [hk, World.drewN, World.drew_eq]
        · apply order_nan
          have hb := quiet_bit t
          have hl : Ieee.double.quiet t % Ieee.double.binade < Ieee.double.binade := Nat.mod_lt _ (by decide)
          unfold Ieee.Format.write Ieee.Format.word
          simp only
          rw [signWeight_is, infRung_is] at *
          rw [binade_is] at *
          generalize Ieee.double.quiet t % 4503599627370496 = q at *
          cases s
          · rw [if_neg (by simp)]; omega
          · rw [if_pos rfl]; omega

theorem call_archFloor (b : Nat) (h : (Ieee.double.read b).isNaN = false) (w : World) : (callFunc 90 #[.float .f64 b]).run Try.prog w = .ok (.value (.float .f64 (wholeB .down b))) w := by
  rw [run_callFunc_extern Try.func90 (by kernel_rfl) (by kernel_rfl) (by kernel_rfl) (e := Extern.MathFloor.toIntegral "math.archFloor" .down) (by kernel_rfl), call_integral .down _ b h w]
  rfl
theorem call_archFloor_nan (b : Nat) (h : (Ieee.double.read b).isNaN = true) (w : World) : ∃ b' n, (callFunc 90 #[.float .f64 b]).run Try.prog w = .ok (.value (.float .f64 b')) (w.drewN n) ∧ ∀ c, Ieee.double.order b' c = none := by
  obtain ⟨b', n, h1, h2⟩ := call_integral_nan .down "math.archFloor" b h w
  refine ⟨b', n, ?_, h2⟩
  rw [run_callFunc_extern Try.func90 (by kernel_rfl) (by kernel_rfl) (by kernel_rfl) (e := Extern.MathFloor.toIntegral "math.archFloor" .down) (by kernel_rfl), h1]
  rfl
set_option maxHeartbeats 400000 in
theorem marchFloor_ok (b : Nat) (h : (Ieee.double.read b).isNaN = false) (w : World) :
    Calls Try.prog 74 #[.float .f64 b] w fun e w' => e = .returned (.float .f64 (wholeB .down b)) ∧ w' = w := by
  have hc := call_archFloor b h
  clear h
  go_enter Try.func74, Try.ntmps74
  go_wp2
  go_ret
  exact ⟨rfl, rfl⟩
def IsNaNAt (w : World) (e : Ending) (w' : World) : Prop := ∃ b' n, e = .returned (.float .f64 b') ∧ w' = w.drewN n ∧ ∀ c, Ieee.double.order b' c = none
set_option maxHeartbeats 400000 in
theorem marchFloor_nan (b : Nat) (h : (Ieee.double.read b).isNaN = true) (w : World) :
    Calls Try.prog 74 #[.float .f64 b] w fun e w' => IsNaNAt w e w' := by
  obtain ⟨b', n, hc, H0⟩ := call_archFloor_nan b h w
  have H := Lib.hid H0
  clear H0 h
  go_enter Try.func74, Try.ntmps74
  go_wp2
  go_ret
  exact ⟨b', n, rfl, rfl, H.out⟩

/-- 'Floor' -/
def real_Floor.f (a0 : Int) : Option Int := some ((if (Ieee.double.read a0.toNat).isNaN then nanW else laidB (wholeB .down a0.toNat) : Nat) : Int)
set_option maxHeartbeats 800000 in
theorem real_Floor.calls (a0 : Int) (r : Int) (w : World) (h : real_Floor.f a0 = some r) :
    Calls Try.prog 46 #[.int .u64 a0] w fun e w' => e = .returned (.int .u64 r) ∧ ∃ n, w' = w.drewN n := by
  obtain rfl := Option.some.inj h
  clear h
  cases hx : (Ieee.double.read a0.toNat).isNaN with
  | false =>
    rw [if_neg (by simp)]
    have H := Lib.hid hx
    clear hx
    go_enter Try.func46, Try.ntmps46
    go_wp2_with (first | (go_at_call 57; refine (number_calls _ _).mono ?_; rintro e w' ⟨rfl, rfl⟩) | (go_at_call 60; refine (laid_calls _ _).mono ?_; rintro e w' ⟨rfl, rfl⟩) | (go_at_call 74; refine (marchFloor_ok _ H.out _).mono ?_; rintro e w' ⟨rfl, rfl⟩))
    go_ret
    exact ⟨rfl, 0, rfl⟩
  | true =>
    rw [if_pos rfl]
    have H := Lib.hid hx
    clear hx
    go_enter Try.func46, Try.ntmps46
    go_wp2_with (first | (go_at_call 57; refine (number_calls _ _).mono ?_; rintro e w' ⟨rfl, rfl⟩) | (go_at_call 60; refine (laid_calls _ _).mono ?_; rintro e w' ⟨rfl, rfl⟩) | (go_at_call 74; refine (marchFloor_nan _ H.out _).mono ?_; rintro e w' ⟨b', n, rfl, rfl, H0⟩; have H2 := Lib.hid H0; clear H0))
    go_ret
    exact ⟨by rw [laidB_nan (H2.out _)]; rfl, n, rfl⟩

theorem call_archTrunc (b : Nat) (h : (Ieee.double.read b).isNaN = false) (w : World) : (callFunc 87 #[.float .f64 b]).run Try.prog w = .ok (.value (.float .f64 (wholeB .zero b))) w := by
  rw [run_callFunc_extern Try.func87 (by kernel_rfl) (by kernel_rfl) (by kernel_rfl) (e := Extern.MathFloor.toIntegral "math.archTrunc" .zero) (by kernel_rfl), call_integral .zero _ b h w]
  rfl
theorem call_archTrunc_nan (b : Nat) (h : (Ieee.double.read b).isNaN = true) (w : World) : ∃ b' n, (callFunc 87 #[.float .f64 b]).run Try.prog w = .ok (.value (.float .f64 b')) (w.drewN n) ∧ ∀ c, Ieee.double.order b' c = none := by
  obtain ⟨b', n, h1, h2⟩ := call_integral_nan .zero "math.archTrunc" b h w
  refine ⟨b', n, ?_, h2⟩
  rw [run_callFunc_extern Try.func87 (by kernel_rfl) (by kernel_rfl) (by kernel_rfl) (e := Extern.MathFloor.toIntegral "math.archTrunc" .zero) (by kernel_rfl), h1]
  rfl
set_option maxHeartbeats 400000 in
theorem marchTrunc_ok (b : Nat) (h : (Ieee.double.read b).isNaN = false) (w : World) :
    Calls Try.prog 72 #[.float .f64 b] w fun e w' => e = .returned (.float .f64 (wholeB .zero b)) ∧ w' = w := by
  have hc := call_archTrunc b h
  clear h
  go_enter Try.func72, Try.ntmps72
  go_wp2
  go_ret
  exact ⟨rfl, rfl⟩
set_option maxHeartbeats 400000 in
theorem marchTrunc_nan (b : Nat) (h : (Ieee.double.read b).isNaN = true) (w : World) :
    Calls Try.prog 72 #[.float .f64 b] w fun e w' => IsNaNAt w e w' := by
  obtain ⟨b', n, hc, H0⟩ := call_archTrunc_nan b h w
  have H := Lib.hid H0
  clear H0 h
  go_enter Try.func72, Try.ntmps72
  go_wp2
  go_ret
  exact ⟨b', n, rfl, rfl, H.out⟩

/-- does a whole number lie in an int64's range, as the code asks it? -/
def inI64 (t : Nat) : Bool := (Ieee.double.order t 14114281232179134464 == some .gt || Ieee.double.order t 14114281232179134464 == some .eq) && Ieee.double.order t 4890909195324358656 == some .lt
/-- 'ToInt' -/
def real_ToInt.f (a0 : Int) : Option (Int × Bool) :=
  if (Ieee.double.read a0.toNat).isNaN then some (0, false)
  else if inI64 (wholeB .zero a0.toNat) then (floatToIntVal .f64 (wholeB .zero a0.toNat) .i64).map fun n => (n, true)
  else some (0, false)
set_option maxHeartbeats 1600000 in
theorem real_ToInt.calls (a0 : Int) (r1 : Int) (r2 : Bool) (w : World) (h : real_ToInt.f a0 = some (r1, r2)) :
    Calls Try.prog 34 #[.int .u64 a0] w fun e w' => e = .returned (.tuple #[.int .i64 r1, .bool r2]) ∧ ∃ n, w' = w.drewN n := by
  unfold real_ToInt.f at h
  cases hx : (Ieee.double.read a0.toNat).isNaN with
  | true =>
    rw [hx, if_pos rfl] at h
    obtain ⟨rfl, rfl⟩ := Prod.mk.inj (Option.some.inj h)
    clear h
    have H := Lib.hid hx
    clear hx
    go_enter Try.func34, Try.ntmps34
    go_wp2_with (first | (go_at_call 57; refine (number_calls _ _).mono ?_; rintro e w' ⟨rfl, rfl⟩) | (go_at_call 72; refine (marchTrunc_nan _ H.out _).mono ?_; rintro e w' ⟨b', n, rfl, rfl, H0⟩; have H2 : (FloatKind.f64.format.order b' 14114281232179134464 == some .gt || FloatKind.f64.format.order b' 14114281232179134464 == some .eq) = false := (by rw [show FloatKind.f64.format.order b' 14114281232179134464 = none from H0 _]; rfl); clear H0))
    go_ret2
    exact ⟨rfl, n, rfl⟩
  | false =>
    rw [hx, if_neg (by simp)] at h
    have H := Lib.hid hx
    clear hx
    cases hg : (Ieee.double.order (wholeB .zero a0.toNat) 14114281232179134464 == some .gt || Ieee.double.order (wholeB .zero a0.toNat) 14114281232179134464 == some .eq) with
    | false =>
      rw [if_neg (by unfold inI64; rw [hg]; simp)] at h
      obtain ⟨rfl, rfl⟩ := Prod.mk.inj (Option.some.inj h)
      clear h
      have hg' : (FloatKind.f64.format.order (wholeB .zero a0.toNat) 14114281232179134464 == some .gt || FloatKind.f64.format.order (wholeB .zero a0.toNat) 14114281232179134464 == some .eq) = false := hg
      clear hg
      go_enter Try.func34, Try.ntmps34
      go_wp2_with (first | (go_at_call 57; refine (number_calls _ _).mono ?_; rintro e w' ⟨rfl, rfl⟩) | (go_at_call 72; refine (marchTrunc_ok _ H.out _).mono ?_; rintro e w' ⟨rfl, rfl⟩))
      go_ret2
      exact ⟨rfl, 0, rfl⟩
    | true =>
      have hg' : (FloatKind.f64.format.order (wholeB .zero a0.toNat) 14114281232179134464 == some .gt || FloatKind.f64.format.order (wholeB .zero a0.toNat) 14114281232179134464 == some .eq) = true := hg
      cases hl : (Ieee.double.order (wholeB .zero a0.toNat) 4890909195324358656 == some .lt) with
      | false =>
        rw [if_neg (by unfold inI64; rw [hg, hl]; simp)] at h
        obtain ⟨rfl, rfl⟩ := Prod.mk.inj (Option.some.inj h)
        clear h
        have hl' : (FloatKind.f64.format.order (wholeB .zero a0.toNat) 4890909195324358656 == some .lt) = false := hl
        clear hg hl
        go_enter Try.func34, Try.ntmps34
        go_wp2_with (first | (go_at_call 57; refine (number_calls _ _).mono ?_; rintro e w' ⟨rfl, rfl⟩) | (go_at_call 72; refine (marchTrunc_ok _ H.out _).mono ?_; rintro e w' ⟨rfl, rfl⟩))
        go_ret2
        exact ⟨rfl, 0, rfl⟩
      | true =>
        rw [if_pos (by unfold inI64; rw [hg, hl]; rfl)] at h
        cases hv : floatToIntVal .f64 (wholeB .zero a0.toNat) .i64 with
        | none => rw [hv] at h; cases h
        | some n =>
          rw [hv] at h
          obtain ⟨rfl, rfl⟩ := Prod.mk.inj (Option.some.inj h)
          clear h
          have hl' : (FloatKind.f64.format.order (wholeB .zero a0.toNat) 4890909195324358656 == some .lt) = true := hl
          clear hg hl
          have hcv := fun (w : World) => run_convert_float_int (P := Try.prog) w 40 2 .f64 .i64 (wholeB .zero a0.toNat) n (by rw [Try.underlying40]; rfl) Try.underlying2 hv
          clear hv
          go_enter Try.func34, Try.ntmps34
          go_wp2_with (first | (go_at_call 57; refine (number_calls _ _).mono ?_; rintro e w' ⟨rfl, rfl⟩) | (go_at_call 72; refine (marchTrunc_ok _ H.out _).mono ?_; rintro e w' ⟨rfl, rfl⟩))
          go_ret2
          exact ⟨rfl, 0, rfl⟩
end Go.Proofs.Ytapgnackoclbeaa.PReal
