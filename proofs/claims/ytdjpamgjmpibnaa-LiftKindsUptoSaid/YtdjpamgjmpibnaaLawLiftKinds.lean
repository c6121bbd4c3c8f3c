/- LiftKinds, the row: the law returns true, and the input reads as it did. For every input of a bulk of at most 1048576. -/
import Derived.Test.YtdjpamgjmpibnaaRows
import Derived.Test.YtdjpamgjmpibnaaKinds
import Derived.Test.YtdjpamgjmpibnaaOpenUpto
import Derived.WalkKit
import Derived.ProofKit
import Derived.OpenShut
import Derived.ShutString
import Derived.ChangeOld
import Derived.Below
import Derived.SizedLaws
import Derived.Carry
import Derived.JoinedCond
namespace Go.Proofs.Ytdjpamgjmpibnaa.liftKindsUpto
open Go.ChangeShapes Go.WideShapes Go.ChangeAt Go.RowKit
open Go.Proofs.Ytdjpamgjmpibnaa.OpenUpto Go.Proofs.Ytdjpamgjmpibnaa.PHc Go.Proofs.YtdjpamgjmpibnaaW.PrintWords
open Go.ChangeMaps (open_string shut_string)
set_option linter.unusedVariables false
set_option linter.unusedSimpArgs false
theorem own : ownKnob Try.prog.godebug = none := by kernel_rfl
theorem laidOut : laidOutB Try.prog = true := by kernel_rfl
instance : Inhabited S52 := ⟨z52⟩
instance : Inhabited S70 := ⟨z70⟩
instance : Inhabited S72 := ⟨z72⟩
theorem o3 : Opens (Kd.int .i64) Try.prog 3 (fun _ => True) := (opens_int .i64 Try.underlying3).mono (fun _ _ => trivial)
theorem o2 : Opens (Kd.int .i64) Try.prog 2 (fun _ => True) := (opens_int .i64 Try.underlying2).mono (fun _ _ => trivial)
theorem o70 : Opens k70 Try.prog 70 (fun x => True) := (opens_struct (fun p : Int × Int => (⟨p.1, p.2⟩ : S70)) (fun x : S70 => (x.f0, x.f1)) (fun _ => rfl) Try.underlying70 (by kernel_rfl) (opensF_cons o3 rfl (by kernel_rfl) (opensF_last o2 rfl (by kernel_rfl)) (by intro g hg; simp at hg; first | (subst hg; decide) | (rcases hg with rfl | rfl | rfl | rfl | rfl | rfl | rfl <;> decide)))).mono (fun _ _ => trivial)
theorem o49 : Opens (Kd.slice 70 (k70)) Try.prog 49 (fun l => l.length ≤ 1048576) := (opens_slice Try.underlying49 o70 (by kernel_rfl)).mono (fun _ h => h.1)
theorem o72 : Opens k72 Try.prog 72 (fun x => x.f2.length ≤ 1048576) := (opens_struct (fun p : Int × Int × (List (S70)) => (⟨p.1, p.2.1, p.2.2⟩ : S72)) (fun x : S72 => (x.f0, x.f1, x.f2)) (fun _ => rfl) Try.underlying72 (by kernel_rfl) (opensF_cons o3 rfl (by kernel_rfl) (opensF_cons o3 rfl (by kernel_rfl) (opensF_last o49 rfl (by kernel_rfl)) (by intro g hg; simp at hg; first | (subst hg; decide) | (rcases hg with rfl | rfl | rfl | rfl | rfl | rfl | rfl <;> decide))) (by intro g hg; simp at hg; first | (subst hg; decide) | (rcases hg with rfl | rfl | rfl | rfl | rfl | rfl | rfl <;> decide)))).mono (fun _ h => h.2.2)
theorem o50 : Opens (Kd.slice 72 (k72)) Try.prog 50 (fun l => (l.length ≤ 1048576 ∧ ∀ x0 ∈ l, x0.f2.length ≤ 1048576)) := (opens_slice Try.underlying50 o72 (by kernel_rfl)).mono (fun _ h => ⟨h.1, h.2⟩)
theorem o52 : Opens k52 Try.prog 52 (fun x => (x.f3.length ≤ 1048576 ∧ (x.f7.length ≤ 1048576 ∧ ∀ x0 ∈ x.f7, x0.f2.length ≤ 1048576))) := (opens_struct (fun p : Int × Int × Int × (List (S70)) × Int × Int × Int × (List (S72)) => (⟨p.1, p.2.1, p.2.2.1, p.2.2.2.1, p.2.2.2.2.1, p.2.2.2.2.2.1, p.2.2.2.2.2.2.1, p.2.2.2.2.2.2.2⟩ : S52)) (fun x : S52 => (x.f0, x.f1, x.f2, x.f3, x.f4, x.f5, x.f6, x.f7)) (fun _ => rfl) Try.underlying52 (by kernel_rfl) (opensF_cons o3 rfl (by kernel_rfl) (opensF_cons o3 rfl (by kernel_rfl) (opensF_cons o3 rfl (by kernel_rfl) (opensF_cons o49 rfl (by kernel_rfl) (opensF_cons o2 rfl (by kernel_rfl) (opensF_cons o3 rfl (by kernel_rfl) (opensF_cons o3 rfl (by kernel_rfl) (opensF_last o50 rfl (by kernel_rfl)) (by intro g hg; simp at hg; first | (subst hg; decide) | (rcases hg with rfl | rfl | rfl | rfl | rfl | rfl | rfl <;> decide))) (by intro g hg; simp at hg; first | (subst hg; decide) | (rcases hg with rfl | rfl | rfl | rfl | rfl | rfl | rfl <;> decide))) (by intro g hg; simp at hg; first | (subst hg; decide) | (rcases hg with rfl | rfl | rfl | rfl | rfl | rfl | rfl <;> decide))) (by intro g hg; simp at hg; first | (subst hg; decide) | (rcases hg with rfl | rfl | rfl | rfl | rfl | rfl | rfl <;> decide))) (by intro g hg; simp at hg; first | (subst hg; decide) | (rcases hg with rfl | rfl | rfl | rfl | rfl | rfl | rfl <;> decide))) (by intro g hg; simp at hg; first | (subst hg; decide) | (rcases hg with rfl | rfl | rfl | rfl | rfl | rfl | rfl <;> decide))) (by intro g hg; simp at hg; first | (subst hg; decide) | (rcases hg with rfl | rfl | rfl | rfl | rfl | rfl | rfl <;> decide)))).mono (fun _ h => ⟨h.2.2.2.1, h.2.2.2.2.2.2.2⟩)
theorem o22 : Opens (Kd.slice 52 (k52)) Try.prog 22 (fun l => (l.length ≤ 1048576 ∧ ∀ x0 ∈ l, (x0.f3.length ≤ 1048576 ∧ (x0.f7.length ≤ 1048576 ∧ ∀ x1 ∈ x0.f7, x1.f2.length ≤ 1048576)))) := (opens_slice Try.underlying22 o52 (by kernel_rfl)).mono (fun _ h => ⟨h.1, h.2⟩)
theorem o23 : Opens (Kd.slice 3 (Kd.int .i64)) Try.prog 23 (fun l => l.length ≤ 1048576) := (opens_slice Try.underlying23 o3 (by kernel_rfl)).mono (fun _ h => h.1)
theorem p25 : Opens (Kd.iso (Kd.pair (Kd.int .i64) (Kd.pair (Kd.slice 52 (k52)) (Kd.slice 3 (Kd.int .i64)))) (fun p : (Int × (List (S52)) × (List (Int))) => p)) Try.prog 25 (fun p => (True ∧ (p.2.1.length ≤ 1048576 ∧ ∀ x0 ∈ p.2.1, (x0.f3.length ≤ 1048576 ∧ (x0.f7.length ≤ 1048576 ∧ ∀ x1 ∈ x0.f7, x1.f2.length ≤ 1048576))) ∧ p.2.2.length ≤ 1048576)) := (opens_struct (fun p : (Int × (List (S52)) × (List (Int))) => p) (fun p : (Int × (List (S52)) × (List (Int))) => p) (fun _ => rfl) Try.underlying25 (by kernel_rfl) (opensF_cons o3 rfl (by kernel_rfl) (opensF_cons o22 rfl (by kernel_rfl) (opensF_last o23 rfl (by kernel_rfl)) (by intro g hg; simp at hg; first | (subst hg; decide) | (rcases hg with rfl | rfl | rfl | rfl | rfl | rfl | rfl <;> decide))) (by intro g hg; simp at hg; first | (subst hg; decide) | (rcases hg with rfl | rfl | rfl | rfl | rfl | rfl | rfl <;> decide)))).mono (fun _ h => h)
set_option maxRecDepth 100000 in
set_option maxHeartbeats 1000000 in
theorem contract (H : Type) (enc : TypeId × Value → H) (W : World) (base : Nat) (args : Array Value) (ds gs : List (DataW H)) (before : List MemPlace)
  (hval0 : ∀ (j : Nat) t v, Try.f3.params[j]? = some t → args[j]? = some v → Value.okWide Try.prog W .any base t v)
  (hW : DataW.Whole enc Try.prog Try.f3.params.toList Rows.liftKindsSpec.vars false W args.toList ds gs before) (hsz0 : Rows.uptoSmall H (ds ++ gs) = true) :
    Calls Try.prog 3 args W fun e W' => ∃ v, e = .returned v ∧ Rows.liftKindsSpec.post enc Try.prog Try.f3 false true false false W args v W' := by
  have hsz := hsz0
  have hval := hval0
  have hW' := hW
  obtain ⟨p, q, hA0, hV, rfl, hfz, hnd⟩ := hW
  have hA : DataW.TrodAll enc Try.prog W 0 (fun _ => true) true Try.f3.params.toList args.toList ds p := hA0
  rw [Try.params3] at hA hval
  obtain ⟨v0, vs0, d0, ds0, p0, q0, hargs, rfl, rfl, h0, r0⟩ := trodAll_cons hA
  obtain ⟨v1, vs1, d1, ds1, p1, q1, rfl, rfl, rfl, h1, r1⟩ := trodAll_cons r0
  obtain ⟨rfl, rfl, rfl⟩ := trodAll_nil r1
  obtain rfl : args = #[v0, v1] := by cases args; simp_all
  obtain ⟨rfl, rfl⟩ := trodVars_none hV
  try simp only [List.append_nil] at hsz
  obtain ⟨m0, rfl⟩ := okWide_int Try.underlying3 (hval 0 3 v0 rfl rfl)
  obtain ⟨cs1, rfl, hcs1⟩ := okWide_struct Try.underlying25 (hval 1 25 v1 rfl rfl)
  have k0_ := h0
  have lt0 : ∀ x ∈ p0, x.block < W.heap.size := by obtain ⟨m, hm⟩ := k0_; exact DataW.trod_lt m _ _ _ hm
  have k1_ := h1
  have lt1 : ∀ x ∈ p1, x.block < W.heap.size := by obtain ⟨m, hm⟩ := k1_; exact DataW.trod_lt m _ _ _ hm
  obtain ⟨a0, hK0, Q0⟩ := opens_arg (j := 0) o3 hsz rfl h0
  have he0 := hK0
  simp [Value.cells, Kd.int, Kd.bool, Kd.string, Kd.scalar] at he0
  subst m0
  obtain ⟨⟨a1_0, l1_1, l1_2⟩, hK1, ⟨Q1_0, Q1_1, Q1_2⟩⟩ := opens_arg (j := 1) p25 hsz rfl h1
  obtain ⟨x1_0, y1_0, e1, rfl, ⟨x1_1, y1_1, rfl, ⟨A1_1, c1_1, rfl, hl1_1, hC1_1⟩, ⟨A1_2, c1_2, rfl, hl1_2, hC1_2⟩⟩⟩ := hK1
  have hc1 : cs1 = #[.int .i64 a1_0, .slice A1_1 l1_1.length c1_1, .slice A1_2 l1_2.length c1_2] := by
    have he : cs1.toList = [.int .i64 a1_0, .slice A1_1 l1_1.length c1_1, .slice A1_2 l1_2.length c1_2] := e1
    exact Array.toList_inj.1 he
  subst hc1
  obtain hk := (show SmallB ⟨a1_0, l1_1, l1_2⟩ ∧ true = true from ⟨⟨Q1_1.1, Q1_2, fun x h => (Q1_1.2 x h).1, fun x h => ⟨(Q1_1.2 x h).2.1, (Q1_1.2 x h).2.2⟩⟩, rfl⟩)
  refine (portagelaw19_LiftKinds.calls a0 a1_0 _ _ l1_1 _ _ l1_2 true W hC1_1 hl1_1 hC1_2 hl1_2 hk).mono fun e W' ⟨he, bel⟩ => ?_
  subst he
  exact ⟨_, rfl, _, _, _, [], _, [], hW', trodAll_mk1 (shut_bool Try.underlying4 _), (trodAll_cons_mk (Below.trod laidOut (by kernel_rfl) (of_decide_eq_true (by kernel_rfl)) k0_ bel lt0) (trodAll_cons_mk (Below.trod laidOut (by kernel_rfl) (of_decide_eq_true (by kernel_rfl)) k1_ bel lt1) trodAll_mk0)), rfl, bel.frame _, fun h => by cases h⟩
set_option maxRecDepth 100000 in
theorem lifted (os : Os) (started : os.Started) (H : Type) (enc : TypeId × Value → H) (F : Stop.Interp) :
    ReturnsInHanded {} Try.checked os 3 .any ((Rows.OpenSpec.upto Rows.liftKindsSpec).pre6 enc Try.prog Try.f3 Rows.liftKindsUptoRow.domain false) (((Rows.OpenSpec.upto Rows.liftKindsSpec).at F).post enc Try.prog Try.f3 false true false false) := by
  refine returnsInHanded_of_cond (C := Try.checked) (s := Rows.OpenSpec.upto Rows.liftKindsSpec) (k := Rows.uptoSmall) rfl own started (by kernel_rfl) Try.func3
    (OpenSpec.witness (enc := enc) (C := Try.checked) (s := Rows.OpenSpec.upto Rows.liftKindsSpec) (k := Rows.uptoSmall) rfl false ⟨#[], #[.int .i64 0, .agg #[.int .i64 0, .slice none 0 0, .slice none 0 0]], []⟩ 8 (by kernel_rfl) (by kernel_rfl) (by kernel_rfl)
      (x := ([.lit (.int .i64 0), .agg [.lit (.int .i64 0), .nil, .nil]], [], [])) (by kernel_rfl) rfl (by kernel_rfl)) ?_
  intro W base args ds gs before hval hW _ hk _
  exact contract H enc W base args ds gs before hval hW hk
theorem proved : Rows.LiftKindsUptoSaid :=
  OpenClaim.holds_of_cond 3 Try.f3 rfl rfl rfl rfl rfl rfl rfl ⟨rfl, rfl, rfl, rfl, rfl⟩ rfl rfl rfl rfl rfl (by kernel_rfl) Try.func3 (by kernel_rfl)
    (of_decide_eq_true (by kernel_rfl)) (by unfold Func.isWrapper; first | (rw [if_pos (by decide +kernel)]; kernel_rfl) | (rw [if_neg (by decide +kernel)]; exact ⟨rfl, rfl⟩))
    (fun os started H enc _ F => lifted os started H enc F)
#print axioms proved
end Go.Proofs.Ytdjpamgjmpibnaa.liftKindsUpto
namespace Go.Proofs.Ytdjpamgjmpibnaa
/-- The row, under a short name, for the claim. -/
theorem liftKinds_holds : Rows.LiftKindsUptoSaid := liftKindsUpto.proved
end Go.Proofs.Ytdjpamgjmpibnaa
