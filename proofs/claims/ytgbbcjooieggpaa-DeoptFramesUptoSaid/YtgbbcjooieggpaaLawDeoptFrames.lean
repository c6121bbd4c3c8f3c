/- DeoptFrames, the row: the law returns true, and the input reads as it did. For every input of a bulk of at most 1048576. -/
import Derived.Test.YtgbbcjooieggpaaRows
import Derived.Test.YtgbbcjooieggpaaPureDeoptFrames
import Derived.Test.YtgbbcjooieggpaaOpenUpto
import Derived.WalkKit
import Derived.ProofKit
import Derived.OpenShut
import Derived.ShutString
import Derived.ChangeOld
import Derived.Below
import Derived.SizedLaws
import Derived.Carry
import Derived.JoinedCond
namespace Go.Proofs.Ytgbbcjooieggpaa.deoptFramesUpto
open Go.ChangeShapes Go.WideShapes Go.ChangeAt Go.RowKit
open Go.Proofs.Ytgbbcjooieggpaa.OpenUpto Go.Proofs.Ytgbbcjooieggpaa.PFr Go.Proofs.YtgbbcjooieggpaaW.PrintWords
open Go.ChangeMaps (open_string shut_string)
set_option linter.unusedVariables false
set_option linter.unusedSimpArgs false
theorem own : ownKnob Try.prog.godebug = none := by kernel_rfl
theorem laidOut : laidOutB Try.prog = true := by kernel_rfl
instance : Inhabited S35 := ⟨z35⟩
instance : Inhabited S44 := ⟨z44⟩
instance : Inhabited S67 := ⟨z67⟩
theorem o3 : Opens (Kd.int .i64) Try.prog 3 (fun _ => True) := (opens_int .i64 Try.underlying3).mono (fun _ _ => trivial)
theorem o2 : Opens (Kd.int .i64) Try.prog 2 (fun _ => True) := (opens_int .i64 Try.underlying2).mono (fun _ _ => trivial)
theorem o44 : Opens k44 Try.prog 44 (fun x => True) := (opens_struct (fun p : Int × Int => (⟨p.1, p.2⟩ : S44)) (fun x : S44 => (x.f0, x.f1)) (fun _ => rfl) Try.underlying44 (by kernel_rfl) (opensF_cons o3 rfl (by kernel_rfl) (opensF_last o2 rfl (by kernel_rfl)) (by intro g hg; simp at hg; first | (subst hg; decide) | (rcases hg with rfl | rfl | rfl | rfl | rfl | rfl | rfl <;> decide)))).mono (fun _ _ => trivial)
theorem o39 : Opens (Kd.slice 44 (k44)) Try.prog 39 (fun l => l.length ≤ 1048576) := (opens_slice Try.underlying39 o44 (by kernel_rfl)).mono (fun _ h => h.1)
theorem o67 : Opens k67 Try.prog 67 (fun x => x.f2.length ≤ 1048576) := (opens_struct (fun p : Int × Int × (List (S44)) => (⟨p.1, p.2.1, p.2.2⟩ : S67)) (fun x : S67 => (x.f0, x.f1, x.f2)) (fun _ => rfl) Try.underlying67 (by kernel_rfl) (opensF_cons o3 rfl (by kernel_rfl) (opensF_cons o3 rfl (by kernel_rfl) (opensF_last o39 rfl (by kernel_rfl)) (by intro g hg; simp at hg; first | (subst hg; decide) | (rcases hg with rfl | rfl | rfl | rfl | rfl | rfl | rfl <;> decide))) (by intro g hg; simp at hg; first | (subst hg; decide) | (rcases hg with rfl | rfl | rfl | rfl | rfl | rfl | rfl <;> decide)))).mono (fun _ h => h.2.2)
theorem o46 : Opens (Kd.slice 67 (k67)) Try.prog 46 (fun l => (l.length ≤ 1048576 ∧ ∀ x0 ∈ l, x0.f2.length ≤ 1048576)) := (opens_slice Try.underlying46 o67 (by kernel_rfl)).mono (fun _ h => ⟨h.1, h.2⟩)
theorem o35 : Opens k35 Try.prog 35 (fun x => True) := (opens_struct (fun p : Int × Int => (⟨p.1, p.2⟩ : S35)) (fun x : S35 => (x.f0, x.f1)) (fun _ => rfl) Try.underlying35 (by kernel_rfl) (opensF_cons o3 rfl (by kernel_rfl) (opensF_last o2 rfl (by kernel_rfl)) (by intro g hg; simp at hg; first | (subst hg; decide) | (rcases hg with rfl | rfl | rfl | rfl | rfl | rfl | rfl <;> decide)))).mono (fun _ _ => trivial)
theorem o25 : Opens (Kd.slice 35 (k35)) Try.prog 25 (fun l => l.length ≤ 1048576) := (opens_slice Try.underlying25 o35 (by kernel_rfl)).mono (fun _ h => h.1)
theorem p41 : Opens (Kd.iso (Kd.pair (Kd.slice 35 (k35)) (Kd.slice 35 (k35))) (fun p : ((List (S35)) × (List (S35))) => p)) Try.prog 41 (fun p => (p.1.length ≤ 1048576 ∧ p.2.length ≤ 1048576)) := (opens_struct (fun p : ((List (S35)) × (List (S35))) => p) (fun p : ((List (S35)) × (List (S35))) => p) (fun _ => rfl) Try.underlying41 (by kernel_rfl) (opensF_cons o25 rfl (by kernel_rfl) (opensF_last o25 rfl (by kernel_rfl)) (by intro g hg; simp at hg; first | (subst hg; decide) | (rcases hg with rfl | rfl | rfl | rfl | rfl | rfl | rfl <;> decide)))).mono (fun _ h => h)
set_option maxRecDepth 100000 in
set_option maxHeartbeats 1000000 in
theorem contract (H : Type) (enc : TypeId × Value → H) (W : World) (base : Nat) (args : Array Value) (ds gs : List (DataW H)) (before : List MemPlace)
  (hval0 : ∀ (j : Nat) t v, Try.f5.params[j]? = some t → args[j]? = some v → Value.okWide Try.prog W .any base t v)
  (hW : DataW.Whole enc Try.prog Try.f5.params.toList Rows.deoptFramesSpec.vars false W args.toList ds gs before) (hsz0 : Rows.uptoSmall H (ds ++ gs) = true) :
    Calls Try.prog 5 args W fun e W' => ∃ v, e = .returned v ∧ Rows.deoptFramesSpec.post enc Try.prog Try.f5 false true false false W args v W' := by
  have hsz := hsz0
  have hval := hval0
  have hW' := hW
  obtain ⟨p, q, hA0, hV, rfl, hfz, hnd⟩ := hW
  have hA : DataW.TrodAll enc Try.prog W 0 (fun _ => true) true Try.f5.params.toList args.toList ds p := hA0
  rw [Try.params5] at hA hval
  obtain ⟨v0, vs0, d0, ds0, p0, q0, hargs, rfl, rfl, h0, r0⟩ := trodAll_cons hA
  obtain ⟨v1, vs1, d1, ds1, p1, q1, rfl, rfl, rfl, h1, r1⟩ := trodAll_cons r0
  obtain ⟨rfl, rfl, rfl⟩ := trodAll_nil r1
  obtain rfl : args = #[v0, v1] := by cases args; simp_all
  obtain ⟨rfl, rfl⟩ := trodVars_none hV
  try simp only [List.append_nil] at hsz
  obtain ⟨a0, len0, cap0, rfl⟩ := okWide_slice Try.underlying46 (hval 0 46 v0 rfl rfl)
  obtain ⟨cs1, rfl, hcs1⟩ := okWide_struct Try.underlying41 (hval 1 41 v1 rfl rfl)
  have k0_ := h0
  have lt0 : ∀ x ∈ p0, x.block < W.heap.size := by obtain ⟨m, hm⟩ := k0_; exact DataW.trod_lt m _ _ _ hm
  have k1_ := h1
  have lt1 : ∀ x ∈ p1, x.block < W.heap.size := by obtain ⟨m, hm⟩ := k1_; exact DataW.trod_lt m _ _ _ hm
  obtain ⟨l0, hK0, Q0⟩ := opens_arg (j := 0) o46 hsz rfl h0
  obtain ⟨A0, c0, he0, hl0, hC0⟩ := hK0
  simp [Value.cells] at he0
  obtain ⟨rfl, rfl, rfl⟩ := he0
  obtain ⟨⟨l1_0, l1_1⟩, hK1, ⟨Q1_0, Q1_1⟩⟩ := opens_arg (j := 1) p41 hsz rfl h1
  obtain ⟨x1_0, y1_0, e1, ⟨A1_0, c1_0, rfl, hl1_0, hC1_0⟩, ⟨A1_1, c1_1, rfl, hl1_1, hC1_1⟩⟩ := hK1
  have hc1 : cs1 = #[.slice A1_0 l1_0.length c1_0, .slice A1_1 l1_1.length c1_1] := by
    have he : cs1.toList = [.slice A1_0 l1_0.length c1_0, .slice A1_1 l1_1.length c1_1] := e1
    exact Array.toList_inj.1 he
  subst hc1
  obtain ⟨k, hk⟩ := PureFr.DeoptFrames l0 l1_0 l1_1 Q0.1 Q0.2 Q1_0 Q1_1
  refine (portagelaw26_DeoptFrames.calls k _ _ l0 _ _ l1_0 _ _ l1_1 true W hC0 hl0 hC1_0 hl1_0 hC1_1 hl1_1 hk).mono fun e W' ⟨he, bel⟩ => ?_
  subst he
  exact ⟨_, rfl, _, _, _, [], _, [], hW', trodAll_mk1 (shut_bool Try.underlying4 _), (trodAll_cons_mk (Below.trod laidOut (by kernel_rfl) (of_decide_eq_true (by kernel_rfl)) k0_ bel lt0) (trodAll_cons_mk (Below.trod laidOut (by kernel_rfl) (of_decide_eq_true (by kernel_rfl)) k1_ bel lt1) trodAll_mk0)), rfl, bel.frame _, fun h => by cases h⟩
set_option maxRecDepth 100000 in
theorem lifted (os : Os) (started : os.Started) (H : Type) (enc : TypeId × Value → H) (F : Stop.Interp) :
    ReturnsInHanded {} Try.checked os 5 .any ((Rows.OpenSpec.upto Rows.deoptFramesSpec).pre6 enc Try.prog Try.f5 Rows.deoptFramesUptoRow.domain false) (((Rows.OpenSpec.upto Rows.deoptFramesSpec).at F).post enc Try.prog Try.f5 false true false false) := by
  refine returnsInHanded_of_cond (C := Try.checked) (s := Rows.OpenSpec.upto Rows.deoptFramesSpec) (k := Rows.uptoSmall) rfl own started (by kernel_rfl) Try.func5
    (OpenSpec.witness (enc := enc) (C := Try.checked) (s := Rows.OpenSpec.upto Rows.deoptFramesSpec) (k := Rows.uptoSmall) rfl false ⟨#[], #[.slice none 0 0, .agg #[.slice none 0 0, .slice none 0 0]], []⟩ 8 (by kernel_rfl) (by kernel_rfl) (by kernel_rfl)
      (x := ([.nil, .agg [.nil, .nil]], [], [])) (by kernel_rfl) rfl (by kernel_rfl)) ?_
  intro W base args ds gs before hval hW _ hk _
  exact contract H enc W base args ds gs before hval hW hk
theorem proved : Rows.DeoptFramesUptoSaid :=
  OpenClaim.holds_of_cond 5 Try.f5 rfl rfl rfl rfl rfl rfl rfl ⟨rfl, rfl, rfl, rfl, rfl⟩ rfl rfl rfl rfl rfl (by kernel_rfl) Try.func5 (by kernel_rfl)
    (of_decide_eq_true (by kernel_rfl)) (by unfold Func.isWrapper; first | (rw [if_pos (by decide +kernel)]; kernel_rfl) | (rw [if_neg (by decide +kernel)]; exact ⟨rfl, rfl⟩))
    (fun os started H enc _ F => lifted os started H enc F)
#print axioms proved
end Go.Proofs.Ytgbbcjooieggpaa.deoptFramesUpto
namespace Go.Proofs.Ytgbbcjooieggpaa
/-- The row, under a short name, for the claim. -/
theorem deoptFrames_holds : Rows.DeoptFramesUptoSaid := deoptFramesUpto.proved
end Go.Proofs.Ytgbbcjooieggpaa
