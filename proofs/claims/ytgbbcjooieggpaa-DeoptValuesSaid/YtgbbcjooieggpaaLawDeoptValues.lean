/- DeoptValues, the row: the law returns true for every input, and the input reads as it did. For every input. -/
import Derived.Test.YtgbbcjooieggpaaRows
import Derived.Test.YtgbbcjooieggpaaPDeoptx5
import Derived.Test.YtgbbcjooieggpaaPureDeoptValues
import Derived.Test.YtgbbcjooieggpaaOpen
import Derived.WalkKit
import Derived.ProofKit
import Derived.OpenShut
import Derived.ShutString
import Derived.ChangeOld
import Derived.Below
import Derived.SizedLaws
import Derived.Carry
namespace Go.Proofs.Ytgbbcjooieggpaa.deoptValues
open Go.ChangeShapes Go.WideShapes Go.ChangeAt Go.RowKit
open Go.Proofs.Ytgbbcjooieggpaa.Open Go.Proofs.Ytgbbcjooieggpaa.PDeopt Go.Proofs.YtgbbcjooieggpaaW.PrintWords
open Go.ChangeMaps (open_string shut_string)
set_option linter.unusedVariables false
theorem own : ownKnob Try.prog.godebug = none := by kernel_rfl
theorem laidOut : laidOutB Try.prog = true := by kernel_rfl
instance : Inhabited S35 := ⟨z35⟩
instance : Inhabited S44 := ⟨z44⟩
theorem o35 : Opens k35 Try.prog 35 (fun _ => True) :=
  (opens_struct (fun p : Int × Int => (⟨p.1, p.2⟩ : S35)) (fun x : S35 => (x.f0, x.f1)) (fun _ => rfl) Try.underlying35 (by kernel_rfl)
    (opensF_cons (opens_int .i64 Try.underlying3) rfl (by kernel_rfl) (opensF_last (opens_int .i64 Try.underlying2) rfl (by kernel_rfl)) (by intro g hg; cases hg with | head => exact Nat.le_refl _ | tail _ h => cases h))).mono (fun _ _ => trivial)
theorem o44 : Opens k44 Try.prog 44 (fun _ => True) :=
  (opens_struct (fun p : Int × Int => (⟨p.1, p.2⟩ : S44)) (fun x : S44 => (x.f0, x.f1)) (fun _ => rfl) Try.underlying44 (by kernel_rfl)
    (opensF_cons (opens_int .i64 Try.underlying3) rfl (by kernel_rfl) (opensF_last (opens_int .i64 Try.underlying2) rfl (by kernel_rfl)) (by intro g hg; cases hg with | head => exact Nat.le_refl _ | tail _ h => cases h))).mono (fun _ _ => trivial)
theorem o25 : Opens (Kd.slice 35 k35) Try.prog 25 (fun l => l.length * 16 ≤ 140737488351232) := (opens_slice Try.underlying25 o35 (by kernel_rfl) (by kernel_rfl)).mono (fun _ h => h.2.1)
theorem o39 : Opens (Kd.slice 44 k44) Try.prog 39 (fun l => l.length * 16 ≤ 140737488351232) := (opens_slice Try.underlying39 o44 (by kernel_rfl) (by kernel_rfl)).mono (fun _ h => h.2.1)
theorem o41 : Opens (Kd.iso (Kd.pair (Kd.slice 35 k35) (Kd.slice 35 k35)) (fun p : List S35 × List S35 => p)) Try.prog 41 (fun p => p.1.length * 16 ≤ 140737488351232 ∧ p.2.length * 16 ≤ 140737488351232) :=
  (opens_struct (fun p : List S35 × List S35 => p) (fun p : List S35 × List S35 => p) (fun _ => rfl) Try.underlying41 (by kernel_rfl)
    (opensF_cons o25 rfl (by kernel_rfl) (opensF_last o25 rfl (by kernel_rfl)) (by intro g hg; cases hg with | head => exact Nat.le_refl _ | tail _ h => cases h))).mono (fun _ h => h)
set_option maxRecDepth 100000 in
theorem lifted (os : Os) (started : os.Started) (H : Type) (enc : TypeId × Value → H) :
    ReturnsInHanded {} Try.checked os 4 .any (Rows.deoptValuesSpec.pre6 enc Try.prog Try.f4 Rows.deoptValuesRow.domain false) (Rows.deoptValuesSpec.post enc Try.prog Try.f4 false true false false) := by
  refine returnsInHanded_of_change_sized (C := Try.checked) own started (by kernel_rfl) Try.func4
    (ChangeSpec.witness6 (enc := enc) (C := Try.checked) false ⟨#[], #[.slice none 0 0, .agg #[.slice none 0 0, .slice none 0 0]], []⟩ 8 (by kernel_rfl) (by kernel_rfl) (by kernel_rfl) (by kernel_rfl)) ?_
  intro W base args ds gs before hval0 hW hcnd hsz0 _
  have hsz : (DataW.weightsEach Try.prog (Try.f4.params.toList ++ Rows.deoptValuesSpec.plain.varTypes Try.prog) (ds ++ gs)).all (· ≤ reachBytes) = true := hsz0
  have hval : ∀ (j : Nat) t v, Try.f4.params[j]? = some t → args[j]? = some v → Value.okWide Try.prog W .any base t v := hval0
  have hW' := hW
  obtain ⟨p, q, hA0, hV, rfl, hfz, hnd⟩ := hW
  have hA : DataW.TrodAll enc Try.prog W 0 (fun _ => true) true Try.f4.params.toList args.toList ds p := hA0
  rw [Try.params4] at hA hval hsz
  obtain ⟨v0, vs0, d0, ds0, p0, q0, hargs, rfl, rfl, h0, r0⟩ := trodAll_cons hA
  obtain ⟨v1, vs1, d1, ds1, p1, q1, rfl, rfl, rfl, h1, r1⟩ := trodAll_cons r0
  obtain ⟨rfl, rfl, rfl⟩ := trodAll_nil r1
  obtain rfl : args = #[v0, v1] := by cases args; simp_all
  obtain ⟨rfl, rfl⟩ := trodVars_none hV
  obtain ⟨a0, len0, cap0, rfl⟩ := okWide_slice Try.underlying39 (hval 0 39 v0 rfl rfl)
  obtain ⟨cs1, rfl, hcs1⟩ := okWide_struct Try.underlying41 (hval 1 41 v1 rfl rfl)
  have k0 := h0
  have k1 := h1
  have lt0 : ∀ x ∈ p0, x.block < W.heap.size := by obtain ⟨m, hm⟩ := k0; exact DataW.trod_lt m _ _ _ hm
  have lt1 : ∀ x ∈ p1, x.block < W.heap.size := by obtain ⟨m, hm⟩ := k1; exact DataW.trod_lt m _ _ _ hm
  obtain ⟨l, ⟨A0, c0, he0, hl0, hC0⟩, hQ0⟩ := opens_arg (j := 0) o39 hsz rfl rfl h0
  obtain ⟨⟨r, c⟩, ⟨x0, x1, he1, ⟨A1, c1, rfl, hl1, hC1⟩, ⟨A2, c2, rfl, hl2, hC2⟩⟩, hQ1, hQ2⟩ := opens_arg (j := 1) o41 hsz rfl rfl h1
  simp [Value.cells] at he0
  obtain ⟨rfl, rfl, rfl⟩ := he0
  have hcs : cs1 = #[.slice A1 r.length c1, .slice A2 c.length c2] := by
    have he : cs1.toList = [.slice A1 r.length c1, .slice A2 c.length c2] := he1
    cases cs1; simp at he; subst he; rfl
  subst hcs
  clear hA0 hval0 hsz0 hsz
  obtain ⟨k, hk⟩ := Pure.DeoptValues l hQ0 r hQ1 c hQ2
  refine (PDeopt.portagelaw26_DeoptValues.calls k _ _ l _ _ r _ _ c true W hC0 hl0 hC1 hl1 hC2 hl2 hk).mono fun e W' ⟨he, bel⟩ => ?_
  subst he
  exact ⟨_, rfl, _, _, _, [], _, [], hW', trodAll_mk1 (shut_bool Try.underlying4 _), (trodAll_cons_mk (Below.trod laidOut (by kernel_rfl) (of_decide_eq_true (by kernel_rfl)) k0 bel lt0) (trodAll_cons_mk (Below.trod laidOut (by kernel_rfl) (of_decide_eq_true (by kernel_rfl)) k1 bel lt1) trodAll_mk0)), rfl, bel.frame _, fun h => by cases h⟩
theorem over : Rows.deoptValuesRow.holds Try.pinned (OpenSpec.ofChange Rows.deoptValuesSpec) :=
  OpenClaim.holds_of_wide 4 Try.f4 rfl rfl rfl rfl rfl rfl rfl ⟨rfl, rfl, rfl, rfl, rfl⟩ rfl rfl rfl rfl rfl (by kernel_rfl) Try.func4 (by kernel_rfl)
    (of_decide_eq_true (by kernel_rfl)) (by unfold Func.isWrapper; first | (rw [if_pos (by decide +kernel)]; kernel_rfl) | (rw [if_neg (by decide +kernel)]; exact ⟨rfl, rfl⟩))
    (fun os started H enc _ => lifted os started H enc)
theorem proved : Rows.DeoptValuesSaid := over
#print axioms proved
end Go.Proofs.Ytgbbcjooieggpaa.deoptValues
namespace Go.Proofs.Ytgbbcjooieggpaa
/-- The row, under a short name, for the claim. -/
theorem deoptValues_holds : Rows.DeoptValuesSaid := deoptValues.proved
end Go.Proofs.Ytgbbcjooieggpaa
