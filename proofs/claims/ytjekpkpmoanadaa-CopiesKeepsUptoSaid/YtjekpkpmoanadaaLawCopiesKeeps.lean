/- CopiesKeeps, the row: the law returns true, and the input reads as it did. For every input of a bulk of at most 1048576. -/
import Derived.Test.YtjekpkpmoanadaaRows
import Derived.Test.YtjekpkpmoanadaaKeeps
import Derived.Test.YtjekpkpmoanadaaSizes
import Derived.Test.YtjekpkpmoanadaaOpenUpto
import Derived.WalkKit
import Derived.ProofKit
import Derived.OpenShut
import Derived.ShutString
import Derived.ChangeOld
import Derived.Below
import Derived.SizedLaws
import Derived.Carry
import Derived.JoinedCond
namespace Go.Proofs.Ytjekpkpmoanadaa.copiesKeepsUpto
open Go.ChangeShapes Go.WideShapes Go.ChangeAt Go.RowKit
open Go.Proofs.Ytjekpkpmoanadaa.OpenUpto Go.Proofs.Ytjekpkpmoanadaa.PCop Go.Proofs.YtjekpkpmoanadaaW.PrintWords
open Go.ChangeMaps (open_string shut_string)
set_option linter.unusedVariables false
set_option linter.unusedSimpArgs false
theorem own : ownKnob Try.prog.godebug = none := by kernel_rfl
theorem laidOut : laidOutB Try.prog = true := by kernel_rfl
instance : Inhabited S43 := ⟨z43⟩
instance : Inhabited S47 := ⟨z47⟩
instance : Inhabited S49 := ⟨z49⟩
instance : Inhabited S65 := ⟨z65⟩
theorem o3 : Opens (Kd.int .i64) Try.prog 3 (fun x => (Lit.int .i64 x).wf = true) := opens_int .i64 Try.underlying3
theorem o2 : Opens (Kd.int .i64) Try.prog 2 (fun x => (Lit.int .i64 x).wf = true) := opens_int .i64 Try.underlying2
theorem o49 : Opens k49 Try.prog 49 (fun x => ((Lit.int .i64 x.f0).wf = true ∧ (Lit.int .i64 x.f1).wf = true)) := (opens_struct (fun p : Int × Int => (⟨p.1, p.2⟩ : S49)) (fun x : S49 => (x.f0, x.f1)) (fun _ => rfl) Try.underlying49 (by kernel_rfl) (opensF_cons o3 rfl (by kernel_rfl) (opensF_last o2 rfl (by kernel_rfl)) (by intro g hg; simp at hg; first | (subst hg; decide) | (rcases hg with rfl | rfl | rfl | rfl | rfl | rfl | rfl <;> decide)))).mono (fun _ h => ⟨h.1, h.2⟩)
theorem o44 : Opens (Kd.slice 49 (k49)) Try.prog 44 (fun l => (l.length ≤ 1048576 ∧ ∀ x0 ∈ l, ((Lit.int .i64 x0.f0).wf = true ∧ (Lit.int .i64 x0.f1).wf = true))) := (opens_slice Try.underlying44 o49 (by kernel_rfl)).mono (fun _ h => ⟨h.1, h.2⟩)
theorem o65 : Opens k65 Try.prog 65 (fun x => ((Lit.int .i64 x.f0).wf = true ∧ (Lit.int .i64 x.f1).wf = true ∧ (x.f2.length ≤ 1048576 ∧ ∀ x0 ∈ x.f2, ((Lit.int .i64 x0.f0).wf = true ∧ (Lit.int .i64 x0.f1).wf = true)))) := (opens_struct (fun p : Int × Int × (List (S49)) => (⟨p.1, p.2.1, p.2.2⟩ : S65)) (fun x : S65 => (x.f0, x.f1, x.f2)) (fun _ => rfl) Try.underlying65 (by kernel_rfl) (opensF_cons o3 rfl (by kernel_rfl) (opensF_cons o3 rfl (by kernel_rfl) (opensF_last o44 rfl (by kernel_rfl)) (by intro g hg; simp at hg; first | (subst hg; decide) | (rcases hg with rfl | rfl | rfl | rfl | rfl | rfl | rfl <;> decide))) (by intro g hg; simp at hg; first | (subst hg; decide) | (rcases hg with rfl | rfl | rfl | rfl | rfl | rfl | rfl <;> decide)))).mono (fun _ h => ⟨h.1, h.2.1, h.2.2⟩)
theorem o45 : Opens (Kd.slice 65 (k65)) Try.prog 45 (fun l => (l.length ≤ 1048576 ∧ ∀ x0 ∈ l, ((Lit.int .i64 x0.f0).wf = true ∧ (Lit.int .i64 x0.f1).wf = true ∧ (x0.f2.length ≤ 1048576 ∧ ∀ x1 ∈ x0.f2, ((Lit.int .i64 x1.f0).wf = true ∧ (Lit.int .i64 x1.f1).wf = true))))) := (opens_slice Try.underlying45 o65 (by kernel_rfl)).mono (fun _ h => ⟨h.1, h.2⟩)
theorem o47 : Opens k47 Try.prog 47 (fun x => ((Lit.int .i64 x.f0).wf = true ∧ (Lit.int .i64 x.f1).wf = true ∧ (Lit.int .i64 x.f2).wf = true ∧ (x.f3.length ≤ 1048576 ∧ ∀ x0 ∈ x.f3, ((Lit.int .i64 x0.f0).wf = true ∧ (Lit.int .i64 x0.f1).wf = true)) ∧ (Lit.int .i64 x.f4).wf = true ∧ (Lit.int .i64 x.f5).wf = true ∧ (Lit.int .i64 x.f6).wf = true ∧ (x.f7.length ≤ 1048576 ∧ ∀ x0 ∈ x.f7, ((Lit.int .i64 x0.f0).wf = true ∧ (Lit.int .i64 x0.f1).wf = true ∧ (x0.f2.length ≤ 1048576 ∧ ∀ x1 ∈ x0.f2, ((Lit.int .i64 x1.f0).wf = true ∧ (Lit.int .i64 x1.f1).wf = true)))))) := (opens_struct (fun p : Int × Int × Int × (List (S49)) × Int × Int × Int × (List (S65)) => (⟨p.1, p.2.1, p.2.2.1, p.2.2.2.1, p.2.2.2.2.1, p.2.2.2.2.2.1, p.2.2.2.2.2.2.1, p.2.2.2.2.2.2.2⟩ : S47)) (fun x : S47 => (x.f0, x.f1, x.f2, x.f3, x.f4, x.f5, x.f6, x.f7)) (fun _ => rfl) Try.underlying47 (by kernel_rfl) (opensF_cons o3 rfl (by kernel_rfl) (opensF_cons o3 rfl (by kernel_rfl) (opensF_cons o3 rfl (by kernel_rfl) (opensF_cons o44 rfl (by kernel_rfl) (opensF_cons o2 rfl (by kernel_rfl) (opensF_cons o3 rfl (by kernel_rfl) (opensF_cons o3 rfl (by kernel_rfl) (opensF_last o45 rfl (by kernel_rfl)) (by intro g hg; simp at hg; first | (subst hg; decide) | (rcases hg with rfl | rfl | rfl | rfl | rfl | rfl | rfl <;> decide))) (by intro g hg; simp at hg; first | (subst hg; decide) | (rcases hg with rfl | rfl | rfl | rfl | rfl | rfl | rfl <;> decide))) (by intro g hg; simp at hg; first | (subst hg; decide) | (rcases hg with rfl | rfl | rfl | rfl | rfl | rfl | rfl <;> decide))) (by intro g hg; simp at hg; first | (subst hg; decide) | (rcases hg with rfl | rfl | rfl | rfl | rfl | rfl | rfl <;> decide))) (by intro g hg; simp at hg; first | (subst hg; decide) | (rcases hg with rfl | rfl | rfl | rfl | rfl | rfl | rfl <;> decide))) (by intro g hg; simp at hg; first | (subst hg; decide) | (rcases hg with rfl | rfl | rfl | rfl | rfl | rfl | rfl <;> decide))) (by intro g hg; simp at hg; first | (subst hg; decide) | (rcases hg with rfl | rfl | rfl | rfl | rfl | rfl | rfl <;> decide)))).mono (fun _ h => ⟨h.1, h.2.1, h.2.2.1, h.2.2.2.1, h.2.2.2.2.1, h.2.2.2.2.2.1, h.2.2.2.2.2.2.1, h.2.2.2.2.2.2.2⟩)
theorem o40 : Opens (Kd.slice 47 (k47)) Try.prog 40 (fun l => (l.length ≤ 1048576 ∧ ∀ x0 ∈ l, ((Lit.int .i64 x0.f0).wf = true ∧ (Lit.int .i64 x0.f1).wf = true ∧ (Lit.int .i64 x0.f2).wf = true ∧ (x0.f3.length ≤ 1048576 ∧ ∀ x1 ∈ x0.f3, ((Lit.int .i64 x1.f0).wf = true ∧ (Lit.int .i64 x1.f1).wf = true)) ∧ (Lit.int .i64 x0.f4).wf = true ∧ (Lit.int .i64 x0.f5).wf = true ∧ (Lit.int .i64 x0.f6).wf = true ∧ (x0.f7.length ≤ 1048576 ∧ ∀ x1 ∈ x0.f7, ((Lit.int .i64 x1.f0).wf = true ∧ (Lit.int .i64 x1.f1).wf = true ∧ (x1.f2.length ≤ 1048576 ∧ ∀ x2 ∈ x1.f2, ((Lit.int .i64 x2.f0).wf = true ∧ (Lit.int .i64 x2.f1).wf = true))))))) := (opens_slice Try.underlying40 o47 (by kernel_rfl)).mono (fun _ h => ⟨h.1, h.2⟩)
theorem o41 : Opens (Kd.slice 3 (Kd.int .i64)) Try.prog 41 (fun l => (l.length ≤ 1048576 ∧ ∀ x0 ∈ l, (Lit.int .i64 x0).wf = true)) := (opens_slice Try.underlying41 o3 (by kernel_rfl)).mono (fun _ h => ⟨h.1, h.2⟩)
theorem o43 : Opens k43 Try.prog 43 (fun x => ((Lit.int .i64 x.f0).wf = true ∧ (x.f1.length ≤ 1048576 ∧ ∀ x0 ∈ x.f1, ((Lit.int .i64 x0.f0).wf = true ∧ (Lit.int .i64 x0.f1).wf = true ∧ (Lit.int .i64 x0.f2).wf = true ∧ (x0.f3.length ≤ 1048576 ∧ ∀ x1 ∈ x0.f3, ((Lit.int .i64 x1.f0).wf = true ∧ (Lit.int .i64 x1.f1).wf = true)) ∧ (Lit.int .i64 x0.f4).wf = true ∧ (Lit.int .i64 x0.f5).wf = true ∧ (Lit.int .i64 x0.f6).wf = true ∧ (x0.f7.length ≤ 1048576 ∧ ∀ x1 ∈ x0.f7, ((Lit.int .i64 x1.f0).wf = true ∧ (Lit.int .i64 x1.f1).wf = true ∧ (x1.f2.length ≤ 1048576 ∧ ∀ x2 ∈ x1.f2, ((Lit.int .i64 x2.f0).wf = true ∧ (Lit.int .i64 x2.f1).wf = true)))))) ∧ (x.f2.length ≤ 1048576 ∧ ∀ x0 ∈ x.f2, (Lit.int .i64 x0).wf = true))) := (opens_struct (fun p : Int × (List (S47)) × (List (Int)) => (⟨p.1, p.2.1, p.2.2⟩ : S43)) (fun x : S43 => (x.f0, x.f1, x.f2)) (fun _ => rfl) Try.underlying43 (by kernel_rfl) (opensF_cons o3 rfl (by kernel_rfl) (opensF_cons o40 rfl (by kernel_rfl) (opensF_last o41 rfl (by kernel_rfl)) (by intro g hg; simp at hg; first | (subst hg; decide) | (rcases hg with rfl | rfl | rfl | rfl | rfl | rfl | rfl <;> decide))) (by intro g hg; simp at hg; first | (subst hg; decide) | (rcases hg with rfl | rfl | rfl | rfl | rfl | rfl | rfl <;> decide)))).mono (fun _ h => ⟨h.1, h.2.1, h.2.2⟩)
theorem o22 : Opens (Kd.slice 43 (k43)) Try.prog 22 (fun l => (l.length ≤ 1048576 ∧ ∀ x0 ∈ l, ((Lit.int .i64 x0.f0).wf = true ∧ (x0.f1.length ≤ 1048576 ∧ ∀ x1 ∈ x0.f1, ((Lit.int .i64 x1.f0).wf = true ∧ (Lit.int .i64 x1.f1).wf = true ∧ (Lit.int .i64 x1.f2).wf = true ∧ (x1.f3.length ≤ 1048576 ∧ ∀ x2 ∈ x1.f3, ((Lit.int .i64 x2.f0).wf = true ∧ (Lit.int .i64 x2.f1).wf = true)) ∧ (Lit.int .i64 x1.f4).wf = true ∧ (Lit.int .i64 x1.f5).wf = true ∧ (Lit.int .i64 x1.f6).wf = true ∧ (x1.f7.length ≤ 1048576 ∧ ∀ x2 ∈ x1.f7, ((Lit.int .i64 x2.f0).wf = true ∧ (Lit.int .i64 x2.f1).wf = true ∧ (x2.f2.length ≤ 1048576 ∧ ∀ x3 ∈ x2.f2, ((Lit.int .i64 x3.f0).wf = true ∧ (Lit.int .i64 x3.f1).wf = true)))))) ∧ (x0.f2.length ≤ 1048576 ∧ ∀ x1 ∈ x0.f2, (Lit.int .i64 x1).wf = true)))) := (opens_slice Try.underlying22 o43 (by kernel_rfl)).mono (fun _ h => ⟨h.1, h.2⟩)
theorem p24 : Opens (Kd.iso (Kd.pair (Kd.int .i64) (Kd.pair (Kd.int .i64) (Kd.slice 43 (k43)))) (fun p : (Int × Int × (List (S43))) => p)) Try.prog 24 (fun p => ((Lit.int .i64 p.1).wf = true ∧ (Lit.int .i64 p.2.1).wf = true ∧ (p.2.2.length ≤ 1048576 ∧ ∀ x0 ∈ p.2.2, ((Lit.int .i64 x0.f0).wf = true ∧ (x0.f1.length ≤ 1048576 ∧ ∀ x1 ∈ x0.f1, ((Lit.int .i64 x1.f0).wf = true ∧ (Lit.int .i64 x1.f1).wf = true ∧ (Lit.int .i64 x1.f2).wf = true ∧ (x1.f3.length ≤ 1048576 ∧ ∀ x2 ∈ x1.f3, ((Lit.int .i64 x2.f0).wf = true ∧ (Lit.int .i64 x2.f1).wf = true)) ∧ (Lit.int .i64 x1.f4).wf = true ∧ (Lit.int .i64 x1.f5).wf = true ∧ (Lit.int .i64 x1.f6).wf = true ∧ (x1.f7.length ≤ 1048576 ∧ ∀ x2 ∈ x1.f7, ((Lit.int .i64 x2.f0).wf = true ∧ (Lit.int .i64 x2.f1).wf = true ∧ (x2.f2.length ≤ 1048576 ∧ ∀ x3 ∈ x2.f2, ((Lit.int .i64 x3.f0).wf = true ∧ (Lit.int .i64 x3.f1).wf = true)))))) ∧ (x0.f2.length ≤ 1048576 ∧ ∀ x1 ∈ x0.f2, (Lit.int .i64 x1).wf = true))))) := (opens_struct (fun p : (Int × Int × (List (S43))) => p) (fun p : (Int × Int × (List (S43))) => p) (fun _ => rfl) Try.underlying24 (by kernel_rfl) (opensF_cons o3 rfl (by kernel_rfl) (opensF_cons o3 rfl (by kernel_rfl) (opensF_last o22 rfl (by kernel_rfl)) (by intro g hg; simp at hg; first | (subst hg; decide) | (rcases hg with rfl | rfl | rfl | rfl | rfl | rfl | rfl <;> decide))) (by intro g hg; simp at hg; first | (subst hg; decide) | (rcases hg with rfl | rfl | rfl | rfl | rfl | rfl | rfl <;> decide)))).mono (fun _ h => h)
set_option maxRecDepth 100000 in
set_option maxHeartbeats 1000000 in
theorem contract (H : Type) (enc : TypeId × Value → H) (W : World) (base : Nat) (args : Array Value) (ds gs : List (DataW H)) (before : List MemPlace)
  (hval0 : ∀ (j : Nat) t v, Try.f7.params[j]? = some t → args[j]? = some v → Value.okWide Try.prog W .any base t v)
  (hW : DataW.Whole enc Try.prog Try.f7.params.toList Rows.copiesKeepsSpec.vars false W args.toList ds gs before) (hsz0 : Rows.uptoSmall H (ds ++ gs) = true) :
    Calls Try.prog 7 args W fun e W' => ∃ v, e = .returned v ∧ Rows.copiesKeepsSpec.post enc Try.prog Try.f7 false true false false W args v W' := by
  have hsz := hsz0
  have hval := hval0
  have hW' := hW
  obtain ⟨p, q, hA0, hV, rfl, hfz, hnd⟩ := hW
  have hA : DataW.TrodAll enc Try.prog W 0 (fun _ => true) true Try.f7.params.toList args.toList ds p := hA0
  rw [Try.params7] at hA hval
  obtain ⟨v0, vs0, d0, ds0, p0, q0, hargs, rfl, rfl, h0, r0⟩ := trodAll_cons hA
  obtain ⟨rfl, rfl, rfl⟩ := trodAll_nil r0
  obtain rfl : args = #[v0] := by cases args; simp_all
  obtain ⟨rfl, rfl⟩ := trodVars_none hV
  try simp only [List.append_nil] at hsz
  obtain ⟨cs0, rfl, hcs0⟩ := okWide_struct Try.underlying24 (hval 0 24 v0 rfl rfl)
  have k0_ := h0
  have lt0 : ∀ x ∈ p0, x.block < W.heap.size := by obtain ⟨m, hm⟩ := k0_; exact DataW.trod_lt m _ _ _ hm
  obtain ⟨⟨a0_0, a0_1, l0_2⟩, hK0, ⟨Q0_0, Q0_1, Q0_2⟩⟩ := opens_arg (j := 0) p24 hsz rfl h0
  obtain ⟨x0_0, y0_0, e0, rfl, ⟨x0_1, y0_1, rfl, rfl, ⟨A0_2, c0_2, rfl, hl0_2, hC0_2⟩⟩⟩ := hK0
  have hc0 : cs0 = #[.int .i64 a0_0, .int .i64 a0_1, .slice A0_2 l0_2.length c0_2] := by
    have he : cs0.toList = [.int .i64 a0_0, .int .i64 a0_1, .slice A0_2 l0_2.length c0_2] := e0
    exact Array.toList_inj.1 he
  subst hc0
  obtain hk := (show OkL l0_2 ∧ true = true from ⟨okL_upto Q0_2, rfl⟩)
  refine (portagelaw22_CopiesKeeps.calls a0_0 a0_1 _ _ l0_2 true W hC0_2 hl0_2 hk).mono fun e W' ⟨he, bel⟩ => ?_
  subst he
  exact ⟨_, rfl, _, _, _, [], _, [], hW', trodAll_mk1 (shut_bool Try.underlying4 _), (trodAll_cons_mk (Below.trod laidOut (by kernel_rfl) (of_decide_eq_true (by kernel_rfl)) k0_ bel lt0) trodAll_mk0), rfl, bel.frame _, fun h => by cases h⟩
set_option maxRecDepth 100000 in
theorem lifted (os : Os) (started : os.Started) (H : Type) (enc : TypeId × Value → H) (F : Stop.Interp) :
    ReturnsInHanded {} Try.checked os 7 .any ((Rows.OpenSpec.upto Rows.copiesKeepsSpec).pre6 enc Try.prog Try.f7 Rows.copiesKeepsUptoRow.domain false) (((Rows.OpenSpec.upto Rows.copiesKeepsSpec).at F).post enc Try.prog Try.f7 false true false false) := by
  refine returnsInHanded_of_cond (C := Try.checked) (s := Rows.OpenSpec.upto Rows.copiesKeepsSpec) (k := Rows.uptoSmall) rfl own started (by kernel_rfl) Try.func7
    (OpenSpec.witness (enc := enc) (C := Try.checked) (s := Rows.OpenSpec.upto Rows.copiesKeepsSpec) (k := Rows.uptoSmall) rfl false ⟨#[], #[.agg #[.int .i64 0, .int .i64 0, .slice none 0 0]], []⟩ 8 (by kernel_rfl) (by kernel_rfl) (by kernel_rfl)
      (x := ([.agg [.lit (.int .i64 0), .lit (.int .i64 0), .nil]], [], [])) (by kernel_rfl) rfl (by kernel_rfl)) ?_
  intro W base args ds gs before hval hW _ hk _
  exact contract H enc W base args ds gs before hval hW hk
theorem proved : Rows.CopiesKeepsUptoSaid :=
  OpenClaim.holds_of_cond 7 Try.f7 rfl rfl rfl rfl rfl rfl rfl ⟨rfl, rfl, rfl, rfl, rfl⟩ rfl rfl rfl rfl rfl (by kernel_rfl) Try.func7 (by kernel_rfl)
    (of_decide_eq_true (by kernel_rfl)) (by unfold Func.isWrapper; first | (rw [if_pos (by decide +kernel)]; kernel_rfl) | (rw [if_neg (by decide +kernel)]; exact ⟨rfl, rfl⟩))
    (fun os started H enc _ F => lifted os started H enc F)
#print axioms proved
end Go.Proofs.Ytjekpkpmoanadaa.copiesKeepsUpto
namespace Go.Proofs.Ytjekpkpmoanadaa
/-- The row, under a short name, for the claim. -/
theorem copiesKeeps_holds : Rows.CopiesKeepsUptoSaid := copiesKeepsUpto.proved
end Go.Proofs.Ytjekpkpmoanadaa
