/- InlineFits, the row: the law returns true, and the input reads as it did. For every input of a bulk of at most 1048576. -/
import Derived.Test.YtdjpamgjmpibnaaRows
import Derived.Test.YtdjpamgjmpibnaaFits4
import Derived.Test.YtdjpamgjmpibnaaOpenUpto
import Derived.WalkKit
import Derived.ProofKit
import Derived.OpenShut
import Derived.ShutString
import Derived.ChangeOld
import Derived.Below
import Derived.SizedLaws
import Derived.Carry
import Derived.JoinedCond
namespace Go.Proofs.Ytdjpamgjmpibnaa.inlineFitsUpto
open Go.ChangeShapes Go.WideShapes Go.ChangeAt Go.RowKit
open Go.Proofs.Ytdjpamgjmpibnaa.OpenUpto Go.Proofs.Ytdjpamgjmpibnaa.PFit Go.Proofs.YtdjpamgjmpibnaaW.PrintWords
open Go.ChangeMaps (open_string shut_string)
set_option linter.unusedVariables false
set_option linter.unusedSimpArgs false
theorem own : ownKnob Try.prog.godebug = none := by kernel_rfl
theorem laidOut : laidOutB Try.prog = true := by kernel_rfl
instance : Inhabited S56 := ⟨z56⟩
instance : Inhabited S60 := ⟨z60⟩
instance : Inhabited S64 := ⟨z64⟩
instance : Inhabited S75 := ⟨z75⟩
theorem o3 : Opens (Kd.int .i64) Try.prog 3 (fun _ => True) := (opens_int .i64 Try.underlying3).mono (fun _ _ => trivial)
theorem o2 : Opens (Kd.int .i64) Try.prog 2 (fun _ => True) := (opens_int .i64 Try.underlying2).mono (fun _ _ => trivial)
theorem o9 : Opens Kd.string Try.prog 9 (fun _ => True) := (opens_string Try.underlying9).mono (fun _ _ => trivial)
theorem o56 : Opens k56 Try.prog 56 (fun x => True) := (opens_struct (fun p : Int × Int × ByteArray => (⟨p.1, p.2.1, p.2.2⟩ : S56)) (fun x : S56 => (x.f0, x.f1, x.f2)) (fun _ => rfl) Try.underlying56 (by kernel_rfl) (opensF_cons o3 rfl (by kernel_rfl) (opensF_cons o2 rfl (by kernel_rfl) (opensF_last o9 rfl (by kernel_rfl)) (by intro g hg; simp at hg; first | (subst hg; decide) | (rcases hg with rfl | rfl | rfl | rfl | rfl | rfl | rfl <;> decide))) (by intro g hg; simp at hg; first | (subst hg; decide) | (rcases hg with rfl | rfl | rfl | rfl | rfl | rfl | rfl <;> decide)))).mono (fun _ _ => trivial)
theorem o41 : Opens (Kd.slice 56 (k56)) Try.prog 41 (fun l => l.length ≤ 1048576) := (opens_slice Try.underlying41 o56 (by kernel_rfl)).mono (fun _ h => h.1)
theorem o64 : Opens k64 Try.prog 64 (fun x => True) := (opens_struct (fun p : Int × Int => (⟨p.1, p.2⟩ : S64)) (fun x : S64 => (x.f0, x.f1)) (fun _ => rfl) Try.underlying64 (by kernel_rfl) (opensF_cons o3 rfl (by kernel_rfl) (opensF_last o2 rfl (by kernel_rfl)) (by intro g hg; simp at hg; first | (subst hg; decide) | (rcases hg with rfl | rfl | rfl | rfl | rfl | rfl | rfl <;> decide)))).mono (fun _ _ => trivial)
theorem o57 : Opens (Kd.slice 64 (k64)) Try.prog 57 (fun l => l.length ≤ 1048576) := (opens_slice Try.underlying57 o64 (by kernel_rfl)).mono (fun _ h => h.1)
theorem o75 : Opens k75 Try.prog 75 (fun x => True) := (opens_struct (fun p : Int × Int × Int × Int => (⟨p.1, p.2.1, p.2.2.1, p.2.2.2⟩ : S75)) (fun x : S75 => (x.f0, x.f1, x.f2, x.f3)) (fun _ => rfl) Try.underlying75 (by kernel_rfl) (opensF_cons o3 rfl (by kernel_rfl) (opensF_cons o3 rfl (by kernel_rfl) (opensF_cons o3 rfl (by kernel_rfl) (opensF_last o3 rfl (by kernel_rfl)) (by intro g hg; simp at hg; first | (subst hg; decide) | (rcases hg with rfl | rfl | rfl | rfl | rfl | rfl | rfl <;> decide))) (by intro g hg; simp at hg; first | (subst hg; decide) | (rcases hg with rfl | rfl | rfl | rfl | rfl | rfl | rfl <;> decide))) (by intro g hg; simp at hg; first | (subst hg; decide) | (rcases hg with rfl | rfl | rfl | rfl | rfl | rfl | rfl <;> decide)))).mono (fun _ _ => trivial)
theorem o58 : Opens (Kd.slice 75 (k75)) Try.prog 58 (fun l => l.length ≤ 1048576) := (opens_slice Try.underlying58 o75 (by kernel_rfl)).mono (fun _ h => h.1)
theorem o60 : Opens k60 Try.prog 60 (fun x => (x.f3.length ≤ 1048576 ∧ x.f4.length ≤ 1048576)) := (opens_struct (fun p : ByteArray × Int × Int × (List (S64)) × (List (S75)) => (⟨p.1, p.2.1, p.2.2.1, p.2.2.2.1, p.2.2.2.2⟩ : S60)) (fun x : S60 => (x.f0, x.f1, x.f2, x.f3, x.f4)) (fun _ => rfl) Try.underlying60 (by kernel_rfl) (opensF_cons o9 rfl (by kernel_rfl) (opensF_cons o3 rfl (by kernel_rfl) (opensF_cons o3 rfl (by kernel_rfl) (opensF_cons o57 rfl (by kernel_rfl) (opensF_last o58 rfl (by kernel_rfl)) (by intro g hg; simp at hg; first | (subst hg; decide) | (rcases hg with rfl | rfl | rfl | rfl | rfl | rfl | rfl <;> decide))) (by intro g hg; simp at hg; first | (subst hg; decide) | (rcases hg with rfl | rfl | rfl | rfl | rfl | rfl | rfl <;> decide))) (by intro g hg; simp at hg; first | (subst hg; decide) | (rcases hg with rfl | rfl | rfl | rfl | rfl | rfl | rfl <;> decide))) (by intro g hg; simp at hg; first | (subst hg; decide) | (rcases hg with rfl | rfl | rfl | rfl | rfl | rfl | rfl <;> decide)))).mono (fun _ h => ⟨h.2.2.2.1, h.2.2.2.2⟩)
theorem o42 : Opens (Kd.slice 60 (k60)) Try.prog 42 (fun l => (l.length ≤ 1048576 ∧ ∀ x0 ∈ l, (x0.f3.length ≤ 1048576 ∧ x0.f4.length ≤ 1048576))) := (opens_slice Try.underlying42 o60 (by kernel_rfl)).mono (fun _ h => ⟨h.1, h.2⟩)
theorem p44 : Opens (Kd.iso (Kd.pair (Kd.slice 56 (k56)) (Kd.slice 60 (k60))) (fun p : ((List (S56)) × (List (S60))) => p)) Try.prog 44 (fun p => (p.1.length ≤ 1048576 ∧ (p.2.length ≤ 1048576 ∧ ∀ x0 ∈ p.2, (x0.f3.length ≤ 1048576 ∧ x0.f4.length ≤ 1048576)))) := (opens_struct (fun p : ((List (S56)) × (List (S60))) => p) (fun p : ((List (S56)) × (List (S60))) => p) (fun _ => rfl) Try.underlying44 (by kernel_rfl) (opensF_cons o41 rfl (by kernel_rfl) (opensF_last o42 rfl (by kernel_rfl)) (by intro g hg; simp at hg; first | (subst hg; decide) | (rcases hg with rfl | rfl | rfl | rfl | rfl | rfl | rfl <;> decide)))).mono (fun _ h => h)
set_option maxRecDepth 100000 in
set_option maxHeartbeats 1000000 in
theorem contract (H : Type) (enc : TypeId × Value → H) (W : World) (base : Nat) (args : Array Value) (ds gs : List (DataW H)) (before : List MemPlace)
  (hval0 : ∀ (j : Nat) t v, Try.f4.params[j]? = some t → args[j]? = some v → Value.okWide Try.prog W .any base t v)
  (hW : DataW.Whole enc Try.prog Try.f4.params.toList Rows.inlineFitsSpec.vars false W args.toList ds gs before) (hsz0 : Rows.uptoSmall H (ds ++ gs) = true) :
    Calls Try.prog 4 args W fun e W' => ∃ v, e = .returned v ∧ Rows.inlineFitsSpec.post enc Try.prog Try.f4 false true false false W args v W' := by
  have hsz := hsz0
  have hval := hval0
  have hW' := hW
  obtain ⟨p, q, hA0, hV, rfl, hfz, hnd⟩ := hW
  have hA : DataW.TrodAll enc Try.prog W 0 (fun _ => true) true Try.f4.params.toList args.toList ds p := hA0
  rw [Try.params4] at hA hval
  obtain ⟨v0, vs0, d0, ds0, p0, q0, hargs, rfl, rfl, h0, r0⟩ := trodAll_cons hA
  obtain ⟨v1, vs1, d1, ds1, p1, q1, rfl, rfl, rfl, h1, r1⟩ := trodAll_cons r0
  obtain ⟨rfl, rfl, rfl⟩ := trodAll_nil r1
  obtain rfl : args = #[v0, v1] := by cases args; simp_all
  obtain ⟨rfl, rfl⟩ := trodVars_none hV
  try simp only [List.append_nil] at hsz
  obtain ⟨cs0, rfl, hcs0⟩ := okWide_struct Try.underlying44 (hval 0 44 v0 rfl rfl)
  obtain ⟨m1, rfl⟩ := okWide_int Try.underlying3 (hval 1 3 v1 rfl rfl)
  have k0_ := h0
  have lt0 : ∀ x ∈ p0, x.block < W.heap.size := by obtain ⟨m, hm⟩ := k0_; exact DataW.trod_lt m _ _ _ hm
  have k1_ := h1
  have lt1 : ∀ x ∈ p1, x.block < W.heap.size := by obtain ⟨m, hm⟩ := k1_; exact DataW.trod_lt m _ _ _ hm
  obtain ⟨⟨l0_0, l0_1⟩, hK0, ⟨Q0_0, Q0_1⟩⟩ := opens_arg (j := 0) p44 hsz rfl h0
  obtain ⟨x0_0, y0_0, e0, ⟨A0_0, c0_0, rfl, hl0_0, hC0_0⟩, ⟨A0_1, c0_1, rfl, hl0_1, hC0_1⟩⟩ := hK0
  have hc0 : cs0 = #[.slice A0_0 l0_0.length c0_0, .slice A0_1 l0_1.length c0_1] := by
    have he : cs0.toList = [.slice A0_0 l0_0.length c0_0, .slice A0_1 l0_1.length c0_1] := e0
    exact Array.toList_inj.1 he
  subst hc0
  obtain ⟨a1, hK1, Q1⟩ := opens_arg (j := 1) o3 hsz rfl h1
  have he1 := hK1
  simp [Value.cells, Kd.int, Kd.bool, Kd.string, Kd.scalar] at he1
  subst m1
  obtain hk := (show (l0_0.length ≤ 1048576 ∧ SmallF l0_1) ∧ true = true from ⟨⟨Q0_0, ⟨Q0_1.1, fun x h => (Q0_1.2 x h).1, fun x h => (Q0_1.2 x h).2⟩⟩, rfl⟩)
  refine (portagelaw20_InlineFits.calls _ _ l0_0 _ _ l0_1 a1 true W hC0_0 hl0_0 hC0_1 hl0_1 hk).mono fun e W' ⟨he, bel⟩ => ?_
  subst he
  exact ⟨_, rfl, _, _, _, [], _, [], hW', trodAll_mk1 (shut_bool Try.underlying4 _), (trodAll_cons_mk (Below.trod laidOut (by kernel_rfl) (of_decide_eq_true (by kernel_rfl)) k0_ bel lt0) (trodAll_cons_mk (Below.trod laidOut (by kernel_rfl) (of_decide_eq_true (by kernel_rfl)) k1_ bel lt1) trodAll_mk0)), rfl, bel.frame _, fun h => by cases h⟩
set_option maxRecDepth 100000 in
theorem lifted (os : Os) (started : os.Started) (H : Type) (enc : TypeId × Value → H) (F : Stop.Interp) :
    ReturnsInHanded {} Try.checked os 4 .any ((Rows.OpenSpec.upto Rows.inlineFitsSpec).pre6 enc Try.prog Try.f4 Rows.inlineFitsUptoRow.domain false) (((Rows.OpenSpec.upto Rows.inlineFitsSpec).at F).post enc Try.prog Try.f4 false true false false) := by
  refine returnsInHanded_of_cond (C := Try.checked) (s := Rows.OpenSpec.upto Rows.inlineFitsSpec) (k := Rows.uptoSmall) rfl own started (by kernel_rfl) Try.func4
    (OpenSpec.witness (enc := enc) (C := Try.checked) (s := Rows.OpenSpec.upto Rows.inlineFitsSpec) (k := Rows.uptoSmall) rfl false ⟨#[], #[.agg #[.slice none 0 0, .slice none 0 0], .int .i64 0], []⟩ 8 (by kernel_rfl) (by kernel_rfl) (by kernel_rfl)
      (x := ([.agg [.nil, .nil], .lit (.int .i64 0)], [], [])) (by kernel_rfl) rfl (by kernel_rfl)) ?_
  intro W base args ds gs before hval hW _ hk _
  exact contract H enc W base args ds gs before hval hW hk
theorem proved : Rows.InlineFitsUptoSaid :=
  OpenClaim.holds_of_cond 4 Try.f4 rfl rfl rfl rfl rfl rfl rfl ⟨rfl, rfl, rfl, rfl, rfl⟩ rfl rfl rfl rfl rfl (by kernel_rfl) Try.func4 (by kernel_rfl)
    (of_decide_eq_true (by kernel_rfl)) (by unfold Func.isWrapper; first | (rw [if_pos (by decide +kernel)]; kernel_rfl) | (rw [if_neg (by decide +kernel)]; exact ⟨rfl, rfl⟩))
    (fun os started H enc _ F => lifted os started H enc F)
#print axioms proved
end Go.Proofs.Ytdjpamgjmpibnaa.inlineFitsUpto
namespace Go.Proofs.Ytdjpamgjmpibnaa
/-- The row, under a short name, for the claim. -/
theorem inlineFits_holds : Rows.InlineFitsUptoSaid := inlineFitsUpto.proved
end Go.Proofs.Ytdjpamgjmpibnaa
