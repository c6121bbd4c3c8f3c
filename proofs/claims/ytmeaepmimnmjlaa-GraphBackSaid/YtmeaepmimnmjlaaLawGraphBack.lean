/- GraphBack, the row: the law returns true, and the input reads as it did. For every input. -/
import Derived.Test.YtmeaepmimnmjlaaRows
import Derived.Test.YtmeaepmimnmjlaaBackL
import Derived.Test.YtmeaepmimnmjlaaOpen
import Derived.WalkKit
import Derived.ProofKit
import Derived.OpenShut
import Derived.ShutString
import Derived.ChangeOld
import Derived.Below
import Derived.SizedLaws
import Derived.Carry
namespace Go.Proofs.Ytmeaepmimnmjlaa.graphBack
open Go.ChangeShapes Go.WideShapes Go.ChangeAt Go.RowKit
open Go.Proofs.Ytmeaepmimnmjlaa.Open Go.Proofs.Ytmeaepmimnmjlaa.PGb Go.Proofs.Ytmeaepmimnmjlaa.Ask Go.Proofs.YtmeaepmimnmjlaaW.PrintWords
open Go.ChangeMaps (open_string shut_string)
set_option linter.unusedVariables false
set_option linter.unusedSimpArgs false
theorem own : ownKnob Try.prog.godebug = none := by kernel_rfl
theorem laidOut : laidOutB Try.prog = true := by kernel_rfl
instance : Inhabited S40 := ⟨z40⟩
instance : Inhabited S49 := ⟨z49⟩
theorem o9 : Opens Kd.string Try.prog 9 (fun _ => True) := (opens_string Try.underlying9).mono (fun _ _ => trivial)
theorem o3 : Opens (Kd.int .i64) Try.prog 3 (fun _ => True) := (opens_int .i64 Try.underlying3).mono (fun _ _ => trivial)
theorem o2 : Opens (Kd.int .i64) Try.prog 2 (fun _ => True) := (opens_int .i64 Try.underlying2).mono (fun _ _ => trivial)
theorem o40 : Opens k40 Try.prog 40 (fun x => True) := (opens_struct (fun p : Int × Int => (⟨p.1, p.2⟩ : S40)) (fun x : S40 => (x.f0, x.f1)) (fun _ => rfl) Try.underlying40 (by kernel_rfl) (opensF_cons o3 rfl (by kernel_rfl) (opensF_last o2 rfl (by kernel_rfl)) (by intro g hg; simp at hg; first | (subst hg; decide) | (rcases hg with rfl | rfl | rfl | rfl | rfl | rfl | rfl <;> decide)))).mono (fun _ _ => trivial)
theorem o22 : Opens (Kd.slice 40 (k40)) Try.prog 22 (fun l => l.length * 16 ≤ 140737488351232) := (opens_slice Try.underlying22 o40 (by kernel_rfl) (by kernel_rfl)).mono (fun _ h => h.2.1)
theorem o49 : Opens k49 Try.prog 49 (fun x => True) := (opens_struct (fun p : Int × Int × Int × Int => (⟨p.1, p.2.1, p.2.2.1, p.2.2.2⟩ : S49)) (fun x : S49 => (x.f0, x.f1, x.f2, x.f3)) (fun _ => rfl) Try.underlying49 (by kernel_rfl) (opensF_cons o3 rfl (by kernel_rfl) (opensF_cons o3 rfl (by kernel_rfl) (opensF_cons o3 rfl (by kernel_rfl) (opensF_last o3 rfl (by kernel_rfl)) (by intro g hg; simp at hg; first | (subst hg; decide) | (rcases hg with rfl | rfl | rfl | rfl | rfl | rfl | rfl <;> decide))) (by intro g hg; simp at hg; first | (subst hg; decide) | (rcases hg with rfl | rfl | rfl | rfl | rfl | rfl | rfl <;> decide))) (by intro g hg; simp at hg; first | (subst hg; decide) | (rcases hg with rfl | rfl | rfl | rfl | rfl | rfl | rfl <;> decide)))).mono (fun _ _ => trivial)
theorem o23 : Opens (Kd.slice 49 (k49)) Try.prog 23 (fun l => l.length * 32 ≤ 140737488351232) := (opens_slice Try.underlying23 o49 (by kernel_rfl) (by kernel_rfl)).mono (fun _ h => h.2.1)
theorem p25 : Opens (Kd.iso (Kd.pair (Kd.string) (Kd.pair (Kd.int .i64) (Kd.pair (Kd.int .i64) (Kd.pair (Kd.slice 40 (k40)) (Kd.slice 49 (k49)))))) (fun p : (ByteArray × Int × Int × (List (S40)) × (List (S49))) => p)) Try.prog 25 (fun p => (True ∧ True ∧ True ∧ p.2.2.2.1.length * 16 ≤ 140737488351232 ∧ p.2.2.2.2.length * 32 ≤ 140737488351232)) := (opens_struct (fun p : (ByteArray × Int × Int × (List (S40)) × (List (S49))) => p) (fun p : (ByteArray × Int × Int × (List (S40)) × (List (S49))) => p) (fun _ => rfl) Try.underlying25 (by kernel_rfl) (opensF_cons o9 rfl (by kernel_rfl) (opensF_cons o3 rfl (by kernel_rfl) (opensF_cons o3 rfl (by kernel_rfl) (opensF_cons o22 rfl (by kernel_rfl) (opensF_last o23 rfl (by kernel_rfl)) (by intro g hg; simp at hg; first | (subst hg; decide) | (rcases hg with rfl | rfl | rfl | rfl | rfl | rfl | rfl <;> decide))) (by intro g hg; simp at hg; first | (subst hg; decide) | (rcases hg with rfl | rfl | rfl | rfl | rfl | rfl | rfl <;> decide))) (by intro g hg; simp at hg; first | (subst hg; decide) | (rcases hg with rfl | rfl | rfl | rfl | rfl | rfl | rfl <;> decide))) (by intro g hg; simp at hg; first | (subst hg; decide) | (rcases hg with rfl | rfl | rfl | rfl | rfl | rfl | rfl <;> decide)))).mono (fun _ h => h)
set_option maxRecDepth 100000 in
set_option maxHeartbeats 1000000 in
theorem contract (H : Type) (enc : TypeId × Value → H) (W : World) (base : Nat) (args : Array Value) (ds gs : List (DataW H)) (before : List MemPlace)
  (hval0 : ∀ (j : Nat) t v, Try.f6.params[j]? = some t → args[j]? = some v → Value.okWide Try.prog W .any base t v)
  (hW : DataW.Whole enc Try.prog Try.f6.params.toList Rows.graphBackSpec.vars false W args.toList ds gs before) (hsz0 : (DataW.weightsEach Try.prog (Try.f6.params.toList ++ Rows.graphBackSpec.plain.varTypes Try.prog) (ds ++ gs)).all (· ≤ reachBytes) = true) :
    Calls Try.prog 6 args W fun e W' => ∃ v, e = .returned v ∧ Rows.graphBackSpec.post enc Try.prog Try.f6 false true false false W args v W' := by
  have hsz := hsz0
  have hval := hval0
  have hW' := hW
  obtain ⟨p, q, hA0, hV, rfl, hfz, hnd⟩ := hW
  have hA : DataW.TrodAll enc Try.prog W 0 (fun _ => true) true Try.f6.params.toList args.toList ds p := hA0
  rw [Try.params6] at hA hval hsz
  obtain ⟨v0, vs0, d0, ds0, p0, q0, hargs, rfl, rfl, h0, r0⟩ := trodAll_cons hA
  obtain ⟨rfl, rfl, rfl⟩ := trodAll_nil r0
  obtain rfl : args = #[v0] := by cases args; simp_all
  obtain ⟨rfl, rfl⟩ := trodVars_none hV
  obtain ⟨cs0, rfl, hcs0⟩ := okWide_struct Try.underlying25 (hval 0 25 v0 rfl rfl)
  have k0_ := h0
  have lt0 : ∀ x ∈ p0, x.block < W.heap.size := by obtain ⟨m, hm⟩ := k0_; exact DataW.trod_lt m _ _ _ hm
  obtain ⟨⟨a0_0, a0_1, a0_2, l0_3, l0_4⟩, hK0, ⟨Q0_0, Q0_1, Q0_2, Q0_3, Q0_4⟩⟩ := opens_arg (j := 0) p25 hsz rfl rfl h0
  obtain ⟨x0_0, y0_0, e0, rfl, ⟨x0_1, y0_1, rfl, rfl, ⟨x0_2, y0_2, rfl, rfl, ⟨x0_3, y0_3, rfl, ⟨A0_3, c0_3, rfl, hl0_3, hC0_3⟩, ⟨A0_4, c0_4, rfl, hl0_4, hC0_4⟩⟩⟩⟩⟩ := hK0
  have hc0 : cs0 = #[.string a0_0, .int .i64 a0_1, .int .i64 a0_2, .slice A0_3 l0_3.length c0_3, .slice A0_4 l0_4.length c0_4] := by
    have he : cs0.toList = [.string a0_0, .int .i64 a0_1, .int .i64 a0_2, .slice A0_3 l0_3.length c0_3, .slice A0_4 l0_4.length c0_4] := e0
    exact Array.toList_inj.1 he
  subst hc0
  obtain hk := show (l0_3.length * 16 ≤ 140737488351232 ∧ l0_4.length * 32 ≤ 140737488351232) ∧ true = true from ⟨⟨Q0_3, Q0_4⟩, rfl⟩
  refine (portagelaw09_GraphBack.calls a0_0 a0_1 a0_2 _ _ l0_3 _ _ l0_4 true W hC0_3 hl0_3 hC0_4 hl0_4 hk).mono fun e W' ⟨he, bel⟩ => ?_
  subst he
  exact ⟨_, rfl, _, _, _, [], _, [], hW', trodAll_mk1 (shut_bool Try.underlying4 _), (trodAll_cons_mk (Below.trod laidOut (by kernel_rfl) (of_decide_eq_true (by kernel_rfl)) k0_ bel lt0) trodAll_mk0), rfl, bel.frame _, fun h => by cases h⟩
set_option maxRecDepth 100000 in
theorem lifted (os : Os) (started : os.Started) (H : Type) (enc : TypeId × Value → H) :
    ReturnsInHanded {} Try.checked os 6 .any (Rows.graphBackSpec.pre6 enc Try.prog Try.f6 Rows.graphBackRow.domain false) (Rows.graphBackSpec.post enc Try.prog Try.f6 false true false false) := by
  refine returnsInHanded_of_change_sized (C := Try.checked) own started (by kernel_rfl) Try.func6
    (ChangeSpec.witness6 (enc := enc) (C := Try.checked) false ⟨#[], #[.agg #[.string .empty, .int .i64 0, .int .i64 0, .slice none 0 0, .slice none 0 0]], []⟩ 8 (by kernel_rfl) (by kernel_rfl) (by kernel_rfl) (by kernel_rfl)) ?_
  intro W base args ds gs before hval0 hW hcnd hsz0 _
  exact contract H enc W base args ds gs before hval0 hW hsz0
theorem proved : Rows.GraphBackSaid :=
  OpenClaim.holds_of_wide 6 Try.f6 rfl rfl rfl rfl rfl rfl rfl ⟨rfl, rfl, rfl, rfl, rfl⟩ rfl rfl rfl rfl rfl (by kernel_rfl) Try.func6 (by kernel_rfl)
    (of_decide_eq_true (by kernel_rfl)) (by unfold Func.isWrapper; first | (rw [if_pos (by decide +kernel)]; kernel_rfl) | (rw [if_neg (by decide +kernel)]; exact ⟨rfl, rfl⟩))
    (fun os started H enc _ => lifted os started H enc)
#print axioms proved
end Go.Proofs.Ytmeaepmimnmjlaa.graphBack
namespace Go.Proofs.Ytmeaepmimnmjlaa
/-- The row, under a short name, for the claim. -/
theorem graphBack_holds : Rows.GraphBackSaid := graphBack.proved
end Go.Proofs.Ytmeaepmimnmjlaa
