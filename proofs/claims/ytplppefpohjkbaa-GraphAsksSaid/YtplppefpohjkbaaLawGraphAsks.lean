/- GraphAsks, the row: the law returns true, and the input reads as it did. For every input. -/
import Derived.Test.YtplppefpohjkbaaRows
import Derived.Test.YtplppefpohjkbaaAsks
import Derived.Test.YtplppefpohjkbaaOpen
import Derived.WalkKit
import Derived.ProofKit
import Derived.OpenShut
import Derived.ShutString
import Derived.ChangeOld
import Derived.Below
import Derived.SizedLaws
import Derived.Carry
namespace Go.Proofs.Ytplppefpohjkbaa.graphAsks
open Go.ChangeShapes Go.WideShapes Go.ChangeAt Go.RowKit
open Go.Proofs.Ytplppefpohjkbaa.Open Go.Proofs.Ytplppefpohjkbaa.Ask Go.Proofs.YtplppefpohjkbaaW.PrintWords
open Go.ChangeMaps (open_string shut_string)
set_option linter.unusedVariables false
set_option linter.unusedSimpArgs false
theorem own : ownKnob Try.prog.godebug = none := by kernel_rfl
theorem laidOut : laidOutB Try.prog = true := by kernel_rfl
theorem o3 : Opens (Kd.int .i64) Try.prog 3 (fun _ => True) := (opens_int .i64 Try.underlying3).mono (fun _ _ => trivial)
theorem o22 : Opens (Kd.slice 3 (Kd.int .i64)) Try.prog 22 (fun l => l.length * 8 ≤ 140737488351232) := (opens_slice Try.underlying22 o3 (by kernel_rfl) (by kernel_rfl)).mono (fun _ h => h.2.1)
theorem o23 : Opens (Kd.slice 22 (Kd.slice 3 (Kd.int .i64))) Try.prog 23 (fun l => (l.length * 24 ≤ 140737488351232 ∧ ∀ x0 ∈ l, x0.length * 8 ≤ 140737488351232)) := (opens_slice Try.underlying23 o22 (by kernel_rfl) (by kernel_rfl)).mono (fun _ h => ⟨h.2.1, h.2.2⟩)
theorem p25 : Opens (Kd.iso (Kd.pair (Kd.slice 3 (Kd.int .i64)) (Kd.pair (Kd.slice 22 (Kd.slice 3 (Kd.int .i64))) (Kd.pair (Kd.slice 3 (Kd.int .i64)) (Kd.pair (Kd.slice 3 (Kd.int .i64)) (Kd.slice 3 (Kd.int .i64)))))) (fun p : ((List (Int)) × (List (List (Int))) × (List (Int)) × (List (Int)) × (List (Int))) => p)) Try.prog 25 (fun p => (p.1.length * 8 ≤ 140737488351232 ∧ (p.2.1.length * 24 ≤ 140737488351232 ∧ ∀ x0 ∈ p.2.1, x0.length * 8 ≤ 140737488351232) ∧ p.2.2.1.length * 8 ≤ 140737488351232 ∧ p.2.2.2.1.length * 8 ≤ 140737488351232 ∧ p.2.2.2.2.length * 8 ≤ 140737488351232)) := (opens_struct (fun p : ((List (Int)) × (List (List (Int))) × (List (Int)) × (List (Int)) × (List (Int))) => p) (fun p : ((List (Int)) × (List (List (Int))) × (List (Int)) × (List (Int)) × (List (Int))) => p) (fun _ => rfl) Try.underlying25 (by kernel_rfl) (opensF_cons o22 rfl (by kernel_rfl) (opensF_cons o23 rfl (by kernel_rfl) (opensF_cons o22 rfl (by kernel_rfl) (opensF_cons o22 rfl (by kernel_rfl) (opensF_last o22 rfl (by kernel_rfl)) (by intro g hg; simp at hg; first | (subst hg; decide) | (rcases hg with rfl | rfl | rfl | rfl | rfl | rfl | rfl <;> decide))) (by intro g hg; simp at hg; first | (subst hg; decide) | (rcases hg with rfl | rfl | rfl | rfl | rfl | rfl | rfl <;> decide))) (by intro g hg; simp at hg; first | (subst hg; decide) | (rcases hg with rfl | rfl | rfl | rfl | rfl | rfl | rfl <;> decide))) (by intro g hg; simp at hg; first | (subst hg; decide) | (rcases hg with rfl | rfl | rfl | rfl | rfl | rfl | rfl <;> decide)))).mono (fun _ h => h)
set_option maxRecDepth 100000 in
set_option maxHeartbeats 1000000 in
theorem contract (H : Type) (enc : TypeId × Value → H) (W : World) (base : Nat) (args : Array Value) (ds gs : List (DataW H)) (before : List MemPlace)
  (hval0 : ∀ (j : Nat) t v, Try.f4.params[j]? = some t → args[j]? = some v → Value.okWide Try.prog W .any base t v)
  (hW : DataW.Whole enc Try.prog Try.f4.params.toList Rows.graphAsksSpec.vars false W args.toList ds gs before) (hsz0 : (DataW.weightsEach Try.prog (Try.f4.params.toList ++ Rows.graphAsksSpec.plain.varTypes Try.prog) (ds ++ gs)).all (· ≤ reachBytes) = true) :
    Calls Try.prog 4 args W fun e W' => ∃ v, e = .returned v ∧ Rows.graphAsksSpec.post enc Try.prog Try.f4 false true false false W args v W' := by
  have hsz := hsz0
  have hval := hval0
  have hW' := hW
  obtain ⟨p, q, hA0, hV, rfl, hfz, hnd⟩ := hW
  have hA : DataW.TrodAll enc Try.prog W 0 (fun _ => true) true Try.f4.params.toList args.toList ds p := hA0
  rw [Try.params4] at hA hval hsz
  obtain ⟨v0, vs0, d0, ds0, p0, q0, hargs, rfl, rfl, h0, r0⟩ := trodAll_cons hA
  obtain ⟨v1, vs1, d1, ds1, p1, q1, rfl, rfl, rfl, h1, r1⟩ := trodAll_cons r0
  obtain ⟨v2, vs2, d2, ds2, p2, q2, rfl, rfl, rfl, h2, r2⟩ := trodAll_cons r1
  obtain ⟨v3, vs3, d3, ds3, p3, q3, rfl, rfl, rfl, h3, r3⟩ := trodAll_cons r2
  obtain ⟨rfl, rfl, rfl⟩ := trodAll_nil r3
  obtain rfl : args = #[v0, v1, v2, v3] := by cases args; simp_all
  obtain ⟨rfl, rfl⟩ := trodVars_none hV
  obtain ⟨cs0, rfl, hcs0⟩ := okWide_struct Try.underlying25 (hval 0 25 v0 rfl rfl)
  obtain ⟨m1, rfl⟩ := okWide_int Try.underlying3 (hval 1 3 v1 rfl rfl)
  obtain ⟨m2, rfl⟩ := okWide_int Try.underlying3 (hval 2 3 v2 rfl rfl)
  obtain ⟨m3, rfl⟩ := okWide_int Try.underlying3 (hval 3 3 v3 rfl rfl)
  have k0_ := h0
  have lt0 : ∀ x ∈ p0, x.block < W.heap.size := by obtain ⟨m, hm⟩ := k0_; exact DataW.trod_lt m _ _ _ hm
  have k1_ := h1
  have lt1 : ∀ x ∈ p1, x.block < W.heap.size := by obtain ⟨m, hm⟩ := k1_; exact DataW.trod_lt m _ _ _ hm
  have k2_ := h2
  have lt2 : ∀ x ∈ p2, x.block < W.heap.size := by obtain ⟨m, hm⟩ := k2_; exact DataW.trod_lt m _ _ _ hm
  have k3_ := h3
  have lt3 : ∀ x ∈ p3, x.block < W.heap.size := by obtain ⟨m, hm⟩ := k3_; exact DataW.trod_lt m _ _ _ hm
  obtain ⟨⟨l0_0, l0_1, l0_2, l0_3, l0_4⟩, hK0, ⟨Q0_0, Q0_1, Q0_2, Q0_3, Q0_4⟩⟩ := opens_arg (j := 0) p25 hsz rfl rfl h0
  obtain ⟨x0_0, y0_0, e0, ⟨A0_0, c0_0, rfl, hl0_0, hC0_0⟩, ⟨x0_1, y0_1, rfl, ⟨A0_1, c0_1, rfl, hl0_1, hC0_1⟩, ⟨x0_2, y0_2, rfl, ⟨A0_2, c0_2, rfl, hl0_2, hC0_2⟩, ⟨x0_3, y0_3, rfl, ⟨A0_3, c0_3, rfl, hl0_3, hC0_3⟩, ⟨A0_4, c0_4, rfl, hl0_4, hC0_4⟩⟩⟩⟩⟩ := hK0
  have hc0 : cs0 = #[.slice A0_0 l0_0.length c0_0, .slice A0_1 l0_1.length c0_1, .slice A0_2 l0_2.length c0_2, .slice A0_3 l0_3.length c0_3, .slice A0_4 l0_4.length c0_4] := by
    have he : cs0.toList = [.slice A0_0 l0_0.length c0_0, .slice A0_1 l0_1.length c0_1, .slice A0_2 l0_2.length c0_2, .slice A0_3 l0_3.length c0_3, .slice A0_4 l0_4.length c0_4] := e0
    exact Array.toList_inj.1 he
  subst hc0
  obtain ⟨a1, hK1, Q1⟩ := opens_arg (j := 1) o3 hsz rfl rfl h1
  have he1 := hK1
  simp [Value.cells, Kd.int, Kd.bool, Kd.string, Kd.scalar] at he1
  subst m1
  obtain ⟨a2, hK2, Q2⟩ := opens_arg (j := 2) o3 hsz rfl rfl h2
  have he2 := hK2
  simp [Value.cells, Kd.int, Kd.bool, Kd.string, Kd.scalar] at he2
  subst m2
  obtain ⟨a3, hK3, Q3⟩ := opens_arg (j := 3) o3 hsz rfl rfl h3
  have he3 := hK3
  simp [Value.cells, Kd.int, Kd.bool, Kd.string, Kd.scalar] at he3
  subst m3
  obtain hk := (show (l0_0.length * 8 ≤ 140737488351232 ∧ l0_3.length * 8 ≤ 140737488351232) ∧ true = true from ⟨⟨Q0_0, Q0_3⟩, rfl⟩)
  refine (portagelaw09_GraphAsks.calls _ _ l0_0 _ _ l0_1 _ _ l0_2 _ _ l0_3 _ _ l0_4 a1 a2 a3 true W hC0_0 hl0_0 hC0_1 hl0_1 hC0_2 hl0_2 hC0_3 hl0_3 hC0_4 hl0_4 hk).mono fun e W' ⟨he, bel⟩ => ?_
  subst he
  exact ⟨_, rfl, _, _, _, [], _, [], hW', trodAll_mk1 (shut_bool Try.underlying4 _), (trodAll_cons_mk (Below.trod laidOut (by kernel_rfl) (of_decide_eq_true (by kernel_rfl)) k0_ bel lt0) (trodAll_cons_mk (Below.trod laidOut (by kernel_rfl) (of_decide_eq_true (by kernel_rfl)) k1_ bel lt1) (trodAll_cons_mk (Below.trod laidOut (by kernel_rfl) (of_decide_eq_true (by kernel_rfl)) k2_ bel lt2) (trodAll_cons_mk (Below.trod laidOut (by kernel_rfl) (of_decide_eq_true (by kernel_rfl)) k3_ bel lt3) trodAll_mk0)))), rfl, bel.frame _, fun h => by cases h⟩
set_option maxRecDepth 100000 in
theorem lifted (os : Os) (started : os.Started) (H : Type) (enc : TypeId × Value → H) :
    ReturnsInHanded {} Try.checked os 4 .any (Rows.graphAsksSpec.pre6 enc Try.prog Try.f4 Rows.graphAsksRow.domain false) (Rows.graphAsksSpec.post enc Try.prog Try.f4 false true false false) := by
  refine returnsInHanded_of_change_sized (C := Try.checked) own started (by kernel_rfl) Try.func4
    (ChangeSpec.witness6 (enc := enc) (C := Try.checked) false ⟨#[], #[.agg #[.slice none 0 0, .slice none 0 0, .slice none 0 0, .slice none 0 0, .slice none 0 0], .int .i64 0, .int .i64 0, .int .i64 0], []⟩ 8 (by kernel_rfl) (by kernel_rfl) (by kernel_rfl) (by kernel_rfl)) ?_
  intro W base args ds gs before hval0 hW hcnd hsz0 _
  exact contract H enc W base args ds gs before hval0 hW hsz0
theorem proved : Rows.GraphAsksSaid :=
  OpenClaim.holds_of_wide 4 Try.f4 rfl rfl rfl rfl rfl rfl rfl ⟨rfl, rfl, rfl, rfl, rfl⟩ rfl rfl rfl rfl rfl (by kernel_rfl) Try.func4 (by kernel_rfl)
    (of_decide_eq_true (by kernel_rfl)) (by unfold Func.isWrapper; first | (rw [if_pos (by decide +kernel)]; kernel_rfl) | (rw [if_neg (by decide +kernel)]; exact ⟨rfl, rfl⟩))
    (fun os started H enc _ => lifted os started H enc)
#print axioms proved
end Go.Proofs.Ytplppefpohjkbaa.graphAsks
namespace Go.Proofs.Ytplppefpohjkbaa
/-- The row, under a short name, for the claim. -/
theorem graphAsks_holds : Rows.GraphAsksSaid := graphAsks.proved
end Go.Proofs.Ytplppefpohjkbaa
