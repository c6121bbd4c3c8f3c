/- DeoptRegisters, the row: the law returns true, and the input reads as it did. For every input. -/
import Derived.Test.YtgbbcjooieggpaaRows
import Derived.Test.YtgbbcjooieggpaaDeoptRegs
import Derived.Test.YtgbbcjooieggpaaOpen
import Derived.WalkKit
import Derived.ProofKit
import Derived.OpenShut
import Derived.ShutString
import Derived.ChangeOld
import Derived.Below
import Derived.SizedLaws
import Derived.Carry
namespace Go.Proofs.Ytgbbcjooieggpaa.deoptRegisters
open Go.ChangeShapes Go.WideShapes Go.ChangeAt Go.RowKit
open Go.Proofs.Ytgbbcjooieggpaa.Open Go.Proofs.Ytgbbcjooieggpaa.PRegs Go.Proofs.YtgbbcjooieggpaaW.PrintWords
open Go.ChangeMaps (open_string shut_string)
set_option linter.unusedVariables false
set_option linter.unusedSimpArgs false
theorem own : ownKnob Try.prog.godebug = none := by kernel_rfl
theorem laidOut : laidOutB Try.prog = true := by kernel_rfl
instance : Inhabited S35 := ⟨z35⟩
instance : Inhabited S44 := ⟨z44⟩
instance : Inhabited S63 := ⟨z63⟩
instance : Inhabited S65 := ⟨z65⟩
instance : Inhabited S67 := ⟨z67⟩
theorem o3 : Opens (Kd.int .i64) Try.prog 3 (fun _ => True) := (opens_int .i64 Try.underlying3).mono (fun _ _ => trivial)
theorem o2 : Opens (Kd.int .i64) Try.prog 2 (fun _ => True) := (opens_int .i64 Try.underlying2).mono (fun _ _ => trivial)
theorem o44 : Opens k44 Try.prog 44 (fun x => True) := (opens_struct (fun p : Int × Int => (⟨p.1, p.2⟩ : S44)) (fun x : S44 => (x.f0, x.f1)) (fun _ => rfl) Try.underlying44 (by kernel_rfl) (opensF_cons o3 rfl (by kernel_rfl) (opensF_last o2 rfl (by kernel_rfl)) (by intro g hg; simp at hg; first | (subst hg; decide) | (rcases hg with rfl | rfl | rfl | rfl | rfl | rfl | rfl <;> decide)))).mono (fun _ _ => trivial)
theorem o39 : Opens (Kd.slice 44 (k44)) Try.prog 39 (fun l => l.length * 16 ≤ 140737488351232) := (opens_slice Try.underlying39 o44 (by kernel_rfl) (by kernel_rfl)).mono (fun _ h => h.2.1)
theorem o67 : Opens k67 Try.prog 67 (fun x => x.f2.length * 16 ≤ 140737488351232) := (opens_struct (fun p : Int × Int × (List (S44)) => (⟨p.1, p.2.1, p.2.2⟩ : S67)) (fun x : S67 => (x.f0, x.f1, x.f2)) (fun _ => rfl) Try.underlying67 (by kernel_rfl) (opensF_cons o3 rfl (by kernel_rfl) (opensF_cons o3 rfl (by kernel_rfl) (opensF_last o39 rfl (by kernel_rfl)) (by intro g hg; simp at hg; first | (subst hg; decide) | (rcases hg with rfl | rfl | rfl | rfl | rfl | rfl | rfl <;> decide))) (by intro g hg; simp at hg; first | (subst hg; decide) | (rcases hg with rfl | rfl | rfl | rfl | rfl | rfl | rfl <;> decide)))).mono (fun _ h => h.2.2)
theorem o46 : Opens (Kd.slice 67 (k67)) Try.prog 46 (fun l => (l.length * 40 ≤ 140737488351232 ∧ ∀ x0 ∈ l, x0.f2.length * 16 ≤ 140737488351232)) := (opens_slice Try.underlying46 o67 (by kernel_rfl) (by kernel_rfl)).mono (fun _ h => ⟨h.2.1, h.2.2⟩)
theorem o65 : Opens k65 Try.prog 65 (fun x => (x.f3.length * 16 ≤ 140737488351232 ∧ (x.f7.length * 40 ≤ 140737488351232 ∧ ∀ x0 ∈ x.f7, x0.f2.length * 16 ≤ 140737488351232))) := (opens_struct (fun p : Int × Int × Int × (List (S44)) × Int × Int × Int × (List (S67)) => (⟨p.1, p.2.1, p.2.2.1, p.2.2.2.1, p.2.2.2.2.1, p.2.2.2.2.2.1, p.2.2.2.2.2.2.1, p.2.2.2.2.2.2.2⟩ : S65)) (fun x : S65 => (x.f0, x.f1, x.f2, x.f3, x.f4, x.f5, x.f6, x.f7)) (fun _ => rfl) Try.underlying65 (by kernel_rfl) (opensF_cons o3 rfl (by kernel_rfl) (opensF_cons o3 rfl (by kernel_rfl) (opensF_cons o3 rfl (by kernel_rfl) (opensF_cons o39 rfl (by kernel_rfl) (opensF_cons o2 rfl (by kernel_rfl) (opensF_cons o3 rfl (by kernel_rfl) (opensF_cons o3 rfl (by kernel_rfl) (opensF_last o46 rfl (by kernel_rfl)) (by intro g hg; simp at hg; first | (subst hg; decide) | (rcases hg with rfl | rfl | rfl | rfl | rfl | rfl | rfl <;> decide))) (by intro g hg; simp at hg; first | (subst hg; decide) | (rcases hg with rfl | rfl | rfl | rfl | rfl | rfl | rfl <;> decide))) (by intro g hg; simp at hg; first | (subst hg; decide) | (rcases hg with rfl | rfl | rfl | rfl | rfl | rfl | rfl <;> decide))) (by intro g hg; simp at hg; first | (subst hg; decide) | (rcases hg with rfl | rfl | rfl | rfl | rfl | rfl | rfl <;> decide))) (by intro g hg; simp at hg; first | (subst hg; decide) | (rcases hg with rfl | rfl | rfl | rfl | rfl | rfl | rfl <;> decide))) (by intro g hg; simp at hg; first | (subst hg; decide) | (rcases hg with rfl | rfl | rfl | rfl | rfl | rfl | rfl <;> decide))) (by intro g hg; simp at hg; first | (subst hg; decide) | (rcases hg with rfl | rfl | rfl | rfl | rfl | rfl | rfl <;> decide)))).mono (fun _ h => ⟨h.2.2.2.1, h.2.2.2.2.2.2.2⟩)
theorem o60 : Opens (Kd.slice 65 (k65)) Try.prog 60 (fun l => (l.length * 96 ≤ 140737488351232 ∧ ∀ x0 ∈ l, (x0.f3.length * 16 ≤ 140737488351232 ∧ (x0.f7.length * 40 ≤ 140737488351232 ∧ ∀ x1 ∈ x0.f7, x1.f2.length * 16 ≤ 140737488351232)))) := (opens_slice Try.underlying60 o65 (by kernel_rfl) (by kernel_rfl)).mono (fun _ h => ⟨h.2.1, h.2.2⟩)
theorem o61 : Opens (Kd.slice 3 (Kd.int .i64)) Try.prog 61 (fun l => l.length * 8 ≤ 140737488351232) := (opens_slice Try.underlying61 o3 (by kernel_rfl) (by kernel_rfl)).mono (fun _ h => h.2.1)
theorem o63 : Opens k63 Try.prog 63 (fun x => ((x.f1.length * 96 ≤ 140737488351232 ∧ ∀ x0 ∈ x.f1, (x0.f3.length * 16 ≤ 140737488351232 ∧ (x0.f7.length * 40 ≤ 140737488351232 ∧ ∀ x1 ∈ x0.f7, x1.f2.length * 16 ≤ 140737488351232))) ∧ x.f2.length * 8 ≤ 140737488351232)) := (opens_struct (fun p : Int × (List (S65)) × (List (Int)) => (⟨p.1, p.2.1, p.2.2⟩ : S63)) (fun x : S63 => (x.f0, x.f1, x.f2)) (fun _ => rfl) Try.underlying63 (by kernel_rfl) (opensF_cons o3 rfl (by kernel_rfl) (opensF_cons o60 rfl (by kernel_rfl) (opensF_last o61 rfl (by kernel_rfl)) (by intro g hg; simp at hg; first | (subst hg; decide) | (rcases hg with rfl | rfl | rfl | rfl | rfl | rfl | rfl <;> decide))) (by intro g hg; simp at hg; first | (subst hg; decide) | (rcases hg with rfl | rfl | rfl | rfl | rfl | rfl | rfl <;> decide)))).mono (fun _ h => ⟨h.2.1, h.2.2⟩)
theorem o22 : Opens (Kd.slice 63 (k63)) Try.prog 22 (fun l => (l.length * 56 ≤ 140737488351232 ∧ ∀ x0 ∈ l, ((x0.f1.length * 96 ≤ 140737488351232 ∧ ∀ x1 ∈ x0.f1, (x1.f3.length * 16 ≤ 140737488351232 ∧ (x1.f7.length * 40 ≤ 140737488351232 ∧ ∀ x2 ∈ x1.f7, x2.f2.length * 16 ≤ 140737488351232))) ∧ x0.f2.length * 8 ≤ 140737488351232))) := (opens_slice Try.underlying22 o63 (by kernel_rfl) (by kernel_rfl)).mono (fun _ h => ⟨h.2.1, h.2.2⟩)
theorem p24 : Opens (Kd.iso (Kd.pair (Kd.int .i64) (Kd.pair (Kd.int .i64) (Kd.slice 63 (k63)))) (fun p : (Int × Int × (List (S63))) => p)) Try.prog 24 (fun p => (True ∧ True ∧ (p.2.2.length * 56 ≤ 140737488351232 ∧ ∀ x0 ∈ p.2.2, ((x0.f1.length * 96 ≤ 140737488351232 ∧ ∀ x1 ∈ x0.f1, (x1.f3.length * 16 ≤ 140737488351232 ∧ (x1.f7.length * 40 ≤ 140737488351232 ∧ ∀ x2 ∈ x1.f7, x2.f2.length * 16 ≤ 140737488351232))) ∧ x0.f2.length * 8 ≤ 140737488351232)))) := (opens_struct (fun p : (Int × Int × (List (S63))) => p) (fun p : (Int × Int × (List (S63))) => p) (fun _ => rfl) Try.underlying24 (by kernel_rfl) (opensF_cons o3 rfl (by kernel_rfl) (opensF_cons o3 rfl (by kernel_rfl) (opensF_last o22 rfl (by kernel_rfl)) (by intro g hg; simp at hg; first | (subst hg; decide) | (rcases hg with rfl | rfl | rfl | rfl | rfl | rfl | rfl <;> decide))) (by intro g hg; simp at hg; first | (subst hg; decide) | (rcases hg with rfl | rfl | rfl | rfl | rfl | rfl | rfl <;> decide)))).mono (fun _ h => h)
theorem o35 : Opens k35 Try.prog 35 (fun x => True) := (opens_struct (fun p : Int × Int => (⟨p.1, p.2⟩ : S35)) (fun x : S35 => (x.f0, x.f1)) (fun _ => rfl) Try.underlying35 (by kernel_rfl) (opensF_cons o3 rfl (by kernel_rfl) (opensF_last o2 rfl (by kernel_rfl)) (by intro g hg; simp at hg; first | (subst hg; decide) | (rcases hg with rfl | rfl | rfl | rfl | rfl | rfl | rfl <;> decide)))).mono (fun _ _ => trivial)
theorem o25 : Opens (Kd.slice 35 (k35)) Try.prog 25 (fun l => l.length * 16 ≤ 140737488351232) := (opens_slice Try.underlying25 o35 (by kernel_rfl) (by kernel_rfl)).mono (fun _ h => h.2.1)
theorem p27 : Opens (Kd.iso (Kd.pair (Kd.int .i64) (Kd.pair (Kd.int .i64) (Kd.slice 35 (k35)))) (fun p : (Int × Int × (List (S35))) => p)) Try.prog 27 (fun p => (True ∧ True ∧ p.2.2.length * 16 ≤ 140737488351232)) := (opens_struct (fun p : (Int × Int × (List (S35))) => p) (fun p : (Int × Int × (List (S35))) => p) (fun _ => rfl) Try.underlying27 (by kernel_rfl) (opensF_cons o3 rfl (by kernel_rfl) (opensF_cons o3 rfl (by kernel_rfl) (opensF_last o25 rfl (by kernel_rfl)) (by intro g hg; simp at hg; first | (subst hg; decide) | (rcases hg with rfl | rfl | rfl | rfl | rfl | rfl | rfl <;> decide))) (by intro g hg; simp at hg; first | (subst hg; decide) | (rcases hg with rfl | rfl | rfl | rfl | rfl | rfl | rfl <;> decide)))).mono (fun _ h => h)
set_option maxRecDepth 100000 in
set_option maxHeartbeats 1000000 in
theorem contract (H : Type) (enc : TypeId × Value → H) (W : World) (base : Nat) (args : Array Value) (ds gs : List (DataW H)) (before : List MemPlace)
  (hval0 : ∀ (j : Nat) t v, Try.f3.params[j]? = some t → args[j]? = some v → Value.okWide Try.prog W .any base t v)
  (hW : DataW.Whole enc Try.prog Try.f3.params.toList Rows.deoptRegistersSpec.vars false W args.toList ds gs before) (hsz0 : (DataW.weightsEach Try.prog (Try.f3.params.toList ++ Rows.deoptRegistersSpec.plain.varTypes Try.prog) (ds ++ gs)).all (· ≤ reachBytes) = true) :
    Calls Try.prog 3 args W fun e W' => ∃ v, e = .returned v ∧ Rows.deoptRegistersSpec.post enc Try.prog Try.f3 false true false false W args v W' := by
  have hsz := hsz0
  have hval := hval0
  have hW' := hW
  obtain ⟨p, q, hA0, hV, rfl, hfz, hnd⟩ := hW
  have hA : DataW.TrodAll enc Try.prog W 0 (fun _ => true) true Try.f3.params.toList args.toList ds p := hA0
  rw [Try.params3] at hA hval hsz
  obtain ⟨v0, vs0, d0, ds0, p0, q0, hargs, rfl, rfl, h0, r0⟩ := trodAll_cons hA
  obtain ⟨v1, vs1, d1, ds1, p1, q1, rfl, rfl, rfl, h1, r1⟩ := trodAll_cons r0
  obtain ⟨rfl, rfl, rfl⟩ := trodAll_nil r1
  obtain rfl : args = #[v0, v1] := by cases args; simp_all
  obtain ⟨rfl, rfl⟩ := trodVars_none hV
  obtain ⟨cs0, rfl, hcs0⟩ := okWide_struct Try.underlying24 (hval 0 24 v0 rfl rfl)
  obtain ⟨cs1, rfl, hcs1⟩ := okWide_struct Try.underlying27 (hval 1 27 v1 rfl rfl)
  have k0_ := h0
  have lt0 : ∀ x ∈ p0, x.block < W.heap.size := by obtain ⟨m, hm⟩ := k0_; exact DataW.trod_lt m _ _ _ hm
  have k1_ := h1
  have lt1 : ∀ x ∈ p1, x.block < W.heap.size := by obtain ⟨m, hm⟩ := k1_; exact DataW.trod_lt m _ _ _ hm
  obtain ⟨⟨a0_0, a0_1, l0_2⟩, hK0, ⟨Q0_0, Q0_1, Q0_2⟩⟩ := opens_arg (j := 0) p24 hsz rfl rfl h0
  obtain ⟨x0_0, y0_0, e0, rfl, ⟨x0_1, y0_1, rfl, rfl, ⟨A0_2, c0_2, rfl, hl0_2, hC0_2⟩⟩⟩ := hK0
  have hc0 : cs0 = #[.int .i64 a0_0, .int .i64 a0_1, .slice A0_2 l0_2.length c0_2] := by
    have he : cs0.toList = [.int .i64 a0_0, .int .i64 a0_1, .slice A0_2 l0_2.length c0_2] := e0
    exact Array.toList_inj.1 he
  subst hc0
  obtain ⟨⟨a1_0, a1_1, l1_2⟩, hK1, ⟨Q1_0, Q1_1, Q1_2⟩⟩ := opens_arg (j := 1) p27 hsz rfl rfl h1
  obtain ⟨x1_0, y1_0, e1, rfl, ⟨x1_1, y1_1, rfl, rfl, ⟨A1_2, c1_2, rfl, hl1_2, hC1_2⟩⟩⟩ := hK1
  have hc1 : cs1 = #[.int .i64 a1_0, .int .i64 a1_1, .slice A1_2 l1_2.length c1_2] := by
    have he : cs1.toList = [.int .i64 a1_0, .int .i64 a1_1, .slice A1_2 l1_2.length c1_2] := e1
    exact Array.toList_inj.1 he
  subst hc1
  obtain hk := (⟨⟨Q0_2, Q1_2⟩, rfl⟩ : RegsOk l0_2 l1_2 ∧ true = true)
  refine (portagelaw26_DeoptRegisters.calls a0_0 a0_1 _ _ l0_2 a1_0 a1_1 _ _ l1_2 true W hC0_2 hl0_2 hC1_2 hl1_2 hk).mono fun e W' ⟨he, bel⟩ => ?_
  subst he
  exact ⟨_, rfl, _, _, _, [], _, [], hW', trodAll_mk1 (shut_bool Try.underlying4 _), (trodAll_cons_mk (Below.trod laidOut (by kernel_rfl) (of_decide_eq_true (by kernel_rfl)) k0_ bel lt0) (trodAll_cons_mk (Below.trod laidOut (by kernel_rfl) (of_decide_eq_true (by kernel_rfl)) k1_ bel lt1) trodAll_mk0)), rfl, bel.frame _, fun h => by cases h⟩
set_option maxRecDepth 100000 in
theorem lifted (os : Os) (started : os.Started) (H : Type) (enc : TypeId × Value → H) :
    ReturnsInHanded {} Try.checked os 3 .any (Rows.deoptRegistersSpec.pre6 enc Try.prog Try.f3 Rows.deoptRegistersRow.domain false) (Rows.deoptRegistersSpec.post enc Try.prog Try.f3 false true false false) := by
  refine returnsInHanded_of_change_sized (C := Try.checked) own started (by kernel_rfl) Try.func3
    (ChangeSpec.witness6 (enc := enc) (C := Try.checked) false ⟨#[], #[.agg #[.int .i64 0, .int .i64 0, .slice none 0 0], .agg #[.int .i64 0, .int .i64 0, .slice none 0 0]], []⟩ 8 (by kernel_rfl) (by kernel_rfl) (by kernel_rfl) (by kernel_rfl)) ?_
  intro W base args ds gs before hval0 hW hcnd hsz0 _
  exact contract H enc W base args ds gs before hval0 hW hsz0
theorem proved : Rows.DeoptRegistersSaid :=
  OpenClaim.holds_of_wide 3 Try.f3 rfl rfl rfl rfl rfl rfl rfl ⟨rfl, rfl, rfl, rfl, rfl⟩ rfl rfl rfl rfl rfl (by kernel_rfl) Try.func3 (by kernel_rfl)
    (of_decide_eq_true (by kernel_rfl)) (by unfold Func.isWrapper; first | (rw [if_pos (by decide +kernel)]; kernel_rfl) | (rw [if_neg (by decide +kernel)]; exact ⟨rfl, rfl⟩))
    (fun os started H enc _ => lifted os started H enc)
#print axioms proved
end Go.Proofs.Ytgbbcjooieggpaa.deoptRegisters
namespace Go.Proofs.Ytgbbcjooieggpaa
/-- The row, under a short name, for the claim. -/
theorem deoptRegisters_holds : Rows.DeoptRegistersSaid := deoptRegisters.proved
end Go.Proofs.Ytgbbcjooieggpaa
