/- slices.Backward: what a range over its value goes over. For every world, for every loop body that keeps what lay below. -/
import Derived.Test.YtplppefpohjkbaaIter2
import Derived.RangeFuncBox
namespace Go.Proofs.Ytplppefpohjkbaa.PGr
open Go.RowKit Go.Shelf Go.Proofs.Ytplppefpohjkbaa.Lit Go.Proofs.Ytplppefpohjkbaa.OwnCells Go.Proofs.YtplppefpohjkbaaW.PrintWords Go.Proofs.YtplppefpohjkbaaW.PrintLast Go.Proofs.YtplppefpohjkbaaW.PrintMore
attribute [local go_sem] Oper.semAt_some
set_option linter.unusedVariables false
set_option linter.unusedSimpArgs false
/-- what is gone over: from the last place down -/
def back (l : List Int) : Nat → List (Int × Int)
  | 0 => []
  | k + 1 => ((k : Int), rd l (k : Int)) :: back l k
theorem back_len (l : List Int) : ∀ k, (back l k).length = k
  | 0 => rfl
  | k + 1 => by rw [back, List.length_cons, back_len l k]
set_option maxHeartbeats 1000000 in
set_option maxRecDepth 100000 in
theorem backward_calls (A : Option Addr) (c : Nat) (l : List Int) (w : World) :
    Calls Try.prog 18 #[.slice A l.length c] w fun e w' => e = .returned (.func (.func 20) #[] #[.pointer (some ⟨w.heap.size, 0, none⟩)]) ∧ w' = w.alloc (.cells #[.slice A l.length c] 22) := by
  go_enter Try.func18, Try.ntmps18
  go_wp2_with (fail)
  go_ret
  exact ⟨rfl, rfl⟩
set_option maxRecDepth 100000 in
set_option maxHeartbeats 4000000 in
theorem back1_in (F : Fence) (n : Nat) (h20 : F.fn 20) (hro : F.round = none) (hn : 1 ≤ n) (lp B n₀ : Nat) (A : Option Addr) (c : Nat) (l : List Int) (hl : l.length < 9223372036854775807) (w3 : World) (hS : ∀ W', Below n₀ w3 W' → Boxed W' B 22 (.slice A l.length c) ∧ (Kd.int .i64).C W' A l.length l) (J Jx : List (Int × Int) → World → Prop)
    (hY : ∀ pre x W, J pre W → pre.length < l.length → YieldAt F (n - 1) Try.prog lp #[.int .i64 x.1, .int .i64 x.2] W fun e W' =>
      (e = .returned (.bool true) ∧ J (pre ++ [x]) W' ∧ Below n₀ W W') ∨ (e = .returned (.bool false) ∧ Jx (pre ++ [x]) W'))
    (W : World) (hW : Below n₀ w3 W) (h0 : J [] W) :
    CallsIn F n Try.prog 20 #[.func (.yield lp) #[] #[], .pointer (some ⟨B, 0, none⟩)] W fun e W' => (∃ v, e = .returned v) ∧
      ((∃ ys, ys = back l l.length ∧ J ys W') ∨ (∃ pre, pre <+: back l l.length ∧ Jx pre W')) := by
  have c2 := (hS W hW).1.cell
  refine callsIn_of_wp Try.func20 rfl h20 ?_ hro
  simp only [Try.ntmps20, List.size_toArray, List.length_cons, List.length_nil, Nat.reduceAdd, Nat.reduceSub, Array.replicate_succ, Array.replicate_zero, List.push_toArray, List.append_toArray, List.nil_append, List.cons_append]
  gi_wp2
  clear c2
  gi_loopw [3] (fun i wr => ∃ (k : Nat) (pre : List (Int × Int)), k ≤ l.length ∧ i = .int .i64 ((k : Int) - 1) ∧ pre.length + k = l.length ∧ pre ++ back l k = back l l.length ∧ J pre wr ∧ Below n₀ w3 wr) (fun i _ => (intOf i + 1).toNat)
  case atStart => exact ⟨l.length, [], Nat.le_refl _, rfl, by simp, rfl, h0, hW⟩
  case round =>
    obtain ⟨k, pre, hk, rfl, hpl, hpd, hJ, hB⟩ := hrel
    have c2 := (hS wr hB).1.cell
    cases k with
    | zero =>
      gi_wp2
      rw [back, List.append_nil] at hpd
      go_end0
      exact ⟨⟨_, rfl⟩, .inl ⟨pre, hpd, hJ⟩⟩
    | succ k =>
      have hk1 : ((k + 1 : Nat) : Int) - 1 = (k : Int) := by omega
      rw [hk1]
      obtain ⟨ad, rfl, hc⟩ := Kd.at_int (hS wr hB).2 (k : Int) (by omega) (by omega)
      rw [Int.toNat_natCast] at hc
      obtain ⟨fn, tmps, assign, body, hy, hR⟩ := hY pre ((k : Int), rd l (k : Int)) wr hJ (by omega)
      simp only at hy hR
      rw [back] at hpd
      have h0k : (0 : Int) ≤ (k : Int) := by omega
      have hkl : (k : Int) < (l.length : Int) := by omega
      gi_wp2
      refine hR.mono ?_
      rintro e W3 (⟨rfl, hJ3, hk3⟩ | ⟨rfl, hJx3⟩)
      · gi_wp2
        go_roundw
        case rel => exact ⟨k, pre ++ [((k : Int), rd l (k : Int))], by omega, by first | rfl | go_num, by simp; omega, by rw [List.append_assoc]; exact hpd, hJ3, hB.trans hk3⟩
        case measure => simp [intOf]
      · gi_wp2
        refine bodyPost_ret (results_none rfl _ _ _) rfl ?_
        exact ⟨⟨_, rfl⟩, .inr ⟨pre ++ [((k : Int), rd l (k : Int))], ⟨back l k, by rw [List.append_assoc]; exact hpd⟩, hJx3⟩⟩
/-- what a range over the value of slices.Backward goes over -/
theorem back_stops (F : Fence) (n : Nat) (h20 : F.fn 20) (hro : F.round = none) (hn : 1 ≤ n) (B n₀ : Nat) (A : Option Addr) (c : Nat) (l : List Int) (hl : l.length < 9223372036854775807) (w3 : World) (hS : ∀ W', Below n₀ w3 W' → Boxed W' B 22 (.slice A l.length c) ∧ (Kd.int .i64).C W' A l.length l) (w : World) (hb : Below n₀ w3 w) (hn₀ : n₀ ≤ w.heap.size) :
    SeqStopsK F n Try.prog 20 #[.pointer (some ⟨B, 0, none⟩)] (fun x : Int × Int => #[Value.int .i64 x.1, Value.int .i64 x.2]) (Below n₀) (fun ys => ys = back l l.length) (fun pre => pre <+: back l l.length) l.length w := fun lp J Jx W hW _ _ hY h0 =>
  back1_in F n h20 hro hn lp B n₀ A c l hl w3 hS J Jx hY W (hb.trans (hW.mono hn₀)) h0
end Go.Proofs.Ytplppefpohjkbaa.PGr
