/- What a range over the iterator goes over. For every world, for every loop body that keeps what lay below. -/
import Derived.Test.YtplppefpohjkbaaIter
namespace Go.Proofs.Ytplppefpohjkbaa.PGr
open Go.RowKit Go.Shelf Go.Proofs.Ytplppefpohjkbaa.Lit Go.Proofs.Ytplppefpohjkbaa.OwnCells Go.Proofs.YtplppefpohjkbaaW.PrintWords Go.Proofs.YtplppefpohjkbaaW.PrintLast Go.Proofs.YtplppefpohjkbaaW.PrintMore
attribute [local go_sem] Oper.semAt_some
set_option linter.unusedVariables false
set_option linter.unusedSimpArgs false
theorem wrapN {n : Nat} (h : n < 9223372036854775807) : wrap64 ((n : Int) + 1) = ((n + 1 : Nat) : Int) := by unfold wrap64; omega
set_option maxRecDepth 100000 in
set_option maxHeartbeats 4000000 in
theorem above1_inK (Kp : World → World → Prop) (hKt : ∀ {A B C : World}, Kp A B → Kp B C → Kp A C) (F : Fence) (n : Nat) (h19 : F.fn 19) (hro : F.round = none) (hn : 1 ≤ n) (lp B1 B2 base : Nat) (P : Option Addr) (d : Nat) (l : List Int) (b : Int) (hl : l.length < 9223372036854775807) (w3 : World) (hS : ∀ W', Kp w3 W' → Seq W' base B1 B2 P d l b) (J Jx : List Int → World → Prop)
    (hY : ∀ pre x W, J pre W → pre.length < (doms l l.length b).length → YieldAt F (n - 1) Try.prog lp #[.int .i64 x] W fun e W' =>
      (e = .returned (.bool true) ∧ J (pre ++ [x]) W' ∧ Kp W W') ∨ (e = .returned (.bool false) ∧ Jx (pre ++ [x]) W'))
    (W : World) (hW : Kp w3 W) (h0 : J [] W) :
    CallsIn F n Try.prog 19 #[.func (.yield lp) #[] #[], .pointer (some ⟨B1, 0, none⟩), .pointer (some ⟨B2, 0, none⟩)] W fun e W' => (∃ v, e = .returned v) ∧
      ((∃ ys, ys = doms l l.length b ∧ J ys W') ∨ (∃ pre, pre <+: doms l l.length b ∧ Jx pre W')) := by
  have c1 := blk_cell (hS W hW).b1 0
  have c2 := blk_cell (hS W hW).b2 0
  replace c1 : W.cell? ⟨B1, 0, none⟩ = some (.int .i64 b) := c1
  replace c2 : W.cell? ⟨B2, 0, none⟩ = some (.slice P l.length d) := c2
  refine callsIn_of_wp Try.func19 rfl h19 ?_ hro
  simp only [Try.ntmps19, List.size_toArray, List.length_cons, List.length_nil, Nat.reduceAdd, Nat.reduceSub, Array.replicate_succ, Array.replicate_zero, List.push_toArray, List.append_toArray, List.nil_append, List.cons_append]
  gi_wp2
  clear c1 c2
  gi_loopw [4, 8] (fun t i wr => ∃ (k : Nat) (a : Int) (pre : List Int), k ≤ l.length ∧ t = .int .i64 a ∧ i = .int .i64 k ∧ pre.length = k ∧ pre ++ doms l (l.length - k) a = doms l l.length b ∧ J pre wr ∧ Kp w3 wr) (fun _ i _ => l.length - (intOf i).toNat)
  case atStart => exact ⟨0, b, [], Nat.zero_le _, rfl, rfl, rfl, by simp, h0, hW⟩
  case round =>
    obtain ⟨k, a, pre, hk, rfl, rfl, hpl, hpd, hJ, hB⟩ := hrel
    have c2 : wr.cell? ⟨B2, 0, none⟩ = some (.slice P l.length d) := blk_cell (hS wr hB).b2 0
    by_cases hkl : k < l.length
    · by_cases ha0 : a < 0
      · have he : doms l (l.length - k) a = [] := by
          obtain ⟨m, hm⟩ : ∃ m, l.length - k = m + 1 := ⟨l.length - k - 1, by omega⟩
          rw [hm, doms, if_neg (by omega)]
        rw [he, List.append_nil] at hpd
        gi_wp2
        refine ⟨fun _ h => (by cases h), ?_⟩
        gi_wp2
        refine bodyPost_ret (results_none rfl _ _ _) rfl ?_
        exact ⟨⟨_, rfl⟩, .inl ⟨pre, hpd, hJ⟩⟩
      · by_cases hal : (l.length : Int) ≤ a
        · have he : doms l (l.length - k) a = [] := by
            obtain ⟨m, hm⟩ : ∃ m, l.length - k = m + 1 := ⟨l.length - k - 1, by omega⟩
            rw [hm, doms, if_neg (by omega)]
          rw [he, List.append_nil] at hpd
          gi_wp2
          refine ⟨fun _ h => (by cases h), ?_⟩
          gi_wp2
          refine bodyPost_ret (results_none rfl _ _ _) rfl ?_
          exact ⟨⟨_, rfl⟩, .inl ⟨pre, hpd, hJ⟩⟩
        · have he : doms l (l.length - k) a = a :: doms l (l.length - (k + 1)) (rd l a) := by
            obtain ⟨m, hm⟩ : ∃ m, l.length - k = m + 1 := ⟨l.length - k - 1, by omega⟩
            rw [hm, doms, if_pos (by omega), show l.length - (k + 1) = m by omega]
          rw [he] at hpd
          obtain ⟨fn, tmps, assign, body, hy, hR⟩ := hY pre a wr hJ (by rw [← hpd]; simp)
          gi_wp2
          refine hR.mono ?_
          rintro e W3 (⟨rfl, hJ3, hk3⟩ | ⟨rfl, hJx3⟩)
          · have hB3 := hKt hB hk3
            have c2' : W3.cell? ⟨B2, 0, none⟩ = some (.slice P l.length d) := blk_cell (hS W3 hB3).b2 0
            obtain ⟨ad, rfl, hc⟩ := Kd.at_int (hS W3 hB3).row a (by omega) (by omega)
            gi_wp2
            go_roundw
            case rel => exact ⟨k + 1, rd l a, pre ++ [a], by omega, rfl, by go_num, by simp [hpl], by rw [List.append_assoc]; exact hpd, hJ3, hB3⟩
            case measure => simp [intOf]; omega
          · gi_wp2
            refine bodyPost_ret (results_none rfl _ _ _) rfl ?_
            exact ⟨⟨_, rfl⟩, .inr ⟨pre ++ [a], ⟨doms l (l.length - (k + 1)) (rd l a), by rw [List.append_assoc]; exact hpd⟩, hJx3⟩⟩
    · obtain rfl : k = l.length := by omega
      rw [Nat.sub_self, doms, List.append_nil] at hpd
      gi_wp2
      go_end0
      exact ⟨⟨_, rfl⟩, .inl ⟨pre, hpd, hJ⟩⟩
theorem above_stopsK (Kp : World → World → Prop) (hKt : ∀ {A B C : World}, Kp A B → Kp B C → Kp A C) (F : Fence) (n : Nat) (h19 : F.fn 19) (hro : F.round = none) (hn : 1 ≤ n) (B1 B2 base : Nat) (P : Option Addr) (d : Nat) (l : List Int) (b : Int) (hl : l.length < 9223372036854775807) (w3 : World) (hS : ∀ W', Kp w3 W' → Seq W' base B1 B2 P d l b) (w : World) (hb : ∀ W, Below w.heap.size w W → Kp w3 W) :
    SeqStopsK F n Try.prog 19 #[.pointer (some ⟨B1, 0, none⟩), .pointer (some ⟨B2, 0, none⟩)] (fun x : Int => #[Value.int .i64 x]) Kp (fun ys => ys = doms l l.length b) (fun pre => pre <+: doms l l.length b) (doms l l.length b).length w := fun lp J Jx W hW _ _ hY h0 =>
  above1_inK Kp hKt F n h19 hro hn lp B1 B2 base P d l b hl w3 hS J Jx hY W (hb W hW) h0
/-- what a range over the function value goes over -/
theorem above_stops (F : Fence) (n : Nat) (h19 : F.fn 19) (hro : F.round = none) (hn : 1 ≤ n) (B1 B2 n₀ base : Nat) (P : Option Addr) (d : Nat) (l : List Int) (b : Int) (hl : l.length < 9223372036854775807) (w3 : World) (hS : ∀ W', Below n₀ w3 W' → Seq W' base B1 B2 P d l b) (w : World) (hb : Below n₀ w3 w) (hn₀ : n₀ ≤ w.heap.size) :
    SeqStopsK F n Try.prog 19 #[.pointer (some ⟨B1, 0, none⟩), .pointer (some ⟨B2, 0, none⟩)] (fun x : Int => #[Value.int .i64 x]) (Below n₀) (fun ys => ys = doms l l.length b) (fun pre => pre <+: doms l l.length b) (doms l l.length b).length w :=
  above_stopsK (Below n₀) (fun h k => h.trans k) F n h19 hro hn B1 B2 base P d l b hl w3 hS w (fun W hW => hb.trans (hW.mono hn₀))
end Go.Proofs.Ytplppefpohjkbaa.PGr
