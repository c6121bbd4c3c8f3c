/- The iterator over what dominates: graph.Doms' value, and what a range over it goes over. For every world. -/
import Derived.RangeFuncNested
import Derived.RangeFuncBound
import Derived.RangeFuncCalls
import Derived.RangeFuncLeaves
import Derived.Shelf.Abstract
import Derived.Shelf.RegionOpen
import Derived.WalkKit
import Derived.OwnWalkIn
import Derived.TacticsInMore
import Derived.LoopNIn
import Derived.LoopIn
import Derived.WalkSpells
import Derived.Test.YtplppefpohjkbaaPGrx1
import Derived.Test.YtplppefpohjkbaaLit
import Derived.Test.YtplppefpohjkbaaOwnCells
import Derived.Test.YtplppefpohjkbaaRegInvIn
namespace Go.Proofs.Ytplppefpohjkbaa.PGr
open Go.RowKit Go.Shelf Go.Proofs.Ytplppefpohjkbaa.Lit Go.Proofs.Ytplppefpohjkbaa.OwnCells Go.Proofs.YtplppefpohjkbaaW.PrintWords Go.Proofs.YtplppefpohjkbaaW.PrintLast Go.Proofs.YtplppefpohjkbaaW.PrintMore
attribute [local go_sem] Oper.semAt_some
set_option linter.unusedVariables false
set_option linter.unusedSimpArgs false
/-- what is gone over: from b up, as long as there are numbers -/
def doms (l : List Int) : Nat → Int → List Int
  | 0, _ => []
  | k + 1, b => if 0 ≤ b ∧ b < (l.length : Int) then b :: doms l k (rd l b) else []
theorem doms_len (l : List Int) : ∀ k b, (doms l k b).length ≤ k
  | 0, _ => Nat.le_refl _
  | k + 1, b => by
    unfold doms
    split
    · rw [List.length_cons]; have := doms_len l k (rd l b); omega
    · simp
theorem R_empty {α : Type} (d : Kd α) (e : Nat) (w : World) : d.R e (w.alloc (.cells #[] e)) w.heap.size (fun _ => True) (.slice (some ⟨w.heap.size, 0, none⟩) 0 0) [] :=
  ⟨fun _ _ => trivial, [], ⟨by simp, .inr ⟨w.heap.size, 0, #[], rfl, Nat.le_refl _, heap_alloc_new w _, Nat.le_refl _, by decide, by simp, by simp⟩⟩, Reps.none _ _⟩
theorem R_lo {α : Type} {d : Kd α} {e n0 : Nat} {w : World} {P : Option Addr} {n c : Nat} {l : List α} (h : d.R e w n0 (fun _ => True) (.slice P n c) l) (ad : Addr) (hp : P = some ad) : n0 ≤ ad.block := by
  subst hp
  obtain ⟨_, rows, ⟨_, (h | ⟨b, c, segs, he, hb, _⟩)⟩, _⟩ := h
  · cases h.1
  · cases he
    exact hb
set_option maxHeartbeats 1000000 in
set_option maxRecDepth 100000 in
theorem clone_ints (A : Option Addr) (c : Nat) (l : List Int) (w : World) (hA : (Kd.int .i64).C w A l.length l) (hl : l.length * 8 ≤ 140737488355328) :
    Calls Try.prog 17 #[.slice A l.length c] w fun e w' => ∃ v, e = .returned v ∧ (Kd.int .i64).R 3 w' w.heap.size (fun _ => True) v l ∧ Below w.heap.size w w' := by
  cases A with
  | none =>
    have h0 : l = [] := by
      cases l with
      | nil => rfl
      | cons x r => obtain ⟨ad, he, _⟩ := hA.2.2 (by simp); cases he
    subst h0
    have he := fun w => Lib.run_eql_slice_nil (P := Try.prog) w 22 3 none 0 c 0 0 Try.underlying22
    go_enter Try.func17, Try.ntmps17
    go_wp2
    go_ret
    exact ⟨_, rfl, Kd.R_nil _ _ _ _ _, Below.refl _ _⟩
  | some ad =>
    have HA := Aside0.mk hA
    clear hA
    have he := fun w => Lib.run_eql_slice_nil (P := Try.prog) w 22 3 (some ad) l.length c 0 0 Try.underlying22
    go_enter Try.func17, Try.ntmps17
    have HR := Aside0.mk (R_empty (Kd.int .i64) 3 w)
    have HL := Aside0.mk hl
    clear hl
    go_wp2_with (first | (at_builtin; refine Kd.R_append_rows (Kd.int .i64) (Rr := (Kd.int .i64).K w) (w0 := w) w.heap.size rfl _ _ 22 3 (.int .i64 0) 8 rfl Try.underlying22 (by kernel_rfl) rfl (by decide) (by decide) _ [] l (some ad) l.length c (fun _ => True) (fun _ => False) rfl rfl HR.out ?hA (fun x cs h => h) (fun k hk => hk.elim) (fun _ _ => trivial) (below_alloc (Below.refl _ _) _) (by simp) (by have := HL.out; simp; omega) ?_; (case hA => exact Kd.C_below HA.out (below_alloc (Below.refl _ _) _)); intro v1 w1 h1 h2 _ _) | go_in)
    go_ret
    exact ⟨_, rfl, h1, h2⟩
/-- the function value: two boxes, the numbers in memory that nobody else has -/
structure Seq (w : World) (base B1 B2 : Nat) (P : Option Addr) (d : Nat) (l : List Int) (b : Int) : Prop where
  b1 : w.heap[B1]? = some (.cells #[.int .i64 b] 3 (0, 0))
  b2 : w.heap[B2]? = some (.cells #[.slice P l.length d] 22 (0, 0))
  row : (Kd.int .i64).C w P l.length l
  lo1 : base ≤ B1
  lo2 : base ≤ B2
  lo : ∀ ad, P = some ad → base ≤ ad.block
theorem Seq.below {w w1 : World} {base B1 B2 : Nat} {P : Option Addr} {d : Nat} {l : List Int} {b : Int} (h : Seq w base B1 B2 P d l b) (hb : Below w.heap.size w w1) : Seq w1 base B1 B2 P d l b := ⟨blk_below h.b1 hb, blk_below h.b2 hb, Kd.C_below h.row hb, h.lo1, h.lo2, h.lo⟩
set_option maxHeartbeats 1000000 in
set_option maxRecDepth 100000 in
theorem above_calls (base : Nat) (P : Option Addr) (d : Nat) (l : List Int) (b : Int) (w : World) (hP : (Kd.int .i64).C w P l.length l) (hbs : base ≤ w.heap.size) (hlo : ∀ ad, P = some ad → base ≤ ad.block) :
    Calls Try.prog 16 #[.slice P l.length d, .int .i64 b] w fun e w' => ∃ B1 B2, e = .returned (.func (.func 19) #[] #[.pointer (some ⟨B1, 0, none⟩), .pointer (some ⟨B2, 0, none⟩)]) ∧ Seq w' base B1 B2 P d l b ∧ Below w.heap.size w w' := by
  go_enter Try.func16, Try.ntmps16
  go_wp2_with (fail)
  go_ret
  refine ⟨w.heap.size + 1, w.heap.size, by simp, ⟨?_, ?_, Kd.C_below hP (e4 _ _ _), by omega, hbs, hlo⟩, e4 _ _ _⟩
  · have := blk_new (w.alloc (.cells #[.slice P l.length d] 22)) (.cells #[.int .i64 b] 3)
    rw [World.size_alloc] at this
    exact this
  · exact blk_alloc (blk_new w _) _
set_option maxHeartbeats 1000000 in
set_option maxRecDepth 100000 in
theorem doms_calls (A0 A1 A2 A3 A4 : Option Addr) (c0 c1 c2 c3 c4 n0 n1 n2 n4 : Nat) (l : List Int) (b : Int) (w : World) (hA : (Kd.int .i64).C w A3 l.length l) (hl : l.length * 8 ≤ 140737488355328) :
    Calls Try.prog 7 #[.agg #[.slice A0 n0 c0, .slice A1 n1 c1, .slice A2 n2 c2, .slice A3 l.length c3, .slice A4 n4 c4], .int .i64 b] w fun e w' => ∃ B1 B2 P d, e = .returned (.func (.func 19) #[] #[.pointer (some ⟨B1, 0, none⟩), .pointer (some ⟨B2, 0, none⟩)]) ∧ Seq w' w.heap.size B1 B2 P d l b ∧ Below w.heap.size w w' := by
  have HA := Aside0.mk hA
  have HL := Aside0.mk hl
  clear hA hl
  go_enter Try.func7, Try.ntmps7
  go_wp2_with (fail)
  have hb := below_alloc (Below.refl _ w) (.cells #[.slice A0 n0 c0, .slice A1 n1 c1, .slice A2 n2 c2, .slice A3 l.length c3, .slice A4 n4 c4] 25)
  refine (clone_ints A3 c3 l _ (Kd.C_below HA.out hb) HL.out).mono ?_
  rintro e w2 ⟨v, rfl, hR, hb2⟩
  obtain ⟨P, d, rfl, _, hC⟩ := Kd.R_reads hR
  have HC := Aside0.mk hC
  have hlo : ∀ ad, P = some ad → w.heap.size ≤ ad.block := fun ad hp => by
    have := R_lo hR ad hp
    rw [World.size_alloc] at this
    omega
  have HLo := Aside0.mk hlo
  clear hlo
  have HB := Aside0.mk (below_then hb hb.size hb2)
  clear hb hb2 hR hC
  go_wp2_with (fail)
  refine (above_calls w.heap.size P d l b w2 HC.out HB.out.size HLo.out).mono ?_
  rintro e w3 ⟨B1, B2, rfl, hS, hb3⟩
  go_wp2_with (fail)
  go_ret
  exact ⟨B1, B2, P, d, rfl, hS, HB.out.trans (hb3.mono HB.out.size)⟩
end Go.Proofs.Ytplppefpohjkbaa.PGr
