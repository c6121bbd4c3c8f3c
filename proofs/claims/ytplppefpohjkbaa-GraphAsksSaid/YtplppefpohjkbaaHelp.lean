/- Small lemmas for the walks over function values. -/
import Derived.Test.YtplppefpohjkbaaBack
import Derived.Test.YtplppefpohjkbaaRange
import Derived.RangeFuncBox
import Derived.Sort.BigQuietIn
import Derived.Maps.AppendAt
namespace Go.Proofs.Ytplppefpohjkbaa.Ask
open Go.Proofs.Ytplppefpohjkbaa.PGr Go.RowKit Go.Shelf Go.Proofs.Ytplppefpohjkbaa.Lit Go.Proofs.Ytplppefpohjkbaa.OwnCells Go.Proofs.YtplppefpohjkbaaW.PrintWords Go.Proofs.YtplppefpohjkbaaW.PrintLast Go.Proofs.YtplppefpohjkbaaW.PrintMore
attribute [local go_sem] Oper.semAt_some
theorem run_store_fn (P : Program) (w : World) (a : Addr) (m : Mode) (f : Fn) (x y : Array Value) : (store a (.func f x y) m).run P w = stored P w a (.func f x y) m := run_store P w a _ m rfl
attribute [local go_sem] run_store_fn
theorem run_equalIn_fn (n : Nat) (w : World) (f : Fn) (x y : Array Value) : (Op.equalIn (n + 1) 29 (.func f x y) .nilFunc).run Try.prog w = .ok false w := by
  simp [Op.equalIn, run_underlying Try.underlying29]
theorem run_eql_fn (w : World) (f : Fn) (x y : Array Value) : (binOp .eql 29 (.func f x y) .nilFunc).run Try.prog w = .ok (.bool false) w := by
  have h := run_equalIn_fn 9999 w f x y
  simp only [binOp]
  simp [Op.equal, Op.maxDepth, h]
attribute [local go_sem] run_eql_fn
set_option linter.unusedVariables false
set_option linter.unusedSimpArgs false
theorem seq_set {w : World} {base B1 B2 g : Nat} {P : Option Addr} {d : Nat} {l : List Int} {b : Int} (h : Seq w base B1 B2 P d l b) (hg : g < base) {k : Nat} (u : Value) : Seq (w.setCell ⟨g, k, none⟩ u) base B1 B2 P d l b :=
  ⟨blk_far h.b1 (by have := h.lo1; simp; omega) u, blk_far h.b2 (by have := h.lo2; simp; omega) u, Kd.C_keep 0 h.row ((KeepBut.refl w g none).set_ k u) (fun ad e _ => by have := h.lo ad e; omega), h.lo1, h.lo2, h.lo⟩
theorem row_slice {w : World} {base k : Nat} {e size : Nat} {v : Value} {xs : List Value} (h : w.ownsRow base e size v k xs) : ∃ A c, v = .slice A k c := by
  rcases h.2 with ⟨rfl, rfl, _⟩ | ⟨g, cap, cur, rfl, _⟩
  · exact ⟨_, _, rfl⟩
  · exact ⟨_, _, rfl⟩
theorem row_C {w : World} {base : Nat} {A : Option Addr} {c : Nat} {l : List Int} (h : w.ownsRow base 3 1 (.slice A l.length c) l.length (l.map (Value.int .i64))) : (Kd.int .i64).C w A l.length l ∧ l.length ≤ c := by
  have hR : (Kd.int .i64).R 3 w base (fun _ => True) (.slice A l.length c) l := Kd.R_of_own h (fun _ _ => trivial)
  obtain ⟨_, h1, h2⟩ := Kd.R_reads' hR
  exact ⟨h2, h1⟩
theorem quietD {l r n : Nat} {P : Program} {f : FuncId} {args : Array Value} {w : World} {v : Value} (h : Calls P f args (w.drewN n) fun e w' => e = .returned v ∧ Drawn0 (w.drewN n) w') : CallsIn (Fence.wide.inRound l) r P f args (w.drewN n) fun e w'' => e = .returned v ∧ ∃ m, w'' = w.drewN m :=
  CallsIn.quiet_of (CallsIn.inRound l (callsIn_wide.2 (h.mono fun e w' ⟨h1, h2⟩ => ⟨h1, h2.out⟩)))
theorem quietW {r n : Nat} {P : Program} {f : FuncId} {args : Array Value} {w : World} {v : Value} (h : Calls P f args (w.drewN n) fun e w' => e = .returned v ∧ Drawn0 (w.drewN n) w') : CallsIn Fence.wide r P f args (w.drewN n) fun e w'' => e = .returned v ∧ ∃ m, w'' = w.drewN m :=
  CallsIn.quiet_of (callsIn_wide.2 (h.mono fun e w' ⟨h1, h2⟩ => ⟨h1, h2.out⟩))
theorem from_drewN (B : Nat) (W : World) (k : Nat) : KeepsFrom B W (W.drewN k) := ⟨Nat.le_refl _, fun _ _ _ h _ => h⟩
theorem blk_in {n g : Nat} {W W' : World} {o : Obj} (hb : Below n W W') (h : W.heap[g]? = some o) (hg : g < n) : W'.heap[g]? = some o := (hb.block g hg).trans h
theorem from_below {B : Nat} {W W' : World} (hb : Below W.heap.size W W') : KeepsFrom B W W' := ⟨hb.size, fun k o _ hk _ => blk_in hb hk (blk_lt hk)⟩
theorem row_below {w w1 : World} {base : Nat} {v : Value} {l : List Int} (h : w.ownsRow base 3 1 v l.length (l.map (Value.int .i64))) (hb : Below w.heap.size w w1) : w1.ownsRow base 3 1 v l.length (l.map (Value.int .i64)) :=
  Kd.own_of_R (h1 := fun _ => rfl) (Kd.R_below (d := Kd.int .i64) (Kd.R_of_own h (ok := fun _ => True) (fun _ _ => trivial)) hb)
theorem results_cell1 {fn : Func} {p : Tmp} (h : fn.results = #[.cell p 4]) (tmps : Array Value) (w : World) (ad : Addr) (v : Bool) (hp : tmps.getD p undef = .pointer (some ad)) (hc : w.cell? ad = some (.bool v)) : (results fn tmps).run Try.prog w = .ok (.bool v) w := by
  have hp' : tmps[p]?.getD undef = .pointer (some ad) := gdq _ _ _ hp
  simp [results, h, hp', asAddr]
  go_simp
end Go.Proofs.Ytplppefpohjkbaa.Ask
