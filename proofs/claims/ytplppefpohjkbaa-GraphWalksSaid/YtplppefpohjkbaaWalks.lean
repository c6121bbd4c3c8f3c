/- GraphWalks' contract. For every input of a length that memory can hold. -/
import Derived.Test.YtplppefpohjkbaaIter2
import Derived.Test.YtplppefpohjkbaaPureWalks
import Derived.RangeFuncBox
import Derived.Sort.BigQuietIn
import Derived.Test.YtplppefpohjkbaaRange
import Derived.Maps.AppendAt
namespace Go.Proofs.Ytplppefpohjkbaa.PGr
open Go.RowKit Go.Shelf Go.Proofs.Ytplppefpohjkbaa.Lit Go.Proofs.Ytplppefpohjkbaa.OwnCells Go.Proofs.YtplppefpohjkbaaW.PrintWords Go.Proofs.YtplppefpohjkbaaW.PrintLast Go.Proofs.YtplppefpohjkbaaW.PrintMore
attribute [local go_sem] Oper.semAt_some
theorem run_store_fn (P : Program) (w : World) (a : Addr) (m : Mode) (f : Fn) (x y : Array Value) : (store a (.func f x y) m).run P w = stored P w a (.func f x y) m := run_store P w a _ m rfl
attribute [local go_sem] run_store_fn
theorem run_equalIn_fn (n : Nat) (w : World) (f : Fn) (x y : Array Value) : (Op.equalIn (n + 1) 29 (.func f x y) .nilFunc).run Try.prog w = .ok false w := by
  simp [Op.equalIn, run_underlying Try.underlying29]
theorem run_eql_fn (w : World) (f : Fn) (x y : Array Value) : (binOp .eql 29 (.func f x y) .nilFunc).run Try.prog w = .ok (.bool false) w := by
  have h := run_equalIn_fn 9999 w f x y
  simp only [binOp]
  simp [Op.equal, Op.maxDepth, h]
attribute [local go_sem] run_eql_fn
set_option linter.unusedVariables false
set_option linter.unusedSimpArgs false
theorem Seq.set {w : World} {base B1 B2 g : Nat} {P : Option Addr} {d : Nat} {l : List Int} {b : Int} (h : Seq w base B1 B2 P d l b) (hg : g < base) {k : Nat} (u : Value) : Seq (w.setCell ⟨g, k, none⟩ u) base B1 B2 P d l b :=
  ⟨blk_far h.b1 (by have := h.lo1; simp; omega) u, blk_far h.b2 (by have := h.lo2; simp; omega) u, Kd.C_keep 0 h.row ((KeepBut.refl w g none).set_ k u) (fun ad e _ => by have := h.lo ad e; omega), h.lo1, h.lo2, h.lo⟩
theorem row_slice {w : World} {base k : Nat} {e size : Nat} {v : Value} {xs : List Value} (h : w.ownsRow base e size v k xs) : ∃ A c, v = .slice A k c := by
  rcases h.2 with ⟨rfl, rfl, _⟩ | ⟨g, cap, cur, rfl, _⟩
  · exact ⟨_, _, rfl⟩
  · exact ⟨_, _, rfl⟩
theorem row_C {w : World} {base : Nat} {A : Option Addr} {c : Nat} {l : List Int} (h : w.ownsRow base 3 1 (.slice A l.length c) l.length (l.map (Value.int .i64))) : (Kd.int .i64).C w A l.length l ∧ l.length ≤ c := by
  have hR : (Kd.int .i64).R 3 w base (fun _ => True) (.slice A l.length c) l := Kd.R_of_own h (fun _ _ => trivial)
  obtain ⟨_, h1, h2⟩ := Kd.R_reads' hR
  exact ⟨h2, h1⟩
theorem pick_f (a : Int) (n : Nat) (hn : n < 1152921504606846976) : ∃ m : Nat, m ≤ n ∧ portagekit_Pick.f a (wrap64 ((n : Int) + 1)) = some (m : Int) := by
  have hw : wrap64 ((n : Int) + 1) = (n : Int) + 1 := by unfold wrap64; omega
  rw [hw]
  unfold portagekit_Pick.f
  rw [if_neg (by omega), if_neg (by omega)]
  have h1 : Int.tmod a ((n : Int) + 1) < (n : Int) + 1 := Int.tmod_lt_of_pos a (by omega)
  have h2 : -((n : Int) + 1) < Int.tmod a ((n : Int) + 1) := by
    have := Int.tmod_lt_of_pos (-a) (show (0 : Int) < (n : Int) + 1 by omega)
    rw [Int.neg_tmod] at this
    omega
  by_cases h : Int.tmod a ((n : Int) + 1) < 0
  · rw [if_pos h]
    refine ⟨(Int.tmod a ((n : Int) + 1) + (n + 1)).toNat, by omega, ?_⟩
    congr 1
    unfold wrap64
    omega
  · rw [if_neg h]
    exact ⟨(Int.tmod a ((n : Int) + 1)).toNat, by omega, by congr 1; omega⟩
theorem quietD {l r n : Nat} {P : Program} {f : FuncId} {args : Array Value} {w : World} {v : Value} (h : Calls P f args (w.drewN n) fun e w' => e = .returned v ∧ Drawn0 (w.drewN n) w') : CallsIn (Fence.wide.inRound l) r P f args (w.drewN n) fun e w'' => e = .returned v ∧ ∃ m, w'' = w.drewN m :=
  CallsIn.quiet_of (CallsIn.inRound l (callsIn_wide.2 (h.mono fun e w' ⟨h1, h2⟩ => ⟨h1, h2.out⟩)))
theorem quietW {r n : Nat} {P : Program} {f : FuncId} {args : Array Value} {w : World} {v : Value} (h : Calls P f args (w.drewN n) fun e w' => e = .returned v ∧ Drawn0 (w.drewN n) w') : CallsIn Fence.wide r P f args (w.drewN n) fun e w'' => e = .returned v ∧ ∃ m, w'' = w.drewN m :=
  CallsIn.quiet_of (callsIn_wide.2 (h.mono fun e w' ⟨h1, h2⟩ => ⟨h1, h2.out⟩))
theorem from_drewN (B : Nat) (W : World) (k : Nat) : KeepsFrom B W (W.drewN k) := ⟨Nat.le_refl _, fun _ _ _ h _ => h⟩
def dW14 : Nat → Option Tmp
  | 0 => some 45
  | 1 => some 46
  | 2 => some 47
  | 3 => some 48
  | 4 => some 49
  | 5 => some 50
  | 6 => some 51
  | 7 => some 52
  | _ => none
def FW14 (A : Option Addr) (c k : Nat) (stop : Int) (Pw : Option Addr) (dw dl m : Nat) : Nat → World → Value → Prop
  | 0, _, v => v = .slice A k c
  | 1, _, v => v = .int .i64 k
  | 2, _, v => v = .int .i64 stop
  | 3, _, v => v = .slice Pw dl dw
  | 4, _, v => v = .int .i64 dl
  | 5, _, v => v = .int .i64 (wrap64 (dl + 1))
  | 6, _, v => v = .int .i64 m
  | 7, _, v => v = .bool (decide ((m : Int) ≤ (k : Int)))
  | _, _, _ => True
theorem FW14_any (A : Option Addr) (c k : Nat) (stop : Int) (Pw : Option Addr) (dw dl m : Nat) (i : Nat) (w w1 : World) (v : Value) (h : FW14 A c k stop Pw dw dl m i w v) : FW14 A c k stop Pw dw dl m i w1 v := by
  match i with
  | 0 | 1 | 2 | 3 | 4 | 5 | 6 | 7 => exact h
  | (n + 8) => exact h
theorem blk_in {n g : Nat} {W W' : World} {o : Obj} (hb : Below n W W') (h : W.heap[g]? = some o) (hg : g < n) : W'.heap[g]? = some o := (hb.block g hg).trans h
theorem from_below {B : Nat} {W W' : World} (hb : Below W.heap.size W W') : KeepsFrom B W W' := ⟨hb.size, fun k o _ hk _ => blk_in hb hk (blk_lt hk)⟩
theorem row_below {w w1 : World} {base : Nat} {v : Value} {l : List Int} (h : w.ownsRow base 3 1 v l.length (l.map (Value.int .i64))) (hb : Below w.heap.size w w1) : w1.ownsRow base 3 1 v l.length (l.map (Value.int .i64)) :=
  Kd.own_of_R (h1 := fun _ => rfl) (Kd.R_below (d := Kd.int .i64) (Kd.R_of_own h (ok := fun _ => True) (fun _ _ => trivial)) hb)
theorem results_cell1 {fn : Func} {p : Tmp} (h : fn.results = #[.cell p 4]) (tmps : Array Value) (w : World) (ad : Addr) (v : Bool) (hp : tmps.getD p undef = .pointer (some ad)) (hc : w.cell? ad = some (.bool v)) : (results fn tmps).run Try.prog w = .ok (.bool v) w := by
  have hp' : tmps[p]?.getD undef = .pointer (some ad) := gdq _ _ _ hp
  simp [results, h, hp', asAddr]
  go_simp
set_option maxRecDepth 100000 in
set_option maxHeartbeats 8000000 in
theorem walks (A0 A1 A2 A3 A4 : Option Addr) (c0 c1 c2 c3 c4 : Nat) (l0 : List Int) (l1 : List (List Int)) (l2 l l4 : List Int) (b stop : Int) (w : World) (hr0 : Kd.C (Kd.int .i64) w A0 l0.length l0) (hc0 : l0.length ≤ c0) (hr1 : Kd.C (Kd.slice 3 (Kd.int .i64)) w A1 l1.length l1) (hc1 : l1.length ≤ c1) (hr2 : Kd.C (Kd.int .i64) w A2 l2.length l2) (hc2 : l2.length ≤ c2) (hr3 : Kd.C (Kd.int .i64) w A3 l.length l) (hc3 : l.length ≤ c3) (hr4 : Kd.C (Kd.int .i64) w A4 l4.length l4) (hc4 : l4.length ≤ c4) (hl : l.length * 8 ≤ 140737488351232) :
    Calls Try.prog 3 #[.agg #[.slice A0 l0.length c0, .slice A1 l1.length c1, .slice A2 l2.length c2, .slice A3 l.length c3, .slice A4 l4.length c4], .int .i64 b, .int .i64 stop] w fun e w' => e = .returned (.bool true) ∧ Below w.heap.size w w' := by
  have HR0 := Aside0.mk hr0
  have HR1 := Aside0.mk hr1
  have HR2 := Aside0.mk hr2
  have HR3 := Aside0.mk hr3
  have HR4 := Aside0.mk hr4
  have HC0 := Aside0.mk hc0
  have HC1 := Aside0.mk hc1
  have HC2 := Aside0.mk hc2
  have HC3 := Aside0.mk hc3
  have HC4 := Aside0.mk hc4
  have HL := Aside0.mk hl
  clear hr0 hr1 hr2 hr3 hr4 hc0 hc1 hc2 hc3 hc4 hl
  refine (callsIn_wide (n := 10)).1 ?_
  refine callsIn_of_wp_marks Try.func3 rfl trivial ?_ rfl
  simp only [Try.ntmps3, List.size_toArray, List.length_cons, List.length_nil, Nat.reduceAdd, Nat.reduceSub, Array.replicate_succ, Array.replicate_zero, List.push_toArray, List.append_toArray, List.nil_append, List.cons_append]
  gi_wp2_with (fail)
  refine ⟨trivial, ?_⟩
  obtain ⟨W1, hW1⟩ : ∃ W1, ((w.alloc (.cells #[.slice A0 l0.length c0, .slice A1 l1.length c1, .slice A2 l2.length c2, .slice A3 l.length c3, .slice A4 l4.length c4] 25)).alloc (.cells #[.int .i64 stop] 3)).alloc (.cells #[.bool false] 4) = W1 := ⟨_, rfl⟩
  have g3 : W1.heap[w.heap.size]? = some (.cells #[.slice A0 l0.length c0, .slice A1 l1.length c1, .slice A2 l2.length c2, .slice A3 l.length c3, .slice A4 l4.length c4] 25 (0, 0)) := by
    rw [← hW1]; exact blk_alloc (blk_alloc (blk_new w _) _) _
  have g5 : Boxed W1 (w.heap.size + 1) 3 (.int .i64 stop) := by
    rw [← hW1]
    have := (Boxed.new (w.alloc (.cells #[.slice A0 l0.length c0, .slice A1 l1.length c1, .slice A2 l2.length c2, .slice A3 l.length c3, .slice A4 l4.length c4] 25)) 3 (.int .i64 stop)).alloc (.cells #[.bool false] 4)
    simpa using this
  have g6 : Boxed W1 (w.heap.size + 1 + 1) 4 (.bool false) := by
    rw [← hW1]
    have := Boxed.new ((w.alloc (.cells #[.slice A0 l0.length c0, .slice A1 l1.length c1, .slice A2 l2.length c2, .slice A3 l.length c3, .slice A4 l4.length c4] 25)).alloc (.cells #[.int .i64 stop] 3)) 4 (.bool false)
    simpa using this
  have hb1 : Below w.heap.size w W1 := by
    rw [← hW1]; exact below_alloc (below_alloc (below_alloc (Below.refl _ w) _) _) _
  have hs1 : W1.heap.size = w.heap.size + 3 := by rw [← hW1]; simp
  rw [hW1]
  clear hW1
  refine (callsIn_wide.2 (portageref09_Doms.calls (l.length + 1) A0 c0 l0 A1 c1 l1 A2 c2 l2 A3 c3 l A4 c4 l4 b _ W1 (Kd.C_below HR0.out hb1) HC0.out (Kd.C_below HR1.out hb1) HC1.out (Kd.C_below HR2.out hb1) HC2.out (Kd.C_below HR3.out hb1) HC3.out (Kd.C_below HR4.out hb1) HC4.out (want_f l l0 l1 l2 l4 b (by have := HL.out; omega)))).mono ?_
  rintro e W2 ⟨v, rfl, hR, hb2⟩
  obtain ⟨Pw, dw, rfl, hcw, hCw⟩ := Kd.R_reads hR
  have g3' := blk_below g3 hb2
  have HG5 : Aside0 (Boxed W2 (w.heap.size + 1) 3 (.int .i64 stop)) := Aside0.mk (blk_below g5 hb2)
  have HG6 : Aside0 (Boxed W2 (w.heap.size + 1 + 1) 4 (.bool false)) := Aside0.mk (blk_below g6 hb2)
  have HB2 := Aside0.mk (hb1.trans (hb2.mono (by omega)))
  have HS2 : Aside0 (w.heap.size + 3 ≤ W2.heap.size) := Aside0.mk (by have := hb2.size; omega)
  have HCw := Aside0.mk hCw
  clear hb2 hR hCw g5 g6 hb1 hs1 g3
  have hs2 := HS2.out
  have k0 := blk_cell (blk_alloc g3' (.cells #[.slice Pw (doms l l.length b).length dw] 22)) 0
  have k1 := blk_cell (blk_alloc g3' (.cells #[.slice Pw (doms l l.length b).length dw] 22)) 1
  have k2 := blk_cell (blk_alloc g3' (.cells #[.slice Pw (doms l l.length b).length dw] 22)) 2
  have k3 := blk_cell (blk_alloc g3' (.cells #[.slice Pw (doms l l.length b).length dw] 22)) 3
  have k4 := blk_cell (blk_alloc g3' (.cells #[.slice Pw (doms l l.length b).length dw] 22)) 4
  replace k0 : (W2.alloc (.cells #[.slice Pw (doms l l.length b).length dw] 22)).cell? ⟨w.heap.size, 0, none⟩ = some (.slice A0 l0.length c0) := k0
  replace k1 : (W2.alloc (.cells #[.slice Pw (doms l l.length b).length dw] 22)).cell? ⟨w.heap.size, 1, none⟩ = some (.slice A1 l1.length c1) := k1
  replace k2 : (W2.alloc (.cells #[.slice Pw (doms l l.length b).length dw] 22)).cell? ⟨w.heap.size, 2, none⟩ = some (.slice A2 l2.length c2) := k2
  replace k3 : (W2.alloc (.cells #[.slice Pw (doms l l.length b).length dw] 22)).cell? ⟨w.heap.size, 3, none⟩ = some (.slice A3 l.length c3) := k3
  replace k4 : (W2.alloc (.cells #[.slice Pw (doms l l.length b).length dw] 22)).cell? ⟨w.heap.size, 4, none⟩ = some (.slice A4 l4.length c4) := k4
  have j3 := blk_cell (blk_alloc (blk_alloc g3' (.cells #[.slice Pw (doms l l.length b).length dw] 22)) (.cells #[.slice A0 l0.length c0, .slice A1 l1.length c1, .slice A2 l2.length c2, .slice A3 l.length c3, .slice A4 l4.length c4] 25)) 3
  replace j3 : ((W2.alloc (.cells #[.slice Pw (doms l l.length b).length dw] 22)).alloc (.cells #[.slice A0 l0.length c0, .slice A1 l1.length c1, .slice A2 l2.length c2, .slice A3 l.length c3, .slice A4 l4.length c4] 25)).cell? ⟨w.heap.size, 3, none⟩ = some (.slice A3 l.length c3) := j3
  gi_wp2_with (fail)
  refine ⟨trivial, ?_⟩
  clear k0 k1 k2 k3 k4 j3
  obtain ⟨W3, hW3⟩ : ∃ W3, (W2.alloc (.cells #[.slice Pw (doms l l.length b).length dw] 22)).alloc (.cells #[.slice A0 l0.length c0, .slice A1 l1.length c1, .slice A2 l2.length c2, .slice A3 l.length c3, .slice A4 l4.length c4] 25) = W3 := ⟨_, rfl⟩
  have g7 : Boxed W3 W2.heap.size 22 (.slice Pw (doms l l.length b).length dw) := by
    rw [← hW3]; exact (Boxed.new W2 22 _).alloc _
  have g8 : W3.heap[W2.heap.size + 1]? = some (.cells #[.slice A0 l0.length c0, .slice A1 l1.length c1, .slice A2 l2.length c2, .slice A3 l.length c3, .slice A4 l4.length c4] 25 (0, 0)) := by
    rw [← hW3]
    have := blk_new (W2.alloc (.cells #[.slice Pw (doms l l.length b).length dw] 22)) (.cells #[.slice A0 l0.length c0, .slice A1 l1.length c1, .slice A2 l2.length c2, .slice A3 l.length c3, .slice A4 l4.length c4] 25)
    rw [World.size_alloc] at this
    exact this
  have hb3 : Below W2.heap.size W2 W3 := by
    rw [← hW3]; exact below_alloc (below_alloc (Below.refl _ W2) _) _
  have hs3 : W3.heap.size = W2.heap.size + 2 := by rw [← hW3]; simp
  rw [hW3]
  clear hW3
  refine (callsIn_wide.2 (portageref0_CopyInts.calls (l.length + 1) A3 c3 l l W3 (Kd.C_below HR3.out (HB2.out.trans (hb3.mono (by omega)))) HC3.out (copy_f l (by have := HL.out; omega)))).mono ?_
  rintro e W4 ⟨v, rfl, hR, hb4⟩
  obtain ⟨Ph, dh, rfl, hch, hCh⟩ := Kd.R_reads hR
  have HRh := Aside0.mk hR
  clear hCh hR
  have g8' := blk_below g8 hb4
  have m3 := blk_cell g8' 3
  replace m3 : W4.cell? ⟨W2.heap.size + 1, 3, none⟩ = some (.slice A3 l.length c3) := m3
  obtain ⟨W5, hW5⟩ : ∃ W5, W4.setCell ⟨W2.heap.size + 1, 3, none⟩ (.slice Ph l.length dh) = W5 := ⟨_, rfl⟩
  have h8 : W5.heap[W2.heap.size + 1]? = some (.cells #[.slice A0 l0.length c0, .slice A1 l1.length c1, .slice A2 l2.length c2, .slice Ph l.length dh, .slice A4 l4.length c4] 25 (0, 0)) := by
    rw [← hW5]; exact blk_put g8' 3 _ rfl
  have h7 : Boxed W5 W2.heap.size 22 (.slice Pw (doms l l.length b).length dw) := by
    rw [← hW5]; exact blk_far (blk_below g7 hb4) (by simp) _
  have hRh5 : (Kd.int .i64).R 3 W5 W3.heap.size (fun _ => True) (.slice Ph l.length dh) l := by
    rw [← hW5]; exact Kd.R_set HRh.out g8' (by intro q hq; simp [Kd.int, Kd.scalar] at hq; subst hq; decide) 3 _
  have hb5 : Below W2.heap.size W2 W5 := by
    rw [← hW5]; exact (hb3.trans (hb4.mono (by omega))).setCell (by simp) _
  have hs5 : W3.heap.size ≤ W5.heap.size := by
    rw [← hW5]; have := hb4.size; simpa using this
  have m0 := blk_cell h8 0
  have m1 := blk_cell h8 1
  have m2 := blk_cell h8 2
  have m3' := blk_cell h8 3
  have m4 := blk_cell h8 4
  have hf := blk_frozen g8' 3
  replace m0 : W5.cell? ⟨W2.heap.size + 1, 0, none⟩ = some (.slice A0 l0.length c0) := m0
  replace m1 : W5.cell? ⟨W2.heap.size + 1, 1, none⟩ = some (.slice A1 l1.length c1) := m1
  replace m2 : W5.cell? ⟨W2.heap.size + 1, 2, none⟩ = some (.slice A2 l2.length c2) := m2
  replace m3' : W5.cell? ⟨W2.heap.size + 1, 3, none⟩ = some (.slice Ph l.length dh) := m3'
  replace m4 : W5.cell? ⟨W2.heap.size + 1, 4, none⟩ = some (.slice A4 l4.length c4) := m4
  clear g8 g8' g7 hb4 hb3 HRh
  gi_wp2_with (fail)
  clear m0 m1 m2 m3 m3' m4 hf hW5
  refine ⟨trivial, ?_⟩
  obtain ⟨_, _, hC5⟩ := Kd.R_reads' hRh5
  refine (callsIn_wide.2 (doms_calls A0 A1 A2 Ph A4 c0 c1 c2 dh c4 l0.length l1.length l2.length l4.length l b W5 hC5 (by have := HL.out; omega))).mono ?_
  rintro e W6 ⟨B1, B2, P, d, rfl, hS, hb6⟩
  gi_wp2_with (fail)
  have hlt := Kd.R_lt hRh5
  have hRh6 := Kd.R_below hRh5 hb6
  have hB56 : Below W3.heap.size W5 W6 := hb6.mono hs5
  obtain ⟨W7, hW7⟩ : ∃ W7, W6.alloc (.cells #[.func (.func 19) #[] #[.pointer (some ⟨B1, 0, none⟩), .pointer (some ⟨B2, 0, none⟩)]] 29) = W7 := ⟨_, rfl⟩
  have g9 : Boxed W7 W6.heap.size 29 (.func (.func 19) #[] #[.pointer (some ⟨B1, 0, none⟩), .pointer (some ⟨B2, 0, none⟩)]) := by rw [← hW7]; exact Boxed.new W6 29 _
  have hR7 : (Kd.int .i64).R 3 W7 W3.heap.size (fun _ => True) (.slice Ph l.length dh) l := by rw [← hW7]; exact Kd.R_alloc hRh6 _
  have hS7 : Seq W7 W5.heap.size B1 B2 P d l b := by rw [← hW7]; exact hS.below (below_alloc (Below.refl _ _) _)
  have hB7 : Below W3.heap.size W5 W7 := by rw [← hW7]; exact hB56.alloc (by have := hb6.size; omega) _
  rw [hW7]
  clear hW7 hRh5 hRh6 hB56 hS
  gi_loopw [10] (fun i wr => ∃ (k : Nat) (ys : List Int), k ≤ l.length ∧ i = .int .i64 k ∧ ys.length = l.length ∧ (Kd.int .i64).R 3 wr W3.heap.size (fun _ => True) (.slice Ph l.length dh) ys ∧ Seq wr W5.heap.size B1 B2 P d l b ∧ Below W3.heap.size W5 wr ∧ Boxed wr W6.heap.size 29 (.func (.func 19) #[] #[.pointer (some ⟨B1, 0, none⟩), .pointer (some ⟨B2, 0, none⟩)])) (fun i _ => l.length - (intOf i).toNat)
  case atStart => exact ⟨0, l, Nat.zero_le _, rfl, rfl, hR7, hS7, hB7, g9⟩
  case round =>
    obtain ⟨k, ys, hk, rfl, hys, hRr, hSr, hBr, g9r⟩ := hrel
    have h8r : wr.heap[W2.heap.size + 1]? = some (.cells #[.slice A0 l0.length c0, .slice A1 l1.length c1, .slice A2 l2.length c2, .slice Ph l.length dh, .slice A4 l4.length c4] 25 (0, 0)) := (hBr.block _ (by omega)).trans h8
    have q3 := blk_cell h8r 3
    replace q3 : wr.cell? ⟨W2.heap.size + 1, 3, none⟩ = some (.slice Ph l.length dh) := q3
    by_cases hkl : k < l.length
    · have hkl' : (k : Int) < (l.length : Int) := by omega
      obtain ⟨g, cap, he, hg1, hg2, cs, hcs⟩ := Kd.R_form hRr (by omega)
      simp only [Value.slice.injEq] at he
      obtain ⟨rfl, -, rfl⟩ := he
      have hRr' : (Kd.int .i64).R 3 wr W3.heap.size (fun _ => True) (.slice (some ⟨g, 0, none⟩) ys.length dh) ys := by rw [hys]; exact hRr
      have hcl := Kd.R_cell 0 hRr' (k : Int) (by omega) (by omega)
      simp only [Int.toNat_natCast] at hcl
      obtain ⟨hcl1, hcl2⟩ := hcl
      have q3' : wr.cell? ⟨W2.heap.size + 1, 3, none⟩ = some (.slice (some ⟨g, 0, none⟩) l.length dh) := blk_cell h8r 3
      have HYs := Aside0.mk hys
      clear q3 h8r h8 hRr hcs hys
      gi_wp2_with (fail)
      go_roundw
      case rel =>
        have hgl : g < W5.heap.size := hlt g rfl
        refine ⟨k + 1, ys.set k (wrap64 ((k : Int) - 1)), by omega, by rw [wrap_up (by have := HL.out; omega)], by rw [List.length_set]; exact HYs.out, ?_, hSr.set hgl _, ?_, ?_⟩
        · have := (Kd.R_put hRr' (k : Int) (wrap64 ((k : Int) - 1))).1
          rw [HYs.out, Int.toNat_natCast] at this
          exact this
        · exact hBr.setCell (p := ⟨g, k, none⟩) hg1 _
        · exact blk_far g9r (by have := hb6.size; simp; omega) _
      case measure =>
        rw [wrap_up (by have := HL.out; omega)]
        simp [intOf]; omega
    · obtain rfl : k = l.length := by omega
      have hbr : Below W2.heap.size W2 wr := hb5.trans (hBr.mono (by omega))
      have h7r : Boxed wr W2.heap.size 22 (.slice Pw (doms l l.length b).length dw) := (hBr.block _ (by omega)).trans h7
      have h5r : Boxed wr (w.heap.size + 1) 3 (.int .i64 stop) := (hbr.block _ (by omega)).trans HG5.out
      have h6r : Boxed wr (w.heap.size + 1 + 1) 4 (.bool false) := (hbr.block _ (by omega)).trans HG6.out
      have hCw := Kd.C_below HCw.out hbr
      have hbw : Below w.heap.size w wr := HB2.out.trans (hbr.mono (by omega))
      have hsl := hBr.size
      obtain ⟨n0, hn0⟩ : ∃ n, wr.heap.size = n := ⟨_, rfl⟩
      have hls : w.heap.size + 3 ≤ W2.heap.size ∧ W2.heap.size + 2 ≤ n0 ∧ W6.heap.size < n0 := ⟨by omega, by omega, by have := blk_lt g9r; omega⟩
      have HLs := Aside0.mk hls
      have c9 := (g9r.alloc (.cells #[.slice none 0 0] 22)).cell
      have hSq := hSr
      clear h8r hRr h8 hSr HG5 HG6 HCw hBr hbr hb5 hb6 g3' h7 hls hs2 hs3 hs5 hsl hlt
      gi_wp2_with (fail)
      clear c9
      obtain ⟨m, hm, hpick⟩ := pick_f stop (doms l l.length b).length (by have := doms_len l l.length b; have := HL.out; omega)
      have hdl : (doms l l.length b).length ≤ l.length := doms_len l l.length b
      have HDl := Aside0.mk hdl
      have HPick := Aside0.mk hpick
      clear hpick hdl
      obtain ⟨i0, hi, hz0, hz1, hz2⟩ := info_parts info3
      have HInf := Aside0.mk hi
      have HZ0 := Aside0.mk hz0
      have HZ1 := Aside0.mk hz1
      have HZ2 := Aside0.mk hz2
      clear hi hz0 hz1 hz2
      obtain ⟨ds, hds⟩ : ∃ ds, doms l l.length b = ds := ⟨_, rfl⟩
      rw [hds] at h7r hCw hm HPick HDl ⊢
      have bO := Boxed.new wr 22 (.slice none 0 0)
      have hB0 : Below n0 wr (wr.alloc (.cells #[.slice none 0 0] 22)) := (Below.refl _ wr).alloc (by omega) _
      refine Range.rangeHB n0 rfl (by decide) rfl trivial (enters_of Try.func19 (by kernel_rfl) rfl) (by simp)
        (above_stops Fence.wide 9 trivial rfl (by decide) B1 B2 n0 W5.heap.size P d l b (by have := HL.out; omega) wr (fun W' h => hSq.below (h.mono (by omega))) (wr.alloc (.cells #[.slice none 0 0] 22)) hB0 (by simp; omega)) (by simp; omega) (Below.refl _ _)
        (fun pre W => (∃ v, Boxed W n0 22 v ∧ W.ownsRow n0 3 1 v pre.length (pre.map (.int .i64)) ∧ True) ∧ (Below n0 wr W ∧ pre.length ≤ m))
        (fun pre W => (∃ v, Boxed W n0 22 v ∧ W.ownsRow n0 3 1 v pre.dropLast.length (pre.dropLast.map (.int .i64)) ∧ True) ∧ (Below n0 wr W ∧ pre.dropLast.length = m))
        (OwnFrom.and (Own.from (holdsRow_own n0 n0 22 3 1 (fun (pre : List Int) => pre.length) (fun (pre : List Int) => pre.map (Value.int .i64)) (fun _ _ => True)) _) (OwnFrom.and (ownFrom_below (by omega) (by simp; omega)) (ownFrom_pure _ _)))
        (OwnFrom.and (Own.from (holdsRow_own n0 n0 22 3 1 (fun (pre : List Int) => pre.dropLast.length) (fun (pre : List Int) => pre.dropLast.map (Value.int .i64)) (fun _ _ => True)) _) (OwnFrom.and (ownFrom_below (by omega) (by simp; omega)) (ownFrom_pure _ _)))
        ⟨⟨_, by rw [← hn0]; exact bO, World.ownsRow_nil _ _ _ _, trivial⟩, hB0, by simp⟩ ?body ?rest
      case body =>
        rintro lp pre x W hlp - ⟨⟨v, hv, hrow, -⟩, hB, hpm⟩ hlt
        obtain ⟨A, c, rfl⟩ := row_slice hrow
        simp only [List.setIfInBounds_toArray, List.set_cons_succ, List.set_cons_zero]
        have hc := hv.cell
        have k5 := Boxed.cell (blk_below h5r (hB.mono (by omega)))
        have k7 := Boxed.cell (blk_below h7r (hB.mono (by omega)))
        gi_wp2_with (fail)
        refine RegInv.region_factsIn (by kernel_rfl) (by kernel_rfl) (fun a b => ∃ j, b = a.drewN j) (fun a b c ⟨i, hi⟩ ⟨j, hj⟩ => ⟨i + j, by rw [hj, hi, World.drewN_drewN]⟩) ⟨1, rfl⟩ dW14 8 (by kernel_rfl) (by kernel_rfl) (by kernel_rfl) (FW14 A c pre.length stop Pw dw ds.length m) (fun i w w1 v h _ => FW14_any _ _ _ _ _ _ _ _ i w w1 v h) ?hs14 ?he14
        case hs14 =>
          clear hv hrow hSq h5r h7r hCw
          intro i o a w8 hi hM
          obtain ⟨j, rfl⟩ := hM.ext
          have hlt8 : i < 8 := (Array.getElem?_eq_some_iff.1 hi).1
          have x11 := gdq _ _ _ (show a.tmps.getD 11 undef = .pointer (some ⟨n0, 0, none⟩) from hM.off 11 (by kernel_rfl))
          have x5 := gdq _ _ _ (show a.tmps.getD 5 undef = .pointer (some ⟨w.heap.size + 1, 0, none⟩) from hM.off 5 (by kernel_rfl))
          have x7 := gdq _ _ _ (show a.tmps.getD 7 undef = .pointer (some ⟨W2.heap.size, 0, none⟩) from hM.off 7 (by kernel_rfl))
          rcases i with _ | _ | _ | _ | _ | _ | _ | _ | i
          · cases hi
            refine RegInv.op_valueIn (fun _ => trivial) (by rfl) rfl (by intro c h; cases h) (v := .slice A pre.length c) (w' := W.drewN j) ?_ ⟨_, rfl, rfl, 0, rfl⟩
            unfold execOp
            go_simp
          · cases hi
            have h0 := gdq _ _ _ (show a.tmps.getD 45 undef = .slice A pre.length c from hM.at_ 0 (by decide) (by kernel_rfl))
            refine RegInv.op_valueIn (fun _ => trivial) (by rfl) rfl (by intro c h; cases h) (v := .int .i64 pre.length) (w' := W.drewN j) ?_ ⟨_, rfl, rfl, 0, rfl⟩
            unfold execOp
            go_simp
          · cases hi
            refine RegInv.op_valueIn (fun _ => trivial) (by rfl) rfl (by intro c h; cases h) (v := .int .i64 stop) (w' := W.drewN j) ?_ ⟨_, rfl, rfl, 0, rfl⟩
            unfold execOp
            go_simp
          · cases hi
            refine RegInv.op_valueIn (fun _ => trivial) (by rfl) rfl (by intro c h; cases h) (v := .slice Pw ds.length dw) (w' := W.drewN j) ?_ ⟨_, rfl, rfl, 0, rfl⟩
            unfold execOp
            go_simp
          · cases hi
            have h0 := gdq _ _ _ (show a.tmps.getD 48 undef = .slice Pw ds.length dw from hM.at_ 3 (by decide) (by kernel_rfl))
            refine RegInv.op_valueIn (fun _ => trivial) (by rfl) rfl (by intro c h; cases h) (v := .int .i64 ds.length) (w' := W.drewN j) ?_ ⟨_, rfl, rfl, 0, rfl⟩
            unfold execOp
            go_simp
          · cases hi
            have h0 := gdq _ _ _ (show a.tmps.getD 49 undef = .int .i64 ds.length from hM.at_ 4 (by decide) (by kernel_rfl))
            refine RegInv.op_valueIn (fun _ => trivial) (by rfl) rfl (by intro c h; cases h) (v := .int .i64 (wrap64 (ds.length + 1))) (w' := W.drewN j) ?_ ⟨_, rfl, rfl, 0, rfl⟩
            unfold execOp
            go_simp
            exact i64_w _
          · cases hi
            have h0 := gdq _ _ _ (show a.tmps.getD 47 undef = .int .i64 stop from hM.at_ 2 (by decide) (by kernel_rfl))
            have h1 := gdq _ _ _ (show a.tmps.getD 50 undef = .int .i64 (wrap64 (ds.length + 1)) from hM.at_ 5 (by decide) (by kernel_rfl))
            refine RegInv.op_callIn (fun _ => trivial) rfl (by rfl) rfl Try.func8 (by kernel_rfl) rfl rfl #[.int .i64 stop, .int .i64 (wrap64 (ds.length + 1))] (by simp [Act.eval, h0, h1]) ?_
            refine (CallsIn.inRound lp (callsIn_wide.2 (portagekit_Pick.calls stop _ m _ HPick.out))).mono ?_
            rintro e w9 ⟨rfl, hd9⟩
            exact ⟨_, rfl, _, rfl, rfl, hd9.out⟩
          · cases hi
            have h0 := gdq _ _ _ (show a.tmps.getD 46 undef = .int .i64 pre.length from hM.at_ 1 (by decide) (by kernel_rfl))
            have h1 := gdq _ _ _ (show a.tmps.getD 51 undef = .int .i64 m from hM.at_ 6 (by decide) (by kernel_rfl))
            refine RegInv.op_valueIn (fun _ => trivial) (by rfl) rfl (by intro c h; cases h) (v := .bool (decide ((m : Int) ≤ pre.length))) (w' := W.drewN j) ?_ ⟨_, rfl, rfl, 0, rfl⟩
            unfold execOp
            go_simp
          · exact absurd hlt8 (by omega)
        case he14 =>
          rintro vs w8 ⟨j, rfl⟩ hvs
          have v0 : vs 0 = .slice A pre.length c := hvs 0 (by decide)
          have v1 : vs 1 = .int .i64 pre.length := hvs 1 (by decide)
          have v2 : vs 2 = .int .i64 stop := hvs 2 (by decide)
          have v3 : vs 3 = .slice Pw ds.length dw := hvs 3 (by decide)
          have v4 : vs 4 = .int .i64 ds.length := hvs 4 (by decide)
          have v5 : vs 5 = .int .i64 (wrap64 (ds.length + 1)) := hvs 5 (by decide)
          have v6 : vs 6 = .int .i64 m := hvs 6 (by decide)
          have v7 : vs 7 = .bool (decide ((m : Int) ≤ pre.length)) := hvs 7 (by decide)
          simp only [RegInv.puts, dW14, Act.put, List.range, List.range.loop, List.setIfInBounds_toArray, List.set_cons_zero, List.set_cons_succ, v0, v1, v2, v3, v4, v5, v6, v7]
          clear hvs v0 v1 v2 v3 v4 v5 v6 v7
          have hv' : Boxed (W.drewN j) n0 22 (.slice A pre.length c) := hv
          have hrow' : (W.drewN j).ownsRow n0 3 1 (.slice A pre.length c) pre.length (pre.map (Value.int .i64)) := hrow
          have hB' : Below n0 wr (W.drewN j) := pw_below_drewN hB j
          have hWj : Below n0 W (W.drewN j) := pw_below_drewN (Below.refl _ _) j
          have hKj : KeepsFrom (wr.alloc (.cells #[.slice none 0 0] 22)).heap.size W (W.drewN j) := from_drewN _ _ _
          clear hc k5 k7 hv hrow hB
          revert hv' hrow' hB' hWj hKj
          generalize W.drewN j = W'
          intro hv hrow hB hWj hKj
          have hc := hv.cell
          by_cases hlm : pre.length < m
          · have hlm' : decide ((m : Int) ≤ (pre.length : Int)) = false := decide_eq_false (by omega)
            rw [hlm']
            have hsz := hB.size
            gi_wp2_with (gi_at_builtin; refine wpListIn_append_own _ rfl _ _ 22 rfl n0 3 i0 (.int .i64 0) 1 8 Try.underlying22 HInf.out HZ0.out HZ1.out HZ2.out rfl (by decide) _ _ _ rfl (hrow.alloc _) ⟨W'.heap.size, 0, none⟩ 1 1 [.int .i64 x] rfl rfl (cell_one_new _ _ _) (by simp [Value.oneCell']) (by have := HL.out; have := HDl.out; simp [maxLen]; omega) (by have := HL.out; have := HDl.out; omega) (by simp; omega) ?_; intro v' w1 hown' hgrow _; obtain ⟨g', cap', rfl⟩ := ownsRow_succ hown'; obtain ⟨hv1, hv2, hr2, hk2, hb2⟩ := hv.appended (by decide) hrow (by omega) (Nat.le_refl _) hown' hgrow; have hc1 := hv1.cell; have hf1 := hv1.frozen)
            exact ⟨hKj.trans (hk2.from _), hWj.trans hb2, ⟨_, hv2, by simpa using hr2, trivial⟩, hB.trans hb2, by simp; omega⟩
          · have hlm' : decide ((m : Int) ≤ (pre.length : Int)) = true := decide_eq_true (by omega)
            rw [hlm']
            gi_wp2_with (fail)
            exact ⟨hKj, rfl, ⟨_, hv, by simpa using hrow, trivial⟩, hB, by simp; omega⟩
      case rest =>
        rintro D xs W hD hends hK1
        obtain ⟨zs, v, hzm, hz, hv, hrow, hB⟩ : ∃ zs v, zs.length = m ∧ zs = ds.take m ∧ Boxed W n0 22 v ∧ W.ownsRow n0 3 1 v zs.length (zs.map (Value.int .i64)) ∧ Below n0 wr W := by
          rcases hends with ⟨e, ⟨v, hv, hrow, -⟩, hB, hl⟩ | ⟨he, ⟨v, hv, hrow, -⟩, hB, hl⟩
          · rw [hds] at e
            subst e
            exact ⟨xs, v, by omega, (List.take_of_length_le (by omega)).symm, hv, hrow, hB⟩
          · rw [hds] at he
            refine ⟨xs.dropLast, v, hl, ?_, hv, hrow, hB⟩
            have h1 : xs.dropLast <+: ds := (List.dropLast_prefix xs).trans he
            rw [← hl]
            exact List.prefix_iff_eq_take.1 h1
        clear hends
        obtain ⟨A, c, rfl⟩ := row_slice hrow
        obtain ⟨hzC, hzc⟩ := row_C hrow
        have h7W := blk_below h7r (hB.mono (by omega))
        have k5 := Boxed.cell (blk_below h5r (hB.mono (by omega)))
        have k7 := Boxed.cell h7W
        have k11 := hv.cell
        subst hzm
        have hCt : (Kd.int .i64).C W Pw zs.length zs := by
          have := Kd.C_take (Kd.C_below hCw (hB.mono (by omega))) hm
          rw [← hz] at this
          exact this
        have hsame : portageref0_SameInts.f (zs.length + 1) zs zs = some true := by
          rw [same_f zs zs (by have := HL.out; have := HDl.out; omega)]; simp
        clear h7W hz
        have hzd : zs.length ≤ dw := Nat.le_trans hm (by rw [hds] at hcw; exact hcw)
        gi_wp2_with (fail)
        have hwf : ∀ f, Fence.wide.fn f = True := fun _ => rfl
        gi_big_quiet_th (first | (gi_at_call 9; exact quietW (portageref0_SameInts.calls (zs.length + 1) A c zs Pw dw zs true _ (Kd.C_drewN hzC _) hzc (Kd.C_drewN hCt _) (by omega) hsame)) | (gi_at_call 8; exact quietW (portagekit_Pick.calls stop _ zs.length _ HPick.out)))
        clear hwf
        have hB' : Below n0 wr (W.drewN nq) := pw_below_drewN hB nq
        have hK' : (W.drewN nq).heap[D]? = some (.deferred (some [])) := hK1
        clear hzC hCt hrow hv k5 k7 k11 hB hK1 hsame
        revert hB' hK'
        generalize W.drewN nq = w2
        intro hB2 hK1
        obtain ⟨n1, hn1⟩ : ∃ n, w2.heap.size = n := ⟨_, rfl⟩
        have hDn : D < n1 := by have := blk_lt hK1; omega
        have hn01 : n0 ≤ n1 := by have := hB2.size; omega
        have h9 : Boxed w2 W6.heap.size 29 (.func (.func 19) #[] #[.pointer (some ⟨B1, 0, none⟩), .pointer (some ⟨B2, 0, none⟩)]) := blk_below g9r (hB2.mono (by omega))
        have h6 := blk_below h6r (hB2.mono (by omega))
        have h7 := blk_below h7r (hB2.mono (by omega))
        have hC2 := Kd.C_below hCw (hB2.mono (by omega))
        have hSq2 := hSq.below (hB2.mono (by omega))
        have hbw2 := hbw.trans (hB2.mono (by have := HLs.out; omega))
        have k9 := (h9.alloc (.cells #[.slice none 0 0] 22)).cell
        have hDw : w.heap.size ≤ D := by have := HLs.out; simp at hD; omega
        clear g9r h5r h6r h7r hCw hSq hbw hB2 HPick hB0 bO hD
        gi_wp2_with (fail)
        clear k9
        have hB02 : Below n1 w2 (w2.alloc (.cells #[.slice none 0 0] 22)) := (Below.refl _ w2).alloc (by omega) _
        have bO2 := Boxed.new w2 22 (.slice none 0 0)
        have hls2 := HLs.out
        refine Range.rangeHB n1 rfl (by decide) rfl trivial (enters_of Try.func19 (by kernel_rfl) rfl) (by simp)
          (above_stops Fence.wide 9 trivial rfl (by decide) B1 B2 n1 W5.heap.size P d l b (by have := HL.out; omega) w2 (fun W' h => hSq2.below (h.mono (by omega))) (w2.alloc (.cells #[.slice none 0 0] 22)) hB02 (by simp; omega)) (by simp; omega) (Below.refl _ _)
          (fun pre W => (∃ v, Boxed W n1 22 v ∧ W.ownsRow n1 3 1 v pre.length (pre.map (.int .i64)) ∧ True) ∧ Below n1 w2 W)
          (fun _ _ => False)
          (OwnFrom.and (Own.from (holdsRow_own n1 n1 22 3 1 (fun (pre : List Int) => pre.length) (fun (pre : List Int) => pre.map (Value.int .i64)) (fun _ _ => True)) _) (ownFrom_below (by omega) (by simp; omega)))
          (fun _ _ _ _ hs _ _ => hs)
          ⟨⟨_, by rw [← hn1]; exact bO2, World.ownsRow_nil _ _ _ _, trivial⟩, hB02⟩ ?body2 ?rest2
        case body2 =>
          rintro lp pre x W hlp ⟨r, hr⟩ ⟨⟨v, hv, hrow, -⟩, hB⟩ hlt
          rw [hds] at hlt
          obtain ⟨A1, c1, rfl⟩ := row_slice hrow
          simp only [List.setIfInBounds_toArray, List.set_cons_succ, List.set_cons_zero]
          have hc := hv.cell
          have hsz := hB.size
          gi_wp2_with (gi_at_builtin; refine wpListIn_append_own _ rfl _ _ 22 rfl n1 3 i0 (.int .i64 0) 1 8 Try.underlying22 HInf.out HZ0.out HZ1.out HZ2.out rfl (by decide) _ _ _ rfl (hrow.alloc _) ⟨W.heap.size, 0, none⟩ 1 1 [.int .i64 x] rfl rfl (cell_one_new _ _ _) (by simp [Value.oneCell']) (by have := HL.out; have := HDl.out; simp [maxLen]; omega) (by have := HL.out; have := HDl.out; omega) (by simp; omega) ?_; intro v' w1 hown' hgrow _; obtain ⟨g', cap', rfl⟩ := ownsRow_succ hown'; obtain ⟨hv1, hv2, hr2, hk2, hb2⟩ := hv.appended (by decide) hrow (by omega) (Nat.le_refl _) hown' hgrow; have hc1 := hv1.cell; have hf1 := hv1.frozen; have k9 := Boxed.cell (Boxed.alloc (blk_in hb2 (blk_in hB h9 (by omega)) (by omega)) (.cells #[.slice none 0 0] 22)))
          clear k9 hc hc1 hf1 hv1 hv hrow hgrow hown'
          have hs3 : (w1.setCell ⟨n1, 0, none⟩ (.slice (some ⟨g', 0, none⟩) (pre.length + 1) cap')).heap.size = w1.heap.size := by simp
          revert hv2 hr2 hk2 hb2 hs3
          generalize w1.setCell ⟨n1, 0, none⟩ (.slice (some ⟨g', 0, none⟩) (pre.length + 1) cap') = w3
          intro hv2 hr2 hk2 hb2 hs3
          obtain ⟨n2, hn2⟩ : ∃ n, w1.heap.size = n := ⟨_, rfl⟩
          rw [hn2] at hs3 ⊢
          have hn12 : n1 + 1 < n2 := by have := hk2.size; have := blk_lt hr; simp at hlp; omega
          have hB3 : Below n1 w2 w3 := hB.trans hb2
          have bI := Boxed.new w3 22 (.slice none 0 0)
          rw [hs3] at bI
          have hr3 : w3.heap[lp]? = some (.loop r) := hk2.same lp _ hr rfl
          have hr4 : (w3.alloc (.cells #[.slice none 0 0] 22)).heap[lp]? = some (.loop r) := (Below.heap_alloc _ _ _ (blk_lt hr3)).trans hr3
          have hB04 : Below n2 w3 (w3.alloc (.cells #[.slice none 0 0] 22)) := (Below.refl _ w3).alloc (by omega) _
          have hSq3 := hSq2.below (hB3.mono (by omega))
          refine Range.rangeN n2 (l₀ := lp) (r₀ := r) rfl hr4 (by decide) rfl trivial (enters_of Try.func19 (by kernel_rfl) rfl) (by simp)
            ((above_stops Fence.wide 7 trivial rfl (by decide) B1 B2 n2 W5.heap.size P d l b (by have := HL.out; omega) w3 (fun W' h => hSq3.below (h.mono (by omega))) (w3.alloc (.cells #[.slice none 0 0] 22)) hB04 (by simp; omega)).inRound lp) (by simp; omega) (Below.refl _ _)
            (fun pre W => (∃ v, Boxed W n2 22 v ∧ W.ownsRow n2 3 1 v pre.length (pre.map (.int .i64)) ∧ True) ∧ Below n2 w3 W)
            (fun _ _ _ => False)
            (OwnFrom.and (Own.from (holdsRow_own n2 n2 22 3 1 (fun (pre : List Int) => pre.length) (fun (pre : List Int) => pre.map (Value.int .i64)) (fun _ _ => True)) _) (ownFrom_below (by omega) (by simp; omega)))
            (fun _ _ _ _ _ hs _ _ => hs)
            ⟨⟨_, bI, World.ownsRow_nil _ _ _ _, trivial⟩, hB04⟩ ?body3 ?done3 ?stop3
          case stop3 =>
            rintro c pre' W' _ h
            exact h.elim
          case body3 =>
            rintro lp2 pre' y W' hlp2 - ⟨⟨v, hv', hrow', -⟩, hB'⟩ hlt'
            rw [hds] at hlt'
            obtain ⟨A2', c2', rfl⟩ := row_slice hrow'
            simp only [List.setIfInBounds_toArray, List.set_cons_succ, List.set_cons_zero]
            have hc := hv'.cell
            have hsz' := hB'.size
            have hnot : ¬ ((ds.length : Int) < ((pre'.length + 1 : Nat) : Int)) := by omega
            have hnot' : ¬ ((ds.length : Int) < (pre'.length : Int) + 1) := by omega
            gi_wp2_with (gi_at_builtin; refine wpListIn_append_own _ rfl _ _ 22 rfl n2 3 i0 (.int .i64 0) 1 8 Try.underlying22 HInf.out HZ0.out HZ1.out HZ2.out rfl (by decide) _ _ _ rfl (hrow'.alloc _) ⟨W'.heap.size, 0, none⟩ 1 1 [.int .i64 y] rfl rfl (cell_one_new _ _ _) (by simp [Value.oneCell']) (by have := HL.out; have := HDl.out; simp [maxLen]; omega) (by have := HL.out; have := HDl.out; omega) (by simp; omega) ?_; intro v' w4 hown4 hgrow4 _; obtain ⟨g4, cap4, rfl⟩ := ownsRow_succ hown4; obtain ⟨hv3, hv4, hr5, hk4, hb4⟩ := hv'.appended (by decide) hrow' (by omega) (Nat.le_refl _) hown4 hgrow4; have hc4 := hv3.cell; have hf4 := hv3.frozen; have k15 := hv4.cell; have k7 := Boxed.cell (blk_in hb4 (blk_in hB' (blk_in hB3 h7 (by omega)) (by omega)) (by omega)))
            refine ⟨hk4.from _, hb4, ⟨_, hv4, ?_⟩, hB'.trans hb4⟩
            simpa using hr5
          case done3 =>
            rintro zs' W' e ⟨⟨v, hv', hrow', -⟩, hB'⟩
            rw [hds] at e
            subst e
            obtain ⟨A2', c2', rfl⟩ := row_slice hrow'
            obtain ⟨hzC, hzc⟩ := row_C hrow'
            have k15 := hv'.cell
            have k13 := Boxed.cell (blk_in hB' hv2 (by omega))
            have k7 := Boxed.cell (blk_in hB' (blk_in hB3 h7 (by omega)) (by omega))
            have hCt := Kd.C_below hC2 ((hB3.trans (hB'.mono (by omega))).mono (by omega))
            have hsame : portageref0_SameInts.f (zs'.length + 1) zs' zs' = some true := by
              rw [same_f zs' zs' (by have := HL.out; have := HDl.out; omega)]; simp
            have hzd : zs'.length ≤ dw := by rw [hds] at hcw; exact hcw
            have hnot : ¬ ((zs'.length : Int) < ((pre.length + 1 : Nat) : Int)) := by omega
            have hnot' : ¬ ((zs'.length : Int) < (pre.length : Int) + 1) := by omega
            have HEnd : Aside0 (Below n2 w3 W') := Aside0.mk hB'
            clear hB' hv' hrow'
            gi_wp2_with (fail)
            refine ⟨trivial, ?_⟩
            refine ((CallsIn.inRound lp (callsIn_wide.2 (portageref0_SameInts.calls (zs'.length + 1) A2' c2' zs' Pw dw zs' true W' hzC hzc hCt hzd hsame))).mono ?_)
            rintro e w9 ⟨rfl, hd9⟩
            obtain ⟨j9, rfl⟩ := hd9.out
            clear hzC hzc hCt hsame
            gi_wp2_with (fail)
            have hbj : Below n2 w3 (W'.drewN j9) := pw_below_drewN HEnd.out j9
            have hbj3 : Below w3.heap.size w3 (W'.drewN j9) := by rw [hs3]; exact hbj
            have hr2' : w3.ownsRow n1 3 1 (.slice (some ⟨g', 0, none⟩) (pre.length + 1) cap') (pre ++ [x]).length ((pre ++ [x]).map (Value.int .i64)) := by simpa using hr2
            exact ⟨(hk2.from _).trans (from_below hbj3), hb2.trans (hbj.mono (by omega)), ⟨_, blk_in hbj hv2 (by omega), row_below hr2' hbj3, trivial⟩, hB3.trans (hbj.mono (by omega))⟩
        case rest2 =>
          rintro D2 xs W hD2 hends hK2
          obtain ⟨e, ⟨v, hv, hrow, -⟩, hB⟩ : xs = ds ∧ (∃ v, Boxed W n1 22 v ∧ W.ownsRow n1 3 1 v xs.length (xs.map (Value.int .i64)) ∧ True) ∧ Below n1 w2 W := by
            rcases hends with ⟨e, hi⟩ | ⟨_, hi⟩
            · rw [hds] at e
              exact ⟨e, hi⟩
            · exact hi.elim
          clear hends
          subst e
          obtain ⟨A2', c2', rfl⟩ := row_slice hrow
          obtain ⟨hzC, hzc⟩ := row_C hrow
          have k13 := hv.cell
          have k7 := Boxed.cell (blk_in hB h7 (by omega))
          have h6W := blk_in hB h6 (by omega)
          have k6 := Boxed.cell h6W
          have f6 := Boxed.frozen h6W
          have hCt := Kd.C_below hC2 (hB.mono (by omega))
          have hsame : portageref0_SameInts.f (xs.length + 1) xs xs = some true := by
            rw [same_f xs xs (by have := HL.out; have := HDl.out; omega)]; simp
          have hzd : xs.length ≤ dw := by rw [hds] at hcw; exact hcw
          have hK1W := blk_in hB hK1 hDn
          have hbW := hbw2.trans (hB.mono (by omega))
          have hsz := hB.size
          have HB := Aside0.mk hB
          clear hB hv hrow
          gi_wp2_with (fail)
          refine ⟨trivial, ?_⟩
          refine ((callsIn_wide.2 (portageref0_SameInts.calls (xs.length + 1) A2' c2' xs Pw dw xs true W hzC hzc hCt hzd hsame))).mono ?_
          rintro e w9 ⟨rfl, hd9⟩
          obtain ⟨j9, rfl⟩ := hd9.out
          clear hzC hzc hCt hsame
          gi_wp2_with (fail)
          have hDg : D ≠ w.heap.size + 1 + 1 := fun e => by rw [e, h6W] at hK1W; cases hK1W
          have hD2' : n1 + 1 ≤ D2 := by simp at hD2; omega
          have hD2g : D2 ≠ w.heap.size + 1 + 1 := by omega
          have hb0 : Below w.heap.size w ((W.drewN j9).setCell ⟨w.heap.size + 1 + 1, 0, none⟩ (.bool true)) := (pw_below_drewN hbW j9).setCell (p := ⟨w.heap.size + 1 + 1, 0, none⟩) (by simp; omega) _
          have hx : Boxed ((W.drewN j9).setCell ⟨w.heap.size + 1 + 1, 0, none⟩ (.bool true)) (w.heap.size + 1 + 1) 4 (.bool true) := Boxed.set (W := W.drewN j9) (.bool true) h6W
          have hK2' : ((W.drewN j9).setCell ⟨w.heap.size + 1 + 1, 0, none⟩ (.bool true)).heap[D2]? = some (.deferred (some [])) := (Below.heap_setCell (W.drewN j9) ⟨w.heap.size + 1 + 1, 0, none⟩ (.bool true) D2 hD2g).trans hK2
          have hK1' : ((W.drewN j9).setCell ⟨w.heap.size + 1 + 1, 0, none⟩ (.bool true)).heap[D]? = some (.deferred (some [])) := (Below.heap_setCell (W.drewN j9) ⟨w.heap.size + 1 + 1, 0, none⟩ (.bool true) D hDg).trans hK1W
          revert hb0 hx hK2' hK1'
          generalize (W.drewN j9).setCell ⟨w.heap.size + 1 + 1, 0, none⟩ (.bool true) = Wz
          intro hb0 hx hK2' hK1'
          have hK1z : (Wz.putObj D2 (.deferred none)).heap[D]? = some (.deferred (some [])) := (World.putObj_heap_other (by omega)).trans hK1'
          have hx1 : (Wz.putObj D2 (.deferred none)).heap[w.heap.size + 1 + 1]? = some (.cells #[.bool true] 4 (0, 0)) := (World.putObj_heap_other (by omega)).trans hx
          have hx2 : Boxed ((Wz.putObj D2 (.deferred none)).putObj D (.deferred none)) (w.heap.size + 1 + 1) 4 (.bool true) := (World.putObj_heap_other (by omega)).trans hx1
          refine ⟨by simp, .inl ⟨_, _, rfl, run_takeDeferred hK2', ⟨by simp, .inl ⟨_, _, rfl, run_takeDeferred hK1z, ?_⟩⟩⟩⟩
          refine ⟨_, results_cell1 rfl _ _ ⟨w.heap.size + 1 + 1, 0, none⟩ true rfl hx2.cell, rfl, ?_⟩
          exact (hb0.trans (belowK_b (w := w) (Nat.le_refl _) Wz D2 _ _ (by omega) hK2' rfl rfl)).trans (belowK_b (w := w) (Nat.le_refl _) _ D _ _ hDw hK1z rfl rfl)
theorem portagelaw09_GraphWalks.calls (A0 : Option Addr) (c0 : Nat) (l0 : List Int) (A1 : Option Addr) (c1 : Nat) (l1 : List (List Int)) (A2 : Option Addr) (c2 : Nat) (l2 : List Int) (A3 : Option Addr) (c3 : Nat) (l : List Int) (A4 : Option Addr) (c4 : Nat) (l4 : List Int) (b stop : Int) (r : Bool) (w : World) (hr0 : Kd.C (Kd.int .i64) w A0 l0.length l0) (hc0 : l0.length ≤ c0) (hr1 : Kd.C (Kd.slice 3 (Kd.int .i64)) w A1 l1.length l1) (hc1 : l1.length ≤ c1) (hr2 : Kd.C (Kd.int .i64) w A2 l2.length l2) (hc2 : l2.length ≤ c2) (hr3 : Kd.C (Kd.int .i64) w A3 l.length l) (hc3 : l.length ≤ c3) (hr4 : Kd.C (Kd.int .i64) w A4 l4.length l4) (hc4 : l4.length ≤ c4) (h : l.length * 8 ≤ 140737488351232 ∧ r = true) :
    Calls Try.prog 3 #[.agg #[.slice A0 l0.length c0, .slice A1 l1.length c1, .slice A2 l2.length c2, .slice A3 l.length c3, .slice A4 l4.length c4], .int .i64 b, .int .i64 stop] w fun e w' => e = .returned (.bool r) ∧ Below w.heap.size w w' := by
  obtain ⟨hl, rfl⟩ := h
  exact walks A0 A1 A2 A3 A4 c0 c1 c2 c3 c4 l0 l1 l2 l l4 b stop w hr0 hc0 hr1 hc1 hr2 hc2 hr3 hc3 hr4 hc4 hl
end Go.Proofs.Ytplppefpohjkbaa.PGr
