/- CopiesRun, the row: the law returns true, and the input reads as it did. For every input of a bulk of at most 1048576. -/
import Derived.Test.YtjekpkpmoanadaaCr4
import Derived.Test.YtjekpkpmoanadaaRows
/- portageref22.block: its contract: what copies.Run's block is, plainly. For every world. -/
namespace Go.Proofs.Ytjekpkpmoanadaa.PCop
open Go.RowKit Go.Proofs.Ytjekpkpmoanadaa.FarKd Go.Proofs.Ytjekpkpmoanadaa.Lit Go.Proofs.Ytjekpkpmoanadaa.OwnCells Go.Proofs.YtjekpkpmoanadaaW.PrintWords Go.Proofs.YtjekpkpmoanadaaW.PrintLast Go.Proofs.YtjekpkpmoanadaaW.PrintMore
set_option linter.unusedVariables false
set_option linter.unusedSimpArgs false
theorem RegInv.op_unwanted {P : Program} {ops : Array Oper} {Q : Exit → Act → World → Prop} {i : Nat} {o : Oper} {K : Act → World → Prop} {a : Act} {w : World} (hi : ops[i]? = some o) (hg : Region.wanted o (yielded ops a.tmps) = false) (h : K (a.put o.dst undef) w) : wpOp P ops Q i K a w := by
  unfold wpOp
  rw [hi]
  simp only
  rw [if_neg (by rw [hg]; decide)]
  exact h
theorem RegInv.wanted_not {ops : Array Oper} {o : Oper} {a : Act} {g : Nat} {b : Bool} {v : Value} (t : Tmp) (hg : o.guard = some (g, b)) (hd : (ops[g]?).bind (·.dst) = some t) (hv : a.tmps.getD t undef = v) (hne : v ≠ .bool b) : Region.wanted o (yielded ops a.tmps) = false := by
  unfold Region.wanted yielded
  rw [hg]
  simp only
  rw [hd]
  simp only [Option.bind_some]
  rw [Array.getD_eq_getD_getElem?] at hv
  cases hx : a.tmps[t]? with
  | none => simp
  | some u =>
    rw [hx] at hv
    simp only [Option.getD_some] at hv
    subst hv
    cases u <;> simp
    exact fun he => hne (by rw [he])
/-! copies, plainly -/
theorem rd49_at {L : List S49} {p : Nat} (h : p < L.length) : rd_T49 L (p : Int) = L[p] := by
  unfold rd_T49; rw [Int.toNat_natCast, List.getD_eq_getElem?_getD, List.getElem?_eq_getElem h]; rfl
theorem rd65_at {L : List S65} {p : Nat} (h : p < L.length) : rd_T65 L (p : Int) = L[p] := by
  unfold rd_T65; rw [Int.toNat_natCast, List.getD_eq_getElem?_getD, List.getElem?_eq_getElem h]; rfl
theorem co_l0 (A : List S49) (hA : A.length < 8796093022208) : ∀ (n p : Nat), p + n = A.length → ∀ k, n + 1 ≤ k → portageref0_CopyOpnds.l0 k A (A.take p) (p : Int) = some A
  | _, _, _, 0, hk => absurd hk (by omega)
  | 0, p, hp, k + 1, _ => by
    rw [portageref0_CopyOpnds.l0, if_neg (by omega), List.take_of_length_le (by omega)]
  | n + 1, p, hp, k + 1, hk => by
    have hlt : p < A.length := by omega
    have ih := co_l0 A hA n (p + 1) (by omega) k (by omega)
    rw [List.take_succ_eq_append_getElem hlt] at ih
    rw [portageref0_CopyOpnds.l0, if_pos (by omega), if_pos (by omega), if_pos (by rw [List.length_take]; omega), rd49_at hlt, show wrap64 ((p : Int) + 1) = ((p + 1 : Nat) : Int) by unfold wrap64; omega]
    exact ih
theorem co_f (A : List S49) (hA : A.length < 8796093022208) {k : Nat} (hk : A.length + 1 ≤ k) : portageref0_CopyOpnds.f k A = some A := co_l0 A hA A.length 0 (by omega) k hk
theorem cs_l0 (A : List S65) (hA : A.length < 3518437208883) (hs : ∀ s ∈ A, s.f2.length < 8796093022208) : ∀ (n p : Nat), p + n = A.length → ∀ k, n + 8796093022210 ≤ k → portageref0_CopyShapes.l0 k A (A.take p) (p : Int) = some A
  | _, _, _, 0, hk => absurd hk (by omega)
  | 0, p, hp, k + 1, _ => by
    rw [portageref0_CopyShapes.l0, if_neg (by omega), List.take_of_length_le (by omega)]
  | n + 1, p, hp, k + 1, hk => by
    have hlt : p < A.length := by omega
    have hm := hs A[p] (List.getElem_mem hlt)
    have ih := cs_l0 A hA hs n (p + 1) (by omega) k (by omega)
    rw [List.take_succ_eq_append_getElem hlt] at ih
    rw [portageref0_CopyShapes.l0, if_pos (by omega), if_pos (by omega), rd65_at hlt, co_f _ hm (by omega), Option.bind_some, if_pos (by rw [List.length_take]; omega), show wrap64 ((p : Int) + 1) = ((p + 1 : Nat) : Int) by unfold wrap64; omega]
    exact ih
theorem ci_f (x : S47) (h : OkX x) : portageref0_CopyIns.f 17592186044500 x.f0 x.f1 x.f2 x.f3 x.f4 x.f5 x.f6 x.f7 = some (x.f0, x.f1, x.f2, x.f3, x.f4, x.f5, x.f6, x.f7) := by
  have h1 := h.args
  have h2 := h.exit
  unfold portageref0_CopyIns.f
  rw [co_f _ (by omega) (by omega), Option.bind_some]
  have : portageref0_CopyShapes.f 17592186044500 x.f7 = some x.f7 := cs_l0 x.f7 (by omega) (fun s hs => by have := h.slots s hs; omega) x.f7.length 0 (by omega) _ (by omega)
  rw [this, Option.bind_some]
/-- turned, by the map -/
theorem turned.calls_ (AV : Option Addr) (cV : Nat) (out : List S47) (A2 : Option Addr) (c2 : Nat) (l : List S49) (w : World) (h1 : k47.C w AV out.length out) (l1 : out.length ≤ cV) (h2 : k49.C w A2 l.length l) (l2 : l.length ≤ c2) (ho : out.length ≤ 4611686018427387904) (hl : l.length * 16 ≤ 140737488351232) :
    Calls Try.prog 41 #[.slice AV out.length cV, .slice A2 l.length c2] w fun e w' => ∃ v, e = .returned v ∧ k49.R 49 w' w.heap.size (fun _ => True) v (l.map (ask (knownS out))) ∧ Below w.heap.size w w' :=
  portageref22_turned.calls (l.length + 3 + 2 * out.length) AV cV out A2 c2 l _ w h1 l1 h2 l2 (ta_f out l ho (by omega) (Nat.le_refl _))
/-- the rows of a list, as9 they are -/
theorem raw_of {α : Type} {d : Kd α} {e base : Nat} {ok : Nat → Prop} {w : World} {v : Value} {xs : List α} (h : d.R e w base ok v xs) : ∃ rows : List (List Value), (Kd.raw d.sz).R e w base (fun _ => True) v rows ∧ rows.length = xs.length ∧ ∀ (j : Nat) (x : α) (cs : List Value), xs[j]? = some x → rows[j]? = some cs → d.K w x cs := by
  obtain ⟨h0, inner, ho, hr⟩ := h
  refine ⟨Kd.chunks d.sz xs.length inner, ⟨fun _ _ => trivial, inner, by rw [Kd.chunks_length]; exact ho, Kd.reps_raw hr (fun x c hp => ⟨d.K_len (d.K_of_M hp), d.K_one (d.K_of_M hp)⟩)⟩, Kd.chunks_length _ _ _, fun j x c hx hc => ?_⟩
  rw [Kd.chunks_get hc]
  exact d.K_of_M (hr.2 j x hx)
def mvB (f0 : Int) (n : Nat) (f2 : Int) : Bool := if f0 = 1 then (if n = 1 then f2 != -1 else false) else false
theorem moves.calls_ (f0 f1 f2 f4 f5 f6 : Int) (PA P7 : Option Addr) (n3 d3 n7 d7 : Nat) (xa : List S49) (xe : List S65) (w : World) (hn3 : n3 = xa.length) (hn7 : n7 = xe.length) (h3 : k49.C w PA xa.length xa) (l3 : xa.length ≤ d3) (h7 : k65.C w P7 xe.length xe) (l7 : xe.length ≤ d7) :
    Calls Try.prog 42 #[.agg #[.int .i64 f0, .int .i64 f1, .int .i64 f2, .slice PA n3 d3, .int .i64 f4, .int .i64 f5, .int .i64 f6, .slice P7 n7 d7]] w fun e w' => e = .returned (.bool (mvB f0 n3 f2)) ∧ Below w.heap.size w w' := by
  subst hn3 hn7
  refine portageref22_moves.calls f0 f1 f2 PA d3 xa f4 f5 f6 P7 d7 xe _ w h3 l3 h7 l7 ?_
  unfold portageref22_moves.f mvB
  by_cases h0 : f0 = 1
  · rw [if_pos h0, if_pos h0]
    by_cases h1 : xa.length = 1
    · rw [if_pos (by omega), if_pos h1]
    · rw [if_neg (by omega), if_neg h1]
  · rw [if_neg h0, if_neg h0]
theorem step_app {M : Map49} {out : List S47} {x : S47} (h : x.f2 = -1 ∨ movesOf (turn47 M x) ≠ some ⟨0, x.f2⟩) : (stepS (M, out) x).2 = out ++ [turn47 M x] := by
  unfold stepS
  by_cases h0 : x.f2 = -1
  · rw [if_pos h0]
  · rw [if_neg h0, if_neg (h.resolve_left h0)]
theorem step_skip {M : Map49} {out : List S47} {x : S47} (h0 : x.f2 ≠ -1) (h : movesOf (turn47 M x) = some ⟨0, x.f2⟩) : (stepS (M, out) x).2 = out := by
  unfold stepS
  rw [if_neg h0, if_pos h]
theorem stAt_known (l : List S47) (k : Nat) : (stAt l k).1 = knownS (stAt l k).2 := fold_known (l.take k) (noMap, []) known_nil
def dBA : Nat → Option Tmp
  | 0 => some 50
  | 1 => some 51
  | 2 => some 52
  | 3 => some 53
  | 4 => some 54
  | 5 => some 55
  | 6 => some 56
  | 7 => some 57
  | 8 => some 58
  | 9 => some 59
  | 10 => some 60
  | 11 => some 61
  | 12 => some 7
  | _ => none
def FBA (x : S47) (oo : S49) (g5 gA dA d7 : Nat) (PA P7 : Option Addr) : Nat → World → Value → Prop
  | 0, _, v => v = .agg #[.int .i64 x.f0, .int .i64 x.f1, .int .i64 x.f2, .slice (some ⟨gA, 0, none⟩) 1 dA, .int .i64 x.f4, .int .i64 x.f5, .int .i64 x.f6, .slice P7 x.f7.length d7]
  | 1, _, v => v = .bool true
  | 2, _, v => v = .bool true
  | 3, _, v => v = .pointer (some ⟨g5, 3, none⟩)
  | 4, _, v => v = .slice (some ⟨gA, 0, none⟩) 1 dA
  | 5, _, v => v = .pointer (some ⟨gA, 0, none⟩)
  | 6, _, v => v = .agg #[.int .i64 oo.f0, .int .i64 oo.f1]
  | 7, _, v => v = .pointer (some ⟨g5, 2, none⟩)
  | 8, _, v => v = .int .i64 x.f2
  | 9, _, v => v = .agg #[.int .i64 0, .int .i64 x.f2]
  | 10, _, v => v = .bool (oo.f0 == 0 && oo.f1 == x.f2)
  | 11, _, v => v = .bool (oo.f0 == 0 && oo.f1 == x.f2)
  | 12, _, v => v = .bool (oo.f0 == 0 && oo.f1 == x.f2)
  | _, _, _ => True
theorem FBA_below (x : S47) (oo : S49) (g5 gA dA d7 : Nat) (PA P7 : Option Addr) (i : Nat) (w w1 : World) (v : Value) (h : FBA x oo g5 gA dA d7 PA P7 i w v) (hb : Below w.heap.size w w1) : FBA x oo g5 gA dA d7 PA P7 i w1 v := by
  match i with
  | 0 | 1 | 2 | 3 | 4 | 5 | 6 | 7 | 8 | 9 | 10 | 11 | 12 => exact h
  | (n + 13) => exact h
def dBB : Nat → Option Tmp
  | 0 => some 50
  | 1 => some 51
  | 2 => some 52
  | 3 => some 53
  | 4 => some 54
  | 5 => some 55
  | 6 => some 56
  | 7 => some 57
  | 8 => some 58
  | 9 => some 59
  | 10 => some 60
  | 11 => some 61
  | 12 => some 7
  | _ => none
def FBB (x : S47) (oo : S49) (g5 gA dA d7 : Nat) (PA P7 : Option Addr) : Nat → World → Value → Prop
  | 0, _, v => v = .agg #[.int .i64 x.f0, .int .i64 x.f1, .int .i64 x.f2, .slice PA x.f3.length dA, .int .i64 x.f4, .int .i64 x.f5, .int .i64 x.f6, .slice P7 x.f7.length d7]
  | 1, _, v => v = .bool false
  | 2, _, v => v = .bool false
  | 3, _, v => v = undef
  | 4, _, v => v = undef
  | 5, _, v => v = undef
  | 6, _, v => v = undef
  | 7, _, v => v = undef
  | 8, _, v => v = undef
  | 9, _, v => v = undef
  | 10, _, v => v = undef
  | 11, _, v => v = .bool false
  | 12, _, v => v = .bool false
  | _, _, _ => True
theorem FBB_below (x : S47) (oo : S49) (g5 gA dA d7 : Nat) (PA P7 : Option Addr) (i : Nat) (w w1 : World) (v : Value) (h : FBB x oo g5 gA dA d7 PA P7 i w v) (hb : Below w.heap.size w w1) : FBB x oo g5 gA dA d7 PA P7 i w1 v := by
  match i with
  | 0 | 1 | 2 | 3 | 4 | 5 | 6 | 7 | 8 | 9 | 10 | 11 | 12 => exact h
  | (n + 13) => exact h
def dB10 : Nat → Option Tmp
  | 0 => some 34
  | 1 => some 35
  | 2 => some 36
  | 3 => some 37
  | 4 => some 38
  | 5 => some 39
  | 6 => some 40
  | 7 => some 41
  | 8 => some 42
  | 9 => some 43
  | 10 => some 44
  | 11 => some 45
  | 12 => some 46
  | 13 => some 47
  | 14 => some 48
  | 15 => some 49
  | _ => none
def FB10 (base N : Nat) (M : Map49) (sh : S65) (x : S47) (g5 g7 kk k nl no : Nat) (d7 c1 cV : Nat) (AV : Option Addr) (a1 : Addr) (A7 : Option Addr) (c7 : Nat) (ads : Addr) (A2 : Option Addr) (c2 : Nat) : Nat → World → Value → Prop
  | 0, _, v => v = .pointer (some ⟨g5, 7, none⟩)
  | 1, _, v => v = .slice (some ⟨g7, 0, none⟩) x.f7.length d7
  | 2, _, v => v = .int .i64 (kk : Int)
  | 3, _, v => v = .slice AV no cV
  | 4, _, v => v = .slice (some a1) nl c1
  | 5, _, v => v = .int .i64 (k : Int)
  | 6, _, v => v = .pointer (some (a1.add (k * 8)))
  | 7, _, v => v = .pointer (some ⟨(a1.add (k * 8)).block, (a1.add (k * 8)).off + 7, none⟩)
  | 8, _, v => v = .slice A7 x.f7.length c7
  | 9, _, v => v = .int .i64 (kk : Int)
  | 10, _, v => v = .pointer (some (ads.add (kk * 3)))
  | 11, _, v => v = .pointer (some ⟨(ads.add (kk * 3)).block, (ads.add (kk * 3)).off + 2, none⟩)
  | 12, _, v => v = .slice A2 sh.f2.length c2
  | 13, w, v => AskRow M sh base g7 N w v
  | 14, _, v => v = .pointer (some ⟨g7, kk * 3, none⟩)
  | 15, _, v => v = .pointer (some ⟨g7, kk * 3 + 2, none⟩)
  | _, _, _ => True
theorem FB10_below (base N : Nat) (M : Map49) (sh : S65) (x : S47) (g5 g7 kk k nl no : Nat) (d7 c1 cV : Nat) (AV : Option Addr) (a1 : Addr) (A7 : Option Addr) (c7 : Nat) (ads : Addr) (A2 : Option Addr) (c2 : Nat) (i : Nat) (w w1 : World) (v : Value) (h : FB10 base N M sh x g5 g7 kk k nl no d7 c1 cV AV a1 A7 c7 ads A2 c2 i w v) (hb : Below w.heap.size w w1) : FB10 base N M sh x g5 g7 kk k nl no d7 c1 cV AV a1 A7 c7 ads A2 c2 i w1 v := by
  match i with
  | 0 | 1 | 2 | 3 | 4 | 5 | 6 | 7 | 8 | 9 | 10 | 11 | 12 | 14 | 15 => exact h
  | 13 => exact h.below hb
  | (n + 16) => exact h
set_option maxHeartbeats 8000000 in
set_option maxRecDepth 100000 in
theorem refblock_calls (A1 : Option Addr) (c1 : Nat) (l : List S47) (w : World) (hl : k47.C w A1 l.length l) (hcl : l.length ≤ c1) (hlen : l.length * 96 ≤ 140737488351232) (hok : ∀ x ∈ l, OkX x) :
    Calls Try.prog 25 #[.slice A1 l.length c1] w fun e w' => ∃ v, e = .returned v ∧ k47.R 47 w' w.heap.size (fun _ => True) v (stAt l l.length).2 ∧ Below w.heap.size w w' := by
  have HL := Aside0.mk hl
  have HCL := Aside0.mk hcl
  have HOK := Aside0.mk hok
  have HN := Aside0.mk hlen
  have hl31 : l.length ≤ 4398046511104 := by omega
  clear hl hcl hok hlen
  go_enter Try.func25, Try.ntmps25
  go_wp2
  go_loopw [3, 4, 5, 6, 7] (fun V t _ _ _ wr => ∃ k : Nat, k ≤ l.length ∧ t = .int .i64 k ∧ k47.R 47 wr w.heap.size (fun _ => True) V (stAt l k).2 ∧ Below w.heap.size w wr) (fun _ t _ _ _ _ => l.length - (intOf t).toNat)
  case atStart => exact ⟨0, Nat.zero_le _, rfl, Kd.R_nil _ _ _ _ _, Below.refl _ _⟩
  case round =>
    obtain ⟨k, hk, rfl, hR, hb⟩ := hrel
    obtain ⟨AV, cV, rfl, hcV, hCV⟩ := Kd.R_reads hR
    have HR := Aside0.mk hR
    have HCV := Aside0.mk (And.intro hCV hcV)
    have HB := Aside0.mk hb
    have HLO := Aside0.mk (stAt_len l k)
    by_cases hlt : k < l.length
    · obtain ⟨a1, A3, c3, A7, c7, rfl, x0, x1, x2, x3, x4, x5, x6, x7, l3, g3, l7, g7⟩ := at_T47 (Kd.C_below HL.out hb) (k : Int) (by omega) (by omega)
      rw [Int.toNat_natCast] at x0 x1 x2 x3 x4 x5 x6 x7
      have HX := Aside0.mk (HOK.out _ (List.mem_of_getElem? (List.getElem?_eq_getElem hlt)))
      have HST := Aside0.mk (show (stAt l (k + 1)).2 = (stepS (knownS (stAt l k).2, (stAt l k).2) l[k]).2 by rw [stAt_succ (List.getElem?_eq_getElem hlt), ← stAt_known])
      rw [← rd47_at hlt] at HX HST
      generalize rd_T47 l (k : Int) = x at *
      have HM := Aside0.mk (stAt_known l k)
      generalize hou : (stAt l k).2 = out at *
      clear hou
      have G3 := Aside0.mk (And.intro g3 l3)
      have G7 := Aside0.mk (And.intro g7 l7)
      have X3 := Aside0.mk x3
      have X7 := Aside0.mk x7
      clear hR hb g3 l3 g7 l7 hCV hcV
      go_wp2_with (fail)
      refine (portageref0_CopyIns.calls 17592186044500 x.f0 x.f1 x.f2 A3 c3 x.f3 x.f4 x.f5 x.f6 A7 c7 x.f7 _ _ _ _ _ _ _ _ wr G3.out.1 G3.out.2 G7.out.1 G7.out.2 (ci_f x HX.out)).mono ?_
      rintro e w2 ⟨v3, v7, rfl, hR3, hS7, b2⟩
      clear x0 x1 x2 x3 x4 x5 x6 x7
      obtain ⟨P3, d3, rfl⟩ := Kd.R_slice hR3
      obtain ⟨P7, d7, rfl, _⟩ := Kd.S_reads hS7
      go_upto_region 6 with (fail)
      have b3 := below_alloc (Below.refl _ w2) (.cells #[.int .i64 x.f0, .int .i64 x.f1, .int .i64 x.f2, .slice P3 x.f3.length d3, .int .i64 x.f4, .int .i64 x.f5, .int .i64 x.f6, .slice P7 x.f7.length d7] 47)
      have K5 := blk_new w2 (.cells #[.int .i64 x.f0, .int .i64 x.f1, .int .i64 x.f2, .slice P3 x.f3.length d3, .int .i64 x.f4, .int .i64 x.f5, .int .i64 x.f6, .slice P7 x.f7.length d7] 47)
      have HG5 := Aside0.mk b2.size
      obtain ⟨rows, hraw, hrl, hrK⟩ := raw_of (Kd.S_R hS7)
      have HT := Aside0.mk (And.intro (Kd.R_below hraw b3) (And.intro hrl hrK))
      have HB3 := Aside0.mk (wB b2 b3)
      have HNW := Aside0.mk (HB3.out.size)
      generalize w2.alloc (.cells #[.int .i64 x.f0, .int .i64 x.f1, .int .i64 x.f2, .slice P3 x.f3.length d3, .int .i64 x.f4, .int .i64 x.f5, .int .i64 x.f6, .slice P7 x.f7.length d7] 47) = w3 at *
      generalize w2.heap.size = g5 at *
      have HK5 := Aside0.mk K5
      have x3 := pw_cell_below HB3.out X3.out
      clear hR3 hS7 b2 b3 hraw hrl hrK K5
      go_wp2_with (fail)
      refine (turned.calls_ AV cV out A3 c3 x.f3 w3 (Kd.C_below HCV.out.1 HB3.out) HCV.out.2 (Kd.C_below G3.out.1 HB3.out) G3.out.2 (by have := HLO.out; omega) HX.out.args).mono ?_
      rintro e w4 ⟨vA, rfl, hRA, b4⟩
      obtain ⟨PA, dA, rfl⟩ := Kd.R_slice hRA
      rw [List.length_map] at hRA ⊢
      clear x3
      have y3 : w4.cell? ⟨g5, 3, none⟩ = some (.slice P3 x.f3.length d3) := blk_cell (blk_below HK5.out b4) 3
      have f3 := blk_frozen (blk_below HK5.out b4) 3
      go_upto_region 7 with (fail)
      have hk5 := blk_below HK5.out b4
      have HK6 := Aside0.mk (blk_put hk5 3 (.slice PA x.f3.length dA) (cs' := #[.int .i64 x.f0, .int .i64 x.f1, .int .i64 x.f2, .slice PA x.f3.length dA, .int .i64 x.f4, .int .i64 x.f5, .int .i64 x.f6, .slice P7 x.f7.length d7]) rfl)
      have HRA6 := Aside0.mk (Kd.R_set (Kd.R_lower hRA HNW.out) hk5 (by decide) 3 (.slice PA x.f3.length dA))
      have HB46 := Aside0.mk (wB HB3.out b4)
      have HO6 := Aside0.mk (Kd.R_far (p := ⟨g5, 3, none⟩) (Kd.R_old HR.out HB46.out) (fun q hq => by have := hq.2; have := HG5.out; show q ≠ g5; omega) (.slice PA x.f3.length dA))
      have HT6 := Aside0.mk (TurnV.of_raw (M := knownS out) (Kd.R_set (Kd.R_below HT.out.1 b4) hk5 (by decide) 3 (.slice PA x.f3.length dA)) HT.out.2.1 HT.out.2.2)
      have HB6 := Aside0.mk (below_set (j := 3) (v := .slice PA x.f3.length dA) HB46.out HG5.out)
      clear y3 f3 hRA hk5 b4 HT HK5 HB46 HB3 HNW
      generalize w4.setCell ⟨g5, 3, none⟩ (.slice PA x.f3.length dA) = w6 at *
      go_wp2_with (fail)
      obtain ⟨n0, hn0⟩ : ∃ n0, n0 = wr.heap.size := ⟨_, rfl⟩
      obtain ⟨wo, rfl⟩ : ∃ wo : World, wo = wr := ⟨_, rfl⟩
      rw [← hn0] at HO6 HT6 HRA6 HG5
      go_loopw [6] (fun t wr => ∃ kk : Nat, kk ≤ x.f7.length ∧ t = .int .i64 (kk : Int) ∧ (∃ Nn, TurnV w2 (knownS out) x.f7 n0 (.slice P7 x.f7.length d7) Nn kk wr) ∧ k49.R 49 wr n0 (fun _ => True) (.slice PA x.f3.length dA) (x.f3.map (ask (knownS out))) ∧ k47.R 47 wr w.heap.size (fun q => q < n0) (.slice AV out.length cV) out ∧ wr.heap[g5]? = some (.cells #[.int .i64 x.f0, .int .i64 x.f1, .int .i64 x.f2, .slice PA x.f3.length dA, .int .i64 x.f4, .int .i64 x.f5, .int .i64 x.f6, .slice P7 x.f7.length d7] 47 (0, 0)) ∧ Below wo.heap.size wo wr) (fun t _ => x.f7.length - (intOf t).toNat)
      case atStart => exact ⟨0, Nat.zero_le _, rfl, ⟨_, HT6.out⟩, HRA6.out, Kd.R_mono HO6.out (fun q hq => hq.2), HK6.out, HB6.out⟩
      case round =>
        obtain ⟨kk, hkk, rfl, ⟨N5, iT⟩, iA, iO, iK, iB⟩ := hrel
        have HT7 := Aside0.mk iT
        have HA7 := Aside0.mk iA
        have HO7 := Aside0.mk iO
        have HK7 := Aside0.mk iK
        have HB7 := Aside0.mk iB
        have hle7 : x.f7.length ≤ 3518437208783 := by have := HX.out.exit; omega
        by_cases hlt7 : kk < x.f7.length
        · have y7 : wr.cell? ⟨g5, 7, none⟩ = some (.slice P7 x.f7.length d7) := blk_cell iK 7
          rcases iT.round with ⟨g7, cap7, eV, hgb, ⟨cl, hcl⟩, iT2⟩ | ⟨e0, _⟩
          rotate_left 1
          · rw [e0] at hlt7; exact absurd hlt7 (by simp)
          injection eV with e1 _ e3
          subst e1
          subst e3
          obtain ⟨ads, A2, c2, hA7, _, _, z2, l2, g2⟩ := at_T65 (Kd.C_below G7.out.1 iB) (kk : Int) (by omega) (by omega)
          subst hA7
          rw [Int.toNat_natCast] at z2
          have hm := List.mem_of_getElem? (rd_T65_at hlt7)
          have HS := Aside0.mk (rd_T65_at hlt7)
          have hsl := HX.out.slots _ hm
          generalize rd_T65 x.f7 (kk : Int) = sh at *
          have X0 : ∀ w8, Below wr.heap.size wr w8 → w8.cell? ⟨g5, 7, none⟩ = some (.slice (some ⟨g7, 0, none⟩) x.f7.length d7) := fun w8 b => blk_cell (blk_below HK7.out b) 7
          have X1 : ∀ w8, Below wr.heap.size wr w8 → w8.cell? ⟨(a1.add (k * 8)).block, (a1.add (k * 8)).off + 7, none⟩ = some (.slice (some ads) x.f7.length c7) := fun w8 b => pw_cell_below (wB HB7.out b) X7.out
          have X2 : ∀ w8, Below wr.heap.size wr w8 → w8.cell? ⟨(ads.add (kk * 3)).block, (ads.add (kk * 3)).off + 2, none⟩ = some (.slice A2 sh.f2.length c2) := fun w8 b => pw_cell_below b z2
          have XS := Aside0.mk (And.intro g2 (And.intro l2 hsl))
          have XV := Aside0.mk (And.intro (Kd.R_reads' iO).2.2 (Kd.R_reads' iO).2.1)
          have XL := Aside0.mk (show out.length ≤ 4611686018427387904 by have := HLO.out; omega)
          have HNW := Aside0.mk (show n0 ≤ wr.heap.size by rw [hn0]; exact iB.size)
          have HCL7 := Aside0.mk hcl
          have GL : Aside0 (g7 < wr.heap.size) := ⟨blk_lt hcl⟩
          have HX3 := Aside0.mk (And.intro X0 (And.intro X1 X2))
          have HIT := Aside0.mk iT2
          have HGB := Aside0.mk hgb
          clear X0 X1 X2 z2 hm hsl g2 l2 iT iT2 iA iO iK iB hcl hgb
          go_wp2_with (fail)
          clear y7
          rename ∀ (a : Act) (w : World), _ → _ => hK
          refine RegInv.region_last2 (by kernel_rfl) (by kernel_rfl) (fun a b => Below a.heap.size a b) (fun a b c h k => wB h k) (below_drew1 (Below.refl _ _)) dB10 16 (by kernel_rfl) (by kernel_rfl) (by kernel_rfl) (by kernel_rfl) (FB10 n0 wr.heap.size (knownS out) sh x g5 g7 kk k l.length out.length d7 c1 cV AV a1 (some ads) c7 ads A2 c2) (FB10_below n0 wr.heap.size (knownS out) sh x g5 g7 kk k l.length out.length d7 c1 cV AV a1 (some ads) c7 ads A2 c2) ?hsB10 ?heB10
          case hsB10 =>
            clear hK
            intro i o aX w8 hlt hi hM
            have hExt := hM.ext
            obtain ⟨X0, X1, X2⟩ := HX3.out
            rcases i with _ | _ | _ | _ | _ | _ | _ | _ | _ | _ | _ | _ | _ | _ | _ | _ | i
            · cases hi
              have h5 := gdq _ _ _ (show aX.tmps.getD 5 undef = .pointer (some ⟨g5, 0, none⟩) from hM.off 5 (by kernel_rfl))
              refine RegInv.op_value (by rfl) rfl (v := .pointer (some ⟨g5, 7, none⟩)) (w' := w8) ?_ ⟨_, rfl, rfl, Below.refl _ _⟩
              unfold execOp
              go_simp
            · cases hi
              have y := X0 w8 hExt
              have h34 := gdq _ _ _ (show aX.tmps.getD 34 undef = .pointer (some ⟨g5, 7, none⟩) from hM.at_ 0 (by decide) (by kernel_rfl))
              refine RegInv.op_value (by rfl) rfl (v := .slice (some ⟨g7, 0, none⟩) x.f7.length d7) (w' := w8) ?_ ⟨_, rfl, rfl, Below.refl _ _⟩
              unfold execOp
              go_simp
            · cases hi
              have h6 := gdq _ _ _ (show aX.tmps.getD 6 undef = .int .i64 (kk : Int) from hM.off 6 (by kernel_rfl))
              refine RegInv.op_value (by rfl) rfl (v := .int .i64 (kk : Int)) (w' := w8) ?_ ⟨_, rfl, rfl, Below.refl _ _⟩
              unfold execOp
              go_simp
            · cases hi
              have h3 := gdq _ _ _ (show aX.tmps.getD 3 undef = .slice AV out.length cV from hM.off 3 (by kernel_rfl))
              refine RegInv.op_value (by rfl) rfl (v := .slice AV out.length cV) (w' := w8) ?_ ⟨_, rfl, rfl, Below.refl _ _⟩
              unfold execOp
              go_simp
            · cases hi
              have h0 := gdq _ _ _ (show aX.tmps.getD 0 undef = .slice (some a1) l.length c1 from hM.off 0 (by kernel_rfl))
              refine RegInv.op_value (by rfl) rfl (v := .slice (some a1) l.length c1) (w' := w8) ?_ ⟨_, rfl, rfl, Below.refl _ _⟩
              unfold execOp
              go_simp
            · cases hi
              have h4 := gdq _ _ _ (show aX.tmps.getD 4 undef = .int .i64 (k : Int) from hM.off 4 (by kernel_rfl))
              refine RegInv.op_value (by rfl) rfl (v := .int .i64 (k : Int)) (w' := w8) ?_ ⟨_, rfl, rfl, Below.refl _ _⟩
              unfold execOp
              go_simp
            · cases hi
              have h38 := gdq _ _ _ (show aX.tmps.getD 38 undef = .slice (some a1) l.length c1 from hM.at_ 4 (by decide) (by kernel_rfl))
              have h39 := gdq _ _ _ (show aX.tmps.getD 39 undef = .int .i64 (k : Int) from hM.at_ 5 (by decide) (by kernel_rfl))
              refine RegInv.op_value (by rfl) rfl (v := .pointer (some (a1.add (k * 8)))) (w' := w8) ?_ ⟨_, rfl, rfl, Below.refl _ _⟩
              unfold execOp
              go_simp
            · cases hi
              have h40 := gdq _ _ _ (show aX.tmps.getD 40 undef = .pointer (some (a1.add (k * 8))) from hM.at_ 6 (by decide) (by kernel_rfl))
              refine RegInv.op_value (by rfl) rfl (v := .pointer (some ⟨(a1.add (k * 8)).block, (a1.add (k * 8)).off + 7, none⟩)) (w' := w8) ?_ ⟨_, rfl, rfl, Below.refl _ _⟩
              unfold execOp
              go_simp
            · cases hi
              have y := X1 w8 hExt
              have h41 := gdq _ _ _ (show aX.tmps.getD 41 undef = .pointer (some ⟨(a1.add (k * 8)).block, (a1.add (k * 8)).off + 7, none⟩) from hM.at_ 7 (by decide) (by kernel_rfl))
              refine RegInv.op_value (by rfl) rfl (v := .slice (some ads) x.f7.length c7) (w' := w8) ?_ ⟨_, rfl, rfl, Below.refl _ _⟩
              unfold execOp
              go_simp
            · cases hi
              have h6 := gdq _ _ _ (show aX.tmps.getD 6 undef = .int .i64 (kk : Int) from hM.off 6 (by kernel_rfl))
              refine RegInv.op_value (by rfl) rfl (v := .int .i64 (kk : Int)) (w' := w8) ?_ ⟨_, rfl, rfl, Below.refl _ _⟩
              unfold execOp
              go_simp
            · cases hi
              have h42 := gdq _ _ _ (show aX.tmps.getD 42 undef = .slice (some ads) x.f7.length c7 from hM.at_ 8 (by decide) (by kernel_rfl))
              have h43 := gdq _ _ _ (show aX.tmps.getD 43 undef = .int .i64 (kk : Int) from hM.at_ 9 (by decide) (by kernel_rfl))
              refine RegInv.op_value (by rfl) rfl (v := .pointer (some (ads.add (kk * 3)))) (w' := w8) ?_ ⟨_, rfl, rfl, Below.refl _ _⟩
              unfold execOp
              go_simp
            · cases hi
              have h44 := gdq _ _ _ (show aX.tmps.getD 44 undef = .pointer (some (ads.add (kk * 3))) from hM.at_ 10 (by decide) (by kernel_rfl))
              refine RegInv.op_value (by rfl) rfl (v := .pointer (some ⟨(ads.add (kk * 3)).block, (ads.add (kk * 3)).off + 2, none⟩)) (w' := w8) ?_ ⟨_, rfl, rfl, Below.refl _ _⟩
              unfold execOp
              go_simp
            · cases hi
              have y := X2 w8 hExt
              have h45 := gdq _ _ _ (show aX.tmps.getD 45 undef = .pointer (some ⟨(ads.add (kk * 3)).block, (ads.add (kk * 3)).off + 2, none⟩) from hM.at_ 11 (by decide) (by kernel_rfl))
              refine RegInv.op_value (by rfl) rfl (v := .slice A2 sh.f2.length c2) (w' := w8) ?_ ⟨_, rfl, rfl, Below.refl _ _⟩
              unfold execOp
              go_simp
            · cases hi
              have h37 := gdq _ _ _ (show aX.tmps.getD 37 undef = .slice AV out.length cV from hM.at_ 3 (by decide) (by kernel_rfl))
              have h46 := gdq _ _ _ (show aX.tmps.getD 46 undef = .slice A2 sh.f2.length c2 from hM.at_ 12 (by decide) (by kernel_rfl))
              refine RegInv.op_call (by rfl) rfl Try.func41 (by kernel_rfl) rfl rfl #[.slice AV out.length cV, .slice A2 sh.f2.length c2] (by simp [Act.eval, h37, h46]) ?_
              refine (turned.calls_ AV cV out A2 c2 sh.f2 w8 (Kd.C_below XV.out.1 hExt) XV.out.2 (Kd.C_below XS.out.1 hExt) XS.out.2.1 XL.out XS.out.2.2).mono ?_
              rintro e w9 ⟨v9, rfl, hR9, b9⟩
              exact ⟨_, rfl, _, rfl, (Kd.R_lower (Kd.R_mono (Kd.R_bound hR9) (fun q hq => by have h1 := hq.2.1; have h2 := GL.out; have h3 := hExt.size; show q ≠ g7 ∧ wr.heap.size ≤ q; omega)) (Nat.le_trans HNW.out hExt.size)), b9⟩
            · cases hi
              have h35 := gdq _ _ _ (show aX.tmps.getD 35 undef = .slice (some ⟨g7, 0, none⟩) x.f7.length d7 from hM.at_ 1 (by decide) (by kernel_rfl))
              have h36 := gdq _ _ _ (show aX.tmps.getD 36 undef = .int .i64 (kk : Int) from hM.at_ 2 (by decide) (by kernel_rfl))
              refine RegInv.op_value (by rfl) rfl (v := .pointer (some ⟨g7, kk * 3, none⟩)) (w' := w8) ?_ ⟨_, rfl, rfl, Below.refl _ _⟩
              unfold execOp
              go_simp
            · cases hi
              have h48 := gdq _ _ _ (show aX.tmps.getD 48 undef = .pointer (some ⟨g7, kk * 3, none⟩) from hM.at_ 14 (by decide) (by kernel_rfl))
              refine RegInv.op_value (by rfl) rfl (v := .pointer (some ⟨g7, kk * 3 + 2, none⟩)) (w' := w8) ?_ ⟨_, rfl, rfl, Below.refl _ _⟩
              unfold execOp
              go_simp
            · exact absurd hlt (by omega)
          intro vs w5 b hF
          have e15 : vs 15 = .pointer (some ⟨g7, kk * 3 + 2, none⟩) := hF 15 (by omega)
          have e13 : AskRow (knownS out) sh n0 g7 wr.heap.size w5 (vs 13) := hF 13 (by omega)
          clear hF
          simp only [RegInv.puts, dB10, Act.put, List.range, List.range.loop, List.setIfInBounds_toArray, List.set_cons_zero, List.set_cons_succ]
          rw [e15]
          clear e15
          obtain ⟨P9, m9, d9, e9⟩ : ∃ P m d, vs 13 = .slice P m d := let ⟨A, c, h, _⟩ := Kd.R_reads e13; ⟨_, _, _, h⟩
          rw [e9]
          rw [e9] at e13
          have iT := HIT.out.below b
          obtain ⟨A8, c8, y0, _, _, fz⟩ := iT.elem HS.out
          have hcl := blk_below HCL7.out b
          have hk7 := blk_below HK7.out b
          have g5ne : g5 ≠ g7 := blk_ne hk7 hcl (by decide)
          have iT' := iT.store (N' := w5.heap.size) b.size HS.out (Kd.R_mono (Kd.R_bound e13) (fun q hq => ⟨hq.1.1, hq.1.2, hq.2.2.1⟩))
          refine RegInv.op_skip (by rfl) rfl (w' := w5.setCell ⟨g7, kk * 3 + 2, none⟩ (.slice P9 m9 d9)) ?run ?_
          case run =>
            clear hk7 hcl iT iT' g5ne hK
            unfold execOp
            go_simp
          have HT8 := Aside0.mk (show TurnV w2 (knownS out) x.f7 n0 (.slice (some ⟨g7, 0, none⟩) x.f7.length d7) w5.heap.size (kk + 1) (w5.setCell ⟨g7, kk * 3 + 2, none⟩ (.slice P9 m9 d9)) from .inl ⟨g7, d7, rfl, HGB.out, ⟨_, blk_set hcl _ _⟩, iT'⟩)
          have HA8 := Aside0.mk (Kd.R_set (Kd.R_below HA7.out b) hcl (by decide) (kk * 3 + 2) (.slice P9 m9 d9))
          have HO8 := Aside0.mk (Kd.R_far (p := ⟨g7, kk * 3 + 2, none⟩) (Kd.R_below HO7.out b) (fun q hq => by have := HGB.out; show q ≠ g7; omega) (.slice P9 m9 d9))
          have HK8 := Aside0.mk (blk_far hk7 (p := ⟨g7, kk * 3 + 2, none⟩) g5ne (.slice P9 m9 d9))
          have HB8 := Aside0.mk (below_set (j := kk * 3 + 2) (v := .slice P9 m9 d9) (wB HB7.out b) (by rw [← hn0]; exact HGB.out))
          clear y0 fz iT iT' e13 e9 hcl hk7 g5ne b HIT HK7 HT7 HO7 HA7 HB7 HX3 XS XV XL HNW HCL7 GL
          generalize w5.setCell ⟨g7, kk * 3 + 2, none⟩ (.slice P9 m9 d9) = w8 at *
          generalize vs 0 = t0
          generalize vs 1 = t1
          generalize vs 2 = t2
          generalize vs 3 = t3
          generalize vs 4 = t4
          generalize vs 5 = t5
          generalize vs 6 = t6
          generalize vs 7 = t7
          generalize vs 8 = t8
          generalize vs 9 = t9
          generalize vs 10 = t10
          generalize vs 11 = t11
          generalize vs 12 = t12
          generalize vs 14 = t14
          refine hK _ _ ?_
          clear hK
          go_wp2
          go_roundw
          case rel => exact ⟨kk + 1, by omega, by go_num, ⟨_, HT8.out⟩, HA8.out, HO8.out, HK8.out, HB8.out⟩
          case measure => simp [intOf]; omega
        · obtain rfl : kk = x.f7.length := by omega
          have hS7 := HT7.out.finish
          have y7 : wr.cell? ⟨g5, 7, none⟩ = some (.slice P7 x.f7.length d7) := blk_cell HK7.out 7
          have HS7 := Aside0.mk hS7
          have x0 : wr.cell? ⟨g5, 0, none⟩ = some (.int .i64 x.f0) := blk_cell HK7.out 0
          have x1 : wr.cell? ⟨g5, 1, none⟩ = some (.int .i64 x.f1) := blk_cell HK7.out 1
          have x2 : wr.cell? ⟨g5, 2, none⟩ = some (.int .i64 x.f2) := blk_cell HK7.out 2
          have x3 : wr.cell? ⟨g5, 3, none⟩ = some (.slice PA x.f3.length dA) := blk_cell HK7.out 3
          have x4 : wr.cell? ⟨g5, 4, none⟩ = some (.int .i64 x.f4) := blk_cell HK7.out 4
          have x5 : wr.cell? ⟨g5, 5, none⟩ = some (.int .i64 x.f5) := blk_cell HK7.out 5
          have x6 : wr.cell? ⟨g5, 6, none⟩ = some (.int .i64 x.f6) := blk_cell HK7.out 6
          clear hS7
          go_wp2_with (fail)
          have HC7 := Aside0.mk (And.intro (Kd.R_reads' HA7.out) (Kd.S_reads HS7.out))
          clear x0 x1 x2 x3 x4 x5 x6 y7
          have Y : Aside0 (∀ w8, Below wr.heap.size wr w8 → w8.heap[g5]? = some (.cells #[.int .i64 x.f0, .int .i64 x.f1, .int .i64 x.f2, .slice PA x.f3.length dA, .int .i64 x.f4, .int .i64 x.f5, .int .i64 x.f6, .slice P7 x.f7.length d7] 47 (0, 0))) := ⟨fun w8 b => blk_below HK7.out b⟩
          have HMV : Aside0 (∀ w8, Below wr.heap.size wr w8 → Calls Try.prog 42 #[.agg #[.int .i64 x.f0, .int .i64 x.f1, .int .i64 x.f2, .slice PA x.f3.length dA, .int .i64 x.f4, .int .i64 x.f5, .int .i64 x.f6, .slice P7 x.f7.length d7]] w8 fun e w' => e = .returned (.bool (mvB x.f0 x.f3.length x.f2)) ∧ Below w8.heap.size w8 w') := ⟨fun w8 b => by
            obtain ⟨A9, d9, e9, l9, C9⟩ := Kd.S_reads HS7.out
            injection e9 with ea _ ec
            subst ea ec
            exact moves.calls_ x.f0 x.f1 x.f2 x.f4 x.f5 x.f6 PA _ x.f3.length dA x.f7.length _ _ _ w8 (by simp) (by simp) (Kd.C_below (Kd.R_reads' HA7.out).2.2 b) (by have := (Kd.R_reads' HA7.out).2.1; simpa using this) (Kd.C_below C9 b) l9⟩
          clear HC7
          rename ∀ (a : Act) (w : World), _ → _ => hK
          by_cases hmv : mvB x.f0 x.f3.length x.f2 = true
          · have h0 : x.f0 = 1 := by unfold mvB at hmv; split at hmv; assumption; cases hmv
            have h1 : x.f3.length = 1 := by unfold mvB at hmv; rw [if_pos h0] at hmv; split at hmv; assumption; cases hmv
            have h2 : x.f2 ≠ -1 := by unfold mvB at hmv; rw [if_pos h0, if_pos h1] at hmv; simpa using hmv
            rw [hmv] at HMV
            rw [h1] at HMV Y ⊢
            obtain ⟨o, ho⟩ : ∃ o, x.f3 = [o] := List.length_eq_one_iff.1 h1
            have HH := Aside0.mk (And.intro h0 (And.intro h1 (And.intro h2 ho)))
            obtain ⟨gA, hPA, z0, z1⟩ : ∃ gA, PA = some ⟨gA, 0, none⟩ ∧ wr.cell? ⟨gA, 0, none⟩ = some (.int .i64 (ask (knownS out) o).f0) ∧ wr.cell? ⟨gA, 1, none⟩ = some (.int .i64 (ask (knownS out) o).f1) := by
              have h3 := HA7.out
              rw [ho] at h3
              obtain ⟨_, inner, hw, _⟩ := HA7.out
              obtain ⟨ad, hA, q0, q1⟩ := at_T49 (Kd.R_reads' h3).2.2 0 (by decide) (by simp)
              rcases hw.2 with ⟨he, _⟩ | ⟨g, cap, cur, he, _⟩
              · injection he with h1; rw [hA] at h1; cases h1
              · injection he with h1
                rw [hA] at h1
                injection h1 with h1
                subst h1
                exact ⟨g, hA, q0, q1⟩
            subst hPA
            have Z : Aside0 (∀ w8, Below wr.heap.size wr w8 → w8.cell? ⟨gA, 0, none⟩ = some (.int .i64 (ask (knownS out) o).f0) ∧ w8.cell? ⟨gA, 1, none⟩ = some (.int .i64 (ask (knownS out) o).f1)) := ⟨fun w8 b => ⟨pw_cell_below b z0, pw_cell_below b z1⟩⟩
            clear h0 h1 h2 z0 z1 ho hmv
            generalize hask : ask (knownS out) o = oo at *
            have HASK := Aside0.mk hask
            clear hask
            refine RegInv.region_facts (by kernel_rfl) (by kernel_rfl) (fun a b => Below a.heap.size a b) (fun a b c h k => h.trans (k.mono h.size)) (below_drew1 (Below.refl _ _)) dBA 13 (by kernel_rfl) (by kernel_rfl) (by kernel_rfl) (FBA x oo g5 gA dA d7 (some ⟨gA, 0, none⟩) P7) (FBA_below x oo g5 gA dA d7 (some ⟨gA, 0, none⟩) P7) ?hsBA ?heBA
            case hsBA =>
              clear hK
              intro i o aX w8 hi hM
              have hltI : i < 13 := (Array.getElem?_eq_some_iff.1 hi).1
              have hExt := hM.ext
              rcases i with _ | _ | _ | _ | _ | _ | _ | _ | _ | _ | _ | _ | _ | i
              · cases hi
                have yk := Y.out w8 hExt
                have y0 : w8.cell? ⟨g5, 0, none⟩ = some _ := blk_cell yk 0
                have y1 : w8.cell? ⟨g5, 1, none⟩ = some _ := blk_cell yk 1
                have y2 : w8.cell? ⟨g5, 2, none⟩ = some _ := blk_cell yk 2
                have y3 : w8.cell? ⟨g5, 3, none⟩ = some _ := blk_cell yk 3
                have y4 : w8.cell? ⟨g5, 4, none⟩ = some _ := blk_cell yk 4
                have y5 : w8.cell? ⟨g5, 5, none⟩ = some _ := blk_cell yk 5
                have y6 : w8.cell? ⟨g5, 6, none⟩ = some _ := blk_cell yk 6
                have y7 : w8.cell? ⟨g5, 7, none⟩ = some _ := blk_cell yk 7
                have h5 := gdq _ _ _ (show aX.tmps.getD 5 undef = .pointer (some ⟨g5, 0, none⟩) from hM.off 5 (by kernel_rfl))
                refine RegInv.op_value (by rfl) rfl (v := .agg #[.int .i64 x.f0, .int .i64 x.f1, .int .i64 x.f2, .slice (some ⟨gA, 0, none⟩) 1 dA, .int .i64 x.f4, .int .i64 x.f5, .int .i64 x.f6, .slice P7 x.f7.length d7]) (w' := w8) ?_ ⟨_, rfl, rfl, Below.refl _ _⟩
                unfold execOp
                go_simp
              · cases hi
                have h50 := gdq _ _ _ (show aX.tmps.getD 50 undef = .agg #[.int .i64 x.f0, .int .i64 x.f1, .int .i64 x.f2, .slice (some ⟨gA, 0, none⟩) 1 dA, .int .i64 x.f4, .int .i64 x.f5, .int .i64 x.f6, .slice P7 x.f7.length d7] from hM.at_ 0 (by decide) (by kernel_rfl))
                refine RegInv.op_call (by rfl) rfl Try.func42 (by kernel_rfl) rfl rfl #[.agg #[.int .i64 x.f0, .int .i64 x.f1, .int .i64 x.f2, .slice (some ⟨gA, 0, none⟩) 1 dA, .int .i64 x.f4, .int .i64 x.f5, .int .i64 x.f6, .slice P7 x.f7.length d7]] (by simp [Act.eval, h50]) ?_
                refine (HMV.out w8 hExt).mono ?_
                rintro e w9 ⟨rfl, b9⟩
                exact ⟨_, rfl, _, rfl, rfl, b9⟩
              · cases hi
                have h51 := gdq _ _ _ (show aX.tmps.getD 51 undef = .bool true from hM.at_ 1 (by decide) (by kernel_rfl))
                refine RegInv.op_value (by rfl) rfl (v := .bool true) (w' := w8) ?_ ⟨_, rfl, rfl, Below.refl _ _⟩
                unfold execOp
                go_simp
              · cases hi
                have h5 := gdq _ _ _ (show aX.tmps.getD 5 undef = .pointer (some ⟨g5, 0, none⟩) from hM.off 5 (by kernel_rfl))
                have h52 := gdq _ _ _ (show aX.tmps.getD 52 undef = .bool true from hM.at_ 2 (by decide) (by kernel_rfl))
                have hg : aX.tmps.getD 52 undef = .bool true := hM.at_ 2 (by decide) (by kernel_rfl)
                refine RegInv.op_valueW (by rfl) (RegInv.wanted_of 52 rfl rfl hg) (v := .pointer (some ⟨g5, 3, none⟩)) (w' := w8) ?_ ⟨_, rfl, rfl, Below.refl _ _⟩
                unfold execOp
                go_simp
              · cases hi
                have y3 : w8.cell? ⟨g5, 3, none⟩ = some _ := blk_cell (Y.out w8 hExt) 3
                have h53 := gdq _ _ _ (show aX.tmps.getD 53 undef = .pointer (some ⟨g5, 3, none⟩) from hM.at_ 3 (by decide) (by kernel_rfl))
                have h52 := gdq _ _ _ (show aX.tmps.getD 52 undef = .bool true from hM.at_ 2 (by decide) (by kernel_rfl))
                have hg : aX.tmps.getD 52 undef = .bool true := hM.at_ 2 (by decide) (by kernel_rfl)
                refine RegInv.op_valueW (by rfl) (RegInv.wanted_of 52 rfl rfl hg) (v := .slice (some ⟨gA, 0, none⟩) 1 dA) (w' := w8) ?_ ⟨_, rfl, rfl, Below.refl _ _⟩
                unfold execOp
                go_simp
              · cases hi
                have h54 := gdq _ _ _ (show aX.tmps.getD 54 undef = .slice (some ⟨gA, 0, none⟩) 1 dA from hM.at_ 4 (by decide) (by kernel_rfl))
                have h52 := gdq _ _ _ (show aX.tmps.getD 52 undef = .bool true from hM.at_ 2 (by decide) (by kernel_rfl))
                have hg : aX.tmps.getD 52 undef = .bool true := hM.at_ 2 (by decide) (by kernel_rfl)
                refine RegInv.op_valueW (by rfl) (RegInv.wanted_of 52 rfl rfl hg) (v := .pointer (some ⟨gA, 0, none⟩)) (w' := w8) ?_ ⟨_, rfl, rfl, Below.refl _ _⟩
                unfold execOp
                go_simp
              · cases hi
                obtain ⟨z0, z1⟩ := Z.out w8 hExt
                have h55 := gdq _ _ _ (show aX.tmps.getD 55 undef = .pointer (some ⟨gA, 0, none⟩) from hM.at_ 5 (by decide) (by kernel_rfl))
                have h52 := gdq _ _ _ (show aX.tmps.getD 52 undef = .bool true from hM.at_ 2 (by decide) (by kernel_rfl))
                have hg : aX.tmps.getD 52 undef = .bool true := hM.at_ 2 (by decide) (by kernel_rfl)
                refine RegInv.op_valueW (by rfl) (RegInv.wanted_of 52 rfl rfl hg) (v := .agg #[.int .i64 oo.f0, .int .i64 oo.f1]) (w' := w8) ?_ ⟨_, rfl, rfl, Below.refl _ _⟩
                unfold execOp
                go_simp
              · cases hi
                have h5 := gdq _ _ _ (show aX.tmps.getD 5 undef = .pointer (some ⟨g5, 0, none⟩) from hM.off 5 (by kernel_rfl))
                have h52 := gdq _ _ _ (show aX.tmps.getD 52 undef = .bool true from hM.at_ 2 (by decide) (by kernel_rfl))
                have hg : aX.tmps.getD 52 undef = .bool true := hM.at_ 2 (by decide) (by kernel_rfl)
                refine RegInv.op_valueW (by rfl) (RegInv.wanted_of 52 rfl rfl hg) (v := .pointer (some ⟨g5, 2, none⟩)) (w' := w8) ?_ ⟨_, rfl, rfl, Below.refl _ _⟩
                unfold execOp
                go_simp
              · cases hi
                have y2 : w8.cell? ⟨g5, 2, none⟩ = some _ := blk_cell (Y.out w8 hExt) 2
                have h57 := gdq _ _ _ (show aX.tmps.getD 57 undef = .pointer (some ⟨g5, 2, none⟩) from hM.at_ 7 (by decide) (by kernel_rfl))
                have h52 := gdq _ _ _ (show aX.tmps.getD 52 undef = .bool true from hM.at_ 2 (by decide) (by kernel_rfl))
                have hg : aX.tmps.getD 52 undef = .bool true := hM.at_ 2 (by decide) (by kernel_rfl)
                refine RegInv.op_valueW (by rfl) (RegInv.wanted_of 52 rfl rfl hg) (v := .int .i64 x.f2) (w' := w8) ?_ ⟨_, rfl, rfl, Below.refl _ _⟩
                unfold execOp
                go_simp
              · cases hi
                have h58 := gdq _ _ _ (show aX.tmps.getD 58 undef = .int .i64 x.f2 from hM.at_ 8 (by decide) (by kernel_rfl))
                have h52 := gdq _ _ _ (show aX.tmps.getD 52 undef = .bool true from hM.at_ 2 (by decide) (by kernel_rfl))
                have hg : aX.tmps.getD 52 undef = .bool true := hM.at_ 2 (by decide) (by kernel_rfl)
                refine RegInv.op_valueW (by rfl) (RegInv.wanted_of 52 rfl rfl hg) (v := .agg #[.int .i64 0, .int .i64 x.f2]) (w' := w8) ?_ ⟨_, rfl, rfl, Below.refl _ _⟩
                unfold execOp
                go_simp
              · cases hi
                have hq := eql49 w8 oo.f0 0 oo.f1 x.f2
                have h56 := gdq _ _ _ (show aX.tmps.getD 56 undef = .agg #[.int .i64 oo.f0, .int .i64 oo.f1] from hM.at_ 6 (by decide) (by kernel_rfl))
                have h59 := gdq _ _ _ (show aX.tmps.getD 59 undef = .agg #[.int .i64 0, .int .i64 x.f2] from hM.at_ 9 (by decide) (by kernel_rfl))
                have h52 := gdq _ _ _ (show aX.tmps.getD 52 undef = .bool true from hM.at_ 2 (by decide) (by kernel_rfl))
                have hg : aX.tmps.getD 52 undef = .bool true := hM.at_ 2 (by decide) (by kernel_rfl)
                refine RegInv.op_valueW (by rfl) (RegInv.wanted_of 52 rfl rfl hg) (v := .bool (oo.f0 == 0 && oo.f1 == x.f2)) (w' := w8) ?_ ⟨_, rfl, rfl, Below.refl _ _⟩
                unfold execOp
                go_simp
                by_cases e0 : oo.f0 = 0 <;> by_cases e1 : oo.f1 = x.f2 <;> simp [e0, e1]
              · cases hi
                have h52 := gdq _ _ _ (show aX.tmps.getD 52 undef = .bool true from hM.at_ 2 (by decide) (by kernel_rfl))
                have h60 := gdq _ _ _ (show aX.tmps.getD 60 undef = .bool (oo.f0 == 0 && oo.f1 == x.f2) from hM.at_ 10 (by decide) (by kernel_rfl))
                refine RegInv.op_value (by rfl) rfl (v := .bool (oo.f0 == 0 && oo.f1 == x.f2)) (w' := w8) ?_ ⟨_, rfl, rfl, Below.refl _ _⟩
                unfold execOp
                go_simp
              · cases hi
                have h61 := gdq _ _ _ (show aX.tmps.getD 61 undef = .bool (oo.f0 == 0 && oo.f1 == x.f2) from hM.at_ 11 (by decide) (by kernel_rfl))
                refine RegInv.op_value (by rfl) rfl (v := .bool (oo.f0 == 0 && oo.f1 == x.f2)) (w' := w8) ?_ ⟨_, rfl, rfl, Below.refl _ _⟩
                unfold execOp
                go_simp
              · exact absurd hltI (by omega)
            case heBA =>
              intro vs w8 hExt hvs
              have v0 : vs 0 = .agg #[.int .i64 x.f0, .int .i64 x.f1, .int .i64 x.f2, .slice (some ⟨gA, 0, none⟩) 1 dA, .int .i64 x.f4, .int .i64 x.f5, .int .i64 x.f6, .slice P7 x.f7.length d7] := hvs 0 (by decide)
              have v1 : vs 1 = .bool true := hvs 1 (by decide)
              have v2 : vs 2 = .bool true := hvs 2 (by decide)
              have v3 : vs 3 = .pointer (some ⟨g5, 3, none⟩) := hvs 3 (by decide)
              have v4 : vs 4 = .slice (some ⟨gA, 0, none⟩) 1 dA := hvs 4 (by decide)
              have v5 : vs 5 = .pointer (some ⟨gA, 0, none⟩) := hvs 5 (by decide)
              have v6 : vs 6 = .agg #[.int .i64 oo.f0, .int .i64 oo.f1] := hvs 6 (by decide)
              have v7 : vs 7 = .pointer (some ⟨g5, 2, none⟩) := hvs 7 (by decide)
              have v8 : vs 8 = .int .i64 x.f2 := hvs 8 (by decide)
              have v9 : vs 9 = .agg #[.int .i64 0, .int .i64 x.f2] := hvs 9 (by decide)
              have v10 : vs 10 = .bool (oo.f0 == 0 && oo.f1 == x.f2) := hvs 10 (by decide)
              have v11 : vs 11 = .bool (oo.f0 == 0 && oo.f1 == x.f2) := hvs 11 (by decide)
              have v12 : vs 12 = .bool (oo.f0 == 0 && oo.f1 == x.f2) := hvs 12 (by decide)
              simp only [RegInv.puts, dBA, Act.put, List.range, List.range.loop, List.setIfInBounds_toArray, List.set_cons_zero, List.set_cons_succ, v0, v1, v2, v3, v4, v5, v6, v7, v8, v9, v10, v11, v12]
              clear hvs v0 v1 v2 v3 v4 v5 v6 v7 v8 v9 v10 v11 v12
              refine hK _ _ ?_
              clear hK
              by_cases heq : (oo.f0 == 0 && oo.f1 == x.f2) = true
              · have HEQ := Aside0.mk heq
                rw [heq]
                have HLE := Aside0.mk (show (stAt l (k + 1)).2 = out by
                  rw [HST.out]
                  obtain ⟨h0, h1, h2, ho⟩ := HH.out
                  have he := HEQ.out
                  simp only [Bool.and_eq_true, beq_iff_eq] at he
                  refine step_skip h2 ?_
                  unfold movesOf turn47
                  rw [if_pos h0, ho]
                  simp only [List.map_cons, List.map_nil]
                  rw [HASK.out]
                  congr 1
                  cases oo
                  simp only at he
                  rw [he.1, he.2])
                have HR9 := Aside0.mk (Kd.R_mono (ok' := fun _ => True) (Kd.R_below HO7.out hExt) (fun _ _ => trivial))
                have HB9 := Aside0.mk (wB HB.out (wB HB7.out hExt))
                clear hExt heq
                go_wp2
                go_roundw
                case rel => exact ⟨k + 1, by omega, by go_num, by rw [HLE.out]; exact HR9.out, HB9.out⟩
                case measure => simp [intOf]; omega
              · have heq' : (oo.f0 == 0 && oo.f1 == x.f2) = false := by simpa using heq
                have HEQ := Aside0.mk heq'
                rw [heq']
                clear heq heq'
                have hA7 := HA7.out
                rw [HH.out.2.1] at hA7
                have HA7 := Aside0.mk hA7
                clear hA7
                have yk := Y.out w8 hExt
                have y0 : w8.cell? ⟨g5, 0, none⟩ = some _ := blk_cell yk 0
                have y1 : w8.cell? ⟨g5, 1, none⟩ = some _ := blk_cell yk 1
                have y2 : w8.cell? ⟨g5, 2, none⟩ = some _ := blk_cell yk 2
                have y3 : w8.cell? ⟨g5, 3, none⟩ = some _ := blk_cell yk 3
                have y4 : w8.cell? ⟨g5, 4, none⟩ = some _ := blk_cell yk 4
                have y5 : w8.cell? ⟨g5, 5, none⟩ = some _ := blk_cell yk 5
                have y6 : w8.cell? ⟨g5, 6, none⟩ = some _ := blk_cell yk 6
                have y7 : w8.cell? ⟨g5, 7, none⟩ = some _ := blk_cell yk 7
                have HR8 := Aside0.mk (Kd.R_mono (ok' := fun _ => True) (Kd.R_below HO7.out hExt) (fun _ _ => trivial))
                have HB8 := Aside0.mk (wB HB.out (wB HB7.out hExt))
                have hn0' : w.heap.size ≤ n0 := by rw [hn0]; exact HB.out.size
                have HMK := Aside0.mk (M_apart (k47_mkM w8 w.heap.size (fun _ => True) (turn47 (knownS out) x) (Kd.R_lower (Kd.R_below HA7.out hExt) hn0') (Kd.R_lower (Kd.R_below (Kd.S_R HS7.out) hExt) hn0')) HR8.out (by decide))
                have HLE := Aside0.mk (show (stAt l (k + 1)).2 = out ++ [turn47 (knownS out) x] by rw [HST.out]; exact step_app (by
                                  obtain ⟨h0, h1, h2, ho⟩ := HH.out
                                  refine .inr (fun hm => ?_)
                                  unfold movesOf turn47 at hm
                                  rw [if_pos h0, ho] at hm
                                  simp only [List.map_cons, List.map_nil] at hm
                                  rw [HASK.out] at hm
                                  have he := HEQ.out
                                  injection hm with hm
                                  rw [hm] at he
                                  simp at he))
                clear yk hExt Y HMV hn0'
                go_wp2_with (first | ((with_reducible refine gate_builtin (b := .append) rfl ?_); refine Classical.byContradiction (fun hcon => ?hstA)) | go_in)
                refine hcon ?_
                clear hcon y0 y1 y2 y3 y4 y5 y6 y7
                refine Kd.R_append k47 (w0 := w) w.heap.size rfl _ _ 40 47 (.agg #[(.int .i64 0), (.int .i64 0), (.int .i64 0), (.slice none 0 0), (.int .i64 0), (.int .i64 0), (.int .i64 0), (.slice none 0 0)]) 96 rfl Try.underlying40 (by kernel_rfl) rfl (by decide) (by decide) (.slice AV out.length cV) out (turn47 (knownS out) x) [.int .i64 x.f0, .int .i64 x.f1, .int .i64 x.f2, .slice (some ⟨gA, 0, none⟩) 1 dA, .int .i64 x.f4, .int .i64 x.f5, .int .i64 x.f6, .slice P7 x.f7.length d7] (fun _ => True) _ rfl rfl HMK.out (fun _ h => ⟨trivial, h.2⟩) (fun _ _ => trivial) HR8.out HB8.out HB8.out.size (by have := HLO.out; have := HN.out; omega) ?_
                intro v1 w12 hR1 hB1 _ _
                rw [← HLE.out] at hR1
                have HR9 := Aside0.mk hR1
                have HB9 := Aside0.mk hB1
                clear hR1 hB1 HR8 HB8 HMK
                go_wp2
                go_roundw
                case rel => exact ⟨k + 1, by omega, by go_num, HR9.out, HB9.out⟩
                case measure => simp [intOf]; omega
          · have hmv' : mvB x.f0 x.f3.length x.f2 = false := by simpa using hmv
            rw [hmv'] at HMV
            have HH := Aside0.mk hmv'
            clear hmv hmv'
            refine RegInv.region_facts (by kernel_rfl) (by kernel_rfl) (fun a b => Below a.heap.size a b) (fun a b c h k => h.trans (k.mono h.size)) (below_drew1 (Below.refl _ _)) dBB 13 (by kernel_rfl) (by kernel_rfl) (by kernel_rfl) (FBB x ⟨0, 0⟩ g5 0 dA d7 PA P7) (FBB_below x ⟨0, 0⟩ g5 0 dA d7 PA P7) ?hsBB ?heBB
            case hsBB =>
              clear hK
              intro i o aX w8 hi hM
              have hltI : i < 13 := (Array.getElem?_eq_some_iff.1 hi).1
              have hExt := hM.ext
              rcases i with _ | _ | _ | _ | _ | _ | _ | _ | _ | _ | _ | _ | _ | i
              · cases hi
                have yk := Y.out w8 hExt
                have y0 : w8.cell? ⟨g5, 0, none⟩ = some _ := blk_cell yk 0
                have y1 : w8.cell? ⟨g5, 1, none⟩ = some _ := blk_cell yk 1
                have y2 : w8.cell? ⟨g5, 2, none⟩ = some _ := blk_cell yk 2
                have y3 : w8.cell? ⟨g5, 3, none⟩ = some _ := blk_cell yk 3
                have y4 : w8.cell? ⟨g5, 4, none⟩ = some _ := blk_cell yk 4
                have y5 : w8.cell? ⟨g5, 5, none⟩ = some _ := blk_cell yk 5
                have y6 : w8.cell? ⟨g5, 6, none⟩ = some _ := blk_cell yk 6
                have y7 : w8.cell? ⟨g5, 7, none⟩ = some _ := blk_cell yk 7
                have h5 := gdq _ _ _ (show aX.tmps.getD 5 undef = .pointer (some ⟨g5, 0, none⟩) from hM.off 5 (by kernel_rfl))
                refine RegInv.op_value (by rfl) rfl (v := .agg #[.int .i64 x.f0, .int .i64 x.f1, .int .i64 x.f2, .slice PA x.f3.length dA, .int .i64 x.f4, .int .i64 x.f5, .int .i64 x.f6, .slice P7 x.f7.length d7]) (w' := w8) ?_ ⟨_, rfl, rfl, Below.refl _ _⟩
                unfold execOp
                go_simp
              · cases hi
                have h50 := gdq _ _ _ (show aX.tmps.getD 50 undef = .agg #[.int .i64 x.f0, .int .i64 x.f1, .int .i64 x.f2, .slice PA x.f3.length dA, .int .i64 x.f4, .int .i64 x.f5, .int .i64 x.f6, .slice P7 x.f7.length d7] from hM.at_ 0 (by decide) (by kernel_rfl))
                refine RegInv.op_call (by rfl) rfl Try.func42 (by kernel_rfl) rfl rfl #[.agg #[.int .i64 x.f0, .int .i64 x.f1, .int .i64 x.f2, .slice PA x.f3.length dA, .int .i64 x.f4, .int .i64 x.f5, .int .i64 x.f6, .slice P7 x.f7.length d7]] (by simp [Act.eval, h50]) ?_
                refine (HMV.out w8 hExt).mono ?_
                rintro e w9 ⟨rfl, b9⟩
                exact ⟨_, rfl, _, rfl, rfl, b9⟩
              · cases hi
                have h51 := gdq _ _ _ (show aX.tmps.getD 51 undef = .bool false from hM.at_ 1 (by decide) (by kernel_rfl))
                refine RegInv.op_value (by rfl) rfl (v := .bool false) (w' := w8) ?_ ⟨_, rfl, rfl, Below.refl _ _⟩
                unfold execOp
                go_simp
              · cases hi
                have hg : aX.tmps.getD 52 undef = .bool false := hM.at_ 2 (by decide) (by kernel_rfl)
                refine RegInv.op_unwanted (by rfl) (RegInv.wanted_not (b := true) 52 rfl rfl hg (by simp [undef])) ⟨undef, rfl, rfl, Below.refl _ _⟩
              · cases hi
                have hg : aX.tmps.getD 52 undef = .bool false := hM.at_ 2 (by decide) (by kernel_rfl)
                refine RegInv.op_unwanted (by rfl) (RegInv.wanted_not (b := true) 52 rfl rfl hg (by simp [undef])) ⟨undef, rfl, rfl, Below.refl _ _⟩
              · cases hi
                have hg : aX.tmps.getD 52 undef = .bool false := hM.at_ 2 (by decide) (by kernel_rfl)
                refine RegInv.op_unwanted (by rfl) (RegInv.wanted_not (b := true) 52 rfl rfl hg (by simp [undef])) ⟨undef, rfl, rfl, Below.refl _ _⟩
              · cases hi
                have hg : aX.tmps.getD 52 undef = .bool false := hM.at_ 2 (by decide) (by kernel_rfl)
                refine RegInv.op_unwanted (by rfl) (RegInv.wanted_not (b := true) 52 rfl rfl hg (by simp [undef])) ⟨undef, rfl, rfl, Below.refl _ _⟩
              · cases hi
                have hg : aX.tmps.getD 52 undef = .bool false := hM.at_ 2 (by decide) (by kernel_rfl)
                refine RegInv.op_unwanted (by rfl) (RegInv.wanted_not (b := true) 52 rfl rfl hg (by simp [undef])) ⟨undef, rfl, rfl, Below.refl _ _⟩
              · cases hi
                have hg : aX.tmps.getD 52 undef = .bool false := hM.at_ 2 (by decide) (by kernel_rfl)
                refine RegInv.op_unwanted (by rfl) (RegInv.wanted_not (b := true) 52 rfl rfl hg (by simp [undef])) ⟨undef, rfl, rfl, Below.refl _ _⟩
              · cases hi
                have hg : aX.tmps.getD 52 undef = .bool false := hM.at_ 2 (by decide) (by kernel_rfl)
                refine RegInv.op_unwanted (by rfl) (RegInv.wanted_not (b := true) 52 rfl rfl hg (by simp [undef])) ⟨undef, rfl, rfl, Below.refl _ _⟩
              · cases hi
                have hg : aX.tmps.getD 52 undef = .bool false := hM.at_ 2 (by decide) (by kernel_rfl)
                refine RegInv.op_unwanted (by rfl) (RegInv.wanted_not (b := true) 52 rfl rfl hg (by simp [undef])) ⟨undef, rfl, rfl, Below.refl _ _⟩
              · cases hi
                have h52 := gdq _ _ _ (show aX.tmps.getD 52 undef = .bool false from hM.at_ 2 (by decide) (by kernel_rfl))
                have h60 := gdq _ _ _ (show aX.tmps.getD 60 undef = undef from hM.at_ 10 (by decide) (by kernel_rfl))
                refine RegInv.op_value (by rfl) rfl (v := .bool false) (w' := w8) ?_ ⟨_, rfl, rfl, Below.refl _ _⟩
                unfold execOp
                go_simp
              · cases hi
                have h61 := gdq _ _ _ (show aX.tmps.getD 61 undef = .bool false from hM.at_ 11 (by decide) (by kernel_rfl))
                refine RegInv.op_value (by rfl) rfl (v := .bool false) (w' := w8) ?_ ⟨_, rfl, rfl, Below.refl _ _⟩
                unfold execOp
                go_simp
              · exact absurd hltI (by omega)
            case heBB =>
              intro vs w8 hExt hvs
              have v0 : vs 0 = .agg #[.int .i64 x.f0, .int .i64 x.f1, .int .i64 x.f2, .slice PA x.f3.length dA, .int .i64 x.f4, .int .i64 x.f5, .int .i64 x.f6, .slice P7 x.f7.length d7] := hvs 0 (by decide)
              have v1 : vs 1 = .bool false := hvs 1 (by decide)
              have v2 : vs 2 = .bool false := hvs 2 (by decide)
              have v3 : vs 3 = undef := hvs 3 (by decide)
              have v4 : vs 4 = undef := hvs 4 (by decide)
              have v5 : vs 5 = undef := hvs 5 (by decide)
              have v6 : vs 6 = undef := hvs 6 (by decide)
              have v7 : vs 7 = undef := hvs 7 (by decide)
              have v8 : vs 8 = undef := hvs 8 (by decide)
              have v9 : vs 9 = undef := hvs 9 (by decide)
              have v10 : vs 10 = undef := hvs 10 (by decide)
              have v11 : vs 11 = .bool false := hvs 11 (by decide)
              have v12 : vs 12 = .bool false := hvs 12 (by decide)
              simp only [RegInv.puts, dBB, Act.put, List.range, List.range.loop, List.setIfInBounds_toArray, List.set_cons_zero, List.set_cons_succ, v0, v1, v2, v3, v4, v5, v6, v7, v8, v9, v10, v11, v12]
              clear hvs v0 v1 v2 v3 v4 v5 v6 v7 v8 v9 v10 v11 v12
              refine hK _ _ ?_
              clear hK
              have yk := Y.out w8 hExt
              have y0 : w8.cell? ⟨g5, 0, none⟩ = some _ := blk_cell yk 0
              have y1 : w8.cell? ⟨g5, 1, none⟩ = some _ := blk_cell yk 1
              have y2 : w8.cell? ⟨g5, 2, none⟩ = some _ := blk_cell yk 2
              have y3 : w8.cell? ⟨g5, 3, none⟩ = some _ := blk_cell yk 3
              have y4 : w8.cell? ⟨g5, 4, none⟩ = some _ := blk_cell yk 4
              have y5 : w8.cell? ⟨g5, 5, none⟩ = some _ := blk_cell yk 5
              have y6 : w8.cell? ⟨g5, 6, none⟩ = some _ := blk_cell yk 6
              have y7 : w8.cell? ⟨g5, 7, none⟩ = some _ := blk_cell yk 7
              have HR8 := Aside0.mk (Kd.R_mono (ok' := fun _ => True) (Kd.R_below HO7.out hExt) (fun _ _ => trivial))
              have HB8 := Aside0.mk (wB HB.out (wB HB7.out hExt))
              have hn0' : w.heap.size ≤ n0 := by rw [hn0]; exact HB.out.size
              have HMK := Aside0.mk (M_apart (k47_mkM w8 w.heap.size (fun _ => True) (turn47 (knownS out) x) (Kd.R_lower (Kd.R_below HA7.out hExt) hn0') (Kd.R_lower (Kd.R_below (Kd.S_R HS7.out) hExt) hn0')) HR8.out (by decide))
              have HLE := Aside0.mk (show (stAt l (k + 1)).2 = out ++ [turn47 (knownS out) x] by rw [HST.out]; exact step_app (by
                                have h := HH.out
                                unfold mvB at h
                                by_cases h0 : x.f0 = 1
                                · rw [if_pos h0] at h
                                  by_cases h1 : x.f3.length = 1
                                  · rw [if_pos h1] at h
                                    left; simpa using h
                                  · right; rw [movesOf_len h1]; simp
                                · right; rw [movesOf_op h0]; simp))
              clear yk hExt Y HMV hn0'
              go_wp2_with (first | ((with_reducible refine gate_builtin (b := .append) rfl ?_); refine Classical.byContradiction (fun hcon => ?hstB)) | go_in)
              refine hcon ?_
              clear hcon y0 y1 y2 y3 y4 y5 y6 y7
              refine Kd.R_append k47 (w0 := w) w.heap.size rfl _ _ 40 47 (.agg #[(.int .i64 0), (.int .i64 0), (.int .i64 0), (.slice none 0 0), (.int .i64 0), (.int .i64 0), (.int .i64 0), (.slice none 0 0)]) 96 rfl Try.underlying40 (by kernel_rfl) rfl (by decide) (by decide) (.slice AV out.length cV) out (turn47 (knownS out) x) [.int .i64 x.f0, .int .i64 x.f1, .int .i64 x.f2, .slice PA x.f3.length dA, .int .i64 x.f4, .int .i64 x.f5, .int .i64 x.f6, .slice P7 x.f7.length d7] (fun _ => True) _ rfl rfl HMK.out (fun _ h => ⟨trivial, h.2⟩) (fun _ _ => trivial) HR8.out HB8.out HB8.out.size (by have := HLO.out; have := HN.out; omega) ?_
              intro v1 w12 hR1 hB1 _ _
              rw [← HLE.out] at hR1
              have HR9 := Aside0.mk hR1
              have HB9 := Aside0.mk hB1
              clear hR1 hB1 HR8 HB8 HMK
              go_wp2
              go_roundw
              case rel => exact ⟨k + 1, by omega, by go_num, HR9.out, HB9.out⟩
              case measure => simp [intOf]; omega
    · obtain rfl : k = l.length := by omega
      clear hR hb hCV hcV
      go_wp2
      go_ret
      exact ⟨_, rfl, HR.out, HB.out⟩
/-- portageref22.Run, plainly what copies.Run answers -/
theorem blockS_at (b : S43) : blockS b = ⟨b.f0, (stAt b.f1 b.f1.length).2, b.f2⟩ := by
  unfold blockS stAt; rw [List.take_length]
end Go.Proofs.Ytjekpkpmoanadaa.PCop
/- portageref22.Run: its contract: what copies.Run answers, plainly. For every world. -/
namespace Go.Proofs.Ytjekpkpmoanadaa.PCop
open Go.RowKit Go.Proofs.Ytjekpkpmoanadaa.FarKd Go.Proofs.Ytjekpkpmoanadaa.Lit Go.Proofs.Ytjekpkpmoanadaa.OwnCells Go.Proofs.YtjekpkpmoanadaaW.PrintWords Go.Proofs.YtjekpkpmoanadaaW.PrintLast Go.Proofs.YtjekpkpmoanadaaW.PrintMore
set_option linter.unusedVariables false
set_option linter.unusedSimpArgs false
theorem rd_at {L : List Int} {p : Nat} (h : p < L.length) : rd L (p : Int) = L[p] := by
  unfold rd; rw [Int.toNat_natCast, List.getD_eq_getElem?_getD, List.getElem?_eq_getElem h]; rfl
theorem cn_l0 (A : List Int) (hA : A.length < 17592186044416) : ∀ (n p : Nat), p + n = A.length → ∀ k, n + 1 ≤ k → portageref0_CopyInts.l0 k A (A.take p) (p : Int) = some A
  | _, _, _, 0, hk => absurd hk (by omega)
  | 0, p, hp, k + 1, _ => by
    rw [portageref0_CopyInts.l0, if_neg (by omega), List.take_of_length_le (by omega)]
  | n + 1, p, hp, k + 1, hk => by
    have hlt : p < A.length := by omega
    have ih := cn_l0 A hA n (p + 1) (by omega) k (by omega)
    rw [List.take_succ_eq_append_getElem hlt] at ih
    rw [portageref0_CopyInts.l0, if_pos (by omega), if_pos (by omega), if_pos (by rw [List.length_take]; omega), rd_at hlt, show wrap64 ((p : Int) + 1) = ((p + 1 : Nat) : Int) by unfold wrap64; omega]
    exact ih
theorem cints_ (A : Option Addr) (c : Nat) (l : List Int) (w : World) (h : (Kd.int .i64).C w A l.length l) (hc : l.length ≤ c) (hl : l.length * 8 ≤ 140737488351232) : Calls Try.prog 24 #[.slice A l.length c] w fun e w' => ∃ v, e = .returned v ∧ (Kd.int .i64).R 3 w' w.heap.size (fun _ => True) v l ∧ Below w.heap.size w w' :=
  portageref0_CopyInts.calls (l.length + 1) A c l l w h hc (cn_l0 l (by omega) l.length 0 (by omega) _ (Nat.le_refl _))
theorem rd43_at {L : List S43} {p : Nat} (h : p < L.length) : rd_T43 L (p : Int) = L[p] := by
  unfold rd_T43; rw [Int.toNat_natCast, List.getD_eq_getElem?_getD, List.getElem?_eq_getElem h]; rfl
def dR5 : Nat → Option Tmp
  | 0 => some 18
  | 1 => some 19
  | 2 => some 20
  | 3 => some 21
  | 4 => some 22
  | 5 => some 23
  | 6 => some 24
  | 7 => some 25
  | 8 => some 26
  | 9 => some 27
  | 10 => some 28
  | 11 => some 29
  | 12 => some 30
  | 13 => some 31
  | 14 => some 5
  | _ => none
def FR5 (bl : S43) (N NW g0 k n c2 : Nat) (a2 : Addr) (A4 : Option Addr) (c4 : Nat) : Nat → World → Value → Prop
  | 0, _, v => v = .pointer (some ⟨g0, 2, none⟩)
  | 1, _, v => v = .slice (some a2) n c2
  | 2, _, v => v = .int .i64 (k : Int)
  | 3, _, v => v = .pointer (some (a2.add (k * 3)))
  | 4, _, v => v = .pointer (some (a2.add (k * 3)))
  | 5, _, v => v = .int .i64 bl.f0
  | 6, _, v => v = .pointer (some ⟨g0, 2, none⟩)
  | 7, _, v => v = .slice (some a2) n c2
  | 8, _, v => v = .int .i64 (k : Int)
  | 9, _, v => v = .pointer (some (a2.add (k * 3)))
  | 10, _, v => v = .pointer (some ⟨(a2.add (k * 3)).block, (a2.add (k * 3)).off + 2, none⟩)
  | 11, _, v => v = .slice A4 bl.f2.length c4
  | 12, w, v => NextRow bl.f2 N w v
  | 13, w, v => ∃ u, v = .agg #[.int .i64 bl.f0, .slice none 0 0, u] ∧ NextRow bl.f2 N w u
  | 14, w, v => BoxAt NW #[.int .i64 0, .slice none 0 0, .slice none 0 0] 43 w v
  | _, _, _ => True
theorem FR5_below (bl : S43) (N NW g0 k n c2 : Nat) (a2 : Addr) (A4 : Option Addr) (c4 : Nat) (i : Nat) (w w1 : World) (v : Value) (h : FR5 bl N NW g0 k n c2 a2 A4 c4 i w v) (hb : Below w.heap.size w w1) : FR5 bl N NW g0 k n c2 a2 A4 c4 i w1 v := by
  match i with
  | 0 | 1 | 2 | 3 | 4 | 5 | 6 | 7 | 8 | 9 | 10 | 11 => exact h
  | 13 => obtain ⟨u, h1, h2⟩ := h; exact ⟨u, h1, h2.below hb⟩
  | 12 | 14 => exact h.below hb
  | (n + 15) => exact h
set_option maxHeartbeats 8000000 in
set_option maxRecDepth 100000 in
theorem refrun_calls (a b : Int) (A2 : Option Addr) (c2 : Nat) (l : List S43) (w : World) (hA : k43.C w A2 l.length l) (hcl : l.length ≤ c2) (hok : OkL l) :
    Calls Try.prog 9 #[.agg #[.int .i64 a, .int .i64 b, .slice A2 l.length c2]] w fun e w' => ∃ v, e = .returned (.agg #[.int .i64 a, .int .i64 b, v]) ∧ k43.R 43 w' w.heap.size (fun _ => True) v (runS l) ∧ Below w.heap.size w w' := by
  have HA := Aside0.mk hA
  have HOK := Aside0.mk hok
  have HCL := Aside0.mk hcl
  have hlen : l.length ≤ 4398046511104 := by have := hok.len; omega
  clear hA hok hcl
  go_enter Try.func9, Try.ntmps9
  go_upto_region 1 with (fail)
  have hbx := e4 w (.cells #[.int .i64 a, .int .i64 b, .slice A2 l.length c2] 24) (.cells #[.int .i64 0, .int .i64 0, .slice none 0 0] 24)
  have K0 := blk_alloc (blk_new w (.cells #[.int .i64 a, .int .i64 b, .slice A2 l.length c2] 24)) (.cells #[.int .i64 0, .int .i64 0, .slice none 0 0] 24)
  have K1 := blk_new (w.alloc (.cells #[.int .i64 a, .int .i64 b, .slice A2 l.length c2] 24)) (.cells #[.int .i64 0, .int .i64 0, .slice none 0 0] 24)
  rw [World.size_alloc] at K1
  generalize (w.alloc (.cells #[.int .i64 a, .int .i64 b, .slice A2 l.length c2] 24)).alloc (.cells #[.int .i64 0, .int .i64 0, .slice none 0 0] 24) = w1 at *
  have HL1 := Aside0.mk (Nat.le_succ w.heap.size)
  rw [Nat.succ_eq_add_one] at HL1
  obtain ⟨g1, hg1⟩ : ∃ g1, g1 = w.heap.size + 1 := ⟨_, rfl⟩
  rw [← hg1] at K1 HL1 ⊢
  obtain ⟨g0, hg0⟩ : ∃ g0, g0 = w.heap.size := ⟨_, rfl⟩
  rw [← hg0] at K0 ⊢
  have HG0 := Aside0.mk (Nat.le_of_eq hg0.symm)
  have HN0 := Aside0.mk (show g0 ≤ w.heap.size from Nat.le_of_eq hg0)
  clear hg0 hg1
  have q0 : w1.cell? ⟨g0, 0, none⟩ = some (.int .i64 a) := blk_cell K0 0
  have q1 : w1.cell? ⟨g0, 1, none⟩ = some (.int .i64 b) := blk_cell K0 1
  have HK0 := Aside0.mk K0
  have HK1 := Aside0.mk K1
  have HBX := Aside0.mk hbx
  clear K0 K1 hbx
  go_upto_region 2 with (fail)
  clear q0 q1
  have hb2 := below_alloc (Below.refl _ w1) (.cells #[.int .i64 a, .int .i64 b, .slice none 0 0] 24)
  have K2 := blk_new w1 (.cells #[.int .i64 a, .int .i64 b, .slice none 0 0] 24)
  have hg1l := blk_lt HK1.out
  replace HK0 := Aside0.mk (blk_below HK0.out hb2)
  replace HK1 := Aside0.mk (blk_below HK1.out hb2)
  have HB2 := Aside0.mk (wB HBX.out hb2)
  have G2 := Aside0.mk (And.intro hg1l HBX.out.size)
  replace HN0 := Aside0.mk (show g0 ≠ w1.heap.size by have h1 := HN0.out; have h2 := HL1.out; omega)
  have HK2 := Aside0.mk K2
  clear hb2 hg1l K2
  generalize w1.alloc (.cells #[.int .i64 a, .int .i64 b, .slice none 0 0] 24) = w2 at *
  generalize w1.heap.size = g2 at *
  have q2 : w2.cell? ⟨g0, 2, none⟩ = some (.slice A2 l.length c2) := blk_cell HK0.out 2
  go_wp2_with (fail)
  clear q2
  go_loopw [4, 5] (fun t _ wr => ∃ k : Nat, k ≤ l.length ∧ t = .int .i64 (k : Int) ∧ ∃ VO, k43.R 43 wr w.heap.size (fun _ => True) VO ((l.take k).map blockS) ∧ wr.heap[g0]? = some (.cells #[.int .i64 a, .int .i64 b, .slice A2 l.length c2] 24 (0, 0)) ∧ wr.heap[g1]? = some (.cells #[.int .i64 0, .int .i64 0, .slice none 0 0] 24 (0, 0)) ∧ wr.heap[g2]? = some (.cells #[.int .i64 a, .int .i64 b, VO] 24 (0, 0)) ∧ Below w.heap.size w wr) (fun t _ _ => l.length - (intOf t).toNat)
  case atStart => exact ⟨0, Nat.zero_le _, rfl, _, Kd.R_nil _ _ _ _ _, HK0.out, HK1.out, HK2.out, HB2.out⟩
  case round =>
    obtain ⟨k, hk, rfl, VO, hR, i0, i1, i2, hB⟩ := hrel
    obtain ⟨PO, dO, rfl⟩ := Kd.R_slice hR
    have HR := Aside0.mk hR
    have HI0 := Aside0.mk i0
    have HI1 := Aside0.mk i1
    have HI2 := Aside0.mk i2
    have HB := Aside0.mk hB
    have q2 : wr.cell? ⟨g0, 2, none⟩ = some (.slice A2 l.length c2) := blk_cell i0 2
    rw [List.length_map] at HR HI2
    by_cases hlt : k < l.length
    · obtain ⟨a2, A1, c1, A4, c4, rfl, x0, x1, x2, l1, g1', l2, g2'⟩ := at_T43 (Kd.C_below HA.out hB) (k : Int) (by omega) (by omega)
      rw [Int.toNat_natCast] at x0 x1 x2
      have hM := List.getElem?_eq_getElem hlt
      have hm := List.getElem_mem hlt
      rw [← rd43_at hlt] at hM hm
      have HM := Aside0.mk hM
      have HIN := Aside0.mk (HOK.out.ins _ hm)
      have HNX := Aside0.mk (HOK.out.next _ hm)
      have HEA := Aside0.mk (HOK.out.each _ hm)
      generalize rd_T43 l (k : Int) = bl at *
      have XI := Aside0.mk (And.intro g1' l1)
      have XN := Aside0.mk (And.intro g2' (And.intro l2 HNX.out))
      have X3 := Aside0.mk x1
      have HX := Aside0.mk (show (∀ w8, Below wr.heap.size wr w8 → w8.cell? ⟨g0, 2, none⟩ = some (.slice (some a2) l.length c2)) ∧ (∀ w8, Below wr.heap.size wr w8 → w8.cell? (a2.add (k * 3)) = some (.int .i64 bl.f0)) ∧ (∀ w8, Below wr.heap.size wr w8 → w8.cell? ⟨(a2.add (k * 3)).block, (a2.add (k * 3)).off + 2, none⟩ = some (.slice A4 bl.f2.length c4)) from ⟨fun w8 b => blk_cell (blk_below HI0.out b) 2, fun w8 b => pw_cell_below b x0, fun w8 b => pw_cell_below b x2⟩)
      have HNW := Aside0.mk (Nat.le_refl wr.heap.size)
      clear hR i0 i1 i2 hB x0 x1 x2 l1 g1' l2 g2' hM hm
      go_wp2_with (fail)
      clear q2
      rename ∀ (a : Act) (w : World), _ → _ => hK
      refine RegInv.region_last2 (by kernel_rfl) (by kernel_rfl) (fun a b => Below a.heap.size a b) (fun a b c h k => wB h k) (below_drew1 (Below.refl _ _)) dR5 15 (by kernel_rfl) (by kernel_rfl) (by kernel_rfl) (by kernel_rfl) (FR5 bl wr.heap.size wr.heap.size g0 k l.length c2 a2 A4 c4) (FR5_below bl wr.heap.size wr.heap.size g0 k l.length c2 a2 A4 c4) ?hsR5 ?heR5
      case hsR5 =>
        clear hK
        intro i o aX w8 hlt hi hM
        have hExt := hM.ext
        obtain ⟨X0, X1, X2⟩ := HX.out
        rcases i with _ | _ | _ | _ | _ | _ | _ | _ | _ | _ | _ | _ | _ | _ | _ | i
        · cases hi
          have h1 := gdq _ _ _ (show aX.tmps.getD 1 undef = .pointer (some ⟨g0, 0, none⟩) from hM.off 1 (by kernel_rfl))
          refine RegInv.op_value (by rfl) rfl (v := .pointer (some ⟨g0, 2, none⟩)) (w' := w8) ?_ ⟨_, rfl, rfl, Below.refl _ _⟩
          unfold execOp
          go_simp
        · cases hi
          have y := X0 w8 hExt
          have h18 := gdq _ _ _ (show aX.tmps.getD 18 undef = .pointer (some ⟨g0, 2, none⟩) from hM.at_ 0 (by decide) (by kernel_rfl))
          refine RegInv.op_value (by rfl) rfl (v := .slice (some a2) l.length c2) (w' := w8) ?_ ⟨_, rfl, rfl, Below.refl _ _⟩
          unfold execOp
          go_simp
        · cases hi
          have h4 := gdq _ _ _ (show aX.tmps.getD 4 undef = .int .i64 (k : Int) from hM.off 4 (by kernel_rfl))
          refine RegInv.op_value (by rfl) rfl (v := .int .i64 (k : Int)) (w' := w8) ?_ ⟨_, rfl, rfl, Below.refl _ _⟩
          unfold execOp
          go_simp
        · cases hi
          have h19 := gdq _ _ _ (show aX.tmps.getD 19 undef = .slice (some a2) l.length c2 from hM.at_ 1 (by decide) (by kernel_rfl))
          have h20 := gdq _ _ _ (show aX.tmps.getD 20 undef = .int .i64 (k : Int) from hM.at_ 2 (by decide) (by kernel_rfl))
          refine RegInv.op_value (by rfl) rfl (v := .pointer (some (a2.add (k * 3)))) (w' := w8) ?_ ⟨_, rfl, rfl, Below.refl _ _⟩
          unfold execOp
          go_simp
        · cases hi
          have h21 := gdq _ _ _ (show aX.tmps.getD 21 undef = .pointer (some (a2.add (k * 3))) from hM.at_ 3 (by decide) (by kernel_rfl))
          refine RegInv.op_value (by rfl) rfl (v := .pointer (some (a2.add (k * 3)))) (w' := w8) ?_ ⟨_, rfl, rfl, Below.refl _ _⟩
          unfold execOp
          go_simp
        · cases hi
          have y := X1 w8 hExt
          have h22 := gdq _ _ _ (show aX.tmps.getD 22 undef = .pointer (some (a2.add (k * 3))) from hM.at_ 4 (by decide) (by kernel_rfl))
          refine RegInv.op_value (by rfl) rfl (v := .int .i64 bl.f0) (w' := w8) ?_ ⟨_, rfl, rfl, Below.refl _ _⟩
          unfold execOp
          go_simp
        · cases hi
          have h1 := gdq _ _ _ (show aX.tmps.getD 1 undef = .pointer (some ⟨g0, 0, none⟩) from hM.off 1 (by kernel_rfl))
          refine RegInv.op_value (by rfl) rfl (v := .pointer (some ⟨g0, 2, none⟩)) (w' := w8) ?_ ⟨_, rfl, rfl, Below.refl _ _⟩
          unfold execOp
          go_simp
        · cases hi
          have y := X0 w8 hExt
          have h24 := gdq _ _ _ (show aX.tmps.getD 24 undef = .pointer (some ⟨g0, 2, none⟩) from hM.at_ 6 (by decide) (by kernel_rfl))
          refine RegInv.op_value (by rfl) rfl (v := .slice (some a2) l.length c2) (w' := w8) ?_ ⟨_, rfl, rfl, Below.refl _ _⟩
          unfold execOp
          go_simp
        · cases hi
          have h4 := gdq _ _ _ (show aX.tmps.getD 4 undef = .int .i64 (k : Int) from hM.off 4 (by kernel_rfl))
          refine RegInv.op_value (by rfl) rfl (v := .int .i64 (k : Int)) (w' := w8) ?_ ⟨_, rfl, rfl, Below.refl _ _⟩
          unfold execOp
          go_simp
        · cases hi
          have h25 := gdq _ _ _ (show aX.tmps.getD 25 undef = .slice (some a2) l.length c2 from hM.at_ 7 (by decide) (by kernel_rfl))
          have h26 := gdq _ _ _ (show aX.tmps.getD 26 undef = .int .i64 (k : Int) from hM.at_ 8 (by decide) (by kernel_rfl))
          refine RegInv.op_value (by rfl) rfl (v := .pointer (some (a2.add (k * 3)))) (w' := w8) ?_ ⟨_, rfl, rfl, Below.refl _ _⟩
          unfold execOp
          go_simp
        · cases hi
          have h27 := gdq _ _ _ (show aX.tmps.getD 27 undef = .pointer (some (a2.add (k * 3))) from hM.at_ 9 (by decide) (by kernel_rfl))
          refine RegInv.op_value (by rfl) rfl (v := .pointer (some ⟨(a2.add (k * 3)).block, (a2.add (k * 3)).off + 2, none⟩)) (w' := w8) ?_ ⟨_, rfl, rfl, Below.refl _ _⟩
          unfold execOp
          go_simp
        · cases hi
          have y := X2 w8 hExt
          have h28 := gdq _ _ _ (show aX.tmps.getD 28 undef = .pointer (some ⟨(a2.add (k * 3)).block, (a2.add (k * 3)).off + 2, none⟩) from hM.at_ 10 (by decide) (by kernel_rfl))
          refine RegInv.op_value (by rfl) rfl (v := .slice A4 bl.f2.length c4) (w' := w8) ?_ ⟨_, rfl, rfl, Below.refl _ _⟩
          unfold execOp
          go_simp
        · cases hi
          have h29 := gdq _ _ _ (show aX.tmps.getD 29 undef = .slice A4 bl.f2.length c4 from hM.at_ 11 (by decide) (by kernel_rfl))
          refine RegInv.op_call (by rfl) rfl Try.func24 (by kernel_rfl) rfl rfl #[.slice A4 bl.f2.length c4] (by simp [Act.eval, h29]) ?_
          refine (cints_ A4 c4 bl.f2 w8 (Kd.C_below XN.out.1 hExt) XN.out.2.1 XN.out.2.2).mono ?_
          rintro e w9 ⟨v9, rfl, hR9, b9⟩
          exact ⟨_, rfl, _, rfl, (Kd.R_lower hR9 (Nat.le_trans HNW.out hExt.size)), b9⟩
        · cases hi
          obtain ⟨u, hu⟩ : ∃ u, aX.tmps.getD 30 undef = u := ⟨_, rfl⟩
          have h0 := gdq _ _ _ (show aX.tmps.getD 23 undef = .int .i64 bl.f0 from hM.at_ 5 (by decide) (by kernel_rfl))
          have hn : NextRow bl.f2 wr.heap.size w8 u := hu ▸ (show NextRow bl.f2 wr.heap.size w8 (aX.tmps.getD 30 undef) from hM.at_ 12 (by decide) (by kernel_rfl))
          have h1 := gdq _ _ _ hu
          obtain ⟨P, m, d, rfl⟩ : ∃ P m d, u = .slice P m d := let ⟨A, c, h, _⟩ := Kd.R_reads hn; ⟨_, _, _, h⟩
          refine RegInv.op_value (by rfl) rfl (v := .agg #[.int .i64 bl.f0, .slice none 0 0, .slice P m d]) (w' := w8) ?_ ⟨_, rfl, ⟨_, rfl, hn⟩, Below.refl _ _⟩
          clear hn hu
          unfold execOp
          go_simp
        · cases hi
          refine RegInv.op_value (by rfl) rfl (v := .pointer (some ⟨w8.heap.size, 0, none⟩)) (w' := w8.alloc (.cells #[.int .i64 0, .slice none 0 0, .slice none 0 0] 43)) ?_ ⟨_, rfl, ⟨_, rfl, hExt.size, blk_new _ _⟩, below_alloc (Below.refl _ _) _⟩
          unfold execOp
          go_simp
        · exact absurd hlt (by omega)
      intro vs w6 hb6 hF
      obtain ⟨g5, e6, hg5, K5⟩ : BoxAt wr.heap.size #[.int .i64 0, .slice none 0 0, .slice none 0 0] 43 w6 (vs 14) := hF 14 (by omega)
      obtain ⟨VN, e5, hvn⟩ : ∃ u, vs 13 = .agg #[.int .i64 bl.f0, .slice none 0 0, u] ∧ NextRow bl.f2 wr.heap.size w6 u := hF 13 (by omega)
      clear hF
      simp only [RegInv.puts, dR5, Act.put, List.range, List.range.loop, List.setIfInBounds_toArray, List.set_cons_zero, List.set_cons_succ]
      obtain ⟨PN, mN, dN, rfl⟩ : ∃ P m d, VN = .slice P m d := let ⟨A, c, h, _⟩ := Kd.R_reads hvn; ⟨_, _, _, h⟩
      rw [e6, e5]
      clear e6 e5
      have c0' : w6.cell? ⟨g5, 0, none⟩ = some (.int .i64 0) := blk_cell K5 0
      have c1' : w6.cell? ⟨g5, 1, none⟩ = some (.slice none 0 0) := blk_cell K5 1
      have c2' : w6.cell? ⟨g5, 2, none⟩ = some (.slice none 0 0) := blk_cell K5 2
      have f0' : w6.frozen? ⟨g5, 0, none⟩ = false := blk_frozen K5 0
      have f1' : w6.frozen? ⟨g5, 1, none⟩ = false := blk_frozen K5 1
      have f2' : w6.frozen? ⟨g5, 2, none⟩ = false := blk_frozen K5 2
      refine RegInv.op_skip (by rfl) rfl (w' := set3 w6 g5 (.int .i64 bl.f0) (.slice none 0 0) (.slice PN mN dN)) ?run ?_
      case run =>
        unfold execOp set3
        go_simp
      clear c0' c1' c2' f0' f1' f2'
      have hs3 := set3_grown w6 g5 (.int .i64 bl.f0) (.slice none 0 0) (.slice PN mN dN)
      have hbs : Below wr.heap.size wr (set3 w6 g5 (.int .i64 bl.f0) (.slice none 0 0) (.slice PN mN dN)) := hb6.grown hs3 hb6.size (fun q hq => by injection hq with hq; omega)
      have HK5 := Aside0.mk (set3_blk K5 (.int .i64 bl.f0) (.slice none 0 0) (.slice PN mN dN))
      have HV := Aside0.mk (set3_R hvn K5 (by decide) (.int .i64 bl.f0) (.slice none 0 0) (.slice PN mN dN))
      have HBS := Aside0.mk hbs
      have HG5 := Aside0.mk hg5
      clear hs3 hbs hb6 hvn K5 hg5
      generalize set3 w6 g5 (.int .i64 bl.f0) (.slice none 0 0) (.slice PN mN dN) = w7 at *
      generalize vs 0 = t0
      generalize vs 1 = t1
      generalize vs 2 = t2
      generalize vs 3 = t3
      generalize vs 4 = t4
      generalize vs 5 = t5
      generalize vs 6 = t6
      generalize vs 7 = t7
      generalize vs 8 = t8
      generalize vs 9 = t9
      generalize vs 10 = t10
      generalize vs 11 = t11
      generalize vs 12 = t12
      refine hK _ _ ?_
      clear hK HX
      have q2 : w7.cell? ⟨g0, 2, none⟩ = some (.slice (some a2) l.length c2) := blk_cell (blk_below HI0.out HBS.out) 2
      have x1 := pw_cell_below HBS.out X3.out
      go_wp2_with (fail)
      refine (refblock_calls A1 c1 bl.f1 w7 (Kd.C_below XI.out.1 HBS.out) XI.out.2 HIN.out HEA.out).mono ?_
      rintro e w8 ⟨vI, rfl, hRI, b8⟩
      obtain ⟨PI, mI, dI, rfl⟩ : ∃ P m d, vI = .slice P m d := let ⟨A, c, h, _⟩ := Kd.R_reads hRI; ⟨_, _, _, h⟩
      clear q2 x1
      have hk5 := blk_below HK5.out b8
      have y1 : w8.cell? ⟨g5, 1, none⟩ = some (.slice none 0 0) := blk_cell hk5 1
      have f1 := blk_frozen hk5 1
      have HW8 := Aside0.mk (wB HBS.out b8)
      have HRI := Aside0.mk (Kd.R_set (Kd.R_lower hRI HBS.out.size) hk5 (by decide) 1 (.slice PI mI dI))
      have HRV := Aside0.mk (Kd.R_set (Kd.R_below HV.out b8) hk5 (by decide) 1 (.slice PI mI dI))
      have HK9 := Aside0.mk (blk_put hk5 1 (.slice PI mI dI) (cs' := #[.int .i64 bl.f0, .slice PI mI dI, .slice PN mN dN]) rfl)
      have HB9 := Aside0.mk (below_set (j := 1) (v := .slice PI mI dI) HW8.out HG5.out)
      clear hRI hk5 b8 HV HK5 HBS HW8
      go_upto_region 7 with (fail)
      clear y1 f1
      generalize w8.setCell ⟨g5, 1, none⟩ (.slice PI mI dI) = w9 at *
      have z0 : w9.cell? ⟨g5, 0, none⟩ = some (.int .i64 bl.f0) := blk_cell HK9.out 0
      have z1 : w9.cell? ⟨g5, 1, none⟩ = some (.slice PI mI dI) := blk_cell HK9.out 1
      have z2 : w9.cell? ⟨g5, 2, none⟩ = some (.slice PN mN dN) := blk_cell HK9.out 2
      have p2 : w9.cell? ⟨g2, 2, none⟩ = some (.slice PO k dO) := by
        have h := HI2.out
        rw [List.length_take, Nat.min_eq_left (Nat.le_of_lt hlt)] at h
        exact blk_cell (blk_below h HB9.out) 2
      have HBW := Aside0.mk (wB HB.out HB9.out)
      have HRO := Aside0.mk (Kd.R_below HR.out HB9.out)
      have HMK := Aside0.mk (show k43.M w9 w.heap.size (fun q => wr.heap.size ≤ q) (blockS bl) [.int .i64 bl.f0, .slice PI mI dI, .slice PN mN dN] by
        have h1 := Kd.R_lower (Kd.R_mono (ok' := fun q => wr.heap.size ≤ q) (Kd.R_bound HRI.out) (fun q hq => hq.2.1)) HB.out.size
        have h2 := Kd.R_lower (Kd.R_mono (ok' := fun q => wr.heap.size ≤ q) (Kd.R_bound HRV.out) (fun q hq => hq.2.1)) HB.out.size
        have e : (stAt bl.f1 bl.f1.length).2 = (blockS bl).f1 := by rw [blockS_at]
        rw [e] at h1
        exact k43_mkM w9 w.heap.size _ (blockS bl) h1 h2)
      have HOL := Aside0.mk (fun q (hq : (Value.slice PO k dO).ownBlock = some q) => show q < wr.heap.size from Kd.R_lt HR.out q (by rw [List.length_take, Nat.min_eq_left (Nat.le_of_lt hlt)]; exact hq))
      rw [List.length_take, Nat.min_eq_left (Nat.le_of_lt hlt)] at HRO HI2
      have hlen9 := hlen
      go_wp2_with (first | ((with_reducible refine gate_builtin (b := .append) rfl ?_); refine Classical.byContradiction (fun hcon => ?hst)) | go_in)
      refine hcon ?_
      clear hcon p2 z0 z1 z2
      refine Kd.R_append k43 (w0 := w) w.heap.size rfl _ _ 22 43 (.agg #[(.int .i64 0), (.slice none 0 0), (.slice none 0 0)]) 56 rfl Try.underlying22 (by kernel_rfl) rfl (by decide) (by decide) (.slice PO k dO) ((l.take k).map blockS) (blockS bl) [.int .i64 bl.f0, .slice PI mI dI, .slice PN mN dN] (fun _ => True) _ rfl rfl HMK.out (fun q hq => ⟨trivial, fun he => by have := HOL.out q he.symm; omega⟩) (fun _ _ => trivial) HRO.out HBW.out HBW.out.size (by have := HOK.out.len; rw [List.length_map, List.length_take]; omega) ?_
      intro v1 w12 hR1 hB1 hg1 _
      obtain ⟨P1, m1, d1, rfl⟩ : ∃ P m d, v1 = .slice P m d := let ⟨A, c, h, _⟩ := Kd.R_reads hR1; ⟨_, _, _, h⟩
      have e : (l.take k).map blockS ++ [blockS bl] = (l.take (k + 1)).map blockS := by
        obtain ⟨hkl, hke⟩ := List.getElem?_eq_some_iff.1 HM.out
        rw [List.take_succ_eq_append_getElem hkl, List.map_append, hke]; rfl
      rw [e] at hR1
      have k0 := blk_grown (blk_below HI0.out HB9.out) hg1 (Kd.R_ne HRO.out (blk_below HI0.out HB9.out) (by decide))
      have k1 := blk_grown (blk_below HI1.out HB9.out) hg1 (Kd.R_ne HRO.out (blk_below HI1.out HB9.out) (by decide))
      have k2 := blk_grown (blk_below HI2.out HB9.out) hg1 (Kd.R_ne HRO.out (blk_below HI2.out HB9.out) (by decide))
      have p2 : w12.cell? ⟨g2, 2, none⟩ = some (.slice PO k dO) := blk_cell k2 2
      have f2 := blk_frozen k2 2
      have n0 : g0 ≠ g2 := HN0.out
      have n1 : g1 ≠ g2 := Nat.ne_of_lt G2.out.1
      have HQ := Aside0.mk (And.intro (Kd.R_set hR1 k2 (by decide) 2 (.slice P1 m1 d1)) (And.intro (blk_far k0 (p := ⟨g2, 2, none⟩) n0 (.slice P1 m1 d1)) (And.intro (blk_far k1 (p := ⟨g2, 2, none⟩) n1 (.slice P1 m1 d1)) (And.intro (blk_put k2 2 (.slice P1 m1 d1) (cs' := #[.int .i64 a, .int .i64 b, .slice P1 m1 d1]) rfl) (below_set (j := 2) (v := .slice P1 m1 d1) hB1 G2.out.2)))))
      clear hR1 hB1 hg1 k0 k1 k2 n0 n1 HRO HMK e
      go_wp2
      go_roundw
      case rel => exact ⟨k + 1, by omega, by go_num, _, HQ.out.1, HQ.out.2.1, HQ.out.2.2.1, HQ.out.2.2.2.1, HQ.out.2.2.2.2⟩
      case measure => simp [intOf]; omega
    · obtain rfl : k = l.length := by omega
      have q0 : wr.cell? ⟨g2, 0, none⟩ = some (.int .i64 a) := blk_cell HI2.out 0
      have q1 : wr.cell? ⟨g2, 1, none⟩ = some (.int .i64 b) := blk_cell HI2.out 1
      have q3 : wr.cell? ⟨g2, 2, none⟩ = some (.slice PO (l.take l.length).length dO) := blk_cell HI2.out 2
      have p0 : wr.cell? ⟨g1, 0, none⟩ = some (.int .i64 0) := blk_cell HI1.out 0
      have p1 : wr.cell? ⟨g1, 1, none⟩ = some (.int .i64 0) := blk_cell HI1.out 1
      have p2 : wr.cell? ⟨g1, 2, none⟩ = some (.slice none 0 0) := blk_cell HI1.out 2
      have f0 := blk_frozen HI1.out 0
      have f1 := blk_frozen HI1.out 1
      have f2 := blk_frozen HI1.out 2
      clear hR i0 i1 i2 hB
      go_wp2
      have hE : ∀ a0 a1 a2, ((wr.setCell ⟨g1, 0, none⟩ a0).setCell ⟨g1, 1, none⟩ a1).setCell ⟨g1, 2, none⟩ a2 = set3 wr g1 a0 a1 a2 := fun _ _ _ => rfl
      rw [hE]
      clear hE
      refine bodyPost_ret (results_single (fn := Try.f9) (r := .cell 2 24) rfl (.cell g1 24 #[.int .i64 a, .int .i64 b, .slice PO l.length dO] (0, 0) _ rfl (set3_blk HI1.out _ _ _) Try.underlying24 rfl (by kernel_rfl) .nil)) rfl ?_
      have hr := HR.out
      rw [List.take_length] at hr
      exact ⟨_, rfl, set3_R hr HI1.out (by decide) _ _ _, HB.out.grown (set3_grown _ _ _ _ _) HB.out.size (fun q hq => by have := HL1.out; injection hq with hq; omega)⟩
end Go.Proofs.Ytjekpkpmoanadaa.PCop
/- What OverRegs leaves: lists that are written over, each in its place: each cell is what it was or is spoilt, and leads to a list that there was, or to none. -/
namespace Go.Proofs.Ytjekpkpmoanadaa.PCop
open Go.RowKit Go.Proofs.Ytjekpkpmoanadaa.Lit Go.Proofs.Ytjekpkpmoanadaa.OwnCells Go.Proofs.YtjekpkpmoanadaaW.PrintWords Go.Proofs.YtjekpkpmoanadaaW.PrintLast Go.Proofs.YtjekpkpmoanadaaW.PrintMore
set_option linter.unusedVariables false
set_option linter.unusedSimpArgs false
def Q49 (w0 : World) (b e : Nat) (v : Value) : Prop := ∃ xs, k49.R 49 w0 b (fun k => k < e) v xs
def Q3 (w0 : World) (b e : Nat) (v : Value) : Prop := ∃ xs, (Kd.int .i64).R 3 w0 b (fun k => k < e) v xs
def Q65 (w0 : World) (b e : Nat) (v : Value) : Prop := ∃ xs, k65.R 65 w0 b (fun k => k < e) v xs
def Q47 (w0 : World) (b e : Nat) (v : Value) : Prop := ∃ xs, k47.R 47 w0 b (fun k => k < e) v xs
def Q43 (w0 : World) (b e : Nat) (v : Value) : Prop := ∃ xs, k43.R 43 w0 b (fun k => k < e) v xs
structure Spoil (w0 : World) (b e : Nat) (w : World) : Prop where
  but : But (fun k => b ≤ k ∧ k < e) w0 w
  ty : ∀ (k : Nat) (cs : Array Value) (t : Nat), w0.heap[k]? = some (.cells cs t (0, 0)) → ∃ cs', w.heap[k]? = some (.cells cs' t (0, 0)) ∧ cs'.size = cs.size
  i43 : ∀ g n c, Q43 w0 b e (.slice (some ⟨g, 0, none⟩) n c) → ∀ j, j < n → ∃ x0 v1 v2, w.cell? ⟨g, j * 3, none⟩ = some (.int .i64 x0) ∧ w.cell? ⟨g, j * 3 + 1, none⟩ = some v1 ∧ w.cell? ⟨g, j * 3 + 2, none⟩ = some v2 ∧ Q47 w0 b e v1 ∧ Q3 w0 b e v2
  i47 : ∀ g n c, Q47 w0 b e (.slice (some ⟨g, 0, none⟩) n c) → ∀ j, j < n → ∃ x0 x1 x2 v3 x4 x5 x6 v7, w.cell? ⟨g, j * 8, none⟩ = some (.int .i64 x0) ∧ w.cell? ⟨g, j * 8 + 1, none⟩ = some (.int .i64 x1) ∧ w.cell? ⟨g, j * 8 + 2, none⟩ = some (.int .i64 x2) ∧ w.cell? ⟨g, j * 8 + 3, none⟩ = some v3 ∧ w.cell? ⟨g, j * 8 + 4, none⟩ = some (.int .i64 x4) ∧ w.cell? ⟨g, j * 8 + 5, none⟩ = some (.int .i64 x5) ∧ w.cell? ⟨g, j * 8 + 6, none⟩ = some (.int .i64 x6) ∧ w.cell? ⟨g, j * 8 + 7, none⟩ = some v7 ∧ Q49 w0 b e v3 ∧ Q65 w0 b e v7
  i65 : ∀ g n c, Q65 w0 b e (.slice (some ⟨g, 0, none⟩) n c) → ∀ j, j < n → ∃ x0 x1 v2, w.cell? ⟨g, j * 3, none⟩ = some (.int .i64 x0) ∧ w.cell? ⟨g, j * 3 + 1, none⟩ = some (.int .i64 x1) ∧ w.cell? ⟨g, j * 3 + 2, none⟩ = some v2 ∧ Q49 w0 b e v2
section
variable {w0 w : World} {b e : Nat}
theorem q49_nil : Q49 w0 b e (.slice none 0 0) := ⟨[], Kd.R_nil _ _ _ _ _⟩
theorem q3_nil : Q3 w0 b e (.slice none 0 0) := ⟨[], Kd.R_nil _ _ _ _ _⟩
theorem q65_nil : Q65 w0 b e (.slice none 0 0) := ⟨[], Kd.R_nil _ _ _ _ _⟩
theorem q47_nil : Q47 w0 b e (.slice none 0 0) := ⟨[], Kd.R_nil _ _ _ _ _⟩
/-- what a row of one's own is like -/
theorem q_form {α : Type} {d : Kd α} {t : Nat} {ok : Nat → Prop} {v : Value} {xs : List α} (h : d.R t w0 b ok v xs) : (v = .slice none 0 0) ∨ ∃ g n c cs, v = .slice (some ⟨g, 0, none⟩) n c ∧ b ≤ g ∧ ok g ∧ w0.heap[g]? = some (.cells cs t (0, 0)) ∧ n ≤ c ∧ c ≤ maxLen ∧ cs.size = c * d.sz := by
  obtain ⟨h0, inner, ho, _⟩ := h
  rcases ho.2 with ⟨rfl, _⟩ | ⟨g, cap, cur, rfl, hb, hg, h1, h2, h3, _⟩
  · exact .inl rfl
  · exact .inr ⟨g, _, cap, cur, rfl, hb, h0 g rfl, hg, h1, h2, h3⟩
theorem Spoil.start : Spoil w0 b e w0 where
  but := But.refl _ _
  ty := fun k cs t h => ⟨cs, h, rfl⟩
  i43 := fun g n c ⟨xs, h⟩ j hj => by
    obtain ⟨c', hl, hM, hc, _⟩ := Kd.R_elem h z43 (j : Int) (by omega) (by omega)
    obtain ⟨v1, v2, rfl, h1, h2⟩ := k43_openM hM
    rw [Int.toNat_natCast] at hc
    exact ⟨_, v1, v2, hc 0 _ rfl, hc 1 _ rfl, hc 2 _ rfl, ⟨_, Kd.R_mono h1 (fun k hk => hk.1)⟩, ⟨_, Kd.R_mono h2 (fun k hk => hk.1)⟩⟩
  i47 := fun g n c ⟨xs, h⟩ j hj => by
    obtain ⟨c', hl, hM, hc, _⟩ := Kd.R_elem h z47 (j : Int) (by omega) (by omega)
    obtain ⟨v3, v7, rfl, h1, h2⟩ := k47_openM hM
    rw [Int.toNat_natCast] at hc
    exact ⟨_, _, _, v3, _, _, _, v7, hc 0 _ rfl, hc 1 _ rfl, hc 2 _ rfl, hc 3 _ rfl, hc 4 _ rfl, hc 5 _ rfl, hc 6 _ rfl, hc 7 _ rfl, ⟨_, Kd.R_mono h1 (fun k hk => hk.1)⟩, ⟨_, Kd.R_mono h2 (fun k hk => hk.1)⟩⟩
  i65 := fun g n c ⟨xs, h⟩ j hj => by
    obtain ⟨c', hl, hM, hc, _⟩ := Kd.R_elem h z65 (j : Int) (by omega) (by omega)
    obtain ⟨v2, rfl, h1⟩ := k65_openM hM
    rw [Int.toNat_natCast] at hc
    exact ⟨_, _, v2, hc 0 _ rfl, hc 1 _ rfl, hc 2 _ rfl, ⟨_, Kd.R_mono h1 (fun k hk => hk.1)⟩⟩
/-- a block of another type, or another block: its cells stay -/
theorem cell_out {g g' o o' : Nat} (vs : List Value) {u : Value} (hc : w.cell? ⟨g', o', none⟩ = some u) (hne : g' ≠ g ∨ o' < o ∨ o + vs.length ≤ o') : (w.setCells g o vs).cell? ⟨g', o', none⟩ = some u := by
  rw [World.cell?_setCells_out g vs o w ⟨g', o', none⟩ (fun h _ => by rcases hne with h1 | h1; exact absurd h h1; exact h1)]
  exact hc
theorem cell_in {g o : Nat} (vs : List Value) (hs : ∀ j, j < vs.length → ∃ u, w.cell? ⟨g, o + j, none⟩ = some u) {j : Nat} {u : Value} (hu : vs[j]? = some u) : (w.setCells g o vs).cell? ⟨g, o + j, none⟩ = some u := by
  obtain ⟨hj, rfl⟩ := List.getElem?_eq_some_iff.1 hu
  exact World.cell?_setCells_in g vs o w (fun j hj => by obtain ⟨u, hu⟩ := hs j hj; rw [hu]; rfl) j hj
/-- something is written into a block of type t -/
theorem Spoil.put (h : Spoil w0 b e w) {g o t : Nat} {cs : Array Value} (hg : w0.heap[g]? = some (.cells cs t (0, 0))) (hb : b ≤ g) (he : g < e) (vs : List Value) (ho : o + vs.length ≤ cs.size)
    (h43 : t = 43 → ∃ j x v1 v2, o = j * 3 ∧ vs = [.int .i64 x, v1, v2] ∧ Q47 w0 b e v1 ∧ Q3 w0 b e v2)
    (h47 : t = 47 → ∃ j x0 x1 x2 v3 x4 x5 x6 v7, o = j * 8 ∧ vs = [.int .i64 x0, .int .i64 x1, .int .i64 x2, v3, .int .i64 x4, .int .i64 x5, .int .i64 x6, v7] ∧ Q49 w0 b e v3 ∧ Q65 w0 b e v7)
    (h65 : t = 65 → ∃ j x0 x1 v2, o = j * 3 ∧ vs = [.int .i64 x0, .int .i64 x1, v2] ∧ Q49 w0 b e v2) : Spoil w0 b e (w.setCells g o vs) := by
  obtain ⟨cs', hg', hsz⟩ := h.ty g cs t hg
  have hin : ∀ j, j < vs.length → ∃ u, w.cell? ⟨g, o + j, none⟩ = some u := fun j hj => by
    have hlt : o + j < cs'.size := by omega
    exact ⟨cs'[o + j], by unfold World.cell?; simp [hg', hlt]⟩
  obtain ⟨s1, s2, s3, s4⟩ := setCells_same g vs o w
  refine ⟨?_, ?_, ?_, ?_, ?_⟩
  · refine h.but.trans (w2 := w.setCells g o vs) (T := fun k => k = g) ⟨s1, s2, s3, by omega, fun k hk hn => setCells_far vs o k hn⟩ (fun k hk => .inl (by subst hk; exact ⟨hb, he⟩))
  · intro k c1 t1 hk
    obtain ⟨c2, h2, h3⟩ := h.ty k c1 t1 hk
    by_cases hkg : k = g
    · subst hkg
      rw [hg] at hk
      injection hk with hk
      injection hk with hk1 hk2
      subst hk1 hk2
      obtain ⟨c4, h4, h5, _⟩ := setCells_row vs o w cs' hg' (by omega)
      exact ⟨c4, h4, by omega⟩
    · exact ⟨c2, (setCells_far vs o k hkg).trans h2, h3⟩
  · intro g' n c hq j hj
    obtain ⟨x0, v1, v2, c0, c1, c2, q1, q2⟩ := h.i43 g' n c hq j hj
    by_cases hgg : g' = g
    · subst hgg
      obtain ⟨xs, hr⟩ := hq
      obtain ⟨cc, hcc⟩ := Kd.R_typed hr g' rfl
      rw [hg] at hcc
      injection hcc with hcc
      injection hcc with _ hcc
      obtain ⟨j', x, u1, u2, rfl, rfl, p1, p2⟩ := h43 hcc
      by_cases hjj : j = j'
      · subst hjj
        exact ⟨x, u1, u2, cell_in _ hin (j := 0) rfl, cell_in _ hin (j := 1) rfl, cell_in _ hin (j := 2) rfl, p1, p2⟩
      · exact ⟨x0, v1, v2, cell_out _ c0 (.inr (by simp; omega)), cell_out _ c1 (.inr (by simp; omega)), cell_out _ c2 (.inr (by simp; omega)), q1, q2⟩
    · exact ⟨x0, v1, v2, cell_out _ c0 (.inl hgg), cell_out _ c1 (.inl hgg), cell_out _ c2 (.inl hgg), q1, q2⟩
  · intro g' n c hq j hj
    obtain ⟨x0, x1, x2, v3, x4, x5, x6, v7, c0, c1, c2, c3, c4, c5, c6, c7, q1, q2⟩ := h.i47 g' n c hq j hj
    by_cases hgg : g' = g
    · subst hgg
      obtain ⟨xs, hr⟩ := hq
      obtain ⟨cc, hcc⟩ := Kd.R_typed hr g' rfl
      rw [hg] at hcc
      injection hcc with hcc
      injection hcc with _ hcc
      obtain ⟨j', y0, y1, y2, u3, y4, y5, y6, u7, rfl, rfl, p1, p2⟩ := h47 hcc
      by_cases hjj : j = j'
      · subst hjj
        exact ⟨y0, y1, y2, u3, y4, y5, y6, u7, cell_in _ hin (j := 0) rfl, cell_in _ hin (j := 1) rfl, cell_in _ hin (j := 2) rfl, cell_in _ hin (j := 3) rfl, cell_in _ hin (j := 4) rfl, cell_in _ hin (j := 5) rfl, cell_in _ hin (j := 6) rfl, cell_in _ hin (j := 7) rfl, p1, p2⟩
      · exact ⟨x0, x1, x2, v3, x4, x5, x6, v7, cell_out _ c0 (.inr (by simp; omega)), cell_out _ c1 (.inr (by simp; omega)), cell_out _ c2 (.inr (by simp; omega)), cell_out _ c3 (.inr (by simp; omega)), cell_out _ c4 (.inr (by simp; omega)), cell_out _ c5 (.inr (by simp; omega)), cell_out _ c6 (.inr (by simp; omega)), cell_out _ c7 (.inr (by simp; omega)), q1, q2⟩
    · exact ⟨x0, x1, x2, v3, x4, x5, x6, v7, cell_out _ c0 (.inl hgg), cell_out _ c1 (.inl hgg), cell_out _ c2 (.inl hgg), cell_out _ c3 (.inl hgg), cell_out _ c4 (.inl hgg), cell_out _ c5 (.inl hgg), cell_out _ c6 (.inl hgg), cell_out _ c7 (.inl hgg), q1, q2⟩
  · intro g' n c hq j hj
    obtain ⟨x0, x1, v2, c0, c1, c2, q1⟩ := h.i65 g' n c hq j hj
    by_cases hgg : g' = g
    · subst hgg
      obtain ⟨xs, hr⟩ := hq
      obtain ⟨cc, hcc⟩ := Kd.R_typed hr g' rfl
      rw [hg] at hcc
      injection hcc with hcc
      injection hcc with _ hcc
      obtain ⟨j', y0, y1, u2, rfl, rfl, p1⟩ := h65 hcc
      by_cases hjj : j = j'
      · subst hjj
        exact ⟨y0, y1, u2, cell_in _ hin (j := 0) rfl, cell_in _ hin (j := 1) rfl, cell_in _ hin (j := 2) rfl, p1⟩
      · exact ⟨x0, x1, v2, cell_out _ c0 (.inr (by simp; omega)), cell_out _ c1 (.inr (by simp; omega)), cell_out _ c2 (.inr (by simp; omega)), q1⟩
    · exact ⟨x0, x1, v2, cell_out _ c0 (.inl hgg), cell_out _ c1 (.inl hgg), cell_out _ c2 (.inl hgg), q1⟩
theorem Spoil.below (h : Spoil w0 b e w) {w1 : World} (hb : Below w.heap.size w w1) (he : e ≤ w0.heap.size) : Spoil w0 b e w1 where
  but := h.but.trans (But.of_below hb) (fun k hk => hk.elim)
  ty := fun k cs t hk => by
    obtain ⟨c2, h2, h3⟩ := h.ty k cs t hk
    exact ⟨c2, blk_below h2 hb, h3⟩
  i43 := fun g n c hq j hj => by
    obtain ⟨x0, v1, v2, c0, c1, c2, q⟩ := h.i43 g n c hq j hj
    exact ⟨x0, v1, v2, pw_cell_below hb c0, pw_cell_below hb c1, pw_cell_below hb c2, q⟩
  i47 := fun g n c hq j hj => by
    obtain ⟨x0, x1, x2, v3, x4, x5, x6, v7, c0, c1, c2, c3, c4, c5, c6, c7, q⟩ := h.i47 g n c hq j hj
    exact ⟨x0, x1, x2, v3, x4, x5, x6, v7, pw_cell_below hb c0, pw_cell_below hb c1, pw_cell_below hb c2, pw_cell_below hb c3, pw_cell_below hb c4, pw_cell_below hb c5, pw_cell_below hb c6, pw_cell_below hb c7, q⟩
  i65 := fun g n c hq j hj => by
    obtain ⟨x0, x1, v2, c0, c1, c2, q⟩ := h.i65 g n c hq j hj
    exact ⟨x0, x1, v2, pw_cell_below hb c0, pw_cell_below hb c1, pw_cell_below hb c2, q⟩
end
end Go.Proofs.Ytjekpkpmoanadaa.PCop
/- OverRegs' contract: what is handed in is written over in its place; nothing else is written. For every world. -/
namespace Go.Proofs.Ytjekpkpmoanadaa.PCop
open Go.RowKit Go.Proofs.Ytjekpkpmoanadaa.Lit Go.Proofs.Ytjekpkpmoanadaa.OwnCells Go.Proofs.YtjekpkpmoanadaaW.PrintWords Go.Proofs.YtjekpkpmoanadaaW.PrintLast Go.Proofs.YtjekpkpmoanadaaW.PrintMore
set_option linter.unusedVariables false
set_option linter.unusedSimpArgs false
theorem r_slice {α : Type} {d : Kd α} {t b : Nat} {w0 : World} {ok : Nat → Prop} {v : Value} {xs : List α} (h : d.R t w0 b ok v xs) : ∃ A n c, v = .slice A n c ∧ n ≤ 9223372036854775807 := by
  rcases q_form h with rfl | ⟨g, n, c, cs, rfl, _, _, _, h1, h2, _⟩
  · exact ⟨_, _, _, rfl, Nat.zero_le _⟩
  · exact ⟨_, _, _, rfl, Nat.le_trans (Nat.le_trans h1 h2) (by decide)⟩
theorem r_len {α : Type} {d : Kd α} {t b : Nat} {w0 : World} {ok : Nat → Prop} {A : Option Addr} {n c : Nat} {xs : List α} (h : d.R t w0 b ok (.slice A n c) xs) : n ≤ 9223372036854775807 := by
  obtain ⟨_, _, _, h0, h1⟩ := r_slice h
  injection h0 with _ h2 _
  omega
theorem r_at {α : Type} {d : Kd α} {t b : Nat} {w0 : World} {ok : Nat → Prop} {A : Option Addr} {n c : Nat} {xs : List α} (h : d.R t w0 b ok (.slice A n c) xs) (hn : 0 < n) : ∃ g cs, A = some ⟨g, 0, none⟩ ∧ b ≤ g ∧ ok g ∧ w0.heap[g]? = some (.cells cs t (0, 0)) ∧ n * d.sz ≤ cs.size := by
  rcases q_form h with h0 | ⟨g, n', c', cs, h0, hb, ho, hg, h1, h2, h3⟩
  · injection h0 with _ h0 _; omega
  · injection h0 with h4 h5 h6
    subst h5 h6
    exact ⟨g, cs, h4, hb, ho, hg, by rw [h3]; exact Nat.mul_le_mul_right _ h1⟩
structure Ov (w0 : World) (b e : Nat) (g1 : Nat) (C1 : Obj) (g3 : Nat) (C3 : Obj) (w : World) : Prop where
  sp : Spoil w0 b e w
  k1 : w.heap[g1]? = some C1
  k3 : w.heap[g3]? = some C3
  l1 : e ≤ g1
  l3 : e ≤ g3
section
variable {w0 w w1 : World} {b e g1 g3 : Nat} {C1 C3 : Obj}
theorem Ov.below (h : Ov w0 b e g1 C1 g3 C3 w) (hb : Below w.heap.size w w1) (he : e ≤ w0.heap.size) : Ov w0 b e g1 C1 g3 C3 w1 := ⟨h.sp.below hb he, blk_below h.k1 hb, blk_below h.k3 hb, h.l1, h.l3⟩
theorem Ov.put3 (h : Ov w0 b e g1 C1 g3 C3 w) {g o : Nat} {cs : Array Value} (hg : w0.heap[g]? = some (.cells cs 3 (0, 0))) (hb : b ≤ g) (he : g < e) (u : Value) (ho : o + 1 ≤ cs.size) : Ov w0 b e g1 C1 g3 C3 (w.setCell ⟨g, o, none⟩ u) :=
  ⟨h.sp.put hg hb he [u] ho (fun h => by cases h) (fun h => by cases h) (fun h => by cases h), (setCells_far [u] o g1 (by have := h.l1; omega)).trans h.k1, (setCells_far [u] o g3 (by have := h.l3; omega)).trans h.k3, h.l1, h.l3⟩
theorem Ov.put49 (h : Ov w0 b e g1 C1 g3 C3 w) {g o : Nat} {cs : Array Value} (hg : w0.heap[g]? = some (.cells cs 49 (0, 0))) (hb : b ≤ g) (he : g < e) (u0 u1 : Value) (ho : o + 2 ≤ cs.size) : Ov w0 b e g1 C1 g3 C3 (w.setCells g o [u0, u1]) :=
  ⟨h.sp.put hg hb he [u0, u1] ho (fun h => by cases h) (fun h => by cases h) (fun h => by cases h), (setCells_far _ o g1 (by have := h.l1; omega)).trans h.k1, (setCells_far _ o g3 (by have := h.l3; omega)).trans h.k3, h.l1, h.l3⟩
theorem Ov.put65 (h : Ov w0 b e g1 C1 g3 C3 w) {g j : Nat} {cs : Array Value} (hg : w0.heap[g]? = some (.cells cs 65 (0, 0))) (hb : b ≤ g) (he : g < e) (x0 x1 : Int) (ho : j * 3 + 3 ≤ cs.size) : Ov w0 b e g1 C1 g3 C3 (w.setCells g (j * 3) [.int .i64 x0, .int .i64 x1, .slice none 0 0]) :=
  ⟨h.sp.put hg hb he _ ho (fun h => by cases h) (fun h => by cases h) (fun _ => ⟨j, x0, x1, _, rfl, rfl, q49_nil⟩), (setCells_far _ _ g1 (by have := h.l1; omega)).trans h.k1, (setCells_far _ _ g3 (by have := h.l3; omega)).trans h.k3, h.l1, h.l3⟩
theorem Ov.put47 (h : Ov w0 b e g1 C1 g3 C3 w) {g j : Nat} {cs : Array Value} (hg : w0.heap[g]? = some (.cells cs 47 (0, 0))) (hb : b ≤ g) (he : g < e) (x0 x1 x2 x4 x5 x6 : Int) (ho : j * 8 + 8 ≤ cs.size) : Ov w0 b e g1 C1 g3 C3 (w.setCells g (j * 8) [.int .i64 x0, .int .i64 x1, .int .i64 x2, .slice none 0 0, .int .i64 x4, .int .i64 x5, .int .i64 x6, .slice none 0 0]) :=
  ⟨h.sp.put hg hb he _ ho (fun h => by cases h) (fun _ => ⟨j, x0, x1, x2, _, x4, x5, x6, _, rfl, rfl, q49_nil, q65_nil⟩) (fun h => by cases h), (setCells_far _ _ g1 (by have := h.l1; omega)).trans h.k1, (setCells_far _ _ g3 (by have := h.l3; omega)).trans h.k3, h.l1, h.l3⟩
theorem Ov.put43 (h : Ov w0 b e g1 C1 g3 C3 w) {g j : Nat} {cs : Array Value} (hg : w0.heap[g]? = some (.cells cs 43 (0, 0))) (hb : b ≤ g) (he : g < e) (x0 : Int) (ho : j * 3 + 3 ≤ cs.size) : Ov w0 b e g1 C1 g3 C3 (w.setCells g (j * 3) [.int .i64 x0, .slice none 0 0, .slice none 0 0]) :=
  ⟨h.sp.put hg hb he _ ho (fun _ => ⟨j, x0, _, _, rfl, rfl, q47_nil, q3_nil⟩) (fun h => by cases h) (fun h => by cases h), (setCells_far _ _ g1 (by have := h.l1; omega)).trans h.k1, (setCells_far _ _ g3 (by have := h.l3; omega)).trans h.k3, h.l1, h.l3⟩
/-- a cell that there is -/
theorem Ov.cell (h : Ov w0 b e g1 C1 g3 C3 w) {g o t : Nat} {cs : Array Value} (hg : w0.heap[g]? = some (.cells cs t (0, 0))) (ho : o < cs.size) : (∃ u, w.cell? ⟨g, o, none⟩ = some u) ∧ w.frozen? ⟨g, o, none⟩ = false := by
  obtain ⟨cs', hg', hs⟩ := h.sp.ty g cs t hg
  have hlt : o < cs'.size := by omega
  exact ⟨⟨cs'[o], by unfold World.cell?; simp [hg', hlt]⟩, blk_frozen hg' o⟩
end
set_option maxHeartbeats 8000000 in
set_option maxRecDepth 100000 in
theorem over_calls (fn regs : Int) (PB : Option Addr) (n cB : Nat) (w : World) (b e : Nat) (hq : Q43 w b e (.slice PB n cB)) (he : e ≤ w.heap.size) :
    Calls Try.prog 14 #[.agg #[.int .i64 fn, .int .i64 regs, .slice PB n cB]] w fun ex w' => ∃ r, ex = .returned r ∧ But (fun k => b ≤ k ∧ k < e) w w' := by
  have HQ := Aside0.mk hq
  have HE := Aside0.mk he
  obtain ⟨xsB, hRB⟩ := hq
  have HN := Aside0.mk (r_len hRB)
  have HRB := Aside0.mk hRB
  clear hRB he
  go_enter Try.func14, Try.ntmps14
  go_upto_region 1 with (fail)
  have hb1 := below_alloc (Below.refl _ w) (.cells #[.int .i64 fn, .int .i64 regs, .slice PB n cB] 24)
  have K1 := blk_new w (.cells #[.int .i64 fn, .int .i64 regs, .slice PB n cB] 24)
  have HO := Aside0.mk (Ov.mk ((Spoil.start (w0 := w) (b := b) (e := e)).below hb1 HE.out) K1 K1 HE.out HE.out)
  clear hb1 K1
  generalize w.alloc (.cells #[.int .i64 fn, .int .i64 regs, .slice PB n cB] 24) = w1 at *
  obtain ⟨g1, hg1⟩ : ∃ g1, g1 = w.heap.size := ⟨_, rfl⟩
  rw [← hg1] at HO ⊢
  clear hg1
  go_wp2_with (fail)
  go_loopw [2, 3, 4, 5, 6, 7, 8] (fun t _ _ _ _ _ _ wr => ∃ i : Nat, i ≤ n ∧ t = .int .i64 i ∧ Ov w b e g1 (.cells #[.int .i64 fn, .int .i64 regs, .slice PB n cB] 24 (0, 0)) g1 (.cells #[.int .i64 fn, .int .i64 regs, .slice PB n cB] 24 (0, 0)) wr) (fun t _ _ _ _ _ _ _ => n - (intOf t).toNat)
  case atStart => exact ⟨0, Nat.zero_le _, rfl, HO.out⟩
  case round =>
    obtain ⟨i, hi, rfl, ho⟩ := hrel
    have qb : wr.cell? ⟨g1, 2, none⟩ = some (.slice PB n cB) := blk_cell ho.k1 2
    have HO2 := Aside0.mk ho
    clear ho HO
    by_cases hlti : i < n
    · obtain ⟨gB, csB, rfl, hbB, heB, hgB, hsB⟩ := r_at HRB.out (by omega)
      have HGB := Aside0.mk (And.intro hbB (And.intro heB (And.intro hgB (show n * 3 ≤ csB.size from hsB))))
      clear hbB heB hgB hsB
      obtain ⟨x0, v1, v2, c0, c1, c2, q1, q2⟩ := HO2.out.sp.i43 gB n cB HQ.out i hlti
      obtain ⟨P1, n1, d1, rfl, hn1⟩ := r_slice q1.choose_spec
      obtain ⟨P2, n2, d2, rfl, hn2⟩ := r_slice q2.choose_spec
      have Q1 := Aside0.mk (And.intro q1 hn1)
      have Q2 := Aside0.mk (And.intro q2 hn2)
      clear q1 q2 hn1 hn2
      have HNN := HN.out
      go_upto_region 5 with (fail)
      have hb1 := below_alloc (Below.refl _ wr) (.cells #[.int .i64 x0, .slice P1 n1 d1, .slice P2 n2 d2] 43)
      have K3 := blk_new wr (.cells #[.int .i64 x0, .slice P1 n1 d1, .slice P2 n2 d2] 43)
      have ho2 := HO2.out.below hb1 HE.out
      have HO3 := Aside0.mk (Ov.mk ho2.sp ho2.k1 K3 ho2.l1 (Nat.le_trans HE.out HO2.out.sp.but.size))
      clear hb1 K3 ho2 HO2 c0 c1 c2 qb
      generalize wr.alloc (.cells #[.int .i64 x0, .slice P1 n1 d1, .slice P2 n2 d2] 43) = w3 at *
      generalize wr.heap.size = g3 at *
      have q2 : w3.cell? ⟨g3, 2, none⟩ = some (.slice P2 n2 d2) := blk_cell HO3.out.k3 2
      have HL2 := Q2.out.2
      go_wp2_with (fail)
      clear q2
      go_loopw [4] (fun t wr => ∃ j : Nat, j ≤ n2 ∧ t = .int .i64 j ∧ Ov w b e g1 (.cells #[.int .i64 fn, .int .i64 regs, .slice (some ⟨gB, 0, none⟩) n cB] 24 (0, 0)) g3 (.cells #[.int .i64 x0, .slice P1 n1 d1, .slice P2 n2 d2] 43 (0, 0)) wr) (fun t _ => n2 - (intOf t).toNat)
      case atStart => exact ⟨0, Nat.zero_le _, rfl, HO3.out⟩
      case round =>
        obtain ⟨j, hj, rfl, ho⟩ := hrel
        by_cases hltj : j < n2
        · obtain ⟨gN, csN, rfl, hbN, heN, hgN, hsN⟩ := r_at Q2.out.1.choose_spec (by omega)
          replace hsN : n2 * 1 ≤ csN.size := hsN
          obtain ⟨⟨u0, y0⟩, f0⟩ := ho.cell hgN (o := j) (by omega)
          have q1 : wr.cell? ⟨g3, 2, none⟩ = some (.slice (some ⟨gN, 0, none⟩) n2 d2) := blk_cell ho.k3 2
          have HOB := Aside0.mk (ho.put3 hgN hbN heN (.int .i64 (-77)) (o := j) (by omega))
          have HL2 := Q2.out.2
          clear ho hbN heN hgN hsN
          go_wp2
          go_roundw
          case rel => exact ⟨j + 1, by omega, by go_num, HOB.out⟩
          case measure => simp [intOf]; omega
        · have heqj : j = n2 := by omega
          have q1 : wr.cell? ⟨g3, 2, none⟩ = some (.slice P2 n2 d2) := blk_cell ho.k3 2
          have q2 : wr.cell? ⟨g3, 1, none⟩ = some (.slice P1 n1 d1) := blk_cell ho.k3 1
          have HOB := Aside0.mk ho
          have HL2 := Q2.out.2
          have HL1 := Q1.out.2
          clear ho
          go_wp2_with (fail)
          clear q1 q2
          obtain ⟨wo4, rfl⟩ : ∃ wo : World, wo = wr := ⟨_, rfl⟩
          go_loopw [5, 6, 7, 8] (fun t _ _ _ wr => ∃ k : Nat, k ≤ n1 ∧ t = .int .i64 k ∧ Ov w b e g1 (.cells #[.int .i64 fn, .int .i64 regs, .slice (some ⟨gB, 0, none⟩) n cB] 24 (0, 0)) g3 (.cells #[.int .i64 x0, .slice P1 n1 d1, .slice P2 n2 d2] 43 (0, 0)) wr) (fun t _ _ _ _ => n1 - (intOf t).toNat)
          case atStart => exact ⟨0, Nat.zero_le _, rfl, HOB.out⟩
          case round =>
            obtain ⟨k, hk, rfl, ho⟩ := hrel
            by_cases hltk : k < n1
            · obtain ⟨gI, csI, rfl, hbI, heI, hgI, hsI⟩ := r_at Q1.out.1.choose_spec (by omega)
              have HGI := Aside0.mk (And.intro hbI (And.intro heI (And.intro hgI (show n1 * 8 ≤ csI.size from hsI))))
              obtain ⟨z0, z1, z2, v3, z4, z5, z6, v7, c0, c1, c2, c3, c4, c5, c6, c7, q3, q7⟩ := ho.sp.i47 gI n1 d1 Q1.out.1 k hltk
              obtain ⟨PA, nA, dA, rfl, hnA⟩ := r_slice q3.choose_spec
              have QA := Aside0.mk (And.intro q3 hnA)
              have q1 : wr.cell? ⟨g3, 1, none⟩ = some (.slice (some ⟨gI, 0, none⟩) n1 d1) := blk_cell ho.k3 1
              have HOC := Aside0.mk ho
              have HCA0 := Aside0.mk c3
              have HL1 := Q1.out.2
              have HLA := QA.out.2
              clear ho hbI heI hgI hsI q3 q7 hnA c0 c1 c2 c4 c5 c6 c7
              go_wp2_with (fail)
              clear q1 c3
              obtain ⟨wo3, rfl⟩ : ∃ wo : World, wo = wr := ⟨_, rfl⟩
              go_loopw [6] (fun t wr => ∃ j : Nat, j ≤ nA ∧ t = .int .i64 j ∧ Ov w b e g1 (.cells #[.int .i64 fn, .int .i64 regs, .slice (some ⟨gB, 0, none⟩) n cB] 24 (0, 0)) g3 (.cells #[.int .i64 x0, .slice (some ⟨gI, 0, none⟩) n1 d1, .slice P2 n2 d2] 43 (0, 0)) wr ∧ wr.cell? ⟨gI, k * 8 + 3, none⟩ = some (.slice PA nA dA)) (fun t _ => nA - (intOf t).toNat)
              case atStart => exact ⟨0, Nat.zero_le _, rfl, HOC.out, HCA0.out⟩
              case round =>
                obtain ⟨j, hj, rfl, ho, hca⟩ := hrel
                by_cases hltj : j < nA
                · obtain ⟨gA, csA, rfl, hbA, heA, hgA, hsA⟩ := r_at QA.out.1.choose_spec (by omega)
                  replace hsA : nA * 2 ≤ csA.size := hsA
                  obtain ⟨⟨u0, y0⟩, f0⟩ := ho.cell hgA (o := j * 2) (by omega)
                  obtain ⟨⟨u1, y1⟩, f1⟩ := ho.cell hgA (o := j * 2 + 1) (by omega)
                  have q1 : wr.cell? ⟨g3, 1, none⟩ = some (.slice (some ⟨gI, 0, none⟩) n1 d1) := blk_cell ho.k3 1
                  have HOD := Aside0.mk (ho.put49 hgA hbA heA (.int .i64 (-77)) (.int .i64 0) (o := j * 2) (by omega))
                  have HCA := Aside0.mk (cell_out [.int .i64 (-77), .int .i64 0] (g := gA) (o := j * 2) hca (.inl (blk_ne HGI.out.2.2.1 hgA (by decide))))
                  have HLA := QA.out.2
                  clear ho hbA heA hgA hsA
                  go_wp2
                  go_roundw
                  case rel => exact ⟨j + 1, by omega, by go_num, HOD.out, HCA.out⟩
                  case measure => simp [intOf]; omega
                · have heqj : j = nA := by omega
                  obtain ⟨z0, z1, z2, v3, z4, z5, z6, v7, c0, c1, c2, c3, c4, c5, c6, c7, q3, q7⟩ := ho.sp.i47 gI n1 d1 Q1.out.1 k hltk
                  obtain ⟨PE, nE, dE, rfl, hnE⟩ := r_slice q7.choose_spec
                  obtain rfl : v3 = .slice PA nA dA := Option.some.inj (c3.symm.trans hca)
                  have QE := Aside0.mk (And.intro q7 hnE)
                  have q1 : wr.cell? ⟨g3, 1, none⟩ = some (.slice (some ⟨gI, 0, none⟩) n1 d1) := blk_cell ho.k3 1
                  have HOD := Aside0.mk ho
                  have HCE0 := Aside0.mk c7
                  have HLE := QE.out.2
                  have HLA := QA.out.2
                  clear ho q3 q7 hnE c0 c1 c2 hca c4 c5 c6
                  go_wp2_with (fail)
                  clear q1 c7 c3
                  obtain ⟨wo1, rfl⟩ : ∃ wo : World, wo = wr := ⟨_, rfl⟩
                  go_loopw [7, 8] (fun t _ wr => ∃ s : Nat, s ≤ nE ∧ t = .int .i64 s ∧ Ov w b e g1 (.cells #[.int .i64 fn, .int .i64 regs, .slice (some ⟨gB, 0, none⟩) n cB] 24 (0, 0)) g3 (.cells #[.int .i64 x0, .slice (some ⟨gI, 0, none⟩) n1 d1, .slice P2 n2 d2] 43 (0, 0)) wr ∧ wr.cell? ⟨gI, k * 8 + 7, none⟩ = some (.slice PE nE dE)) (fun t _ _ => nE - (intOf t).toNat)
                  case atStart => exact ⟨0, Nat.zero_le _, rfl, HOD.out, HCE0.out⟩
                  case round =>
                    obtain ⟨s, hs, rfl, ho, hce⟩ := hrel
                    by_cases hlts : s < nE
                    · obtain ⟨gE, csE, rfl, hbE, heE, hgE, hsE⟩ := r_at QE.out.1.choose_spec (by omega)
                      have HGE := Aside0.mk (And.intro hbE (And.intro heE (And.intro hgE (show nE * 3 ≤ csE.size from hsE))))
                      obtain ⟨y0, y1, v2, p0, p1, p2, q2⟩ := ho.sp.i65 gE nE dE QE.out.1 s hlts
                      obtain ⟨PS, nS, dS, rfl, hnS⟩ := r_slice q2.choose_spec
                      have QS := Aside0.mk (And.intro q2 hnS)
                      have q1 : wr.cell? ⟨g3, 1, none⟩ = some (.slice (some ⟨gI, 0, none⟩) n1 d1) := blk_cell ho.k3 1
                      have HOE := Aside0.mk ho
                      have HCE0 := Aside0.mk hce
                      have HCS0 := Aside0.mk p2
                      have HLE := QE.out.2
                      have HLS := QS.out.2
                      clear ho hbE heE hgE hsE q2 hnS p0 p1
                      go_wp2_with (fail)
                      clear q1 p2 hce
                      obtain ⟨wo2, rfl⟩ : ∃ wo : World, wo = wr := ⟨_, rfl⟩
                      go_loopw [8] (fun t wr => ∃ q : Nat, q ≤ nS ∧ t = .int .i64 q ∧ Ov w b e g1 (.cells #[.int .i64 fn, .int .i64 regs, .slice (some ⟨gB, 0, none⟩) n cB] 24 (0, 0)) g3 (.cells #[.int .i64 x0, .slice (some ⟨gI, 0, none⟩) n1 d1, .slice P2 n2 d2] 43 (0, 0)) wr ∧ wr.cell? ⟨gI, k * 8 + 7, none⟩ = some (.slice (some ⟨gE, 0, none⟩) nE dE) ∧ wr.cell? ⟨gE, s * 3 + 2, none⟩ = some (.slice PS nS dS)) (fun t _ => nS - (intOf t).toNat)
                      case atStart => exact ⟨0, Nat.zero_le _, rfl, HOE.out, HCE0.out, HCS0.out⟩
                      case round =>
                        obtain ⟨q, hq, rfl, ho, hce, hcs⟩ := hrel
                        by_cases hltq : q < nS
                        · obtain ⟨gS, csS, rfl, hbS, heS, hgS, hsS⟩ := r_at QS.out.1.choose_spec (by omega)
                          replace hsS : nS * 2 ≤ csS.size := hsS
                          obtain ⟨⟨u0, y0⟩, f0⟩ := ho.cell hgS (o := q * 2) (by omega)
                          obtain ⟨⟨u1, y1⟩, f1⟩ := ho.cell hgS (o := q * 2 + 1) (by omega)
                          have q1 : wr.cell? ⟨g3, 1, none⟩ = some (.slice (some ⟨gI, 0, none⟩) n1 d1) := blk_cell ho.k3 1
                          have HOF := Aside0.mk (ho.put49 hgS hbS heS (.int .i64 (-77)) (.int .i64 0) (o := q * 2) (by omega))
                          have HCE := Aside0.mk (cell_out [.int .i64 (-77), .int .i64 0] (g := gS) (o := q * 2) hce (.inl (blk_ne HGI.out.2.2.1 hgS (by decide))))
                          have HCS := Aside0.mk (cell_out [.int .i64 (-77), .int .i64 0] (g := gS) (o := q * 2) hcs (.inl (blk_ne HGE.out.2.2.1 hgS (by decide))))
                          have HLS := QS.out.2
                          clear ho hbS heS hgS hsS
                          go_wp2
                          go_roundw
                          case rel => exact ⟨q + 1, by omega, by go_num, HOF.out, HCE.out, HCS.out⟩
                          case measure => simp [intOf]; omega
                        · have heqq : q = nS := by omega
                          obtain ⟨y0, y1, v2, p0, p1, p2, q2⟩ := ho.sp.i65 gE nE dE QE.out.1 s hlts
                          obtain rfl : v2 = .slice PS nS dS := Option.some.inj (p2.symm.trans hcs)
                          have f0 := (ho.cell HGE.out.2.2.1 (o := s * 3) (by have := HGE.out.2.2.2; omega)).2
                          have f1 := (ho.cell HGE.out.2.2.1 (o := s * 3 + 1) (by have := HGE.out.2.2.2; omega)).2
                          have f2 := (ho.cell HGE.out.2.2.1 (o := s * 3 + 2) (by have := HGE.out.2.2.2; omega)).2
                          have q1 : wr.cell? ⟨g3, 1, none⟩ = some (.slice (some ⟨gI, 0, none⟩) n1 d1) := blk_cell ho.k3 1
                          have HOE := Aside0.mk (ho.put65 HGE.out.2.2.1 HGE.out.1 HGE.out.2.1 (-77) 0 (j := s) (by have := HGE.out.2.2.2; omega))
                          have HCE := Aside0.mk (cell_out [.int .i64 (-77), .int .i64 0, .slice none 0 0] (g := gE) (o := s * 3) hce (.inl (blk_ne HGI.out.2.2.1 HGE.out.2.2.1 (by decide))))
                          have HLE := QE.out.2
                          have HLS := QS.out.2
                          clear ho q2 hcs
                          go_wp2
                          go_roundw
                          case rel => exact ⟨s + 1, by omega, by go_num, HOE.out, HCE.out⟩
                          case measure => simp [intOf]; omega
                    · have heqs : s = nE := by omega
                      obtain ⟨z0, z1, z2, v3, z4, z5, z6, v7, c0, c1, c2, c3, c4, c5, c6, c7, q3, q7⟩ := ho.sp.i47 gI n1 d1 Q1.out.1 k hltk
                      obtain ⟨P8, n8, d8, rfl, hn8⟩ := r_slice q3.choose_spec
                      obtain rfl : v7 = .slice PE nE dE := Option.some.inj (c7.symm.trans hce)
                      have f1 := (ho.cell HGI.out.2.2.1 (o := k * 8 + 1) (by have := HGI.out.2.2.2; omega)).2
                      have f2 := (ho.cell HGI.out.2.2.1 (o := k * 8 + 2) (by have := HGI.out.2.2.2; omega)).2
                      have f3 := (ho.cell HGI.out.2.2.1 (o := k * 8 + 3) (by have := HGI.out.2.2.2; omega)).2
                      have f4 := (ho.cell HGI.out.2.2.1 (o := k * 8 + 4) (by have := HGI.out.2.2.2; omega)).2
                      have f5 := (ho.cell HGI.out.2.2.1 (o := k * 8 + 5) (by have := HGI.out.2.2.2; omega)).2
                      have f6 := (ho.cell HGI.out.2.2.1 (o := k * 8 + 6) (by have := HGI.out.2.2.2; omega)).2
                      have f7 := (ho.cell HGI.out.2.2.1 (o := k * 8 + 7) (by have := HGI.out.2.2.2; omega)).2
                      have f0 := (ho.cell HGI.out.2.2.1 (o := k * 8) (by have := HGI.out.2.2.2; omega)).2
                      have q1 : wr.cell? ⟨g3, 1, none⟩ = some (.slice (some ⟨gI, 0, none⟩) n1 d1) := blk_cell ho.k3 1
                      have HOC := Aside0.mk (ho.put47 HGI.out.2.2.1 HGI.out.1 HGI.out.2.1 (-77) 0 0 0 0 0 (j := k) (by have := HGI.out.2.2.2; omega))
                      have HL1 := Q1.out.2
                      have HLE := QE.out.2
                      clear ho q3 q7 hn8 hce
                      go_wp2
                      go_roundw
                      case rel => exact ⟨k + 1, by omega, by go_num, HOC.out⟩
                      case measure => simp [intOf]; omega
            · have heqk : k = n1 := by omega
              obtain ⟨y0, v1, v2, p0, p1, p2, q1, q2⟩ := ho.sp.i43 gB n cB HQ.out i hlti
              obtain ⟨P8, n8, d8, rfl, hn8⟩ := r_slice q1.choose_spec
              obtain ⟨P9, n9, d9, rfl, hn9⟩ := r_slice q2.choose_spec
              have f0 := (ho.cell HGB.out.2.2.1 (o := i * 3) (by have := HGB.out.2.2.2; omega)).2
              have f1 := (ho.cell HGB.out.2.2.1 (o := i * 3 + 1) (by have := HGB.out.2.2.2; omega)).2
              have f2 := (ho.cell HGB.out.2.2.1 (o := i * 3 + 2) (by have := HGB.out.2.2.2; omega)).2
              have qb : wr.cell? ⟨g1, 2, none⟩ = some (.slice (some ⟨gB, 0, none⟩) n cB) := blk_cell ho.k1 2
              have qi : wr.cell? ⟨g3, 1, none⟩ = some (.slice P1 n1 d1) := blk_cell ho.k3 1
              have ho9 := ho.put43 HGB.out.2.2.1 HGB.out.1 HGB.out.2.1 (-77) (j := i) (by have := HGB.out.2.2.2; omega)
              have HOA := Aside0.mk (Ov.mk ho9.sp ho9.k1 ho9.k1 ho9.l1 ho9.l1)
              have HL1 := Q1.out.2
              have HNN := HN.out
              clear ho q1 q2 hn8 hn9 ho9
              go_wp2
              go_roundw
              case rel => exact ⟨i + 1, by omega, by go_num, HOA.out⟩
              case measure => simp [intOf]; omega
    · have heqi : i = n := by omega
      have HNN := HN.out
      go_wp2
      exact bodyPost_end (results_none rfl _ _ _) rfl ⟨_, rfl, HO2.out.sp.but⟩
end Go.Proofs.Ytjekpkpmoanadaa.PCop
/- works: two moves. -/
namespace Go.Proofs.Ytjekpkpmoanadaa.PCop
open Go.RowKit Go.Proofs.Ytjekpkpmoanadaa.Lit Go.Proofs.Ytjekpkpmoanadaa.OwnCells Go.Proofs.YtjekpkpmoanadaaW.PrintWords Go.Proofs.YtjekpkpmoanadaaW.PrintLast Go.Proofs.YtjekpkpmoanadaaW.PrintMore
set_option linter.unusedVariables false
set_option linter.unusedSimpArgs false
def xw (d : Int) (n : Int) : S47 := ⟨1, 0, d, [⟨0, n⟩], 0, 0, 0, []⟩
def blw : S43 := ⟨0, [xw 1 0, xw 2 1], []⟩
def bly : S43 := ⟨0, [xw 1 0, xw 2 0], []⟩
theorem run_works : runS [blw] = [bly] := by rfl
theorem wf_small (n : Int) (h : n = 0 ∨ n = 1 ∨ n = 2) : WF n := by
  unfold WF
  rcases h with rfl | rfl | rfl <;> decide
theorem okx_works (d n : Int) (hd : d = 0 ∨ d = 1 ∨ d = 2) (hn : n = 0 ∨ n = 1 ∨ n = 2) : OkX (xw d n) where
  dst := wf_small d hd
  args := by show 1 * 16 ≤ _; decide
  exit := by show 0 * 40 ≤ _; decide
  slots := fun s hs => by cases hs
  wfa := fun o ho => by simp [xw] at ho; subst ho; exact wf_small n hn
  wfs := fun s hs => by cases hs
theorem ok_works : OkL [blw] where
  len := by decide
  ins := fun b hb => by simp at hb; subst hb; decide
  next := fun b hb => by simp at hb; subst hb; decide
  each := fun b hb x hx => by
    simp at hb; subst hb
    simp [blw] at hx
    rcases hx with rfl | rfl
    · exact okx_works 1 0 (by decide) (by decide)
    · exact okx_works 2 1 (by decide) (by decide)
set_option maxHeartbeats 1000000 in
set_option maxRecDepth 100000 in
theorem reg_calls (n : Int) (w : World) : Calls Try.prog 16 #[.int .i64 n] w fun e w' => e = .returned (.agg #[.int .i64 0, .int .i64 n]) ∧ Below w.heap.size w w' := by
  go_enter Try.func16, Try.ntmps16
  go_wp2
  refine bodyPost_ret (by simp [results, Try.results16, go_sem]; try rfl) rfl ?_
  exact ⟨rfl, below_alloc (Below.refl _ _) _⟩
theorem bodies (w : World) (o : Obj) : Below w.heap.size w (w.alloc o) := below_alloc (Below.refl _ _) o
set_option maxHeartbeats 1000000 in
set_option maxRecDepth 100000 in
theorem same_ops (A B : Option Addr) (c d : Nat) (w : World) (hA : k49.C w A 1 [⟨0, 0⟩]) (hB : k49.C w B 1 [⟨0, 0⟩]) :
    Calls Try.prog 23 #[.slice A 1 c, .slice B 1 d] w fun e w' => e = .returned (.bool true) ∧ Below w.heap.size w w' :=
  (same_opnds A B c d [⟨0, 0⟩] w hA hB (by decide)).mono (by rintro e w' ⟨rfl, m, rfl⟩; exact ⟨rfl, pw_below_drewN (Below.refl _ _) m⟩)
/-- the cells of a row of one's own, element by element -/
theorem R_cells {α : Type} {d : Kd α} {e base : Nat} {ok : Nat → Prop} {w : World} {v : Value} {xs : List α} (h : d.R e w base ok v xs) (hp : 0 < xs.length) : ∃ g cap, v = .slice (some ⟨g, 0, none⟩) xs.length cap ∧
    ∀ j p, xs[j]? = some p → ∃ cs, cs.length = d.sz ∧ d.M w base (fun k => ok k ∧ some k ≠ v.ownBlock) p cs ∧ ∀ i u, cs[i]? = some u → w.cell? ⟨g, j * d.sz + i, none⟩ = some u := by
  obtain ⟨g, cap, hv⟩ := Kd.R_slice1 h hp
  have h' := h
  obtain ⟨_, inner, ho, hr⟩ := h'
  rcases ho.2 with ⟨_, h0⟩ | ⟨g', cap', cur, he, _⟩
  · omega
  · rw [he] at hv
    injection hv with h1 h2 h3
    injection h1 with h1
    refine ⟨g', cap', he, fun j p hj => ⟨(inner.drop (j * d.sz)).take d.sz, ?_, hr.2 j p hj, fun i u hu => ?_⟩⟩
    · have hjl : j < xs.length := (List.getElem?_eq_some_iff.1 hj).1
      have hle : j * d.sz + d.sz ≤ inner.length := by
        rw [hr.1]
        calc j * d.sz + d.sz = (j + 1) * d.sz := by rw [Nat.add_mul, Nat.one_mul]
          _ ≤ xs.length * d.sz := Nat.mul_le_mul_right _ hjl
      rw [List.length_take, List.length_drop]; omega
    · have hil : i < d.sz := by
        have := (List.getElem?_eq_some_iff.1 hu).1
        rw [List.length_take] at this; omega
      rw [List.getElem?_take_of_lt hil, List.getElem?_drop] at hu
      subst he
      have := ho.cells (g := g') rfl (j * d.sz + i) u hu
      rwa [add_plain] at this
/-- what Run answers to works' code, cell by cell -/
theorem kA47_k {w : World} {base : Nat} {ok : Nat → Prop} {x : S47} {cs : List Value} (h : kA47.M w base ok x cs) : k47.M w base ok x cs := by
  obtain ⟨p, v3, v7, rfl, g3, g7⟩ := kA47_openM h
  exact k47_mkM w base ok x (Kd.R_mono g3 (fun _ hk => hk.1)) (Kd.R_mono (Kd.S_R g7) (fun _ hk => hk.1))
theorem kA47_R {w : World} {base e : Nat} {ok : Nat → Prop} {v : Value} {xs : List S47} (h : kA47.R e w base ok v xs) : k47.R e w base ok v xs := ⟨h.1, OwnRow.imp_ h.2 (fun _ _ hp => kA47_k hp)⟩
theorem kA43_k {w : World} {base : Nat} {ok : Nat → Prop} {x : S43} {cs : List Value} (h : kA43.M w base ok x cs) : k43.M w base ok x cs := by
  obtain ⟨v1, v2, rfl, g1, g2⟩ := kA43_openM h
  exact k43_mkM w base ok x (kA47_R (Kd.S_R g1)) g2
theorem kA43_R {w : World} {base e : Nat} {ok : Nat → Prop} {v : Value} {xs : List S43} (h : kA43.R e w base ok v xs) : k43.R e w base ok v xs := ⟨h.1, OwnRow.imp_ h.2 (fun _ _ hp => kA43_k hp)⟩
theorem bly_cells {w : World} {base : Nat} {ok : Nat → Prop} {v : Value} (h : k43.R 43 w base ok v [bly]) : ∃ g c g1 c1 A c2 g3 c3 A7 c7 g4 c4 B7 d7, v = .slice (some ⟨g, 0, none⟩) 1 c ∧
    w.cell? ⟨g, 0, none⟩ = some (.int .i64 0) ∧ w.cell? ⟨g, 1, none⟩ = some (.slice (some ⟨g1, 0, none⟩) 2 c1) ∧ w.cell? ⟨g, 2, none⟩ = some (.slice A 0 c2) ∧
    (w.cell? ⟨g1, 0, none⟩ = some (.int .i64 1) ∧ w.cell? ⟨g1, 1, none⟩ = some (.int .i64 0) ∧ w.cell? ⟨g1, 2, none⟩ = some (.int .i64 1) ∧ w.cell? ⟨g1, 3, none⟩ = some (.slice (some ⟨g3, 0, none⟩) 1 c3) ∧ w.cell? ⟨g1, 4, none⟩ = some (.int .i64 0) ∧ w.cell? ⟨g1, 5, none⟩ = some (.int .i64 0) ∧ w.cell? ⟨g1, 6, none⟩ = some (.int .i64 0) ∧ w.cell? ⟨g1, 7, none⟩ = some (.slice A7 0 c7)) ∧
    (w.cell? ⟨g1, 8, none⟩ = some (.int .i64 1) ∧ w.cell? ⟨g1, 9, none⟩ = some (.int .i64 0) ∧ w.cell? ⟨g1, 10, none⟩ = some (.int .i64 2) ∧ w.cell? ⟨g1, 11, none⟩ = some (.slice (some ⟨g4, 0, none⟩) 1 c4) ∧ w.cell? ⟨g1, 12, none⟩ = some (.int .i64 0) ∧ w.cell? ⟨g1, 13, none⟩ = some (.int .i64 0) ∧ w.cell? ⟨g1, 14, none⟩ = some (.int .i64 0) ∧ w.cell? ⟨g1, 15, none⟩ = some (.slice B7 0 d7)) ∧
    k49.C w (some ⟨g3, 0, none⟩) 1 [⟨0, 0⟩] ∧ k49.C w (some ⟨g4, 0, none⟩) 1 [⟨0, 0⟩] := by
  obtain ⟨g, c, rfl, hc⟩ := R_cells h (by decide)
  obtain ⟨cs, _, hM, hcell⟩ := hc 0 bly rfl
  obtain ⟨v1, v2, rfl, h1, h2⟩ := k43_openM hM
  obtain ⟨g1, c1, rfl, hc1⟩ := R_cells h1 (by decide)
  obtain ⟨A, c2, rfl, _⟩ := Kd.R_reads h2
  obtain ⟨cs0, _, hM0, hcell0⟩ := hc1 0 (xw 1 0) rfl
  obtain ⟨cs1, _, hM1, hcell1⟩ := hc1 1 (xw 2 0) rfl
  obtain ⟨v3, v7, rfl, h3, h7⟩ := k47_openM hM0
  obtain ⟨u3, u7, rfl, h4, h8⟩ := k47_openM hM1
  obtain ⟨g3, c3, rfl, _⟩ := R_cells h3 (by decide)
  obtain ⟨g4, c4, rfl, _⟩ := R_cells h4 (by decide)
  obtain ⟨A7, c7, rfl, _⟩ := Kd.R_reads h7
  obtain ⟨B7, d7, rfl, _⟩ := Kd.R_reads h8
  exact ⟨g, c, g1, c1, A, c2, g3, c3, A7, c7, g4, c4, B7, d7, rfl, hcell 0 _ rfl, hcell 1 _ rfl, hcell 2 _ rfl, ⟨hcell0 0 _ rfl, hcell0 1 _ rfl, hcell0 2 _ rfl, hcell0 3 _ rfl, hcell0 4 _ rfl, hcell0 5 _ rfl, hcell0 6 _ rfl, hcell0 7 _ rfl⟩, ⟨hcell1 0 _ rfl, hcell1 1 _ rfl, hcell1 2 _ rfl, hcell1 3 _ rfl, hcell1 4 _ rfl, hcell1 5 _ rfl, hcell1 6 _ rfl, hcell1 7 _ rfl⟩, (Kd.R_reads' h3).2.2, (Kd.R_reads' h4).2.2⟩
def dW7 : Nat → Option Tmp
  | 0 => some 49
  | 1 => some 50
  | 2 => some 51
  | 3 => some 52
  | 4 => some 53
  | 5 => some 54
  | 6 => some 55
  | 7 => some 56
  | 8 => some 57
  | 9 => some 58
  | 10 => some 59
  | 11 => some 60
  | 12 => some 61
  | 13 => some 62
  | 14 => some 63
  | 15 => some 64
  | 16 => some 65
  | 17 => some 66
  | 18 => some 67
  | 19 => some 68
  | 20 => some 69
  | 21 => some 70
  | 22 => some 0
  | _ => none
def FW7 (ge gf ga gb ca cb : Nat) : Nat → World → Value → Prop
  | 0, _, v => v = .pointer (some ⟨ge, 3, none⟩)
  | 1, _, v => v = .slice (some ⟨ga, 0, none⟩) 1 ca
  | 2, _, v => v = .agg #[.int .i64 0, .int .i64 0]
  | 3, w, v => Sl k49 [⟨0, 0⟩] w v
  | 4, _, v => v = .bool true
  | 5, _, v => v = .bool true
  | 6, _, v => v = .pointer (some ⟨gf, 3, none⟩)
  | 7, _, v => v = .slice (some ⟨gb, 0, none⟩) 1 cb
  | 8, _, v => v = .agg #[.int .i64 0, .int .i64 0]
  | 9, w, v => Sl k49 [⟨0, 0⟩] w v
  | 10, _, v => v = .bool true
  | 11, _, v => v = .bool true
  | 12, _, v => v = .bool true
  | 13, _, v => v = .pointer (some ⟨ge, 2, none⟩)
  | 14, _, v => v = .int .i64 1
  | 15, _, v => v = .bool true
  | 16, _, v => v = .bool true
  | 17, _, v => v = .bool true
  | 18, _, v => v = .pointer (some ⟨gf, 2, none⟩)
  | 19, _, v => v = .int .i64 2
  | 20, _, v => v = .bool true
  | 21, _, v => v = .bool true
  | 22, _, v => v = .bool true
  | _, _, _ => True
theorem FW7_below (ge gf ga gb ca cb : Nat) (i : Nat) (w w1 : World) (v : Value) (h : FW7 ge gf ga gb ca cb  i w v) (hb : Below w.heap.size w w1) : FW7 ge gf ga gb ca cb  i w1 v := by
  match i with
  | 0 | 1 | 2 | 4 | 5 | 6 | 7 | 8 | 10 | 11 | 12 | 13 | 14 | 15 | 16 | 17 | 18 | 19 | 20 | 21 | 22 => exact h
  | 3 | 9 => exact Sl.below h hb
  | (n + 23) => exact h
set_option maxHeartbeats 4000000 in
set_option maxRecDepth 100000 in
theorem works_calls (w : World) : Calls Try.prog 8 #[] w fun e w' => e = .returned (.bool true) ∧ Below w.heap.size w w' := by
  go_enter Try.func8, Try.ntmps8
  go_wp2_with (fail)
  refine (reg_calls 0 w).mono ?_
  rintro e w1 ⟨rfl, hb⟩
  have HB := Aside0.mk hb
  clear hb
  go_wp2_with (fail)
  have s0 : k49.C (w1.alloc (.cells #[.int .i64 0, .int .i64 0] 49)) (some ⟨w1.heap.size, 0, none⟩) 1 [⟨0, 0⟩] := lit_C k49 w1 49 [⟨0, 0⟩] [.int .i64 0, .int .i64 0] (reps1 (k49_mk w1 ⟨0, 0⟩) rfl) (by decide)
  have hb := bodies w1 (.cells #[.int .i64 0, .int .i64 0] 49)
  replace HB := Aside0.mk (wB HB.out hb)
  have S0 := Aside0.mk s0
  clear hb s0
  generalize w1.alloc (.cells #[.int .i64 0, .int .i64 0] 49) = w2 at *
  generalize w1.heap.size = g0 at *
  refine (reg_calls 1 w2).mono ?_
  rintro e w3 ⟨rfl, hb⟩
  replace HB := Aside0.mk (wB HB.out hb)
  replace S0 := Aside0.mk (Kd.C_below S0.out hb)
  clear hb
  go_upto_region 2 with (fail)
  have s1 : k49.C (w3.alloc (.cells #[.int .i64 0, .int .i64 1] 49)) (some ⟨w3.heap.size, 0, none⟩) 1 [⟨0, 1⟩] := lit_C k49 w3 49 [⟨0, 1⟩] [.int .i64 0, .int .i64 1] (reps1 (k49_mk w3 ⟨0, 1⟩) rfl) (by decide)
  have hb := bodies w3 (.cells #[.int .i64 0, .int .i64 1] 49)
  have hz : (w3.alloc (.cells #[.int .i64 0, .int .i64 1] 49)).heap.size = w3.heap.size + 1 := World.size_alloc _ _
  replace HB := Aside0.mk (wB HB.out hb)
  replace S0 := Aside0.mk (Kd.C_below S0.out hb)
  have S1 := Aside0.mk s1
  clear hb s1
  generalize w3.alloc (.cells #[.int .i64 0, .int .i64 1] 49) = w4 at *
  rw [← hz]
  clear hz
  generalize w3.heap.size = g1 at *
  have s2 : k47.C (w4.alloc (.cells #[.int .i64 1, .int .i64 0, .int .i64 1, .slice (some ⟨g0, 0, none⟩) 1 1, .int .i64 0, .int .i64 0, .int .i64 0, .slice none 0 0, .int .i64 1, .int .i64 0, .int .i64 2, .slice (some ⟨g1, 0, none⟩) 1 1, .int .i64 0, .int .i64 0, .int .i64 0, .slice none 0 0] 47)) (some ⟨w4.heap.size, 0, none⟩) 2 [xw 1 0, xw 2 1] := lit_C k47 w4 47 [xw 1 0, xw 2 1] [.int .i64 1, .int .i64 0, .int .i64 1, .slice (some ⟨g0, 0, none⟩) 1 1, .int .i64 0, .int .i64 0, .int .i64 0, .slice none 0 0, .int .i64 1, .int .i64 0, .int .i64 2, .slice (some ⟨g1, 0, none⟩) 1 1, .int .i64 0, .int .i64 0, .int .i64 0, .slice none 0 0]
    (reps2 (c := [.int .i64 1, .int .i64 0, .int .i64 1, .slice (some ⟨g0, 0, none⟩) 1 1, .int .i64 0, .int .i64 0, .int .i64 0, .slice none 0 0]) (c' := [.int .i64 1, .int .i64 0, .int .i64 2, .slice (some ⟨g1, 0, none⟩) 1 1, .int .i64 0, .int .i64 0, .int .i64 0, .slice none 0 0]) (k47_mk w4 (xw 1 0) (Nat.le_refl 1) S0.out (Nat.le_refl 0) (nil_C w4)) rfl (k47_mk w4 (xw 2 1) (Nat.le_refl 1) S1.out (Nat.le_refl 0) (nil_C w4)) rfl) (by decide)
  have hb := bodies w4 (.cells #[.int .i64 1, .int .i64 0, .int .i64 1, .slice (some ⟨g0, 0, none⟩) 1 1, .int .i64 0, .int .i64 0, .int .i64 0, .slice none 0 0, .int .i64 1, .int .i64 0, .int .i64 2, .slice (some ⟨g1, 0, none⟩) 1 1, .int .i64 0, .int .i64 0, .int .i64 0, .slice none 0 0] 47)
  replace HB := Aside0.mk (wB HB.out hb)
  have S2 := Aside0.mk s2
  clear hb s2 S0 S1
  generalize w4.alloc (.cells #[.int .i64 1, .int .i64 0, .int .i64 1, .slice (some ⟨g0, 0, none⟩) 1 1, .int .i64 0, .int .i64 0, .int .i64 0, .slice none 0 0, .int .i64 1, .int .i64 0, .int .i64 2, .slice (some ⟨g1, 0, none⟩) 1 1, .int .i64 0, .int .i64 0, .int .i64 0, .slice none 0 0] 47) = w5 at *
  generalize w4.heap.size = g2 at *
  go_wp2_with (fail)
  have s3 : k43.C (w5.alloc (.cells #[.int .i64 0, .slice (some ⟨g2, 0, none⟩) 2 2, .slice none 0 0] 43)) (some ⟨w5.heap.size, 0, none⟩) 1 [blw] := lit_C k43 w5 43 [blw] [.int .i64 0, .slice (some ⟨g2, 0, none⟩) 2 2, .slice none 0 0] (reps1 (k43_mk w5 blw (Nat.le_refl 2) S2.out (Nat.le_refl 0) (nil_C w5)) rfl) (by decide)
  have hb := bodies w5 (.cells #[.int .i64 0, .slice (some ⟨g2, 0, none⟩) 2 2, .slice none 0 0] 43)
  replace HB := Aside0.mk (wB HB.out hb)
  clear hb S2
  generalize w5.alloc (.cells #[.int .i64 0, .slice (some ⟨g2, 0, none⟩) 2 2, .slice none 0 0] 43) = w6 at *
  generalize w5.heap.size = g3 at *
  refine (run_calls 0 3 (some ⟨g3, 0, none⟩) 1 [blw] w6 s3 ok_works).mono ?_
  rintro e w7 ⟨v, rfl, hr, hb⟩
  replace hr := kA43_R (Kd.S_R hr)
  rw [run_works] at hr
  have hcs := bly_cells hr
  obtain ⟨gv, cv, gi, ci, AN, cn, ga, ca, A7, c7, gb, cb, B7, d7, rfl, x0, x1, x2, ⟨y0, y1, y2, y3, y4, y5, y6, y7⟩, ⟨z0, z1, z2, z3, z4, z5, z6, z7⟩, CA, CB⟩ := hcs
  replace HB := Aside0.mk (wB HB.out hb)
  clear hb hr s3
  go_upto_region 3 with (fail)
  have hb := bodies w7 (.cells #[.int .i64 0, .int .i64 3, .slice (some ⟨gv, 0, none⟩) 1 cv] 24)
  have KB := blk_new w7 (.cells #[.int .i64 0, .int .i64 3, .slice (some ⟨gv, 0, none⟩) 1 cv] 24)
  replace HB := Aside0.mk (wB HB.out hb)
  replace x0 := pw_cell_below hb x0
  replace x1 := pw_cell_below hb x1
  replace x2 := pw_cell_below hb x2
  replace y0 := pw_cell_below hb y0
  replace y1 := pw_cell_below hb y1
  replace y2 := pw_cell_below hb y2
  replace y3 := pw_cell_below hb y3
  replace y4 := pw_cell_below hb y4
  replace y5 := pw_cell_below hb y5
  replace y6 := pw_cell_below hb y6
  replace y7 := pw_cell_below hb y7
  replace z0 := pw_cell_below hb z0
  replace z1 := pw_cell_below hb z1
  replace z2 := pw_cell_below hb z2
  replace z3 := pw_cell_below hb z3
  replace z4 := pw_cell_below hb z4
  replace z5 := pw_cell_below hb z5
  replace z6 := pw_cell_below hb z6
  replace z7 := pw_cell_below hb z7
  replace CA := Aside0.mk (Kd.C_below CA hb)
  replace CB := Aside0.mk (Kd.C_below CB hb)
  clear hb
  generalize w7.alloc (.cells #[.int .i64 0, .int .i64 3, .slice (some ⟨gv, 0, none⟩) 1 cv] 24) = w8 at *
  generalize w7.heap.size = gd at *
  have d1 : w8.cell? ⟨gd, 1, none⟩ = some (.int .i64 3) := blk_cell KB 1
  have d2 : w8.cell? ⟨gd, 2, none⟩ = some (.slice (some ⟨gv, 0, none⟩) 1 cv) := blk_cell KB 2
  replace KB := Aside0.mk KB
  go_upto_region 6 with (fail)
  clear y0 y1 y2 y3 y4 y5 y6 y7 d1 d2 x0 x2
  have hb := bodies w8 (.cells #[.int .i64 1, .int .i64 0, .int .i64 1, .slice (some ⟨ga, 0, none⟩) 1 ca, .int .i64 0, .int .i64 0, .int .i64 0, .slice A7 0 c7] 47)
  have KE := blk_new w8 (.cells #[.int .i64 1, .int .i64 0, .int .i64 1, .slice (some ⟨ga, 0, none⟩) 1 ca, .int .i64 0, .int .i64 0, .int .i64 0, .slice A7 0 c7] 47)
  replace HB := Aside0.mk (wB HB.out hb)
  replace x1 := pw_cell_below hb x1
  replace z0 := pw_cell_below hb z0
  replace z1 := pw_cell_below hb z1
  replace z2 := pw_cell_below hb z2
  replace z3 := pw_cell_below hb z3
  replace z4 := pw_cell_below hb z4
  replace z5 := pw_cell_below hb z5
  replace z6 := pw_cell_below hb z6
  replace z7 := pw_cell_below hb z7
  replace CA := Kd.C_below CA.out hb
  replace CB := Kd.C_below CB.out hb
  replace KB := blk_below KB.out hb
  clear hb
  generalize w8.alloc (.cells #[.int .i64 1, .int .i64 0, .int .i64 1, .slice (some ⟨ga, 0, none⟩) 1 ca, .int .i64 0, .int .i64 0, .int .i64 0, .slice A7 0 c7] 47) = w9 at *
  generalize w8.heap.size = ge at *
  have d2 : w9.cell? ⟨gd, 2, none⟩ = some (.slice (some ⟨gv, 0, none⟩) 1 cv) := blk_cell KB 2
  have HKE := Aside0.mk KE
  have HCA := Aside0.mk CA
  have HCB := Aside0.mk CB
  clear KE CA CB KB
  go_upto_region 7 with (fail)
  have hb := bodies w9 (.cells #[.int .i64 1, .int .i64 0, .int .i64 2, .slice (some ⟨gb, 0, none⟩) 1 cb, .int .i64 0, .int .i64 0, .int .i64 0, .slice B7 0 d7] 47)
  have KF := blk_new w9 (.cells #[.int .i64 1, .int .i64 0, .int .i64 2, .slice (some ⟨gb, 0, none⟩) 1 cb, .int .i64 0, .int .i64 0, .int .i64 0, .slice B7 0 d7] 47)
  replace HB := Aside0.mk (wB HB.out hb)
  replace HCA := Aside0.mk (Kd.C_below HCA.out hb)
  replace HCB := Aside0.mk (Kd.C_below HCB.out hb)
  replace HKE := Aside0.mk (blk_below HKE.out hb)
  clear hb x1 z0 z1 z2 z3 z4 z5 z6 z7 d2
  generalize w9.alloc (.cells #[.int .i64 1, .int .i64 0, .int .i64 2, .slice (some ⟨gb, 0, none⟩) 1 cb, .int .i64 0, .int .i64 0, .int .i64 0, .slice B7 0 d7] 47) = wa at *
  generalize w9.heap.size = gf at *
  have HKF := Aside0.mk KF
  clear KF
  go_wp2_with (fail)
  rename_i hK
  refine RegInv.region_facts (by kernel_rfl) (by kernel_rfl) (fun a b => Below a.heap.size a b) (fun a b c h k => wB h k) (below_drew1 (Below.refl _ _)) dW7 23 (by kernel_rfl) (by kernel_rfl) (by kernel_rfl) (FW7 ge gf ga gb ca cb) (FW7_below ge gf ga gb ca cb) ?hsW7 ?heW7
  case hsW7 =>
    clear hK HB
    intro i o a w8 hi hM
    have hlt : i < 23 := (Array.getElem?_eq_some_iff.1 hi).1
    have KE' := blk_below HKE.out hM.ext
    have KF' := blk_below HKF.out hM.ext
    have CA' := Kd.C_below HCA.out hM.ext
    have CB' := Kd.C_below HCB.out hM.ext
    rcases i with _ | _ | _ | _ | _ | _ | _ | _ | _ | _ | _ | _ | _ | _ | _ | _ | _ | _ | _ | _ | _ | _ | _ | i
    · cases hi
      have h0 := gdq _ _ _ (show a.tmps.getD 3 undef = .pointer (some ⟨ge, 0, none⟩) from hM.off 3 (by kernel_rfl))
      refine RegInv.op_value (by rfl) rfl (v := .pointer (some ⟨ge, 3, none⟩)) (w' := w8) ?_ ⟨_, rfl, rfl, Below.refl _ _⟩
      unfold execOp
      go_simp
    · cases hi
      have h0 := gdq _ _ _ (show a.tmps.getD 49 undef = .pointer (some ⟨ge, 3, none⟩) from hM.at_ 0 (by decide) (by kernel_rfl))
      have y : w8.cell? ⟨ge, 3, none⟩ = some (.slice (some ⟨ga, 0, none⟩) 1 ca) := blk_cell KE' 3
      refine RegInv.op_value (by rfl) rfl (v := .slice (some ⟨ga, 0, none⟩) 1 ca) (w' := w8) ?_ ⟨_, rfl, rfl, Below.refl _ _⟩
      unfold execOp
      go_simp
    · cases hi
      refine RegInv.op_call (by rfl) rfl Try.func16 (by kernel_rfl) rfl rfl #[.int .i64 0] (by simp [Act.eval]) ?_
      refine (reg_calls 0 w8).mono ?_
      rintro e w9 ⟨rfl, b⟩
      exact ⟨_, rfl, _, rfl, rfl, b⟩
    · cases hi
      have h0 := gdq _ _ _ (show a.tmps.getD 51 undef = .agg #[.int .i64 0, .int .i64 0] from hM.at_ 2 (by decide) (by kernel_rfl))
      refine RegInv.op_value (by rfl) rfl (v := .slice (some ⟨w8.heap.size, 0, none⟩) 1 1) (w' := w8.alloc (.cells #[.int .i64 0, .int .i64 0] 49)) ?_ ⟨_, rfl, ⟨_, _, rfl, Nat.le_refl _, lit_C k49 w8 49 [⟨0, 0⟩] [.int .i64 0, .int .i64 0] (reps1 (k49_mk w8 ⟨0, 0⟩) rfl) (by decide)⟩, below_alloc (Below.refl _ _) _⟩
      unfold execOp
      go_simp
    · cases hi
      have h0 := gdq _ _ _ (show a.tmps.getD 50 undef = .slice (some ⟨ga, 0, none⟩) 1 ca from hM.at_ 1 (by decide) (by kernel_rfl))
      obtain ⟨A, c, hv, hl, hC⟩ : Sl k49 [⟨0, 0⟩] w8 (a.tmps.getD 52 undef) := hM.at_ 3 (by decide) (by kernel_rfl)
      replace hv := gdq _ _ _ hv
      refine RegInv.op_call (by rfl) rfl Try.func23 (by kernel_rfl) rfl rfl #[.slice (some ⟨ga, 0, none⟩) 1 ca, .slice A 1 c] (by simp [Act.eval, h0, hv]) ?_
      refine (same_ops (some ⟨ga, 0, none⟩) A ca c w8 CA' hC).mono ?_
      rintro e w9 ⟨rfl, b⟩
      exact ⟨_, rfl, _, rfl, rfl, b⟩
    · cases hi
      have h0 := gdq _ _ _ (show a.tmps.getD 53 undef = .bool true from hM.at_ 4 (by decide) (by kernel_rfl))
      refine RegInv.op_value (by rfl) rfl (v := .bool true) (w' := w8) ?_ ⟨_, rfl, rfl, Below.refl _ _⟩
      unfold execOp
      go_simp
    · cases hi
      have h0 := gdq _ _ _ (show a.tmps.getD 4 undef = .pointer (some ⟨gf, 0, none⟩) from hM.off 4 (by kernel_rfl))
      have hg : a.tmps.getD 54 undef = .bool true := hM.at_ 5 (by decide) (by kernel_rfl)
      refine RegInv.op_valueW (by rfl) (RegInv.wanted_of 54 rfl rfl hg) (v := .pointer (some ⟨gf, 3, none⟩)) (w' := w8) ?_ ⟨_, rfl, rfl, Below.refl _ _⟩
      unfold execOp
      go_simp
    · cases hi
      have h0 := gdq _ _ _ (show a.tmps.getD 55 undef = .pointer (some ⟨gf, 3, none⟩) from hM.at_ 6 (by decide) (by kernel_rfl))
      have hg : a.tmps.getD 54 undef = .bool true := hM.at_ 5 (by decide) (by kernel_rfl)
      have y : w8.cell? ⟨gf, 3, none⟩ = some (.slice (some ⟨gb, 0, none⟩) 1 cb) := blk_cell KF' 3
      refine RegInv.op_valueW (by rfl) (RegInv.wanted_of 54 rfl rfl hg) (v := .slice (some ⟨gb, 0, none⟩) 1 cb) (w' := w8) ?_ ⟨_, rfl, rfl, Below.refl _ _⟩
      unfold execOp
      go_simp
    · cases hi
      have hg : a.tmps.getD 54 undef = .bool true := hM.at_ 5 (by decide) (by kernel_rfl)
      refine RegInv.op_callW (by rfl) (RegInv.wanted_of 54 rfl rfl hg) Try.func16 (by kernel_rfl) rfl rfl #[.int .i64 0] (by simp [Act.eval]) ?_
      refine (reg_calls 0 w8).mono ?_
      rintro e w9 ⟨rfl, b⟩
      exact ⟨_, rfl, _, rfl, rfl, b⟩
    · cases hi
      have h0 := gdq _ _ _ (show a.tmps.getD 57 undef = .agg #[.int .i64 0, .int .i64 0] from hM.at_ 8 (by decide) (by kernel_rfl))
      have hg : a.tmps.getD 54 undef = .bool true := hM.at_ 5 (by decide) (by kernel_rfl)
      refine RegInv.op_valueW (by rfl) (RegInv.wanted_of 54 rfl rfl hg) (v := .slice (some ⟨w8.heap.size, 0, none⟩) 1 1) (w' := w8.alloc (.cells #[.int .i64 0, .int .i64 0] 49)) ?_ ⟨_, rfl, ⟨_, _, rfl, Nat.le_refl _, lit_C k49 w8 49 [⟨0, 0⟩] [.int .i64 0, .int .i64 0] (reps1 (k49_mk w8 ⟨0, 0⟩) rfl) (by decide)⟩, below_alloc (Below.refl _ _) _⟩
      unfold execOp
      go_simp
    · cases hi
      have h0 := gdq _ _ _ (show a.tmps.getD 56 undef = .slice (some ⟨gb, 0, none⟩) 1 cb from hM.at_ 7 (by decide) (by kernel_rfl))
      obtain ⟨A, c, hv, hl, hC⟩ : Sl k49 [⟨0, 0⟩] w8 (a.tmps.getD 58 undef) := hM.at_ 9 (by decide) (by kernel_rfl)
      replace hv := gdq _ _ _ hv
      have hg : a.tmps.getD 54 undef = .bool true := hM.at_ 5 (by decide) (by kernel_rfl)
      refine RegInv.op_callW (by rfl) (RegInv.wanted_of 54 rfl rfl hg) Try.func23 (by kernel_rfl) rfl rfl #[.slice (some ⟨gb, 0, none⟩) 1 cb, .slice A 1 c] (by simp [Act.eval, h0, hv]) ?_
      refine (same_ops (some ⟨gb, 0, none⟩) A cb c w8 CB' hC).mono ?_
      rintro e w9 ⟨rfl, b⟩
      exact ⟨_, rfl, _, rfl, rfl, b⟩
    · cases hi
      have h0 := gdq _ _ _ (show a.tmps.getD 54 undef = .bool true from hM.at_ 5 (by decide) (by kernel_rfl))
      have h1 := gdq _ _ _ (show a.tmps.getD 59 undef = .bool true from hM.at_ 10 (by decide) (by kernel_rfl))
      refine RegInv.op_value (by rfl) rfl (v := .bool true) (w' := w8) ?_ ⟨_, rfl, rfl, Below.refl _ _⟩
      unfold execOp
      go_simp
    · cases hi
      have h0 := gdq _ _ _ (show a.tmps.getD 60 undef = .bool true from hM.at_ 11 (by decide) (by kernel_rfl))
      refine RegInv.op_value (by rfl) rfl (v := .bool true) (w' := w8) ?_ ⟨_, rfl, rfl, Below.refl _ _⟩
      unfold execOp
      go_simp
    · cases hi
      have h0 := gdq _ _ _ (show a.tmps.getD 3 undef = .pointer (some ⟨ge, 0, none⟩) from hM.off 3 (by kernel_rfl))
      have hg : a.tmps.getD 61 undef = .bool true := hM.at_ 12 (by decide) (by kernel_rfl)
      refine RegInv.op_valueW (by rfl) (RegInv.wanted_of 61 rfl rfl hg) (v := .pointer (some ⟨ge, 2, none⟩)) (w' := w8) ?_ ⟨_, rfl, rfl, Below.refl _ _⟩
      unfold execOp
      go_simp
    · cases hi
      have h0 := gdq _ _ _ (show a.tmps.getD 62 undef = .pointer (some ⟨ge, 2, none⟩) from hM.at_ 13 (by decide) (by kernel_rfl))
      have hg : a.tmps.getD 61 undef = .bool true := hM.at_ 12 (by decide) (by kernel_rfl)
      have y : w8.cell? ⟨ge, 2, none⟩ = some (.int .i64 1) := blk_cell KE' 2
      refine RegInv.op_valueW (by rfl) (RegInv.wanted_of 61 rfl rfl hg) (v := .int .i64 1) (w' := w8) ?_ ⟨_, rfl, rfl, Below.refl _ _⟩
      unfold execOp
      go_simp
    · cases hi
      have h0 := gdq _ _ _ (show a.tmps.getD 63 undef = .int .i64 1 from hM.at_ 14 (by decide) (by kernel_rfl))
      have hg : a.tmps.getD 61 undef = .bool true := hM.at_ 12 (by decide) (by kernel_rfl)
      refine RegInv.op_valueW (by rfl) (RegInv.wanted_of 61 rfl rfl hg) (v := .bool true) (w' := w8) ?_ ⟨_, rfl, rfl, Below.refl _ _⟩
      unfold execOp
      go_simp
    · cases hi
      have h0 := gdq _ _ _ (show a.tmps.getD 61 undef = .bool true from hM.at_ 12 (by decide) (by kernel_rfl))
      have h1 := gdq _ _ _ (show a.tmps.getD 64 undef = .bool true from hM.at_ 15 (by decide) (by kernel_rfl))
      refine RegInv.op_value (by rfl) rfl (v := .bool true) (w' := w8) ?_ ⟨_, rfl, rfl, Below.refl _ _⟩
      unfold execOp
      go_simp
    · cases hi
      have h0 := gdq _ _ _ (show a.tmps.getD 65 undef = .bool true from hM.at_ 16 (by decide) (by kernel_rfl))
      refine RegInv.op_value (by rfl) rfl (v := .bool true) (w' := w8) ?_ ⟨_, rfl, rfl, Below.refl _ _⟩
      unfold execOp
      go_simp
    · cases hi
      have h0 := gdq _ _ _ (show a.tmps.getD 4 undef = .pointer (some ⟨gf, 0, none⟩) from hM.off 4 (by kernel_rfl))
      have hg : a.tmps.getD 66 undef = .bool true := hM.at_ 17 (by decide) (by kernel_rfl)
      refine RegInv.op_valueW (by rfl) (RegInv.wanted_of 66 rfl rfl hg) (v := .pointer (some ⟨gf, 2, none⟩)) (w' := w8) ?_ ⟨_, rfl, rfl, Below.refl _ _⟩
      unfold execOp
      go_simp
    · cases hi
      have h0 := gdq _ _ _ (show a.tmps.getD 67 undef = .pointer (some ⟨gf, 2, none⟩) from hM.at_ 18 (by decide) (by kernel_rfl))
      have hg : a.tmps.getD 66 undef = .bool true := hM.at_ 17 (by decide) (by kernel_rfl)
      have y : w8.cell? ⟨gf, 2, none⟩ = some (.int .i64 2) := blk_cell KF' 2
      refine RegInv.op_valueW (by rfl) (RegInv.wanted_of 66 rfl rfl hg) (v := .int .i64 2) (w' := w8) ?_ ⟨_, rfl, rfl, Below.refl _ _⟩
      unfold execOp
      go_simp
    · cases hi
      have h0 := gdq _ _ _ (show a.tmps.getD 68 undef = .int .i64 2 from hM.at_ 19 (by decide) (by kernel_rfl))
      have hg : a.tmps.getD 66 undef = .bool true := hM.at_ 17 (by decide) (by kernel_rfl)
      refine RegInv.op_valueW (by rfl) (RegInv.wanted_of 66 rfl rfl hg) (v := .bool true) (w' := w8) ?_ ⟨_, rfl, rfl, Below.refl _ _⟩
      unfold execOp
      go_simp
    · cases hi
      have h0 := gdq _ _ _ (show a.tmps.getD 66 undef = .bool true from hM.at_ 17 (by decide) (by kernel_rfl))
      have h1 := gdq _ _ _ (show a.tmps.getD 69 undef = .bool true from hM.at_ 20 (by decide) (by kernel_rfl))
      refine RegInv.op_value (by rfl) rfl (v := .bool true) (w' := w8) ?_ ⟨_, rfl, rfl, Below.refl _ _⟩
      unfold execOp
      go_simp
    · cases hi
      have h0 := gdq _ _ _ (show a.tmps.getD 70 undef = .bool true from hM.at_ 21 (by decide) (by kernel_rfl))
      refine RegInv.op_value (by rfl) rfl (v := .bool true) (w' := w8) ?_ ⟨_, rfl, rfl, Below.refl _ _⟩
      unfold execOp
      go_simp
    · exact absurd hlt (by omega)
  intro vs w10 b3 hF
  have e22 : vs 22 = .bool true := hF 22 (by omega)
  clear hF
  simp only [RegInv.puts, dW7, Act.put, List.range, List.range.loop, List.setIfInBounds_toArray, List.set_cons_zero, List.set_cons_succ]
  rw [e22]
  refine hK _ _ ?_
  clear hK
  go_wp2
  go_ret
  exact ⟨rfl, wB HB.out b3⟩
end Go.Proofs.Ytjekpkpmoanadaa.PCop
/- copies.Run, plainly: once is enough; what it keeps; nobody asks for a copy. -/
namespace Go.Proofs.Ytjekpkpmoanadaa.PCop
set_option linter.unusedVariables false
set_option linter.unusedSimpArgs false
/-- what is known of registers is not itself known to be something else -/
def Flat (M : Map49) : Prop := ∀ r o, M r = some o → o.f0 = 0 → M o.f1 = none ∧ o.f1 ≠ r
/-! what comes out is as9 small as9 what went in -/
def Good (M : Map49) : Prop := ∀ a o, M a = some o → WF o.f1
end Go.Proofs.Ytjekpkpmoanadaa.PCop
/- CopiesRun's contract: what copies.Run answers is the document's answer, what is handed in is left alone, and the answers share no memory. For every code of a size that memory can hold. -/
namespace Go.Proofs.Ytjekpkpmoanadaa.PCop
open Go.RowKit Go.Proofs.Ytjekpkpmoanadaa.FarKd Go.Proofs.Ytjekpkpmoanadaa.Lit Go.Proofs.Ytjekpkpmoanadaa.OwnCells Go.Proofs.Ytjekpkpmoanadaa.Flat Go.Proofs.Ytjekpkpmoanadaa.Tree Go.Proofs.YtjekpkpmoanadaaW.PrintWords Go.Proofs.YtjekpkpmoanadaaW.PrintLast Go.Proofs.YtjekpkpmoanadaaW.PrintMore
set_option linter.unusedVariables false
set_option linter.unusedSimpArgs false
theorem rg_of {T : List Co} {C0 : Array Value} {w : World} {base : Nat} (th : TH w base T) (two : Two T) (hb : base ≤ w.heap.size) :
    Rg (fl T C0) base w w (fun j => ((LO T).getD j lf0).v) (fun j => ((LO T).getD j lf0).n) (fun p => ((LB T).getD p bl0).nx.n) (fun j => ((LO T).getD j lf0).xs) (fun p => ((LB T).getD p bl0).nx.xs) := by
  have hall : off (nOp (fl T C0)) (fl T C0).NI = (LO T).length := ov_all
  have hNB : (fl T C0).NB = (LB T).length := fl_NB
  refine ⟨fun q hq => ov0 hq, fun q s hq hs => ov1 hq hs, fun j hj => ?_, fun i j b hi hj => ?_, ?_, fun j hj => ?_, fun p hp => ?_, fun i j b hi hj => ?_, fun p hp => ?_, hb⟩
  · rw [hall] at hj
    exact th.os (getD_mem lf0 hj)
  · rw [hall] at hi hj
    exact far_idx lf0 th.faro i j b hi hj
  · rw [hall]; have := two.lo; omega
  · rw [hall] at hj
    have := two.on _ (getD_mem lf0 hj)
    show (((LO T).getD j lf0).n + 64) * 16 ≤ _
    omega
  · rw [hNB] at hp
    exact (th.bl (getD_mem bl0 hp)).nx
  · rw [hNB] at hi hj
    exact far_idx (g := fun b => b.nx.v) bl0 th.farn i j b hi hj
  · rw [hNB] at hp
    have := two.nn _ (getD_mem bl0 hp)
    show ((LB T).getD p bl0).nx.n ≤ _
    omega
theorem Q43_below {w w1 : World} {b e : Nat} {v : Value} (h : Q43 w b e v) (hb : Below w.heap.size w w1) : Q43 w1 b e v := let ⟨xs, h1⟩ := h; ⟨xs, Kd.R_below h1 hb⟩
structure SmallT (l : List S43) : Prop where
  ok : OkL l
  hand : Hd.SmallC l
  same : SmallB' (runS l)
  fit : Fit (runS l)
set_option maxHeartbeats 16000000 in
set_option maxRecDepth 100000 in
theorem portagelaw22_CopiesRun.calls (a b : Int) (A2 : Option Addr) (c2 : Nat) (l : List S43) (r : Bool) (W : World) (hA : k43.C W A2 l.length l) (hcl : l.length ≤ c2) (h : SmallT l ∧ r = true) :
    Calls Try.prog 3 #[.agg #[.int .i64 a, .int .i64 b, .slice A2 l.length c2]] W fun e w' => e = .returned (.bool r) ∧ Below W.heap.size W w' := by
  obtain ⟨hsm, rfl⟩ := h
  have HA := Aside0.mk hA
  have HCL := Aside0.mk hcl
  have HSM := Aside0.mk hsm
  clear hA hcl hsm
  go_enter Try.func3, Try.ntmps3
  go_upto_region 1 with (fail)
  have hb1 := below_alloc (Below.refl _ W) (.cells #[.int .i64 a, .int .i64 b, .slice A2 l.length c2] 24)
  have K1 := blk_new W (.cells #[.int .i64 a, .int .i64 b, .slice A2 l.length c2] 24)
  have HB := Aside0.mk hb1
  have HK1 := Aside0.mk K1
  clear hb1 K1
  generalize W.alloc (.cells #[.int .i64 a, .int .i64 b, .slice A2 l.length c2] 24) = w1 at *
  obtain ⟨g1, hg1⟩ : ∃ g1, g1 = W.heap.size := ⟨_, rfl⟩
  rw [← hg1] at HK1 ⊢
  clear hg1
  go_wp2_with (fail)
  refine (works_calls w1).mono ?_
  rintro e w2 ⟨rfl, b2⟩
  replace HB := Aside0.mk (wB HB.out b2)
  replace HK1 := Aside0.mk (blk_below HK1.out b2)
  clear b2
  have x0 : w2.cell? ⟨g1, 0, none⟩ = some (.int .i64 a) := blk_cell HK1.out 0
  have x1 : w2.cell? ⟨g1, 1, none⟩ = some (.int .i64 b) := blk_cell HK1.out 1
  have x2 : w2.cell? ⟨g1, 2, none⟩ = some (.slice A2 l.length c2) := blk_cell HK1.out 2
  go_wp2_with (fail)
  refine (refrun_calls a b A2 c2 l w2 (Kd.C_below HA.out HB.out) HCL.out HSM.out.ok).mono ?_
  rintro e w3 ⟨vW, rfl, hRW, b3⟩
  obtain ⟨PW, dW, rfl⟩ := Kd.R_slice hRW
  clear x0 x1 x2
  go_upto_region 4 with (fail)
  have b4 := below_alloc (Below.refl _ w3) (.cells #[.int .i64 a, .int .i64 b, .slice PW (runS l).length dW] 24)
  have K3 := blk_new w3 (.cells #[.int .i64 a, .int .i64 b, .slice PW (runS l).length dW] 24)
  have HRW := Aside0.mk (Kd.R_below hRW b4)
  replace HB := Aside0.mk (wB HB.out (wB b3 b4))
  replace HK1 := Aside0.mk (blk_below HK1.out (wB b3 b4))
  have HK3 := Aside0.mk K3
  clear b3 b4 K3 hRW
  generalize w3.alloc (.cells #[.int .i64 a, .int .i64 b, .slice PW (runS l).length dW] 24) = w4 at *
  generalize w3.heap.size = g3 at *
  have x0 : w4.cell? ⟨g1, 0, none⟩ = some (.int .i64 a) := blk_cell HK1.out 0
  have x1 : w4.cell? ⟨g1, 1, none⟩ = some (.int .i64 b) := blk_cell HK1.out 1
  have x2 : w4.cell? ⟨g1, 2, none⟩ = some (.slice A2 l.length c2) := blk_cell HK1.out 2
  go_wp2_with (fail)
  have HW4 := Aside0.mk HB.out.size
  refine (Hd.hand_code A2 c2 l a b w4 (Kd.C_below HA.out HB.out) HCL.out HSM.out.hand).mono ?_
  rintro e w5 ⟨g, PB, dB, vO, vS, vN, vI, O, S, NX, I, rfl, hM, b5⟩
  clear x0 x1 x2
  have HM := Aside0.mk hM
  have HQ := Aside0.mk (show Q43 w5 w4.heap.size w5.heap.size (.slice PB l.length dB) from ⟨l, by
    have h1 := Kd.R_take (m := l.length) (Kd.R_mono (ok' := fun k => k < w5.heap.size) (Kd.R_bound hM.rb) (fun k hk => hk.2.2.1)) (by rw [Hd.full_len]; omega)
    rwa [Hd.full_take] at h1⟩)
  have HCB := Aside0.mk (show l.length ≤ dB ∧ k43.C w5 PB l.length l from ⟨by have := (Kd.R_reads' hM.rb).2.1; rw [Hd.full_len] at this; omega, by
    have := Kd.C_take (Kd.R_reads' hM.rb).2.2 (m := l.length) (by rw [Hd.full_len]; omega)
    rwa [Hd.full_take] at this⟩)
  have H45 := Aside0.mk b5.size
  have HG := Aside0.mk (And.intro hM.hg (blk_lt hM.blk))
  replace HB := Aside0.mk (wB HB.out b5)
  replace HK1 := Aside0.mk (blk_below HK1.out b5)
  replace HK3 := Aside0.mk (And.intro (blk_below HK3.out b5) (blk_lt HK3.out))
  replace HRW := Aside0.mk (And.intro (Kd.R_mono (ok' := fun k => k < w4.heap.size) (Kd.R_old HRW.out b5) (fun k hk => hk.2)) (Nat.le_refl 0))
  have x0 : w5.cell? ⟨g, 0, none⟩ = some (.int .i64 a) := blk_cell hM.blk 0
  have x1 : w5.cell? ⟨g, 1, none⟩ = some (.int .i64 b) := blk_cell hM.blk 1
  have x2 : w5.cell? ⟨g, 2, none⟩ = some (.slice PB l.length dB) := blk_cell hM.blk 2
  clear hM b5
  obtain ⟨m4, hm4⟩ : ∃ m4, m4 = w4.heap.size := ⟨_, rfl⟩
  rw [← hm4] at HM HQ H45 HG HK3 HRW
  have HM4 := Aside0.mk (show W.heap.size ≤ m4 by rw [hm4]; exact HW4.out)
  clear hm4
  go_wp2_with (fail)
  refine (run_calls a b PB dB l w5 HCB.out.2 HSM.out.ok).mono ?_
  rintro e w6 ⟨v1, rfl, hS1, b6⟩
  obtain ⟨P1, d1, rfl, _⟩ := Kd.S_reads hS1
  clear x0 x1 x2
  go_upto_region 6 with (fail)
  have b7 := below_alloc (Below.refl _ w6) (.cells #[.int .i64 a, .int .i64 b, .slice P1 (runS l).length d1] 24)
  have K5 := blk_new w6 (.cells #[.int .i64 a, .int .i64 b, .slice P1 (runS l).length d1] 24)
  have b57 := wB b6 b7
  have HS1 := Aside0.mk (Kd.S_below hS1 b7)
  obtain ⟨m5, hm5⟩ : ∃ m5, m5 = w5.heap.size := ⟨_, rfl⟩
  rw [← hm5] at HS1 HQ H45 HG
  have H57 := Aside0.mk (show m5 ≤ w6.heap.size from by rw [hm5]; exact b6.size)
  replace HM := Aside0.mk (HM.out.below b57)
  replace HQ := Aside0.mk (show Q43 (w6.alloc (.cells #[.int .i64 a, .int .i64 b, .slice P1 (runS l).length d1] 24)) m4 m5 (.slice PB l.length dB) from ⟨HQ.out.choose, Kd.R_below HQ.out.choose_spec b57⟩)
  replace HCB := Aside0.mk (And.intro HCB.out.1 (Kd.C_below HCB.out.2 b57))
  replace HB := Aside0.mk (wB HB.out b57)
  replace HK1 := Aside0.mk (blk_below HK1.out b57)
  replace HK3 := Aside0.mk (And.intro (blk_below HK3.out.1 b57) HK3.out.2)
  replace HRW := Aside0.mk (And.intro (Kd.R_below HRW.out.1 b57) HRW.out.2)
  have HK5 := Aside0.mk K5
  clear b6 b7 b57 K5 hS1 hm5
  generalize w6.alloc (.cells #[.int .i64 a, .int .i64 b, .slice P1 (runS l).length d1] 24) = w7 at *
  generalize w6.heap.size = g5 at *
  have x0 : w7.cell? ⟨g, 0, none⟩ = some (.int .i64 a) := blk_cell HM.out.blk 0
  have x1 : w7.cell? ⟨g, 1, none⟩ = some (.int .i64 b) := blk_cell HM.out.blk 1
  have x2 : w7.cell? ⟨g, 2, none⟩ = some (.slice PB l.length dB) := blk_cell HM.out.blk 2
  go_wp2_with (fail)
  refine (run_calls a b PB dB l w7 HCB.out.2 HSM.out.ok).mono ?_
  rintro e w8 ⟨v2, rfl, hS2, b8⟩
  obtain ⟨P2, d2, rfl, _⟩ := Kd.S_reads hS2
  clear x0 x1 x2
  go_upto_region 7 with (fail)
  have b9 := below_alloc (Below.refl _ w8) (.cells #[.int .i64 a, .int .i64 b, .slice P2 (runS l).length d2] 24)
  have K6 := blk_new w8 (.cells #[.int .i64 a, .int .i64 b, .slice P2 (runS l).length d2] 24)
  have b79 := wB b8 b9
  obtain ⟨m7, hm7⟩ : ∃ m7, m7 = w7.heap.size := ⟨_, rfl⟩
  have HS2 := Aside0.mk (Kd.S_mono (ok' := fun k => m7 ≤ k) (Kd.S_bound (Kd.S_below hS2 b9)) (fun k hk => by rw [hm7]; exact hk.2.1))
  replace HS1 := Aside0.mk (Kd.S_mono (ok' := fun k => m5 ≤ k ∧ k < m7) (Kd.S_below (Kd.S_bound HS1.out) b79) (fun k hk => ⟨hk.2.1, by rw [hm7]; exact hk.2.2.1⟩))
  have H577 := Aside0.mk (show m5 ≤ m7 ∧ m7 ≤ w8.heap.size from ⟨by rw [hm7]; exact Nat.le_trans H57.out (Nat.le_of_lt (blk_lt HK5.out)), by rw [hm7]; exact b8.size⟩)
  rw [← hm7] at HS2
  replace HM := Aside0.mk (HM.out.below b79)
  replace HQ := Aside0.mk (show Q43 (w8.alloc (.cells #[.int .i64 a, .int .i64 b, .slice P2 (runS l).length d2] 24)) m4 m5 (.slice PB l.length dB) from ⟨HQ.out.choose, Kd.R_below HQ.out.choose_spec b79⟩)
  replace HB := Aside0.mk (wB HB.out b79)
  replace HK1 := Aside0.mk (blk_below HK1.out b79)
  replace HK3 := Aside0.mk (And.intro (blk_below HK3.out.1 b79) HK3.out.2)
  replace HRW := Aside0.mk (And.intro (Kd.R_below HRW.out.1 b79) HRW.out.2)
  replace HK5 := Aside0.mk (blk_below HK5.out b79)
  have HK6 := Aside0.mk K6
  clear b8 b9 b79 K6 hS2 hm7 HCB
  generalize w8.alloc (.cells #[.int .i64 a, .int .i64 b, .slice P2 (runS l).length d2] 24) = w9 at *
  generalize w8.heap.size = g6 at *
  have x0 : w9.cell? ⟨g5, 0, none⟩ = some (.int .i64 a) := blk_cell HK5.out 0
  have x1 : w9.cell? ⟨g5, 1, none⟩ = some (.int .i64 b) := blk_cell HK5.out 1
  have x2 : w9.cell? ⟨g5, 2, none⟩ = some (.slice P1 (runS l).length d1) := blk_cell HK5.out 2
  have y0 : w9.cell? ⟨g3, 0, none⟩ = some (.int .i64 a) := blk_cell HK3.out.1 0
  have y1 : w9.cell? ⟨g3, 1, none⟩ = some (.int .i64 b) := blk_cell HK3.out.1 1
  have y2 : w9.cell? ⟨g3, 2, none⟩ = some (.slice PW (runS l).length dW) := blk_cell HK3.out.1 2
  go_wp2_with (fail)
  refine (same_regs a b P1 PW d1 dW (runS l) w9 (Kd.R_reads' (kA43_R (Kd.S_R HS1.out))).2.2 (Kd.R_reads' HRW.out.1).2.2 HSM.out.same).mono ?_
  rintro e w10 ⟨rfl, b10⟩
  clear x0 x1 x2 y0 y1 y2
  replace HM := Aside0.mk (HM.out.below b10)
  replace HQ := Aside0.mk (Q43_below HQ.out b10)
  replace HB := Aside0.mk (wB HB.out b10)
  replace HK1 := Aside0.mk (blk_below HK1.out b10)
  replace HK3 := Aside0.mk (And.intro (blk_below HK3.out.1 b10) HK3.out.2)
  replace HRW := Aside0.mk (And.intro (Kd.R_below HRW.out.1 b10) HRW.out.2)
  replace HK5 := Aside0.mk (blk_below HK5.out b10)
  replace HK6 := Aside0.mk (blk_below HK6.out b10)
  replace HS1 := Aside0.mk (Kd.S_below HS1.out b10)
  replace HS2 := Aside0.mk (Kd.S_below HS2.out b10)
  have x0 : w10.cell? ⟨g6, 0, none⟩ = some (.int .i64 a) := blk_cell HK6.out 0
  have x1 : w10.cell? ⟨g6, 1, none⟩ = some (.int .i64 b) := blk_cell HK6.out 1
  have x2 : w10.cell? ⟨g6, 2, none⟩ = some (.slice P2 (runS l).length d2) := blk_cell HK6.out 2
  have y0 : w10.cell? ⟨g3, 0, none⟩ = some (.int .i64 a) := blk_cell HK3.out.1 0
  have y1 : w10.cell? ⟨g3, 1, none⟩ = some (.int .i64 b) := blk_cell HK3.out.1 1
  have y2 : w10.cell? ⟨g3, 2, none⟩ = some (.slice PW (runS l).length dW) := blk_cell HK3.out.1 2
  clear b10
  go_wp2_with (fail)
  refine (same_regs a b P2 PW d2 dW (runS l) w10 (Kd.R_reads' (kA43_R (Kd.S_R HS2.out))).2.2 (Kd.R_reads' HRW.out.1).2.2 HSM.out.same).mono ?_
  rintro e w11 ⟨rfl, b11⟩
  clear x0 x1 x2 y0 y1 y2
  replace HM := Aside0.mk (HM.out.below b11)
  replace HQ := Aside0.mk (Q43_below HQ.out b11)
  replace HB := Aside0.mk (wB HB.out b11)
  replace HK1 := Aside0.mk (blk_below HK1.out b11)
  replace HK3 := Aside0.mk (And.intro (blk_below HK3.out.1 b11) HK3.out.2)
  replace HRW := Aside0.mk (And.intro (Kd.R_below HRW.out.1 b11) HRW.out.2)
  replace HK5 := Aside0.mk (blk_below HK5.out b11)
  replace HK6 := Aside0.mk (blk_below HK6.out b11)
  replace HS1 := Aside0.mk (Kd.S_below HS1.out b11)
  replace HS2 := Aside0.mk (Kd.S_below HS2.out b11)
  have x0 : w11.cell? ⟨g1, 0, none⟩ = some (.int .i64 a) := blk_cell HK1.out 0
  have x1 : w11.cell? ⟨g1, 1, none⟩ = some (.int .i64 b) := blk_cell HK1.out 1
  have x2 : w11.cell? ⟨g1, 2, none⟩ = some (.slice A2 l.length c2) := blk_cell HK1.out 2
  clear b11
  go_wp2_with (fail)
  refine (Hd.kept_calls m4 g w11 a b a b PB A2 dB c2 vO vS vN vI O S NX I l HM.out (Kd.C_below HA.out HB.out) HCL.out HSM.out.hand).mono ?_
  rintro e w12 ⟨rfl, b12⟩
  clear x0 x1 x2
  replace HM := Aside0.mk (HM.out.below b12)
  replace HQ := Aside0.mk (Q43_below HQ.out b12)
  replace HB := Aside0.mk (wB HB.out b12)
  replace HK1 := Aside0.mk (blk_below HK1.out b12)
  replace HK3 := Aside0.mk (And.intro (blk_below HK3.out.1 b12) HK3.out.2)
  replace HRW := Aside0.mk (And.intro (Kd.R_below HRW.out.1 b12) HRW.out.2)
  replace HK5 := Aside0.mk (blk_below HK5.out b12)
  replace HK6 := Aside0.mk (blk_below HK6.out b12)
  replace HS1 := Aside0.mk (Kd.S_below HS1.out b12)
  replace HS2 := Aside0.mk (Kd.S_below HS2.out b12)
  have x0 : w12.cell? ⟨g, 0, none⟩ = some (.int .i64 a) := blk_cell HM.out.blk 0
  have x1 : w12.cell? ⟨g, 1, none⟩ = some (.int .i64 b) := blk_cell HM.out.blk 1
  have x2 : w12.cell? ⟨g, 2, none⟩ = some (.slice PB l.length dB) := blk_cell HM.out.blk 2
  clear b12
  go_wp2_with (fail)
  refine (over_calls a b PB l.length dB w12 m4 m5 HQ.out (by have h1 := H577.out.1; have h2 := H577.out.2; have h3 := blk_lt HK6.out; omega)).mono ?_
  rintro e w13 ⟨r, rfl, b13⟩
  clear x0 x1 x2
  have hS1' := S_but HS1.out b13 (fun k hk hs => absurd hs.2 (by have := hk.1; omega))
  have hS2' := S_but HS2.out b13 (fun k hk hs => absurd hs.2 (by have h1 := H577.out.1; have h2 : m7 ≤ k := hk; omega))
  have hRW' := R_but HRW.out.1 b13 (fun k hk hs => absurd hs.1 (by have : k < m4 := hk; omega))
  have hK3' := blk_but HK3.out.1 b13 (fun hs => absurd hs.1 (by have := HK3.out.2; omega))
  have hK5' := blk_but HK5.out b13 (fun hs => absurd hs.2 (by have := H57.out; omega))
  have hK6' := blk_but HK6.out b13 (fun hs => absurd hs.2 (by have := H577.out.1; have := H577.out.2; omega))
  have hB' := (But.of_below HB.out).trans b13 (T := fun k => m4 ≤ k ∧ k < m5) (fun k hk => .inr (by have := HM4.out; omega))
  have hB'' : Below W.heap.size W w13 := hB'.to_below (Nat.le_refl _) (fun _ h => h.elim)
  replace HS1 := Aside0.mk hS1'
  replace HS2 := Aside0.mk hS2'
  replace HRW := Aside0.mk (And.intro hRW' HRW.out.2)
  replace HK3 := Aside0.mk (And.intro hK3' HK3.out.2)
  replace HK5 := Aside0.mk hK5'
  replace HK6 := Aside0.mk hK6'
  replace HB := Aside0.mk hB''
  clear hS1' hS2' hRW' hK3' hK5' hK6' hB' hB'' b13 HM HQ HK1
  have x0 : w13.cell? ⟨g5, 0, none⟩ = some (.int .i64 a) := blk_cell HK5.out 0
  have x1 : w13.cell? ⟨g5, 1, none⟩ = some (.int .i64 b) := blk_cell HK5.out 1
  have x2 : w13.cell? ⟨g5, 2, none⟩ = some (.slice P1 (runS l).length d1) := blk_cell HK5.out 2
  have y0 : w13.cell? ⟨g3, 0, none⟩ = some (.int .i64 a) := blk_cell HK3.out.1 0
  have y1 : w13.cell? ⟨g3, 1, none⟩ = some (.int .i64 b) := blk_cell HK3.out.1 1
  have y2 : w13.cell? ⟨g3, 2, none⟩ = some (.slice PW (runS l).length dW) := blk_cell HK3.out.1 2
  go_wp2_with (fail)
  refine (same_regs a b P1 PW d1 dW (runS l) w13 (Kd.R_reads' (kA43_R (Kd.S_R HS1.out))).2.2 (Kd.R_reads' HRW.out.1).2.2 HSM.out.same).mono ?_
  rintro e w14 ⟨rfl, b14⟩
  clear x0 x1 x2 y0 y1 y2
  replace HB := Aside0.mk (wB HB.out b14)
  replace HK3 := Aside0.mk (And.intro (blk_below HK3.out.1 b14) HK3.out.2)
  replace HRW := Aside0.mk (And.intro (Kd.R_below HRW.out.1 b14) HRW.out.2)
  replace HK5 := Aside0.mk (blk_below HK5.out b14)
  replace HK6 := Aside0.mk (blk_below HK6.out b14)
  replace HS1 := Aside0.mk (Kd.S_below HS1.out b14)
  replace HS2 := Aside0.mk (Kd.S_below HS2.out b14)
  have x0 : w14.cell? ⟨g6, 0, none⟩ = some (.int .i64 a) := blk_cell HK6.out 0
  have x1 : w14.cell? ⟨g6, 1, none⟩ = some (.int .i64 b) := blk_cell HK6.out 1
  have x2 : w14.cell? ⟨g6, 2, none⟩ = some (.slice P2 (runS l).length d2) := blk_cell HK6.out 2
  have y0 : w14.cell? ⟨g3, 0, none⟩ = some (.int .i64 a) := blk_cell HK3.out.1 0
  have y1 : w14.cell? ⟨g3, 1, none⟩ = some (.int .i64 b) := blk_cell HK3.out.1 1
  have y2 : w14.cell? ⟨g3, 2, none⟩ = some (.slice PW (runS l).length dW) := blk_cell HK3.out.1 2
  clear b14
  go_wp2_with (fail)
  refine (same_regs a b P2 PW d2 dW (runS l) w14 (Kd.R_reads' (kA43_R (Kd.S_R HS2.out))).2.2 (Kd.R_reads' HRW.out.1).2.2 HSM.out.same).mono ?_
  rintro e w15 ⟨rfl, b15⟩
  clear x0 x1 x2 y0 y1 y2
  replace HB := Aside0.mk (wB HB.out b15)
  replace HK3 := Aside0.mk (And.intro (blk_below HK3.out.1 b15) HK3.out.2)
  replace HRW := Aside0.mk (And.intro (Kd.R_below HRW.out.1 b15) HRW.out.2)
  replace HK5 := Aside0.mk (blk_below HK5.out b15)
  replace HK6 := Aside0.mk (blk_below HK6.out b15)
  replace HS1 := Aside0.mk (Kd.S_below HS1.out b15)
  replace HS2 := Aside0.mk (Kd.S_below HS2.out b15)
  have x0 : w15.cell? ⟨g5, 0, none⟩ = some (.int .i64 a) := blk_cell HK5.out 0
  have x1 : w15.cell? ⟨g5, 1, none⟩ = some (.int .i64 b) := blk_cell HK5.out 1
  have x2 : w15.cell? ⟨g5, 2, none⟩ = some (.slice P1 (runS l).length d1) := blk_cell HK5.out 2
  have y0 : w15.cell? ⟨g6, 0, none⟩ = some (.int .i64 a) := blk_cell HK6.out 0
  have y1 : w15.cell? ⟨g6, 1, none⟩ = some (.int .i64 b) := blk_cell HK6.out 1
  have y2 : w15.cell? ⟨g6, 2, none⟩ = some (.slice P2 (runS l).length d2) := blk_cell HK6.out 2
  clear b15
  go_wp2_with (fail)
  clear x0 x1 x2 y0 y1 y2
  have b16 := below_alloc (Below.refl _ w15) (.cells #[.int .i64 a, .int .i64 b, .slice P1 (runS l).length d1, .int .i64 a, .int .i64 b, .slice P2 (runS l).length d2] 24)
  have K0 := blk_new w15 (.cells #[.int .i64 a, .int .i64 b, .slice P1 (runS l).length d1, .int .i64 a, .int .i64 b, .slice P2 (runS l).length d2] 24)
  obtain ⟨c1, e1, H1, s1⟩ := co_of (Kd.S_below HS1.out b16)
  obtain ⟨c2', e2, H2, s2⟩ := co_of (Kd.S_lower (Kd.S_below HS2.out b16) H577.out.1)
  have th := th_two H1 H2 (fun k h1 h2 => by have := h1.2; have h3 : m7 ≤ k := h2; omega)
  have two := two_of s1 s2 HSM.out.fit
  have hsz : m5 ≤ (w15.alloc (.cells #[.int .i64 a, .int .i64 b, .slice P1 (runS l).length d1, .int .i64 a, .int .i64 b, .slice P2 (runS l).length d2] 24)).heap.size := by
    have h1 := H577.out.1; have h2 := H577.out.2; have h3 := blk_lt HK6.out; have h4 := b16.size; omega
  have HBE := Aside0.mk (wB HB.out b16)
  have hM5 : W.heap.size ≤ m5 := Nat.le_trans HM4.out H45.out
  refine (apartregs_calls (fl [c1, c2'] #[.int .i64 a, .int .i64 b, .slice P1 (runS l).length d1, .int .i64 a, .int .i64 b, .slice P2 (runS l).length d2]) w15.heap.size m5 2 2 _ _ _ _ _ _ _ _ _ _ rfl (fl_ok th hsz (fun k hk => ?hc) (Nat.le_refl 2) (by have := two.lb; omega) (by have := two.li; omega) (by have := two.le; omega)) (fl_fs th K0) (rg_of th two hsz)).mono ?_
  case hc =>
    have hk2 : k < 2 := hk
    rcases k with _ | _ | k
    · show some (Value.slice P1 (runS l).length d1) = some c1.bv
      rw [e1]
    · show some (Value.slice P2 (runS l).length d2) = some c2'.bv
      rw [e2]
    · omega
  rintro e w17 ⟨rfl, b17⟩
  have hfin : Below W.heap.size W w17 := ((But.of_below HBE.out).trans (But.mono (T := fun k => m5 ≤ k) ⟨b17.os, b17.tape, b17.output, b17.size, fun k hk hn => b17.block k (Nat.lt_of_not_le hn)⟩ (fun _ h => h)) (fun k hk => .inr (Nat.le_trans hM5 hk))).to_below (Nat.le_refl _) (fun _ h => h.elim)
  have HFIN := Aside0.mk hfin
  clear hfin b17 th two H1 H2 s1 s2 e1 e2 K0 b16 hsz hM5
  go_wp2
  go_ret
  exact ⟨rfl, HFIN.out⟩
end Go.Proofs.Ytjekpkpmoanadaa.PCop
/- The row's bounds as9 Run's. -/
namespace Go.Proofs.Ytjekpkpmoanadaa.PCop
set_option linter.unusedVariables false
theorem okL_upto {l : List S43} (h : l.length ≤ 1048576 ∧ ∀ x0 ∈ l, ((Lit.int .i64 x0.f0).wf = true ∧ (x0.f1.length ≤ 1048576 ∧ ∀ x1 ∈ x0.f1, ((Lit.int .i64 x1.f0).wf = true ∧ (Lit.int .i64 x1.f1).wf = true ∧ (Lit.int .i64 x1.f2).wf = true ∧ (x1.f3.length ≤ 1048576 ∧ ∀ x2 ∈ x1.f3, ((Lit.int .i64 x2.f0).wf = true ∧ (Lit.int .i64 x2.f1).wf = true)) ∧ (Lit.int .i64 x1.f4).wf = true ∧ (Lit.int .i64 x1.f5).wf = true ∧ (Lit.int .i64 x1.f6).wf = true ∧ (x1.f7.length ≤ 1048576 ∧ ∀ x2 ∈ x1.f7, ((Lit.int .i64 x2.f0).wf = true ∧ (Lit.int .i64 x2.f1).wf = true ∧ (x2.f2.length ≤ 1048576 ∧ ∀ x3 ∈ x2.f2, ((Lit.int .i64 x3.f0).wf = true ∧ (Lit.int .i64 x3.f1).wf = true))))) ) ∧ (x0.f2.length ≤ 1048576 ∧ ∀ x1 ∈ x0.f2, (Lit.int .i64 x1).wf = true))) : OkL l where
  len := by have := h.1; omega
  ins := fun b hb => by have := (h.2 b hb).2.1.1; omega
  next := fun b hb => by have := (h.2 b hb).2.2.1; omega
  each := fun b hb x hx =>
    let ⟨_, _, h2, h3, _, _, _, h7⟩ := (h.2 b hb).2.1.2 x hx
    { dst := h2, args := by have := h3.1; omega, exit := by have := h7.1; omega, slots := fun s hs => by have := (h7.2 s hs).2.2.1; omega, wfa := fun o ho => (h3.2 o ho).2, wfs := fun s hs o ho => ((h7.2 s hs).2.2.2 o ho).2 }
end Go.Proofs.Ytjekpkpmoanadaa.PCop
/- The same as9 OpenUpto, with the weight of what is opened (a class Wt): by the bulk of what is read: for the statements whose inputs are of a bulk of at most 1048576. -/
namespace Go.Proofs.Ytjekpkpmoanadaa.OpenWt
open Go.RowKit Go.Proofs.YtjekpkpmoanadaaW.PrintWords
set_option linter.unusedVariables false
set_option linter.unusedSimpArgs false

/-- what is read is of a bulk of at most 1048576 -/
def few {H : Type} (d : DataW H) : Prop := Rows.uptoBulk d ≤ 1048576
theorem one_le {H : Type} (d : DataW H) : 1 ≤ Rows.uptoBulk d := by
  cases d with
  | lit l => cases l <;> simp [Rows.uptoBulk]
  | nil => simp [Rows.uptoBulk]
  | ptr d => simp [Rows.uptoBulk]
  | slice elems spare => simp [Rows.uptoBulk]
  | agg parts => simp [Rows.uptoBulk]
  | iface t d => simp [Rows.uptoBulk]
  | map entries => simp [Rows.uptoBulk]
  | held h => simp [Rows.uptoBulk]
theorem part_le {H : Type} {d : DataW H} {l : List (DataW H)} (h : d ∈ l) : Rows.uptoBulk d ≤ Rows.uptoBulkAll l := by
  induction l with
  | nil => cases h
  | cons x r ih =>
    simp only [Rows.uptoBulkAll]
    cases List.mem_cons.1 h with
    | inl e => subst e; omega
    | inr e => have := ih e; omega
theorem length_le {H : Type} (l : List (DataW H)) : l.length ≤ Rows.uptoBulkAll l := by
  induction l with
  | nil => simp [Rows.uptoBulkAll]
  | cons x r ih => have := one_le x; simp only [Rows.uptoBulkAll, List.length_cons]; omega

/-- how many parts a value has, at least -/
class Wt (α : Type) where
  wt : α → Nat
instance : Wt Int := ⟨fun _ => 1⟩
instance : Wt Bool := ⟨fun _ => 1⟩
instance : Wt ByteArray := ⟨fun _ => 1⟩
instance {α : Type} [Wt α] : Wt (List α) := ⟨fun l => 1 + (l.map Wt.wt).sum⟩
instance {α β : Type} [Wt α] [Wt β] : Wt (α × β) := ⟨fun p => Wt.wt p.1 + Wt.wt p.2⟩
theorem wt_list {α : Type} [Wt α] (l : List α) : Wt.wt l = 1 + (l.map Wt.wt).sum := rfl
theorem wt_pair {α β : Type} [Wt α] [Wt β] (p : α × β) : Wt.wt p = Wt.wt p.1 + Wt.wt p.2 := rfl
/-- What reads as9 data of type t is a value of kind d of which Q holds. -/
def Opens {α : Type} [Wt α] (d : Kd α) (P : Program) (t : TypeId) (Q : α → Prop) : Prop :=
  ∀ (H : Type) (enc : TypeId × Value → H) (W : World) (fuel : Nat) (cs : List Value) (x : DataW H × List MemPlace), DataW.trod enc P W 0 (fun _ => true) true fuel t cs = some x → few x.1 → ∃ a, d.K W a cs ∧ Q a ∧ Wt.wt a ≤ Rows.uptoBulk x.1
/-- .. of a struct's fields from one on. -/
def OpensF {α : Type} [Wt α] (d : Kd α) (P : Program) (fs : List Field) (off : Nat) (Q : α → Prop) : Prop :=
  ∀ (H : Type) (enc : TypeId × Value → H) (W : World) (fuel : Nat) (cs : List Value) (xs : List (DataW H × List MemPlace)), cs.length = d.sz → xs.length = fs.length →
    (∀ (i : Nat) (f : Field), fs[i]? = some f → DataW.trod enc P W 0 (fun _ => true) true fuel f.type ((cs.drop (f.offset - off)).take (P.cellsOf f.type)) = xs[i]?) →
    (∀ (i : Nat) (f : Field), fs[i]? = some f → off ≤ f.offset) →
    Rows.uptoBulkAll (xs.map (·.1)) ≤ 1048576 → ∃ a, d.K W a cs ∧ Q a ∧ Wt.wt a ≤ Rows.uptoBulkAll (xs.map (·.1))

theorem Opens.mono {α : Type} [Wt α] {d : Kd α} {P : Program} {t : TypeId} {Q Q' : α → Prop} (h : Opens d P t Q) (hq : ∀ a, Q a → Q' a) : Opens d P t Q' := fun H enc W fuel cs x h1 h2 =>
  let ⟨a, h3, h4, h5⟩ := h H enc W fuel cs x h1 h2; ⟨a, h3, hq a h4, h5⟩

theorem opens_int {P : Program} {t : TypeId} (k : IntKind) (ht : P.underlying t = some (.int k)) : Opens (Kd.int k) P t (fun n => (Lit.int k n).wf = true) := by
  intro H enc W fuel cs x h _
  cases fuel with
  | zero => simp [DataW.trod] at h
  | succ n =>
    unfold DataW.trod at h
    rw [ht] at h
    split at h <;> simp_all
    obtain ⟨⟨rfl, hw⟩, _⟩ := h
    exact ⟨_, rfl, hw, one_le _⟩
theorem sum_le {A B : Type} (f : A → Nat) (g : B → Nat) (F : Nat → A) (G : Nat → B) : ∀ n, (∀ i, i < n → f (F i) ≤ g (G i)) → (((List.range n).map F).map f).sum ≤ (((List.range n).map G).map g).sum
  | 0, _ => Nat.le_refl _
  | n + 1, h => by
    have ih := sum_le f g F G n (fun i hi => h i (by omega))
    have hn := h n (by omega)
    simp only [List.range_succ, List.map_append, List.map_cons, List.map_nil, List.sum_append, List.sum_cons, List.sum_nil]
    omega
theorem bulkAll_sum {H : Type} (l : List (DataW H)) : Rows.uptoBulkAll l = (l.map Rows.uptoBulk).sum := by
  induction l with
  | nil => simp [Rows.uptoBulkAll]
  | cons x r ih => simp only [Rows.uptoBulkAll, List.map_cons, List.sum_cons, ih]
theorem opens_slice {α : Type} [Wt α] {d : Kd α} {P : Program} {t e : TypeId} {Q : α → Prop} (ht : P.underlying t = some (.slice e)) (hd : Opens d P e Q) (hc : P.cellsOf e = d.sz) [Inhabited α] :
    Opens (Kd.slice e d) P t (fun l => l.length ≤ 1048576 ∧ ∀ a ∈ l, Q a) := by
  intro H enc W fuel cs x h hs
  rcases Go.Deep.open_slice ht h with ⟨rfl, rfl⟩ | ⟨a, len, cap, m, n, D, Pl, rfl, hb, hl, hm, hmm, rfl, hx⟩
  · refine ⟨[], ⟨none, 0, rfl, Nat.le_refl _, rfl, by simp, fun h => absurd h (by simp)⟩, ?_⟩
    exact ⟨⟨by simp, fun a ha => by cases ha⟩, one_le _⟩
  · rw [if_pos rfl] at hmm
    subst hmm
    have hw : Rows.uptoBulkAll ((List.range len).map D) + Rows.uptoBulkAll ((List.range (m - len)).map fun j => D (len + j)) + 1 ≤ 1048576 := by
      have h1 : Rows.uptoBulk (DataW.slice ((List.range len).map D) ((List.range (m - len)).map fun j => D (len + j))) ≤ 1048576 := hs
      simpa only [Rows.uptoBulk] using h1
    have hall : ∀ d ∈ (List.range len).map D, few d := fun d hd => by
      have := part_le hd
      unfold few
      omega
    have hlen : len ≤ 1048576 := by
      have := length_le ((List.range len).map D)
      simp only [List.length_map, List.length_range] at this
      omega
    obtain ⟨V, hV⟩ := Go.Deep.choose_lt (α := α) (n := len) (p := fun i v => (Q v ∧ Wt.wt v ≤ Rows.uptoBulk (D i)) ∧ ∃ c, d.K W v c ∧ c.length = d.sz ∧ W.cells? 0 (a.add (i * P.cellsOf e)) (P.cellsOf e) = some c) (fun i hi => by
      obtain ⟨c, h1, h2⟩ := hx i (by omega)
      obtain ⟨v, h3, h4, h5⟩ := hd H enc W n c _ h2 (hall _ (List.mem_map.2 ⟨i, List.mem_range.2 hi, rfl⟩))
      exact ⟨v, ⟨h4, h5⟩, c, h3, d.K_len h3, h1⟩)
    refine ⟨(List.range len).map V, ⟨some a, m, by simp, by simpa using hl, by simp, by simp; unfold maxLen at hm; omega, fun _ => ⟨a, rfl, ?_⟩⟩, ⟨?_, ?_⟩, ?_⟩
    · intro j p hj
      rw [List.getElem?_map] at hj
      obtain ⟨j', hj', rfl⟩ := Option.map_eq_some_iff.1 hj
      have hjl : j < len := by
        have := (List.getElem?_eq_some_iff.1 hj').1
        simpa using this
      have : j' = j := by
        rw [List.getElem?_range hjl] at hj'
        exact (Option.some.inj hj').symm
      subst this
      obtain ⟨_, c, hK, hcl, hcells⟩ := hV j' hjl
      refine ⟨c, hcl, hK, fun i u hu => ?_⟩
      obtain ⟨_, hlen, hg⟩ := World.cells?_some hcells
      have hil : i < c.length := (List.getElem?_eq_some_iff.1 hu).1
      have := hg i (by rw [hc, ← hcl]; exact hil)
      rw [hu, hc, Go.Deep.add_add] at this
      exact this
    · simp only [List.length_map, List.length_range]; exact hlen
    · intro b hb2
      obtain ⟨i, hi, rfl⟩ := List.mem_map.1 hb2
      exact (hV i (List.mem_range.1 hi)).1.1
    · rw [wt_list]
      show _ ≤ Rows.uptoBulk (DataW.slice ((List.range len).map D) _)
      simp only [Rows.uptoBulk]
      have h1 := sum_le Wt.wt Rows.uptoBulk V D len (fun i hi => (hV i hi).1.2)
      rw [← bulkAll_sum] at h1
      omega

theorem opensF_last {α : Type} [Wt α] {d : Kd α} {P : Program} {f : Field} {off : Nat} {Q : α → Prop} (hd : Opens d P f.type Q) (ho : f.offset = off) (hc : P.cellsOf f.type = d.sz) : OpensF d P [f] off Q := by
  intro H enc W fuel cs xs hl hx hr _ hs
  match xs, hx with
  | [y], _ =>
    have h0 := hr 0 f rfl
    rw [ho, Nat.sub_self, List.drop_zero, hc, ← hl, List.take_length] at h0
    have hs' : Rows.uptoBulk y.1 + 0 ≤ 1048576 := hs
    obtain ⟨a, h1, h2, h3⟩ := hd H enc W fuel cs y h0 hs'
    exact ⟨a, h1, h2, by simp only [List.map_cons, List.map_nil, Rows.uptoBulkAll]; omega⟩
theorem opensF_cons {α β : Type} [Wt α] [Wt β] {d : Kd α} {d2 : Kd β} {P : Program} {f : Field} {fs : List Field} {off : Nat} {Q : α → Prop} {Q2 : β → Prop} (hd : Opens d P f.type Q) (ho : f.offset = off) (hc : P.cellsOf f.type = d.sz)
    (hf : OpensF d2 P fs (off + d.sz) Q2) (hofs : ∀ g ∈ fs, off + d.sz ≤ g.offset) : OpensF (Kd.pair d d2) P (f :: fs) off (fun p => Q p.1 ∧ Q2 p.2) := by
  intro H enc W fuel cs xs hl hx hr hoff hs
  have hl' : cs.length = d.sz + d2.sz := hl
  match xs, hx with
  | y :: ys, hx =>
    have h0 := hr 0 f rfl
    rw [ho, Nat.sub_self, List.drop_zero, hc] at h0
    have hs' : Rows.uptoBulk y.1 + Rows.uptoBulkAll (ys.map (·.1)) ≤ 1048576 := hs
    have s1 : few y.1 := by unfold few; omega
    have s2 : Rows.uptoBulkAll (ys.map (·.1)) ≤ 1048576 := by omega
    obtain ⟨a, ha, qa, wa⟩ := hd H enc W fuel _ y h0 s1
    obtain ⟨b, hb, qb, wb⟩ := hf H enc W fuel (cs.drop d.sz) ys (by rw [List.length_drop]; omega) (by simpa using hx) (fun i g hg => by
      have hge : off + d.sz ≤ g.offset := hofs g (List.mem_of_getElem? hg)
      have := hr (i+1) g (by simpa using hg)
      rw [List.drop_drop, show d.sz + (g.offset - (off + d.sz)) = g.offset - off by omega]
      simpa using this) (fun i g hg => hofs g (List.mem_of_getElem? hg)) s2
    exact ⟨(a, b), ⟨cs.take d.sz, cs.drop d.sz, (List.take_append_drop _ _).symm, ha, hb⟩, ⟨qa, qb⟩, by rw [wt_pair]; simp only [List.map_cons, Rows.uptoBulkAll]; omega⟩
theorem opens_struct {α β : Type} [Wt α] [Wt β] {d : Kd α} {P : Program} {t : TypeId} {fs : Array Field} {Q : α → Prop} (g : α → β) (f : β → α) (hfg : ∀ a, f (g a) = a) (ht : P.underlying t = some (.struct fs)) (hc : P.cellsOf t = d.sz) (h : OpensF d P fs.toList 0 Q) (hw : ∀ b, Wt.wt b ≤ 1 + Wt.wt (f b) := by intro b; first | exact Nat.le_refl _ | exact Nat.le_add_left _ _) :
    Opens (Kd.iso d f) P t (fun b => Q (f b)) := by
  intro H enc W fuel cs x hx hs
  obtain ⟨xs, n, rfl, rfl, hl, hxl, hr⟩ := DataW.trod_struct ht hx
  have hs' : Rows.uptoBulkAll (xs.map (·.1)) ≤ 1048576 := by
    have h1 : Rows.uptoBulk (DataW.agg (xs.map (·.1))) ≤ 1048576 := hs
    simp only [Rows.uptoBulk] at h1
    omega
  obtain ⟨a, ha, qa, wa⟩ := h H enc W n cs xs (by rw [hl, hc]) (by rw [hxl]; simp) (fun i f hf => by rw [Nat.sub_zero]; exact hr i f (by simpa using hf)) (fun _ _ _ => Nat.zero_le _) hs'
  refine ⟨g a, by show d.K W (f (g a)) cs; rw [hfg]; exact ha, by show Q (f (g a)); rw [hfg]; exact qa, ?_⟩
  have := hw (g a)
  rw [hfg] at this
  show _ ≤ Rows.uptoBulk (DataW.agg (xs.map (·.1)))
  simp only [Rows.uptoBulk]
  omega
/-- an argument -/
theorem opens_arg {α : Type} [Wt α] {d : Kd α} {P : Program} {t : TypeId} {Q : α → Prop} (h : Opens d P t Q) {H : Type} {enc : TypeId × Value → H} {W : World} {v : Value} {dd : DataW H} {ps : List MemPlace} {ds : List (DataW H)} {j : Nat}
    (hk : Rows.uptoSmall H ds = true) (hd : ds[j]? = some dd) (ht2 : DataW.Trod enc P W 0 (fun _ => true) true t v dd ps) : ∃ a, d.K W a v.cells.toList ∧ Q a ∧ Wt.wt a ≤ 1048576 := by
  obtain ⟨fuel, hf⟩ := ht2
  have h1 : Rows.uptoBulkAll ds ≤ 1048576 := of_decide_eq_true hk
  have h2 := part_le (List.mem_of_getElem? hd)
  obtain ⟨a, h3, h4, h5⟩ := h H enc W fuel _ _ hf (Nat.le_trans h2 h1)
  exact ⟨a, h3, h4, Nat.le_trans h5 (Nat.le_trans h2 h1)⟩
end Go.Proofs.Ytjekpkpmoanadaa.OpenWt
/- The row's bounds, as9 CopiesRun's walk asks for them. -/
namespace Go.Proofs.Ytjekpkpmoanadaa.PCop
open Go.RowKit Go.Proofs.Ytjekpkpmoanadaa.OpenWt Go.Proofs.Ytjekpkpmoanadaa.Tree
set_option linter.unusedVariables false
set_option linter.unusedSimpArgs false
instance : Wt S49 := ⟨fun x => 1 + Wt.wt (x.f0, x.f1)⟩
instance : Wt S65 := ⟨fun x => 1 + Wt.wt (x.f0, x.f1, x.f2)⟩
instance : Wt S47 := ⟨fun x => 1 + Wt.wt (x.f0, x.f1, x.f2, x.f3, x.f4, x.f5, x.f6, x.f7)⟩
instance : Wt S43 := ⟨fun x => 1 + Wt.wt (x.f0, x.f1, x.f2)⟩
theorem sum_map_le {A : Type} (f g : A → Nat) : ∀ (l : List A), (∀ x ∈ l, f x ≤ g x) → (l.map f).sum ≤ (l.map g).sum
  | [], _ => Nat.le_refl _
  | x :: r, h => by
    have h1 := h x List.mem_cons_self
    have h2 := sum_map_le f g r (fun y hy => h y (List.mem_cons_of_mem _ hy))
    simp only [List.map_cons, List.sum_cons]
    omega
theorem len_le_sum {A : Type} (g : A → Nat) : ∀ (l : List A), (∀ x ∈ l, 1 ≤ g x) → l.length ≤ (l.map g).sum
  | [], _ => Nat.le_refl _
  | x :: r, h => by
    have h1 := h x List.mem_cons_self
    have h2 := len_le_sum g r (fun y hy => h y (List.mem_cons_of_mem _ hy))
    simp only [List.map_cons, List.sum_cons, List.length_cons]
    omega
theorem wt_len {A : Type} [Wt A] (l : List A) (h : ∀ x ∈ l, 1 ≤ Wt.wt x) : l.length ≤ Wt.wt l := by
  have := len_le_sum Wt.wt l h
  rw [wt_list]; omega
theorem w43 (b : S43) : Wt.wt b = 1 + (1 + (Wt.wt b.f1 + Wt.wt b.f2)) := rfl
theorem w47 (x : S47) : Wt.wt x = 1 + (1 + (1 + (1 + (Wt.wt x.f3 + (1 + (1 + (1 + Wt.wt x.f7))))))) := rfl
theorem w65 (s : S65) : Wt.wt s = 1 + (1 + (1 + Wt.wt s.f2)) := rfl
theorem ins_wt (l : List S43) : insT l ≤ Wt.wt l := by
  have := sum_map_le (fun b : S43 => b.f1.length) Wt.wt l (fun b _ => by
    have h := wt_len b.f1 (fun x _ => by rw [w47]; omega)
    rw [w43]; omega)
  rw [wt_list]; unfold insT; omega
theorem ex_wt (l : List S43) : exT l ≤ Wt.wt l := by
  have := sum_map_le (fun b : S43 => (b.f1.map fun x => x.f7.length).sum) Wt.wt l (fun b _ => by
    have h := sum_map_le (fun x : S47 => x.f7.length) Wt.wt b.f1 (fun x _ => by
      have h := wt_len x.f7 (fun s _ => by rw [w65]; omega)
      rw [w47]; omega)
    have h2 := wt_list b.f1
    rw [w43]; omega)
  rw [wt_list]; unfold exT; omega
/-! what copies.Run answers is no greater -/
theorem st_mem (l : List S47) : ∀ k, k ≤ l.length → ∀ x ∈ (stAt l k).2, ∃ M old, old ∈ l ∧ x = turn47 M old
  | 0, _, x, hx => by simp [stAt] at hx
  | k + 1, hk, x, hx => by
    have hlt : k < l.length := by omega
    rw [stAt_succ (List.getElem?_eq_getElem hlt)] at hx
    have ih := st_mem l k (by omega)
    unfold stepS at hx
    split at hx
    · rcases List.mem_append.1 hx with h | h
      · exact ih x h
      · exact ⟨_, l[k], List.getElem_mem hlt, List.mem_singleton.1 h⟩
    · split at hx
      · exact ih x hx
      · rcases List.mem_append.1 hx with h | h
        · exact ih x h
        · exact ⟨_, l[k], List.getElem_mem hlt, List.mem_singleton.1 h⟩
theorem st_ex (l : List S47) : ∀ k, k ≤ l.length → ((stAt l k).2.map fun x => x.f7.length).sum ≤ ((l.take k).map fun x => x.f7.length).sum
  | 0, _ => by simp [stAt]
  | k + 1, hk => by
    have hlt : k < l.length := by omega
    have ih := st_ex l k (by omega)
    have ht : ∀ M, (turn47 M l[k]).f7.length = l[k].f7.length := fun M => by unfold turn47; simp
    rw [stAt_succ (List.getElem?_eq_getElem hlt), List.take_succ_eq_append_getElem hlt, List.map_append, List.sum_append]
    unfold stepS
    split
    · simp only [List.map_append, List.sum_append, List.map_cons, List.map_nil, List.sum_cons, List.sum_nil, ht]; omega
    · split
      · simp only [List.map_cons, List.map_nil, List.sum_cons, List.sum_nil]; omega
      · simp only [List.map_append, List.sum_append, List.map_cons, List.map_nil, List.sum_cons, List.sum_nil, ht]; omega
theorem bl_mem {b : S43} {x : S47} (h : x ∈ (blockS b).f1) : ∃ M old, old ∈ b.f1 ∧ x = turn47 M old := by
  rw [blockS_at] at h
  exact st_mem b.f1 _ (Nat.le_refl _) x h
theorem bl_len (b : S43) : (blockS b).f1.length ≤ b.f1.length := by
  rw [blockS_at]; exact stAt_len b.f1 _
theorem bl_ex (b : S43) : ((blockS b).f1.map fun x => x.f7.length).sum ≤ (b.f1.map fun x => x.f7.length).sum := by
  rw [blockS_at]
  have := st_ex b.f1 b.f1.length (Nat.le_refl _)
  rwa [List.take_length] at this
theorem run_ins (l : List S43) : insT (runS l) ≤ insT l := by
  unfold insT runS
  rw [List.map_map]
  exact sum_map_le _ _ l (fun b _ => bl_len b)
theorem run_ex (l : List S43) : exT (runS l) ≤ exT l := by
  unfold exT runS
  rw [List.map_map]
  exact sum_map_le _ _ l (fun b _ => bl_ex b)
structure Few (l : List S43) : Prop where
  len : l.length ≤ 1048576
  ins : ∀ b ∈ l, b.f1.length ≤ 1048576
  next : ∀ b ∈ l, b.f2.length ≤ 1048576
  args : ∀ b ∈ l, ∀ x ∈ b.f1, x.f3.length ≤ 1048576
  exit : ∀ b ∈ l, ∀ x ∈ b.f1, x.f7.length ≤ 1048576
  slots : ∀ b ∈ l, ∀ x ∈ b.f1, ∀ s ∈ x.f7, s.f2.length ≤ 1048576
theorem few_run {l : List S43} (h : Few l) : Few (runS l) := by
  have hb : ∀ y ∈ runS l, ∃ b ∈ l, y = blockS b := fun y hy => by
    obtain ⟨b, hb, e⟩ := List.mem_map.1 hy
    exact ⟨b, hb, e.symm⟩
  refine ⟨by unfold runS; rw [List.length_map]; exact h.len, fun y hy => ?_, fun y hy => ?_, fun y hy x hx => ?_, fun y hy x hx => ?_, fun y hy x hx s hs => ?_⟩
  · obtain ⟨b, hb, rfl⟩ := hb y hy
    exact Nat.le_trans (bl_len b) (h.ins b hb)
  · obtain ⟨b, hb, rfl⟩ := hb y hy
    exact h.next b hb
  · obtain ⟨b, hb, rfl⟩ := hb y hy
    obtain ⟨M, old, ho, rfl⟩ := bl_mem hx
    have := h.args b hb old ho
    unfold turn47; simpa using this
  · obtain ⟨b, hb, rfl⟩ := hb y hy
    obtain ⟨M, old, ho, rfl⟩ := bl_mem hx
    have := h.exit b hb old ho
    unfold turn47; simpa using this
  · obtain ⟨b, hb, rfl⟩ := hb y hy
    obtain ⟨M, old, ho, rfl⟩ := bl_mem hx
    have hs' : s ∈ old.f7.map (turn65 M) := hs
    obtain ⟨s0, hs0, rfl⟩ := List.mem_map.1 hs'
    have := h.slots b hb old ho s0 hs0
    unfold turn65; simpa using this
theorem costI_eq (l : List S47) : Hd.costI l = l.length + (l.map fun x => x.f7.length).sum := by
  unfold Hd.costI
  induction l with
  | nil => rfl
  | cons x s ih => simp only [List.map_cons, List.sum_cons, List.length_cons, ih]; omega
theorem cost_eq (l : List S43) : Hd.costB l = insT l + exT l := by
  unfold Hd.costB insT exT
  induction l with
  | nil => rfl
  | cons b r ih =>
    simp only [List.map_cons, List.sum_cons]
    rw [ih, costI_eq]; omega
theorem small_of {l : List S43} (ok : OkL l) (h : Few l) (hi : insT l ≤ 1048576) (he : exT l ≤ 1048576) : SmallT l := by
  have hr := few_run h
  refine ⟨ok, ⟨h.len, fun b hb => ⟨h.ins b hb, h.next b hb, h.args b hb, fun x hx => ⟨h.exit b hb x hx, h.slots b hb x hx⟩⟩, ?_, ?_⟩, ⟨by have := hr.len; omega, fun b hb => ⟨by have := hr.ins b hb; omega, by have := hr.next b hb; omega⟩, fun b hb x hx => ?_⟩, ⟨hr.len, Nat.le_trans (run_ins l) hi, Nat.le_trans (run_ex l) he, hr.next, hr.args, hr.slots⟩⟩
  · rw [cost_eq]; omega
  · show insT l ≤ _
    omega
  · exact ⟨by have := hr.args b hb x hx; omega, by have := hr.exit b hb x hx; omega, fun s hs => by have := hr.slots b hb x hx s hs; omega⟩
theorem smallT_upto {a b : Int} {l : List S43} (h : l.length ≤ 1048576 ∧ ∀ x0 ∈ l, ((Lit.int .i64 x0.f0).wf = true ∧ (x0.f1.length ≤ 1048576 ∧ ∀ x1 ∈ x0.f1, ((Lit.int .i64 x1.f0).wf = true ∧ (Lit.int .i64 x1.f1).wf = true ∧ (Lit.int .i64 x1.f2).wf = true ∧ (x1.f3.length ≤ 1048576 ∧ ∀ x2 ∈ x1.f3, ((Lit.int .i64 x2.f0).wf = true ∧ (Lit.int .i64 x2.f1).wf = true)) ∧ (Lit.int .i64 x1.f4).wf = true ∧ (Lit.int .i64 x1.f5).wf = true ∧ (Lit.int .i64 x1.f6).wf = true ∧ (x1.f7.length ≤ 1048576 ∧ ∀ x2 ∈ x1.f7, ((Lit.int .i64 x2.f0).wf = true ∧ (Lit.int .i64 x2.f1).wf = true ∧ (x2.f2.length ≤ 1048576 ∧ ∀ x3 ∈ x2.f2, ((Lit.int .i64 x3.f0).wf = true ∧ (Lit.int .i64 x3.f1).wf = true))))) ) ∧ (x0.f2.length ≤ 1048576 ∧ ∀ x1 ∈ x0.f2, (Lit.int .i64 x1).wf = true))) (hw : Wt.wt (a, b, l) ≤ 1048576) : SmallT l := by
  have e : Wt.wt (a, b, l) = 1 + (1 + Wt.wt l) := rfl
  refine small_of (okL_upto h) ⟨h.1, fun b hb => (h.2 b hb).2.1.1, fun b hb => (h.2 b hb).2.2.1, fun b hb x hx => ?_, fun b hb x hx => ?_, fun b hb x hx s hs => ?_⟩ (by have := ins_wt l; omega) (by have := ex_wt l; omega)
  · obtain ⟨_, _, _, h3, _, _, _, _⟩ := (h.2 b hb).2.1.2 x hx
    exact h3.1
  · obtain ⟨_, _, _, _, _, _, _, h7⟩ := (h.2 b hb).2.1.2 x hx
    exact h7.1
  · obtain ⟨_, _, _, _, _, _, _, h7⟩ := (h.2 b hb).2.1.2 x hx
    exact (h7.2 s hs).2.2.1
end Go.Proofs.Ytjekpkpmoanadaa.PCop
/- CopiesRun, the row: the law returns true, and the input reads as9 it did. For every input of a bulk of at most 1048576. -/
namespace Go.Proofs.Ytjekpkpmoanadaa.copiesRunUpto
open Go.ChangeShapes Go.WideShapes Go.ChangeAt Go.RowKit
open Go.Proofs.Ytjekpkpmoanadaa.OpenWt Go.Proofs.Ytjekpkpmoanadaa.PCop Go.Proofs.YtjekpkpmoanadaaW.PrintWords
open Go.ChangeMaps (open_string shut_string)
set_option linter.unusedVariables false
set_option linter.unusedSimpArgs false
theorem own : ownKnob Try.prog.godebug = none := by kernel_rfl
theorem laidOut : laidOutB Try.prog = true := by kernel_rfl
instance : Inhabited S43 := ⟨z43⟩
instance : Inhabited S47 := ⟨z47⟩
instance : Inhabited S49 := ⟨z49⟩
instance : Inhabited S65 := ⟨z65⟩
theorem o3 : Opens (Kd.int .i64) Try.prog 3 (fun x => (Lit.int .i64 x).wf = true) := opens_int .i64 Try.underlying3
theorem o2 : Opens (Kd.int .i64) Try.prog 2 (fun x => (Lit.int .i64 x).wf = true) := opens_int .i64 Try.underlying2
theorem o49 : Opens k49 Try.prog 49 (fun x => ((Lit.int .i64 x.f0).wf = true ∧ (Lit.int .i64 x.f1).wf = true)) := (opens_struct (fun p : Int × Int => (⟨p.1, p.2⟩ : S49)) (fun x : S49 => (x.f0, x.f1)) (fun _ => rfl) Try.underlying49 (by kernel_rfl) (opensF_cons o3 rfl (by kernel_rfl) (opensF_last o2 rfl (by kernel_rfl)) (by intro g hg; simp at hg; first | (subst hg; decide) | (rcases hg with rfl | rfl | rfl | rfl | rfl | rfl | rfl <;> decide)))).mono (fun _ h => ⟨h.1, h.2⟩)
theorem o44 : Opens (Kd.slice 49 (k49)) Try.prog 44 (fun l => (l.length ≤ 1048576 ∧ ∀ x0 ∈ l, ((Lit.int .i64 x0.f0).wf = true ∧ (Lit.int .i64 x0.f1).wf = true))) := (opens_slice Try.underlying44 o49 (by kernel_rfl)).mono (fun _ h => ⟨h.1, h.2⟩)
theorem o65 : Opens k65 Try.prog 65 (fun x => ((Lit.int .i64 x.f0).wf = true ∧ (Lit.int .i64 x.f1).wf = true ∧ (x.f2.length ≤ 1048576 ∧ ∀ x0 ∈ x.f2, ((Lit.int .i64 x0.f0).wf = true ∧ (Lit.int .i64 x0.f1).wf = true)))) := (opens_struct (fun p : Int × Int × (List (S49)) => (⟨p.1, p.2.1, p.2.2⟩ : S65)) (fun x : S65 => (x.f0, x.f1, x.f2)) (fun _ => rfl) Try.underlying65 (by kernel_rfl) (opensF_cons o3 rfl (by kernel_rfl) (opensF_cons o3 rfl (by kernel_rfl) (opensF_last o44 rfl (by kernel_rfl)) (by intro g hg; simp at hg; first | (subst hg; decide) | (rcases hg with rfl | rfl | rfl | rfl | rfl | rfl | rfl <;> decide))) (by intro g hg; simp at hg; first | (subst hg; decide) | (rcases hg with rfl | rfl | rfl | rfl | rfl | rfl | rfl <;> decide)))).mono (fun _ h => ⟨h.1, h.2.1, h.2.2⟩)
theorem o45 : Opens (Kd.slice 65 (k65)) Try.prog 45 (fun l => (l.length ≤ 1048576 ∧ ∀ x0 ∈ l, ((Lit.int .i64 x0.f0).wf = true ∧ (Lit.int .i64 x0.f1).wf = true ∧ (x0.f2.length ≤ 1048576 ∧ ∀ x1 ∈ x0.f2, ((Lit.int .i64 x1.f0).wf = true ∧ (Lit.int .i64 x1.f1).wf = true))))) := (opens_slice Try.underlying45 o65 (by kernel_rfl)).mono (fun _ h => ⟨h.1, h.2⟩)
theorem o47 : Opens k47 Try.prog 47 (fun x => ((Lit.int .i64 x.f0).wf = true ∧ (Lit.int .i64 x.f1).wf = true ∧ (Lit.int .i64 x.f2).wf = true ∧ (x.f3.length ≤ 1048576 ∧ ∀ x0 ∈ x.f3, ((Lit.int .i64 x0.f0).wf = true ∧ (Lit.int .i64 x0.f1).wf = true)) ∧ (Lit.int .i64 x.f4).wf = true ∧ (Lit.int .i64 x.f5).wf = true ∧ (Lit.int .i64 x.f6).wf = true ∧ (x.f7.length ≤ 1048576 ∧ ∀ x0 ∈ x.f7, ((Lit.int .i64 x0.f0).wf = true ∧ (Lit.int .i64 x0.f1).wf = true ∧ (x0.f2.length ≤ 1048576 ∧ ∀ x1 ∈ x0.f2, ((Lit.int .i64 x1.f0).wf = true ∧ (Lit.int .i64 x1.f1).wf = true)))))) := (opens_struct (fun p : Int × Int × Int × (List (S49)) × Int × Int × Int × (List (S65)) => (⟨p.1, p.2.1, p.2.2.1, p.2.2.2.1, p.2.2.2.2.1, p.2.2.2.2.2.1, p.2.2.2.2.2.2.1, p.2.2.2.2.2.2.2⟩ : S47)) (fun x : S47 => (x.f0, x.f1, x.f2, x.f3, x.f4, x.f5, x.f6, x.f7)) (fun _ => rfl) Try.underlying47 (by kernel_rfl) (opensF_cons o3 rfl (by kernel_rfl) (opensF_cons o3 rfl (by kernel_rfl) (opensF_cons o3 rfl (by kernel_rfl) (opensF_cons o44 rfl (by kernel_rfl) (opensF_cons o2 rfl (by kernel_rfl) (opensF_cons o3 rfl (by kernel_rfl) (opensF_cons o3 rfl (by kernel_rfl) (opensF_last o45 rfl (by kernel_rfl)) (by intro g hg; simp at hg; first | (subst hg; decide) | (rcases hg with rfl | rfl | rfl | rfl | rfl | rfl | rfl <;> decide))) (by intro g hg; simp at hg; first | (subst hg; decide) | (rcases hg with rfl | rfl | rfl | rfl | rfl | rfl | rfl <;> decide))) (by intro g hg; simp at hg; first | (subst hg; decide) | (rcases hg with rfl | rfl | rfl | rfl | rfl | rfl | rfl <;> decide))) (by intro g hg; simp at hg; first | (subst hg; decide) | (rcases hg with rfl | rfl | rfl | rfl | rfl | rfl | rfl <;> decide))) (by intro g hg; simp at hg; first | (subst hg; decide) | (rcases hg with rfl | rfl | rfl | rfl | rfl | rfl | rfl <;> decide))) (by intro g hg; simp at hg; first | (subst hg; decide) | (rcases hg with rfl | rfl | rfl | rfl | rfl | rfl | rfl <;> decide))) (by intro g hg; simp at hg; first | (subst hg; decide) | (rcases hg with rfl | rfl | rfl | rfl | rfl | rfl | rfl <;> decide)))).mono (fun _ h => ⟨h.1, h.2.1, h.2.2.1, h.2.2.2.1, h.2.2.2.2.1, h.2.2.2.2.2.1, h.2.2.2.2.2.2.1, h.2.2.2.2.2.2.2⟩)
theorem o40 : Opens (Kd.slice 47 (k47)) Try.prog 40 (fun l => (l.length ≤ 1048576 ∧ ∀ x0 ∈ l, ((Lit.int .i64 x0.f0).wf = true ∧ (Lit.int .i64 x0.f1).wf = true ∧ (Lit.int .i64 x0.f2).wf = true ∧ (x0.f3.length ≤ 1048576 ∧ ∀ x1 ∈ x0.f3, ((Lit.int .i64 x1.f0).wf = true ∧ (Lit.int .i64 x1.f1).wf = true)) ∧ (Lit.int .i64 x0.f4).wf = true ∧ (Lit.int .i64 x0.f5).wf = true ∧ (Lit.int .i64 x0.f6).wf = true ∧ (x0.f7.length ≤ 1048576 ∧ ∀ x1 ∈ x0.f7, ((Lit.int .i64 x1.f0).wf = true ∧ (Lit.int .i64 x1.f1).wf = true ∧ (x1.f2.length ≤ 1048576 ∧ ∀ x2 ∈ x1.f2, ((Lit.int .i64 x2.f0).wf = true ∧ (Lit.int .i64 x2.f1).wf = true))))))) := (opens_slice Try.underlying40 o47 (by kernel_rfl)).mono (fun _ h => ⟨h.1, h.2⟩)
theorem o41 : Opens (Kd.slice 3 (Kd.int .i64)) Try.prog 41 (fun l => (l.length ≤ 1048576 ∧ ∀ x0 ∈ l, (Lit.int .i64 x0).wf = true)) := (opens_slice Try.underlying41 o3 (by kernel_rfl)).mono (fun _ h => ⟨h.1, h.2⟩)
theorem o43 : Opens k43 Try.prog 43 (fun x => ((Lit.int .i64 x.f0).wf = true ∧ (x.f1.length ≤ 1048576 ∧ ∀ x0 ∈ x.f1, ((Lit.int .i64 x0.f0).wf = true ∧ (Lit.int .i64 x0.f1).wf = true ∧ (Lit.int .i64 x0.f2).wf = true ∧ (x0.f3.length ≤ 1048576 ∧ ∀ x1 ∈ x0.f3, ((Lit.int .i64 x1.f0).wf = true ∧ (Lit.int .i64 x1.f1).wf = true)) ∧ (Lit.int .i64 x0.f4).wf = true ∧ (Lit.int .i64 x0.f5).wf = true ∧ (Lit.int .i64 x0.f6).wf = true ∧ (x0.f7.length ≤ 1048576 ∧ ∀ x1 ∈ x0.f7, ((Lit.int .i64 x1.f0).wf = true ∧ (Lit.int .i64 x1.f1).wf = true ∧ (x1.f2.length ≤ 1048576 ∧ ∀ x2 ∈ x1.f2, ((Lit.int .i64 x2.f0).wf = true ∧ (Lit.int .i64 x2.f1).wf = true)))))) ∧ (x.f2.length ≤ 1048576 ∧ ∀ x0 ∈ x.f2, (Lit.int .i64 x0).wf = true))) := (opens_struct (fun p : Int × (List (S47)) × (List (Int)) => (⟨p.1, p.2.1, p.2.2⟩ : S43)) (fun x : S43 => (x.f0, x.f1, x.f2)) (fun _ => rfl) Try.underlying43 (by kernel_rfl) (opensF_cons o3 rfl (by kernel_rfl) (opensF_cons o40 rfl (by kernel_rfl) (opensF_last o41 rfl (by kernel_rfl)) (by intro g hg; simp at hg; first | (subst hg; decide) | (rcases hg with rfl | rfl | rfl | rfl | rfl | rfl | rfl <;> decide))) (by intro g hg; simp at hg; first | (subst hg; decide) | (rcases hg with rfl | rfl | rfl | rfl | rfl | rfl | rfl <;> decide)))).mono (fun _ h => ⟨h.1, h.2.1, h.2.2⟩)
theorem o22 : Opens (Kd.slice 43 (k43)) Try.prog 22 (fun l => (l.length ≤ 1048576 ∧ ∀ x0 ∈ l, ((Lit.int .i64 x0.f0).wf = true ∧ (x0.f1.length ≤ 1048576 ∧ ∀ x1 ∈ x0.f1, ((Lit.int .i64 x1.f0).wf = true ∧ (Lit.int .i64 x1.f1).wf = true ∧ (Lit.int .i64 x1.f2).wf = true ∧ (x1.f3.length ≤ 1048576 ∧ ∀ x2 ∈ x1.f3, ((Lit.int .i64 x2.f0).wf = true ∧ (Lit.int .i64 x2.f1).wf = true)) ∧ (Lit.int .i64 x1.f4).wf = true ∧ (Lit.int .i64 x1.f5).wf = true ∧ (Lit.int .i64 x1.f6).wf = true ∧ (x1.f7.length ≤ 1048576 ∧ ∀ x2 ∈ x1.f7, ((Lit.int .i64 x2.f0).wf = true ∧ (Lit.int .i64 x2.f1).wf = true ∧ (x2.f2.length ≤ 1048576 ∧ ∀ x3 ∈ x2.f2, ((Lit.int .i64 x3.f0).wf = true ∧ (Lit.int .i64 x3.f1).wf = true)))))) ∧ (x0.f2.length ≤ 1048576 ∧ ∀ x1 ∈ x0.f2, (Lit.int .i64 x1).wf = true)))) := (opens_slice Try.underlying22 o43 (by kernel_rfl)).mono (fun _ h => ⟨h.1, h.2⟩)
theorem p24 : Opens (Kd.iso (Kd.pair (Kd.int .i64) (Kd.pair (Kd.int .i64) (Kd.slice 43 (k43)))) (fun p : (Int × Int × (List (S43))) => p)) Try.prog 24 (fun p => ((Lit.int .i64 p.1).wf = true ∧ (Lit.int .i64 p.2.1).wf = true ∧ (p.2.2.length ≤ 1048576 ∧ ∀ x0 ∈ p.2.2, ((Lit.int .i64 x0.f0).wf = true ∧ (x0.f1.length ≤ 1048576 ∧ ∀ x1 ∈ x0.f1, ((Lit.int .i64 x1.f0).wf = true ∧ (Lit.int .i64 x1.f1).wf = true ∧ (Lit.int .i64 x1.f2).wf = true ∧ (x1.f3.length ≤ 1048576 ∧ ∀ x2 ∈ x1.f3, ((Lit.int .i64 x2.f0).wf = true ∧ (Lit.int .i64 x2.f1).wf = true)) ∧ (Lit.int .i64 x1.f4).wf = true ∧ (Lit.int .i64 x1.f5).wf = true ∧ (Lit.int .i64 x1.f6).wf = true ∧ (x1.f7.length ≤ 1048576 ∧ ∀ x2 ∈ x1.f7, ((Lit.int .i64 x2.f0).wf = true ∧ (Lit.int .i64 x2.f1).wf = true ∧ (x2.f2.length ≤ 1048576 ∧ ∀ x3 ∈ x2.f2, ((Lit.int .i64 x3.f0).wf = true ∧ (Lit.int .i64 x3.f1).wf = true)))))) ∧ (x0.f2.length ≤ 1048576 ∧ ∀ x1 ∈ x0.f2, (Lit.int .i64 x1).wf = true))))) := (opens_struct (fun p : (Int × Int × (List (S43))) => p) (fun p : (Int × Int × (List (S43))) => p) (fun _ => rfl) Try.underlying24 (by kernel_rfl) (opensF_cons o3 rfl (by kernel_rfl) (opensF_cons o3 rfl (by kernel_rfl) (opensF_last o22 rfl (by kernel_rfl)) (by intro g hg; simp at hg; first | (subst hg; decide) | (rcases hg with rfl | rfl | rfl | rfl | rfl | rfl | rfl <;> decide))) (by intro g hg; simp at hg; first | (subst hg; decide) | (rcases hg with rfl | rfl | rfl | rfl | rfl | rfl | rfl <;> decide)))).mono (fun _ h => h)
set_option maxRecDepth 100000 in
set_option maxHeartbeats 1000000 in
theorem contract (H : Type) (enc : TypeId × Value → H) (W : World) (base : Nat) (args : Array Value) (ds gs : List (DataW H)) (before : List MemPlace)
  (hval0 : ∀ (j : Nat) t v, Try.f3.params[j]? = some t → args[j]? = some v → Value.okWide Try.prog W .any base t v)
  (hW : DataW.Whole enc Try.prog Try.f3.params.toList Rows.copiesRunSpec.vars false W args.toList ds gs before) (hsz0 : Rows.uptoSmall H (ds ++ gs) = true) :
    Calls Try.prog 3 args W fun e W' => ∃ v, e = .returned v ∧ Rows.copiesRunSpec.post enc Try.prog Try.f3 false true false false W args v W' := by
  have hsz := hsz0
  have hval := hval0
  have hW' := hW
  obtain ⟨p, q, hA0, hV, rfl, hfz, hnd⟩ := hW
  have hA : DataW.TrodAll enc Try.prog W 0 (fun _ => true) true Try.f3.params.toList args.toList ds p := hA0
  rw [Try.params3] at hA hval
  obtain ⟨v0, vs0, d0, ds0, p0, q0, hargs, rfl, rfl, h0, r0⟩ := trodAll_cons hA
  obtain ⟨rfl, rfl, rfl⟩ := trodAll_nil r0
  obtain rfl : args = #[v0] := by cases args; simp_all
  obtain ⟨rfl, rfl⟩ := trodVars_none hV
  try simp only [List.append_nil] at hsz
  obtain ⟨cs0, rfl, hcs0⟩ := okWide_struct Try.underlying24 (hval 0 24 v0 rfl rfl)
  have k0_ := h0
  have lt0 : ∀ x ∈ p0, x.block < W.heap.size := by obtain ⟨m, hm⟩ := k0_; exact DataW.trod_lt m _ _ _ hm
  obtain ⟨⟨a0_0, a0_1, l0_2⟩, hK0, ⟨Q0_0, Q0_1, Q0_2⟩, hwt⟩ := opens_arg (j := 0) p24 hsz rfl h0
  obtain ⟨x0_0, y0_0, e0, rfl, ⟨x0_1, y0_1, rfl, rfl, ⟨A0_2, c0_2, rfl, hl0_2, hC0_2⟩⟩⟩ := hK0
  have hc0 : cs0 = #[.int .i64 a0_0, .int .i64 a0_1, .slice A0_2 l0_2.length c0_2] := by
    have he : cs0.toList = [.int .i64 a0_0, .int .i64 a0_1, .slice A0_2 l0_2.length c0_2] := e0
    exact Array.toList_inj.1 he
  subst hc0
  obtain hk := (show SmallT l0_2 ∧ true = true from ⟨smallT_upto Q0_2 hwt, rfl⟩)
  refine (portagelaw22_CopiesRun.calls a0_0 a0_1 _ _ l0_2 true W hC0_2 hl0_2 hk).mono fun e W' ⟨he, bel⟩ => ?_
  subst he
  exact ⟨_, rfl, _, _, _, [], _, [], hW', trodAll_mk1 (shut_bool Try.underlying4 _), (trodAll_cons_mk (Below.trod laidOut (by kernel_rfl) (of_decide_eq_true (by kernel_rfl)) k0_ bel lt0) trodAll_mk0), rfl, bel.frame _, fun h => by cases h⟩
set_option maxRecDepth 100000 in
theorem lifted (os : Os) (started : os.Started) (H : Type) (enc : TypeId × Value → H) (F : Stop.Interp) :
    ReturnsInHanded {} Try.checked os 3 .any ((Rows.OpenSpec.upto Rows.copiesRunSpec).pre6 enc Try.prog Try.f3 Rows.copiesRunUptoRow.domain false) (((Rows.OpenSpec.upto Rows.copiesRunSpec).at F).post enc Try.prog Try.f3 false true false false) := by
  refine returnsInHanded_of_cond (C := Try.checked) (s := Rows.OpenSpec.upto Rows.copiesRunSpec) (k := Rows.uptoSmall) rfl own started (by kernel_rfl) Try.func3
    (OpenSpec.witness (enc := enc) (C := Try.checked) (s := Rows.OpenSpec.upto Rows.copiesRunSpec) (k := Rows.uptoSmall) rfl false ⟨#[], #[.agg #[.int .i64 0, .int .i64 0, .slice none 0 0]], []⟩ 8 (by kernel_rfl) (by kernel_rfl) (by kernel_rfl)
      (x := ([.agg [.lit (.int .i64 0), .lit (.int .i64 0), .nil]], [], [])) (by kernel_rfl) rfl (by kernel_rfl)) ?_
  intro W base args ds gs before hval hW _ hk _
  exact contract H enc W base args ds gs before hval hW hk
theorem proved : Rows.CopiesRunUptoSaid :=
  OpenClaim.holds_of_cond 3 Try.f3 rfl rfl rfl rfl rfl rfl rfl ⟨rfl, rfl, rfl, rfl, rfl⟩ rfl rfl rfl rfl rfl (by kernel_rfl) Try.func3 (by kernel_rfl)
    (of_decide_eq_true (by kernel_rfl)) (by unfold Func.isWrapper; first | (rw [if_pos (by decide +kernel)]; kernel_rfl) | (rw [if_neg (by decide +kernel)]; exact ⟨rfl, rfl⟩))
    (fun os started H enc _ F => lifted os started H enc F)
#print axioms proved
end Go.Proofs.Ytjekpkpmoanadaa.copiesRunUpto
namespace Go.Proofs.Ytjekpkpmoanadaa
/-- The row, under a short name, for the claim. -/
theorem copiesRun_holds : Rows.CopiesRunUptoSaid := copiesRunUpto.proved
end Go.Proofs.Ytjekpkpmoanadaa
