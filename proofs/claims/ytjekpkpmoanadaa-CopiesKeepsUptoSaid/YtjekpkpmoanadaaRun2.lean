/- copies.Run: its contract. For every world. -/
import Derived.Test.YtjekpkpmoanadaaRun1
namespace Go.Proofs.Ytjekpkpmoanadaa.PCop
open Go.RowKit Go.Proofs.Ytjekpkpmoanadaa.Lit Go.Proofs.Ytjekpkpmoanadaa.OwnCells Go.Proofs.YtjekpkpmoanadaaW.PrintWords Go.Proofs.YtjekpkpmoanadaaW.PrintLast Go.Proofs.YtjekpkpmoanadaaW.PrintMore
open Go.Maps
set_option linter.unusedVariables false
set_option linter.unusedSimpArgs false
def BoxAt (N : Nat) (cs : Array Value) (t : Nat) (w : World) (v : Value) : Prop := ∃ g, v = .pointer (some ⟨g, 0, none⟩) ∧ N ≤ g ∧ w.heap[g]? = some (.cells cs t (0, 0))
theorem BoxAt.below {N : Nat} {cs : Array Value} {t : Nat} {w w1 : World} {v : Value} (h : BoxAt N cs t w v) (hb : Below w.heap.size w w1) : BoxAt N cs t w1 v := let ⟨g, h1, h2, h3⟩ := h; ⟨g, h1, h2, blk_below h3 hb⟩
def NextRow (l : List Int) (N : Nat) (w : World) (v : Value) : Prop := (Kd.int .i64).R 3 w N (fun _ => True) v l
theorem NextRow.below {l : List Int} {N : Nat} {w w1 : World} {v : Value} (h : NextRow l N w v) (hb : Below w.heap.size w w1) : NextRow l N w1 v := Kd.R_below h hb
def set3 (w : World) (g : Nat) (a0 a1 a2 : Value) : World := ((w.setCell ⟨g, 0, none⟩ a0).setCell ⟨g, 1, none⟩ a1).setCell ⟨g, 2, none⟩ a2
theorem set3_grown (w : World) (g : Nat) (a0 a1 a2 : Value) : w.grownBy (set3 w g a0 a1 a2) (some g) := by
  unfold set3
  have h : ∀ {a b : World} (hg : a.grownBy b (some g)) (j : Nat) (v : Value), a.grownBy (b.setCell ⟨g, j, none⟩ v) (some g) := fun hg j v => hg.andThen (setCell_grown _ g j v) (fun q hq => Or.inr hq)
  exact h (h (setCell_grown w g 0 a0) 1 a1) 2 a2
theorem set3_blk {w : World} {g : Nat} {t : TypeId} {x0 x1 x2 : Value} (h : w.heap[g]? = some (.cells #[x0, x1, x2] t (0, 0))) (a0 a1 a2 : Value) : (set3 w g a0 a1 a2).heap[g]? = some (.cells #[a0, a1, a2] t (0, 0)) := by
  have h0 := blk_put h 0 a0 (cs' := #[a0, x1, x2]) rfl
  have h1 := blk_put h0 1 a1 (cs' := #[a0, a1, x2]) rfl
  exact blk_put h1 2 a2 (cs' := #[a0, a1, a2]) rfl
theorem set3_R {α : Type} {d : Kd α} {e base : Nat} {w : World} {v : Value} {xs : List α} (h : d.R e w base (fun _ => True) v xs) {g t : Nat} {cells : Array Value} (hb : w.heap[g]? = some (.cells cells t (0, 0))) (ht : ∀ q, q ∈ e :: d.E → q ≠ t) (a0 a1 a2 : Value) : d.R e (set3 w g a0 a1 a2) base (fun _ => True) v xs :=
  Kd.R_mono (Kd.R_grown (Kd.R_types h hb ht) (set3_grown w g a0 a1 a2) (fun k hk he => hk.2 (by injection he))) (fun _ _ => trivial)
def stAt (l : List S47) (j : Nat) : Map49 × List S47 := (l.take j).foldl stepS (noMap, [])
theorem stAt_succ {l : List S47} {j : Nat} {x : S47} (h : l[j]? = some x) : stAt l (j + 1) = stepS (stAt l j) x := by
  obtain ⟨hj, rfl⟩ := List.getElem?_eq_some_iff.1 h
  unfold stAt
  rw [List.take_succ_eq_append_getElem hj, List.foldl_append]
  rfl
theorem stepS_len (st : Map49 × List S47) (x : S47) : (stepS st x).2.length ≤ st.2.length + 1 := by
  unfold stepS
  split
  · simp
  · split
    · omega
    · simp
theorem stAt_len (l : List S47) : ∀ j, (stAt l j).2.length ≤ j := by
  intro j
  induction j with
  | zero => simp [stAt]
  | succ j ih =>
    cases h : l[j]? with
    | none =>
      have : l.take (j + 1) = l.take j := by
        have := List.getElem?_eq_none_iff.1 h
        rw [List.take_of_length_le (by omega), List.take_of_length_le this]
      unfold stAt at ih ⊢
      rw [this]; omega
    | some x =>
      rw [stAt_succ h]
      have := stepS_len (stAt l j) x
      omega
/-- an instruction at its sources, its rows -/
structure XRow (M : Map49) (x : S47) (P3 : Option Addr) (d3 : Nat) (P7 : Option Addr) (d7 N g10 : Nat) (w : World) : Prop where
  r3 : k49.R 49 w N (fun _ => True) (.slice P3 x.f3.length d3) (x.f3.map (ask M))
  r7 : k65.R 65 w N (fun _ => True) (.slice P7 x.f7.length d7) (x.f7.map (turn65 M))
  box : w.heap[g10]? = some (.cells #[.int .i64 x.f0, .int .i64 x.f1, .int .i64 x.f2, .slice P3 x.f3.length d3, .int .i64 x.f4, .int .i64 x.f5, .int .i64 x.f6, .slice P7 x.f7.length d7] 47 (0, 0))
theorem XRow.below {M : Map49} {x : S47} {P3 : Option Addr} {d3 : Nat} {P7 : Option Addr} {d7 N g10 : Nat} {w w1 : World} (h : XRow M x P3 d3 P7 d7 N g10 w) (hb : Below w.heap.size w w1) : XRow M x P3 d3 P7 d7 N g10 w1 := ⟨Kd.R_below h.r3 hb, Kd.R_below h.r7 hb, blk_below h.box hb⟩
theorem XRow.turned {M : Map49} {x : S47} {P3 : Option Addr} {d3 : Nat} {P7 : Option Addr} {d7 N g10 B : Nat} {w w1 : World} (h : XRow M x P3 d3 P7 d7 N g10 w) {es : Array MapEntry} {clock : Nat} (hB : w.heap[B]? = some (.map es clock)) (hg : w.grownBy w1 (some B)) : XRow M x P3 d3 P7 d7 N g10 w1 :=
  ⟨Kd.R_mono (Kd.R_grown (R_nomap h.r3 hB) hg (fun k hk he => hk.2.2 (by injection he))) (fun _ _ => trivial), Kd.R_mono (Kd.R_grown (R_nomap h.r7 hB) hg (fun k hk he => hk.2.2 (by injection he))) (fun _ _ => trivial),
    blk_grown h.box hg (fun he => by injection he with he; have h1 := h.box; rw [he, hB] at h1; cases h1)⟩
theorem XRow.made {M : Map49} {x : S47} {P3 : Option Addr} {d3 : Nat} {P7 : Option Addr} {d7 N g10 : Nat} {w : World} (h : XRow M x P3 d3 P7 d7 N g10 w) : k47.M w N (fun _ => True) (turn47 M x) [.int .i64 x.f0, .int .i64 x.f1, .int .i64 x.f2, .slice P3 x.f3.length d3, .int .i64 x.f4, .int .i64 x.f5, .int .i64 x.f6, .slice P7 x.f7.length d7] := k47_mkM w N (fun _ => True) (turn47 M x) h.r3 h.r7
theorem Inner.old {pc : Int} {next : List Int} {M : Map49} {out : List S47} {j B N g7 : Nat} {VI VN : Value} {w w1 : World} (h : Inner pc next M out j B N g7 VI VN w) (hg : w.grownBy w1 VI.ownBlock) : w1.heap[g7]? = some (.cells #[.int .i64 pc, VI, VN] 43 (0, 0)) := blk_grown h.box hg (own_ne h.row h.box (by decide))
theorem Inner.append {pc : Int} {next : List Int} {M : Map49} {out out' : List S47} {j B N g7 : Nat} {VI VN v1 : Value} {w w1 : World} (h : Inner pc next M out j B N g7 VI VN w) (hR : k47.R 47 w1 N (fun _ => True) v1 out') (hg : w.grownBy w1 VI.ownBlock) : Inner pc next M out' j B N g7 v1 VN (w1.setCell ⟨g7, 1, none⟩ v1) := by
  obtain ⟨es, clock, hB⟩ := h.book.blk
  have hbox := h.old hg
  have hn := Kd.R_grown (R_apart h.nxt h.row (by decide)) hg (fun k hk he => hk.2 he)
  refine ⟨(h.book.kept hg (own_no_map h.row hB)).kept (setCell_grown w1 g7 1 v1) (fun he => ?_), Kd.R_set hR hbox (by decide) 1 v1, Kd.R_set (Kd.R_mono hn (fun _ _ => trivial)) hbox (by decide) 1 v1, blk_put hbox 1 v1 rfl, h.n7⟩
  injection he with he
  have h1 := h.box
  rw [← he, hB] at h1
  cases h1
theorem Outer.append {a b : Int} {done : List S43} {w0 : World} {B g1 g2 N g7 : Nat} {VO VI v1 : Value} {out : List S47} {w w1 : World} (h : Outer a b done w0 B g1 g2 N VO w) (hr : k47.R 47 w N (fun _ => True) VI out) (hg : w.grownBy w1 VI.ownBlock) (h7 : N ≤ g7) : Outer a b done w0 B g1 g2 N VO (w1.setCell ⟨g7, 1, none⟩ v1) := by
  obtain ⟨_, inner, ho, _⟩ := hr
  exact (h.but ((But.of_grown hg).mono (fun k hk => Or.inl (own_base ho k hk)))).but ((But.of_grown (setCell_grown w1 g7 1 v1)).mono (fun k hk => Or.inl (by have := Option.some.inj hk; omega)))
theorem Outer.turned {a b : Int} {done : List S43} {w0 : World} {B g1 g2 N : Nat} {VO : Value} {w w1 : World} (h : Outer a b done w0 B g1 g2 N VO w) (hg : w.grownBy w1 (some B)) : Outer a b done w0 B g1 g2 N VO w1 := h.but ((But.of_grown hg).mono (fun k hk => Or.inr (Option.some.inj hk).symm))
theorem XRow.arg {M : Map49} {x : S47} {P3 : Option Addr} {d3 : Nat} {P7 : Option Addr} {d7 N g10 : Nat} {w : World} (h : XRow M x P3 d3 P7 d7 N g10 w) {o : S49} (ho : x.f3 = [o]) : ∃ gx, P3 = some ⟨gx, 0, none⟩ ∧ w.cell? ⟨gx, 0, none⟩ = some (.int .i64 (ask M o).f0) ∧ w.cell? ⟨gx, 1, none⟩ = some (.int .i64 (ask M o).f1) := by
  have h3 := h.r3
  rw [ho] at h3
  obtain ⟨_, inner, hw, _⟩ := h.r3
  obtain ⟨ad, rfl, q0, q1⟩ := at_T49 (Kd.R_reads' h3).2.2 0 (by decide) (by simp)
  rcases hw.2 with ⟨he, _⟩ | ⟨g, cap, cur, he, _⟩
  · injection he with h1; cases h1
  · injection he with h1
    injection h1 with h1
    subst h1
    exact ⟨g, rfl, q0, q1⟩
theorem movesOf_one {M : Map49} {x : S47} {o : S49} (h0 : x.f0 = 1) (ho : x.f3 = [o]) : movesOf (turn47 M x) = some (ask M o) := by
  unfold movesOf turn47
  simp [h0, ho]
theorem movesOf_op {M : Map49} {x : S47} (h0 : x.f0 ≠ 1) : movesOf (turn47 M x) = none := by
  unfold movesOf turn47
  simp [h0]
theorem movesOf_len {M : Map49} {x : S47} (h0 : x.f3.length ≠ 1) : movesOf (turn47 M x) = none := by
  unfold movesOf turn47
  rcases h : x.f3 with _ | ⟨o, _ | ⟨o2, r⟩⟩
  · simp
  · rw [h] at h0; exact absurd rfl h0
  · simp
theorem Outer.kept {a b : Int} {done : List S43} {w0 : World} {B g1 g2 N : Nat} {VO : Value} {w w1 : World} (h : Outer a b done w0 B g1 g2 N VO w) (hg : w.grownBy w1 VO.ownBlock) : w1.heap[g2]? = some (.cells #[.int .i64 a, .int .i64 b, VO] 24 (0, 0)) := blk_grown h.out hg (own_ne h.row h.out (by decide))
theorem Outer.push {a b : Int} {done done' : List S43} {w0 : World} {B g1 g2 N n : Nat} {M : Map49} {VO v1 : Value} {w w1 : World} (h : Outer a b done w0 B g1 g2 N VO w) (hbk : Book w B n M) (hR : k43.R 43 w1 w0.heap.size (fun _ => True) v1 done') (hg : w.grownBy w1 VO.ownBlock) :
    Outer a b done' w0 B g1 g2 w1.heap.size v1 (w1.setCell ⟨g2, 2, none⟩ v1) ∧ Book (w1.setCell ⟨g2, 2, none⟩ v1) B n M := by
  obtain ⟨es, clock, hB⟩ := hbk.blk
  have hout := h.kept hg
  have hbk1 := hbk.kept hg (own_no_map h.row hB)
  have hbk2 := hbk1.kept (setCell_grown w1 g2 2 v1) (fun he => h.n2.2.1 (Option.some.inj he).symm)
  obtain ⟨es', clock', hB'⟩ := hbk2.blk
  have hr := R_nomap (Kd.R_set hR hout (by decide) 2 v1) hB'
  have hsz : (w1.setCell ⟨g2, 2, none⟩ v1).heap.size = w1.heap.size := by simp [World.setCell]
  rw [hsz] at hr
  have h1 := blk_grown h.res hg (own_ne h.row h.res (by decide))
  have hne := h.ne
  refine ⟨⟨Kd.R_mono hr (fun k hk => ⟨hk.2.1, hk.2.2⟩), blk_far h1 (p := ⟨g2, 2, none⟩) hne _, blk_put hout 2 v1 rfl, ?_, ⟨?_, h.n1.2⟩, ⟨?_, h.n2.2⟩, h.nB, ?_, h.ne⟩, hbk2⟩
  · have hb : Below w0.heap.size w0 w1 := h.bel.grown hg h.bel.size (fun k hk => by
      obtain ⟨_, inner, ho, _⟩ := h.row
      exact own_base ho k hk)
    exact below_set hb h.n2.2.2
  · exact blk_lt h1
  · exact blk_lt hout
  · exact Nat.le_trans h.bel.size hg.size
def dT7 : Nat → Option Tmp
  | 0 => some 27
  | 1 => some 28
  | 2 => some 29
  | 3 => some 30
  | 4 => some 31
  | 5 => some 32
  | 6 => some 7
  | _ => none
def FT7 (bl : S43) (N N5 : Nat) (AN : Option Addr) (cN : Nat) : Nat → World → Value → Prop
  | 0, _, v => v = .pointer (some ⟨N, 0, none⟩)
  | 1, _, v => v = .int .i64 bl.f0
  | 2, _, v => v = .pointer (some ⟨N, 2, none⟩)
  | 3, _, v => v = .slice AN bl.f2.length cN
  | 4, w, v => NextRow bl.f2 N w v
  | 5, w, v => ∃ u, v = .agg #[.int .i64 bl.f0, .slice none 0 0, u] ∧ NextRow bl.f2 N w u
  | 6, w, v => BoxAt N5 #[.int .i64 0, .slice none 0 0, .slice none 0 0] 43 w v
  | _, _, _ => True
theorem FT7_below (bl : S43) (N N5 : Nat) (AN : Option Addr) (cN : Nat) (i : Nat) (w w1 : World) (v : Value) (h : FT7 bl  N N5  AN  cN  i w v) (hb : Below w.heap.size w w1) : FT7 bl  N N5  AN  cN  i w1 v := by
  match i with
  | 0 | 1 | 2 | 3 => exact h
  | 5 => obtain ⟨u, h1, h2⟩ := h; exact ⟨u, h1, h2.below hb⟩
  | 4 | 6 => exact h.below hb
  | (n + 7) => exact h
set_option maxHeartbeats 8000000 in
set_option maxRecDepth 100000 in
theorem run_calls (a b : Int) (A2 : Option Addr) (c2 : Nat) (l : List S43) (w : World) (hA : k43.C w A2 l.length l) (hok : OkL l) :
    Calls Try.prog 11 #[.agg #[.int .i64 a, .int .i64 b, .slice A2 l.length c2]] w fun e w' => ∃ v, e = .returned (.agg #[.int .i64 a, .int .i64 b, v]) ∧ k43.R 43 w' w.heap.size (fun _ => True) v (runS l) ∧ Below w.heap.size w w' := by
  have HA := Aside0.mk hA
  have HOK := Aside0.mk hok
  have hlen := hok.len
  clear hA hok
  have hmm := @run_makeMap Try.prog
  go_enter Try.func11, Try.ntmps11
  go_upto_region 1 with (fail)
  have hbx := e4 w (.cells #[.int .i64 a, .int .i64 b, .slice A2 l.length c2] 24) (.cells #[.int .i64 0, .int .i64 0, .slice none 0 0] 24)
  have K0 := blk_alloc (blk_new w (.cells #[.int .i64 a, .int .i64 b, .slice A2 l.length c2] 24)) (.cells #[.int .i64 0, .int .i64 0, .slice none 0 0] 24)
  have K1 := blk_new (w.alloc (.cells #[.int .i64 a, .int .i64 b, .slice A2 l.length c2] 24)) (.cells #[.int .i64 0, .int .i64 0, .slice none 0 0] 24)
  rw [World.size_alloc] at K1
  generalize (w.alloc (.cells #[.int .i64 a, .int .i64 b, .slice A2 l.length c2] 24)).alloc (.cells #[.int .i64 0, .int .i64 0, .slice none 0 0] 24) = w1 at *
  have HG0 := Aside0.mk (Nat.le_refl w.heap.size)
  have HG1 := Aside0.mk (Nat.lt_succ_self w.heap.size)
  rw [Nat.succ_eq_add_one] at HG1
  generalize w.heap.size + 1 = g1 at *
  obtain ⟨g0, hg0⟩ : ∃ g0, g0 = w.heap.size := ⟨_, rfl⟩
  rw [← hg0] at K0 ⊢
  have HE0 := Aside0.mk hg0
  have HBX := Aside0.mk hbx
  clear hg0 hbx HG0
  have q0 : w1.cell? ⟨g0, 0, none⟩ = some (.int .i64 a) := blk_cell K0 0
  have q1 : w1.cell? ⟨g0, 1, none⟩ = some (.int .i64 b) := blk_cell K0 1
  have HK0 := Aside0.mk K0
  have HK1 := Aside0.mk K1
  clear K0 K1
  go_upto_region 2 with (fail)
  clear q0 q1
  have hb2 := below_alloc (Below.refl _ w1) (.cells #[.int .i64 a, .int .i64 b, .slice none 0 0] 24)
  have K2 := blk_new w1 (.cells #[.int .i64 a, .int .i64 b, .slice none 0 0] 24)
  have hg1l := blk_lt HK1.out
  replace HK0 := Aside0.mk (blk_below HK0.out hb2)
  replace HK1 := Aside0.mk (blk_below HK1.out hb2)
  have HB2 := Aside0.mk (wB HBX.out hb2)
  have G2 := Aside0.mk (show g1 < w1.heap.size ∧ w.heap.size ≤ w1.heap.size from ⟨hg1l, HBX.out.size⟩)
  clear hb2 hg1l
  generalize w1.alloc (.cells #[.int .i64 a, .int .i64 b, .slice none 0 0] 24) = w2 at *
  generalize w1.heap.size = g2 at *
  go_upto_region 3 with (fail)
  have hb3 := below_alloc (Below.refl _ w2) (.map #[] 0)
  have HO0 : Outer a b [] w w2.heap.size g1 g2 (w2.alloc (.map #[] 0)).heap.size (.slice none 0 0) (w2.alloc (.map #[] 0)) :=
    ⟨Kd.R_nil _ _ _ _ _, blk_below HK1.out hb3, blk_below K2 hb3, wB HB2.out hb3, by have h1 := G2.out.1; have h2 := blk_lt K2; have h3 := HG1.out; rw [World.size_alloc]; omega, by have h1 := G2.out.2; have h2 := blk_lt K2; rw [World.size_alloc]; omega, HB2.out.size, (wB HB2.out hb3).size, Nat.ne_of_lt G2.out.1⟩
  have HO := Aside0.mk HO0
  have HBK := Aside0.mk (Book.made (w := w2))
  replace HK0 := Aside0.mk (blk_below HK0.out hb3)
  clear hb3 HO0 K2 HK1
  generalize w2.alloc (.map #[] 0) = w3 at *
  generalize w2.heap.size = B at *
  have q2 : w3.cell? ⟨g0, 2, none⟩ = some (.slice A2 l.length c2) := blk_cell HK0.out 2
  go_wp2_with (fail)
  clear q2
  go_loopw [22] (fun t wr => ∃ k : Nat, k ≤ l.length ∧ t = .int .i64 k ∧ ∃ (VO : Value) (N nb : Nat) (M : Map49), Outer a b ((l.take k).map blockS) w B g1 g2 N VO wr ∧ Book wr B nb M) (fun t _ => l.length - (intOf t).toNat)
  case atStart => exact ⟨0, Nat.zero_le _, rfl, _, _, _, _, HO.out, HBK.out⟩
  case round =>
    clear HO HBK
    obtain ⟨k, hk, rfl, VO, N0, nb, M, ho0, hbk⟩ := hrel
    obtain ⟨es, clock, hB⟩ := hbk.blk
    have HO := Aside0.mk (ho0.round hB)
    have HBK := Aside0.mk hbk
    have HBN := Aside0.mk (blk_lt hB)
    clear ho0 hbk hB
    by_cases hlt : k < l.length
    · obtain ⟨ad, AI, cI, AN, cN, rfl, x0, x1, x2, _, gI, _, gN⟩ := at_T43 HA.out (k : Int) (by omega) (by omega)
      have hm : l[k]? = some (rd_T43 l (k : Int)) := by
        unfold rd_T43
        rw [Int.toNat_natCast, List.getD_eq_getElem?_getD, List.getElem?_eq_getElem hlt]; rfl
      have hmem := List.mem_of_getElem? hm
      have hins := HOK.out.ins _ hmem
      have hnext := HOK.out.next _ hmem
      have heach := HOK.out.each _ hmem
      rw [Int.toNat_natCast] at x0 x1 x2
      replace x0 := pw_cell_below HO.out.bel x0
      replace x1 := pw_cell_below HO.out.bel x1
      replace x2 := pw_cell_below HO.out.bel x2
      generalize rd_T43 l (k : Int) = bl at *
      have HM := Aside0.mk hm
      have GI := Aside0.mk gI
      have GN := Aside0.mk gN
      have HINS := Aside0.mk hins
      have HNEXT := Aside0.mk hnext
      have HEACH := Aside0.mk heach
      clear hm gI gN hins hnext heach hmem
      go_upto_region 6 with (fail)
      have hb3 := below_alloc (Below.refl _ wr) (.cells #[.int .i64 bl.f0, .slice AI bl.f1.length cI, .slice AN bl.f2.length cN] 43)
      have K6 := blk_new wr (.cells #[.int .i64 bl.f0, .slice AI bl.f1.length cI, .slice AN bl.f2.length cN] 43)
      replace HO := Aside0.mk (HO.out.below hb3)
      replace HBK := Aside0.mk (HBK.out.below hb3)
      have HN := Aside0.mk hb3.size
      clear hb3 x0 x1 x2
      generalize wr.alloc (.cells #[.int .i64 bl.f0, .slice AI bl.f1.length cI, .slice AN bl.f2.length cN] 43) = w4 at *
      generalize wr.heap.size = N at *
      have HK6 := Aside0.mk K6
      clear K6
      go_upto_region 7 with (first | ((with_reducible refine gate_builtin (b := .clear) rfl ?_); refine Classical.byContradiction (fun hcon => ?hst)) | go_in)
      refine hcon ?_
      clear hcon
      refine clear_book rfl _ rfl _ rfl B nb M rfl HBK.out ?_
      intro w5 hbk5 hg5
      have hb5 : But (fun q => q = B) w4 w5 := (But.of_grown hg5).mono (fun q hq => (Option.some.inj hq).symm)
      replace HO := Aside0.mk (HO.out.but (hb5.mono (fun q hq => Or.inr hq)))
      replace HBK := Aside0.mk hbk5
      replace HK6 := Aside0.mk (blk_but HK6.out hb5 (by have := HBN.out; omega))
      replace HN := Aside0.mk (Nat.le_trans HN.out hb5.size)
      clear hbk5 hg5 hb5
      have X0 : ∀ w8, Below w5.heap.size w5 w8 → w8.cell? ⟨N, 0, none⟩ = some (.int .i64 bl.f0) := fun w8 b => blk_cell (blk_below HK6.out b) 0
      have X2 : ∀ w8, Below w5.heap.size w5 w8 → w8.cell? ⟨N, 2, none⟩ = some (.slice AN bl.f2.length cN) := fun w8 b => blk_cell (blk_below HK6.out b) 2
      have XX := Aside0.mk (And.intro X0 (And.intro X2 (And.intro GN.out HO.out.bel)))
      clear X0 X2
      go_wp2_with (fail)
      rename_i hK
      refine RegInv.region_last2 (by kernel_rfl) (by kernel_rfl) (fun a b => Below a.heap.size a b) (fun a b c h k => wB h k) (below_drew1 (Below.refl _ _)) dT7 7 (by kernel_rfl) (by kernel_rfl) (by kernel_rfl) (by kernel_rfl) (FT7 bl N w5.heap.size AN cN) (FT7_below bl N w5.heap.size AN cN) ?hsT7 ?heT7
      case hsT7 =>
        clear hK
        intro i o a w8 hlt hi hM
        obtain ⟨X0, X2, _⟩ := XX.out
        rcases i with _ | _ | _ | _ | _ | _ | _ | i
        · cases hi
          have h0 := gdq _ _ _ (show a.tmps.getD 6 undef = .pointer (some ⟨N, 0, none⟩) from hM.off 6 (by kernel_rfl))
          refine RegInv.op_value (by rfl) rfl (v := .pointer (some ⟨N, 0, none⟩)) (w' := w8) ?_ ⟨_, rfl, rfl, Below.refl _ _⟩
          unfold execOp
          go_simp
        · cases hi
          have h0 := gdq _ _ _ (show a.tmps.getD 27 undef = .pointer (some ⟨N, 0, none⟩) from hM.at_ 0 (by decide) (by kernel_rfl))
          have y := X0 w8 hM.ext
          refine RegInv.op_value (by rfl) rfl (v := .int .i64 bl.f0) (w' := w8) ?_ ⟨_, rfl, rfl, Below.refl _ _⟩
          unfold execOp
          go_simp
        · cases hi
          have h0 := gdq _ _ _ (show a.tmps.getD 6 undef = .pointer (some ⟨N, 0, none⟩) from hM.off 6 (by kernel_rfl))
          refine RegInv.op_value (by rfl) rfl (v := .pointer (some ⟨N, 2, none⟩)) (w' := w8) ?_ ⟨_, rfl, rfl, Below.refl _ _⟩
          unfold execOp
          go_simp
        · cases hi
          have h0 := gdq _ _ _ (show a.tmps.getD 29 undef = .pointer (some ⟨N, 2, none⟩) from hM.at_ 2 (by decide) (by kernel_rfl))
          have y := X2 w8 hM.ext
          refine RegInv.op_value (by rfl) rfl (v := .slice AN bl.f2.length cN) (w' := w8) ?_ ⟨_, rfl, rfl, Below.refl _ _⟩
          unfold execOp
          go_simp
        · cases hi
          have h0 := gdq _ _ _ (show a.tmps.getD 30 undef = .slice AN bl.f2.length cN from hM.at_ 3 (by decide) (by kernel_rfl))
          refine RegInv.op_call (by rfl) rfl Try.func27 (by kernel_rfl) rfl rfl #[.slice AN bl.f2.length cN] (by simp [Act.eval, h0]) ?_
          refine (clone_ints AN cN bl.f2 w8 (Kd.C_below XX.out.2.2.1 (wB XX.out.2.2.2 hM.ext)) (Nat.le_trans HNEXT.out (by decide))).mono ?_
          rintro e w9 ⟨v, rfl, hr, b⟩
          exact ⟨_, rfl, _, rfl, (Kd.R_lower hr (Nat.le_trans HN.out hM.ext.size)), b⟩
        · cases hi
          obtain ⟨u, hu⟩ : ∃ u, a.tmps.getD 31 undef = u := ⟨_, rfl⟩
          have h0 := gdq _ _ _ (show a.tmps.getD 28 undef = .int .i64 bl.f0 from hM.at_ 1 (by decide) (by kernel_rfl))
          have hn : NextRow bl.f2 N w8 u := hu ▸ (show NextRow bl.f2 N w8 (a.tmps.getD 31 undef) from hM.at_ 4 (by decide) (by kernel_rfl))
          have h1 := gdq _ _ _ hu
          obtain ⟨P, m, d, rfl⟩ : ∃ P m d, u = .slice P m d := let ⟨A, c, h, _⟩ := Kd.R_reads hn; ⟨_, _, _, h⟩
          refine RegInv.op_value (by rfl) rfl (v := .agg #[.int .i64 bl.f0, .slice none 0 0, .slice P m d]) (w' := w8) ?_ ⟨_, rfl, ⟨_, rfl, hn⟩, Below.refl _ _⟩
          clear hn hu
          unfold execOp
          go_simp
        · cases hi
          refine RegInv.op_value (by rfl) rfl (v := .pointer (some ⟨w8.heap.size, 0, none⟩)) (w' := w8.alloc (.cells #[.int .i64 0, .slice none 0 0, .slice none 0 0] 43)) ?_ ⟨_, rfl, ⟨_, rfl, hM.ext.size, blk_new _ _⟩, below_alloc (Below.refl _ _) _⟩
          unfold execOp
          go_simp
        · exact absurd hlt (by omega)
      intro vs w6 hb6 hF
      obtain ⟨g7, e6, hg75, K7⟩ : BoxAt w5.heap.size #[.int .i64 0, .slice none 0 0, .slice none 0 0] 43 w6 (vs 6) := hF 6 (by omega)
      obtain ⟨VN, e5, hvn⟩ : ∃ u, vs 5 = .agg #[.int .i64 bl.f0, .slice none 0 0, u] ∧ NextRow bl.f2 N w6 u := hF 5 (by omega)
      clear hF
      have hg7 : N ≤ g7 := Nat.le_trans HN.out hg75
      have hgN : N ≠ g7 := fun he => by have := blk_lt HK6.out; omega
      simp only [RegInv.puts, dT7, Act.put, List.range, List.range.loop, List.setIfInBounds_toArray, List.set_cons_zero, List.set_cons_succ]
      obtain ⟨PN, mN, dN, rfl⟩ : ∃ P m d, VN = .slice P m d := let ⟨A, c, h, _⟩ := Kd.R_reads hvn; ⟨_, _, _, h⟩
      rw [e6, e5]
      clear e6 e5
      have c0' : w6.cell? ⟨g7, 0, none⟩ = some (.int .i64 0) := blk_cell K7 0
      have c1' : w6.cell? ⟨g7, 1, none⟩ = some (.slice none 0 0) := blk_cell K7 1
      have c2' : w6.cell? ⟨g7, 2, none⟩ = some (.slice none 0 0) := blk_cell K7 2
      have f0' : w6.frozen? ⟨g7, 0, none⟩ = false := blk_frozen K7 0
      have f1' : w6.frozen? ⟨g7, 1, none⟩ = false := blk_frozen K7 1
      have f2' : w6.frozen? ⟨g7, 2, none⟩ = false := blk_frozen K7 2
      refine RegInv.op_skip (by rfl) rfl (w' := set3 w6 g7 (.int .i64 bl.f0) (.slice none 0 0) (.slice PN mN dN)) ?run ?_
      case run =>
        unfold execOp set3
        go_simp
      clear c0' c1' c2' f0' f1' f2'
      have hb7 : But (fun q => N ≤ q ∨ q = B) w5 (set3 w6 g7 (.int .i64 bl.f0) (.slice none 0 0) (.slice PN mN dN)) := ((But.of_below hb6).mono (fun _ hf => hf.elim)).trans ((But.of_grown (set3_grown w6 g7 _ _ _)).mono (fun q hq => Or.inl (by have := Option.some.inj hq; omega))) (fun q hq => Or.inl hq)
      have HI : Inner bl.f0 bl.f2 noMap [] 0 B N g7 (.slice none 0 0) (.slice PN mN dN) (set3 w6 g7 (.int .i64 bl.f0) (.slice none 0 0) (.slice PN mN dN)) :=
        ⟨(HBK.out.below hb6).kept (set3_grown w6 g7 _ _ _) (fun he => by injection he with he; have := HBN.out; omega), Kd.R_nil _ _ _ _ _, set3_R hvn K7 (by decide) _ _ _, set3_blk K7 _ _ _, hg7⟩
      replace HO := Aside0.mk (HO.out.but hb7)
      replace HI := Aside0.mk HI
      have K6 := blk_but (blk_below HK6.out hb6) (But.of_grown (set3_grown w6 g7 (.int .i64 bl.f0) (.slice none 0 0) (.slice PN mN dN))) (fun he => hgN (Option.some.inj he).symm)
      clear hb7 hb6 hg7 hg75 hgN hvn K7 XX HBK
      have HK6 := Aside0.mk K6
      clear K6
      generalize set3 w6 g7 (.int .i64 bl.f0) (.slice none 0 0) (.slice PN mN dN) = w7 at *
      generalize vs 0 = t0
      generalize vs 1 = t1
      generalize vs 2 = t2
      generalize vs 3 = t3
      generalize vs 4 = t4
      refine hK _ _ ?_
      clear hK
      have q1 : w7.cell? ⟨N, 1, none⟩ = some (.slice AI bl.f1.length cI) := blk_cell HK6.out 1
      have hli := HINS.out
      go_wp2_with (fail)
      clear q1 hli HK6
      go_loopw [36] (fun t wr => ∃ j : Nat, j ≤ bl.f1.length ∧ t = .int .i64 j ∧ ∃ VI, Outer a b ((l.take k).map blockS) w B g1 g2 N VO wr ∧ Inner bl.f0 bl.f2 (stAt bl.f1 j).1 (stAt bl.f1 j).2 j B N g7 VI (.slice PN mN dN) wr) (fun t _ => bl.f1.length - (intOf t).toNat)
      case atStart => exact ⟨0, Nat.zero_le _, rfl, _, HO.out, HI.out⟩
      case round =>
        clear HO HI HN HK0
        obtain ⟨j, hj, rfl, VI, ho, hi⟩ := hrel
        have HO := Aside0.mk ho
        have HI := Aside0.mk hi
        clear ho hi
        by_cases hjl : j < bl.f1.length
        · obtain ⟨ad2, A3, c3, A7, c7, rfl, x0, x1, x2, x3, x4, x5, x6, x7, _, gA, _, gE⟩ := at_T47 GI.out (j : Int) (by omega) (by omega)
          have hm : bl.f1[j]? = some (rd_T47 bl.f1 (j : Int)) := by
            unfold rd_T47
            rw [Int.toNat_natCast, List.getD_eq_getElem?_getD, List.getElem?_eq_getElem hjl]; rfl
          have hokx := HEACH.out _ (List.mem_of_getElem? hm)
          have hst := stAt_succ hm
          have hsl := stAt_len bl.f1 j
          rw [Int.toNat_natCast] at x0 x1 x2 x3 x4 x5 x6 x7
          generalize rd_T47 bl.f1 (j : Int) = x at *
          generalize hsj : stAt bl.f1 j = sj at *
          obtain ⟨M0, out⟩ := sj
          replace HI : Aside0 (Inner bl.f0 bl.f2 M0 out j B N g7 VI (.slice PN mN dN) wr) := HI
          replace hsl : out.length ≤ j := hsl
          replace x0 := pw_cell_below HO.out.bel x0
          replace x1 := pw_cell_below HO.out.bel x1
          replace x2 := pw_cell_below HO.out.bel x2
          replace x3 := pw_cell_below HO.out.bel x3
          replace x4 := pw_cell_below HO.out.bel x4
          replace x5 := pw_cell_below HO.out.bel x5
          replace x6 := pw_cell_below HO.out.bel x6
          replace x7 := pw_cell_below HO.out.bel x7
          have GA := Aside0.mk gA
          have GE := Aside0.mk gE
          have HX := Aside0.mk hokx
          have HST := Aside0.mk hst
          have HSL := Aside0.mk hsl
          have HINS2 := Aside0.mk HINS.out
          clear gA gE hokx hst hsl hsj hm
          go_upto_region 11 with (fail)
          have hb3 := below_alloc (Below.refl _ wr) (.cells #[.int .i64 x.f0, .int .i64 x.f1, .int .i64 x.f2, .slice A3 x.f3.length c3, .int .i64 x.f4, .int .i64 x.f5, .int .i64 x.f6, .slice A7 x.f7.length c7] 47)
          have K9 := blk_new wr (.cells #[.int .i64 x.f0, .int .i64 x.f1, .int .i64 x.f2, .slice A3 x.f3.length c3, .int .i64 x.f4, .int .i64 x.f5, .int .i64 x.f6, .slice A7 x.f7.length c7] 47)
          replace HO := Aside0.mk (HO.out.below hb3)
          replace HI := Aside0.mk (HI.out.below hb3)
          clear hb3 x0 x1 x2 x3 x4 x5 x6 x7
          generalize wr.alloc (.cells #[.int .i64 x.f0, .int .i64 x.f1, .int .i64 x.f2, .slice A3 x.f3.length c3, .int .i64 x.f4, .int .i64 x.f5, .int .i64 x.f6, .slice A7 x.f7.length c7] 47) = w8 at *
          generalize wr.heap.size = g9 at *
          have q0 : w8.cell? ⟨g9, 0, none⟩ = some (.int .i64 x.f0) := blk_cell K9 0
          have q1 : w8.cell? ⟨g9, 1, none⟩ = some (.int .i64 x.f1) := blk_cell K9 1
          have q2 : w8.cell? ⟨g9, 2, none⟩ = some (.int .i64 x.f2) := blk_cell K9 2
          have q3 : w8.cell? ⟨g9, 3, none⟩ = some (.slice A3 x.f3.length c3) := blk_cell K9 3
          have q4 : w8.cell? ⟨g9, 4, none⟩ = some (.int .i64 x.f4) := blk_cell K9 4
          have q5 : w8.cell? ⟨g9, 5, none⟩ = some (.int .i64 x.f5) := blk_cell K9 5
          have q6 : w8.cell? ⟨g9, 6, none⟩ = some (.int .i64 x.f6) := blk_cell K9 6
          have q7 : w8.cell? ⟨g9, 7, none⟩ = some (.slice A7 x.f7.length c7) := blk_cell K9 7
          clear K9
          go_wp2_with (fail)
          refine (turn_calls B j M0 x A3 c3 A7 c7 w8 HI.out.book (Kd.C_below GA.out HO.out.bel) (Kd.C_below GE.out HO.out.bel) (Nat.le_trans HX.out.args (by decide)) (Nat.le_trans HX.out.exit (by decide)) (fun s hs => Nat.le_trans (HX.out.slots s hs) (by decide)) HX.out.wfa HX.out.wfs).mono ?_
          rintro e w9 ⟨v3, v7, rfl, hr3, hr7, hb9⟩
          obtain ⟨P3, d3, hv3⟩ : ∃ P d, v3 = .slice P x.f3.length d := let ⟨A, c, h, _⟩ := Kd.R_reads hr3; ⟨A, c, by rw [h, List.length_map]⟩
          obtain ⟨P7, d7, hv7⟩ : ∃ P d, v7 = .slice P x.f7.length d := let ⟨A, c, h, _⟩ := Kd.R_reads hr7; ⟨A, c, by rw [h, List.length_map]⟩
          subst hv3
          subst hv7
          have hN8 : N ≤ w8.heap.size := Nat.le_trans HI.out.n7 (Nat.le_of_lt (blk_lt HI.out.box))
          have HR3 := Aside0.mk (Kd.R_lower hr3 hN8)
          have HR7 := Aside0.mk (Kd.R_lower hr7 hN8)
          replace HO := Aside0.mk (HO.out.below hb9)
          replace HI := Aside0.mk (HI.out.below hb9)
          clear hb9 hr3 hr7 hN8 q0 q1 q2 q3 q4 q5 q6 q7
          go_upto_region 12 with (fail)
          have hb3 := below_alloc (Below.refl _ w9) (.cells #[.int .i64 x.f0, .int .i64 x.f1, .int .i64 x.f2, .slice P3 x.f3.length d3, .int .i64 x.f4, .int .i64 x.f5, .int .i64 x.f6, .slice P7 x.f7.length d7] 47)
          have K10 := blk_new w9 (.cells #[.int .i64 x.f0, .int .i64 x.f1, .int .i64 x.f2, .slice P3 x.f3.length d3, .int .i64 x.f4, .int .i64 x.f5, .int .i64 x.f6, .slice P7 x.f7.length d7] 47)
          replace HO := Aside0.mk (HO.out.below hb3)
          replace HI := Aside0.mk (HI.out.below hb3)
          replace HR3 := Aside0.mk (Kd.R_below HR3.out hb3)
          replace HR7 := Aside0.mk (Kd.R_below HR7.out hb3)
          clear hb3
          generalize w9.alloc (.cells #[.int .i64 x.f0, .int .i64 x.f1, .int .i64 x.f2, .slice P3 x.f3.length d3, .int .i64 x.f4, .int .i64 x.f5, .int .i64 x.f6, .slice P7 x.f7.length d7] 47) = w10 at *
          generalize w9.heap.size = g10 at *
          have XR := Aside0.mk (XRow.mk HR3.out HR7.out K10)
          clear HR3 HR7 K10
          have q2 : w10.cell? ⟨g10, 2, none⟩ = some (.int .i64 x.f2) := blk_cell XR.out.box 2
          by_cases hd : x.f2 = -1
          · have cd : (x.f2 == -1) = true := beq_iff_eq.2 hd
            have HS1 : Aside0 (stAt bl.f1 (j + 1) = (M0, out ++ [turn47 M0 x])) := ⟨by rw [HST.out]; unfold stepS; rw [if_pos hd]⟩
            clear hd
            go_upto_region 13 with (fail)
            clear q2 cd
            obtain ⟨PI, mI, dI, rfl⟩ : ∃ P m d, VI = .slice P m d := let ⟨A, c, h, _⟩ := Kd.R_reads HI.out.row; ⟨_, _, _, h⟩
            have p1 : w10.cell? ⟨g7, 1, none⟩ = some (.slice PI mI dI) := blk_cell HI.out.box 1
            have q0 : w10.cell? ⟨g10, 0, none⟩ = some (.int .i64 x.f0) := blk_cell XR.out.box 0
            have q1 : w10.cell? ⟨g10, 1, none⟩ = some (.int .i64 x.f1) := blk_cell XR.out.box 1
            have q2 : w10.cell? ⟨g10, 2, none⟩ = some (.int .i64 x.f2) := blk_cell XR.out.box 2
            have q3 : w10.cell? ⟨g10, 3, none⟩ = some (.slice P3 x.f3.length d3) := blk_cell XR.out.box 3
            have q4 : w10.cell? ⟨g10, 4, none⟩ = some (.int .i64 x.f4) := blk_cell XR.out.box 4
            have q5 : w10.cell? ⟨g10, 5, none⟩ = some (.int .i64 x.f5) := blk_cell XR.out.box 5
            have q6 : w10.cell? ⟨g10, 6, none⟩ = some (.int .i64 x.f6) := blk_cell XR.out.box 6
            have q7 : w10.cell? ⟨g10, 7, none⟩ = some (.slice P7 x.f7.length d7) := blk_cell XR.out.box 7
            go_wp2_with (first | ((with_reducible refine gate_builtin (b := .append) rfl ?_); refine Classical.byContradiction (fun hcon => ?hstA)) | go_in)
            refine hcon ?_
            clear hcon p1 q0 q1 q2 q3 q4 q5 q6 q7
            refine Kd.R_append k47 (w0 := w10) N rfl _ _ 40 47 (.agg #[(.int .i64 0), (.int .i64 0), (.int .i64 0), (.slice none 0 0), (.int .i64 0), (.int .i64 0), (.int .i64 0), (.slice none 0 0)]) 96 rfl Try.underlying40 (by kernel_rfl) rfl (by decide) (by decide) (.slice PI mI dI) out (turn47 M0 x) [.int .i64 x.f0, .int .i64 x.f1, .int .i64 x.f2, .slice P3 x.f3.length d3, .int .i64 x.f4, .int .i64 x.f5, .int .i64 x.f6, .slice P7 x.f7.length d7] (fun _ => True) _ rfl rfl (M_apart XR.out.made HI.out.row (by decide)) (fun _ h => h) (fun _ _ => trivial) HI.out.row (Below.refl _ _) (Nat.le_trans HI.out.n7 (Nat.le_of_lt (blk_lt HI.out.box))) (by have := HSL.out; have := HINS2.out; omega) ?_
            intro v1 w12 hR1 _ hg1 _
            obtain ⟨P1, m1, d1, rfl⟩ : ∃ P m d, v1 = .slice P m d := let ⟨A, c, h, _⟩ := Kd.R_reads hR1; ⟨_, _, _, h⟩
            have hold := HI.out.old hg1
            have p1 : w12.cell? ⟨g7, 1, none⟩ = some (.slice PI mI dI) := blk_cell hold 1
            have f1 := blk_frozen hold 1
            have HO1 := Aside0.mk (HO.out.append (v1 := .slice P1 m1 d1) HI.out.row hg1 HI.out.n7)
            have HI1 := Aside0.mk (HI.out.append hR1 hg1)
            clear hR1 hg1 hold HO HI XR
            have hbx := HINS2.out
            go_wp2
            go_roundw
            case rel => exact ⟨j + 1, by omega, by go_num, _, HO1.out, by rw [HS1.out]; exact HI1.out.mono (Nat.le_succ j)⟩
            case measure => simp [intOf]; omega
          · have cd : (x.f2 == -1) = false := beq_eq_false_iff_ne.2 hd
            have HD := Aside0.mk hd
            clear hd
            go_upto_region 15 with (fail)
            clear cd q2
            have q0 : w10.cell? ⟨g10, 0, none⟩ = some (.int .i64 x.f0) := blk_cell XR.out.box 0
            have q3 : w10.cell? ⟨g10, 3, none⟩ = some (.slice P3 x.f3.length d3) := blk_cell XR.out.box 3
            by_cases h0 : x.f0 = 1
            · have c0 : (x.f0 == 1) = true := beq_iff_eq.2 h0
              by_cases h3 : x.f3.length = 1
              · obtain ⟨o, ho⟩ := List.length_eq_one_iff.1 h3
                have hmv := movesOf_one (M := M0) h0 ho
                obtain ⟨gx, rfl, y0, y1⟩ := XR.out.arg ho
                have c3 : ((x.f3.length : Int) == 1) = true := by rw [beq_iff_eq]; omega
                have h03 : 0 < x.f3.length := by omega
                have h03' : (0 : Int) < (x.f3.length : Int) := by omega
                have HOO := Aside0.mk ho
                have he := eql49
                clear h0 h3 ho
                by_cases hy : ask M0 o = ⟨0, x.f2⟩
                · have HS1 : Aside0 (stAt bl.f1 (j + 1) = (M0, out)) := ⟨by rw [HST.out]; unfold stepS; rw [if_neg HD.out, if_pos (by rw [hmv, hy])]⟩
                  have e0 : (ask M0 o).f0 = 0 := by rw [hy]
                  have e1 : (ask M0 o).f1 = x.f2 := by rw [hy]
                  rw [e0] at y0
                  rw [e1] at y1
                  have hbx := HINS2.out
                  clear e0 e1 hmv hy
                  go_wp2
                  go_roundw
                  case rel => exact ⟨j + 1, by omega, by go_num, _, HO.out, by rw [HS1.out]; exact HI.out.mono (Nat.le_succ j)⟩
                  case measure => simp [intOf]; omega
                · have HS1 : Aside0 (stAt bl.f1 (j + 1) = (fun q => if q = x.f2 then some (ask M0 o) else writ M0 x.f2 q, out ++ [turn47 M0 x])) := ⟨by rw [HST.out]; unfold stepS; rw [if_neg HD.out, if_neg (by rw [hmv]; intro h; exact hy (Option.some.inj h)), hmv]; rfl⟩
                  have cy : ((ask M0 o).f0 == 0 && ((ask M0 o).f1 == x.f2)) = false := by
                    rw [Bool.and_eq_false_iff, beq_eq_false_iff_ne, beq_eq_false_iff_ne]
                    rcases Classical.em ((ask M0 o).f0 = 0) with h0 | h0
                    · exact .inr (fun h1 => hy (by cases hz : ask M0 o; rw [hz] at h0 h1; simp at h0 h1; rw [h0, h1]))
                    · exact .inl h0
                  clear hmv hy
                  go_wp2_with (fail)
                  refine (written_calls B j M0 x.f2 w10 HI.out.book HX.out.dst).mono ?_
                  rintro e w11 ⟨rfl, hbk', hg'⟩
                  obtain ⟨es', clock', hB'⟩ := HI.out.book.blk
                  replace HO := Aside0.mk (HO.out.turned hg')
                  replace XR := Aside0.mk (XR.out.turned hB' hg')
                  replace HI := Aside0.mk (HI.out.turned hbk' hg')
                  clear hbk' hg' hB'
                  clear q0 q3 y0 y1 cy c0
                  have q3 : w11.cell? ⟨g10, 3, none⟩ = some (.slice (some ⟨gx, 0, none⟩) x.f3.length d3) := blk_cell XR.out.box 3
                  obtain ⟨gx', hgx, y0, y1⟩ := XR.out.arg HOO.out
                  injection hgx with hgx
                  injection hgx with hgx
                  subst hgx
                  generalize ask M0 o = y at *
                  go_upto_region 20 with (first | (at_mapUpdate; refine Classical.byContradiction (fun hcon => ?hstM)) | go_in)
                  refine hcon ?_
                  clear hcon
                  refine mapUpdate_book rfl _ rfl _ _ _ rfl B j (writ M0 x.f2) rfl HI.out.book (by have := HINS2.out; unfold maxLen; omega) x.f2 rfl HX.out.dst y rfl ?_
                  intro w13 hbk3 hg3
                  obtain ⟨es3, clock3, hB3⟩ := HI.out.book.blk
                  replace HO := Aside0.mk (HO.out.turned hg3)
                  replace XR := Aside0.mk (XR.out.turned hB3 hg3)
                  replace HI := Aside0.mk (HI.out.turned hbk3 hg3)
                  clear hbk3 hg3 hB3 q3 y0 y1
                  go_upto_region 20 with (fail)
                  clear c3 h03 h03' he
                  obtain ⟨PI, mI, dI, rfl⟩ : ∃ P m d, VI = .slice P m d := let ⟨A, c, h, _⟩ := Kd.R_reads HI.out.row; ⟨_, _, _, h⟩
                  have p1 : w13.cell? ⟨g7, 1, none⟩ = some (.slice PI mI dI) := blk_cell HI.out.box 1
                  have q0 : w13.cell? ⟨g10, 0, none⟩ = some (.int .i64 x.f0) := blk_cell XR.out.box 0
                  have q1 : w13.cell? ⟨g10, 1, none⟩ = some (.int .i64 x.f1) := blk_cell XR.out.box 1
                  have q2 : w13.cell? ⟨g10, 2, none⟩ = some (.int .i64 x.f2) := blk_cell XR.out.box 2
                  have q3 : w13.cell? ⟨g10, 3, none⟩ = some (.slice (some ⟨gx, 0, none⟩) x.f3.length d3) := blk_cell XR.out.box 3
                  have q4 : w13.cell? ⟨g10, 4, none⟩ = some (.int .i64 x.f4) := blk_cell XR.out.box 4
                  have q5 : w13.cell? ⟨g10, 5, none⟩ = some (.int .i64 x.f5) := blk_cell XR.out.box 5
                  have q6 : w13.cell? ⟨g10, 6, none⟩ = some (.int .i64 x.f6) := blk_cell XR.out.box 6
                  have q7 : w13.cell? ⟨g10, 7, none⟩ = some (.slice P7 x.f7.length d7) := blk_cell XR.out.box 7
                  go_wp2_with (first | ((with_reducible refine gate_builtin (b := .append) rfl ?_); refine Classical.byContradiction (fun hcon => ?hstB)) | go_in)
                  refine hcon ?_
                  clear hcon p1 q0 q1 q2 q3 q4 q5 q6 q7
                  refine Kd.R_append k47 (w0 := w13) N rfl _ _ 40 47 (.agg #[(.int .i64 0), (.int .i64 0), (.int .i64 0), (.slice none 0 0), (.int .i64 0), (.int .i64 0), (.int .i64 0), (.slice none 0 0)]) 96 rfl Try.underlying40 (by kernel_rfl) rfl (by decide) (by decide) (.slice PI mI dI) out (turn47 M0 x) [.int .i64 x.f0, .int .i64 x.f1, .int .i64 x.f2, .slice (some ⟨gx, 0, none⟩) x.f3.length d3, .int .i64 x.f4, .int .i64 x.f5, .int .i64 x.f6, .slice P7 x.f7.length d7] (fun _ => True) _ rfl rfl (M_apart XR.out.made HI.out.row (by decide)) (fun _ h => h) (fun _ _ => trivial) HI.out.row (Below.refl _ _) (Nat.le_trans HI.out.n7 (Nat.le_of_lt (blk_lt HI.out.box))) (by have := HSL.out; have := HINS2.out; omega) ?_
                  intro v1 w12 hR1 _ hg1 _
                  obtain ⟨P1, m1, d1, rfl⟩ : ∃ P m d, v1 = .slice P m d := let ⟨A, c, h, _⟩ := Kd.R_reads hR1; ⟨_, _, _, h⟩
                  have hold := HI.out.old hg1
                  have p1 : w12.cell? ⟨g7, 1, none⟩ = some (.slice PI mI dI) := blk_cell hold 1
                  have f1 := blk_frozen hold 1
                  have HO1 := Aside0.mk (HO.out.append (v1 := .slice P1 m1 d1) HI.out.row hg1 HI.out.n7)
                  have HI1 := Aside0.mk (HI.out.append hR1 hg1)
                  clear hR1 hg1 hold HO HI XR
                  have hbx := HINS2.out
                  go_wp2
                  go_roundw
                  case rel => exact ⟨j + 1, by omega, by go_num, _, HO1.out, by rw [HS1.out]; exact HI1.out⟩
                  case measure => simp [intOf]; omega
              · have hmv := movesOf_len (M := M0) h3
                have HS1 : Aside0 (stAt bl.f1 (j + 1) = (writ M0 x.f2, out ++ [turn47 M0 x])) := ⟨by rw [HST.out]; unfold stepS; rw [if_neg HD.out, if_neg (by rw [hmv]; intro h; cases h), hmv]; rfl⟩
                have c3 : ((x.f3.length : Int) == 1) = false := by rw [beq_eq_false_iff_ne]; omega
                clear h0 h3 hmv
                go_wp2_with (fail)
                refine (written_calls B j M0 x.f2 w10 HI.out.book HX.out.dst).mono ?_
                rintro e w11 ⟨rfl, hbk', hg'⟩
                obtain ⟨es', clock', hB'⟩ := HI.out.book.blk
                replace HO := Aside0.mk (HO.out.turned hg')
                replace XR := Aside0.mk (XR.out.turned hB' hg')
                replace HI := Aside0.mk (HI.out.turned hbk' hg')
                clear hbk' hg' hB'
                clear q0 q3 c0 c3
                go_upto_region 20 with (fail)
                obtain ⟨PI, mI, dI, rfl⟩ : ∃ P m d, VI = .slice P m d := let ⟨A, c, h, _⟩ := Kd.R_reads HI.out.row; ⟨_, _, _, h⟩
                have p1 : w11.cell? ⟨g7, 1, none⟩ = some (.slice PI mI dI) := blk_cell HI.out.box 1
                have q0 : w11.cell? ⟨g10, 0, none⟩ = some (.int .i64 x.f0) := blk_cell XR.out.box 0
                have q1 : w11.cell? ⟨g10, 1, none⟩ = some (.int .i64 x.f1) := blk_cell XR.out.box 1
                have q2 : w11.cell? ⟨g10, 2, none⟩ = some (.int .i64 x.f2) := blk_cell XR.out.box 2
                have q3 : w11.cell? ⟨g10, 3, none⟩ = some (.slice P3 x.f3.length d3) := blk_cell XR.out.box 3
                have q4 : w11.cell? ⟨g10, 4, none⟩ = some (.int .i64 x.f4) := blk_cell XR.out.box 4
                have q5 : w11.cell? ⟨g10, 5, none⟩ = some (.int .i64 x.f5) := blk_cell XR.out.box 5
                have q6 : w11.cell? ⟨g10, 6, none⟩ = some (.int .i64 x.f6) := blk_cell XR.out.box 6
                have q7 : w11.cell? ⟨g10, 7, none⟩ = some (.slice P7 x.f7.length d7) := blk_cell XR.out.box 7
                go_wp2_with (first | ((with_reducible refine gate_builtin (b := .append) rfl ?_); refine Classical.byContradiction (fun hcon => ?hstC)) | go_in)
                refine hcon ?_
                clear hcon p1 q0 q1 q2 q3 q4 q5 q6 q7
                refine Kd.R_append k47 (w0 := w11) N rfl _ _ 40 47 (.agg #[(.int .i64 0), (.int .i64 0), (.int .i64 0), (.slice none 0 0), (.int .i64 0), (.int .i64 0), (.int .i64 0), (.slice none 0 0)]) 96 rfl Try.underlying40 (by kernel_rfl) rfl (by decide) (by decide) (.slice PI mI dI) out (turn47 M0 x) [.int .i64 x.f0, .int .i64 x.f1, .int .i64 x.f2, .slice P3 x.f3.length d3, .int .i64 x.f4, .int .i64 x.f5, .int .i64 x.f6, .slice P7 x.f7.length d7] (fun _ => True) _ rfl rfl (M_apart XR.out.made HI.out.row (by decide)) (fun _ h => h) (fun _ _ => trivial) HI.out.row (Below.refl _ _) (Nat.le_trans HI.out.n7 (Nat.le_of_lt (blk_lt HI.out.box))) (by have := HSL.out; have := HINS2.out; omega) ?_
                intro v1 w12 hR1 _ hg1 _
                obtain ⟨P1, m1, d1, rfl⟩ : ∃ P m d, v1 = .slice P m d := let ⟨A, c, h, _⟩ := Kd.R_reads hR1; ⟨_, _, _, h⟩
                have hold := HI.out.old hg1
                have p1 : w12.cell? ⟨g7, 1, none⟩ = some (.slice PI mI dI) := blk_cell hold 1
                have f1 := blk_frozen hold 1
                have HO1 := Aside0.mk (HO.out.append (v1 := .slice P1 m1 d1) HI.out.row hg1 HI.out.n7)
                have HI1 := Aside0.mk (HI.out.append hR1 hg1)
                clear hR1 hg1 hold HO HI XR
                have hbx := HINS2.out
                go_wp2
                go_roundw
                case rel => exact ⟨j + 1, by omega, by go_num, _, HO1.out, by rw [HS1.out]; exact HI1.out.mono (Nat.le_succ j)⟩
                case measure => simp [intOf]; omega
            · have hmv := movesOf_op (M := M0) h0
              have HS1 : Aside0 (stAt bl.f1 (j + 1) = (writ M0 x.f2, out ++ [turn47 M0 x])) := ⟨by rw [HST.out]; unfold stepS; rw [if_neg HD.out, if_neg (by rw [hmv]; intro h; cases h), hmv]; rfl⟩
              have c0 : (x.f0 == 1) = false := beq_eq_false_iff_ne.2 h0
              clear h0 hmv
              go_wp2_with (fail)
              refine (written_calls B j M0 x.f2 w10 HI.out.book HX.out.dst).mono ?_
              rintro e w11 ⟨rfl, hbk', hg'⟩
              obtain ⟨es', clock', hB'⟩ := HI.out.book.blk
              replace HO := Aside0.mk (HO.out.turned hg')
              replace XR := Aside0.mk (XR.out.turned hB' hg')
              replace HI := Aside0.mk (HI.out.turned hbk' hg')
              clear hbk' hg' hB'
              clear q0 q3 c0
              go_upto_region 20 with (fail)
              obtain ⟨PI, mI, dI, rfl⟩ : ∃ P m d, VI = .slice P m d := let ⟨A, c, h, _⟩ := Kd.R_reads HI.out.row; ⟨_, _, _, h⟩
              have p1 : w11.cell? ⟨g7, 1, none⟩ = some (.slice PI mI dI) := blk_cell HI.out.box 1
              have q0 : w11.cell? ⟨g10, 0, none⟩ = some (.int .i64 x.f0) := blk_cell XR.out.box 0
              have q1 : w11.cell? ⟨g10, 1, none⟩ = some (.int .i64 x.f1) := blk_cell XR.out.box 1
              have q2 : w11.cell? ⟨g10, 2, none⟩ = some (.int .i64 x.f2) := blk_cell XR.out.box 2
              have q3 : w11.cell? ⟨g10, 3, none⟩ = some (.slice P3 x.f3.length d3) := blk_cell XR.out.box 3
              have q4 : w11.cell? ⟨g10, 4, none⟩ = some (.int .i64 x.f4) := blk_cell XR.out.box 4
              have q5 : w11.cell? ⟨g10, 5, none⟩ = some (.int .i64 x.f5) := blk_cell XR.out.box 5
              have q6 : w11.cell? ⟨g10, 6, none⟩ = some (.int .i64 x.f6) := blk_cell XR.out.box 6
              have q7 : w11.cell? ⟨g10, 7, none⟩ = some (.slice P7 x.f7.length d7) := blk_cell XR.out.box 7
              go_wp2_with (first | ((with_reducible refine gate_builtin (b := .append) rfl ?_); refine Classical.byContradiction (fun hcon => ?hstD)) | go_in)
              refine hcon ?_
              clear hcon p1 q0 q1 q2 q3 q4 q5 q6 q7
              refine Kd.R_append k47 (w0 := w11) N rfl _ _ 40 47 (.agg #[(.int .i64 0), (.int .i64 0), (.int .i64 0), (.slice none 0 0), (.int .i64 0), (.int .i64 0), (.int .i64 0), (.slice none 0 0)]) 96 rfl Try.underlying40 (by kernel_rfl) rfl (by decide) (by decide) (.slice PI mI dI) out (turn47 M0 x) [.int .i64 x.f0, .int .i64 x.f1, .int .i64 x.f2, .slice P3 x.f3.length d3, .int .i64 x.f4, .int .i64 x.f5, .int .i64 x.f6, .slice P7 x.f7.length d7] (fun _ => True) _ rfl rfl (M_apart XR.out.made HI.out.row (by decide)) (fun _ h => h) (fun _ _ => trivial) HI.out.row (Below.refl _ _) (Nat.le_trans HI.out.n7 (Nat.le_of_lt (blk_lt HI.out.box))) (by have := HSL.out; have := HINS2.out; omega) ?_
              intro v1 w12 hR1 _ hg1 _
              obtain ⟨P1, m1, d1, rfl⟩ : ∃ P m d, v1 = .slice P m d := let ⟨A, c, h, _⟩ := Kd.R_reads hR1; ⟨_, _, _, h⟩
              have hold := HI.out.old hg1
              have p1 : w12.cell? ⟨g7, 1, none⟩ = some (.slice PI mI dI) := blk_cell hold 1
              have f1 := blk_frozen hold 1
              have HO1 := Aside0.mk (HO.out.append (v1 := .slice P1 m1 d1) HI.out.row hg1 HI.out.n7)
              have HI1 := Aside0.mk (HI.out.append hR1 hg1)
              clear hR1 hg1 hold HO HI XR
              have hbx := HINS2.out
              go_wp2
              go_roundw
              case rel => exact ⟨j + 1, by omega, by go_num, _, HO1.out, by rw [HS1.out]; exact HI1.out.mono (Nat.le_succ j)⟩
              case measure => simp [intOf]; omega
        · obtain rfl : j = bl.f1.length := by omega
          obtain ⟨PI, mI, dI, rfl⟩ : ∃ P m d, VI = .slice P m d := let ⟨A, c, h, _⟩ := Kd.R_reads HI.out.row; ⟨_, _, _, h⟩
          obtain ⟨PO, mO, dO, rfl⟩ : ∃ P m d, VO = .slice P m d := let ⟨A, c, h, _⟩ := Kd.R_reads HO.out.row; ⟨_, _, _, h⟩
          have p2 : wr.cell? ⟨g2, 2, none⟩ = some (.slice PO mO dO) := blk_cell HO.out.out 2
          have q0 : wr.cell? ⟨g7, 0, none⟩ = some (.int .i64 bl.f0) := blk_cell HI.out.box 0
          have q1 : wr.cell? ⟨g7, 1, none⟩ = some (.slice PI mI dI) := blk_cell HI.out.box 1
          have q2 : wr.cell? ⟨g7, 2, none⟩ = some (.slice PN mN dN) := blk_cell HI.out.box 2
          have HINS2 := Aside0.mk HINS.out
          have HLEN := Aside0.mk hlen
          have hMk : k43.M wr w.heap.size (fun q => N ≤ q) (blockS bl) [.int .i64 bl.f0, .slice PI mI dI, .slice PN mN dN] := by
            have h1 := Kd.R_lower (Kd.R_mono (ok' := fun q => N ≤ q) (Kd.R_bound HI.out.row) (fun q hq => hq.2.1)) HO.out.nN
            have h2 := Kd.R_lower (Kd.R_mono (ok' := fun q => N ≤ q) (Kd.R_bound HI.out.nxt) (fun q hq => hq.2.1)) HO.out.nN
            have e : (stAt bl.f1 bl.f1.length).2 = (blockS bl).f1 := by unfold stAt blockS; rw [List.take_length]
            rw [e] at h1
            exact k43_mkM wr w.heap.size _ (blockS bl) h1 h2
          have HMK := Aside0.mk hMk
          clear hMk
          go_wp2_with (first | ((with_reducible refine gate_builtin (b := .append) rfl ?_); refine Classical.byContradiction (fun hcon => ?hstE)) | go_in)
          refine hcon ?_
          clear hcon p2 q0 q1 q2
          refine Kd.R_append k43 (w0 := wr) w.heap.size rfl _ _ 22 43 (.agg #[(.int .i64 0), (.slice none 0 0), (.slice none 0 0)]) 56 rfl Try.underlying22 (by kernel_rfl) rfl (by decide) (by decide) (.slice PO mO dO) ((l.take k).map blockS) (blockS bl) [.int .i64 bl.f0, .slice PI mI dI, .slice PN mN dN] (fun _ => True) _ rfl rfl HMK.out (fun q hq => ⟨trivial, fun he => by have := HO.out.row.1 q he.symm; omega⟩) (fun _ _ => trivial) (Kd.R_mono HO.out.row (fun _ _ => trivial)) ⟨rfl, rfl, rfl, Nat.le_refl _, fun _ _ => rfl⟩ HO.out.bel.size (by have := HLEN.out; rw [List.length_map, List.length_take]; omega) ?_
          intro v1 w12 hR1 _ hg1 _
          obtain ⟨P1, m1, d1, rfl⟩ : ∃ P m d, v1 = .slice P m d := let ⟨A, c, h, _⟩ := Kd.R_reads hR1; ⟨_, _, _, h⟩
          have hold := HO.out.kept hg1
          have p2 : w12.cell? ⟨g2, 2, none⟩ = some (.slice PO mO dO) := blk_cell hold 2
          have f2 := blk_frozen hold 2
          have e : (l.take k).map blockS ++ [blockS bl] = (l.take (k + 1)).map blockS := by
            obtain ⟨hkl, hke⟩ := List.getElem?_eq_some_iff.1 HM.out
            rw [List.take_succ_eq_append_getElem hkl, List.map_append, hke]; rfl
          rw [e] at hR1
          have HP := Aside0.mk (HO.out.push HI.out.book hR1 hg1)
          clear hR1 hg1 hold HO HI HMK e
          go_wp2
          go_roundw
          case rel => exact ⟨k + 1, by omega, by go_num, _, _, _, _, HP.out.1, HP.out.2⟩
          case measure => simp [intOf]; omega
    · obtain rfl : k = l.length := by omega
      obtain ⟨PO, mO, dO, rfl⟩ : ∃ P m d, VO = .slice P m d := let ⟨A, c, h, _⟩ := Kd.R_reads HO.out.row; ⟨_, _, _, h⟩
      have q0 : wr.cell? ⟨g2, 0, none⟩ = some (.int .i64 a) := blk_cell HO.out.out 0
      have q1 : wr.cell? ⟨g2, 1, none⟩ = some (.int .i64 b) := blk_cell HO.out.out 1
      have q2 : wr.cell? ⟨g2, 2, none⟩ = some (.slice PO mO dO) := blk_cell HO.out.out 2
      have p0 : wr.cell? ⟨g1, 0, none⟩ = some (.int .i64 0) := blk_cell HO.out.res 0
      have p1 : wr.cell? ⟨g1, 1, none⟩ = some (.int .i64 0) := blk_cell HO.out.res 1
      have p2 : wr.cell? ⟨g1, 2, none⟩ = some (.slice none 0 0) := blk_cell HO.out.res 2
      have f0 := blk_frozen HO.out.res 0
      have f1 := blk_frozen HO.out.res 1
      have f2 := blk_frozen HO.out.res 2
      go_wp2
      have hE : ∀ a0 a1 a2, ((wr.setCell ⟨g1, 0, none⟩ a0).setCell ⟨g1, 1, none⟩ a1).setCell ⟨g1, 2, none⟩ a2 = set3 wr g1 a0 a1 a2 := fun _ _ _ => rfl
      rw [hE]
      clear hE
      refine bodyPost_ret (results_single (fn := Try.f11) (r := .cell 2 24) rfl (.cell g1 24 #[.int .i64 a, .int .i64 b, .slice PO mO dO] (0, 0) _ rfl (set3_blk HO.out.res _ _ _) Try.underlying24 rfl (by kernel_rfl) .nil)) rfl ?_
      have hr := Kd.R_mono (ok' := fun _ => True) HO.out.row (fun _ _ => trivial)
      rw [List.take_length] at hr
      exact ⟨_, rfl, set3_R hr HO.out.res (by decide) _ _ _, HO.out.bel.grown (set3_grown _ _ _ _ _) HO.out.bel.size (fun q hq => by have := HO.out.n1.2.2; injection hq with hq; omega)⟩
end Go.Proofs.Ytjekpkpmoanadaa.PCop
