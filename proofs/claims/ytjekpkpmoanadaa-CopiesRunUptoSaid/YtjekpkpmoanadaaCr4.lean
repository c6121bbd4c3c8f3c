/- The texts of a claim, one behind the other: Run2S SecRf KnownEv. -/
import Derived.Test.YtjekpkpmoanadaaCr3
/- copies.Run: its contract. For every world. -/
namespace Go.Proofs.Ytjekpkpmoanadaa.PCop
open Go.RowKit Go.Proofs.Ytjekpkpmoanadaa.FarKd Go.Proofs.Ytjekpkpmoanadaa.Lit Go.Proofs.Ytjekpkpmoanadaa.OwnCells Go.Proofs.YtjekpkpmoanadaaW.PrintWords Go.Proofs.YtjekpkpmoanadaaW.PrintLast Go.Proofs.YtjekpkpmoanadaaW.PrintMore
open Go.Maps
set_option linter.unusedVariables false
set_option linter.unusedSimpArgs false
def BoxAt (N : Nat) (cs : Array Value) (t : Nat) (w : World) (v : Value) : Prop := ∃ g, v = .pointer (some ⟨g, 0, none⟩) ∧ N ≤ g ∧ w.heap[g]? = some (.cells cs t (0, 0))
theorem BoxAt.below {N : Nat} {cs : Array Value} {t : Nat} {w w1 : World} {v : Value} (h : BoxAt N cs t w v) (hb : Below w.heap.size w w1) : BoxAt N cs t w1 v := let ⟨g, h1, h2, h3⟩ := h; ⟨g, h1, h2, blk_below h3 hb⟩
def NextRow (l : List Int) (N : Nat) (w : World) (v : Value) : Prop := (Kd.int .i64).R 3 w N (fun _ => True) v l
theorem NextRow.below {l : List Int} {N : Nat} {w w1 : World} {v : Value} (h : NextRow l N w v) (hb : Below w.heap.size w w1) : NextRow l N w1 v := Kd.R_below h hb
def set3 (w : World) (g : Nat) (a0 a1 a2 : Value) : World := ((w.setCell ⟨g, 0, none⟩ a0).setCell ⟨g, 1, none⟩ a1).setCell ⟨g, 2, none⟩ a2
theorem set3_grown (w : World) (g : Nat) (a0 a1 a2 : Value) : w.grownBy (set3 w g a0 a1 a2) (some g) := by
  unfold set3
  have h : ∀ {a b : World} (hg : a.grownBy b (some g)) (j : Nat) (v : Value), a.grownBy (b.setCell ⟨g, j, none⟩ v) (some g) := fun hg j v => hg.andThen (setCell_grown _ g j v) (fun q hq => Or.inr hq)
  exact h (h (setCell_grown w g 0 a0) 1 a1) 2 a2
theorem set3_blk {w : World} {g : Nat} {t : TypeId} {x0 x1 x2 : Value} (h : w.heap[g]? = some (.cells #[x0, x1, x2] t (0, 0))) (a0 a1 a2 : Value) : (set3 w g a0 a1 a2).heap[g]? = some (.cells #[a0, a1, a2] t (0, 0)) := by
  have h0 := blk_put h 0 a0 (cs' := #[a0, x1, x2]) rfl
  have h1 := blk_put h0 1 a1 (cs' := #[a0, a1, x2]) rfl
  exact blk_put h1 2 a2 (cs' := #[a0, a1, a2]) rfl
theorem set3_R {α : Type} {d : Kd α} {e base : Nat} {w : World} {v : Value} {xs : List α} (h : d.R e w base (fun _ => True) v xs) {g t : Nat} {cells : Array Value} (hb : w.heap[g]? = some (.cells cells t (0, 0))) (ht : ∀ q, q ∈ e :: d.E → q ≠ t) (a0 a1 a2 : Value) : d.R e (set3 w g a0 a1 a2) base (fun _ => True) v xs :=
  Kd.R_mono (Kd.R_grown (Kd.R_types h hb ht) (set3_grown w g a0 a1 a2) (fun k hk he => hk.2 (by injection he))) (fun _ _ => trivial)
theorem set3_S {α : Type} {d : Kd α} {e base : Nat} {w : World} {v : Value} {xs : List α} (h : Kd.S d e w base (fun _ => True) v xs) {g t : Nat} {cells : Array Value} (hb : w.heap[g]? = some (.cells cells t (0, 0))) (ht : ∀ q, q ∈ e :: d.E → q ≠ t) (a0 a1 a2 : Value) : Kd.S d e (set3 w g a0 a1 a2) base (fun _ => True) v xs :=
  Kd.S_mono (Kd.S_grown (Kd.S_types h hb ht) (set3_grown w g a0 a1 a2) (fun k hk he => hk.2 (by injection he))) (fun _ _ => trivial)
def stAt (l : List S47) (j : Nat) : Map49 × List S47 := (l.take j).foldl stepS (noMap, [])
theorem stAt_succ {l : List S47} {j : Nat} {x : S47} (h : l[j]? = some x) : stAt l (j + 1) = stepS (stAt l j) x := by
  obtain ⟨hj, rfl⟩ := List.getElem?_eq_some_iff.1 h
  unfold stAt
  rw [List.take_succ_eq_append_getElem hj, List.foldl_append]
  rfl
theorem stepS_len (st : Map49 × List S47) (x : S47) : (stepS st x).2.length ≤ st.2.length + 1 := by
  unfold stepS
  split
  · simp
  · split
    · omega
    · simp
theorem stAt_len (l : List S47) : ∀ j, (stAt l j).2.length ≤ j := by
  intro j
  induction j with
  | zero => simp [stAt]
  | succ j ih =>
    cases h : l[j]? with
    | none =>
      have : l.take (j + 1) = l.take j := by
        have := List.getElem?_eq_none_iff.1 h
        rw [List.take_of_length_le (by omega), List.take_of_length_le this]
      unfold stAt at ih ⊢
      rw [this]; omega
    | some x =>
      rw [stAt_succ h]
      have := stepS_len (stAt l j) x
      omega
/-- an instruction at its sources, its rows -/
structure XRow (M : Map49) (x : S47) (P3 : Option Addr) (d3 : Nat) (P7 : Option Addr) (d7 N K m g10 : Nat) (w : World) : Prop where
  r3 : k49.R 49 w N (fun b => K ≤ b ∧ b < m) (.slice P3 x.f3.length d3) (x.f3.map (ask M))
  r7 : Kd.S k65 65 w N (fun b => K ≤ b ∧ ¬ b < m) (.slice P7 x.f7.length d7) (x.f7.map (turn65 M))
  box : w.heap[g10]? = some (.cells #[.int .i64 x.f0, .int .i64 x.f1, .int .i64 x.f2, .slice P3 x.f3.length d3, .int .i64 x.f4, .int .i64 x.f5, .int .i64 x.f6, .slice P7 x.f7.length d7] 47 (0, 0))
theorem XRow.below {M : Map49} {x : S47} {P3 : Option Addr} {d3 : Nat} {P7 : Option Addr} {d7 N K m g10 : Nat} {w w1 : World} (h : XRow M x P3 d3 P7 d7 N K m g10 w) (hb : Below w.heap.size w w1) : XRow M x P3 d3 P7 d7 N K m g10 w1 := ⟨Kd.R_below h.r3 hb, Kd.S_below h.r7 hb, blk_below h.box hb⟩
theorem XRow.turned {M : Map49} {x : S47} {P3 : Option Addr} {d3 : Nat} {P7 : Option Addr} {d7 N K m g10 B : Nat} {w w1 : World} (h : XRow M x P3 d3 P7 d7 N K m g10 w) {es : Array MapEntry} {clock : Nat} (hB : w.heap[B]? = some (.map es clock)) (hg : w.grownBy w1 (some B)) : XRow M x P3 d3 P7 d7 N K m g10 w1 :=
  ⟨Kd.R_mono (Kd.R_grown (R_nomap h.r3 hB) hg (fun k hk he => hk.2.2 (by injection he))) (fun _ hk => hk.1), Kd.S_mono (Kd.S_grown (S_nomap h.r7 hB) hg (fun k hk he => hk.2.2 (by injection he))) (fun _ hk => hk.1),
    blk_grown h.box hg (fun he => by injection he with he; have h1 := h.box; rw [he, hB] at h1; cases h1)⟩
theorem XRow.made {M : Map49} {x : S47} {P3 : Option Addr} {d3 : Nat} {P7 : Option Addr} {d7 N K m g10 : Nat} {w : World} (h : XRow M x P3 d3 P7 d7 N K m g10 w) : kA47.M w N (fun b => K ≤ b) (turn47 M x) [.int .i64 x.f0, .int .i64 x.f1, .int .i64 x.f2, .slice P3 x.f3.length d3, .int .i64 x.f4, .int .i64 x.f5, .int .i64 x.f6, .slice P7 x.f7.length d7] := kA47_mkM w N (fun b => K ≤ b) (fun b => b < m) (turn47 M x) h.r3 h.r7
theorem Inner.old {pc : Int} {next : List Int} {M : Map49} {out : List S47} {j B N K g7 : Nat} {VI VN : Value} {w w1 : World} (h : Inner pc next M out j B N K g7 VI VN w) (hg : w.grownBy w1 VI.ownBlock) : w1.heap[g7]? = some (.cells #[.int .i64 pc, VI, VN] 43 (0, 0)) := blk_grown h.box hg (own_ne (Kd.S_R h.row) h.box (by decide))
theorem Inner.append {pc : Int} {next : List Int} {M : Map49} {out out' : List S47} {j B N K g7 : Nat} {VI VN v1 : Value} {w w1 : World} (h : Inner pc next M out j B N K g7 VI VN w) (hR : Kd.S kA47 47 w1 N (fun _ => True) v1 out') (hg : w.grownBy w1 VI.ownBlock) : Inner pc next M out' j B N w1.heap.size g7 v1 VN (w1.setCell ⟨g7, 1, none⟩ v1) := by
  obtain ⟨es, clock, hB⟩ := h.book.blk
  have hbox := h.old hg
  have hn := Kd.R_grown (R_apart h.nxt (Kd.S_R h.row) (by decide)) hg (fun k hk he => hk.2 he)
  refine ⟨(h.book.kept hg (own_no_map (Kd.S_R h.row) hB)).kept (setCell_grown w1 g7 1 v1) (fun he => ?_), Kd.S_set (Kd.S_mono (Kd.S_bound hR) (fun k hk => hk.2.2.1)) hbox (by decide) 1 v1, Kd.R_set (Kd.R_mono hn (fun _ _ => trivial)) hbox (by decide) 1 v1, blk_put hbox 1 v1 rfl, h.n7⟩
  injection he with he
  have h1 := h.box
  rw [← he, hB] at h1
  cases h1
theorem Outer.append {a b : Int} {done : List S43} {w0 : World} {B g1 g2 N g7 : Nat} {VO VI v1 : Value} {out : List S47} {w w1 : World} (h : Outer a b done w0 B g1 g2 N VO w) {okv : Nat → Prop} (hr : Kd.S kA47 47 w N okv VI out) (hg : w.grownBy w1 VI.ownBlock) (h7 : N ≤ g7) : Outer a b done w0 B g1 g2 N VO (w1.setCell ⟨g7, 1, none⟩ v1) := by
  obtain ⟨inner, ho⟩ := Kd.S_own hr
  exact (h.but ((But.of_grown hg).mono (fun k hk => Or.inl (own_base ho k hk)))).but ((But.of_grown (setCell_grown w1 g7 1 v1)).mono (fun k hk => Or.inl (by have := Option.some.inj hk; omega)))
theorem Outer.turned {a b : Int} {done : List S43} {w0 : World} {B g1 g2 N : Nat} {VO : Value} {w w1 : World} (h : Outer a b done w0 B g1 g2 N VO w) (hg : w.grownBy w1 (some B)) : Outer a b done w0 B g1 g2 N VO w1 := h.but ((But.of_grown hg).mono (fun k hk => Or.inr (Option.some.inj hk).symm))
theorem XRow.arg {M : Map49} {x : S47} {P3 : Option Addr} {d3 : Nat} {P7 : Option Addr} {d7 N K m g10 : Nat} {w : World} (h : XRow M x P3 d3 P7 d7 N K m g10 w) {o : S49} (ho : x.f3 = [o]) : ∃ gx, P3 = some ⟨gx, 0, none⟩ ∧ w.cell? ⟨gx, 0, none⟩ = some (.int .i64 (ask M o).f0) ∧ w.cell? ⟨gx, 1, none⟩ = some (.int .i64 (ask M o).f1) := by
  have h3 := h.r3
  rw [ho] at h3
  obtain ⟨_, inner, hw, _⟩ := h.r3
  obtain ⟨ad, rfl, q0, q1⟩ := at_T49 (Kd.R_reads' h3).2.2 0 (by decide) (by simp)
  rcases hw.2 with ⟨he, _⟩ | ⟨g, cap, cur, he, _⟩
  · injection he with h1; cases h1
  · injection he with h1
    injection h1 with h1
    subst h1
    exact ⟨g, rfl, q0, q1⟩
theorem movesOf_one {M : Map49} {x : S47} {o : S49} (h0 : x.f0 = 1) (ho : x.f3 = [o]) : movesOf (turn47 M x) = some (ask M o) := by
  unfold movesOf turn47
  simp [h0, ho]
theorem movesOf_op {M : Map49} {x : S47} (h0 : x.f0 ≠ 1) : movesOf (turn47 M x) = none := by
  unfold movesOf turn47
  simp [h0]
theorem movesOf_len {M : Map49} {x : S47} (h0 : x.f3.length ≠ 1) : movesOf (turn47 M x) = none := by
  unfold movesOf turn47
  rcases h : x.f3 with _ | ⟨o, _ | ⟨o2, r⟩⟩
  · simp
  · rw [h] at h0; exact absurd rfl h0
  · simp
theorem Outer.kept {a b : Int} {done : List S43} {w0 : World} {B g1 g2 N : Nat} {VO : Value} {w w1 : World} (h : Outer a b done w0 B g1 g2 N VO w) (hg : w.grownBy w1 VO.ownBlock) : w1.heap[g2]? = some (.cells #[.int .i64 a, .int .i64 b, VO] 24 (0, 0)) := blk_grown h.out hg (own_ne (Kd.S_R h.row) h.out (by decide))
theorem Outer.push {a b : Int} {done done' : List S43} {w0 : World} {B g1 g2 N n : Nat} {M : Map49} {VO v1 : Value} {w w1 : World} (h : Outer a b done w0 B g1 g2 N VO w) (hbk : Book w B n M) (hR : Kd.S kA43 43 w1 w0.heap.size (fun _ => True) v1 done') (hg : w.grownBy w1 VO.ownBlock) :
    Outer a b done' w0 B g1 g2 w1.heap.size v1 (w1.setCell ⟨g2, 2, none⟩ v1) ∧ Book (w1.setCell ⟨g2, 2, none⟩ v1) B n M := by
  obtain ⟨es, clock, hB⟩ := hbk.blk
  have hout := h.kept hg
  have hbk1 := hbk.kept hg (own_no_map (Kd.S_R h.row) hB)
  have hbk2 := hbk1.kept (setCell_grown w1 g2 2 v1) (fun he => h.n2.2.1 (Option.some.inj he).symm)
  obtain ⟨es', clock', hB'⟩ := hbk2.blk
  have hr := S_nomap (Kd.S_set hR hout (by decide) 2 v1) hB'
  have hsz : (w1.setCell ⟨g2, 2, none⟩ v1).heap.size = w1.heap.size := by simp [World.setCell]
  rw [hsz] at hr
  have h1 := blk_grown h.res hg (own_ne (Kd.S_R h.row) h.res (by decide))
  have hne := h.ne
  refine ⟨⟨Kd.S_mono hr (fun k hk => ⟨hk.2.1, hk.2.2⟩), blk_far h1 (p := ⟨g2, 2, none⟩) hne _, blk_put hout 2 v1 rfl, ?_, ⟨?_, h.n1.2⟩, ⟨?_, h.n2.2⟩, h.nB, ?_, h.ne⟩, hbk2⟩
  · have hb : Below w0.heap.size w0 w1 := h.bel.grown hg h.bel.size (fun k hk => by
      obtain ⟨inner, ho⟩ := Kd.S_own h.row
      exact own_base ho k hk)
    exact below_set hb h.n2.2.2
  · exact blk_lt h1
  · exact blk_lt hout
  · exact Nat.le_trans h.bel.size hg.size
def dT7 : Nat → Option Tmp
  | 0 => some 27
  | 1 => some 28
  | 2 => some 29
  | 3 => some 30
  | 4 => some 31
  | 5 => some 32
  | 6 => some 7
  | _ => none
def FT7 (bl : S43) (N N5 : Nat) (AN : Option Addr) (cN : Nat) : Nat → World → Value → Prop
  | 0, _, v => v = .pointer (some ⟨N, 0, none⟩)
  | 1, _, v => v = .int .i64 bl.f0
  | 2, _, v => v = .pointer (some ⟨N, 2, none⟩)
  | 3, _, v => v = .slice AN bl.f2.length cN
  | 4, w, v => NextRow bl.f2 N w v
  | 5, w, v => ∃ u, v = .agg #[.int .i64 bl.f0, .slice none 0 0, u] ∧ NextRow bl.f2 N w u
  | 6, w, v => BoxAt N5 #[.int .i64 0, .slice none 0 0, .slice none 0 0] 43 w v
  | _, _, _ => True
theorem FT7_below (bl : S43) (N N5 : Nat) (AN : Option Addr) (cN : Nat) (i : Nat) (w w1 : World) (v : Value) (h : FT7 bl  N N5  AN  cN  i w v) (hb : Below w.heap.size w w1) : FT7 bl  N N5  AN  cN  i w1 v := by
  match i with
  | 0 | 1 | 2 | 3 => exact h
  | 5 => obtain ⟨u, h1, h2⟩ := h; exact ⟨u, h1, h2.below hb⟩
  | 4 | 6 => exact h.below hb
  | (n + 7) => exact h
set_option maxHeartbeats 8000000 in
set_option maxRecDepth 100000 in
theorem run_calls (a b : Int) (A2 : Option Addr) (c2 : Nat) (l : List S43) (w : World) (hA : k43.C w A2 l.length l) (hok : OkL l) :
    Calls Try.prog 11 #[.agg #[.int .i64 a, .int .i64 b, .slice A2 l.length c2]] w fun e w' => ∃ v, e = .returned (.agg #[.int .i64 a, .int .i64 b, v]) ∧ Kd.S kA43 43 w' w.heap.size (fun _ => True) v (runS l) ∧ Below w.heap.size w w' := by
  have HA := Aside0.mk hA
  have HOK := Aside0.mk hok
  have hlen := hok.len
  clear hA hok
  have hmm := @run_makeMap Try.prog
  go_enter Try.func11, Try.ntmps11
  go_upto_region 1 with (fail)
  have hbx := e4 w (.cells #[.int .i64 a, .int .i64 b, .slice A2 l.length c2] 24) (.cells #[.int .i64 0, .int .i64 0, .slice none 0 0] 24)
  have K0 := blk_alloc (blk_new w (.cells #[.int .i64 a, .int .i64 b, .slice A2 l.length c2] 24)) (.cells #[.int .i64 0, .int .i64 0, .slice none 0 0] 24)
  have K1 := blk_new (w.alloc (.cells #[.int .i64 a, .int .i64 b, .slice A2 l.length c2] 24)) (.cells #[.int .i64 0, .int .i64 0, .slice none 0 0] 24)
  rw [World.size_alloc] at K1
  generalize (w.alloc (.cells #[.int .i64 a, .int .i64 b, .slice A2 l.length c2] 24)).alloc (.cells #[.int .i64 0, .int .i64 0, .slice none 0 0] 24) = w1 at *
  have HG0 := Aside0.mk (Nat.le_refl w.heap.size)
  have HG1 := Aside0.mk (Nat.lt_succ_self w.heap.size)
  rw [Nat.succ_eq_add_one] at HG1
  generalize w.heap.size + 1 = g1 at *
  obtain ⟨g0, hg0⟩ : ∃ g0, g0 = w.heap.size := ⟨_, rfl⟩
  rw [← hg0] at K0 ⊢
  have HE0 := Aside0.mk hg0
  have HBX := Aside0.mk hbx
  clear hg0 hbx HG0
  have q0 : w1.cell? ⟨g0, 0, none⟩ = some (.int .i64 a) := blk_cell K0 0
  have q1 : w1.cell? ⟨g0, 1, none⟩ = some (.int .i64 b) := blk_cell K0 1
  have HK0 := Aside0.mk K0
  have HK1 := Aside0.mk K1
  clear K0 K1
  go_upto_region 2 with (fail)
  clear q0 q1
  have hb2 := below_alloc (Below.refl _ w1) (.cells #[.int .i64 a, .int .i64 b, .slice none 0 0] 24)
  have K2 := blk_new w1 (.cells #[.int .i64 a, .int .i64 b, .slice none 0 0] 24)
  have hg1l := blk_lt HK1.out
  replace HK0 := Aside0.mk (blk_below HK0.out hb2)
  replace HK1 := Aside0.mk (blk_below HK1.out hb2)
  have HB2 := Aside0.mk (wB HBX.out hb2)
  have G2 := Aside0.mk (show g1 < w1.heap.size ∧ w.heap.size ≤ w1.heap.size from ⟨hg1l, HBX.out.size⟩)
  clear hb2 hg1l
  generalize w1.alloc (.cells #[.int .i64 a, .int .i64 b, .slice none 0 0] 24) = w2 at *
  generalize w1.heap.size = g2 at *
  go_upto_region 3 with (fail)
  have hb3 := below_alloc (Below.refl _ w2) (.map #[] 0)
  have HO0 : Outer a b [] w w2.heap.size g1 g2 (w2.alloc (.map #[] 0)).heap.size (.slice none 0 0) (w2.alloc (.map #[] 0)) :=
    ⟨Kd.S_nil _ _ _ _ _, blk_below HK1.out hb3, blk_below K2 hb3, wB HB2.out hb3, by have h1 := G2.out.1; have h2 := blk_lt K2; have h3 := HG1.out; rw [World.size_alloc]; omega, by have h1 := G2.out.2; have h2 := blk_lt K2; rw [World.size_alloc]; omega, HB2.out.size, (wB HB2.out hb3).size, Nat.ne_of_lt G2.out.1⟩
  have HO := Aside0.mk HO0
  have HBK := Aside0.mk (Book.made (w := w2))
  replace HK0 := Aside0.mk (blk_below HK0.out hb3)
  clear hb3 HO0 K2 HK1
  generalize w2.alloc (.map #[] 0) = w3 at *
  generalize w2.heap.size = B at *
  have q2 : w3.cell? ⟨g0, 2, none⟩ = some (.slice A2 l.length c2) := blk_cell HK0.out 2
  go_wp2_with (fail)
  clear q2
  go_loopw [22] (fun t wr => ∃ k : Nat, k ≤ l.length ∧ t = .int .i64 k ∧ ∃ (VO : Value) (N nb : Nat) (M : Map49), Outer a b ((l.take k).map blockS) w B g1 g2 N VO wr ∧ Book wr B nb M) (fun t _ => l.length - (intOf t).toNat)
  case atStart => exact ⟨0, Nat.zero_le _, rfl, _, _, _, _, HO.out, HBK.out⟩
  case round =>
    clear HO HBK
    obtain ⟨k, hk, rfl, VO, N0, nb, M, ho0, hbk⟩ := hrel
    obtain ⟨es, clock, hB⟩ := hbk.blk
    have HO := Aside0.mk (ho0.round hB)
    have HBK := Aside0.mk hbk
    have HBN := Aside0.mk (blk_lt hB)
    clear ho0 hbk hB
    by_cases hlt : k < l.length
    · obtain ⟨ad, AI, cI, AN, cN, rfl, x0, x1, x2, _, gI, _, gN⟩ := at_T43 HA.out (k : Int) (by omega) (by omega)
      have hm : l[k]? = some (rd_T43 l (k : Int)) := by
        unfold rd_T43
        rw [Int.toNat_natCast, List.getD_eq_getElem?_getD, List.getElem?_eq_getElem hlt]; rfl
      have hmem := List.mem_of_getElem? hm
      have hins := HOK.out.ins _ hmem
      have hnext := HOK.out.next _ hmem
      have heach := HOK.out.each _ hmem
      rw [Int.toNat_natCast] at x0 x1 x2
      replace x0 := pw_cell_below HO.out.bel x0
      replace x1 := pw_cell_below HO.out.bel x1
      replace x2 := pw_cell_below HO.out.bel x2
      generalize rd_T43 l (k : Int) = bl at *
      have HM := Aside0.mk hm
      have GI := Aside0.mk gI
      have GN := Aside0.mk gN
      have HINS := Aside0.mk hins
      have HNEXT := Aside0.mk hnext
      have HEACH := Aside0.mk heach
      clear hm gI gN hins hnext heach hmem
      go_upto_region 6 with (fail)
      have hb3 := below_alloc (Below.refl _ wr) (.cells #[.int .i64 bl.f0, .slice AI bl.f1.length cI, .slice AN bl.f2.length cN] 43)
      have K6 := blk_new wr (.cells #[.int .i64 bl.f0, .slice AI bl.f1.length cI, .slice AN bl.f2.length cN] 43)
      replace HO := Aside0.mk (HO.out.below hb3)
      replace HBK := Aside0.mk (HBK.out.below hb3)
      have HN := Aside0.mk hb3.size
      clear hb3 x0 x1 x2
      generalize wr.alloc (.cells #[.int .i64 bl.f0, .slice AI bl.f1.length cI, .slice AN bl.f2.length cN] 43) = w4 at *
      generalize wr.heap.size = N at *
      have HK6 := Aside0.mk K6
      clear K6
      go_upto_region 7 with (first | ((with_reducible refine gate_builtin (b := .clear) rfl ?_); refine Classical.byContradiction (fun hcon => ?hst)) | go_in)
      refine hcon ?_
      clear hcon
      refine clear_book rfl _ rfl _ rfl B nb M rfl HBK.out ?_
      intro w5 hbk5 hg5
      have hb5 : But (fun q => q = B) w4 w5 := (But.of_grown hg5).mono (fun q hq => (Option.some.inj hq).symm)
      replace HO := Aside0.mk (HO.out.but (hb5.mono (fun q hq => Or.inr hq)))
      replace HBK := Aside0.mk hbk5
      replace HK6 := Aside0.mk (blk_but HK6.out hb5 (by have := HBN.out; omega))
      replace HN := Aside0.mk (Nat.le_trans HN.out hb5.size)
      clear hbk5 hg5 hb5
      have X0 : ∀ w8, Below w5.heap.size w5 w8 → w8.cell? ⟨N, 0, none⟩ = some (.int .i64 bl.f0) := fun w8 b => blk_cell (blk_below HK6.out b) 0
      have X2 : ∀ w8, Below w5.heap.size w5 w8 → w8.cell? ⟨N, 2, none⟩ = some (.slice AN bl.f2.length cN) := fun w8 b => blk_cell (blk_below HK6.out b) 2
      have XX := Aside0.mk (And.intro X0 (And.intro X2 (And.intro GN.out HO.out.bel)))
      clear X0 X2
      go_wp2_with (fail)
      rename_i hK
      refine RegInv.region_last2 (by kernel_rfl) (by kernel_rfl) (fun a b => Below a.heap.size a b) (fun a b c h k => wB h k) (below_drew1 (Below.refl _ _)) dT7 7 (by kernel_rfl) (by kernel_rfl) (by kernel_rfl) (by kernel_rfl) (FT7 bl N w5.heap.size AN cN) (FT7_below bl N w5.heap.size AN cN) ?hsT7 ?heT7
      case hsT7 =>
        clear hK
        intro i o a w8 hlt hi hM
        obtain ⟨X0, X2, _⟩ := XX.out
        rcases i with _ | _ | _ | _ | _ | _ | _ | i
        · cases hi
          have h0 := gdq _ _ _ (show a.tmps.getD 6 undef = .pointer (some ⟨N, 0, none⟩) from hM.off 6 (by kernel_rfl))
          refine RegInv.op_value (by rfl) rfl (v := .pointer (some ⟨N, 0, none⟩)) (w' := w8) ?_ ⟨_, rfl, rfl, Below.refl _ _⟩
          unfold execOp
          go_simp
        · cases hi
          have h0 := gdq _ _ _ (show a.tmps.getD 27 undef = .pointer (some ⟨N, 0, none⟩) from hM.at_ 0 (by decide) (by kernel_rfl))
          have y := X0 w8 hM.ext
          refine RegInv.op_value (by rfl) rfl (v := .int .i64 bl.f0) (w' := w8) ?_ ⟨_, rfl, rfl, Below.refl _ _⟩
          unfold execOp
          go_simp
        · cases hi
          have h0 := gdq _ _ _ (show a.tmps.getD 6 undef = .pointer (some ⟨N, 0, none⟩) from hM.off 6 (by kernel_rfl))
          refine RegInv.op_value (by rfl) rfl (v := .pointer (some ⟨N, 2, none⟩)) (w' := w8) ?_ ⟨_, rfl, rfl, Below.refl _ _⟩
          unfold execOp
          go_simp
        · cases hi
          have h0 := gdq _ _ _ (show a.tmps.getD 29 undef = .pointer (some ⟨N, 2, none⟩) from hM.at_ 2 (by decide) (by kernel_rfl))
          have y := X2 w8 hM.ext
          refine RegInv.op_value (by rfl) rfl (v := .slice AN bl.f2.length cN) (w' := w8) ?_ ⟨_, rfl, rfl, Below.refl _ _⟩
          unfold execOp
          go_simp
        · cases hi
          have h0 := gdq _ _ _ (show a.tmps.getD 30 undef = .slice AN bl.f2.length cN from hM.at_ 3 (by decide) (by kernel_rfl))
          refine RegInv.op_call (by rfl) rfl Try.func27 (by kernel_rfl) rfl rfl #[.slice AN bl.f2.length cN] (by simp [Act.eval, h0]) ?_
          refine (clone_ints AN cN bl.f2 w8 (Kd.C_below XX.out.2.2.1 (wB XX.out.2.2.2 hM.ext)) (Nat.le_trans HNEXT.out (by decide))).mono ?_
          rintro e w9 ⟨v, rfl, hr, b⟩
          exact ⟨_, rfl, _, rfl, (Kd.R_lower hr (Nat.le_trans HN.out hM.ext.size)), b⟩
        · cases hi
          obtain ⟨u, hu⟩ : ∃ u, a.tmps.getD 31 undef = u := ⟨_, rfl⟩
          have h0 := gdq _ _ _ (show a.tmps.getD 28 undef = .int .i64 bl.f0 from hM.at_ 1 (by decide) (by kernel_rfl))
          have hn : NextRow bl.f2 N w8 u := hu ▸ (show NextRow bl.f2 N w8 (a.tmps.getD 31 undef) from hM.at_ 4 (by decide) (by kernel_rfl))
          have h1 := gdq _ _ _ hu
          obtain ⟨P, m, d, rfl⟩ : ∃ P m d, u = .slice P m d := let ⟨A, c, h, _⟩ := Kd.R_reads hn; ⟨_, _, _, h⟩
          refine RegInv.op_value (by rfl) rfl (v := .agg #[.int .i64 bl.f0, .slice none 0 0, .slice P m d]) (w' := w8) ?_ ⟨_, rfl, ⟨_, rfl, hn⟩, Below.refl _ _⟩
          clear hn hu
          unfold execOp
          go_simp
        · cases hi
          refine RegInv.op_value (by rfl) rfl (v := .pointer (some ⟨w8.heap.size, 0, none⟩)) (w' := w8.alloc (.cells #[.int .i64 0, .slice none 0 0, .slice none 0 0] 43)) ?_ ⟨_, rfl, ⟨_, rfl, hM.ext.size, blk_new _ _⟩, below_alloc (Below.refl _ _) _⟩
          unfold execOp
          go_simp
        · exact absurd hlt (by omega)
      intro vs w6 hb6 hF
      obtain ⟨g7, e6, hg75, K7⟩ : BoxAt w5.heap.size #[.int .i64 0, .slice none 0 0, .slice none 0 0] 43 w6 (vs 6) := hF 6 (by omega)
      obtain ⟨VN, e5, hvn⟩ : ∃ u, vs 5 = .agg #[.int .i64 bl.f0, .slice none 0 0, u] ∧ NextRow bl.f2 N w6 u := hF 5 (by omega)
      clear hF
      have hg7 : N ≤ g7 := Nat.le_trans HN.out hg75
      have hgN : N ≠ g7 := fun he => by have := blk_lt HK6.out; omega
      simp only [RegInv.puts, dT7, Act.put, List.range, List.range.loop, List.setIfInBounds_toArray, List.set_cons_zero, List.set_cons_succ]
      obtain ⟨PN, mN, dN, rfl⟩ : ∃ P m d, VN = .slice P m d := let ⟨A, c, h, _⟩ := Kd.R_reads hvn; ⟨_, _, _, h⟩
      rw [e6, e5]
      clear e6 e5
      have c0' : w6.cell? ⟨g7, 0, none⟩ = some (.int .i64 0) := blk_cell K7 0
      have c1' : w6.cell? ⟨g7, 1, none⟩ = some (.slice none 0 0) := blk_cell K7 1
      have c2' : w6.cell? ⟨g7, 2, none⟩ = some (.slice none 0 0) := blk_cell K7 2
      have f0' : w6.frozen? ⟨g7, 0, none⟩ = false := blk_frozen K7 0
      have f1' : w6.frozen? ⟨g7, 1, none⟩ = false := blk_frozen K7 1
      have f2' : w6.frozen? ⟨g7, 2, none⟩ = false := blk_frozen K7 2
      refine RegInv.op_skip (by rfl) rfl (w' := set3 w6 g7 (.int .i64 bl.f0) (.slice none 0 0) (.slice PN mN dN)) ?run ?_
      case run =>
        unfold execOp set3
        go_simp
      clear c0' c1' c2' f0' f1' f2'
      have hb7 : But (fun q => N ≤ q ∨ q = B) w5 (set3 w6 g7 (.int .i64 bl.f0) (.slice none 0 0) (.slice PN mN dN)) := ((But.of_below hb6).mono (fun _ hf => hf.elim)).trans ((But.of_grown (set3_grown w6 g7 _ _ _)).mono (fun q hq => Or.inl (by have := Option.some.inj hq; omega))) (fun q hq => Or.inl hq)
      have HI : Inner bl.f0 bl.f2 noMap [] 0 B N 0 g7 (.slice none 0 0) (.slice PN mN dN) (set3 w6 g7 (.int .i64 bl.f0) (.slice none 0 0) (.slice PN mN dN)) :=
        ⟨(HBK.out.below hb6).kept (set3_grown w6 g7 _ _ _) (fun he => by injection he with he; have := HBN.out; omega), Kd.S_nil _ _ _ _ _, set3_R hvn K7 (by decide) _ _ _, set3_blk K7 _ _ _, hg7⟩
      replace HO := Aside0.mk (HO.out.but hb7)
      replace HI := Aside0.mk HI
      have K6 := blk_but (blk_below HK6.out hb6) (But.of_grown (set3_grown w6 g7 (.int .i64 bl.f0) (.slice none 0 0) (.slice PN mN dN))) (fun he => hgN (Option.some.inj he).symm)
      clear hb7 hb6 hg7 hg75 hgN hvn K7 XX HBK
      have HK6 := Aside0.mk K6
      clear K6
      generalize set3 w6 g7 (.int .i64 bl.f0) (.slice none 0 0) (.slice PN mN dN) = w7 at *
      generalize vs 0 = t0
      generalize vs 1 = t1
      generalize vs 2 = t2
      generalize vs 3 = t3
      generalize vs 4 = t4
      refine hK _ _ ?_
      clear hK
      have q1 : w7.cell? ⟨N, 1, none⟩ = some (.slice AI bl.f1.length cI) := blk_cell HK6.out 1
      have hli := HINS.out
      go_wp2_with (fail)
      clear q1 hli HK6
      go_loopw [36] (fun t wr => ∃ j : Nat, j ≤ bl.f1.length ∧ t = .int .i64 j ∧ ∃ VI K, Outer a b ((l.take k).map blockS) w B g1 g2 N VO wr ∧ Inner bl.f0 bl.f2 (stAt bl.f1 j).1 (stAt bl.f1 j).2 j B N K g7 VI (.slice PN mN dN) wr) (fun t _ => bl.f1.length - (intOf t).toNat)
      case atStart => exact ⟨0, Nat.zero_le _, rfl, _, _, HO.out, HI.out⟩
      case round =>
        clear HO HI HN HK0
        obtain ⟨j, hj, rfl, VI, K0, ho, hi⟩ := hrel
        have HO := Aside0.mk ho
        have HI := Aside0.mk hi.round
        clear ho hi
        by_cases hjl : j < bl.f1.length
        · obtain ⟨ad2, A3, c3, A7, c7, rfl, x0, x1, x2, x3, x4, x5, x6, x7, _, gA, _, gE⟩ := at_T47 GI.out (j : Int) (by omega) (by omega)
          have hm : bl.f1[j]? = some (rd_T47 bl.f1 (j : Int)) := by
            unfold rd_T47
            rw [Int.toNat_natCast, List.getD_eq_getElem?_getD, List.getElem?_eq_getElem hjl]; rfl
          have hokx := HEACH.out _ (List.mem_of_getElem? hm)
          have hst := stAt_succ hm
          have hsl := stAt_len bl.f1 j
          rw [Int.toNat_natCast] at x0 x1 x2 x3 x4 x5 x6 x7
          generalize rd_T47 bl.f1 (j : Int) = x at *
          generalize hsj : stAt bl.f1 j = sj at *
          obtain ⟨M0, out⟩ := sj
          replace HI : Aside0 (Inner bl.f0 bl.f2 M0 out j B N wr.heap.size g7 VI (.slice PN mN dN) wr) := HI
          replace hsl : out.length ≤ j := hsl
          replace x0 := pw_cell_below HO.out.bel x0
          replace x1 := pw_cell_below HO.out.bel x1
          replace x2 := pw_cell_below HO.out.bel x2
          replace x3 := pw_cell_below HO.out.bel x3
          replace x4 := pw_cell_below HO.out.bel x4
          replace x5 := pw_cell_below HO.out.bel x5
          replace x6 := pw_cell_below HO.out.bel x6
          replace x7 := pw_cell_below HO.out.bel x7
          have GA := Aside0.mk gA
          have GE := Aside0.mk gE
          have HX := Aside0.mk hokx
          have HST := Aside0.mk hst
          have HSL := Aside0.mk hsl
          have HINS2 := Aside0.mk HINS.out
          clear gA gE hokx hst hsl hsj hm
          go_upto_region 11 with (fail)
          have hb3 := below_alloc (Below.refl _ wr) (.cells #[.int .i64 x.f0, .int .i64 x.f1, .int .i64 x.f2, .slice A3 x.f3.length c3, .int .i64 x.f4, .int .i64 x.f5, .int .i64 x.f6, .slice A7 x.f7.length c7] 47)
          have K9 := blk_new wr (.cells #[.int .i64 x.f0, .int .i64 x.f1, .int .i64 x.f2, .slice A3 x.f3.length c3, .int .i64 x.f4, .int .i64 x.f5, .int .i64 x.f6, .slice A7 x.f7.length c7] 47)
          replace HO := Aside0.mk (HO.out.below hb3)
          replace HI := Aside0.mk (HI.out.below hb3)
          clear hb3 x0 x1 x2 x3 x4 x5 x6 x7
          generalize wr.alloc (.cells #[.int .i64 x.f0, .int .i64 x.f1, .int .i64 x.f2, .slice A3 x.f3.length c3, .int .i64 x.f4, .int .i64 x.f5, .int .i64 x.f6, .slice A7 x.f7.length c7] 47) = w8 at *
          have HG9 := Aside0.mk (blk_lt K9)
          generalize wr.heap.size = g9 at *
          have q0 : w8.cell? ⟨g9, 0, none⟩ = some (.int .i64 x.f0) := blk_cell K9 0
          have q1 : w8.cell? ⟨g9, 1, none⟩ = some (.int .i64 x.f1) := blk_cell K9 1
          have q2 : w8.cell? ⟨g9, 2, none⟩ = some (.int .i64 x.f2) := blk_cell K9 2
          have q3 : w8.cell? ⟨g9, 3, none⟩ = some (.slice A3 x.f3.length c3) := blk_cell K9 3
          have q4 : w8.cell? ⟨g9, 4, none⟩ = some (.int .i64 x.f4) := blk_cell K9 4
          have q5 : w8.cell? ⟨g9, 5, none⟩ = some (.int .i64 x.f5) := blk_cell K9 5
          have q6 : w8.cell? ⟨g9, 6, none⟩ = some (.int .i64 x.f6) := blk_cell K9 6
          have q7 : w8.cell? ⟨g9, 7, none⟩ = some (.slice A7 x.f7.length c7) := blk_cell K9 7
          clear K9
          go_wp2_with (fail)
          refine (turn_calls B j M0 x A3 c3 A7 c7 w8 HI.out.book (Kd.C_below GA.out HO.out.bel) (Kd.C_below GE.out HO.out.bel) (Nat.le_trans HX.out.args (by decide)) (Nat.le_trans HX.out.exit (by decide)) (fun s hs => Nat.le_trans (HX.out.slots s hs) (by decide)) HX.out.wfa HX.out.wfs).mono ?_
          rintro e w9 ⟨v3, v7, rfl, ⟨m, hm8, hr3, hr7⟩, hb9⟩
          obtain ⟨P3, d3, hv3⟩ : ∃ P d, v3 = .slice P x.f3.length d := let ⟨A, c, h, _⟩ := Kd.R_reads hr3; ⟨A, c, by rw [h, List.length_map]⟩
          obtain ⟨P7, d7, hv7⟩ : ∃ P d, v7 = .slice P x.f7.length d := let ⟨A, c, h, _⟩ := Kd.S_reads hr7; ⟨A, c, by rw [h, List.length_map]⟩
          subst hv3
          subst hv7
          have hN8 : N ≤ w8.heap.size := Nat.le_trans HI.out.n7 (Nat.le_of_lt (blk_lt HI.out.box))
          have HR3 := Aside0.mk (Kd.R_lower (Kd.R_mono (ok' := fun b => g9 ≤ b ∧ b < m) (Kd.R_bound hr3) (fun b hb => ⟨Nat.le_trans (Nat.le_of_lt HG9.out) hb.2.1, hb.1⟩)) hN8)
          have HR7 := Aside0.mk (Kd.S_lower (Kd.S_mono (ok' := fun b => g9 ≤ b ∧ ¬ b < m) (Kd.S_bound hr7) (fun b hb => ⟨Nat.le_trans (Nat.le_of_lt HG9.out) (Nat.le_trans hm8 hb.2.1), Nat.not_lt.2 hb.2.1⟩)) (Nat.le_trans hN8 hm8))
          replace HO := Aside0.mk (HO.out.below hb9)
          replace HI := Aside0.mk (HI.out.below hb9)
          clear hb9 hr3 hr7 hN8 hm8 q0 q1 q2 q3 q4 q5 q6 q7
          go_upto_region 12 with (fail)
          have hb3 := below_alloc (Below.refl _ w9) (.cells #[.int .i64 x.f0, .int .i64 x.f1, .int .i64 x.f2, .slice P3 x.f3.length d3, .int .i64 x.f4, .int .i64 x.f5, .int .i64 x.f6, .slice P7 x.f7.length d7] 47)
          have K10 := blk_new w9 (.cells #[.int .i64 x.f0, .int .i64 x.f1, .int .i64 x.f2, .slice P3 x.f3.length d3, .int .i64 x.f4, .int .i64 x.f5, .int .i64 x.f6, .slice P7 x.f7.length d7] 47)
          replace HO := Aside0.mk (HO.out.below hb3)
          replace HI := Aside0.mk (HI.out.below hb3)
          replace HR3 := Aside0.mk (Kd.R_below HR3.out hb3)
          replace HR7 := Aside0.mk (Kd.S_below HR7.out hb3)
          clear hb3
          generalize w9.alloc (.cells #[.int .i64 x.f0, .int .i64 x.f1, .int .i64 x.f2, .slice P3 x.f3.length d3, .int .i64 x.f4, .int .i64 x.f5, .int .i64 x.f6, .slice P7 x.f7.length d7] 47) = w10 at *
          generalize w9.heap.size = g10 at *
          have XR := Aside0.mk (XRow.mk HR3.out HR7.out K10)
          clear HR3 HR7 K10
          have q2 : w10.cell? ⟨g10, 2, none⟩ = some (.int .i64 x.f2) := blk_cell XR.out.box 2
          by_cases hd : x.f2 = -1
          · have cd : (x.f2 == -1) = true := beq_iff_eq.2 hd
            have HS1 : Aside0 (stAt bl.f1 (j + 1) = (M0, out ++ [turn47 M0 x])) := ⟨by rw [HST.out]; unfold stepS; rw [if_pos hd]⟩
            clear hd
            go_upto_region 13 with (fail)
            clear q2 cd
            obtain ⟨PI, mI, dI, rfl⟩ : ∃ P m d, VI = .slice P m d := let ⟨A, c, h, _⟩ := Kd.S_reads HI.out.row; ⟨_, _, _, h⟩
            have p1 : w10.cell? ⟨g7, 1, none⟩ = some (.slice PI mI dI) := blk_cell HI.out.box 1
            have q0 : w10.cell? ⟨g10, 0, none⟩ = some (.int .i64 x.f0) := blk_cell XR.out.box 0
            have q1 : w10.cell? ⟨g10, 1, none⟩ = some (.int .i64 x.f1) := blk_cell XR.out.box 1
            have q2 : w10.cell? ⟨g10, 2, none⟩ = some (.int .i64 x.f2) := blk_cell XR.out.box 2
            have q3 : w10.cell? ⟨g10, 3, none⟩ = some (.slice P3 x.f3.length d3) := blk_cell XR.out.box 3
            have q4 : w10.cell? ⟨g10, 4, none⟩ = some (.int .i64 x.f4) := blk_cell XR.out.box 4
            have q5 : w10.cell? ⟨g10, 5, none⟩ = some (.int .i64 x.f5) := blk_cell XR.out.box 5
            have q6 : w10.cell? ⟨g10, 6, none⟩ = some (.int .i64 x.f6) := blk_cell XR.out.box 6
            have q7 : w10.cell? ⟨g10, 7, none⟩ = some (.slice P7 x.f7.length d7) := blk_cell XR.out.box 7
            go_wp2_with (first | ((with_reducible refine gate_builtin (b := .append) rfl ?_); refine Classical.byContradiction (fun hcon => ?hstA)) | go_in)
            refine hcon ?_
            clear hcon p1 q0 q1 q2 q3 q4 q5 q6 q7
            refine Kd.S_append kA47 (w0 := w10) N rfl _ _ 40 47 (.agg #[(.int .i64 0), (.int .i64 0), (.int .i64 0), (.slice none 0 0), (.int .i64 0), (.int .i64 0), (.int .i64 0), (.slice none 0 0)]) 96 rfl Try.underlying40 (by kernel_rfl) rfl (by decide) (by decide) (.slice PI mI dI) out (turn47 M0 x) [.int .i64 x.f0, .int .i64 x.f1, .int .i64 x.f2, .slice P3 x.f3.length d3, .int .i64 x.f4, .int .i64 x.f5, .int .i64 x.f6, .slice P7 x.f7.length d7] (fun _ => True) _ rfl rfl (M_apart XR.out.made (Kd.S_R HI.out.row) (by decide)) (fun _ h => ⟨trivial, h.2⟩) (fun _ _ => trivial) (Kd.S_mono HI.out.row (fun q hq => ⟨trivial, fun h => absurd h.1 (Nat.not_le.2 hq)⟩)) (Below.refl _ _) (Nat.le_trans HI.out.n7 (Nat.le_of_lt (blk_lt HI.out.box))) (by have := HSL.out; have := HINS2.out; omega) ?_
            intro v1 w12 hR1 _ hg1 _
            obtain ⟨P1, m1, d1, rfl⟩ : ∃ P m d, v1 = .slice P m d := let ⟨A, c, h, _⟩ := Kd.S_reads hR1; ⟨_, _, _, h⟩
            have hold := HI.out.old hg1
            have p1 : w12.cell? ⟨g7, 1, none⟩ = some (.slice PI mI dI) := blk_cell hold 1
            have f1 := blk_frozen hold 1
            have HO1 := Aside0.mk (HO.out.append (v1 := .slice P1 m1 d1) HI.out.row hg1 HI.out.n7)
            have HI1 := Aside0.mk (HI.out.append hR1 hg1)
            clear hR1 hg1 hold HO HI XR
            have hbx := HINS2.out
            go_wp2
            go_roundw
            case rel => exact ⟨j + 1, by omega, by go_num, _, _, HO1.out, by rw [HS1.out]; exact HI1.out.mono (Nat.le_succ j)⟩
            case measure => simp [intOf]; omega
          · have cd : (x.f2 == -1) = false := beq_eq_false_iff_ne.2 hd
            have HD := Aside0.mk hd
            clear hd
            go_upto_region 15 with (fail)
            clear cd q2
            have q0 : w10.cell? ⟨g10, 0, none⟩ = some (.int .i64 x.f0) := blk_cell XR.out.box 0
            have q3 : w10.cell? ⟨g10, 3, none⟩ = some (.slice P3 x.f3.length d3) := blk_cell XR.out.box 3
            by_cases h0 : x.f0 = 1
            · have c0 : (x.f0 == 1) = true := beq_iff_eq.2 h0
              by_cases h3 : x.f3.length = 1
              · obtain ⟨o, ho⟩ := List.length_eq_one_iff.1 h3
                have hmv := movesOf_one (M := M0) h0 ho
                obtain ⟨gx, rfl, y0, y1⟩ := XR.out.arg ho
                have c3 : ((x.f3.length : Int) == 1) = true := by rw [beq_iff_eq]; omega
                have h03 : 0 < x.f3.length := by omega
                have h03' : (0 : Int) < (x.f3.length : Int) := by omega
                have HOO := Aside0.mk ho
                have he := eql49
                clear h0 h3 ho
                by_cases hy : ask M0 o = ⟨0, x.f2⟩
                · have HS1 : Aside0 (stAt bl.f1 (j + 1) = (M0, out)) := ⟨by rw [HST.out]; unfold stepS; rw [if_neg HD.out, if_pos (by rw [hmv, hy])]⟩
                  have e0 : (ask M0 o).f0 = 0 := by rw [hy]
                  have e1 : (ask M0 o).f1 = x.f2 := by rw [hy]
                  rw [e0] at y0
                  rw [e1] at y1
                  have hbx := HINS2.out
                  clear e0 e1 hmv hy
                  go_wp2
                  go_roundw
                  case rel => exact ⟨j + 1, by omega, by go_num, _, _, HO.out, by rw [HS1.out]; exact HI.out.mono (Nat.le_succ j)⟩
                  case measure => simp [intOf]; omega
                · have HS1 : Aside0 (stAt bl.f1 (j + 1) = (fun q => if q = x.f2 then some (ask M0 o) else writ M0 x.f2 q, out ++ [turn47 M0 x])) := ⟨by rw [HST.out]; unfold stepS; rw [if_neg HD.out, if_neg (by rw [hmv]; intro h; exact hy (Option.some.inj h)), hmv]; rfl⟩
                  have cy : ((ask M0 o).f0 == 0 && ((ask M0 o).f1 == x.f2)) = false := by
                    rw [Bool.and_eq_false_iff, beq_eq_false_iff_ne, beq_eq_false_iff_ne]
                    rcases Classical.em ((ask M0 o).f0 = 0) with h0 | h0
                    · exact .inr (fun h1 => hy (by cases hz : ask M0 o; rw [hz] at h0 h1; simp at h0 h1; rw [h0, h1]))
                    · exact .inl h0
                  clear hmv hy
                  go_wp2_with (fail)
                  refine (written_calls B j M0 x.f2 w10 HI.out.book HX.out.dst).mono ?_
                  rintro e w11 ⟨rfl, hbk', hg'⟩
                  obtain ⟨es', clock', hB'⟩ := HI.out.book.blk
                  replace HO := Aside0.mk (HO.out.turned hg')
                  replace XR := Aside0.mk (XR.out.turned hB' hg')
                  replace HI := Aside0.mk (HI.out.turned hbk' hg')
                  clear hbk' hg' hB'
                  clear q0 q3 y0 y1 cy c0
                  have q3 : w11.cell? ⟨g10, 3, none⟩ = some (.slice (some ⟨gx, 0, none⟩) x.f3.length d3) := blk_cell XR.out.box 3
                  obtain ⟨gx', hgx, y0, y1⟩ := XR.out.arg HOO.out
                  injection hgx with hgx
                  injection hgx with hgx
                  subst hgx
                  generalize ask M0 o = y at *
                  go_upto_region 20 with (first | (at_mapUpdate; refine Classical.byContradiction (fun hcon => ?hstM)) | go_in)
                  refine hcon ?_
                  clear hcon
                  refine mapUpdate_book rfl _ rfl _ _ _ rfl B j (writ M0 x.f2) rfl HI.out.book (by have := HINS2.out; unfold maxLen; omega) x.f2 rfl HX.out.dst y rfl ?_
                  intro w13 hbk3 hg3
                  obtain ⟨es3, clock3, hB3⟩ := HI.out.book.blk
                  replace HO := Aside0.mk (HO.out.turned hg3)
                  replace XR := Aside0.mk (XR.out.turned hB3 hg3)
                  replace HI := Aside0.mk (HI.out.turned hbk3 hg3)
                  clear hbk3 hg3 hB3 q3 y0 y1
                  go_upto_region 20 with (fail)
                  clear c3 h03 h03' he
                  obtain ⟨PI, mI, dI, rfl⟩ : ∃ P m d, VI = .slice P m d := let ⟨A, c, h, _⟩ := Kd.S_reads HI.out.row; ⟨_, _, _, h⟩
                  have p1 : w13.cell? ⟨g7, 1, none⟩ = some (.slice PI mI dI) := blk_cell HI.out.box 1
                  have q0 : w13.cell? ⟨g10, 0, none⟩ = some (.int .i64 x.f0) := blk_cell XR.out.box 0
                  have q1 : w13.cell? ⟨g10, 1, none⟩ = some (.int .i64 x.f1) := blk_cell XR.out.box 1
                  have q2 : w13.cell? ⟨g10, 2, none⟩ = some (.int .i64 x.f2) := blk_cell XR.out.box 2
                  have q3 : w13.cell? ⟨g10, 3, none⟩ = some (.slice (some ⟨gx, 0, none⟩) x.f3.length d3) := blk_cell XR.out.box 3
                  have q4 : w13.cell? ⟨g10, 4, none⟩ = some (.int .i64 x.f4) := blk_cell XR.out.box 4
                  have q5 : w13.cell? ⟨g10, 5, none⟩ = some (.int .i64 x.f5) := blk_cell XR.out.box 5
                  have q6 : w13.cell? ⟨g10, 6, none⟩ = some (.int .i64 x.f6) := blk_cell XR.out.box 6
                  have q7 : w13.cell? ⟨g10, 7, none⟩ = some (.slice P7 x.f7.length d7) := blk_cell XR.out.box 7
                  go_wp2_with (first | ((with_reducible refine gate_builtin (b := .append) rfl ?_); refine Classical.byContradiction (fun hcon => ?hstB)) | go_in)
                  refine hcon ?_
                  clear hcon p1 q0 q1 q2 q3 q4 q5 q6 q7
                  refine Kd.S_append kA47 (w0 := w13) N rfl _ _ 40 47 (.agg #[(.int .i64 0), (.int .i64 0), (.int .i64 0), (.slice none 0 0), (.int .i64 0), (.int .i64 0), (.int .i64 0), (.slice none 0 0)]) 96 rfl Try.underlying40 (by kernel_rfl) rfl (by decide) (by decide) (.slice PI mI dI) out (turn47 M0 x) [.int .i64 x.f0, .int .i64 x.f1, .int .i64 x.f2, .slice (some ⟨gx, 0, none⟩) x.f3.length d3, .int .i64 x.f4, .int .i64 x.f5, .int .i64 x.f6, .slice P7 x.f7.length d7] (fun _ => True) _ rfl rfl (M_apart XR.out.made (Kd.S_R HI.out.row) (by decide)) (fun _ h => ⟨trivial, h.2⟩) (fun _ _ => trivial) (Kd.S_mono HI.out.row (fun q hq => ⟨trivial, fun h => absurd h.1 (Nat.not_le.2 hq)⟩)) (Below.refl _ _) (Nat.le_trans HI.out.n7 (Nat.le_of_lt (blk_lt HI.out.box))) (by have := HSL.out; have := HINS2.out; omega) ?_
                  intro v1 w12 hR1 _ hg1 _
                  obtain ⟨P1, m1, d1, rfl⟩ : ∃ P m d, v1 = .slice P m d := let ⟨A, c, h, _⟩ := Kd.S_reads hR1; ⟨_, _, _, h⟩
                  have hold := HI.out.old hg1
                  have p1 : w12.cell? ⟨g7, 1, none⟩ = some (.slice PI mI dI) := blk_cell hold 1
                  have f1 := blk_frozen hold 1
                  have HO1 := Aside0.mk (HO.out.append (v1 := .slice P1 m1 d1) HI.out.row hg1 HI.out.n7)
                  have HI1 := Aside0.mk (HI.out.append hR1 hg1)
                  clear hR1 hg1 hold HO HI XR
                  have hbx := HINS2.out
                  go_wp2
                  go_roundw
                  case rel => exact ⟨j + 1, by omega, by go_num, _, _, HO1.out, by rw [HS1.out]; exact HI1.out⟩
                  case measure => simp [intOf]; omega
              · have hmv := movesOf_len (M := M0) h3
                have HS1 : Aside0 (stAt bl.f1 (j + 1) = (writ M0 x.f2, out ++ [turn47 M0 x])) := ⟨by rw [HST.out]; unfold stepS; rw [if_neg HD.out, if_neg (by rw [hmv]; intro h; cases h), hmv]; rfl⟩
                have c3 : ((x.f3.length : Int) == 1) = false := by rw [beq_eq_false_iff_ne]; omega
                clear h0 h3 hmv
                go_wp2_with (fail)
                refine (written_calls B j M0 x.f2 w10 HI.out.book HX.out.dst).mono ?_
                rintro e w11 ⟨rfl, hbk', hg'⟩
                obtain ⟨es', clock', hB'⟩ := HI.out.book.blk
                replace HO := Aside0.mk (HO.out.turned hg')
                replace XR := Aside0.mk (XR.out.turned hB' hg')
                replace HI := Aside0.mk (HI.out.turned hbk' hg')
                clear hbk' hg' hB'
                clear q0 q3 c0 c3
                go_upto_region 20 with (fail)
                obtain ⟨PI, mI, dI, rfl⟩ : ∃ P m d, VI = .slice P m d := let ⟨A, c, h, _⟩ := Kd.S_reads HI.out.row; ⟨_, _, _, h⟩
                have p1 : w11.cell? ⟨g7, 1, none⟩ = some (.slice PI mI dI) := blk_cell HI.out.box 1
                have q0 : w11.cell? ⟨g10, 0, none⟩ = some (.int .i64 x.f0) := blk_cell XR.out.box 0
                have q1 : w11.cell? ⟨g10, 1, none⟩ = some (.int .i64 x.f1) := blk_cell XR.out.box 1
                have q2 : w11.cell? ⟨g10, 2, none⟩ = some (.int .i64 x.f2) := blk_cell XR.out.box 2
                have q3 : w11.cell? ⟨g10, 3, none⟩ = some (.slice P3 x.f3.length d3) := blk_cell XR.out.box 3
                have q4 : w11.cell? ⟨g10, 4, none⟩ = some (.int .i64 x.f4) := blk_cell XR.out.box 4
                have q5 : w11.cell? ⟨g10, 5, none⟩ = some (.int .i64 x.f5) := blk_cell XR.out.box 5
                have q6 : w11.cell? ⟨g10, 6, none⟩ = some (.int .i64 x.f6) := blk_cell XR.out.box 6
                have q7 : w11.cell? ⟨g10, 7, none⟩ = some (.slice P7 x.f7.length d7) := blk_cell XR.out.box 7
                go_wp2_with (first | ((with_reducible refine gate_builtin (b := .append) rfl ?_); refine Classical.byContradiction (fun hcon => ?hstC)) | go_in)
                refine hcon ?_
                clear hcon p1 q0 q1 q2 q3 q4 q5 q6 q7
                refine Kd.S_append kA47 (w0 := w11) N rfl _ _ 40 47 (.agg #[(.int .i64 0), (.int .i64 0), (.int .i64 0), (.slice none 0 0), (.int .i64 0), (.int .i64 0), (.int .i64 0), (.slice none 0 0)]) 96 rfl Try.underlying40 (by kernel_rfl) rfl (by decide) (by decide) (.slice PI mI dI) out (turn47 M0 x) [.int .i64 x.f0, .int .i64 x.f1, .int .i64 x.f2, .slice P3 x.f3.length d3, .int .i64 x.f4, .int .i64 x.f5, .int .i64 x.f6, .slice P7 x.f7.length d7] (fun _ => True) _ rfl rfl (M_apart XR.out.made (Kd.S_R HI.out.row) (by decide)) (fun _ h => ⟨trivial, h.2⟩) (fun _ _ => trivial) (Kd.S_mono HI.out.row (fun q hq => ⟨trivial, fun h => absurd h.1 (Nat.not_le.2 hq)⟩)) (Below.refl _ _) (Nat.le_trans HI.out.n7 (Nat.le_of_lt (blk_lt HI.out.box))) (by have := HSL.out; have := HINS2.out; omega) ?_
                intro v1 w12 hR1 _ hg1 _
                obtain ⟨P1, m1, d1, rfl⟩ : ∃ P m d, v1 = .slice P m d := let ⟨A, c, h, _⟩ := Kd.S_reads hR1; ⟨_, _, _, h⟩
                have hold := HI.out.old hg1
                have p1 : w12.cell? ⟨g7, 1, none⟩ = some (.slice PI mI dI) := blk_cell hold 1
                have f1 := blk_frozen hold 1
                have HO1 := Aside0.mk (HO.out.append (v1 := .slice P1 m1 d1) HI.out.row hg1 HI.out.n7)
                have HI1 := Aside0.mk (HI.out.append hR1 hg1)
                clear hR1 hg1 hold HO HI XR
                have hbx := HINS2.out
                go_wp2
                go_roundw
                case rel => exact ⟨j + 1, by omega, by go_num, _, _, HO1.out, by rw [HS1.out]; exact HI1.out.mono (Nat.le_succ j)⟩
                case measure => simp [intOf]; omega
            · have hmv := movesOf_op (M := M0) h0
              have HS1 : Aside0 (stAt bl.f1 (j + 1) = (writ M0 x.f2, out ++ [turn47 M0 x])) := ⟨by rw [HST.out]; unfold stepS; rw [if_neg HD.out, if_neg (by rw [hmv]; intro h; cases h), hmv]; rfl⟩
              have c0 : (x.f0 == 1) = false := beq_eq_false_iff_ne.2 h0
              clear h0 hmv
              go_wp2_with (fail)
              refine (written_calls B j M0 x.f2 w10 HI.out.book HX.out.dst).mono ?_
              rintro e w11 ⟨rfl, hbk', hg'⟩
              obtain ⟨es', clock', hB'⟩ := HI.out.book.blk
              replace HO := Aside0.mk (HO.out.turned hg')
              replace XR := Aside0.mk (XR.out.turned hB' hg')
              replace HI := Aside0.mk (HI.out.turned hbk' hg')
              clear hbk' hg' hB'
              clear q0 q3 c0
              go_upto_region 20 with (fail)
              obtain ⟨PI, mI, dI, rfl⟩ : ∃ P m d, VI = .slice P m d := let ⟨A, c, h, _⟩ := Kd.S_reads HI.out.row; ⟨_, _, _, h⟩
              have p1 : w11.cell? ⟨g7, 1, none⟩ = some (.slice PI mI dI) := blk_cell HI.out.box 1
              have q0 : w11.cell? ⟨g10, 0, none⟩ = some (.int .i64 x.f0) := blk_cell XR.out.box 0
              have q1 : w11.cell? ⟨g10, 1, none⟩ = some (.int .i64 x.f1) := blk_cell XR.out.box 1
              have q2 : w11.cell? ⟨g10, 2, none⟩ = some (.int .i64 x.f2) := blk_cell XR.out.box 2
              have q3 : w11.cell? ⟨g10, 3, none⟩ = some (.slice P3 x.f3.length d3) := blk_cell XR.out.box 3
              have q4 : w11.cell? ⟨g10, 4, none⟩ = some (.int .i64 x.f4) := blk_cell XR.out.box 4
              have q5 : w11.cell? ⟨g10, 5, none⟩ = some (.int .i64 x.f5) := blk_cell XR.out.box 5
              have q6 : w11.cell? ⟨g10, 6, none⟩ = some (.int .i64 x.f6) := blk_cell XR.out.box 6
              have q7 : w11.cell? ⟨g10, 7, none⟩ = some (.slice P7 x.f7.length d7) := blk_cell XR.out.box 7
              go_wp2_with (first | ((with_reducible refine gate_builtin (b := .append) rfl ?_); refine Classical.byContradiction (fun hcon => ?hstD)) | go_in)
              refine hcon ?_
              clear hcon p1 q0 q1 q2 q3 q4 q5 q6 q7
              refine Kd.S_append kA47 (w0 := w11) N rfl _ _ 40 47 (.agg #[(.int .i64 0), (.int .i64 0), (.int .i64 0), (.slice none 0 0), (.int .i64 0), (.int .i64 0), (.int .i64 0), (.slice none 0 0)]) 96 rfl Try.underlying40 (by kernel_rfl) rfl (by decide) (by decide) (.slice PI mI dI) out (turn47 M0 x) [.int .i64 x.f0, .int .i64 x.f1, .int .i64 x.f2, .slice P3 x.f3.length d3, .int .i64 x.f4, .int .i64 x.f5, .int .i64 x.f6, .slice P7 x.f7.length d7] (fun _ => True) _ rfl rfl (M_apart XR.out.made (Kd.S_R HI.out.row) (by decide)) (fun _ h => ⟨trivial, h.2⟩) (fun _ _ => trivial) (Kd.S_mono HI.out.row (fun q hq => ⟨trivial, fun h => absurd h.1 (Nat.not_le.2 hq)⟩)) (Below.refl _ _) (Nat.le_trans HI.out.n7 (Nat.le_of_lt (blk_lt HI.out.box))) (by have := HSL.out; have := HINS2.out; omega) ?_
              intro v1 w12 hR1 _ hg1 _
              obtain ⟨P1, m1, d1, rfl⟩ : ∃ P m d, v1 = .slice P m d := let ⟨A, c, h, _⟩ := Kd.S_reads hR1; ⟨_, _, _, h⟩
              have hold := HI.out.old hg1
              have p1 : w12.cell? ⟨g7, 1, none⟩ = some (.slice PI mI dI) := blk_cell hold 1
              have f1 := blk_frozen hold 1
              have HO1 := Aside0.mk (HO.out.append (v1 := .slice P1 m1 d1) HI.out.row hg1 HI.out.n7)
              have HI1 := Aside0.mk (HI.out.append hR1 hg1)
              clear hR1 hg1 hold HO HI XR
              have hbx := HINS2.out
              go_wp2
              go_roundw
              case rel => exact ⟨j + 1, by omega, by go_num, _, _, HO1.out, by rw [HS1.out]; exact HI1.out.mono (Nat.le_succ j)⟩
              case measure => simp [intOf]; omega
        · obtain rfl : j = bl.f1.length := by omega
          obtain ⟨PI, mI, dI, rfl⟩ : ∃ P m d, VI = .slice P m d := let ⟨A, c, h, _⟩ := Kd.S_reads HI.out.row; ⟨_, _, _, h⟩
          obtain ⟨PO, mO, dO, rfl⟩ : ∃ P m d, VO = .slice P m d := let ⟨A, c, h, _⟩ := Kd.S_reads HO.out.row; ⟨_, _, _, h⟩
          have p2 : wr.cell? ⟨g2, 2, none⟩ = some (.slice PO mO dO) := blk_cell HO.out.out 2
          have q0 : wr.cell? ⟨g7, 0, none⟩ = some (.int .i64 bl.f0) := blk_cell HI.out.box 0
          have q1 : wr.cell? ⟨g7, 1, none⟩ = some (.slice PI mI dI) := blk_cell HI.out.box 1
          have q2 : wr.cell? ⟨g7, 2, none⟩ = some (.slice PN mN dN) := blk_cell HI.out.box 2
          have HINS2 := Aside0.mk HINS.out
          have HLEN := Aside0.mk hlen
          have hMk : kA43.M wr w.heap.size (fun q => N ≤ q) (blockS bl) [.int .i64 bl.f0, .slice PI mI dI, .slice PN mN dN] := by
            have h1 := Kd.S_lower (Kd.S_mono (ok' := fun q => N ≤ q) (Kd.S_bound HI.out.row) (fun q hq => hq.2.1)) HO.out.nN
            have h2 := Kd.R_lower (Kd.R_mono (ok' := fun q => N ≤ q) (Kd.R_bound HI.out.nxt) (fun q hq => hq.2.1)) HO.out.nN
            have e : (stAt bl.f1 bl.f1.length).2 = (blockS bl).f1 := by unfold stAt blockS; rw [List.take_length]
            rw [e] at h1
            exact kA43_mkM wr w.heap.size _ (blockS bl) h1 h2
          have HMK := Aside0.mk hMk
          clear hMk
          go_wp2_with (first | ((with_reducible refine gate_builtin (b := .append) rfl ?_); refine Classical.byContradiction (fun hcon => ?hstE)) | go_in)
          refine hcon ?_
          clear hcon p2 q0 q1 q2
          refine Kd.S_append kA43 (w0 := wr) w.heap.size rfl _ _ 22 43 (.agg #[(.int .i64 0), (.slice none 0 0), (.slice none 0 0)]) 56 rfl Try.underlying22 (by kernel_rfl) rfl (by decide) (by decide) (.slice PO mO dO) ((l.take k).map blockS) (blockS bl) [.int .i64 bl.f0, .slice PI mI dI, .slice PN mN dN] (fun _ => True) _ rfl rfl HMK.out (fun q hq => ⟨trivial, fun he => by have := (Kd.S_R HO.out.row).1 q he.symm; omega⟩) (fun _ _ => trivial) (Kd.S_mono HO.out.row (fun q hq => ⟨trivial, fun h => by omega⟩)) ⟨rfl, rfl, rfl, Nat.le_refl _, fun _ _ => rfl⟩ HO.out.bel.size (by have := HLEN.out; rw [List.length_map, List.length_take]; omega) ?_
          intro v1 w12 hR1 _ hg1 _
          obtain ⟨P1, m1, d1, rfl⟩ : ∃ P m d, v1 = .slice P m d := let ⟨A, c, h, _⟩ := Kd.S_reads hR1; ⟨_, _, _, h⟩
          have hold := HO.out.kept hg1
          have p2 : w12.cell? ⟨g2, 2, none⟩ = some (.slice PO mO dO) := blk_cell hold 2
          have f2 := blk_frozen hold 2
          have e : (l.take k).map blockS ++ [blockS bl] = (l.take (k + 1)).map blockS := by
            obtain ⟨hkl, hke⟩ := List.getElem?_eq_some_iff.1 HM.out
            rw [List.take_succ_eq_append_getElem hkl, List.map_append, hke]; rfl
          rw [e] at hR1
          have HP := Aside0.mk (HO.out.push HI.out.book hR1 hg1)
          clear hR1 hg1 hold HO HI HMK e
          go_wp2
          go_roundw
          case rel => exact ⟨k + 1, by omega, by go_num, _, _, _, _, HP.out.1, HP.out.2⟩
          case measure => simp [intOf]; omega
    · obtain rfl : k = l.length := by omega
      obtain ⟨PO, mO, dO, rfl⟩ : ∃ P m d, VO = .slice P m d := let ⟨A, c, h, _⟩ := Kd.S_reads HO.out.row; ⟨_, _, _, h⟩
      have q0 : wr.cell? ⟨g2, 0, none⟩ = some (.int .i64 a) := blk_cell HO.out.out 0
      have q1 : wr.cell? ⟨g2, 1, none⟩ = some (.int .i64 b) := blk_cell HO.out.out 1
      have q2 : wr.cell? ⟨g2, 2, none⟩ = some (.slice PO mO dO) := blk_cell HO.out.out 2
      have p0 : wr.cell? ⟨g1, 0, none⟩ = some (.int .i64 0) := blk_cell HO.out.res 0
      have p1 : wr.cell? ⟨g1, 1, none⟩ = some (.int .i64 0) := blk_cell HO.out.res 1
      have p2 : wr.cell? ⟨g1, 2, none⟩ = some (.slice none 0 0) := blk_cell HO.out.res 2
      have f0 := blk_frozen HO.out.res 0
      have f1 := blk_frozen HO.out.res 1
      have f2 := blk_frozen HO.out.res 2
      go_wp2
      have hE : ∀ a0 a1 a2, ((wr.setCell ⟨g1, 0, none⟩ a0).setCell ⟨g1, 1, none⟩ a1).setCell ⟨g1, 2, none⟩ a2 = set3 wr g1 a0 a1 a2 := fun _ _ _ => rfl
      rw [hE]
      clear hE
      refine bodyPost_ret (results_single (fn := Try.f11) (r := .cell 2 24) rfl (.cell g1 24 #[.int .i64 a, .int .i64 b, .slice PO mO dO] (0, 0) _ rfl (set3_blk HO.out.res _ _ _) Try.underlying24 rfl (by kernel_rfl) .nil)) rfl ?_
      have hr := Kd.S_mono (ok' := fun _ => True) HO.out.row (fun _ _ => trivial)
      rw [List.take_length] at hr
      exact ⟨_, rfl, set3_S hr HO.out.res (by decide) _ _ _, HO.out.bel.grown (set3_grown _ _ _ _ _) HO.out.bel.size (fun q hq => by have := HO.out.n1.2.2; injection hq with hq; omega)⟩
end Go.Proofs.Ytjekpkpmoanadaa.PCop
-- written by a program of this session (leafprint.py, cutsec.py) over the translation; Lean checks it
namespace Go.Proofs.Ytjekpkpmoanadaa.PCop
open Go.RowKit Go.Proofs.YtjekpkpmoanadaaW.PrintWords Go.Proofs.YtjekpkpmoanadaaW.PrintLast Go.Proofs.YtjekpkpmoanadaaW.PrintMore
attribute [local go_sem] max2_int min2_int max_two min_two max_three min_three max_four min_four   -- for this text's walks alone
set_option linter.unusedVariables false
set_option linter.unusedSimpArgs false

attribute [local go_sem high] eqA49
/-! ### portageref0_CopyInts: function 24 -/
def portageref0_CopyInts.l0 : Nat → List Int → List Int → Int → Option (List Int)
  | 0, _, _, _ => none
  | k + 1, x0, x3, x4 => if x4 < (x0.length : Int) then (if 0 ≤ x4 then (if x3.length < 17592186044416 then (portageref0_CopyInts.l0 k x0 (x3 ++ [rd x0 x4]) (wrap64 (x4 + 1))) else (none)) else (none)) else (some x3)
def portageref0_CopyInts.f (k : Nat) (l0 : List Int) : Option (List Int) := portageref0_CopyInts.l0 k l0 ([] : List Int) 0
theorem portageref0_CopyInts.mono_l : ∀ k, (∀ y0 y1 y2, LeO (portageref0_CopyInts.l0 k y0 y1 y2) (portageref0_CopyInts.l0 (k + 1) y0 y1 y2))
  | 0 => fun _ _ _ r h => by simp [portageref0_CopyInts.l0] at h
  | k + 1 => by
    have ih0 := portageref0_CopyInts.mono_l k
    · intro y0 y1 y2
      unfold portageref0_CopyInts.l0
      repeat' first
      | (with_reducible exact ih0 _ _ _)
      | (with_reducible exact LeO.refl _)
      | (with_reducible exact LeO.none _)
      | (with_reducible refine LeO.ite ?_ ?_)
      | (with_reducible refine LeO.bind ?_ (fun _ => ?_))
      | exact ih0 _ _ _
      | exact LeO.none _
      | refine LeO.ite ?_ ?_
      | refine LeO.bind ?_ (fun _ => ?_)
theorem portageref0_CopyInts.mono : ∀ a0 k, LeO (portageref0_CopyInts.f k a0) (portageref0_CopyInts.f (k + 1) a0) := by
  intro a0 k
  have ih0 := portageref0_CopyInts.mono_l k
  unfold portageref0_CopyInts.f
  repeat' first
      | (with_reducible exact ih0 _ _ _)
      | (with_reducible exact LeO.refl _)
      | (with_reducible exact LeO.none _)
      | (with_reducible refine LeO.ite ?_ ?_)
      | (with_reducible refine LeO.bind ?_ (fun _ => ?_))
      | exact ih0 _ _ _
      | exact LeO.none _
      | refine LeO.ite ?_ ?_
      | refine LeO.bind ?_ (fun _ => ?_)
set_option maxHeartbeats 8000000 in
set_option maxRecDepth 100000 in
theorem portageref0_CopyInts.calls (k : Nat) (A0 : Option Addr) (c0 : Nat) (l0 : List Int) (r : List Int) (w : World) (hr0 : Kd.C (Kd.int .i64) w A0 l0.length l0) (hc0 : l0.length ≤ c0) (h : portageref0_CopyInts.f k l0 = some r) :
    Calls Try.prog 24 #[.slice A0 l0.length c0] w fun e w' => ∃ v0_ : Value, e = .returned (v0_) ∧ Kd.R (Kd.int .i64) 3 w' w.heap.size (fun _ => True) v0_ r ∧ Below w.heap.size w w' := by
  have HR0 := Aside0.mk hr0
  have HC0 := Aside0.mk hc0
  clear hr0 hc0
  have HB := Aside0.mk (Below.refl w.heap.size w)
  have H : (portageref0_CopyInts.l0 k l0 ([] : List Int) 0) = some r := h
  clear h
  have H' := Aside0.mk H
  clear H
  go_enter Try.func24, Try.ntmps24
  go_wp2
  go_loopg [3, 4] k (fun kq v3 v4 w' => ∃ (x3_1 : List Int) (x4_1 : Int), v4 = .int .i64 x4_1 ∧ Aside0 (portageref0_CopyInts.l0 kq l0 x3_1 x4_1 = some r) ∧ Aside0 (kq ≤ k) ∧ Aside0 (Kd.R (Kd.int .i64) 3 w' w.heap.size (fun _ => True) v3 x3_1) ∧ Aside0 (Below w.heap.size w w'))
  case atStart => exact ⟨(([] : List Int)), (0), (by first | rfl | (simp; done) | (simp [*]; done)), H', ⟨Nat.le_refl _⟩, ⟨by first | exact Kd.R_nil _ _ _ _ _ | exact Kd.N_nil _ _ _ _ _ | exact Kd.V_nil _ _ _ _ _ | exact Kd.Q_nil _ _ _ _ _ | exact Kd.S_nil _ _ _ _ _⟩, ⟨by repeat (first | (with_reducible first | exact HB.out | apply below_alloc | apply pw_below_drewN | apply below_drew1) | exact HB.out)⟩⟩
  case round =>
    clear H'
    obtain ⟨x3_1, x4_1, rfl, HA, HK1, HO_3, HB⟩ := hrel
    cases gk with
    | zero => exact absurd HA.out (by simp [portageref0_CopyInts.l0])
    | succ k1 =>
      have H := HA.out
      clear HA
      simp only [portageref0_CopyInts.l0] at H
      by_cases c2 : x4_1 < (l0.length : Int)
      · rw [if_pos c2] at H
        have c2b0 : decide (x4_1 < (l0.length : Int)) = true := decide_eq_true c2
        clear c2
        by_cases c3 : 0 ≤ x4_1
        · rw [if_pos c3] at H
          have c3b0 : decide (0 ≤ x4_1) = true := decide_eq_true c3
          clear c3
          by_cases c4 : x3_1.length < 17592186044416
          · rw [if_pos c4] at H
            have LMc4 := Aside0.mk c4
            clear c4
            obtain ⟨y104, hy104⟩ : ∃ y_ : List Int, y_ = (x3_1 ++ [rd l0 x4_1]) := ⟨_, rfl⟩
            replace H : (portageref0_CopyInts.l0 k1 l0 y104 (wrap64 (x4_1 + 1))) = some r := by first | (rw [hy104]; with_reducible exact H) | (have H2_ := (Option.bind_some _ _).symm.trans H; rw [hy104]; with_reducible exact H2_) | (have H2_ := (Option.bind_some _ _).symm.trans H; with_reducible exact H2_) | with_reducible exact H | (rw [hy104]; exact H) | exact H
            have Ny104 := Aside0.mk hy104
            clear hy104
            have H' := Aside0.mk H
            clear H
            have p103 : 0 ≤ (x4_1 : Int) := of_decide_eq_true (by first | (with_reducible assumption) | assumption)
            have q103 : x4_1 < (l0.length : Int) := of_decide_eq_true (by first | (with_reducible assumption) | assumption)
            obtain ⟨ad103, e103, hx103_0⟩ := Kd.at_int HR0.out x4_1 p103 q103
            cases e103
            replace hx103_0 := (HB.out.cell (World.block_lt_of_cell? w _ hx103_0)).trans hx103_0
            replace p103 := eq_true p103
            replace q103 := eq_true q103
            go_wp2_with (first | ((with_reducible refine gate_builtin (b := .append) (xs := #[.tmp 11, .tmp 16]) rfl ?_); at_builtin; refine Kd.R_append (Kd.int .i64) (w0 := w) w.heap.size rfl (.tmp 11) (.tmp 16) 41 3 (.int .i64 0) 8 rfl Try.underlying41 info3 rfl (by decide) (by omega) u3 x3_1 (rd l0 x4_1) [.int .i64 (rd l0 x4_1)] (fun _ => True) (fun _ => False) rfl rfl ?aP (fun _ hk => hk.elim) ?aF ?aO ?aB ?aS ?aL ?_; (case aP => exact rfl); (case aB => exact (by repeat (first | (with_reducible first | exact HB.out | apply below_alloc | apply pw_below_drewN | apply below_drew1) | exact HB.out))); (case aF => exact (fun _ _ => trivial)); (case aO => exact (by (with_reducible repeat (first | apply Kd.R_alloc | apply Kd.R_drewN | apply Kd.R_drew)); exact HO_3.out)); (case aS => exact (below_size (by repeat (first | (with_reducible first | exact HB.out | apply below_alloc | apply pw_below_drewN | apply below_drew1) | exact HB.out)))); (case aL => have := LMc4.out; omega); intro v105 w5 ho hb hg hat; rw [← Ny104.out] at ho; have n0_ := Aside0.mk (hb); have n1_ := Aside0.mk (ho); clear HB; clear HO_3; have HB := n0_; have HO106 := n1_; clear n0_ n1_; clear ho hb hg hat))
            go_roundg k1
            case measure => have := HK1.out; omega
            case rel => exact ⟨(y104), (wrap64 (x4_1 + 1)), (by first | rfl | (simp; done) | (simp [*]; done)), H', ⟨by have := HK1.out; omega⟩, ⟨by (with_reducible repeat (first | apply Kd.R_alloc | apply Kd.R_drewN | apply Kd.R_drew)); exact HO106.out⟩, ⟨by repeat (first | (with_reducible first | exact HB.out | apply below_alloc | apply pw_below_drewN | apply below_drew1) | exact HB.out)⟩⟩
          · rw [if_neg c4] at H
            exact absurd H (by simp)
        · rw [if_neg c3] at H
          exact absurd H (by simp)
      · rw [if_neg c2] at H
        have c2b0 : decide (x4_1 < (l0.length : Int)) = false := decide_eq_false c2
        clear c2
        obtain rfl := Option.some.inj H
        go_wp2
        go_ret
        exact ⟨_, by first | rfl | (simp [errW_none, errW_some] <;> rfl) | (simp [*, errW_none, errW_some] <;> rfl), by (with_reducible repeat (first | apply Kd.R_alloc | apply Kd.R_drewN | apply Kd.R_drew)); exact HO_3.out, by repeat (first | (with_reducible first | exact HB.out | apply below_alloc | apply pw_below_drewN | apply below_drew1) | exact HB.out)⟩

/-! ### portageref0_CopyOpnds: function 52 -/
def portageref0_CopyOpnds.l0 : Nat → List (S49) → List (S49) → Int → Option ((List (S49)))
  | 0, _, _, _ => none
  | k + 1, x0, x3, x4 => if x4 < (x0.length : Int) then (if 0 ≤ x4 then (if x3.length < 8796093022208 then (portageref0_CopyOpnds.l0 k x0 (x3 ++ [(⟨(rd_T49 x0 x4).f0, (rd_T49 x0 x4).f1⟩ : S49)]) (wrap64 (x4 + 1))) else (none)) else (none)) else (some x3)
def portageref0_CopyOpnds.f (k : Nat) (l0 : List (S49)) : Option ((List (S49))) := portageref0_CopyOpnds.l0 k l0 ([] : List (S49)) 0
theorem portageref0_CopyOpnds.mono_l : ∀ k, (∀ y0 y1 y2, LeO (portageref0_CopyOpnds.l0 k y0 y1 y2) (portageref0_CopyOpnds.l0 (k + 1) y0 y1 y2))
  | 0 => fun _ _ _ r h => by simp [portageref0_CopyOpnds.l0] at h
  | k + 1 => by
    have ih0 := portageref0_CopyOpnds.mono_l k
    · intro y0 y1 y2
      unfold portageref0_CopyOpnds.l0
      repeat' first
      | (with_reducible exact ih0 _ _ _)
      | (with_reducible exact LeO.refl _)
      | (with_reducible exact LeO.none _)
      | (with_reducible refine LeO.ite ?_ ?_)
      | (with_reducible refine LeO.bind ?_ (fun _ => ?_))
      | exact ih0 _ _ _
      | exact LeO.none _
      | refine LeO.ite ?_ ?_
      | refine LeO.bind ?_ (fun _ => ?_)
theorem portageref0_CopyOpnds.mono : ∀ a0 k, LeO (portageref0_CopyOpnds.f k a0) (portageref0_CopyOpnds.f (k + 1) a0) := by
  intro a0 k
  have ih0 := portageref0_CopyOpnds.mono_l k
  unfold portageref0_CopyOpnds.f
  repeat' first
      | (with_reducible exact ih0 _ _ _)
      | (with_reducible exact LeO.refl _)
      | (with_reducible exact LeO.none _)
      | (with_reducible refine LeO.ite ?_ ?_)
      | (with_reducible refine LeO.bind ?_ (fun _ => ?_))
      | exact ih0 _ _ _
      | exact LeO.none _
      | refine LeO.ite ?_ ?_
      | refine LeO.bind ?_ (fun _ => ?_)
set_option maxHeartbeats 8000000 in
set_option maxRecDepth 100000 in
theorem portageref0_CopyOpnds.calls (k : Nat) (A0 : Option Addr) (c0 : Nat) (l0 : List (S49)) (r : List (S49)) (w : World) (hr0 : Kd.C k49 w A0 l0.length l0) (hc0 : l0.length ≤ c0) (h : portageref0_CopyOpnds.f k l0 = some r) :
    Calls Try.prog 52 #[.slice A0 l0.length c0] w fun e w' => ∃ v0_ : Value, e = .returned (v0_) ∧ Kd.R k49 49 w' w.heap.size (fun _ => True) v0_ r ∧ Below w.heap.size w w' := by
  have hu49 := Try.underlying49
  have HR0 := Aside0.mk hr0
  have HC0 := Aside0.mk hc0
  clear hr0 hc0
  have HB := Aside0.mk (Below.refl w.heap.size w)
  have H : (portageref0_CopyOpnds.l0 k l0 ([] : List (S49)) 0) = some r := h
  clear h
  have H' := Aside0.mk H
  clear H
  go_enter Try.func52, Try.ntmps52
  go_wp2
  go_loopg [3, 4] k (fun kq v3 v4 w' => ∃ (x3_1 : List (S49)) (x4_1 : Int), v4 = .int .i64 x4_1 ∧ Aside0 (portageref0_CopyOpnds.l0 kq l0 x3_1 x4_1 = some r) ∧ Aside0 (kq ≤ k) ∧ Aside0 (Kd.R k49 49 w' w.heap.size (fun _ => True) v3 x3_1) ∧ Aside0 (Below w.heap.size w w'))
  case atStart => exact ⟨(([] : List (S49))), (0), (by first | rfl | (simp; done) | (simp [*]; done)), H', ⟨Nat.le_refl _⟩, ⟨by first | exact Kd.R_nil _ _ _ _ _ | exact Kd.N_nil _ _ _ _ _ | exact Kd.V_nil _ _ _ _ _ | exact Kd.Q_nil _ _ _ _ _ | exact Kd.S_nil _ _ _ _ _⟩, ⟨by repeat (first | (with_reducible first | exact HB.out | apply below_alloc | apply pw_below_drewN | apply below_drew1) | exact HB.out)⟩⟩
  case round =>
    clear H'
    obtain ⟨x3_1, x4_1, rfl, HA, HK1, HO_3, HB⟩ := hrel
    cases gk with
    | zero => exact absurd HA.out (by simp [portageref0_CopyOpnds.l0])
    | succ k1 =>
      have H := HA.out
      clear HA
      simp only [portageref0_CopyOpnds.l0] at H
      by_cases c2 : x4_1 < (l0.length : Int)
      · rw [if_pos c2] at H
        have c2b0 : decide (x4_1 < (l0.length : Int)) = true := decide_eq_true c2
        clear c2
        by_cases c3 : 0 ≤ x4_1
        · rw [if_pos c3] at H
          have c3b0 : decide (0 ≤ x4_1) = true := decide_eq_true c3
          clear c3
          by_cases c4 : x3_1.length < 8796093022208
          · rw [if_pos c4] at H
            have LMc4 := Aside0.mk c4
            clear c4
            obtain ⟨y108, hy108⟩ : ∃ y_ : List (S49), y_ = (x3_1 ++ [(⟨(rd_T49 l0 x4_1).f0, (rd_T49 l0 x4_1).f1⟩ : S49)]) := ⟨_, rfl⟩
            replace H : (portageref0_CopyOpnds.l0 k1 l0 y108 (wrap64 (x4_1 + 1))) = some r := by first | (rw [hy108]; with_reducible exact H) | (have H2_ := (Option.bind_some _ _).symm.trans H; rw [hy108]; with_reducible exact H2_) | (have H2_ := (Option.bind_some _ _).symm.trans H; with_reducible exact H2_) | with_reducible exact H | (rw [hy108]; exact H) | exact H
            have Ny108 := Aside0.mk hy108
            clear hy108
            have H' := Aside0.mk H
            clear H
            have p107 : 0 ≤ (x4_1 : Int) := of_decide_eq_true (by first | (with_reducible assumption) | assumption)
            have q107 : x4_1 < (l0.length : Int) := of_decide_eq_true (by first | (with_reducible assumption) | assumption)
            obtain ⟨ad107, e107, hx107_0, hx107_1⟩ := at_T49 HR0.out x4_1 p107 q107
            cases e107
            replace hx107_0 := (HB.out.cell (World.block_lt_of_cell? w _ hx107_0)).trans hx107_0
            replace hx107_1 := (HB.out.cell (World.block_lt_of_cell? w _ hx107_1)).trans hx107_1
            replace p107 := eq_true p107
            replace q107 := eq_true q107
            go_wp2_with (first | ((with_reducible refine gate_builtin (b := .append) (xs := #[.tmp 11, .tmp 16]) rfl ?_); at_builtin; refine Kd.R_append k49 (w0 := w) w.heap.size rfl (.tmp 11) (.tmp 16) 44 49 (.agg #[(.int .i64 0), (.int .i64 0)]) 16 rfl Try.underlying44 info49 rfl (by decide) (by omega) u3 x3_1 (⟨(rd_T49 l0 x4_1).f0, (rd_T49 l0 x4_1).f1⟩ : S49) [.int .i64 ((rd_T49 l0 x4_1).f0), .int .i64 ((rd_T49 l0 x4_1).f1)] (fun _ => True) (fun _ => False) rfl rfl ?aP (fun _ hk => hk.elim) ?aF ?aO ?aB ?aS ?aL ?_; (case aP => exact k49_mkM _ _ _ (⟨(rd_T49 l0 x4_1).f0, (rd_T49 l0 x4_1).f1⟩ : S49)); (case aB => exact (by repeat (first | (with_reducible first | exact HB.out | apply below_alloc | apply pw_below_drewN | apply below_drew1) | exact HB.out))); (case aF => exact (fun _ _ => trivial)); (case aO => exact (by (with_reducible repeat (first | apply Kd.R_alloc | apply Kd.R_drewN | apply Kd.R_drew)); exact HO_3.out)); (case aS => exact (below_size (by repeat (first | (with_reducible first | exact HB.out | apply below_alloc | apply pw_below_drewN | apply below_drew1) | exact HB.out)))); (case aL => have := LMc4.out; omega); intro v109 w5 ho hb hg hat; rw [← Ny108.out] at ho; have n0_ := Aside0.mk (hb); have n1_ := Aside0.mk (ho); clear HB; clear HO_3; have HB := n0_; have HO110 := n1_; clear n0_ n1_; clear ho hb hg hat))
            go_roundg k1
            case measure => have := HK1.out; omega
            case rel => exact ⟨(y108), (wrap64 (x4_1 + 1)), (by first | rfl | (simp; done) | (simp [*]; done)), H', ⟨by have := HK1.out; omega⟩, ⟨by (with_reducible repeat (first | apply Kd.R_alloc | apply Kd.R_drewN | apply Kd.R_drew)); exact HO110.out⟩, ⟨by repeat (first | (with_reducible first | exact HB.out | apply below_alloc | apply pw_below_drewN | apply below_drew1) | exact HB.out)⟩⟩
          · rw [if_neg c4] at H
            exact absurd H (by simp)
        · rw [if_neg c3] at H
          exact absurd H (by simp)
      · rw [if_neg c2] at H
        have c2b0 : decide (x4_1 < (l0.length : Int)) = false := decide_eq_false c2
        clear c2
        obtain rfl := Option.some.inj H
        go_wp2
        go_ret
        exact ⟨_, by first | rfl | (simp [errW_none, errW_some] <;> rfl) | (simp [*, errW_none, errW_some] <;> rfl), by (with_reducible repeat (first | apply Kd.R_alloc | apply Kd.R_drewN | apply Kd.R_drew)); exact HO_3.out, by repeat (first | (with_reducible first | exact HB.out | apply below_alloc | apply pw_below_drewN | apply below_drew1) | exact HB.out)⟩

/-! ### portageref0_CopyShapes: function 53 -/
def portageref0_CopyShapes.l0 : Nat → List (S65) → List (S65) → Int → Option ((List (S65)))
  | 0, _, _, _ => none
  | k + 1, x0, x3, x4 => if x4 < (x0.length : Int) then (if 0 ≤ x4 then ((portageref0_CopyOpnds.f k ((rd_T65 x0 x4).f2)).bind fun t114 => (if x3.length < 3518437208883 then (portageref0_CopyShapes.l0 k x0 (x3 ++ [(⟨(rd_T65 x0 x4).f0, (rd_T65 x0 x4).f1, t114⟩ : S65)]) (wrap64 (x4 + 1))) else (none))) else (none)) else (some x3)
def portageref0_CopyShapes.f (k : Nat) (l0 : List (S65)) : Option ((List (S65))) := portageref0_CopyShapes.l0 k l0 ([] : List (S65)) 0
theorem portageref0_CopyShapes.mono_l : ∀ k, (∀ y0 y1 y2, LeO (portageref0_CopyShapes.l0 k y0 y1 y2) (portageref0_CopyShapes.l0 (k + 1) y0 y1 y2))
  | 0 => fun _ _ _ r h => by simp [portageref0_CopyShapes.l0] at h
  | k + 1 => by
    have ih0 := portageref0_CopyShapes.mono_l k
    · intro y0 y1 y2
      unfold portageref0_CopyShapes.l0
      repeat' first
      | (with_reducible exact ih0 _ _ _)
      | (with_reducible exact portageref0_CopyOpnds.mono _ _)
      | (with_reducible exact LeO.refl _)
      | (with_reducible exact LeO.none _)
      | (with_reducible refine LeO.ite ?_ ?_)
      | (with_reducible refine LeO.bind ?_ (fun _ => ?_))
      | exact ih0 _ _ _
      | exact portageref0_CopyOpnds.mono _ _
      | exact LeO.none _
      | refine LeO.ite ?_ ?_
      | refine LeO.bind ?_ (fun _ => ?_)
theorem portageref0_CopyShapes.mono : ∀ a0 k, LeO (portageref0_CopyShapes.f k a0) (portageref0_CopyShapes.f (k + 1) a0) := by
  intro a0 k
  have ih0 := portageref0_CopyShapes.mono_l k
  unfold portageref0_CopyShapes.f
  repeat' first
      | (with_reducible exact ih0 _ _ _)
      | (with_reducible exact portageref0_CopyOpnds.mono _ _)
      | (with_reducible exact LeO.refl _)
      | (with_reducible exact LeO.none _)
      | (with_reducible refine LeO.ite ?_ ?_)
      | (with_reducible refine LeO.bind ?_ (fun _ => ?_))
      | exact ih0 _ _ _
      | exact portageref0_CopyOpnds.mono _ _
      | exact LeO.none _
      | refine LeO.ite ?_ ?_
      | refine LeO.bind ?_ (fun _ => ?_)
set_option maxHeartbeats 8000000 in
set_option maxRecDepth 100000 in
theorem portageref0_CopyShapes.calls (k : Nat) (A0 : Option Addr) (c0 : Nat) (l0 : List (S65)) (r : List (S65)) (w : World) (hr0 : Kd.C k65 w A0 l0.length l0) (hc0 : l0.length ≤ c0) (h : portageref0_CopyShapes.f k l0 = some r) :
    Calls Try.prog 53 #[.slice A0 l0.length c0] w fun e w' => ∃ v0_ : Value, e = .returned (v0_) ∧ Kd.S k65 65 w' w.heap.size (fun _ => True) v0_ r ∧ Below w.heap.size w w' := by
  have hu65 := Try.underlying65
  have HR0 := Aside0.mk hr0
  have HC0 := Aside0.mk hc0
  clear hr0 hc0
  have HB := Aside0.mk (Below.refl w.heap.size w)
  have H : (portageref0_CopyShapes.l0 k l0 ([] : List (S65)) 0) = some r := h
  clear h
  have H' := Aside0.mk H
  clear H
  go_enter Try.func53, Try.ntmps53
  go_wp2
  go_loopg [3, 4] k (fun kq v3 v4 w' => ∃ (x3_1 : List (S65)) (x4_1 : Int), v4 = .int .i64 x4_1 ∧ Aside0 (portageref0_CopyShapes.l0 kq l0 x3_1 x4_1 = some r) ∧ Aside0 (kq ≤ k) ∧ Aside0 (Kd.S k65 65 w' w.heap.size (fun _ => True) v3 x3_1) ∧ Aside0 (Below w.heap.size w w'))
  case atStart => exact ⟨(([] : List (S65))), (0), (by first | rfl | (simp; done) | (simp [*]; done)), H', ⟨Nat.le_refl _⟩, ⟨by first | exact Kd.S_nil _ _ _ _ _ | exact Kd.N_nil _ _ _ _ _ | exact Kd.V_nil _ _ _ _ _ | exact Kd.Q_nil _ _ _ _ _ | exact Kd.R_nil _ _ _ _ _⟩, ⟨by repeat (first | (with_reducible first | exact HB.out | apply below_alloc | apply pw_below_drewN | apply below_drew1) | exact HB.out)⟩⟩
  case round =>
    clear H'
    obtain ⟨x3_1, x4_1, rfl, HA, HK1, HO_3, HB⟩ := hrel
    cases gk with
    | zero => exact absurd HA.out (by simp [portageref0_CopyShapes.l0])
    | succ k1 =>
      have H := HA.out
      clear HA
      simp only [portageref0_CopyShapes.l0] at H
      by_cases c2 : x4_1 < (l0.length : Int)
      · rw [if_pos c2] at H
        have c2b0 : decide (x4_1 < (l0.length : Int)) = true := decide_eq_true c2
        clear c2
        by_cases c3 : 0 ≤ x4_1
        · rw [if_pos c3] at H
          have c3b0 : decide (0 ≤ x4_1) = true := decide_eq_true c3
          clear c3
          replace H := Option.bind_eq_some_iff.mp H
          obtain ⟨t114, A40, H⟩ := H
          replace H : (if x3_1.length < 3518437208883 then (portageref0_CopyShapes.l0 k1 l0 (x3_1 ++ [(⟨(rd_T65 l0 x4_1).f0, (rd_T65 l0 x4_1).f1, t114⟩ : S65)]) (wrap64 (x4_1 + 1))) else (none)) = some r := H
          have A4 := Aside0.mk A40
          clear A40
          by_cases c5 : x3_1.length < 3518437208883
          · rw [if_pos c5] at H
            have LMc5 := Aside0.mk c5
            clear c5
            obtain ⟨y117, hy117⟩ : ∃ y_ : List (S65), y_ = (x3_1 ++ [(⟨(rd_T65 l0 x4_1).f0, (rd_T65 l0 x4_1).f1, t114⟩ : S65)]) := ⟨_, rfl⟩
            replace H : (portageref0_CopyShapes.l0 k1 l0 y117 (wrap64 (x4_1 + 1))) = some r := by first | (rw [hy117]; with_reducible exact H) | (have H2_ := (Option.bind_some _ _).symm.trans H; rw [hy117]; with_reducible exact H2_) | (have H2_ := (Option.bind_some _ _).symm.trans H; with_reducible exact H2_) | with_reducible exact H | (rw [hy117]; exact H) | exact H
            have Ny117 := Aside0.mk hy117
            clear hy117
            have H' := Aside0.mk H
            clear H
            have p111 : 0 ≤ (x4_1 : Int) := of_decide_eq_true (by first | (with_reducible assumption) | assumption)
            have q111 : x4_1 < (l0.length : Int) := of_decide_eq_true (by first | (with_reducible assumption) | assumption)
            obtain ⟨ad111, A111_2, c111_2, e111, hx111_0, hx111_1, hx111_2, hl111_2, hi111_2⟩ := at_T65 HR0.out x4_1 p111 q111
            cases e111
            replace hx111_0 := (HB.out.cell (World.block_lt_of_cell? w _ hx111_0)).trans hx111_0
            replace hx111_1 := (HB.out.cell (World.block_lt_of_cell? w _ hx111_1)).trans hx111_1
            replace hx111_2 := (HB.out.cell (World.block_lt_of_cell? w _ hx111_2)).trans hx111_2
            have HR111_2 := Aside0.mk hi111_2
            have HC111_2 := Aside0.mk hl111_2
            clear hi111_2 hl111_2
            replace p111 := eq_true p111
            replace q111 := eq_true q111
            go_wp2_with (first | ((with_reducible refine gate_dst (N := 5) rfl ?_); refine box_event ?hg (N := 5) ?hd (cs := #[.int .i64 0, .int .i64 0, .slice none 0 0]) (t := 65) ?hr ?_; (case hd => rfl); (case hg => rfl); (case hr => first | (go_simp; done) | (go_simp; rfl)); intro gb112 hg w6 hbox hb; have n0_ := Aside0.mk (Kd.S_below (Kd.S_elderB (by (with_reducible repeat (first | apply Kd.S_alloc | apply Kd.S_drewN | apply Kd.S_drew)); exact HO_3.out) gb112 (Nat.le_of_eq hg.symm)) hb); have n1_ := Aside0.mk (below_step (by repeat (first | (with_reducible first | exact HB.out | apply below_alloc | apply pw_below_drewN | apply below_drew1) | exact HB.out)) hb); have n2_ := Aside0.mk (hbox); have n3_ := Aside0.mk ((by rw [hg]; exact (below_size (by repeat (first | (with_reducible first | exact HB.out | apply below_alloc | apply pw_below_drewN | apply below_drew1) | exact HB.out))) : w.heap.size ≤ gb112)); have n4_ := Aside0.mk ((by rw [hg]; exact (below_size (by repeat (first | (with_reducible first | exact HB.out | apply below_alloc | apply pw_below_drewN | apply below_drew1) | exact HB.out))) : w.heap.size ≤ gb112)); clear HO_3; clear HB; have HO_3 := n0_; have HB := n1_; have BK112 := n2_; have GW112 := n3_; have GE112 := n4_; clear n0_ n1_ n2_ n3_ n4_; clear hb hbox hg; have hcz7_0 : w6.cell? ⟨gb112, 0, none⟩ = some (.int .i64 0) := (blk_cell BK112.out 0).trans rfl; have hcz7_1 : w6.cell? ⟨gb112, 1, none⟩ = some (.int .i64 0) := (blk_cell BK112.out 1).trans rfl; have hcz7_2 : w6.cell? ⟨gb112, 2, none⟩ = some (.slice none 0 0) := (blk_cell BK112.out 2).trans rfl; have hfz7_0 := blk_frozen BK112.out 0; have hfz7_1 := blk_frozen BK112.out 1; have hfz7_2 := blk_frozen BK112.out 2; have p113 : 0 ≤ (x4_1 : Int) := of_decide_eq_true (by first | (with_reducible assumption) | assumption); have q113 : x4_1 < (l0.length : Int) := of_decide_eq_true (by first | (with_reducible assumption) | assumption); obtain ⟨ad113, A113_2, c113_2, e113, hx113_0, hx113_1, hx113_2, hl113_2, hi113_2⟩ := at_T65 HR0.out x4_1 p113 q113; obtain rfl : ad111 = ad113 := (by injection e113); have hn113_0 : ad111.block ≠ gb112 := Nat.ne_of_lt (Nat.lt_of_lt_of_le (by have := World.block_lt_of_cell? _ _ hx113_0; first | rwa [add_block] at this | exact this) GW112.out); have hn113_1 : ad111.block ≠ gb112 := Nat.ne_of_lt (Nat.lt_of_lt_of_le (by have := World.block_lt_of_cell? _ _ hx113_0; first | rwa [add_block] at this | exact this) GW112.out); have hn113_2 : ad111.block ≠ gb112 := Nat.ne_of_lt (Nat.lt_of_lt_of_le (by have := World.block_lt_of_cell? _ _ hx113_0; first | rwa [add_block] at this | exact this) GW112.out); replace hx113_0 := (HB.out.cell (World.block_lt_of_cell? w _ hx113_0)).trans hx113_0; replace hx113_1 := (HB.out.cell (World.block_lt_of_cell? w _ hx113_1)).trans hx113_1; replace hx113_2 := (HB.out.cell (World.block_lt_of_cell? w _ hx113_2)).trans hx113_2; have HR113_2 := Aside0.mk hi113_2; have HC113_2 := Aside0.mk hl113_2; clear hi113_2 hl113_2; replace hx113_0 := (cell_far (p := ⟨gb112, 0, none⟩) (by first | (rw [add_block]; exact hn113_0) | (show (Addr.add _ _).block ≠ _; rw [add_block]; exact hn113_0) | exact hn113_0) (.int .i64 ((rd_T65 l0 x4_1).f0))).trans hx113_0; replace hx113_1 := (cell_far (p := ⟨gb112, 0, none⟩) (by first | (rw [add_block]; exact hn113_0) | (show (Addr.add _ _).block ≠ _; rw [add_block]; exact hn113_0) | exact hn113_0) (.int .i64 ((rd_T65 l0 x4_1).f0))).trans hx113_1; replace hx113_2 := (cell_far (p := ⟨gb112, 0, none⟩) (by first | (rw [add_block]; exact hn113_0) | (show (Addr.add _ _).block ≠ _; rw [add_block]; exact hn113_0) | exact hn113_0) (.int .i64 ((rd_T65 l0 x4_1).f0))).trans hx113_2; replace hx113_0 := (cell_far (p := ⟨gb112, 1, none⟩) (by first | (rw [add_block]; exact hn113_1) | (show (Addr.add _ _).block ≠ _; rw [add_block]; exact hn113_1) | exact hn113_1) (.int .i64 ((rd_T65 l0 x4_1).f1))).trans hx113_0; replace hx113_1 := (cell_far (p := ⟨gb112, 1, none⟩) (by first | (rw [add_block]; exact hn113_1) | (show (Addr.add _ _).block ≠ _; rw [add_block]; exact hn113_1) | exact hn113_1) (.int .i64 ((rd_T65 l0 x4_1).f1))).trans hx113_1; replace hx113_2 := (cell_far (p := ⟨gb112, 1, none⟩) (by first | (rw [add_block]; exact hn113_1) | (show (Addr.add _ _).block ≠ _; rw [add_block]; exact hn113_1) | exact hn113_1) (.int .i64 ((rd_T65 l0 x4_1).f1))).trans hx113_2; replace hx113_0 := (cell_far (p := ⟨gb112, 2, none⟩) (by first | (rw [add_block]; exact hn113_2) | (show (Addr.add _ _).block ≠ _; rw [add_block]; exact hn113_2) | exact hn113_2) (.slice A111_2 ((rd_T65 l0 x4_1).f2).length c111_2)).trans hx113_0; replace hx113_1 := (cell_far (p := ⟨gb112, 2, none⟩) (by first | (rw [add_block]; exact hn113_2) | (show (Addr.add _ _).block ≠ _; rw [add_block]; exact hn113_2) | exact hn113_2) (.slice A111_2 ((rd_T65 l0 x4_1).f2).length c111_2)).trans hx113_1; replace hx113_2 := (cell_far (p := ⟨gb112, 2, none⟩) (by first | (rw [add_block]; exact hn113_2) | (show (Addr.add _ _).block ≠ _; rw [add_block]; exact hn113_2) | exact hn113_2) (.slice A111_2 ((rd_T65 l0 x4_1).f2).length c111_2)).trans hx113_2; clear hn113_0; clear hn113_1; clear hn113_2; replace p113 := eq_true p113; replace q113 := eq_true q113) | ((with_reducible refine gate_callee (f := 52) rfl ?_); refine goesL_ (some 21) rfl rfl Try.func52 (by kernel_rfl) rfl #[.slice A113_2 ((rd_T65 l0 x4_1).f2).length c113_2] rfl (by (try simp only [List.map_toArray, List.map_cons, List.map_nil]); first | done | rfl | (simp only [List.length_drop, List.length_take]; rfl)) ?_; (with_reducible refine (portageref0_CopyOpnds.calls k1 _ _ ((rd_T65 l0 x4_1).f2) t114 _ ?side1 ?side2 A4.out).mono ?_); (case side1 => exact Kd.C_below HR113_2.out (by repeat (first | (with_reducible first | exact HB.out | apply below_alloc | apply pw_below_drewN | apply below_drew1 | refine below_set ?_ GE112.out) | exact HB.out))); (case side2 => exact HC113_2.out); rintro e w8 ⟨v115, rfl, ho0, hb⟩; refine ⟨_, rfl, ?_⟩; have n0_ := Aside0.mk (Kd.S_elder' (by (with_reducible repeat (first | apply Kd.S_alloc | apply Kd.S_drewN | apply Kd.S_drew)); exact (Kd.S_mono (Kd.S_far (p := ⟨gb112, 2, none⟩) (Kd.S_far (p := ⟨gb112, 1, none⟩) (Kd.S_far (p := ⟨gb112, 0, none⟩) (Kd.S_mono HO_3.out (fun k_ hk => (⟨hk, hk.2⟩ : _ ∧ k_ ≠ gb112))) (fun _ hk => hk.2) (.int .i64 ((rd_T65 l0 x4_1).f0))) (fun _ hk => hk.2) (.int .i64 ((rd_T65 l0 x4_1).f1))) (fun _ hk => hk.2) (.slice A111_2 ((rd_T65 l0 x4_1).f2).length c111_2)) (fun _ h_ => h_.1))) (Kd.R_base ho0) hb); have n1_ := Aside0.mk (Kd.R_lower ho0 (below_size (by repeat (first | (with_reducible first | exact HB.out | apply below_alloc | apply pw_below_drewN | apply below_drew1 | refine below_set ?_ GE112.out) | exact HB.out)))); have n2_ := Aside0.mk (blk_below (g := gb112) (o := .cells #[.int .i64 ((rd_T65 l0 x4_1).f0), .int .i64 ((rd_T65 l0 x4_1).f1), .slice A111_2 ((rd_T65 l0 x4_1).f2).length c111_2] 65 (0, 0)) (by (with_reducible repeat (first | refine blk_drewN ?_ _ | refine blk_drew ?_ | refine blk_alloc ?_ _)); refine blk_put (cs := #[.int .i64 ((rd_T65 l0 x4_1).f0), .int .i64 ((rd_T65 l0 x4_1).f1), .slice none 0 0]) ?_ 2 _ rfl; (with_reducible repeat (first | refine blk_drewN ?_ _ | refine blk_drew ?_ | refine blk_alloc ?_ _)); refine blk_put (cs := #[.int .i64 ((rd_T65 l0 x4_1).f0), .int .i64 0, .slice none 0 0]) ?_ 1 _ rfl; (with_reducible repeat (first | refine blk_drewN ?_ _ | refine blk_drew ?_ | refine blk_alloc ?_ _)); refine blk_put (cs := #[.int .i64 0, .int .i64 0, .slice none 0 0]) ?_ 0 _ rfl; (with_reducible repeat (first | refine blk_drewN ?_ _ | refine blk_drew ?_ | refine blk_alloc ?_ _)); exact BK112.out) hb); have n3_ := Aside0.mk (below_step (by repeat (first | (with_reducible first | exact HB.out | apply below_alloc | apply pw_below_drewN | apply below_drew1 | refine below_set ?_ GE112.out) | exact HB.out)) hb); clear HO_3; clear BK112; clear HB; have HO_3 := n0_; have HO116 := n1_; have BK112 := n2_; have HB := n3_; clear n0_ n1_ n2_ n3_; (try clear hb); (try clear hb2); (try clear hk); (try clear hi); (try clear ho0); obtain ⟨Ao9, co9, eo9⟩ := Kd.R_slice HO116.out; subst eo9; have hcz10_0 : w8.cell? ⟨gb112, 0, none⟩ = some (.int .i64 ((rd_T65 l0 x4_1).f0)) := (blk_cell BK112.out 0).trans rfl; have hcz10_1 : w8.cell? ⟨gb112, 1, none⟩ = some (.int .i64 ((rd_T65 l0 x4_1).f1)) := (blk_cell BK112.out 1).trans rfl; have hcz10_2 : w8.cell? ⟨gb112, 2, none⟩ = some (.slice A111_2 ((rd_T65 l0 x4_1).f2).length c111_2) := (blk_cell BK112.out 2).trans rfl; have hfz10_0 := blk_frozen BK112.out 0; have hfz10_1 := blk_frozen BK112.out 1; have hfz10_2 := blk_frozen BK112.out 2) | ((with_reducible refine gate_store (t := 44) (p := 22) rfl ?_); refine store_event (t := 44) (p := 22) (v := ?vo_w11) (w1 := (w8.setCell ⟨gb112, 2, none⟩ (.slice Ao9 t114.length co9))) ?hg ?ho ?hn ?hr ?_; (case ho => rfl); (case hg => rfl); (case hn => rfl); (case hr => first | (go_simp; done) | (go_simp; rfl)); intro w11 hw; have n0_ : Aside0 (Kd.S k65 65 w11 w.heap.size (fun k_ => some k_ ≠ (.slice Ao9 t114.length co9 : Value).ownBlock ∧ k_ ≠ gb112) u3 x3_1) := ⟨(by rw [hw]; exact (by (with_reducible repeat (first | apply Kd.S_alloc | apply Kd.S_drewN | apply Kd.S_drew)); exact Kd.S_mono (Kd.S_far (p := ⟨gb112, 2, none⟩) (Kd.S_mono HO_3.out (fun k_ hk => (⟨hk, hk.1.2⟩ : _ ∧ k_ ≠ gb112))) (fun _ hk => hk.2) (.slice Ao9 t114.length co9)) (fun _ hk => ⟨hk.1.2, hk.1.1.2⟩)))⟩; have n1_ : Aside0 (Kd.R k49 49 w11 w.heap.size (fun _ => True) (.slice Ao9 t114.length co9) t114) := ⟨(by rw [hw]; exact (by (with_reducible repeat (first | apply Kd.R_alloc | apply Kd.R_drewN | apply Kd.R_drew)); exact Kd.R_mono (Kd.R_far (p := ⟨gb112, 2, none⟩) (Kd.R_types HO116.out BK112.out (by decide)) (fun _ hk => hk.2) (.slice Ao9 t114.length co9)) (fun _ hk => trivial)))⟩; have n2_ : Aside0 (w11.heap[gb112]? = some (.cells #[.int .i64 ((rd_T65 l0 x4_1).f0), .int .i64 ((rd_T65 l0 x4_1).f1), .slice Ao9 t114.length co9] 65 (0, 0))) := ⟨(by rw [hw]; exact (by (with_reducible repeat (first | refine blk_drewN ?_ _ | refine blk_drew ?_ | refine blk_alloc ?_ _)); refine blk_put (cs := #[.int .i64 ((rd_T65 l0 x4_1).f0), .int .i64 ((rd_T65 l0 x4_1).f1), .slice A111_2 ((rd_T65 l0 x4_1).f2).length c111_2]) ?_ 2 _ rfl; (with_reducible repeat (first | refine blk_drewN ?_ _ | refine blk_drew ?_ | refine blk_alloc ?_ _)); exact BK112.out))⟩; have n3_ : Aside0 (Below w.heap.size w w11) := ⟨(by rw [hw]; exact (by repeat (first | (with_reducible first | exact HB.out | apply below_alloc | apply pw_below_drewN | apply below_drew1 | refine below_set ?_ GE112.out) | exact HB.out)))⟩; clear hw; clear HO_3; clear HO116; clear BK112; clear HB; have HO_3 := n0_; have HO116 := n1_; have BK112 := n2_; have HB := n3_; clear n0_ n1_ n2_ n3_; have hcz12_0 : w11.cell? ⟨gb112, 0, none⟩ = some (.int .i64 ((rd_T65 l0 x4_1).f0)) := (blk_cell BK112.out 0).trans rfl; have hcz12_1 : w11.cell? ⟨gb112, 1, none⟩ = some (.int .i64 ((rd_T65 l0 x4_1).f1)) := (blk_cell BK112.out 1).trans rfl; have hcz12_2 : w11.cell? ⟨gb112, 2, none⟩ = some (.slice Ao9 t114.length co9) := (blk_cell BK112.out 2).trans rfl; have hfz12_0 := blk_frozen BK112.out 0; have hfz12_1 := blk_frozen BK112.out 1; have hfz12_2 := blk_frozen BK112.out 2) | ((with_reducible refine gate_builtin (b := .append) (xs := #[.tmp 23, .tmp 25]) rfl ?_); at_builtin; refine Kd.S_append k65 (w0 := w) w.heap.size rfl (.tmp 23) (.tmp 25) 45 65 (.agg #[(.int .i64 0), (.int .i64 0), (.slice none 0 0)]) 40 rfl Try.underlying45 info65 rfl (by decide) (by omega) u3 x3_1 (⟨(rd_T65 l0 x4_1).f0, (rd_T65 l0 x4_1).f1, t114⟩ : S65) [.int .i64 ((rd_T65 l0 x4_1).f0), .int .i64 ((rd_T65 l0 x4_1).f1), .slice Ao9 t114.length co9] (fun k_ => k_ ≠ gb112) (fun k_ => some k_ = (.slice Ao9 t114.length co9 : Value).ownBlock) rfl rfl ?aP (fun k_ hk_ => ((Kd.R_mono (ok' := fun k_ => ((fun k_ => k_ ≠ gb112)) k_ ∧ some k_ ≠ (u3 : Value).ownBlock) (Kd.R_types (Kd.R_apart' (HO116.out) (Kd.S_typed HO_3.out) (by decide)) BK112.out (by decide)) (fun k_ hk => ⟨hk.2, hk.1.2⟩))).1 k_ hk_.symm) ?aF ?aO ?aB ?aS ?aL ?_; (case aP => exact k65_mkM _ _ _ (⟨(rd_T65 l0 x4_1).f0, (rd_T65 l0 x4_1).f1, t114⟩ : S65) (Kd.R_mono (Kd.R_tight rfl (Kd.R_mono (ok' := fun k_ => ((fun k_ => k_ ≠ gb112)) k_ ∧ some k_ ≠ (u3 : Value).ownBlock) (Kd.R_types (Kd.R_apart' (HO116.out) (Kd.S_typed HO_3.out) (by decide)) BK112.out (by decide)) (fun k_ hk => ⟨hk.2, hk.1.2⟩))) (fun _ h_ => h_))); (case aB => exact (by repeat (first | (with_reducible first | exact HB.out | apply below_alloc | apply pw_below_drewN | apply below_drew1 | refine below_set ?_ GE112.out) | exact HB.out))); (case aF => exact (fun k_ hk => Kd.freshB (g := gb112) (o := .cells #[.int .i64 ((rd_T65 l0 x4_1).f0), .int .i64 ((rd_T65 l0 x4_1).f1), .slice Ao9 t114.length co9] 65 (0, 0)) (by (with_reducible repeat (first | refine blk_drewN ?_ _ | refine blk_drew ?_ | refine blk_alloc ?_ _)); exact BK112.out) k_ hk)); (case aO => exact (by (with_reducible repeat (first | apply Kd.S_alloc | apply Kd.S_drewN | apply Kd.S_drew)); exact Kd.S_mono HO_3.out (fun k_ hk => ⟨hk.2, fun e_ => hk.1 e_⟩))); (case aS => exact (below_size (by repeat (first | (with_reducible first | exact HB.out | apply below_alloc | apply pw_below_drewN | apply below_drew1 | refine below_set ?_ GE112.out) | exact HB.out)))); (case aL => have := LMc5.out; omega); intro v118 w13 ho hb hg hat; rw [← Ny117.out] at ho; have n0_ := Aside0.mk (blk_grown (g := gb112) (o := .cells #[.int .i64 ((rd_T65 l0 x4_1).f0), .int .i64 ((rd_T65 l0 x4_1).f1), .slice Ao9 t114.length co9] 65 (0, 0)) (by (with_reducible repeat (first | refine blk_drewN ?_ _ | refine blk_drew ?_ | refine blk_alloc ?_ _)); exact BK112.out) hg (Kd.S_away HO_3.out (fun _ hk => hk.2))); have n1_ := Aside0.mk (hb); have n2_ := Aside0.mk (ho); clear BK112; clear HB; clear HO_3; clear HO116; have BK112 := n0_; have HB := n1_; have HO119 := n2_; clear n0_ n1_ n2_; clear ho hb hg hat))
            go_roundg k1
            case measure => have := HK1.out; omega
            case rel => exact ⟨(y117), (wrap64 (x4_1 + 1)), (by first | rfl | (simp; done) | (simp [*]; done)), H', ⟨by have := HK1.out; omega⟩, ⟨by (with_reducible repeat (first | apply Kd.S_alloc | apply Kd.S_drewN | apply Kd.S_drew)); exact Kd.S_mono HO119.out (fun _ hk => trivial)⟩, ⟨by repeat (first | (with_reducible first | exact HB.out | apply below_alloc | apply pw_below_drewN | apply below_drew1 | refine below_set ?_ GE112.out) | exact HB.out)⟩⟩
          · rw [if_neg c5] at H
            exact absurd H (by simp)
        · rw [if_neg c3] at H
          exact absurd H (by simp)
      · rw [if_neg c2] at H
        have c2b0 : decide (x4_1 < (l0.length : Int)) = false := decide_eq_false c2
        clear c2
        obtain rfl := Option.some.inj H
        go_wp2
        go_ret
        exact ⟨_, by first | rfl | (simp [errW_none, errW_some] <;> rfl) | (simp [*, errW_none, errW_some] <;> rfl), by (with_reducible repeat (first | apply Kd.S_alloc | apply Kd.S_drewN | apply Kd.S_drew)); exact HO_3.out, by repeat (first | (with_reducible first | exact HB.out | apply below_alloc | apply pw_below_drewN | apply below_drew1) | exact HB.out)⟩

/-! ### portageref0_CopyIns: function 40 -/
def portageref0_CopyIns.f (k : Nat) (a0_0 : Int) (a0_1 : Int) (a0_2 : Int) (l0_3 : List (S49)) (a0_4 : Int) (a0_5 : Int) (a0_6 : Int) (l0_7 : List (S65)) : Option (Int × Int × Int × (List (S49)) × Int × Int × Int × (List (S65))) := (portageref0_CopyOpnds.f k l0_3).bind fun t123 => ((portageref0_CopyShapes.f k l0_7).bind fun t126 => (some (a0_0, a0_1, a0_2, t123, a0_4, a0_5, a0_6, t126)))
theorem portageref0_CopyIns.mono : ∀ a0 a1 a2 a3 a4 a5 a6 a7 k, LeO (portageref0_CopyIns.f k a0 a1 a2 a3 a4 a5 a6 a7) (portageref0_CopyIns.f (k + 1) a0 a1 a2 a3 a4 a5 a6 a7) := by
  intro a0 a1 a2 a3 a4 a5 a6 a7 k
  unfold portageref0_CopyIns.f
  repeat' first
      | (with_reducible exact portageref0_CopyOpnds.mono _ _)
      | (with_reducible exact portageref0_CopyShapes.mono _ _)
      | (with_reducible exact LeO.refl _)
      | (with_reducible exact LeO.none _)
      | (with_reducible refine LeO.ite ?_ ?_)
      | (with_reducible refine LeO.bind ?_ (fun _ => ?_))
      | exact portageref0_CopyOpnds.mono _ _
      | exact portageref0_CopyShapes.mono _ _
      | exact LeO.none _
      | refine LeO.ite ?_ ?_
      | refine LeO.bind ?_ (fun _ => ?_)
set_option maxHeartbeats 8000000 in
set_option maxRecDepth 100000 in
theorem portageref0_CopyIns.calls (k : Nat) (a0_0 : Int) (a0_1 : Int) (a0_2 : Int) (A0_3 : Option Addr) (c0_3 : Nat) (l0_3 : List (S49)) (a0_4 : Int) (a0_5 : Int) (a0_6 : Int) (A0_7 : Option Addr) (c0_7 : Nat) (l0_7 : List (S65)) (r1 : Int) (r2 : Int) (r3 : Int) (r4 : List (S49)) (r5 : Int) (r6 : Int) (r7 : Int) (r8 : List (S65)) (w : World) (hr0_3 : Kd.C k49 w A0_3 l0_3.length l0_3) (hc0_3 : l0_3.length ≤ c0_3) (hr0_7 : Kd.C k65 w A0_7 l0_7.length l0_7) (hc0_7 : l0_7.length ≤ c0_7) (h : portageref0_CopyIns.f k a0_0 a0_1 a0_2 l0_3 a0_4 a0_5 a0_6 l0_7 = some (r1, r2, r3, r4, r5, r6, r7, r8)) :
    Calls Try.prog 40 #[.agg #[.int .i64 a0_0, .int .i64 a0_1, .int .i64 a0_2, .slice A0_3 l0_3.length c0_3, .int .i64 a0_4, .int .i64 a0_5, .int .i64 a0_6, .slice A0_7 l0_7.length c0_7]] w fun e w' => ∃ v3_ v7_ : Value, e = .returned (.agg #[.int .i64 r1, .int .i64 r2, .int .i64 r3, v3_, .int .i64 r5, .int .i64 r6, .int .i64 r7, v7_]) ∧ Kd.R k49 49 w' w.heap.size (fun _ => True) v3_ r4 ∧ Kd.S k65 65 w' w.heap.size (fun k_ => some k_ ≠ (v3_ : Value).ownBlock) v7_ r8 ∧ Below w.heap.size w w' := by
  have hu47 := Try.underlying47
  have HR0_3 := Aside0.mk hr0_3
  have HC0_3 := Aside0.mk hc0_3
  clear hr0_3 hc0_3
  have HR0_7 := Aside0.mk hr0_7
  have HC0_7 := Aside0.mk hc0_7
  clear hr0_7 hc0_7
  have HB := Aside0.mk (Below.refl w.heap.size w)
  have H : ((portageref0_CopyOpnds.f k l0_3).bind fun t123 => ((portageref0_CopyShapes.f k l0_7).bind fun t126 => (some (a0_0, a0_1, a0_2, t123, a0_4, a0_5, a0_6, t126)))) = some (r1, r2, r3, r4, r5, r6, r7, r8) := h
  clear h
  replace H := Option.bind_eq_some_iff.mp H
  obtain ⟨t123, A20, H⟩ := H
  replace H : ((portageref0_CopyShapes.f k l0_7).bind fun t126 => (some (a0_0, a0_1, a0_2, t123, a0_4, a0_5, a0_6, t126))) = some (r1, r2, r3, r4, r5, r6, r7, r8) := H
  have A2 := Aside0.mk A20
  clear A20
  replace H := Option.bind_eq_some_iff.mp H
  obtain ⟨t126, A30, H⟩ := H
  replace H : (some (a0_0, a0_1, a0_2, t123, a0_4, a0_5, a0_6, t126)) = some (r1, r2, r3, r4, r5, r6, r7, r8) := H
  have A3 := Aside0.mk A30
  clear A30
  simp only [Option.some.injEq, Prod.mk.injEq] at H
  obtain ⟨rfl, rfl, rfl, rfl, rfl, rfl, rfl, rfl⟩ := H
  go_enter Try.func40, Try.ntmps40
  go_wp2_with (first | ((with_reducible refine gate_dst (N := 1) rfl ?_); refine box_event ?hg (N := 1) ?hd (cs := #[.int .i64 a0_0, .int .i64 a0_1, .int .i64 a0_2, .slice A0_3 l0_3.length c0_3, .int .i64 a0_4, .int .i64 a0_5, .int .i64 a0_6, .slice A0_7 l0_7.length c0_7]) (t := 47) ?hr ?_; (case hd => rfl); (case hg => rfl); (case hr => first | (go_simp; done) | (go_simp; rfl)); intro gb120 hg w4 hbox hb; have n0_ := Aside0.mk (below_step (by repeat (first | (with_reducible first | exact HB.out | apply below_alloc | apply pw_below_drewN | apply below_drew1) | exact HB.out)) hb); have n1_ := Aside0.mk (hbox); have n2_ := Aside0.mk ((by rw [hg]; exact (below_size (by repeat (first | (with_reducible first | exact HB.out | apply below_alloc | apply pw_below_drewN | apply below_drew1) | exact HB.out))) : w.heap.size ≤ gb120)); have n3_ := Aside0.mk ((by rw [hg]; exact (below_size (by repeat (first | (with_reducible first | exact HB.out | apply below_alloc | apply pw_below_drewN | apply below_drew1) | exact HB.out))) : w.heap.size ≤ gb120)); clear HB; have HB := n0_; have BK120 := n1_; have GW120 := n2_; have GE120 := n3_; clear n0_ n1_ n2_ n3_; clear hb hbox hg) | ((with_reducible refine gate_dst (N := 2) rfl ?_); refine box_event ?hg (N := 2) ?hd (cs := #[.int .i64 0, .int .i64 0, .int .i64 0, .slice none 0 0, .int .i64 0, .int .i64 0, .int .i64 0, .slice none 0 0]) (t := 47) ?hr ?_; (case hd => rfl); (case hg => rfl); (case hr => first | (go_simp; done) | (go_simp; rfl)); intro gb121 hg w5 hbox hb; have n0_ := Aside0.mk (blk_below (g := gb120) (o := .cells #[.int .i64 a0_0, .int .i64 a0_1, .int .i64 a0_2, .slice A0_3 l0_3.length c0_3, .int .i64 a0_4, .int .i64 a0_5, .int .i64 a0_6, .slice A0_7 l0_7.length c0_7] 47 (0, 0)) (by (with_reducible repeat (first | refine blk_drewN ?_ _ | refine blk_drew ?_ | refine blk_alloc ?_ _)); exact BK120.out) hb); have n1_ := Aside0.mk (below_step (by repeat (first | (with_reducible first | exact HB.out | apply below_alloc | apply pw_below_drewN | apply below_drew1 | refine below_set ?_ GE120.out) | exact HB.out)) hb); have n2_ := Aside0.mk (hbox); have n3_ := Aside0.mk ((by rw [hg]; exact (below_size (by repeat (first | (with_reducible first | exact HB.out | apply below_alloc | apply pw_below_drewN | apply below_drew1 | refine below_set ?_ GE120.out) | exact HB.out))) : w.heap.size ≤ gb121)); have n4_ := Aside0.mk ((by rw [hg]; exact (below_size (by repeat (first | (with_reducible first | exact HB.out | apply below_alloc | apply pw_below_drewN | apply below_drew1 | refine below_set ?_ GE120.out) | exact HB.out))) : w.heap.size ≤ gb121)); have n5_ := Aside0.mk ((by rw [hg]; exact Nat.ne_of_lt (blk_lt (g := gb120) (o := .cells #[.int .i64 a0_0, .int .i64 a0_1, .int .i64 a0_2, .slice A0_3 l0_3.length c0_3, .int .i64 a0_4, .int .i64 a0_5, .int .i64 a0_6, .slice A0_7 l0_7.length c0_7] 47 (0, 0)) (by (with_reducible repeat (first | refine blk_drewN ?_ _ | refine blk_drew ?_ | refine blk_alloc ?_ _)); exact BK120.out)) : gb120 ≠ gb121)); have n6_ := Aside0.mk ((by rw [hg]; exact Nat.ne_of_gt (blk_lt (g := gb120) (o := .cells #[.int .i64 a0_0, .int .i64 a0_1, .int .i64 a0_2, .slice A0_3 l0_3.length c0_3, .int .i64 a0_4, .int .i64 a0_5, .int .i64 a0_6, .slice A0_7 l0_7.length c0_7] 47 (0, 0)) (by (with_reducible repeat (first | refine blk_drewN ?_ _ | refine blk_drew ?_ | refine blk_alloc ?_ _)); exact BK120.out)) : gb121 ≠ gb120)); clear BK120; clear HB; have BK120 := n0_; have HB := n1_; have BK121 := n2_; have GW121 := n3_; have GE121 := n4_; have NB120_121 := n5_; have NB121_120 := n6_; clear n0_ n1_ n2_ n3_ n4_ n5_ n6_; clear hb hbox hg; have hnb6 := NB120_121.out; have hnc6 := NB121_120.out; have hcz7_0 : w5.cell? ⟨gb120, 0, none⟩ = some (.int .i64 a0_0) := (blk_cell BK120.out 0).trans rfl; have hcz7_1 : w5.cell? ⟨gb120, 1, none⟩ = some (.int .i64 a0_1) := (blk_cell BK120.out 1).trans rfl; have hcz7_2 : w5.cell? ⟨gb120, 2, none⟩ = some (.int .i64 a0_2) := (blk_cell BK120.out 2).trans rfl; have hcz7_3 : w5.cell? ⟨gb120, 3, none⟩ = some (.slice A0_3 l0_3.length c0_3) := (blk_cell BK120.out 3).trans rfl; have hcz7_4 : w5.cell? ⟨gb120, 4, none⟩ = some (.int .i64 a0_4) := (blk_cell BK120.out 4).trans rfl; have hcz7_5 : w5.cell? ⟨gb120, 5, none⟩ = some (.int .i64 a0_5) := (blk_cell BK120.out 5).trans rfl; have hcz7_6 : w5.cell? ⟨gb120, 6, none⟩ = some (.int .i64 a0_6) := (blk_cell BK120.out 6).trans rfl; have hcz7_7 : w5.cell? ⟨gb120, 7, none⟩ = some (.slice A0_7 l0_7.length c0_7) := (blk_cell BK120.out 7).trans rfl; have hfz7_0 := blk_frozen BK120.out 0; have hfz7_1 := blk_frozen BK120.out 1; have hfz7_2 := blk_frozen BK120.out 2; have hfz7_3 := blk_frozen BK120.out 3; have hfz7_4 := blk_frozen BK120.out 4; have hfz7_5 := blk_frozen BK120.out 5; have hfz7_6 := blk_frozen BK120.out 6; have hfz7_7 := blk_frozen BK120.out 7) | ((with_reducible refine gate_dst (N := 3) rfl ?_); refine box_event ?hg (N := 3) ?hd (cs := #[.int .i64 0, .int .i64 0, .int .i64 0, .slice none 0 0, .int .i64 0, .int .i64 0, .int .i64 0, .slice none 0 0]) (t := 47) ?hr ?_; (case hd => rfl); (case hg => rfl); (case hr => first | (go_simp; done) | (go_simp; rfl)); intro gb122 hg w8 hbox hb; have n0_ := Aside0.mk (blk_below (g := gb120) (o := .cells #[.int .i64 a0_0, .int .i64 a0_1, .int .i64 a0_2, .slice A0_3 l0_3.length c0_3, .int .i64 a0_4, .int .i64 a0_5, .int .i64 a0_6, .slice A0_7 l0_7.length c0_7] 47 (0, 0)) (by (with_reducible repeat (first | refine blk_drewN ?_ _ | refine blk_drew ?_ | refine blk_alloc ?_ _)); exact BK120.out) hb); have n1_ := Aside0.mk (blk_below (g := gb121) (o := .cells #[.int .i64 0, .int .i64 0, .int .i64 0, .slice none 0 0, .int .i64 0, .int .i64 0, .int .i64 0, .slice none 0 0] 47 (0, 0)) (by (with_reducible repeat (first | refine blk_drewN ?_ _ | refine blk_drew ?_ | refine blk_alloc ?_ _)); exact BK121.out) hb); have n2_ := Aside0.mk (below_step (by repeat (first | (with_reducible first | exact HB.out | apply below_alloc | apply pw_below_drewN | apply below_drew1 | refine below_set ?_ GE120.out | refine below_set ?_ GE121.out) | exact HB.out)) hb); have n3_ := Aside0.mk (hbox); have n4_ := Aside0.mk ((by rw [hg]; exact (below_size (by repeat (first | (with_reducible first | exact HB.out | apply below_alloc | apply pw_below_drewN | apply below_drew1 | refine below_set ?_ GE120.out | refine below_set ?_ GE121.out) | exact HB.out))) : w.heap.size ≤ gb122)); have n5_ := Aside0.mk ((by rw [hg]; exact (below_size (by repeat (first | (with_reducible first | exact HB.out | apply below_alloc | apply pw_below_drewN | apply below_drew1 | refine below_set ?_ GE120.out | refine below_set ?_ GE121.out) | exact HB.out))) : w.heap.size ≤ gb122)); have n6_ := Aside0.mk ((by rw [hg]; exact Nat.ne_of_lt (blk_lt (g := gb120) (o := .cells #[.int .i64 a0_0, .int .i64 a0_1, .int .i64 a0_2, .slice A0_3 l0_3.length c0_3, .int .i64 a0_4, .int .i64 a0_5, .int .i64 a0_6, .slice A0_7 l0_7.length c0_7] 47 (0, 0)) (by (with_reducible repeat (first | refine blk_drewN ?_ _ | refine blk_drew ?_ | refine blk_alloc ?_ _)); exact BK120.out)) : gb120 ≠ gb122)); have n7_ := Aside0.mk ((by rw [hg]; exact Nat.ne_of_gt (blk_lt (g := gb120) (o := .cells #[.int .i64 a0_0, .int .i64 a0_1, .int .i64 a0_2, .slice A0_3 l0_3.length c0_3, .int .i64 a0_4, .int .i64 a0_5, .int .i64 a0_6, .slice A0_7 l0_7.length c0_7] 47 (0, 0)) (by (with_reducible repeat (first | refine blk_drewN ?_ _ | refine blk_drew ?_ | refine blk_alloc ?_ _)); exact BK120.out)) : gb122 ≠ gb120)); have n8_ := Aside0.mk ((by rw [hg]; exact Nat.ne_of_lt (blk_lt (g := gb121) (o := .cells #[.int .i64 0, .int .i64 0, .int .i64 0, .slice none 0 0, .int .i64 0, .int .i64 0, .int .i64 0, .slice none 0 0] 47 (0, 0)) (by (with_reducible repeat (first | refine blk_drewN ?_ _ | refine blk_drew ?_ | refine blk_alloc ?_ _)); exact BK121.out)) : gb121 ≠ gb122)); have n9_ := Aside0.mk ((by rw [hg]; exact Nat.ne_of_gt (blk_lt (g := gb121) (o := .cells #[.int .i64 0, .int .i64 0, .int .i64 0, .slice none 0 0, .int .i64 0, .int .i64 0, .int .i64 0, .slice none 0 0] 47 (0, 0)) (by (with_reducible repeat (first | refine blk_drewN ?_ _ | refine blk_drew ?_ | refine blk_alloc ?_ _)); exact BK121.out)) : gb122 ≠ gb121)); clear BK120; clear BK121; clear HB; have BK120 := n0_; have BK121 := n1_; have HB := n2_; have BK122 := n3_; have GW122 := n4_; have GE122 := n5_; have NB120_122 := n6_; have NB122_120 := n7_; have NB121_122 := n8_; have NB122_121 := n9_; clear n0_ n1_ n2_ n3_ n4_ n5_ n6_ n7_ n8_ n9_; clear hb hbox hg; have hnb9 := NB122_120.out; have hnc9 := NB120_122.out; have hnb10 := NB122_121.out; have hnc10 := NB121_122.out; have hcz11_0 : w8.cell? ⟨gb122, 0, none⟩ = some (.int .i64 0) := (blk_cell BK122.out 0).trans rfl; have hcz11_1 : w8.cell? ⟨gb122, 1, none⟩ = some (.int .i64 0) := (blk_cell BK122.out 1).trans rfl; have hcz11_2 : w8.cell? ⟨gb122, 2, none⟩ = some (.int .i64 0) := (blk_cell BK122.out 2).trans rfl; have hcz11_3 : w8.cell? ⟨gb122, 3, none⟩ = some (.slice none 0 0) := (blk_cell BK122.out 3).trans rfl; have hcz11_4 : w8.cell? ⟨gb122, 4, none⟩ = some (.int .i64 0) := (blk_cell BK122.out 4).trans rfl; have hcz11_5 : w8.cell? ⟨gb122, 5, none⟩ = some (.int .i64 0) := (blk_cell BK122.out 5).trans rfl; have hcz11_6 : w8.cell? ⟨gb122, 6, none⟩ = some (.int .i64 0) := (blk_cell BK122.out 6).trans rfl; have hcz11_7 : w8.cell? ⟨gb122, 7, none⟩ = some (.slice none 0 0) := (blk_cell BK122.out 7).trans rfl; have hfz11_0 := blk_frozen BK122.out 0; have hfz11_1 := blk_frozen BK122.out 1; have hfz11_2 := blk_frozen BK122.out 2; have hfz11_3 := blk_frozen BK122.out 3; have hfz11_4 := blk_frozen BK122.out 4; have hfz11_5 := blk_frozen BK122.out 5; have hfz11_6 := blk_frozen BK122.out 6; have hfz11_7 := blk_frozen BK122.out 7; have hcz12_0 : w8.cell? ⟨gb120, 0, none⟩ = some (.int .i64 a0_0) := (blk_cell BK120.out 0).trans rfl; have hcz12_1 : w8.cell? ⟨gb120, 1, none⟩ = some (.int .i64 a0_1) := (blk_cell BK120.out 1).trans rfl; have hcz12_2 : w8.cell? ⟨gb120, 2, none⟩ = some (.int .i64 a0_2) := (blk_cell BK120.out 2).trans rfl; have hcz12_3 : w8.cell? ⟨gb120, 3, none⟩ = some (.slice A0_3 l0_3.length c0_3) := (blk_cell BK120.out 3).trans rfl; have hcz12_4 : w8.cell? ⟨gb120, 4, none⟩ = some (.int .i64 a0_4) := (blk_cell BK120.out 4).trans rfl; have hcz12_5 : w8.cell? ⟨gb120, 5, none⟩ = some (.int .i64 a0_5) := (blk_cell BK120.out 5).trans rfl; have hcz12_6 : w8.cell? ⟨gb120, 6, none⟩ = some (.int .i64 a0_6) := (blk_cell BK120.out 6).trans rfl; have hcz12_7 : w8.cell? ⟨gb120, 7, none⟩ = some (.slice A0_7 l0_7.length c0_7) := (blk_cell BK120.out 7).trans rfl; have hfz12_0 := blk_frozen BK120.out 0; have hfz12_1 := blk_frozen BK120.out 1; have hfz12_2 := blk_frozen BK120.out 2; have hfz12_3 := blk_frozen BK120.out 3; have hfz12_4 := blk_frozen BK120.out 4; have hfz12_5 := blk_frozen BK120.out 5; have hfz12_6 := blk_frozen BK120.out 6; have hfz12_7 := blk_frozen BK120.out 7) | ((with_reducible refine gate_callee (f := 52) rfl ?_); refine goesL_ (some 7) rfl rfl Try.func52 (by kernel_rfl) rfl #[.slice A0_3 l0_3.length c0_3] rfl (by (try simp only [List.map_toArray, List.map_cons, List.map_nil]); first | done | rfl | (simp only [List.length_drop, List.length_take]; rfl)) ?_; (with_reducible refine (portageref0_CopyOpnds.calls k _ _ l0_3 t123 _ ?side1 ?side2 A2.out).mono ?_); (case side1 => exact Kd.C_below HR0_3.out (by repeat (first | (with_reducible first | exact HB.out | apply below_alloc | apply pw_below_drewN | apply below_drew1 | refine below_set ?_ GE120.out | refine below_set ?_ GE121.out | refine below_set ?_ GE122.out) | exact HB.out))); (case side2 => exact HC0_3.out); rintro e w13 ⟨v124, rfl, ho0, hb⟩; refine ⟨_, rfl, ?_⟩; have n0_ := Aside0.mk (Kd.R_lower ho0 (below_size (by repeat (first | (with_reducible first | exact HB.out | apply below_alloc | apply pw_below_drewN | apply below_drew1 | refine below_set ?_ GE120.out | refine below_set ?_ GE121.out | refine below_set ?_ GE122.out) | exact HB.out)))); have n1_ := Aside0.mk (blk_below (g := gb120) (o := .cells #[.int .i64 a0_0, .int .i64 a0_1, .int .i64 a0_2, .slice A0_3 l0_3.length c0_3, .int .i64 a0_4, .int .i64 a0_5, .int .i64 a0_6, .slice A0_7 l0_7.length c0_7] 47 (0, 0)) (by (with_reducible repeat (first | refine blk_drewN ?_ _ | refine blk_drew ?_ | refine blk_alloc ?_ _)); refine blk_far ?_ NB120_122.out _; (with_reducible repeat (first | refine blk_drewN ?_ _ | refine blk_drew ?_ | refine blk_alloc ?_ _)); refine blk_far ?_ NB120_122.out _; (with_reducible repeat (first | refine blk_drewN ?_ _ | refine blk_drew ?_ | refine blk_alloc ?_ _)); refine blk_far ?_ NB120_122.out _; (with_reducible repeat (first | refine blk_drewN ?_ _ | refine blk_drew ?_ | refine blk_alloc ?_ _)); refine blk_far ?_ NB120_122.out _; (with_reducible repeat (first | refine blk_drewN ?_ _ | refine blk_drew ?_ | refine blk_alloc ?_ _)); refine blk_far ?_ NB120_122.out _; (with_reducible repeat (first | refine blk_drewN ?_ _ | refine blk_drew ?_ | refine blk_alloc ?_ _)); refine blk_far ?_ NB120_122.out _; (with_reducible repeat (first | refine blk_drewN ?_ _ | refine blk_drew ?_ | refine blk_alloc ?_ _)); refine blk_far ?_ NB120_122.out _; (with_reducible repeat (first | refine blk_drewN ?_ _ | refine blk_drew ?_ | refine blk_alloc ?_ _)); refine blk_far ?_ NB120_122.out _; (with_reducible repeat (first | refine blk_drewN ?_ _ | refine blk_drew ?_ | refine blk_alloc ?_ _)); exact BK120.out) hb); have n2_ := Aside0.mk (blk_below (g := gb121) (o := .cells #[.int .i64 0, .int .i64 0, .int .i64 0, .slice none 0 0, .int .i64 0, .int .i64 0, .int .i64 0, .slice none 0 0] 47 (0, 0)) (by (with_reducible repeat (first | refine blk_drewN ?_ _ | refine blk_drew ?_ | refine blk_alloc ?_ _)); refine blk_far ?_ NB121_122.out _; (with_reducible repeat (first | refine blk_drewN ?_ _ | refine blk_drew ?_ | refine blk_alloc ?_ _)); refine blk_far ?_ NB121_122.out _; (with_reducible repeat (first | refine blk_drewN ?_ _ | refine blk_drew ?_ | refine blk_alloc ?_ _)); refine blk_far ?_ NB121_122.out _; (with_reducible repeat (first | refine blk_drewN ?_ _ | refine blk_drew ?_ | refine blk_alloc ?_ _)); refine blk_far ?_ NB121_122.out _; (with_reducible repeat (first | refine blk_drewN ?_ _ | refine blk_drew ?_ | refine blk_alloc ?_ _)); refine blk_far ?_ NB121_122.out _; (with_reducible repeat (first | refine blk_drewN ?_ _ | refine blk_drew ?_ | refine blk_alloc ?_ _)); refine blk_far ?_ NB121_122.out _; (with_reducible repeat (first | refine blk_drewN ?_ _ | refine blk_drew ?_ | refine blk_alloc ?_ _)); refine blk_far ?_ NB121_122.out _; (with_reducible repeat (first | refine blk_drewN ?_ _ | refine blk_drew ?_ | refine blk_alloc ?_ _)); refine blk_far ?_ NB121_122.out _; (with_reducible repeat (first | refine blk_drewN ?_ _ | refine blk_drew ?_ | refine blk_alloc ?_ _)); exact BK121.out) hb); have n3_ := Aside0.mk (blk_below (g := gb122) (o := .cells #[.int .i64 a0_0, .int .i64 a0_1, .int .i64 a0_2, .slice A0_3 l0_3.length c0_3, .int .i64 a0_4, .int .i64 a0_5, .int .i64 a0_6, .slice A0_7 l0_7.length c0_7] 47 (0, 0)) (by (with_reducible repeat (first | refine blk_drewN ?_ _ | refine blk_drew ?_ | refine blk_alloc ?_ _)); refine blk_put (cs := #[.int .i64 a0_0, .int .i64 a0_1, .int .i64 a0_2, .slice A0_3 l0_3.length c0_3, .int .i64 a0_4, .int .i64 a0_5, .int .i64 a0_6, .slice none 0 0]) ?_ 7 _ rfl; (with_reducible repeat (first | refine blk_drewN ?_ _ | refine blk_drew ?_ | refine blk_alloc ?_ _)); refine blk_put (cs := #[.int .i64 a0_0, .int .i64 a0_1, .int .i64 a0_2, .slice A0_3 l0_3.length c0_3, .int .i64 a0_4, .int .i64 a0_5, .int .i64 0, .slice none 0 0]) ?_ 6 _ rfl; (with_reducible repeat (first | refine blk_drewN ?_ _ | refine blk_drew ?_ | refine blk_alloc ?_ _)); refine blk_put (cs := #[.int .i64 a0_0, .int .i64 a0_1, .int .i64 a0_2, .slice A0_3 l0_3.length c0_3, .int .i64 a0_4, .int .i64 0, .int .i64 0, .slice none 0 0]) ?_ 5 _ rfl; (with_reducible repeat (first | refine blk_drewN ?_ _ | refine blk_drew ?_ | refine blk_alloc ?_ _)); refine blk_put (cs := #[.int .i64 a0_0, .int .i64 a0_1, .int .i64 a0_2, .slice A0_3 l0_3.length c0_3, .int .i64 0, .int .i64 0, .int .i64 0, .slice none 0 0]) ?_ 4 _ rfl; (with_reducible repeat (first | refine blk_drewN ?_ _ | refine blk_drew ?_ | refine blk_alloc ?_ _)); refine blk_put (cs := #[.int .i64 a0_0, .int .i64 a0_1, .int .i64 a0_2, .slice none 0 0, .int .i64 0, .int .i64 0, .int .i64 0, .slice none 0 0]) ?_ 3 _ rfl; (with_reducible repeat (first | refine blk_drewN ?_ _ | refine blk_drew ?_ | refine blk_alloc ?_ _)); refine blk_put (cs := #[.int .i64 a0_0, .int .i64 a0_1, .int .i64 0, .slice none 0 0, .int .i64 0, .int .i64 0, .int .i64 0, .slice none 0 0]) ?_ 2 _ rfl; (with_reducible repeat (first | refine blk_drewN ?_ _ | refine blk_drew ?_ | refine blk_alloc ?_ _)); refine blk_put (cs := #[.int .i64 a0_0, .int .i64 0, .int .i64 0, .slice none 0 0, .int .i64 0, .int .i64 0, .int .i64 0, .slice none 0 0]) ?_ 1 _ rfl; (with_reducible repeat (first | refine blk_drewN ?_ _ | refine blk_drew ?_ | refine blk_alloc ?_ _)); refine blk_put (cs := #[.int .i64 0, .int .i64 0, .int .i64 0, .slice none 0 0, .int .i64 0, .int .i64 0, .int .i64 0, .slice none 0 0]) ?_ 0 _ rfl; (with_reducible repeat (first | refine blk_drewN ?_ _ | refine blk_drew ?_ | refine blk_alloc ?_ _)); exact BK122.out) hb); have n4_ := Aside0.mk (below_step (by repeat (first | (with_reducible first | exact HB.out | apply below_alloc | apply pw_below_drewN | apply below_drew1 | refine below_set ?_ GE120.out | refine below_set ?_ GE121.out | refine below_set ?_ GE122.out) | exact HB.out)) hb); clear BK120; clear BK121; clear BK122; clear HB; have HO125 := n0_; have BK120 := n1_; have BK121 := n2_; have BK122 := n3_; have HB := n4_; clear n0_ n1_ n2_ n3_ n4_; (try clear hb); (try clear hb2); (try clear hk); (try clear hi); (try clear ho0); obtain ⟨Ao14, co14, eo14⟩ := Kd.R_slice HO125.out; subst eo14; have hcz15_0 : w13.cell? ⟨gb122, 0, none⟩ = some (.int .i64 a0_0) := (blk_cell BK122.out 0).trans rfl; have hcz15_1 : w13.cell? ⟨gb122, 1, none⟩ = some (.int .i64 a0_1) := (blk_cell BK122.out 1).trans rfl; have hcz15_2 : w13.cell? ⟨gb122, 2, none⟩ = some (.int .i64 a0_2) := (blk_cell BK122.out 2).trans rfl; have hcz15_3 : w13.cell? ⟨gb122, 3, none⟩ = some (.slice A0_3 l0_3.length c0_3) := (blk_cell BK122.out 3).trans rfl; have hcz15_4 : w13.cell? ⟨gb122, 4, none⟩ = some (.int .i64 a0_4) := (blk_cell BK122.out 4).trans rfl; have hcz15_5 : w13.cell? ⟨gb122, 5, none⟩ = some (.int .i64 a0_5) := (blk_cell BK122.out 5).trans rfl; have hcz15_6 : w13.cell? ⟨gb122, 6, none⟩ = some (.int .i64 a0_6) := (blk_cell BK122.out 6).trans rfl; have hcz15_7 : w13.cell? ⟨gb122, 7, none⟩ = some (.slice A0_7 l0_7.length c0_7) := (blk_cell BK122.out 7).trans rfl; have hfz15_0 := blk_frozen BK122.out 0; have hfz15_1 := blk_frozen BK122.out 1; have hfz15_2 := blk_frozen BK122.out 2; have hfz15_3 := blk_frozen BK122.out 3; have hfz15_4 := blk_frozen BK122.out 4; have hfz15_5 := blk_frozen BK122.out 5; have hfz15_6 := blk_frozen BK122.out 6; have hfz15_7 := blk_frozen BK122.out 7; have hcz16_0 : w13.cell? ⟨gb120, 0, none⟩ = some (.int .i64 a0_0) := (blk_cell BK120.out 0).trans rfl; have hcz16_1 : w13.cell? ⟨gb120, 1, none⟩ = some (.int .i64 a0_1) := (blk_cell BK120.out 1).trans rfl; have hcz16_2 : w13.cell? ⟨gb120, 2, none⟩ = some (.int .i64 a0_2) := (blk_cell BK120.out 2).trans rfl; have hcz16_3 : w13.cell? ⟨gb120, 3, none⟩ = some (.slice A0_3 l0_3.length c0_3) := (blk_cell BK120.out 3).trans rfl; have hcz16_4 : w13.cell? ⟨gb120, 4, none⟩ = some (.int .i64 a0_4) := (blk_cell BK120.out 4).trans rfl; have hcz16_5 : w13.cell? ⟨gb120, 5, none⟩ = some (.int .i64 a0_5) := (blk_cell BK120.out 5).trans rfl; have hcz16_6 : w13.cell? ⟨gb120, 6, none⟩ = some (.int .i64 a0_6) := (blk_cell BK120.out 6).trans rfl; have hcz16_7 : w13.cell? ⟨gb120, 7, none⟩ = some (.slice A0_7 l0_7.length c0_7) := (blk_cell BK120.out 7).trans rfl; have hfz16_0 := blk_frozen BK120.out 0; have hfz16_1 := blk_frozen BK120.out 1; have hfz16_2 := blk_frozen BK120.out 2; have hfz16_3 := blk_frozen BK120.out 3; have hfz16_4 := blk_frozen BK120.out 4; have hfz16_5 := blk_frozen BK120.out 5; have hfz16_6 := blk_frozen BK120.out 6; have hfz16_7 := blk_frozen BK120.out 7) | ((with_reducible refine gate_callee (f := 53) rfl ?_); refine goesL_ (some 11) rfl rfl Try.func53 (by kernel_rfl) rfl #[.slice A0_7 l0_7.length c0_7] rfl (by (try simp only [List.map_toArray, List.map_cons, List.map_nil]); first | done | rfl | (simp only [List.length_drop, List.length_take]; rfl)) ?_; (with_reducible refine (portageref0_CopyShapes.calls k _ _ l0_7 t126 _ ?side1 ?side2 A3.out).mono ?_); (case side1 => exact Kd.C_below HR0_7.out (by repeat (first | (with_reducible first | exact HB.out | apply below_alloc | apply pw_below_drewN | apply below_drew1 | refine below_set ?_ GE120.out | refine below_set ?_ GE121.out | refine below_set ?_ GE122.out) | exact HB.out))); (case side2 => exact HC0_7.out); rintro e w17 ⟨v127, rfl, ho0, hb⟩; refine ⟨_, rfl, ?_⟩; have n0_ := Aside0.mk (Kd.R_below (by (with_reducible repeat (first | apply Kd.R_alloc | apply Kd.R_drewN | apply Kd.R_drew)); exact (Kd.R_mono (Kd.R_far (p := ⟨gb122, 3, none⟩) (Kd.R_types HO125.out BK122.out (by decide)) (fun _ hk => hk.2) (.slice Ao14 t123.length co14)) (fun _ h_ => h_.1))) hb); have n1_ := Aside0.mk (Kd.S_lower (Kd.S_new' ho0 (Kd.R_lt (by (with_reducible repeat (first | apply Kd.R_alloc | apply Kd.R_drewN | apply Kd.R_drew)); exact (Kd.R_mono (Kd.R_far (p := ⟨gb122, 3, none⟩) (Kd.R_types HO125.out BK122.out (by decide)) (fun _ hk => hk.2) (.slice Ao14 t123.length co14)) (fun _ h_ => h_.1))))) (below_size (by repeat (first | (with_reducible first | exact HB.out | apply below_alloc | apply pw_below_drewN | apply below_drew1 | refine below_set ?_ GE120.out | refine below_set ?_ GE121.out | refine below_set ?_ GE122.out) | exact HB.out)))); have n2_ := Aside0.mk (blk_below (g := gb120) (o := .cells #[.int .i64 a0_0, .int .i64 a0_1, .int .i64 a0_2, .slice A0_3 l0_3.length c0_3, .int .i64 a0_4, .int .i64 a0_5, .int .i64 a0_6, .slice A0_7 l0_7.length c0_7] 47 (0, 0)) (by (with_reducible repeat (first | refine blk_drewN ?_ _ | refine blk_drew ?_ | refine blk_alloc ?_ _)); refine blk_far ?_ NB120_122.out _; (with_reducible repeat (first | refine blk_drewN ?_ _ | refine blk_drew ?_ | refine blk_alloc ?_ _)); exact BK120.out) hb); have n3_ := Aside0.mk (blk_below (g := gb121) (o := .cells #[.int .i64 0, .int .i64 0, .int .i64 0, .slice none 0 0, .int .i64 0, .int .i64 0, .int .i64 0, .slice none 0 0] 47 (0, 0)) (by (with_reducible repeat (first | refine blk_drewN ?_ _ | refine blk_drew ?_ | refine blk_alloc ?_ _)); refine blk_far ?_ NB121_122.out _; (with_reducible repeat (first | refine blk_drewN ?_ _ | refine blk_drew ?_ | refine blk_alloc ?_ _)); exact BK121.out) hb); have n4_ := Aside0.mk (blk_below (g := gb122) (o := .cells #[.int .i64 a0_0, .int .i64 a0_1, .int .i64 a0_2, .slice Ao14 t123.length co14, .int .i64 a0_4, .int .i64 a0_5, .int .i64 a0_6, .slice A0_7 l0_7.length c0_7] 47 (0, 0)) (by (with_reducible repeat (first | refine blk_drewN ?_ _ | refine blk_drew ?_ | refine blk_alloc ?_ _)); refine blk_put (cs := #[.int .i64 a0_0, .int .i64 a0_1, .int .i64 a0_2, .slice A0_3 l0_3.length c0_3, .int .i64 a0_4, .int .i64 a0_5, .int .i64 a0_6, .slice A0_7 l0_7.length c0_7]) ?_ 3 _ rfl; (with_reducible repeat (first | refine blk_drewN ?_ _ | refine blk_drew ?_ | refine blk_alloc ?_ _)); exact BK122.out) hb); have n5_ := Aside0.mk (below_step (by repeat (first | (with_reducible first | exact HB.out | apply below_alloc | apply pw_below_drewN | apply below_drew1 | refine below_set ?_ GE120.out | refine below_set ?_ GE121.out | refine below_set ?_ GE122.out) | exact HB.out)) hb); clear HO125; clear BK120; clear BK121; clear BK122; clear HB; have HO125 := n0_; have HO128 := n1_; have BK120 := n2_; have BK121 := n3_; have BK122 := n4_; have HB := n5_; clear n0_ n1_ n2_ n3_ n4_ n5_; (try clear hb); (try clear hb2); (try clear hk); (try clear hi); (try clear ho0); obtain ⟨Ao18, co18, eo18⟩ := Kd.S_slice HO128.out; subst eo18; have hcz19_0 : w17.cell? ⟨gb122, 0, none⟩ = some (.int .i64 a0_0) := (blk_cell BK122.out 0).trans rfl; have hcz19_1 : w17.cell? ⟨gb122, 1, none⟩ = some (.int .i64 a0_1) := (blk_cell BK122.out 1).trans rfl; have hcz19_2 : w17.cell? ⟨gb122, 2, none⟩ = some (.int .i64 a0_2) := (blk_cell BK122.out 2).trans rfl; have hcz19_3 : w17.cell? ⟨gb122, 3, none⟩ = some (.slice Ao14 t123.length co14) := (blk_cell BK122.out 3).trans rfl; have hcz19_4 : w17.cell? ⟨gb122, 4, none⟩ = some (.int .i64 a0_4) := (blk_cell BK122.out 4).trans rfl; have hcz19_5 : w17.cell? ⟨gb122, 5, none⟩ = some (.int .i64 a0_5) := (blk_cell BK122.out 5).trans rfl; have hcz19_6 : w17.cell? ⟨gb122, 6, none⟩ = some (.int .i64 a0_6) := (blk_cell BK122.out 6).trans rfl; have hcz19_7 : w17.cell? ⟨gb122, 7, none⟩ = some (.slice A0_7 l0_7.length c0_7) := (blk_cell BK122.out 7).trans rfl; have hfz19_0 := blk_frozen BK122.out 0; have hfz19_1 := blk_frozen BK122.out 1; have hfz19_2 := blk_frozen BK122.out 2; have hfz19_3 := blk_frozen BK122.out 3; have hfz19_4 := blk_frozen BK122.out 4; have hfz19_5 := blk_frozen BK122.out 5; have hfz19_6 := blk_frozen BK122.out 6; have hfz19_7 := blk_frozen BK122.out 7; have hcz20_0 : w17.cell? ⟨gb121, 0, none⟩ = some (.int .i64 0) := (blk_cell BK121.out 0).trans rfl; have hcz20_1 : w17.cell? ⟨gb121, 1, none⟩ = some (.int .i64 0) := (blk_cell BK121.out 1).trans rfl; have hcz20_2 : w17.cell? ⟨gb121, 2, none⟩ = some (.int .i64 0) := (blk_cell BK121.out 2).trans rfl; have hcz20_3 : w17.cell? ⟨gb121, 3, none⟩ = some (.slice none 0 0) := (blk_cell BK121.out 3).trans rfl; have hcz20_4 : w17.cell? ⟨gb121, 4, none⟩ = some (.int .i64 0) := (blk_cell BK121.out 4).trans rfl; have hcz20_5 : w17.cell? ⟨gb121, 5, none⟩ = some (.int .i64 0) := (blk_cell BK121.out 5).trans rfl; have hcz20_6 : w17.cell? ⟨gb121, 6, none⟩ = some (.int .i64 0) := (blk_cell BK121.out 6).trans rfl; have hcz20_7 : w17.cell? ⟨gb121, 7, none⟩ = some (.slice none 0 0) := (blk_cell BK121.out 7).trans rfl; have hfz20_0 := blk_frozen BK121.out 0; have hfz20_1 := blk_frozen BK121.out 1; have hfz20_2 := blk_frozen BK121.out 2; have hfz20_3 := blk_frozen BK121.out 3; have hfz20_4 := blk_frozen BK121.out 4; have hfz20_5 := blk_frozen BK121.out 5; have hfz20_6 := blk_frozen BK121.out 6; have hfz20_7 := blk_frozen BK121.out 7))
  refine bodyPost_ret (results_cell_row rfl _ _ gb121 47 #[.int .i64 a0_0, .int .i64 a0_1, .int .i64 a0_2, .slice Ao14 t123.length co14, .int .i64 a0_4, .int .i64 a0_5, .int .i64 a0_6, .slice Ao18 t126.length co18] (0, 0) _ rfl (by (with_reducible repeat (first | refine blk_drewN ?_ _ | refine blk_drew ?_ | refine blk_alloc ?_ _)); refine blk_put (cs := #[.int .i64 a0_0, .int .i64 a0_1, .int .i64 a0_2, .slice Ao14 t123.length co14, .int .i64 a0_4, .int .i64 a0_5, .int .i64 a0_6, .slice none 0 0]) ?_ 7 _ rfl; (with_reducible repeat (first | refine blk_drewN ?_ _ | refine blk_drew ?_ | refine blk_alloc ?_ _)); refine blk_put (cs := #[.int .i64 a0_0, .int .i64 a0_1, .int .i64 a0_2, .slice Ao14 t123.length co14, .int .i64 a0_4, .int .i64 a0_5, .int .i64 0, .slice none 0 0]) ?_ 6 _ rfl; (with_reducible repeat (first | refine blk_drewN ?_ _ | refine blk_drew ?_ | refine blk_alloc ?_ _)); refine blk_put (cs := #[.int .i64 a0_0, .int .i64 a0_1, .int .i64 a0_2, .slice Ao14 t123.length co14, .int .i64 a0_4, .int .i64 0, .int .i64 0, .slice none 0 0]) ?_ 5 _ rfl; (with_reducible repeat (first | refine blk_drewN ?_ _ | refine blk_drew ?_ | refine blk_alloc ?_ _)); refine blk_put (cs := #[.int .i64 a0_0, .int .i64 a0_1, .int .i64 a0_2, .slice Ao14 t123.length co14, .int .i64 0, .int .i64 0, .int .i64 0, .slice none 0 0]) ?_ 4 _ rfl; (with_reducible repeat (first | refine blk_drewN ?_ _ | refine blk_drew ?_ | refine blk_alloc ?_ _)); refine blk_put (cs := #[.int .i64 a0_0, .int .i64 a0_1, .int .i64 a0_2, .slice none 0 0, .int .i64 0, .int .i64 0, .int .i64 0, .slice none 0 0]) ?_ 3 _ rfl; (with_reducible repeat (first | refine blk_drewN ?_ _ | refine blk_drew ?_ | refine blk_alloc ?_ _)); refine blk_put (cs := #[.int .i64 a0_0, .int .i64 a0_1, .int .i64 0, .slice none 0 0, .int .i64 0, .int .i64 0, .int .i64 0, .slice none 0 0]) ?_ 2 _ rfl; (with_reducible repeat (first | refine blk_drewN ?_ _ | refine blk_drew ?_ | refine blk_alloc ?_ _)); refine blk_put (cs := #[.int .i64 a0_0, .int .i64 0, .int .i64 0, .slice none 0 0, .int .i64 0, .int .i64 0, .int .i64 0, .slice none 0 0]) ?_ 1 _ rfl; (with_reducible repeat (first | refine blk_drewN ?_ _ | refine blk_drew ?_ | refine blk_alloc ?_ _)); refine blk_put (cs := #[.int .i64 0, .int .i64 0, .int .i64 0, .slice none 0 0, .int .i64 0, .int .i64 0, .int .i64 0, .slice none 0 0]) ?_ 0 _ rfl; (with_reducible repeat (first | refine blk_drewN ?_ _ | refine blk_drew ?_ | refine blk_alloc ?_ _)); refine blk_far ?_ NB121_122.out _; (with_reducible repeat (first | refine blk_drewN ?_ _ | refine blk_drew ?_ | refine blk_alloc ?_ _)); exact BK121.out) Try.underlying47 rfl (by kernel_rfl)) rfl ?_
  exact ⟨_, _, by first | rfl | (simp [errW_none, errW_some] <;> rfl) | (simp [*, errW_none, errW_some] <;> rfl), by (with_reducible repeat (first | apply Kd.R_alloc | apply Kd.R_drewN | apply Kd.R_drew)); exact Kd.R_mono (Kd.R_far (p := ⟨gb121, 7, none⟩) (Kd.R_far (p := ⟨gb121, 6, none⟩) (Kd.R_far (p := ⟨gb121, 5, none⟩) (Kd.R_far (p := ⟨gb121, 4, none⟩) (Kd.R_far (p := ⟨gb121, 3, none⟩) (Kd.R_far (p := ⟨gb121, 2, none⟩) (Kd.R_far (p := ⟨gb121, 1, none⟩) (Kd.R_far (p := ⟨gb121, 0, none⟩) (Kd.R_far (p := ⟨gb122, 7, none⟩) (Kd.R_types (Kd.R_types HO125.out BK122.out (by decide)) BK121.out (by decide)) (fun _ hk => hk.1.2) (.slice Ao18 t126.length co18)) (fun _ hk => hk.2) (.int .i64 a0_0)) (fun _ hk => hk.2) (.int .i64 a0_1)) (fun _ hk => hk.2) (.int .i64 a0_2)) (fun _ hk => hk.2) (.slice Ao14 t123.length co14)) (fun _ hk => hk.2) (.int .i64 a0_4)) (fun _ hk => hk.2) (.int .i64 a0_5)) (fun _ hk => hk.2) (.int .i64 a0_6)) (fun _ hk => hk.2) (.slice Ao18 t126.length co18)) (fun _ hk => trivial), by (with_reducible repeat (first | apply Kd.S_alloc | apply Kd.S_drewN | apply Kd.S_drew)); exact Kd.S_mono (Kd.S_far (p := ⟨gb121, 7, none⟩) (Kd.S_far (p := ⟨gb121, 6, none⟩) (Kd.S_far (p := ⟨gb121, 5, none⟩) (Kd.S_far (p := ⟨gb121, 4, none⟩) (Kd.S_far (p := ⟨gb121, 3, none⟩) (Kd.S_far (p := ⟨gb121, 2, none⟩) (Kd.S_far (p := ⟨gb121, 1, none⟩) (Kd.S_far (p := ⟨gb121, 0, none⟩) (Kd.S_far (p := ⟨gb122, 7, none⟩) (Kd.S_types (Kd.S_types HO128.out BK122.out (by decide)) BK121.out (by decide)) (fun _ hk => hk.1.2) (.slice Ao18 t126.length co18)) (fun _ hk => hk.2) (.int .i64 a0_0)) (fun _ hk => hk.2) (.int .i64 a0_1)) (fun _ hk => hk.2) (.int .i64 a0_2)) (fun _ hk => hk.2) (.slice Ao14 t123.length co14)) (fun _ hk => hk.2) (.int .i64 a0_4)) (fun _ hk => hk.2) (.int .i64 a0_5)) (fun _ hk => hk.2) (.int .i64 a0_6)) (fun _ hk => hk.2) (.slice Ao18 t126.length co18)) (fun _ hk => hk.1.1.2), by repeat (first | (with_reducible first | exact HB.out | apply below_alloc | apply pw_below_drewN | apply below_drew1 | refine below_set ?_ GE120.out | refine below_set ?_ GE121.out | refine below_set ?_ GE122.out) | exact HB.out)⟩

/-! ### portageref22_moves: function 42 -/
def portageref22_moves.f (a0_0 : Int) (a0_1 : Int) (a0_2 : Int) (l0_3 : List (S49)) (a0_4 : Int) (a0_5 : Int) (a0_6 : Int) (l0_7 : List (S65)) : Option (Bool) := if a0_0 = 1 then (if (l0_3.length : Int) = 1 then (some (a0_2 != (-1))) else (some false)) else (some false)
set_option maxHeartbeats 8000000 in
set_option maxRecDepth 100000 in
theorem portageref22_moves.calls (a0_0 : Int) (a0_1 : Int) (a0_2 : Int) (A0_3 : Option Addr) (c0_3 : Nat) (l0_3 : List (S49)) (a0_4 : Int) (a0_5 : Int) (a0_6 : Int) (A0_7 : Option Addr) (c0_7 : Nat) (l0_7 : List (S65)) (r : Bool) (w : World) (hr0_3 : Kd.C k49 w A0_3 l0_3.length l0_3) (hc0_3 : l0_3.length ≤ c0_3) (hr0_7 : Kd.C k65 w A0_7 l0_7.length l0_7) (hc0_7 : l0_7.length ≤ c0_7) (h : portageref22_moves.f a0_0 a0_1 a0_2 l0_3 a0_4 a0_5 a0_6 l0_7 = some r) :
    Calls Try.prog 42 #[.agg #[.int .i64 a0_0, .int .i64 a0_1, .int .i64 a0_2, .slice A0_3 l0_3.length c0_3, .int .i64 a0_4, .int .i64 a0_5, .int .i64 a0_6, .slice A0_7 l0_7.length c0_7]] w fun e w' => e = .returned (.bool r) ∧ Below w.heap.size w w' := by
  have hu47 := Try.underlying47
  have HR0_3 := Aside0.mk hr0_3
  have HC0_3 := Aside0.mk hc0_3
  clear hr0_3 hc0_3
  have HR0_7 := Aside0.mk hr0_7
  have HC0_7 := Aside0.mk hc0_7
  clear hr0_7 hc0_7
  have HB := Aside0.mk (Below.refl w.heap.size w)
  have H : (if a0_0 = 1 then (if (l0_3.length : Int) = 1 then (some (a0_2 != (-1))) else (some false)) else (some false)) = some r := h
  clear h
  by_cases c2 : a0_0 = 1
  · rw [if_pos c2] at H
    have c2b0 : (a0_0 == 1) = true := beq_iff_eq.mpr c2
    have c2b1 : (a0_0 != 1) = false := bne_eq_false_iff_eq.mpr c2
    clear c2
    by_cases c3 : (l0_3.length : Int) = 1
    · rw [if_pos c3] at H
      have c3b0 : ((l0_3.length : Int) == 1) = true := beq_iff_eq.mpr c3
      have c3b1 : ((l0_3.length : Int) != 1) = false := bne_eq_false_iff_eq.mpr c3
      clear c3
      obtain rfl := Option.some.inj H
      go_enter Try.func42, Try.ntmps42
      go_wp2_with (first | ((with_reducible refine gate_dst (N := 1) rfl ?_); (try (refine gate_guard (by rfl) ?_; dsimp only)); refine box_event ?hg (N := 1) ?hd (cs := #[.int .i64 a0_0, .int .i64 a0_1, .int .i64 a0_2, .slice A0_3 l0_3.length c0_3, .int .i64 a0_4, .int .i64 a0_5, .int .i64 a0_6, .slice A0_7 l0_7.length c0_7]) (t := 47) ?hr ?_; (case hd => rfl); (case hg => rfl); (case hr => first | (go_simp; done) | (go_simp; rfl)); intro gb129 hg w4 hbox hb; have n0_ := Aside0.mk (below_step (by repeat (first | (with_reducible first | exact HB.out | apply below_alloc | apply pw_below_drewN | apply below_drew1) | exact HB.out)) hb); have n1_ := Aside0.mk (hbox); have n2_ := Aside0.mk ((by rw [hg]; exact (below_size (by repeat (first | (with_reducible first | exact HB.out | apply below_alloc | apply pw_below_drewN | apply below_drew1) | exact HB.out))) : w.heap.size ≤ gb129)); have n3_ := Aside0.mk ((by rw [hg]; exact (below_size (by repeat (first | (with_reducible first | exact HB.out | apply below_alloc | apply pw_below_drewN | apply below_drew1) | exact HB.out))) : w.heap.size ≤ gb129)); clear HB; have HB := n0_; have BK129 := n1_; have GW129 := n2_; have GE129 := n3_; clear n0_ n1_ n2_ n3_; clear hb hbox hg; have hcz5_0 : w4.cell? ⟨gb129, 0, none⟩ = some (.int .i64 a0_0) := (blk_cell BK129.out 0).trans rfl; have hcz5_1 : w4.cell? ⟨gb129, 1, none⟩ = some (.int .i64 a0_1) := (blk_cell BK129.out 1).trans rfl; have hcz5_2 : w4.cell? ⟨gb129, 2, none⟩ = some (.int .i64 a0_2) := (blk_cell BK129.out 2).trans rfl; have hcz5_3 : w4.cell? ⟨gb129, 3, none⟩ = some (.slice A0_3 l0_3.length c0_3) := (blk_cell BK129.out 3).trans rfl; have hcz5_4 : w4.cell? ⟨gb129, 4, none⟩ = some (.int .i64 a0_4) := (blk_cell BK129.out 4).trans rfl; have hcz5_5 : w4.cell? ⟨gb129, 5, none⟩ = some (.int .i64 a0_5) := (blk_cell BK129.out 5).trans rfl; have hcz5_6 : w4.cell? ⟨gb129, 6, none⟩ = some (.int .i64 a0_6) := (blk_cell BK129.out 6).trans rfl; have hcz5_7 : w4.cell? ⟨gb129, 7, none⟩ = some (.slice A0_7 l0_7.length c0_7) := (blk_cell BK129.out 7).trans rfl; have hfz5_0 := blk_frozen BK129.out 0; have hfz5_1 := blk_frozen BK129.out 1; have hfz5_2 := blk_frozen BK129.out 2; have hfz5_3 := blk_frozen BK129.out 3; have hfz5_4 := blk_frozen BK129.out 4; have hfz5_5 := blk_frozen BK129.out 5; have hfz5_6 := blk_frozen BK129.out 6; have hfz5_7 := blk_frozen BK129.out 7))
      go_ret
      exact ⟨by first | rfl | (simp [errW_none, errW_some] <;> rfl) | (simp [*, errW_none, errW_some] <;> rfl), by repeat (first | (with_reducible first | exact HB.out | apply below_alloc | apply pw_below_drewN | apply below_drew1 | refine below_set ?_ GE129.out) | exact HB.out)⟩
    · rw [if_neg c3] at H
      have c3b0 : ((l0_3.length : Int) == 1) = false := beq_eq_false_iff_ne.mpr c3
      have c3b1 : ((l0_3.length : Int) != 1) = true := bne_iff_ne.mpr c3
      obtain rfl := Option.some.inj H
      go_enter Try.func42, Try.ntmps42
      go_wp2_with (first | ((with_reducible refine gate_dst (N := 1) rfl ?_); (try (refine gate_guard (by rfl) ?_; dsimp only)); refine box_event ?hg (N := 1) ?hd (cs := #[.int .i64 a0_0, .int .i64 a0_1, .int .i64 a0_2, .slice A0_3 l0_3.length c0_3, .int .i64 a0_4, .int .i64 a0_5, .int .i64 a0_6, .slice A0_7 l0_7.length c0_7]) (t := 47) ?hr ?_; (case hd => rfl); (case hg => rfl); (case hr => first | (go_simp; done) | (go_simp; rfl)); intro gb129 hg w6 hbox hb; have n0_ := Aside0.mk (below_step (by repeat (first | (with_reducible first | exact HB.out | apply below_alloc | apply pw_below_drewN | apply below_drew1) | exact HB.out)) hb); have n1_ := Aside0.mk (hbox); have n2_ := Aside0.mk ((by rw [hg]; exact (below_size (by repeat (first | (with_reducible first | exact HB.out | apply below_alloc | apply pw_below_drewN | apply below_drew1) | exact HB.out))) : w.heap.size ≤ gb129)); have n3_ := Aside0.mk ((by rw [hg]; exact (below_size (by repeat (first | (with_reducible first | exact HB.out | apply below_alloc | apply pw_below_drewN | apply below_drew1) | exact HB.out))) : w.heap.size ≤ gb129)); clear HB; have HB := n0_; have BK129 := n1_; have GW129 := n2_; have GE129 := n3_; clear n0_ n1_ n2_ n3_; clear hb hbox hg; have hcz7_0 : w6.cell? ⟨gb129, 0, none⟩ = some (.int .i64 a0_0) := (blk_cell BK129.out 0).trans rfl; have hcz7_1 : w6.cell? ⟨gb129, 1, none⟩ = some (.int .i64 a0_1) := (blk_cell BK129.out 1).trans rfl; have hcz7_2 : w6.cell? ⟨gb129, 2, none⟩ = some (.int .i64 a0_2) := (blk_cell BK129.out 2).trans rfl; have hcz7_3 : w6.cell? ⟨gb129, 3, none⟩ = some (.slice A0_3 l0_3.length c0_3) := (blk_cell BK129.out 3).trans rfl; have hcz7_4 : w6.cell? ⟨gb129, 4, none⟩ = some (.int .i64 a0_4) := (blk_cell BK129.out 4).trans rfl; have hcz7_5 : w6.cell? ⟨gb129, 5, none⟩ = some (.int .i64 a0_5) := (blk_cell BK129.out 5).trans rfl; have hcz7_6 : w6.cell? ⟨gb129, 6, none⟩ = some (.int .i64 a0_6) := (blk_cell BK129.out 6).trans rfl; have hcz7_7 : w6.cell? ⟨gb129, 7, none⟩ = some (.slice A0_7 l0_7.length c0_7) := (blk_cell BK129.out 7).trans rfl; have hfz7_0 := blk_frozen BK129.out 0; have hfz7_1 := blk_frozen BK129.out 1; have hfz7_2 := blk_frozen BK129.out 2; have hfz7_3 := blk_frozen BK129.out 3; have hfz7_4 := blk_frozen BK129.out 4; have hfz7_5 := blk_frozen BK129.out 5; have hfz7_6 := blk_frozen BK129.out 6; have hfz7_7 := blk_frozen BK129.out 7))
      go_ret
      exact ⟨by first | rfl | (simp [errW_none, errW_some] <;> rfl) | (simp [*, errW_none, errW_some] <;> rfl), by repeat (first | (with_reducible first | exact HB.out | apply below_alloc | apply pw_below_drewN | apply below_drew1 | refine below_set ?_ GE129.out) | exact HB.out)⟩
  · rw [if_neg c2] at H
    have c2b0 : (a0_0 == 1) = false := beq_eq_false_iff_ne.mpr c2
    have c2b1 : (a0_0 != 1) = true := bne_iff_ne.mpr c2
    obtain rfl := Option.some.inj H
    go_enter Try.func42, Try.ntmps42
    go_wp2_with (first | ((with_reducible refine gate_dst (N := 1) rfl ?_); (try (refine gate_guard (by rfl) ?_; dsimp only)); refine box_event ?hg (N := 1) ?hd (cs := #[.int .i64 a0_0, .int .i64 a0_1, .int .i64 a0_2, .slice A0_3 l0_3.length c0_3, .int .i64 a0_4, .int .i64 a0_5, .int .i64 a0_6, .slice A0_7 l0_7.length c0_7]) (t := 47) ?hr ?_; (case hd => rfl); (case hg => rfl); (case hr => first | (go_simp; done) | (go_simp; rfl)); intro gb129 hg w8 hbox hb; have n0_ := Aside0.mk (below_step (by repeat (first | (with_reducible first | exact HB.out | apply below_alloc | apply pw_below_drewN | apply below_drew1) | exact HB.out)) hb); have n1_ := Aside0.mk (hbox); have n2_ := Aside0.mk ((by rw [hg]; exact (below_size (by repeat (first | (with_reducible first | exact HB.out | apply below_alloc | apply pw_below_drewN | apply below_drew1) | exact HB.out))) : w.heap.size ≤ gb129)); have n3_ := Aside0.mk ((by rw [hg]; exact (below_size (by repeat (first | (with_reducible first | exact HB.out | apply below_alloc | apply pw_below_drewN | apply below_drew1) | exact HB.out))) : w.heap.size ≤ gb129)); clear HB; have HB := n0_; have BK129 := n1_; have GW129 := n2_; have GE129 := n3_; clear n0_ n1_ n2_ n3_; clear hb hbox hg; have hcz9_0 : w8.cell? ⟨gb129, 0, none⟩ = some (.int .i64 a0_0) := (blk_cell BK129.out 0).trans rfl; have hcz9_1 : w8.cell? ⟨gb129, 1, none⟩ = some (.int .i64 a0_1) := (blk_cell BK129.out 1).trans rfl; have hcz9_2 : w8.cell? ⟨gb129, 2, none⟩ = some (.int .i64 a0_2) := (blk_cell BK129.out 2).trans rfl; have hcz9_3 : w8.cell? ⟨gb129, 3, none⟩ = some (.slice A0_3 l0_3.length c0_3) := (blk_cell BK129.out 3).trans rfl; have hcz9_4 : w8.cell? ⟨gb129, 4, none⟩ = some (.int .i64 a0_4) := (blk_cell BK129.out 4).trans rfl; have hcz9_5 : w8.cell? ⟨gb129, 5, none⟩ = some (.int .i64 a0_5) := (blk_cell BK129.out 5).trans rfl; have hcz9_6 : w8.cell? ⟨gb129, 6, none⟩ = some (.int .i64 a0_6) := (blk_cell BK129.out 6).trans rfl; have hcz9_7 : w8.cell? ⟨gb129, 7, none⟩ = some (.slice A0_7 l0_7.length c0_7) := (blk_cell BK129.out 7).trans rfl; have hfz9_0 := blk_frozen BK129.out 0; have hfz9_1 := blk_frozen BK129.out 1; have hfz9_2 := blk_frozen BK129.out 2; have hfz9_3 := blk_frozen BK129.out 3; have hfz9_4 := blk_frozen BK129.out 4; have hfz9_5 := blk_frozen BK129.out 5; have hfz9_6 := blk_frozen BK129.out 6; have hfz9_7 := blk_frozen BK129.out 7))
    go_ret
    exact ⟨by first | rfl | (simp [errW_none, errW_some] <;> rfl) | (simp [*, errW_none, errW_some] <;> rfl), by repeat (first | (with_reducible first | exact HB.out | apply below_alloc | apply pw_below_drewN | apply below_drew1 | refine below_set ?_ GE129.out) | exact HB.out)⟩

/-! ### portageref22_Writes: function 58 -/
def portageref22_Writes.f (a0_0 : Int) (a0_1 : Int) (a0_2 : Int) (l0_3 : List (S49)) (a0_4 : Int) (a0_5 : Int) (a0_6 : Int) (l0_7 : List (S65)) (a1 : Int) : Option (Bool) := if a0_2 = (-1) then (some false) else (some (a0_2 == a1))
set_option maxHeartbeats 8000000 in
set_option maxRecDepth 100000 in
theorem portageref22_Writes.calls (a0_0 : Int) (a0_1 : Int) (a0_2 : Int) (A0_3 : Option Addr) (c0_3 : Nat) (l0_3 : List (S49)) (a0_4 : Int) (a0_5 : Int) (a0_6 : Int) (A0_7 : Option Addr) (c0_7 : Nat) (l0_7 : List (S65)) (a1 : Int) (r : Bool) (w : World) (hr0_3 : Kd.C k49 w A0_3 l0_3.length l0_3) (hc0_3 : l0_3.length ≤ c0_3) (hr0_7 : Kd.C k65 w A0_7 l0_7.length l0_7) (hc0_7 : l0_7.length ≤ c0_7) (h : portageref22_Writes.f a0_0 a0_1 a0_2 l0_3 a0_4 a0_5 a0_6 l0_7 a1 = some r) :
    Calls Try.prog 58 #[.agg #[.int .i64 a0_0, .int .i64 a0_1, .int .i64 a0_2, .slice A0_3 l0_3.length c0_3, .int .i64 a0_4, .int .i64 a0_5, .int .i64 a0_6, .slice A0_7 l0_7.length c0_7], .int .i64 a1] w fun e w' => e = .returned (.bool r) ∧ Below w.heap.size w w' := by
  have hu47 := Try.underlying47
  have HR0_3 := Aside0.mk hr0_3
  have HC0_3 := Aside0.mk hc0_3
  clear hr0_3 hc0_3
  have HR0_7 := Aside0.mk hr0_7
  have HC0_7 := Aside0.mk hc0_7
  clear hr0_7 hc0_7
  have HB := Aside0.mk (Below.refl w.heap.size w)
  have H : (if a0_2 = (-1) then (some false) else (some (a0_2 == a1))) = some r := h
  clear h
  by_cases c3 : a0_2 = (-1)
  · rw [if_pos c3] at H
    have c3b0 : (a0_2 == (-1)) = true := beq_iff_eq.mpr c3
    have c3b1 : (a0_2 != (-1)) = false := bne_eq_false_iff_eq.mpr c3
    clear c3
    obtain rfl := Option.some.inj H
    go_enter Try.func58, Try.ntmps58
    go_wp2_with (first | ((with_reducible refine gate_dst (N := 2) rfl ?_); refine box_event ?hg (N := 2) ?hd (cs := #[.int .i64 a0_0, .int .i64 a0_1, .int .i64 a0_2, .slice A0_3 l0_3.length c0_3, .int .i64 a0_4, .int .i64 a0_5, .int .i64 a0_6, .slice A0_7 l0_7.length c0_7]) (t := 47) ?hr ?_; (case hd => rfl); (case hg => rfl); (case hr => first | (go_simp; done) | (go_simp; rfl)); intro gb130 hg w4 hbox hb; have n0_ := Aside0.mk (below_step (by repeat (first | (with_reducible first | exact HB.out | apply below_alloc | apply pw_below_drewN | apply below_drew1) | exact HB.out)) hb); have n1_ := Aside0.mk (hbox); have n2_ := Aside0.mk ((by rw [hg]; exact (below_size (by repeat (first | (with_reducible first | exact HB.out | apply below_alloc | apply pw_below_drewN | apply below_drew1) | exact HB.out))) : w.heap.size ≤ gb130)); have n3_ := Aside0.mk ((by rw [hg]; exact (below_size (by repeat (first | (with_reducible first | exact HB.out | apply below_alloc | apply pw_below_drewN | apply below_drew1) | exact HB.out))) : w.heap.size ≤ gb130)); clear HB; have HB := n0_; have BK130 := n1_; have GW130 := n2_; have GE130 := n3_; clear n0_ n1_ n2_ n3_; clear hb hbox hg; have hcz5_0 : w4.cell? ⟨gb130, 0, none⟩ = some (.int .i64 a0_0) := (blk_cell BK130.out 0).trans rfl; have hcz5_1 : w4.cell? ⟨gb130, 1, none⟩ = some (.int .i64 a0_1) := (blk_cell BK130.out 1).trans rfl; have hcz5_2 : w4.cell? ⟨gb130, 2, none⟩ = some (.int .i64 a0_2) := (blk_cell BK130.out 2).trans rfl; have hcz5_3 : w4.cell? ⟨gb130, 3, none⟩ = some (.slice A0_3 l0_3.length c0_3) := (blk_cell BK130.out 3).trans rfl; have hcz5_4 : w4.cell? ⟨gb130, 4, none⟩ = some (.int .i64 a0_4) := (blk_cell BK130.out 4).trans rfl; have hcz5_5 : w4.cell? ⟨gb130, 5, none⟩ = some (.int .i64 a0_5) := (blk_cell BK130.out 5).trans rfl; have hcz5_6 : w4.cell? ⟨gb130, 6, none⟩ = some (.int .i64 a0_6) := (blk_cell BK130.out 6).trans rfl; have hcz5_7 : w4.cell? ⟨gb130, 7, none⟩ = some (.slice A0_7 l0_7.length c0_7) := (blk_cell BK130.out 7).trans rfl; have hfz5_0 := blk_frozen BK130.out 0; have hfz5_1 := blk_frozen BK130.out 1; have hfz5_2 := blk_frozen BK130.out 2; have hfz5_3 := blk_frozen BK130.out 3; have hfz5_4 := blk_frozen BK130.out 4; have hfz5_5 := blk_frozen BK130.out 5; have hfz5_6 := blk_frozen BK130.out 6; have hfz5_7 := blk_frozen BK130.out 7))
    go_ret
    exact ⟨by first | rfl | (simp [errW_none, errW_some] <;> rfl) | (simp [*, errW_none, errW_some] <;> rfl), by repeat (first | (with_reducible first | exact HB.out | apply below_alloc | apply pw_below_drewN | apply below_drew1 | refine below_set ?_ GE130.out) | exact HB.out)⟩
  · rw [if_neg c3] at H
    have c3b0 : (a0_2 == (-1)) = false := beq_eq_false_iff_ne.mpr c3
    have c3b1 : (a0_2 != (-1)) = true := bne_iff_ne.mpr c3
    obtain rfl := Option.some.inj H
    go_enter Try.func58, Try.ntmps58
    go_wp2_with (first | ((with_reducible refine gate_dst (N := 2) rfl ?_); refine box_event ?hg (N := 2) ?hd (cs := #[.int .i64 a0_0, .int .i64 a0_1, .int .i64 a0_2, .slice A0_3 l0_3.length c0_3, .int .i64 a0_4, .int .i64 a0_5, .int .i64 a0_6, .slice A0_7 l0_7.length c0_7]) (t := 47) ?hr ?_; (case hd => rfl); (case hg => rfl); (case hr => first | (go_simp; done) | (go_simp; rfl)); intro gb130 hg w6 hbox hb; have n0_ := Aside0.mk (below_step (by repeat (first | (with_reducible first | exact HB.out | apply below_alloc | apply pw_below_drewN | apply below_drew1) | exact HB.out)) hb); have n1_ := Aside0.mk (hbox); have n2_ := Aside0.mk ((by rw [hg]; exact (below_size (by repeat (first | (with_reducible first | exact HB.out | apply below_alloc | apply pw_below_drewN | apply below_drew1) | exact HB.out))) : w.heap.size ≤ gb130)); have n3_ := Aside0.mk ((by rw [hg]; exact (below_size (by repeat (first | (with_reducible first | exact HB.out | apply below_alloc | apply pw_below_drewN | apply below_drew1) | exact HB.out))) : w.heap.size ≤ gb130)); clear HB; have HB := n0_; have BK130 := n1_; have GW130 := n2_; have GE130 := n3_; clear n0_ n1_ n2_ n3_; clear hb hbox hg; have hcz7_0 : w6.cell? ⟨gb130, 0, none⟩ = some (.int .i64 a0_0) := (blk_cell BK130.out 0).trans rfl; have hcz7_1 : w6.cell? ⟨gb130, 1, none⟩ = some (.int .i64 a0_1) := (blk_cell BK130.out 1).trans rfl; have hcz7_2 : w6.cell? ⟨gb130, 2, none⟩ = some (.int .i64 a0_2) := (blk_cell BK130.out 2).trans rfl; have hcz7_3 : w6.cell? ⟨gb130, 3, none⟩ = some (.slice A0_3 l0_3.length c0_3) := (blk_cell BK130.out 3).trans rfl; have hcz7_4 : w6.cell? ⟨gb130, 4, none⟩ = some (.int .i64 a0_4) := (blk_cell BK130.out 4).trans rfl; have hcz7_5 : w6.cell? ⟨gb130, 5, none⟩ = some (.int .i64 a0_5) := (blk_cell BK130.out 5).trans rfl; have hcz7_6 : w6.cell? ⟨gb130, 6, none⟩ = some (.int .i64 a0_6) := (blk_cell BK130.out 6).trans rfl; have hcz7_7 : w6.cell? ⟨gb130, 7, none⟩ = some (.slice A0_7 l0_7.length c0_7) := (blk_cell BK130.out 7).trans rfl; have hfz7_0 := blk_frozen BK130.out 0; have hfz7_1 := blk_frozen BK130.out 1; have hfz7_2 := blk_frozen BK130.out 2; have hfz7_3 := blk_frozen BK130.out 3; have hfz7_4 := blk_frozen BK130.out 4; have hfz7_5 := blk_frozen BK130.out 5; have hfz7_6 := blk_frozen BK130.out 6; have hfz7_7 := blk_frozen BK130.out 7))
    go_ret
    exact ⟨by first | rfl | (simp [errW_none, errW_some] <;> rfl) | (simp [*, errW_none, errW_some] <;> rfl), by repeat (first | (with_reducible first | exact HB.out | apply below_alloc | apply pw_below_drewN | apply below_drew1 | refine below_set ?_ GE130.out) | exact HB.out)⟩

/-! ### portageref22_KnownAs: function 54 -/
mutual
def portageref22_KnownAs.l0 : Nat → List (S47) → Int → Int → Option (Int × Int × Bool)
  | 0, _, _, _ => none
  | k + 1, x0, x1, x6 => if x6 ≥ 0 then (if 0 ≤ x6 then (if x6 < (x0.length : Int) then ((portageref22_Writes.f ((rd_T47 x0 x6).f0) ((rd_T47 x0 x6).f1) ((rd_T47 x0 x6).f2) ((rd_T47 x0 x6).f3) ((rd_T47 x0 x6).f4) ((rd_T47 x0 x6).f5) ((rd_T47 x0 x6).f6) ((rd_T47 x0 x6).f7) x1).bind fun t133 => (if t133 = true then ((portageref22_moves.f ((rd_T47 x0 x6).f0) ((rd_T47 x0 x6).f1) ((rd_T47 x0 x6).f2) ((rd_T47 x0 x6).f3) ((rd_T47 x0 x6).f4) ((rd_T47 x0 x6).f5) ((rd_T47 x0 x6).f6) ((rd_T47 x0 x6).f7)).bind fun t135 => (if t135 = true then (if 0 < (((rd_T47 x0 x6).f3).length : Int) then (if ((rd_T49 ((rd_T47 x0 x6).f3) 0).f0) = 0 then (portageref22_KnownAs.l1 k x0 (wrap64 (x6 + 1)) ((rd_T49 ((rd_T47 x0 x6).f3) 0).f0) ((rd_T49 ((rd_T47 x0 x6).f3) 0).f1)) else (some ((rd_T49 ((rd_T47 x0 x6).f3) 0).f0, (rd_T49 ((rd_T47 x0 x6).f3) 0).f1, true))) else (none)) else (some (0, 0, false)))) else (portageref22_KnownAs.l0 k x0 x1 (wrap64 (x6 - 1))))) else (none)) else (none)) else (some (0, 0, false))
def portageref22_KnownAs.l1 : Nat → List (S47) → Int → Int → Int → Option (Int × Int × Bool)
  | 0, _, _, _, _ => none
  | k + 1, x0, x8, x139000, x139001 => if x8 < (x0.length : Int) then (if 0 ≤ x8 then ((portageref22_Writes.f ((rd_T47 x0 x8).f0) ((rd_T47 x0 x8).f1) ((rd_T47 x0 x8).f2) ((rd_T47 x0 x8).f3) ((rd_T47 x0 x8).f4) ((rd_T47 x0 x8).f5) ((rd_T47 x0 x8).f6) ((rd_T47 x0 x8).f7) x139001).bind fun t140 => (if t140 = true then (some (0, 0, false)) else (portageref22_KnownAs.l1 k x0 (wrap64 (x8 + 1)) x139000 x139001))) else (none)) else (some (x139000, x139001, true))
end
def portageref22_KnownAs.f (k : Nat) (l0 : List (S47)) (a1 : Int) : Option (Int × Int × Bool) := portageref22_KnownAs.l0 k l0 a1 (wrap64 ((l0.length : Int) - 1))
theorem portageref22_KnownAs.mono_l : ∀ k, (∀ y0 y1 y2, LeO (portageref22_KnownAs.l0 k y0 y1 y2) (portageref22_KnownAs.l0 (k + 1) y0 y1 y2)) ∧ (∀ y0 y1 y2 y3, LeO (portageref22_KnownAs.l1 k y0 y1 y2 y3) (portageref22_KnownAs.l1 (k + 1) y0 y1 y2 y3))
  | 0 => ⟨fun _ _ _ r h => by simp [portageref22_KnownAs.l0] at h, fun _ _ _ _ r h => by simp [portageref22_KnownAs.l1] at h⟩
  | k + 1 => by
    obtain ⟨ih0, ih1⟩ := portageref22_KnownAs.mono_l k
    refine ⟨?_, ?_⟩
    · intro y0 y1 y2
      unfold portageref22_KnownAs.l0
      repeat' first
      | (with_reducible exact ih0 _ _ _)
      | (with_reducible exact ih1 _ _ _ _)
      | (with_reducible exact LeO.refl _)
      | (with_reducible exact LeO.none _)
      | (with_reducible refine LeO.ite ?_ ?_)
      | (with_reducible refine LeO.bind ?_ (fun _ => ?_))
      | exact ih0 _ _ _
      | exact ih1 _ _ _ _
      | exact LeO.none _
      | refine LeO.ite ?_ ?_
      | refine LeO.bind ?_ (fun _ => ?_)
    · intro y0 y1 y2 y3
      unfold portageref22_KnownAs.l1
      repeat' first
      | (with_reducible exact ih0 _ _ _)
      | (with_reducible exact ih1 _ _ _ _)
      | (with_reducible exact LeO.refl _)
      | (with_reducible exact LeO.none _)
      | (with_reducible refine LeO.ite ?_ ?_)
      | (with_reducible refine LeO.bind ?_ (fun _ => ?_))
      | exact ih0 _ _ _
      | exact ih1 _ _ _ _
      | exact LeO.none _
      | refine LeO.ite ?_ ?_
      | refine LeO.bind ?_ (fun _ => ?_)
theorem portageref22_KnownAs.mono : ∀ a0 a1 k, LeO (portageref22_KnownAs.f k a0 a1) (portageref22_KnownAs.f (k + 1) a0 a1) := by
  intro a0 a1 k
  obtain ⟨ih0, ih1⟩ := portageref22_KnownAs.mono_l k
  unfold portageref22_KnownAs.f
  repeat' first
      | (with_reducible exact ih0 _ _ _)
      | (with_reducible exact ih1 _ _ _ _)
      | (with_reducible exact LeO.refl _)
      | (with_reducible exact LeO.none _)
      | (with_reducible refine LeO.ite ?_ ?_)
      | (with_reducible refine LeO.bind ?_ (fun _ => ?_))
      | exact ih0 _ _ _
      | exact ih1 _ _ _ _
      | exact LeO.none _
      | refine LeO.ite ?_ ?_
      | refine LeO.bind ?_ (fun _ => ?_)
set_option maxHeartbeats 8000000 in
set_option maxRecDepth 100000 in
theorem portageref22_KnownAs.calls (k : Nat) (A0 : Option Addr) (c0 : Nat) (l0 : List (S47)) (a1 : Int) (r1 : Int) (r2 : Int) (r3 : Bool) (w : World) (hr0 : Kd.C k47 w A0 l0.length l0) (hc0 : l0.length ≤ c0) (h : portageref22_KnownAs.f k l0 a1 = some (r1, r2, r3)) :
    Calls Try.prog 54 #[.slice A0 l0.length c0, .int .i64 a1] w fun e w' => e = .returned (.tuple #[.agg #[.int .i64 r1, .int .i64 r2], .bool r3]) ∧ Below w.heap.size w w' := by
  have hu49 := Try.underlying49
  have hu47 := Try.underlying47
  have HR0 := Aside0.mk hr0
  have HC0 := Aside0.mk hc0
  clear hr0 hc0
  have HB := Aside0.mk (Below.refl w.heap.size w)
  have H : (portageref22_KnownAs.l0 k l0 a1 (wrap64 ((l0.length : Int) - 1))) = some (r1, r2, r3) := h
  clear h
  have H' := Aside0.mk H
  clear H
  go_enter Try.func54, Try.ntmps54
  go_wp2_with (first | ((with_reducible refine gate_dst (N := 4) rfl ?_); refine box_event ?hg (N := 4) ?hd (cs := #[.int .i64 0, .int .i64 0]) (t := 49) ?hr ?_; (case hd => rfl); (case hg => rfl); (case hr => first | (go_simp; done) | (go_simp; rfl)); intro gb131 hg w3 hbox hb; have n0_ := Aside0.mk (below_step (by repeat (first | (with_reducible first | exact HB.out | apply below_alloc | apply pw_below_drewN | apply below_drew1) | exact HB.out)) hb); have n1_ := Aside0.mk (hbox); have n2_ := Aside0.mk ((by rw [hg]; exact (below_size (by repeat (first | (with_reducible first | exact HB.out | apply below_alloc | apply pw_below_drewN | apply below_drew1) | exact HB.out))) : w.heap.size ≤ gb131)); have n3_ := Aside0.mk ((by rw [hg]; exact (below_size (by repeat (first | (with_reducible first | exact HB.out | apply below_alloc | apply pw_below_drewN | apply below_drew1) | exact HB.out))) : w.heap.size ≤ gb131)); clear HB; have HB := n0_; have BK131 := n1_; have GW131 := n2_; have GE131 := n3_; clear n0_ n1_ n2_ n3_; clear hb hbox hg))
  go_loopg [6] k (fun kq v6 w' => ∃ (x6_1 : Int) (x132000_1 : Int) (x132001_1 : Int), v6 = .int .i64 x6_1 ∧ Aside0 (portageref22_KnownAs.l0 kq l0 a1 x6_1 = some (r1, r2, r3)) ∧ Aside0 (kq ≤ k) ∧ Aside0 (w'.heap[gb131]? = some (.cells #[.int .i64 x132000_1, .int .i64 x132001_1] 49 (0, 0))) ∧ Aside0 (Below w.heap.size w w'))
  case atStart => exact ⟨(wrap64 ((l0.length : Int) - 1)), (0), (0), (by first | rfl | (simp; done) | (simp [*]; done)), H', ⟨Nat.le_refl _⟩, ⟨by (with_reducible repeat (first | refine blk_drewN ?_ _ | refine blk_drew ?_ | refine blk_alloc ?_ _)); exact BK131.out⟩, ⟨by repeat (first | (with_reducible first | exact HB.out | apply below_alloc | apply pw_below_drewN | apply below_drew1 | refine below_set ?_ GE131.out) | exact HB.out)⟩⟩
  case round =>
    clear H'
    try clear p2
    obtain ⟨x6_1, x132000_1, x132001_1, rfl, HA, HK1, BK131, HB⟩ := hrel
    cases gk with
    | zero => exact absurd HA.out (by simp [portageref22_KnownAs.l0])
    | succ k1 =>
      have H := HA.out
      clear HA
      simp only [portageref22_KnownAs.l0] at H
      by_cases c4 : x6_1 ≥ 0
      · rw [if_pos c4] at H
        have c4b0 : decide (0 ≤ x6_1) = true := decide_eq_true c4
        clear c4
        by_cases c5 : 0 ≤ x6_1
        · rw [if_pos c5] at H
          have c5b0 : decide (0 ≤ x6_1) = true := decide_eq_true c5
          clear c5
          by_cases c6 : x6_1 < (l0.length : Int)
          · rw [if_pos c6] at H
            have c6b0 : decide (x6_1 < (l0.length : Int)) = true := decide_eq_true c6
            clear c6
            replace H := Option.bind_eq_some_iff.mp H
            obtain ⟨t133, A70, H⟩ := H
            replace H : (if t133 = true then ((portageref22_moves.f ((rd_T47 l0 x6_1).f0) ((rd_T47 l0 x6_1).f1) ((rd_T47 l0 x6_1).f2) ((rd_T47 l0 x6_1).f3) ((rd_T47 l0 x6_1).f4) ((rd_T47 l0 x6_1).f5) ((rd_T47 l0 x6_1).f6) ((rd_T47 l0 x6_1).f7)).bind fun t135 => (if t135 = true then (if 0 < (((rd_T47 l0 x6_1).f3).length : Int) then (if ((rd_T49 ((rd_T47 l0 x6_1).f3) 0).f0) = 0 then (portageref22_KnownAs.l1 k1 l0 (wrap64 (x6_1 + 1)) ((rd_T49 ((rd_T47 l0 x6_1).f3) 0).f0) ((rd_T49 ((rd_T47 l0 x6_1).f3) 0).f1)) else (some ((rd_T49 ((rd_T47 l0 x6_1).f3) 0).f0, (rd_T49 ((rd_T47 l0 x6_1).f3) 0).f1, true))) else (none)) else (some (0, 0, false)))) else (portageref22_KnownAs.l0 k1 l0 a1 (wrap64 (x6_1 - 1)))) = some (r1, r2, r3) := H
            have A7 := Aside0.mk A70
            clear A70
            by_cases c8 : t133 = true
            · subst c8
              have H1 : ((portageref22_moves.f ((rd_T47 l0 x6_1).f0) ((rd_T47 l0 x6_1).f1) ((rd_T47 l0 x6_1).f2) ((rd_T47 l0 x6_1).f3) ((rd_T47 l0 x6_1).f4) ((rd_T47 l0 x6_1).f5) ((rd_T47 l0 x6_1).f6) ((rd_T47 l0 x6_1).f7)).bind fun t135 => (if t135 = true then (if 0 < (((rd_T47 l0 x6_1).f3).length : Int) then (if ((rd_T49 ((rd_T47 l0 x6_1).f3) 0).f0) = 0 then (portageref22_KnownAs.l1 k1 l0 (wrap64 (x6_1 + 1)) ((rd_T49 ((rd_T47 l0 x6_1).f3) 0).f0) ((rd_T49 ((rd_T47 l0 x6_1).f3) 0).f1)) else (some ((rd_T49 ((rd_T47 l0 x6_1).f3) 0).f0, (rd_T49 ((rd_T47 l0 x6_1).f3) 0).f1, true))) else (none)) else (some (0, 0, false)))) = some (r1, r2, r3) := by rw [if_pos rfl] at H; exact H
              clear H
              have H := H1
              clear H1
              replace H := Option.bind_eq_some_iff.mp H
              obtain ⟨t135, A90, H⟩ := H
              replace H : (if t135 = true then (if 0 < (((rd_T47 l0 x6_1).f3).length : Int) then (if ((rd_T49 ((rd_T47 l0 x6_1).f3) 0).f0) = 0 then (portageref22_KnownAs.l1 k1 l0 (wrap64 (x6_1 + 1)) ((rd_T49 ((rd_T47 l0 x6_1).f3) 0).f0) ((rd_T49 ((rd_T47 l0 x6_1).f3) 0).f1)) else (some ((rd_T49 ((rd_T47 l0 x6_1).f3) 0).f0, (rd_T49 ((rd_T47 l0 x6_1).f3) 0).f1, true))) else (none)) else (some (0, 0, false))) = some (r1, r2, r3) := H
              have A9 := Aside0.mk A90
              clear A90
              by_cases c10 : t135 = true
              · subst c10
                have H1 : (if 0 < (((rd_T47 l0 x6_1).f3).length : Int) then (if ((rd_T49 ((rd_T47 l0 x6_1).f3) 0).f0) = 0 then (portageref22_KnownAs.l1 k1 l0 (wrap64 (x6_1 + 1)) ((rd_T49 ((rd_T47 l0 x6_1).f3) 0).f0) ((rd_T49 ((rd_T47 l0 x6_1).f3) 0).f1)) else (some ((rd_T49 ((rd_T47 l0 x6_1).f3) 0).f0, (rd_T49 ((rd_T47 l0 x6_1).f3) 0).f1, true))) else (none)) = some (r1, r2, r3) := by rw [if_pos rfl] at H; exact H
                clear H
                have H := H1
                clear H1
                by_cases c11 : 0 < (((rd_T47 l0 x6_1).f3).length : Int)
                · rw [if_pos c11] at H
                  have c11b0 : decide (0 < (((rd_T47 l0 x6_1).f3).length : Int)) = true := decide_eq_true c11
                  have c11b1 : decide (0 < ((rd_T47 l0 x6_1).f3).length) = true := decide_eq_true (by omega)
                  clear c11
                  by_cases c12 : ((rd_T49 ((rd_T47 l0 x6_1).f3) 0).f0) = 0
                  · rw [if_pos c12] at H
                    have c12b0 : (((rd_T49 ((rd_T47 l0 x6_1).f3) 0).f0) == 0) = true := beq_iff_eq.mpr c12
                    have c12b1 : (((rd_T49 ((rd_T47 l0 x6_1).f3) 0).f0) != 0) = false := bne_eq_false_iff_eq.mpr c12
                    clear c12
                    have H' := Aside0.mk H
                    clear H
                    have p132 : 0 ≤ (x6_1 : Int) := of_decide_eq_true (by first | (with_reducible assumption) | assumption)
                    have q132 : x6_1 < (l0.length : Int) := of_decide_eq_true (by first | (with_reducible assumption) | assumption)
                    obtain ⟨ad132, A132_3, c132_3, A132_7, c132_7, e132, hx132_0, hx132_1, hx132_2, hx132_3, hx132_4, hx132_5, hx132_6, hx132_7, hl132_3, hi132_3, hl132_7, hi132_7⟩ := at_T47 HR0.out x6_1 p132 q132
                    cases e132
                    replace hx132_0 := (HB.out.cell (World.block_lt_of_cell? w _ hx132_0)).trans hx132_0
                    replace hx132_1 := (HB.out.cell (World.block_lt_of_cell? w _ hx132_1)).trans hx132_1
                    replace hx132_2 := (HB.out.cell (World.block_lt_of_cell? w _ hx132_2)).trans hx132_2
                    replace hx132_3 := (HB.out.cell (World.block_lt_of_cell? w _ hx132_3)).trans hx132_3
                    replace hx132_4 := (HB.out.cell (World.block_lt_of_cell? w _ hx132_4)).trans hx132_4
                    replace hx132_5 := (HB.out.cell (World.block_lt_of_cell? w _ hx132_5)).trans hx132_5
                    replace hx132_6 := (HB.out.cell (World.block_lt_of_cell? w _ hx132_6)).trans hx132_6
                    replace hx132_7 := (HB.out.cell (World.block_lt_of_cell? w _ hx132_7)).trans hx132_7
                    have HR132_3 := Aside0.mk hi132_3
                    have HC132_3 := Aside0.mk hl132_3
                    clear hi132_3 hl132_3
                    have HR132_7 := Aside0.mk hi132_7
                    have HC132_7 := Aside0.mk hl132_7
                    clear hi132_7 hl132_7
                    replace p132 := eq_true p132
                    replace q132 := eq_true q132
                    go_wp2_with (first | ((with_reducible refine gate_callee (f := 58) rfl ?_); refine goesL_ (some 21) rfl rfl Try.func58 (by kernel_rfl) rfl #[.agg #[.int .i64 ((rd_T47 l0 x6_1).f0), .int .i64 ((rd_T47 l0 x6_1).f1), .int .i64 ((rd_T47 l0 x6_1).f2), .slice A132_3 ((rd_T47 l0 x6_1).f3).length c132_3, .int .i64 ((rd_T47 l0 x6_1).f4), .int .i64 ((rd_T47 l0 x6_1).f5), .int .i64 ((rd_T47 l0 x6_1).f6), .slice A132_7 ((rd_T47 l0 x6_1).f7).length c132_7], .int .i64 a1] rfl (by (try simp only [List.map_toArray, List.map_cons, List.map_nil]); first | done | rfl | (simp only [List.length_drop, List.length_take]; rfl)) ?_; (with_reducible refine (portageref22_Writes.calls ((rd_T47 l0 x6_1).f0) ((rd_T47 l0 x6_1).f1) ((rd_T47 l0 x6_1).f2) _ _ ((rd_T47 l0 x6_1).f3) ((rd_T47 l0 x6_1).f4) ((rd_T47 l0 x6_1).f5) ((rd_T47 l0 x6_1).f6) _ _ ((rd_T47 l0 x6_1).f7) a1 true _ ?side1 ?side2 ?side3 ?side4 A7.out).mono ?_); (case side1 => repeat (first | exact (Kd.C_below HR132_3.out HB.out) | (with_reducible refine Kd.C_alloc ?_ _) | (with_reducible refine Kd.C_drewN ?_ _) | (with_reducible refine Kd.C_drew ?_))); (case side2 => exact HC132_3.out); (case side3 => repeat (first | exact (Kd.C_below HR132_7.out HB.out) | (with_reducible refine Kd.C_alloc ?_ _) | (with_reducible refine Kd.C_drewN ?_ _) | (with_reducible refine Kd.C_drew ?_))); (case side4 => exact HC132_7.out); rintro e w13 ⟨rfl, hb⟩; refine ⟨_, rfl, ?_⟩; have n0_ := Aside0.mk (blk_below (g := gb131) (o := .cells #[.int .i64 x132000_1, .int .i64 x132001_1] 49 (0, 0)) (by (with_reducible repeat (first | refine blk_drewN ?_ _ | refine blk_drew ?_ | refine blk_alloc ?_ _)); exact BK131.out) hb); have n1_ := Aside0.mk (below_step (by repeat (first | (with_reducible first | exact HB.out | apply below_alloc | apply pw_below_drewN | apply below_drew1 | refine below_set ?_ GE131.out) | exact HB.out)) hb); clear BK131; clear HB; have BK131 := n0_; have HB := n1_; clear n0_ n1_; (try clear hb); (try clear hb2); (try clear hk); (try clear hi); have p134 : 0 ≤ (x6_1 : Int) := of_decide_eq_true (by first | (with_reducible assumption) | assumption); have q134 : x6_1 < (l0.length : Int) := of_decide_eq_true (by first | (with_reducible assumption) | assumption); obtain ⟨ad134, A134_3, c134_3, A134_7, c134_7, e134, hx134_0, hx134_1, hx134_2, hx134_3, hx134_4, hx134_5, hx134_6, hx134_7, hl134_3, hi134_3, hl134_7, hi134_7⟩ := at_T47 HR0.out x6_1 p134 q134; obtain rfl : ad132 = ad134 := (by injection e134); replace hx134_0 := (HB.out.cell (World.block_lt_of_cell? w _ hx134_0)).trans hx134_0; replace hx134_1 := (HB.out.cell (World.block_lt_of_cell? w _ hx134_1)).trans hx134_1; replace hx134_2 := (HB.out.cell (World.block_lt_of_cell? w _ hx134_2)).trans hx134_2; replace hx134_3 := (HB.out.cell (World.block_lt_of_cell? w _ hx134_3)).trans hx134_3; replace hx134_4 := (HB.out.cell (World.block_lt_of_cell? w _ hx134_4)).trans hx134_4; replace hx134_5 := (HB.out.cell (World.block_lt_of_cell? w _ hx134_5)).trans hx134_5; replace hx134_6 := (HB.out.cell (World.block_lt_of_cell? w _ hx134_6)).trans hx134_6; replace hx134_7 := (HB.out.cell (World.block_lt_of_cell? w _ hx134_7)).trans hx134_7; have HR134_3 := Aside0.mk hi134_3; have HC134_3 := Aside0.mk hl134_3; clear hi134_3 hl134_3; have HR134_7 := Aside0.mk hi134_7; have HC134_7 := Aside0.mk hl134_7; clear hi134_7 hl134_7; replace p134 := eq_true p134; replace q134 := eq_true q134) | ((with_reducible refine gate_callee (f := 42) rfl ?_); refine goesL_ (some 27) rfl rfl Try.func42 (by kernel_rfl) rfl #[.agg #[.int .i64 ((rd_T47 l0 x6_1).f0), .int .i64 ((rd_T47 l0 x6_1).f1), .int .i64 ((rd_T47 l0 x6_1).f2), .slice A134_3 ((rd_T47 l0 x6_1).f3).length c134_3, .int .i64 ((rd_T47 l0 x6_1).f4), .int .i64 ((rd_T47 l0 x6_1).f5), .int .i64 ((rd_T47 l0 x6_1).f6), .slice A134_7 ((rd_T47 l0 x6_1).f7).length c134_7]] rfl (by (try simp only [List.map_toArray, List.map_cons, List.map_nil]); first | done | rfl | (simp only [List.length_drop, List.length_take]; rfl)) ?_; (with_reducible refine (portageref22_moves.calls ((rd_T47 l0 x6_1).f0) ((rd_T47 l0 x6_1).f1) ((rd_T47 l0 x6_1).f2) _ _ ((rd_T47 l0 x6_1).f3) ((rd_T47 l0 x6_1).f4) ((rd_T47 l0 x6_1).f5) ((rd_T47 l0 x6_1).f6) _ _ ((rd_T47 l0 x6_1).f7) true _ ?side1 ?side2 ?side3 ?side4 A9.out).mono ?_); (case side1 => repeat (first | exact (Kd.C_below HR134_3.out HB.out) | (with_reducible refine Kd.C_alloc ?_ _) | (with_reducible refine Kd.C_drewN ?_ _) | (with_reducible refine Kd.C_drew ?_))); (case side2 => exact HC134_3.out); (case side3 => repeat (first | exact (Kd.C_below HR134_7.out HB.out) | (with_reducible refine Kd.C_alloc ?_ _) | (with_reducible refine Kd.C_drewN ?_ _) | (with_reducible refine Kd.C_drew ?_))); (case side4 => exact HC134_7.out); rintro e w14 ⟨rfl, hb⟩; refine ⟨_, rfl, ?_⟩; have n0_ := Aside0.mk (blk_below (g := gb131) (o := .cells #[.int .i64 x132000_1, .int .i64 x132001_1] 49 (0, 0)) (by (with_reducible repeat (first | refine blk_drewN ?_ _ | refine blk_drew ?_ | refine blk_alloc ?_ _)); exact BK131.out) hb); have n1_ := Aside0.mk (below_step (by repeat (first | (with_reducible first | exact HB.out | apply below_alloc | apply pw_below_drewN | apply below_drew1 | refine below_set ?_ GE131.out) | exact HB.out)) hb); clear BK131; clear HB; have BK131 := n0_; have HB := n1_; clear n0_ n1_; (try clear hb); (try clear hb2); (try clear hk); (try clear hi); have p136 : 0 ≤ (x6_1 : Int) := of_decide_eq_true (by first | (with_reducible assumption) | assumption); have q136 : x6_1 < (l0.length : Int) := of_decide_eq_true (by first | (with_reducible assumption) | assumption); obtain ⟨ad136, A136_3, c136_3, A136_7, c136_7, e136, hx136_0, hx136_1, hx136_2, hx136_3, hx136_4, hx136_5, hx136_6, hx136_7, hl136_3, hi136_3, hl136_7, hi136_7⟩ := at_T47 HR0.out x6_1 p136 q136; obtain rfl : ad132 = ad136 := (by injection e136); replace hx136_0 := (HB.out.cell (World.block_lt_of_cell? w _ hx136_0)).trans hx136_0; replace hx136_1 := (HB.out.cell (World.block_lt_of_cell? w _ hx136_1)).trans hx136_1; replace hx136_2 := (HB.out.cell (World.block_lt_of_cell? w _ hx136_2)).trans hx136_2; replace hx136_3 := (HB.out.cell (World.block_lt_of_cell? w _ hx136_3)).trans hx136_3; replace hx136_4 := (HB.out.cell (World.block_lt_of_cell? w _ hx136_4)).trans hx136_4; replace hx136_5 := (HB.out.cell (World.block_lt_of_cell? w _ hx136_5)).trans hx136_5; replace hx136_6 := (HB.out.cell (World.block_lt_of_cell? w _ hx136_6)).trans hx136_6; replace hx136_7 := (HB.out.cell (World.block_lt_of_cell? w _ hx136_7)).trans hx136_7; have HR136_3 := Aside0.mk hi136_3; have HC136_3 := Aside0.mk hl136_3; clear hi136_3 hl136_3; have HR136_7 := Aside0.mk hi136_7; have HC136_7 := Aside0.mk hl136_7; clear hi136_7 hl136_7; replace p136 := eq_true p136; replace q136 := eq_true q136; have p137 : 0 ≤ (0 : Int) := (by omega); have q137 : 0 < (((rd_T47 l0 x6_1).f3).length : Int) := of_decide_eq_true (by first | (with_reducible assumption) | assumption); obtain ⟨ad137, e137, hx137_0, hx137_1⟩ := at_T49 HR136_3.out 0 p137 q137; cases e137; have qi137 : (0 < ((rd_T47 l0 x6_1).f3).length) = True := eq_true (by omega); (try rw [show ((0 : Int)).toNat = 0 from rfl] at hx137_0); (try rw [show 0 * 2 = 0 from rfl] at hx137_0); (try rw [Addr.add_zero'] at hx137_0); (try rw [show ((0 : Int)).toNat = 0 from rfl] at hx137_1); (try rw [show 0 * 2 = 0 from rfl] at hx137_1); (try rw [Addr.add_zero'] at hx137_1); replace hx137_0 := (HB.out.cell (World.block_lt_of_cell? w _ hx137_0)).trans hx137_0; replace hx137_1 := (HB.out.cell (World.block_lt_of_cell? w _ hx137_1)).trans hx137_1; replace p137 := eq_true p137; replace q137 := eq_true q137) | ((with_reducible refine gate_dst (N := 7) rfl ?_); refine box_event ?hg (N := 7) ?hd (cs := #[.int .i64 0, .int .i64 0]) (t := 49) ?hr ?_; (case hd => rfl); (case hg => rfl); (case hr => first | (go_simp; done) | (go_simp; rfl)); intro gb138 hg w15 hbox hb; have n0_ := Aside0.mk (blk_below (g := gb131) (o := .cells #[.int .i64 x132000_1, .int .i64 x132001_1] 49 (0, 0)) (by (with_reducible repeat (first | refine blk_drewN ?_ _ | refine blk_drew ?_ | refine blk_alloc ?_ _)); exact BK131.out) hb); have n1_ := Aside0.mk (below_step (by repeat (first | (with_reducible first | exact HB.out | apply below_alloc | apply pw_below_drewN | apply below_drew1 | refine below_set ?_ GE131.out) | exact HB.out)) hb); have n2_ := Aside0.mk (hbox); have n3_ := Aside0.mk ((by rw [hg]; exact (below_size (by repeat (first | (with_reducible first | exact HB.out | apply below_alloc | apply pw_below_drewN | apply below_drew1 | refine below_set ?_ GE131.out) | exact HB.out))) : w.heap.size ≤ gb138)); have n4_ := Aside0.mk ((by rw [hg]; exact (below_size (by repeat (first | (with_reducible first | exact HB.out | apply below_alloc | apply pw_below_drewN | apply below_drew1 | refine below_set ?_ GE131.out) | exact HB.out))) : w.heap.size ≤ gb138)); have n5_ := Aside0.mk ((by rw [hg]; exact Nat.ne_of_lt (blk_lt (g := gb131) (o := .cells #[.int .i64 x132000_1, .int .i64 x132001_1] 49 (0, 0)) (by (with_reducible repeat (first | refine blk_drewN ?_ _ | refine blk_drew ?_ | refine blk_alloc ?_ _)); exact BK131.out)) : gb131 ≠ gb138)); have n6_ := Aside0.mk ((by rw [hg]; exact Nat.ne_of_gt (blk_lt (g := gb131) (o := .cells #[.int .i64 x132000_1, .int .i64 x132001_1] 49 (0, 0)) (by (with_reducible repeat (first | refine blk_drewN ?_ _ | refine blk_drew ?_ | refine blk_alloc ?_ _)); exact BK131.out)) : gb138 ≠ gb131)); clear BK131; clear HB; have BK131 := n0_; have HB := n1_; have BK138 := n2_; have GW138 := n3_; have GE138 := n4_; have NB131_138 := n5_; have NB138_131 := n6_; clear n0_ n1_ n2_ n3_ n4_ n5_ n6_; clear hb hbox hg; have hnb16 := NB138_131.out; have hnc16 := NB131_138.out; have hcz17_0 : w15.cell? ⟨gb138, 0, none⟩ = some (.int .i64 0) := (blk_cell BK138.out 0).trans rfl; have hcz17_1 : w15.cell? ⟨gb138, 1, none⟩ = some (.int .i64 0) := (blk_cell BK138.out 1).trans rfl; have hfz17_0 := blk_frozen BK138.out 0; have hfz17_1 := blk_frozen BK138.out 1))
                    go_loopg [8] k1 (fun kq v8 w' => ∃ (x8_2 : Int) (x132000_2 : Int) (x132001_2 : Int), v8 = .int .i64 x8_2 ∧ Aside0 (portageref22_KnownAs.l1 kq l0 x8_2 ((rd_T49 ((rd_T47 l0 x6_1).f3) 0).f0) ((rd_T49 ((rd_T47 l0 x6_1).f3) 0).f1) = some (r1, r2, r3)) ∧ Aside0 (kq ≤ k1) ∧ Aside0 (w'.heap[gb131]? = some (.cells #[.int .i64 x132000_2, .int .i64 x132001_2] 49 (0, 0))) ∧ Aside0 (w'.heap[gb138]? = some (.cells #[.int .i64 ((rd_T49 ((rd_T47 l0 x6_1).f3) 0).f0), .int .i64 ((rd_T49 ((rd_T47 l0 x6_1).f3) 0).f1)] 49 (0, 0))) ∧ Aside0 (Below w.heap.size w w'))
                    case atStart => exact ⟨(wrap64 (x6_1 + 1)), (x132000_1), (x132001_1), (by first | rfl | (simp; done) | (simp [*]; done)), H', ⟨Nat.le_refl _⟩, ⟨by (with_reducible repeat (first | refine blk_drewN ?_ _ | refine blk_drew ?_ | refine blk_alloc ?_ _)); refine blk_far ?_ NB131_138.out _; (with_reducible repeat (first | refine blk_drewN ?_ _ | refine blk_drew ?_ | refine blk_alloc ?_ _)); refine blk_far ?_ NB131_138.out _; (with_reducible repeat (first | refine blk_drewN ?_ _ | refine blk_drew ?_ | refine blk_alloc ?_ _)); exact BK131.out⟩, ⟨by (with_reducible repeat (first | refine blk_drewN ?_ _ | refine blk_drew ?_ | refine blk_alloc ?_ _)); refine blk_put (cs := #[.int .i64 ((rd_T49 ((rd_T47 l0 x6_1).f3) 0).f0), .int .i64 0]) ?_ 1 _ rfl; (with_reducible repeat (first | refine blk_drewN ?_ _ | refine blk_drew ?_ | refine blk_alloc ?_ _)); refine blk_put (cs := #[.int .i64 0, .int .i64 0]) ?_ 0 _ rfl; (with_reducible repeat (first | refine blk_drewN ?_ _ | refine blk_drew ?_ | refine blk_alloc ?_ _)); exact BK138.out⟩, ⟨by repeat (first | (with_reducible first | exact HB.out | apply below_alloc | apply pw_below_drewN | apply below_drew1 | refine below_set ?_ GE131.out | refine below_set ?_ GE138.out) | exact HB.out)⟩⟩
                    case round =>
                      clear H'
                      try clear c1
                      try clear p1
                      try clear q1
                      try clear hx1
                      try clear qi1
                      try clear p2
                      try clear c4
                      try clear c4b0
                      try clear c5
                      try clear c5b0
                      try clear c6
                      try clear c6b0
                      try clear p6
                      try clear c8
                      try clear c10
                      try clear c11
                      try clear c11b0
                      try clear c11b1
                      try clear c12
                      try clear c12b0
                      try clear c12b1
                      try clear c13
                      try clear p13
                      try clear q13
                      try clear hx13
                      try clear qi13
                      try clear c16
                      try clear hcz17_0
                      try clear hcz17_1
                      try clear hfz17_0
                      try clear hfz17_1
                      try clear hx132_0
                      try clear hx132_1
                      try clear hx132_2
                      try clear hx132_3
                      try clear hx132_4
                      try clear hx132_5
                      try clear hx132_6
                      try clear hx132_7
                      try clear hx134_0
                      try clear hx134_1
                      try clear hx134_2
                      try clear hx134_3
                      try clear hx134_4
                      try clear hx134_5
                      try clear hx134_6
                      try clear hx134_7
                      try clear hx136_0
                      try clear hx136_1
                      try clear hx136_2
                      try clear hx136_3
                      try clear hx136_4
                      try clear hx136_5
                      try clear hx136_6
                      try clear hx136_7
                      try clear hx137_0
                      try clear hx137_1
                      try clear p132
                      try clear p134
                      try clear p136
                      try clear p137
                      try clear p2
                      try clear q132
                      try clear q134
                      try clear q136
                      try clear q137
                      obtain ⟨x8_2, x132000_2, x132001_2, rfl, HA, HK2, BK131, BK138, HB⟩ := hrel
                      cases gk with
                      | zero => exact absurd HA.out (by simp [portageref22_KnownAs.l1])
                      | succ k2 =>
                        have H := HA.out
                        clear HA
                        simp only [portageref22_KnownAs.l1] at H
                        by_cases c18 : x8_2 < (l0.length : Int)
                        · rw [if_pos c18] at H
                          have c18b0 : decide (x8_2 < (l0.length : Int)) = true := decide_eq_true c18
                          clear c18
                          by_cases c19 : 0 ≤ x8_2
                          · rw [if_pos c19] at H
                            have c19b0 : decide (0 ≤ x8_2) = true := decide_eq_true c19
                            clear c19
                            replace H := Option.bind_eq_some_iff.mp H
                            obtain ⟨t140, A200, H⟩ := H
                            replace H : (if t140 = true then (some (0, 0, false)) else (portageref22_KnownAs.l1 k2 l0 (wrap64 (x8_2 + 1)) ((rd_T49 ((rd_T47 l0 x6_1).f3) 0).f0) ((rd_T49 ((rd_T47 l0 x6_1).f3) 0).f1))) = some (r1, r2, r3) := H
                            have A20 := Aside0.mk A200
                            clear A200
                            by_cases c21 : t140 = true
                            · subst c21
                              have H1 : (some (0, 0, false)) = some (r1, r2, r3) := by rw [if_pos rfl] at H; exact H
                              clear H
                              have H := H1
                              clear H1
                              simp only [Option.some.injEq, Prod.mk.injEq] at H
                              obtain ⟨rfl, rfl, rfl⟩ := H
                              try go_wp2
                              have n0_ := Aside0.mk (blk_drew BK131.out)
                              have n1_ := Aside0.mk (blk_drew BK138.out)
                              have n2_ := Aside0.mk (below_drew1 HB.out)
                              clear BK131
                              clear BK138
                              clear HB
                              have BK131 := n0_
                              have BK138 := n1_
                              have HB := n2_
                              clear n0_ n1_ n2_
                              have p139 : 0 ≤ (x8_2 : Int) := of_decide_eq_true (by first | (with_reducible assumption) | assumption)
                              have q139 : x8_2 < (l0.length : Int) := of_decide_eq_true (by first | (with_reducible assumption) | assumption)
                              obtain ⟨ad139, A139_3, c139_3, A139_7, c139_7, e139, hx139_0, hx139_1, hx139_2, hx139_3, hx139_4, hx139_5, hx139_6, hx139_7, hl139_3, hi139_3, hl139_7, hi139_7⟩ := at_T47 HR0.out x8_2 p139 q139
                              have hw139_7 := hx139_7
                              have hw139_6 := hx139_6
                              have hw139_5 := hx139_5
                              have hw139_4 := hx139_4
                              have hw139_3 := hx139_3
                              have hw139_2 := hx139_2
                              have hw139_1 := hx139_1
                              have hw139_0 := hx139_0
                              obtain rfl : ad132 = ad139 := (by injection e139)
                              replace hx139_0 := (HB.out.cell (World.block_lt_of_cell? w _ hx139_0)).trans hx139_0
                              replace hx139_1 := (HB.out.cell (World.block_lt_of_cell? w _ hx139_1)).trans hx139_1
                              replace hx139_2 := (HB.out.cell (World.block_lt_of_cell? w _ hx139_2)).trans hx139_2
                              replace hx139_3 := (HB.out.cell (World.block_lt_of_cell? w _ hx139_3)).trans hx139_3
                              replace hx139_4 := (HB.out.cell (World.block_lt_of_cell? w _ hx139_4)).trans hx139_4
                              replace hx139_5 := (HB.out.cell (World.block_lt_of_cell? w _ hx139_5)).trans hx139_5
                              replace hx139_6 := (HB.out.cell (World.block_lt_of_cell? w _ hx139_6)).trans hx139_6
                              replace hx139_7 := (HB.out.cell (World.block_lt_of_cell? w _ hx139_7)).trans hx139_7
                              have HR139_3 := Aside0.mk hi139_3
                              have HC139_3 := Aside0.mk hl139_3
                              clear hi139_3 hl139_3
                              have HR139_7 := Aside0.mk hi139_7
                              have HC139_7 := Aside0.mk hl139_7
                              clear hi139_7 hl139_7
                              replace p139 := eq_true p139
                              replace q139 := eq_true q139
                              refine start_ (n := 7) (S := fun w' => w'.cell? ⟨gb138, 0, none⟩ = some (.int .i64 ((rd_T49 ((rd_T47 l0 x6_1).f3) 0).f0)) ∧ w'.cell? ⟨gb138, 1, none⟩ = some (.int .i64 ((rd_T49 ((rd_T47 l0 x6_1).f3) 0).f1)) ∧ w'.cell? (ad132.add ((x8_2).toNat * 8)) = some (.int .i64 ((rd_T47 l0 x8_2).f0)) ∧ w'.cell? ⟨(ad132.add ((x8_2).toNat * 8)).block, (ad132.add ((x8_2).toNat * 8)).off + 1, none⟩ = some (.int .i64 ((rd_T47 l0 x8_2).f1)) ∧ w'.cell? ⟨(ad132.add ((x8_2).toNat * 8)).block, (ad132.add ((x8_2).toNat * 8)).off + 2, none⟩ = some (.int .i64 ((rd_T47 l0 x8_2).f2)) ∧ w'.cell? ⟨(ad132.add ((x8_2).toNat * 8)).block, (ad132.add ((x8_2).toNat * 8)).off + 3, none⟩ = some (.slice A139_3 ((rd_T47 l0 x8_2).f3).length c139_3) ∧ w'.cell? ⟨(ad132.add ((x8_2).toNat * 8)).block, (ad132.add ((x8_2).toNat * 8)).off + 4, none⟩ = some (.int .i64 ((rd_T47 l0 x8_2).f4)) ∧ w'.cell? ⟨(ad132.add ((x8_2).toNat * 8)).block, (ad132.add ((x8_2).toNat * 8)).off + 5, none⟩ = some (.int .i64 ((rd_T47 l0 x8_2).f5)) ∧ w'.cell? ⟨(ad132.add ((x8_2).toNat * 8)).block, (ad132.add ((x8_2).toNat * 8)).off + 6, none⟩ = some (.int .i64 ((rd_T47 l0 x8_2).f6)) ∧ w'.cell? ⟨(ad132.add ((x8_2).toNat * 8)).block, (ad132.add ((x8_2).toNat * 8)).off + 7, none⟩ = some (.slice A139_7 ((rd_T47 l0 x8_2).f7).length c139_7)) (ds := []) #[false, false, false, false, false, false, false] (by kernel_rfl) rfl rfl ⟨(blk_cell BK138.out 0).trans rfl, (blk_cell BK138.out 1).trans rfl, ((HB.out.cell (World.block_lt_of_cell? w _ hw139_0)).trans hw139_0), ((HB.out.cell (World.block_lt_of_cell? w _ hw139_1)).trans hw139_1), ((HB.out.cell (World.block_lt_of_cell? w _ hw139_2)).trans hw139_2), ((HB.out.cell (World.block_lt_of_cell? w _ hw139_3)).trans hw139_3), ((HB.out.cell (World.block_lt_of_cell? w _ hw139_4)).trans hw139_4), ((HB.out.cell (World.block_lt_of_cell? w _ hw139_5)).trans hw139_5), ((HB.out.cell (World.block_lt_of_cell? w _ hw139_6)).trans hw139_6), ((HB.out.cell (World.block_lt_of_cell? w _ hw139_7)).trans hw139_7)⟩ (fun hHeld => ?_)
                              generalize wr.drew = w22 at BK131 BK138 HB HR139_3 HR139_7 hx139_0 hx139_1 hx139_2 hx139_3 hx139_4 hx139_5 hx139_6 hx139_7 hHeld ⊢
                              refine pure_ (i := 0) (N := some 49) (v := ?_) (a' := ?_) #[true, false, false, false, false, false, false] rfl rfl (by kernel_rfl) (fun _ _ _ h => h) (Or.inl ⟨by rfl, ?_⟩) ?_ ?_
                              rotate_left
                              · intro w'
                                go_simp
                                with_reducible rfl
                              rotate_left
                              · simp only [Act.put, List.setIfInBounds_toArray, List.set_cons_zero, List.set_cons_succ, i64_w, i32_w]
                                rfl
                              refine pure_ (i := 1) (N := some 50) (v := ?_) (a' := ?_) #[true, true, false, false, false, false, false] rfl rfl (by kernel_rfl) (fun _ _ _ h => h) (Or.inl ⟨by rfl, ?_⟩) ?_ ?_
                              rotate_left
                              · intro w'
                                go_simp
                                with_reducible rfl
                              rotate_left
                              · simp only [Act.put, List.setIfInBounds_toArray, List.set_cons_zero, List.set_cons_succ, i64_w, i32_w]
                                rfl
                              refine pure_ (i := 2) (N := some 51) (v := ?_) (a' := ?_) #[true, true, true, false, false, false, false] rfl rfl (by kernel_rfl) (fun _ _ _ h => h) (Or.inl ⟨by rfl, ?_⟩) ?_ ?_
                              rotate_left
                              · intro w'
                                go_simp
                                with_reducible rfl
                              rotate_left
                              · simp only [Act.put, List.setIfInBounds_toArray, List.set_cons_zero, List.set_cons_succ, i64_w, i32_w]
                                rfl
                              refine pure_ (i := 4) (N := some 53) (v := ?_) (a' := ?_) #[true, true, true, false, true, false, false] rfl rfl (by kernel_rfl) (fun _ _ _ h => h) (Or.inl ⟨by rfl, ?_⟩) ?_ ?_
                              rotate_left
                              · intro w'
                                go_simp
                                with_reducible rfl
                              rotate_left
                              · simp only [Act.put, List.setIfInBounds_toArray, List.set_cons_zero, List.set_cons_succ, i64_w, i32_w]
                                rfl
                              refine take_ (i := 3) (N := some 52) (v := ?_) (a' := ?_) #[true, true, true, true, true, false, false] rfl rfl (by kernel_rfl) (fun _ _ _ h => h) (Or.inl ⟨by rfl, ?_⟩) hHeld ?_ ?_
                              rotate_left
                              · rintro w' ⟨s0, s1, s2, s3, s4, s5, s6, s7, s8, s9⟩
                                go_simp
                                with_reducible rfl
                              rotate_left
                              · simp only [Act.put, List.setIfInBounds_toArray, List.set_cons_zero, List.set_cons_succ, i64_w, i32_w]
                                rfl
                              refine take_ (i := 5) (N := some 54) (v := ?_) (a' := ?_) #[true, true, true, true, true, true, false] rfl rfl (by kernel_rfl) (fun _ _ _ h => h) (Or.inl ⟨by rfl, ?_⟩) hHeld ?_ ?_
                              rotate_left
                              · rintro w' ⟨s0, s1, s2, s3, s4, s5, s6, s7, s8, s9⟩
                                go_simp
                                with_reducible rfl
                              rotate_left
                              · simp only [Act.put, List.setIfInBounds_toArray, List.set_cons_zero, List.set_cons_succ, i64_w, i32_w]
                                rfl
                              refine one_ (i := 6) (N := some 55) #[true, true, true, true, true, true, true] rfl rfl (by kernel_rfl) (by decide) (fun K hK => ?_)
                              refine goes_ Try.func58 (by kernel_rfl) rfl #[.agg #[.int .i64 ((rd_T47 l0 x8_2).f0), .int .i64 ((rd_T47 l0 x8_2).f1), .int .i64 ((rd_T47 l0 x8_2).f2), .slice A139_3 ((rd_T47 l0 x8_2).f3).length c139_3, .int .i64 ((rd_T47 l0 x8_2).f4), .int .i64 ((rd_T47 l0 x8_2).f5), .int .i64 ((rd_T47 l0 x8_2).f6), .slice A139_7 ((rd_T47 l0 x8_2).f7).length c139_7], .int .i64 ((rd_T49 ((rd_T47 l0 x6_1).f3) 0).f1)] (by rfl) rfl rfl (by (try simp only [List.map_toArray, List.map_cons, List.map_nil]); first | done | rfl | (simp only [List.length_drop, List.length_take]; rfl)) ?_
                              with_reducible refine (portageref22_Writes.calls ((rd_T47 l0 x8_2).f0) ((rd_T47 l0 x8_2).f1) ((rd_T47 l0 x8_2).f2) _ _ ((rd_T47 l0 x8_2).f3) ((rd_T47 l0 x8_2).f4) ((rd_T47 l0 x8_2).f5) ((rd_T47 l0 x8_2).f6) _ _ ((rd_T47 l0 x8_2).f7) ((rd_T49 ((rd_T47 l0 x6_1).f3) 0).f1) true _ ?side1 ?side2 ?side3 ?side4 A20.out).mono ?_
                              (case side1 => repeat (first | exact (Kd.C_below HR139_3.out HB.out) | (with_reducible refine Kd.C_alloc ?_ _) | (with_reducible refine Kd.C_drewN ?_ _) | (with_reducible refine Kd.C_drew ?_)))
                              (case side2 => exact HC139_3.out)
                              (case side3 => repeat (first | exact (Kd.C_below HR139_7.out HB.out) | (with_reducible refine Kd.C_alloc ?_ _) | (with_reducible refine Kd.C_drewN ?_ _) | (with_reducible refine Kd.C_drew ?_)))
                              (case side4 => exact HC139_7.out)
                              rintro e w23 ⟨rfl, hb⟩
                              refine ⟨_, rfl, ?_⟩
                              have n0_ := Aside0.mk (blk_below (g := gb131) (o := .cells #[.int .i64 x132000_2, .int .i64 x132001_2] 49 (0, 0)) (by (with_reducible repeat (first | refine blk_drewN ?_ _ | refine blk_drew ?_ | refine blk_alloc ?_ _)); exact BK131.out) hb)
                              have n1_ := Aside0.mk (blk_below (g := gb138) (o := .cells #[.int .i64 ((rd_T49 ((rd_T47 l0 x6_1).f3) 0).f0), .int .i64 ((rd_T49 ((rd_T47 l0 x6_1).f3) 0).f1)] 49 (0, 0)) (by (with_reducible repeat (first | refine blk_drewN ?_ _ | refine blk_drew ?_ | refine blk_alloc ?_ _)); exact BK138.out) hb)
                              have n2_ := Aside0.mk (below_step (by repeat (first | (with_reducible first | exact HB.out | apply below_alloc | apply pw_below_drewN | apply below_drew1 | refine below_set ?_ GE131.out | refine below_set ?_ GE138.out) | exact HB.out)) hb)
                              clear BK131
                              clear BK138
                              clear HB
                              have BK131 := n0_
                              have BK138 := n1_
                              have HB := n2_
                              clear n0_ n1_ n2_
                              (try clear hb)
                              (try clear hb2)
                              (try clear hk)
                              (try clear hi)
                              refine hK.out _ _ ⟨(blk_cell BK138.out 0).trans rfl, (blk_cell BK138.out 1).trans rfl, ((HB.out.cell (World.block_lt_of_cell? w _ hw139_0)).trans hw139_0), ((HB.out.cell (World.block_lt_of_cell? w _ hw139_1)).trans hw139_1), ((HB.out.cell (World.block_lt_of_cell? w _ hw139_2)).trans hw139_2), ((HB.out.cell (World.block_lt_of_cell? w _ hw139_3)).trans hw139_3), ((HB.out.cell (World.block_lt_of_cell? w _ hw139_4)).trans hw139_4), ((HB.out.cell (World.block_lt_of_cell? w _ hw139_5)).trans hw139_5), ((HB.out.cell (World.block_lt_of_cell? w _ hw139_6)).trans hw139_6), ((HB.out.cell (World.block_lt_of_cell? w _ hw139_7)).trans hw139_7)⟩ (fun hHeld => ?_)
                              clear hK K
                              refine norm_ (a' := ?_) ?_ ?_
                              rotate_left
                              · show Act.put _ (some 55) _ = _
                                simp only [Act.put, List.setIfInBounds_toArray, List.set_cons_zero, List.set_cons_succ, i64_w, i32_w]
                                rfl
                              refine done_ (by kernel_rfl) ?_
                              have hnb24 := NB131_138.out
                              have hnc24 := NB138_131.out
                              have hcz25_0 : w23.cell? ⟨gb131, 0, none⟩ = some (.int .i64 x132000_2) := (blk_cell BK131.out 0).trans rfl
                              have hcz25_1 : w23.cell? ⟨gb131, 1, none⟩ = some (.int .i64 x132001_2) := (blk_cell BK131.out 1).trans rfl
                              have hfz25_0 := blk_frozen BK131.out 0
                              have hfz25_1 := blk_frozen BK131.out 1
                              try go_wp2
                              refine bodyPost_ret (results_ct rfl _ _ gb131 49 #[.int .i64 0, .int .i64 0] (0, 0) _ rfl (by (with_reducible repeat (first | refine blk_drewN ?_ _ | refine blk_drew ?_ | refine blk_alloc ?_ _)); refine blk_put (cs := #[.int .i64 0, .int .i64 x132001_2]) ?_ 1 _ rfl; (with_reducible repeat (first | refine blk_drewN ?_ _ | refine blk_drew ?_ | refine blk_alloc ?_ _)); refine blk_put (cs := #[.int .i64 x132000_2, .int .i64 x132001_2]) ?_ 0 _ rfl; (with_reducible repeat (first | refine blk_drewN ?_ _ | refine blk_drew ?_ | refine blk_alloc ?_ _)); exact BK131.out) Try.underlying49 rfl (by kernel_rfl)) rfl ?_
                              exact ⟨by first | rfl | (simp [errW_none, errW_some] <;> rfl) | (simp [*, errW_none, errW_some] <;> rfl), by repeat (first | (with_reducible first | exact HB.out | apply below_alloc | apply pw_below_drewN | apply below_drew1 | refine below_set ?_ GE131.out | refine below_set ?_ GE138.out) | exact HB.out)⟩
                            · replace c21 := Bool.eq_false_iff.mpr c21
                              subst c21
                              have H1 : (portageref22_KnownAs.l1 k2 l0 (wrap64 (x8_2 + 1)) ((rd_T49 ((rd_T47 l0 x6_1).f3) 0).f0) ((rd_T49 ((rd_T47 l0 x6_1).f3) 0).f1)) = some (r1, r2, r3) := by rw [if_neg (show ¬ (false = true) by decide)] at H; exact H
                              clear H
                              have H := H1
                              clear H1
                              have H' := Aside0.mk H
                              clear H
                              try go_wp2
                              have n0_ := Aside0.mk (blk_drew BK131.out)
                              have n1_ := Aside0.mk (blk_drew BK138.out)
                              have n2_ := Aside0.mk (below_drew1 HB.out)
                              clear BK131
                              clear BK138
                              clear HB
                              have BK131 := n0_
                              have BK138 := n1_
                              have HB := n2_
                              clear n0_ n1_ n2_
                              have p139 : 0 ≤ (x8_2 : Int) := of_decide_eq_true (by first | (with_reducible assumption) | assumption)
                              have q139 : x8_2 < (l0.length : Int) := of_decide_eq_true (by first | (with_reducible assumption) | assumption)
                              obtain ⟨ad139, A139_3, c139_3, A139_7, c139_7, e139, hx139_0, hx139_1, hx139_2, hx139_3, hx139_4, hx139_5, hx139_6, hx139_7, hl139_3, hi139_3, hl139_7, hi139_7⟩ := at_T47 HR0.out x8_2 p139 q139
                              have hw139_7 := hx139_7
                              have hw139_6 := hx139_6
                              have hw139_5 := hx139_5
                              have hw139_4 := hx139_4
                              have hw139_3 := hx139_3
                              have hw139_2 := hx139_2
                              have hw139_1 := hx139_1
                              have hw139_0 := hx139_0
                              obtain rfl : ad132 = ad139 := (by injection e139)
                              replace hx139_0 := (HB.out.cell (World.block_lt_of_cell? w _ hx139_0)).trans hx139_0
                              replace hx139_1 := (HB.out.cell (World.block_lt_of_cell? w _ hx139_1)).trans hx139_1
                              replace hx139_2 := (HB.out.cell (World.block_lt_of_cell? w _ hx139_2)).trans hx139_2
                              replace hx139_3 := (HB.out.cell (World.block_lt_of_cell? w _ hx139_3)).trans hx139_3
                              replace hx139_4 := (HB.out.cell (World.block_lt_of_cell? w _ hx139_4)).trans hx139_4
                              replace hx139_5 := (HB.out.cell (World.block_lt_of_cell? w _ hx139_5)).trans hx139_5
                              replace hx139_6 := (HB.out.cell (World.block_lt_of_cell? w _ hx139_6)).trans hx139_6
                              replace hx139_7 := (HB.out.cell (World.block_lt_of_cell? w _ hx139_7)).trans hx139_7
                              have HR139_3 := Aside0.mk hi139_3
                              have HC139_3 := Aside0.mk hl139_3
                              clear hi139_3 hl139_3
                              have HR139_7 := Aside0.mk hi139_7
                              have HC139_7 := Aside0.mk hl139_7
                              clear hi139_7 hl139_7
                              replace p139 := eq_true p139
                              replace q139 := eq_true q139
                              refine start_ (n := 7) (S := fun w' => w'.cell? ⟨gb138, 0, none⟩ = some (.int .i64 ((rd_T49 ((rd_T47 l0 x6_1).f3) 0).f0)) ∧ w'.cell? ⟨gb138, 1, none⟩ = some (.int .i64 ((rd_T49 ((rd_T47 l0 x6_1).f3) 0).f1)) ∧ w'.cell? (ad132.add ((x8_2).toNat * 8)) = some (.int .i64 ((rd_T47 l0 x8_2).f0)) ∧ w'.cell? ⟨(ad132.add ((x8_2).toNat * 8)).block, (ad132.add ((x8_2).toNat * 8)).off + 1, none⟩ = some (.int .i64 ((rd_T47 l0 x8_2).f1)) ∧ w'.cell? ⟨(ad132.add ((x8_2).toNat * 8)).block, (ad132.add ((x8_2).toNat * 8)).off + 2, none⟩ = some (.int .i64 ((rd_T47 l0 x8_2).f2)) ∧ w'.cell? ⟨(ad132.add ((x8_2).toNat * 8)).block, (ad132.add ((x8_2).toNat * 8)).off + 3, none⟩ = some (.slice A139_3 ((rd_T47 l0 x8_2).f3).length c139_3) ∧ w'.cell? ⟨(ad132.add ((x8_2).toNat * 8)).block, (ad132.add ((x8_2).toNat * 8)).off + 4, none⟩ = some (.int .i64 ((rd_T47 l0 x8_2).f4)) ∧ w'.cell? ⟨(ad132.add ((x8_2).toNat * 8)).block, (ad132.add ((x8_2).toNat * 8)).off + 5, none⟩ = some (.int .i64 ((rd_T47 l0 x8_2).f5)) ∧ w'.cell? ⟨(ad132.add ((x8_2).toNat * 8)).block, (ad132.add ((x8_2).toNat * 8)).off + 6, none⟩ = some (.int .i64 ((rd_T47 l0 x8_2).f6)) ∧ w'.cell? ⟨(ad132.add ((x8_2).toNat * 8)).block, (ad132.add ((x8_2).toNat * 8)).off + 7, none⟩ = some (.slice A139_7 ((rd_T47 l0 x8_2).f7).length c139_7)) (ds := []) #[false, false, false, false, false, false, false] (by kernel_rfl) rfl rfl ⟨(blk_cell BK138.out 0).trans rfl, (blk_cell BK138.out 1).trans rfl, ((HB.out.cell (World.block_lt_of_cell? w _ hw139_0)).trans hw139_0), ((HB.out.cell (World.block_lt_of_cell? w _ hw139_1)).trans hw139_1), ((HB.out.cell (World.block_lt_of_cell? w _ hw139_2)).trans hw139_2), ((HB.out.cell (World.block_lt_of_cell? w _ hw139_3)).trans hw139_3), ((HB.out.cell (World.block_lt_of_cell? w _ hw139_4)).trans hw139_4), ((HB.out.cell (World.block_lt_of_cell? w _ hw139_5)).trans hw139_5), ((HB.out.cell (World.block_lt_of_cell? w _ hw139_6)).trans hw139_6), ((HB.out.cell (World.block_lt_of_cell? w _ hw139_7)).trans hw139_7)⟩ (fun hHeld => ?_)
                              generalize wr.drew = w26 at BK131 BK138 HB HR139_3 HR139_7 hx139_0 hx139_1 hx139_2 hx139_3 hx139_4 hx139_5 hx139_6 hx139_7 hHeld ⊢
                              refine pure_ (i := 0) (N := some 49) (v := ?_) (a' := ?_) #[true, false, false, false, false, false, false] rfl rfl (by kernel_rfl) (fun _ _ _ h => h) (Or.inl ⟨by rfl, ?_⟩) ?_ ?_
                              rotate_left
                              · intro w'
                                go_simp
                                with_reducible rfl
                              rotate_left
                              · simp only [Act.put, List.setIfInBounds_toArray, List.set_cons_zero, List.set_cons_succ, i64_w, i32_w]
                                rfl
                              refine pure_ (i := 1) (N := some 50) (v := ?_) (a' := ?_) #[true, true, false, false, false, false, false] rfl rfl (by kernel_rfl) (fun _ _ _ h => h) (Or.inl ⟨by rfl, ?_⟩) ?_ ?_
                              rotate_left
                              · intro w'
                                go_simp
                                with_reducible rfl
                              rotate_left
                              · simp only [Act.put, List.setIfInBounds_toArray, List.set_cons_zero, List.set_cons_succ, i64_w, i32_w]
                                rfl
                              refine pure_ (i := 2) (N := some 51) (v := ?_) (a' := ?_) #[true, true, true, false, false, false, false] rfl rfl (by kernel_rfl) (fun _ _ _ h => h) (Or.inl ⟨by rfl, ?_⟩) ?_ ?_
                              rotate_left
                              · intro w'
                                go_simp
                                with_reducible rfl
                              rotate_left
                              · simp only [Act.put, List.setIfInBounds_toArray, List.set_cons_zero, List.set_cons_succ, i64_w, i32_w]
                                rfl
                              refine pure_ (i := 4) (N := some 53) (v := ?_) (a' := ?_) #[true, true, true, false, true, false, false] rfl rfl (by kernel_rfl) (fun _ _ _ h => h) (Or.inl ⟨by rfl, ?_⟩) ?_ ?_
                              rotate_left
                              · intro w'
                                go_simp
                                with_reducible rfl
                              rotate_left
                              · simp only [Act.put, List.setIfInBounds_toArray, List.set_cons_zero, List.set_cons_succ, i64_w, i32_w]
                                rfl
                              refine take_ (i := 3) (N := some 52) (v := ?_) (a' := ?_) #[true, true, true, true, true, false, false] rfl rfl (by kernel_rfl) (fun _ _ _ h => h) (Or.inl ⟨by rfl, ?_⟩) hHeld ?_ ?_
                              rotate_left
                              · rintro w' ⟨s0, s1, s2, s3, s4, s5, s6, s7, s8, s9⟩
                                go_simp
                                with_reducible rfl
                              rotate_left
                              · simp only [Act.put, List.setIfInBounds_toArray, List.set_cons_zero, List.set_cons_succ, i64_w, i32_w]
                                rfl
                              refine take_ (i := 5) (N := some 54) (v := ?_) (a' := ?_) #[true, true, true, true, true, true, false] rfl rfl (by kernel_rfl) (fun _ _ _ h => h) (Or.inl ⟨by rfl, ?_⟩) hHeld ?_ ?_
                              rotate_left
                              · rintro w' ⟨s0, s1, s2, s3, s4, s5, s6, s7, s8, s9⟩
                                go_simp
                                with_reducible rfl
                              rotate_left
                              · simp only [Act.put, List.setIfInBounds_toArray, List.set_cons_zero, List.set_cons_succ, i64_w, i32_w]
                                rfl
                              refine one_ (i := 6) (N := some 55) #[true, true, true, true, true, true, true] rfl rfl (by kernel_rfl) (by decide) (fun K hK => ?_)
                              refine goes_ Try.func58 (by kernel_rfl) rfl #[.agg #[.int .i64 ((rd_T47 l0 x8_2).f0), .int .i64 ((rd_T47 l0 x8_2).f1), .int .i64 ((rd_T47 l0 x8_2).f2), .slice A139_3 ((rd_T47 l0 x8_2).f3).length c139_3, .int .i64 ((rd_T47 l0 x8_2).f4), .int .i64 ((rd_T47 l0 x8_2).f5), .int .i64 ((rd_T47 l0 x8_2).f6), .slice A139_7 ((rd_T47 l0 x8_2).f7).length c139_7], .int .i64 ((rd_T49 ((rd_T47 l0 x6_1).f3) 0).f1)] (by rfl) rfl rfl (by (try simp only [List.map_toArray, List.map_cons, List.map_nil]); first | done | rfl | (simp only [List.length_drop, List.length_take]; rfl)) ?_
                              with_reducible refine (portageref22_Writes.calls ((rd_T47 l0 x8_2).f0) ((rd_T47 l0 x8_2).f1) ((rd_T47 l0 x8_2).f2) _ _ ((rd_T47 l0 x8_2).f3) ((rd_T47 l0 x8_2).f4) ((rd_T47 l0 x8_2).f5) ((rd_T47 l0 x8_2).f6) _ _ ((rd_T47 l0 x8_2).f7) ((rd_T49 ((rd_T47 l0 x6_1).f3) 0).f1) false _ ?side1 ?side2 ?side3 ?side4 A20.out).mono ?_
                              (case side1 => repeat (first | exact (Kd.C_below HR139_3.out HB.out) | (with_reducible refine Kd.C_alloc ?_ _) | (with_reducible refine Kd.C_drewN ?_ _) | (with_reducible refine Kd.C_drew ?_)))
                              (case side2 => exact HC139_3.out)
                              (case side3 => repeat (first | exact (Kd.C_below HR139_7.out HB.out) | (with_reducible refine Kd.C_alloc ?_ _) | (with_reducible refine Kd.C_drewN ?_ _) | (with_reducible refine Kd.C_drew ?_)))
                              (case side4 => exact HC139_7.out)
                              rintro e w27 ⟨rfl, hb⟩
                              refine ⟨_, rfl, ?_⟩
                              have n0_ := Aside0.mk (blk_below (g := gb131) (o := .cells #[.int .i64 x132000_2, .int .i64 x132001_2] 49 (0, 0)) (by (with_reducible repeat (first | refine blk_drewN ?_ _ | refine blk_drew ?_ | refine blk_alloc ?_ _)); exact BK131.out) hb)
                              have n1_ := Aside0.mk (blk_below (g := gb138) (o := .cells #[.int .i64 ((rd_T49 ((rd_T47 l0 x6_1).f3) 0).f0), .int .i64 ((rd_T49 ((rd_T47 l0 x6_1).f3) 0).f1)] 49 (0, 0)) (by (with_reducible repeat (first | refine blk_drewN ?_ _ | refine blk_drew ?_ | refine blk_alloc ?_ _)); exact BK138.out) hb)
                              have n2_ := Aside0.mk (below_step (by repeat (first | (with_reducible first | exact HB.out | apply below_alloc | apply pw_below_drewN | apply below_drew1 | refine below_set ?_ GE131.out | refine below_set ?_ GE138.out) | exact HB.out)) hb)
                              clear BK131
                              clear BK138
                              clear HB
                              have BK131 := n0_
                              have BK138 := n1_
                              have HB := n2_
                              clear n0_ n1_ n2_
                              (try clear hb)
                              (try clear hb2)
                              (try clear hk)
                              (try clear hi)
                              refine hK.out _ _ ⟨(blk_cell BK138.out 0).trans rfl, (blk_cell BK138.out 1).trans rfl, ((HB.out.cell (World.block_lt_of_cell? w _ hw139_0)).trans hw139_0), ((HB.out.cell (World.block_lt_of_cell? w _ hw139_1)).trans hw139_1), ((HB.out.cell (World.block_lt_of_cell? w _ hw139_2)).trans hw139_2), ((HB.out.cell (World.block_lt_of_cell? w _ hw139_3)).trans hw139_3), ((HB.out.cell (World.block_lt_of_cell? w _ hw139_4)).trans hw139_4), ((HB.out.cell (World.block_lt_of_cell? w _ hw139_5)).trans hw139_5), ((HB.out.cell (World.block_lt_of_cell? w _ hw139_6)).trans hw139_6), ((HB.out.cell (World.block_lt_of_cell? w _ hw139_7)).trans hw139_7)⟩ (fun hHeld => ?_)
                              clear hK K
                              refine norm_ (a' := ?_) ?_ ?_
                              rotate_left
                              · show Act.put _ (some 55) _ = _
                                simp only [Act.put, List.setIfInBounds_toArray, List.set_cons_zero, List.set_cons_succ, i64_w, i32_w]
                                rfl
                              refine done_ (by kernel_rfl) ?_
                              try go_wp2
                              go_roundg k2
                              case measure => have := HK1.out; have := HK2.out; omega
                              case rel => exact ⟨(wrap64 (x8_2 + 1)), (x132000_2), (x132001_2), (by first | rfl | (simp; done) | (simp [*]; done)), H', ⟨by have := HK1.out; have := HK2.out; omega⟩, ⟨by (with_reducible repeat (first | refine blk_drewN ?_ _ | refine blk_drew ?_ | refine blk_alloc ?_ _)); exact BK131.out⟩, ⟨by (with_reducible repeat (first | refine blk_drewN ?_ _ | refine blk_drew ?_ | refine blk_alloc ?_ _)); exact BK138.out⟩, ⟨by repeat (first | (with_reducible first | exact HB.out | apply below_alloc | apply pw_below_drewN | apply below_drew1 | refine below_set ?_ GE131.out | refine below_set ?_ GE138.out) | exact HB.out)⟩⟩
                          · rw [if_neg c19] at H
                            exact absurd H (by simp)
                        · rw [if_neg c18] at H
                          have c18b0 : decide (x8_2 < (l0.length : Int)) = false := decide_eq_false c18
                          clear c18
                          simp only [Option.some.injEq, Prod.mk.injEq] at H
                          obtain ⟨rfl, rfl, rfl⟩ := H
                          have hnb28 := NB138_131.out
                          have hnc28 := NB131_138.out
                          have hcz29_0 : wr.cell? ⟨gb138, 0, none⟩ = some (.int .i64 ((rd_T49 ((rd_T47 l0 x6_1).f3) 0).f0)) := (blk_cell BK138.out 0).trans rfl
                          have hcz29_1 : wr.cell? ⟨gb138, 1, none⟩ = some (.int .i64 ((rd_T49 ((rd_T47 l0 x6_1).f3) 0).f1)) := (blk_cell BK138.out 1).trans rfl
                          have hfz29_0 := blk_frozen BK138.out 0
                          have hfz29_1 := blk_frozen BK138.out 1
                          have hcz30_0 : wr.cell? ⟨gb131, 0, none⟩ = some (.int .i64 x132000_2) := (blk_cell BK131.out 0).trans rfl
                          have hcz30_1 : wr.cell? ⟨gb131, 1, none⟩ = some (.int .i64 x132001_2) := (blk_cell BK131.out 1).trans rfl
                          have hfz30_0 := blk_frozen BK131.out 0
                          have hfz30_1 := blk_frozen BK131.out 1
                          go_wp2
                          refine bodyPost_ret (results_ct rfl _ _ gb131 49 #[.int .i64 ((rd_T49 ((rd_T47 l0 x6_1).f3) 0).f0), .int .i64 ((rd_T49 ((rd_T47 l0 x6_1).f3) 0).f1)] (0, 0) _ rfl (by (with_reducible repeat (first | refine blk_drewN ?_ _ | refine blk_drew ?_ | refine blk_alloc ?_ _)); refine blk_put (cs := #[.int .i64 ((rd_T49 ((rd_T47 l0 x6_1).f3) 0).f0), .int .i64 x132001_2]) ?_ 1 _ rfl; (with_reducible repeat (first | refine blk_drewN ?_ _ | refine blk_drew ?_ | refine blk_alloc ?_ _)); refine blk_put (cs := #[.int .i64 x132000_2, .int .i64 x132001_2]) ?_ 0 _ rfl; (with_reducible repeat (first | refine blk_drewN ?_ _ | refine blk_drew ?_ | refine blk_alloc ?_ _)); exact BK131.out) Try.underlying49 rfl (by kernel_rfl)) rfl ?_
                          exact ⟨by first | rfl | (simp [errW_none, errW_some] <;> rfl) | (simp [*, errW_none, errW_some] <;> rfl), by repeat (first | (with_reducible first | exact HB.out | apply below_alloc | apply pw_below_drewN | apply below_drew1 | refine below_set ?_ GE131.out | refine below_set ?_ GE138.out) | exact HB.out)⟩
                  · rw [if_neg c12] at H
                    have c12b0 : (((rd_T49 ((rd_T47 l0 x6_1).f3) 0).f0) == 0) = false := beq_eq_false_iff_ne.mpr c12
                    have c12b1 : (((rd_T49 ((rd_T47 l0 x6_1).f3) 0).f0) != 0) = true := bne_iff_ne.mpr c12
                    simp only [Option.some.injEq, Prod.mk.injEq] at H
                    obtain ⟨rfl, rfl, rfl⟩ := H
                    have p132 : 0 ≤ (x6_1 : Int) := of_decide_eq_true (by first | (with_reducible assumption) | assumption)
                    have q132 : x6_1 < (l0.length : Int) := of_decide_eq_true (by first | (with_reducible assumption) | assumption)
                    obtain ⟨ad132, A132_3, c132_3, A132_7, c132_7, e132, hx132_0, hx132_1, hx132_2, hx132_3, hx132_4, hx132_5, hx132_6, hx132_7, hl132_3, hi132_3, hl132_7, hi132_7⟩ := at_T47 HR0.out x6_1 p132 q132
                    cases e132
                    replace hx132_0 := (HB.out.cell (World.block_lt_of_cell? w _ hx132_0)).trans hx132_0
                    replace hx132_1 := (HB.out.cell (World.block_lt_of_cell? w _ hx132_1)).trans hx132_1
                    replace hx132_2 := (HB.out.cell (World.block_lt_of_cell? w _ hx132_2)).trans hx132_2
                    replace hx132_3 := (HB.out.cell (World.block_lt_of_cell? w _ hx132_3)).trans hx132_3
                    replace hx132_4 := (HB.out.cell (World.block_lt_of_cell? w _ hx132_4)).trans hx132_4
                    replace hx132_5 := (HB.out.cell (World.block_lt_of_cell? w _ hx132_5)).trans hx132_5
                    replace hx132_6 := (HB.out.cell (World.block_lt_of_cell? w _ hx132_6)).trans hx132_6
                    replace hx132_7 := (HB.out.cell (World.block_lt_of_cell? w _ hx132_7)).trans hx132_7
                    have HR132_3 := Aside0.mk hi132_3
                    have HC132_3 := Aside0.mk hl132_3
                    clear hi132_3 hl132_3
                    have HR132_7 := Aside0.mk hi132_7
                    have HC132_7 := Aside0.mk hl132_7
                    clear hi132_7 hl132_7
                    replace p132 := eq_true p132
                    replace q132 := eq_true q132
                    go_wp2_with (first | ((with_reducible refine gate_callee (f := 58) rfl ?_); refine goesL_ (some 21) rfl rfl Try.func58 (by kernel_rfl) rfl #[.agg #[.int .i64 ((rd_T47 l0 x6_1).f0), .int .i64 ((rd_T47 l0 x6_1).f1), .int .i64 ((rd_T47 l0 x6_1).f2), .slice A132_3 ((rd_T47 l0 x6_1).f3).length c132_3, .int .i64 ((rd_T47 l0 x6_1).f4), .int .i64 ((rd_T47 l0 x6_1).f5), .int .i64 ((rd_T47 l0 x6_1).f6), .slice A132_7 ((rd_T47 l0 x6_1).f7).length c132_7], .int .i64 a1] rfl (by (try simp only [List.map_toArray, List.map_cons, List.map_nil]); first | done | rfl | (simp only [List.length_drop, List.length_take]; rfl)) ?_; (with_reducible refine (portageref22_Writes.calls ((rd_T47 l0 x6_1).f0) ((rd_T47 l0 x6_1).f1) ((rd_T47 l0 x6_1).f2) _ _ ((rd_T47 l0 x6_1).f3) ((rd_T47 l0 x6_1).f4) ((rd_T47 l0 x6_1).f5) ((rd_T47 l0 x6_1).f6) _ _ ((rd_T47 l0 x6_1).f7) a1 true _ ?side1 ?side2 ?side3 ?side4 A7.out).mono ?_); (case side1 => repeat (first | exact (Kd.C_below HR132_3.out HB.out) | (with_reducible refine Kd.C_alloc ?_ _) | (with_reducible refine Kd.C_drewN ?_ _) | (with_reducible refine Kd.C_drew ?_))); (case side2 => exact HC132_3.out); (case side3 => repeat (first | exact (Kd.C_below HR132_7.out HB.out) | (with_reducible refine Kd.C_alloc ?_ _) | (with_reducible refine Kd.C_drewN ?_ _) | (with_reducible refine Kd.C_drew ?_))); (case side4 => exact HC132_7.out); rintro e w31 ⟨rfl, hb⟩; refine ⟨_, rfl, ?_⟩; have n0_ := Aside0.mk (blk_below (g := gb131) (o := .cells #[.int .i64 x132000_1, .int .i64 x132001_1] 49 (0, 0)) (by (with_reducible repeat (first | refine blk_drewN ?_ _ | refine blk_drew ?_ | refine blk_alloc ?_ _)); exact BK131.out) hb); have n1_ := Aside0.mk (below_step (by repeat (first | (with_reducible first | exact HB.out | apply below_alloc | apply pw_below_drewN | apply below_drew1 | refine below_set ?_ GE131.out) | exact HB.out)) hb); clear BK131; clear HB; have BK131 := n0_; have HB := n1_; clear n0_ n1_; (try clear hb); (try clear hb2); (try clear hk); (try clear hi); have p134 : 0 ≤ (x6_1 : Int) := of_decide_eq_true (by first | (with_reducible assumption) | assumption); have q134 : x6_1 < (l0.length : Int) := of_decide_eq_true (by first | (with_reducible assumption) | assumption); obtain ⟨ad134, A134_3, c134_3, A134_7, c134_7, e134, hx134_0, hx134_1, hx134_2, hx134_3, hx134_4, hx134_5, hx134_6, hx134_7, hl134_3, hi134_3, hl134_7, hi134_7⟩ := at_T47 HR0.out x6_1 p134 q134; obtain rfl : ad132 = ad134 := (by injection e134); replace hx134_0 := (HB.out.cell (World.block_lt_of_cell? w _ hx134_0)).trans hx134_0; replace hx134_1 := (HB.out.cell (World.block_lt_of_cell? w _ hx134_1)).trans hx134_1; replace hx134_2 := (HB.out.cell (World.block_lt_of_cell? w _ hx134_2)).trans hx134_2; replace hx134_3 := (HB.out.cell (World.block_lt_of_cell? w _ hx134_3)).trans hx134_3; replace hx134_4 := (HB.out.cell (World.block_lt_of_cell? w _ hx134_4)).trans hx134_4; replace hx134_5 := (HB.out.cell (World.block_lt_of_cell? w _ hx134_5)).trans hx134_5; replace hx134_6 := (HB.out.cell (World.block_lt_of_cell? w _ hx134_6)).trans hx134_6; replace hx134_7 := (HB.out.cell (World.block_lt_of_cell? w _ hx134_7)).trans hx134_7; have HR134_3 := Aside0.mk hi134_3; have HC134_3 := Aside0.mk hl134_3; clear hi134_3 hl134_3; have HR134_7 := Aside0.mk hi134_7; have HC134_7 := Aside0.mk hl134_7; clear hi134_7 hl134_7; replace p134 := eq_true p134; replace q134 := eq_true q134) | ((with_reducible refine gate_callee (f := 42) rfl ?_); refine goesL_ (some 27) rfl rfl Try.func42 (by kernel_rfl) rfl #[.agg #[.int .i64 ((rd_T47 l0 x6_1).f0), .int .i64 ((rd_T47 l0 x6_1).f1), .int .i64 ((rd_T47 l0 x6_1).f2), .slice A134_3 ((rd_T47 l0 x6_1).f3).length c134_3, .int .i64 ((rd_T47 l0 x6_1).f4), .int .i64 ((rd_T47 l0 x6_1).f5), .int .i64 ((rd_T47 l0 x6_1).f6), .slice A134_7 ((rd_T47 l0 x6_1).f7).length c134_7]] rfl (by (try simp only [List.map_toArray, List.map_cons, List.map_nil]); first | done | rfl | (simp only [List.length_drop, List.length_take]; rfl)) ?_; (with_reducible refine (portageref22_moves.calls ((rd_T47 l0 x6_1).f0) ((rd_T47 l0 x6_1).f1) ((rd_T47 l0 x6_1).f2) _ _ ((rd_T47 l0 x6_1).f3) ((rd_T47 l0 x6_1).f4) ((rd_T47 l0 x6_1).f5) ((rd_T47 l0 x6_1).f6) _ _ ((rd_T47 l0 x6_1).f7) true _ ?side1 ?side2 ?side3 ?side4 A9.out).mono ?_); (case side1 => repeat (first | exact (Kd.C_below HR134_3.out HB.out) | (with_reducible refine Kd.C_alloc ?_ _) | (with_reducible refine Kd.C_drewN ?_ _) | (with_reducible refine Kd.C_drew ?_))); (case side2 => exact HC134_3.out); (case side3 => repeat (first | exact (Kd.C_below HR134_7.out HB.out) | (with_reducible refine Kd.C_alloc ?_ _) | (with_reducible refine Kd.C_drewN ?_ _) | (with_reducible refine Kd.C_drew ?_))); (case side4 => exact HC134_7.out); rintro e w32 ⟨rfl, hb⟩; refine ⟨_, rfl, ?_⟩; have n0_ := Aside0.mk (blk_below (g := gb131) (o := .cells #[.int .i64 x132000_1, .int .i64 x132001_1] 49 (0, 0)) (by (with_reducible repeat (first | refine blk_drewN ?_ _ | refine blk_drew ?_ | refine blk_alloc ?_ _)); exact BK131.out) hb); have n1_ := Aside0.mk (below_step (by repeat (first | (with_reducible first | exact HB.out | apply below_alloc | apply pw_below_drewN | apply below_drew1 | refine below_set ?_ GE131.out) | exact HB.out)) hb); clear BK131; clear HB; have BK131 := n0_; have HB := n1_; clear n0_ n1_; (try clear hb); (try clear hb2); (try clear hk); (try clear hi); have p136 : 0 ≤ (x6_1 : Int) := of_decide_eq_true (by first | (with_reducible assumption) | assumption); have q136 : x6_1 < (l0.length : Int) := of_decide_eq_true (by first | (with_reducible assumption) | assumption); obtain ⟨ad136, A136_3, c136_3, A136_7, c136_7, e136, hx136_0, hx136_1, hx136_2, hx136_3, hx136_4, hx136_5, hx136_6, hx136_7, hl136_3, hi136_3, hl136_7, hi136_7⟩ := at_T47 HR0.out x6_1 p136 q136; obtain rfl : ad132 = ad136 := (by injection e136); replace hx136_0 := (HB.out.cell (World.block_lt_of_cell? w _ hx136_0)).trans hx136_0; replace hx136_1 := (HB.out.cell (World.block_lt_of_cell? w _ hx136_1)).trans hx136_1; replace hx136_2 := (HB.out.cell (World.block_lt_of_cell? w _ hx136_2)).trans hx136_2; replace hx136_3 := (HB.out.cell (World.block_lt_of_cell? w _ hx136_3)).trans hx136_3; replace hx136_4 := (HB.out.cell (World.block_lt_of_cell? w _ hx136_4)).trans hx136_4; replace hx136_5 := (HB.out.cell (World.block_lt_of_cell? w _ hx136_5)).trans hx136_5; replace hx136_6 := (HB.out.cell (World.block_lt_of_cell? w _ hx136_6)).trans hx136_6; replace hx136_7 := (HB.out.cell (World.block_lt_of_cell? w _ hx136_7)).trans hx136_7; have HR136_3 := Aside0.mk hi136_3; have HC136_3 := Aside0.mk hl136_3; clear hi136_3 hl136_3; have HR136_7 := Aside0.mk hi136_7; have HC136_7 := Aside0.mk hl136_7; clear hi136_7 hl136_7; replace p136 := eq_true p136; replace q136 := eq_true q136; have p137 : 0 ≤ (0 : Int) := (by omega); have q137 : 0 < (((rd_T47 l0 x6_1).f3).length : Int) := of_decide_eq_true (by first | (with_reducible assumption) | assumption); obtain ⟨ad137, e137, hx137_0, hx137_1⟩ := at_T49 HR136_3.out 0 p137 q137; cases e137; have qi137 : (0 < ((rd_T47 l0 x6_1).f3).length) = True := eq_true (by omega); (try rw [show ((0 : Int)).toNat = 0 from rfl] at hx137_0); (try rw [show 0 * 2 = 0 from rfl] at hx137_0); (try rw [Addr.add_zero'] at hx137_0); (try rw [show ((0 : Int)).toNat = 0 from rfl] at hx137_1); (try rw [show 0 * 2 = 0 from rfl] at hx137_1); (try rw [Addr.add_zero'] at hx137_1); replace hx137_0 := (HB.out.cell (World.block_lt_of_cell? w _ hx137_0)).trans hx137_0; replace hx137_1 := (HB.out.cell (World.block_lt_of_cell? w _ hx137_1)).trans hx137_1; replace p137 := eq_true p137; replace q137 := eq_true q137) | ((with_reducible refine gate_dst (N := 7) rfl ?_); refine box_event ?hg (N := 7) ?hd (cs := #[.int .i64 0, .int .i64 0]) (t := 49) ?hr ?_; (case hd => rfl); (case hg => rfl); (case hr => first | (go_simp; done) | (go_simp; rfl)); intro gb138 hg w33 hbox hb; have n0_ := Aside0.mk (blk_below (g := gb131) (o := .cells #[.int .i64 x132000_1, .int .i64 x132001_1] 49 (0, 0)) (by (with_reducible repeat (first | refine blk_drewN ?_ _ | refine blk_drew ?_ | refine blk_alloc ?_ _)); exact BK131.out) hb); have n1_ := Aside0.mk (below_step (by repeat (first | (with_reducible first | exact HB.out | apply below_alloc | apply pw_below_drewN | apply below_drew1 | refine below_set ?_ GE131.out) | exact HB.out)) hb); have n2_ := Aside0.mk (hbox); have n3_ := Aside0.mk ((by rw [hg]; exact (below_size (by repeat (first | (with_reducible first | exact HB.out | apply below_alloc | apply pw_below_drewN | apply below_drew1 | refine below_set ?_ GE131.out) | exact HB.out))) : w.heap.size ≤ gb138)); have n4_ := Aside0.mk ((by rw [hg]; exact (below_size (by repeat (first | (with_reducible first | exact HB.out | apply below_alloc | apply pw_below_drewN | apply below_drew1 | refine below_set ?_ GE131.out) | exact HB.out))) : w.heap.size ≤ gb138)); have n5_ := Aside0.mk ((by rw [hg]; exact Nat.ne_of_lt (blk_lt (g := gb131) (o := .cells #[.int .i64 x132000_1, .int .i64 x132001_1] 49 (0, 0)) (by (with_reducible repeat (first | refine blk_drewN ?_ _ | refine blk_drew ?_ | refine blk_alloc ?_ _)); exact BK131.out)) : gb131 ≠ gb138)); have n6_ := Aside0.mk ((by rw [hg]; exact Nat.ne_of_gt (blk_lt (g := gb131) (o := .cells #[.int .i64 x132000_1, .int .i64 x132001_1] 49 (0, 0)) (by (with_reducible repeat (first | refine blk_drewN ?_ _ | refine blk_drew ?_ | refine blk_alloc ?_ _)); exact BK131.out)) : gb138 ≠ gb131)); clear BK131; clear HB; have BK131 := n0_; have HB := n1_; have BK138 := n2_; have GW138 := n3_; have GE138 := n4_; have NB131_138 := n5_; have NB138_131 := n6_; clear n0_ n1_ n2_ n3_ n4_ n5_ n6_; clear hb hbox hg; have hnb34 := NB138_131.out; have hnc34 := NB131_138.out; have hcz35_0 : w33.cell? ⟨gb138, 0, none⟩ = some (.int .i64 0) := (blk_cell BK138.out 0).trans rfl; have hcz35_1 : w33.cell? ⟨gb138, 1, none⟩ = some (.int .i64 0) := (blk_cell BK138.out 1).trans rfl; have hfz35_0 := blk_frozen BK138.out 0; have hfz35_1 := blk_frozen BK138.out 1; have hcz36_0 : w33.cell? ⟨gb131, 0, none⟩ = some (.int .i64 x132000_1) := (blk_cell BK131.out 0).trans rfl; have hcz36_1 : w33.cell? ⟨gb131, 1, none⟩ = some (.int .i64 x132001_1) := (blk_cell BK131.out 1).trans rfl; have hfz36_0 := blk_frozen BK131.out 0; have hfz36_1 := blk_frozen BK131.out 1))
                    refine bodyPost_ret (results_ct rfl _ _ gb131 49 #[.int .i64 ((rd_T49 ((rd_T47 l0 x6_1).f3) 0).f0), .int .i64 ((rd_T49 ((rd_T47 l0 x6_1).f3) 0).f1)] (0, 0) _ rfl (by (with_reducible repeat (first | refine blk_drewN ?_ _ | refine blk_drew ?_ | refine blk_alloc ?_ _)); refine blk_put (cs := #[.int .i64 ((rd_T49 ((rd_T47 l0 x6_1).f3) 0).f0), .int .i64 x132001_1]) ?_ 1 _ rfl; (with_reducible repeat (first | refine blk_drewN ?_ _ | refine blk_drew ?_ | refine blk_alloc ?_ _)); refine blk_put (cs := #[.int .i64 x132000_1, .int .i64 x132001_1]) ?_ 0 _ rfl; (with_reducible repeat (first | refine blk_drewN ?_ _ | refine blk_drew ?_ | refine blk_alloc ?_ _)); refine blk_far ?_ NB131_138.out _; (with_reducible repeat (first | refine blk_drewN ?_ _ | refine blk_drew ?_ | refine blk_alloc ?_ _)); refine blk_far ?_ NB131_138.out _; (with_reducible repeat (first | refine blk_drewN ?_ _ | refine blk_drew ?_ | refine blk_alloc ?_ _)); exact BK131.out) Try.underlying49 rfl (by kernel_rfl)) rfl ?_
                    exact ⟨by first | rfl | (simp [errW_none, errW_some] <;> rfl) | (simp [*, errW_none, errW_some] <;> rfl), by repeat (first | (with_reducible first | exact HB.out | apply below_alloc | apply pw_below_drewN | apply below_drew1 | refine below_set ?_ GE131.out | refine below_set ?_ GE138.out) | exact HB.out)⟩
                · rw [if_neg c11] at H
                  exact absurd H (by simp)
              · replace c10 := Bool.eq_false_iff.mpr c10
                subst c10
                have H1 : (some (0, 0, false)) = some (r1, r2, r3) := by rw [if_neg (show ¬ (false = true) by decide)] at H; exact H
                clear H
                have H := H1
                clear H1
                simp only [Option.some.injEq, Prod.mk.injEq] at H
                obtain ⟨rfl, rfl, rfl⟩ := H
                have p132 : 0 ≤ (x6_1 : Int) := of_decide_eq_true (by first | (with_reducible assumption) | assumption)
                have q132 : x6_1 < (l0.length : Int) := of_decide_eq_true (by first | (with_reducible assumption) | assumption)
                obtain ⟨ad132, A132_3, c132_3, A132_7, c132_7, e132, hx132_0, hx132_1, hx132_2, hx132_3, hx132_4, hx132_5, hx132_6, hx132_7, hl132_3, hi132_3, hl132_7, hi132_7⟩ := at_T47 HR0.out x6_1 p132 q132
                cases e132
                replace hx132_0 := (HB.out.cell (World.block_lt_of_cell? w _ hx132_0)).trans hx132_0
                replace hx132_1 := (HB.out.cell (World.block_lt_of_cell? w _ hx132_1)).trans hx132_1
                replace hx132_2 := (HB.out.cell (World.block_lt_of_cell? w _ hx132_2)).trans hx132_2
                replace hx132_3 := (HB.out.cell (World.block_lt_of_cell? w _ hx132_3)).trans hx132_3
                replace hx132_4 := (HB.out.cell (World.block_lt_of_cell? w _ hx132_4)).trans hx132_4
                replace hx132_5 := (HB.out.cell (World.block_lt_of_cell? w _ hx132_5)).trans hx132_5
                replace hx132_6 := (HB.out.cell (World.block_lt_of_cell? w _ hx132_6)).trans hx132_6
                replace hx132_7 := (HB.out.cell (World.block_lt_of_cell? w _ hx132_7)).trans hx132_7
                have HR132_3 := Aside0.mk hi132_3
                have HC132_3 := Aside0.mk hl132_3
                clear hi132_3 hl132_3
                have HR132_7 := Aside0.mk hi132_7
                have HC132_7 := Aside0.mk hl132_7
                clear hi132_7 hl132_7
                replace p132 := eq_true p132
                replace q132 := eq_true q132
                go_wp2_with (first | ((with_reducible refine gate_callee (f := 58) rfl ?_); refine goesL_ (some 21) rfl rfl Try.func58 (by kernel_rfl) rfl #[.agg #[.int .i64 ((rd_T47 l0 x6_1).f0), .int .i64 ((rd_T47 l0 x6_1).f1), .int .i64 ((rd_T47 l0 x6_1).f2), .slice A132_3 ((rd_T47 l0 x6_1).f3).length c132_3, .int .i64 ((rd_T47 l0 x6_1).f4), .int .i64 ((rd_T47 l0 x6_1).f5), .int .i64 ((rd_T47 l0 x6_1).f6), .slice A132_7 ((rd_T47 l0 x6_1).f7).length c132_7], .int .i64 a1] rfl (by (try simp only [List.map_toArray, List.map_cons, List.map_nil]); first | done | rfl | (simp only [List.length_drop, List.length_take]; rfl)) ?_; (with_reducible refine (portageref22_Writes.calls ((rd_T47 l0 x6_1).f0) ((rd_T47 l0 x6_1).f1) ((rd_T47 l0 x6_1).f2) _ _ ((rd_T47 l0 x6_1).f3) ((rd_T47 l0 x6_1).f4) ((rd_T47 l0 x6_1).f5) ((rd_T47 l0 x6_1).f6) _ _ ((rd_T47 l0 x6_1).f7) a1 true _ ?side1 ?side2 ?side3 ?side4 A7.out).mono ?_); (case side1 => repeat (first | exact (Kd.C_below HR132_3.out HB.out) | (with_reducible refine Kd.C_alloc ?_ _) | (with_reducible refine Kd.C_drewN ?_ _) | (with_reducible refine Kd.C_drew ?_))); (case side2 => exact HC132_3.out); (case side3 => repeat (first | exact (Kd.C_below HR132_7.out HB.out) | (with_reducible refine Kd.C_alloc ?_ _) | (with_reducible refine Kd.C_drewN ?_ _) | (with_reducible refine Kd.C_drew ?_))); (case side4 => exact HC132_7.out); rintro e w37 ⟨rfl, hb⟩; refine ⟨_, rfl, ?_⟩; have n0_ := Aside0.mk (blk_below (g := gb131) (o := .cells #[.int .i64 x132000_1, .int .i64 x132001_1] 49 (0, 0)) (by (with_reducible repeat (first | refine blk_drewN ?_ _ | refine blk_drew ?_ | refine blk_alloc ?_ _)); exact BK131.out) hb); have n1_ := Aside0.mk (below_step (by repeat (first | (with_reducible first | exact HB.out | apply below_alloc | apply pw_below_drewN | apply below_drew1 | refine below_set ?_ GE131.out) | exact HB.out)) hb); clear BK131; clear HB; have BK131 := n0_; have HB := n1_; clear n0_ n1_; (try clear hb); (try clear hb2); (try clear hk); (try clear hi); have p134 : 0 ≤ (x6_1 : Int) := of_decide_eq_true (by first | (with_reducible assumption) | assumption); have q134 : x6_1 < (l0.length : Int) := of_decide_eq_true (by first | (with_reducible assumption) | assumption); obtain ⟨ad134, A134_3, c134_3, A134_7, c134_7, e134, hx134_0, hx134_1, hx134_2, hx134_3, hx134_4, hx134_5, hx134_6, hx134_7, hl134_3, hi134_3, hl134_7, hi134_7⟩ := at_T47 HR0.out x6_1 p134 q134; obtain rfl : ad132 = ad134 := (by injection e134); replace hx134_0 := (HB.out.cell (World.block_lt_of_cell? w _ hx134_0)).trans hx134_0; replace hx134_1 := (HB.out.cell (World.block_lt_of_cell? w _ hx134_1)).trans hx134_1; replace hx134_2 := (HB.out.cell (World.block_lt_of_cell? w _ hx134_2)).trans hx134_2; replace hx134_3 := (HB.out.cell (World.block_lt_of_cell? w _ hx134_3)).trans hx134_3; replace hx134_4 := (HB.out.cell (World.block_lt_of_cell? w _ hx134_4)).trans hx134_4; replace hx134_5 := (HB.out.cell (World.block_lt_of_cell? w _ hx134_5)).trans hx134_5; replace hx134_6 := (HB.out.cell (World.block_lt_of_cell? w _ hx134_6)).trans hx134_6; replace hx134_7 := (HB.out.cell (World.block_lt_of_cell? w _ hx134_7)).trans hx134_7; have HR134_3 := Aside0.mk hi134_3; have HC134_3 := Aside0.mk hl134_3; clear hi134_3 hl134_3; have HR134_7 := Aside0.mk hi134_7; have HC134_7 := Aside0.mk hl134_7; clear hi134_7 hl134_7; replace p134 := eq_true p134; replace q134 := eq_true q134) | ((with_reducible refine gate_callee (f := 42) rfl ?_); refine goesL_ (some 27) rfl rfl Try.func42 (by kernel_rfl) rfl #[.agg #[.int .i64 ((rd_T47 l0 x6_1).f0), .int .i64 ((rd_T47 l0 x6_1).f1), .int .i64 ((rd_T47 l0 x6_1).f2), .slice A134_3 ((rd_T47 l0 x6_1).f3).length c134_3, .int .i64 ((rd_T47 l0 x6_1).f4), .int .i64 ((rd_T47 l0 x6_1).f5), .int .i64 ((rd_T47 l0 x6_1).f6), .slice A134_7 ((rd_T47 l0 x6_1).f7).length c134_7]] rfl (by (try simp only [List.map_toArray, List.map_cons, List.map_nil]); first | done | rfl | (simp only [List.length_drop, List.length_take]; rfl)) ?_; (with_reducible refine (portageref22_moves.calls ((rd_T47 l0 x6_1).f0) ((rd_T47 l0 x6_1).f1) ((rd_T47 l0 x6_1).f2) _ _ ((rd_T47 l0 x6_1).f3) ((rd_T47 l0 x6_1).f4) ((rd_T47 l0 x6_1).f5) ((rd_T47 l0 x6_1).f6) _ _ ((rd_T47 l0 x6_1).f7) false _ ?side1 ?side2 ?side3 ?side4 A9.out).mono ?_); (case side1 => repeat (first | exact (Kd.C_below HR134_3.out HB.out) | (with_reducible refine Kd.C_alloc ?_ _) | (with_reducible refine Kd.C_drewN ?_ _) | (with_reducible refine Kd.C_drew ?_))); (case side2 => exact HC134_3.out); (case side3 => repeat (first | exact (Kd.C_below HR134_7.out HB.out) | (with_reducible refine Kd.C_alloc ?_ _) | (with_reducible refine Kd.C_drewN ?_ _) | (with_reducible refine Kd.C_drew ?_))); (case side4 => exact HC134_7.out); rintro e w38 ⟨rfl, hb⟩; refine ⟨_, rfl, ?_⟩; have n0_ := Aside0.mk (blk_below (g := gb131) (o := .cells #[.int .i64 x132000_1, .int .i64 x132001_1] 49 (0, 0)) (by (with_reducible repeat (first | refine blk_drewN ?_ _ | refine blk_drew ?_ | refine blk_alloc ?_ _)); exact BK131.out) hb); have n1_ := Aside0.mk (below_step (by repeat (first | (with_reducible first | exact HB.out | apply below_alloc | apply pw_below_drewN | apply below_drew1 | refine below_set ?_ GE131.out) | exact HB.out)) hb); clear BK131; clear HB; have BK131 := n0_; have HB := n1_; clear n0_ n1_; (try clear hb); (try clear hb2); (try clear hk); (try clear hi); have hcz39_0 : w38.cell? ⟨gb131, 0, none⟩ = some (.int .i64 x132000_1) := (blk_cell BK131.out 0).trans rfl; have hcz39_1 : w38.cell? ⟨gb131, 1, none⟩ = some (.int .i64 x132001_1) := (blk_cell BK131.out 1).trans rfl; have hfz39_0 := blk_frozen BK131.out 0; have hfz39_1 := blk_frozen BK131.out 1))
                refine bodyPost_ret (results_ct rfl _ _ gb131 49 #[.int .i64 0, .int .i64 0] (0, 0) _ rfl (by (with_reducible repeat (first | refine blk_drewN ?_ _ | refine blk_drew ?_ | refine blk_alloc ?_ _)); refine blk_put (cs := #[.int .i64 0, .int .i64 x132001_1]) ?_ 1 _ rfl; (with_reducible repeat (first | refine blk_drewN ?_ _ | refine blk_drew ?_ | refine blk_alloc ?_ _)); refine blk_put (cs := #[.int .i64 x132000_1, .int .i64 x132001_1]) ?_ 0 _ rfl; (with_reducible repeat (first | refine blk_drewN ?_ _ | refine blk_drew ?_ | refine blk_alloc ?_ _)); exact BK131.out) Try.underlying49 rfl (by kernel_rfl)) rfl ?_
                exact ⟨by first | rfl | (simp [errW_none, errW_some] <;> rfl) | (simp [*, errW_none, errW_some] <;> rfl), by repeat (first | (with_reducible first | exact HB.out | apply below_alloc | apply pw_below_drewN | apply below_drew1 | refine below_set ?_ GE131.out) | exact HB.out)⟩
            · replace c8 := Bool.eq_false_iff.mpr c8
              subst c8
              have H1 : (portageref22_KnownAs.l0 k1 l0 a1 (wrap64 (x6_1 - 1))) = some (r1, r2, r3) := by rw [if_neg (show ¬ (false = true) by decide)] at H; exact H
              clear H
              have H := H1
              clear H1
              have H' := Aside0.mk H
              clear H
              have p132 : 0 ≤ (x6_1 : Int) := of_decide_eq_true (by first | (with_reducible assumption) | assumption)
              have q132 : x6_1 < (l0.length : Int) := of_decide_eq_true (by first | (with_reducible assumption) | assumption)
              obtain ⟨ad132, A132_3, c132_3, A132_7, c132_7, e132, hx132_0, hx132_1, hx132_2, hx132_3, hx132_4, hx132_5, hx132_6, hx132_7, hl132_3, hi132_3, hl132_7, hi132_7⟩ := at_T47 HR0.out x6_1 p132 q132
              cases e132
              replace hx132_0 := (HB.out.cell (World.block_lt_of_cell? w _ hx132_0)).trans hx132_0
              replace hx132_1 := (HB.out.cell (World.block_lt_of_cell? w _ hx132_1)).trans hx132_1
              replace hx132_2 := (HB.out.cell (World.block_lt_of_cell? w _ hx132_2)).trans hx132_2
              replace hx132_3 := (HB.out.cell (World.block_lt_of_cell? w _ hx132_3)).trans hx132_3
              replace hx132_4 := (HB.out.cell (World.block_lt_of_cell? w _ hx132_4)).trans hx132_4
              replace hx132_5 := (HB.out.cell (World.block_lt_of_cell? w _ hx132_5)).trans hx132_5
              replace hx132_6 := (HB.out.cell (World.block_lt_of_cell? w _ hx132_6)).trans hx132_6
              replace hx132_7 := (HB.out.cell (World.block_lt_of_cell? w _ hx132_7)).trans hx132_7
              have HR132_3 := Aside0.mk hi132_3
              have HC132_3 := Aside0.mk hl132_3
              clear hi132_3 hl132_3
              have HR132_7 := Aside0.mk hi132_7
              have HC132_7 := Aside0.mk hl132_7
              clear hi132_7 hl132_7
              replace p132 := eq_true p132
              replace q132 := eq_true q132
              go_wp2_with (first | ((with_reducible refine gate_callee (f := 58) rfl ?_); refine goesL_ (some 21) rfl rfl Try.func58 (by kernel_rfl) rfl #[.agg #[.int .i64 ((rd_T47 l0 x6_1).f0), .int .i64 ((rd_T47 l0 x6_1).f1), .int .i64 ((rd_T47 l0 x6_1).f2), .slice A132_3 ((rd_T47 l0 x6_1).f3).length c132_3, .int .i64 ((rd_T47 l0 x6_1).f4), .int .i64 ((rd_T47 l0 x6_1).f5), .int .i64 ((rd_T47 l0 x6_1).f6), .slice A132_7 ((rd_T47 l0 x6_1).f7).length c132_7], .int .i64 a1] rfl (by (try simp only [List.map_toArray, List.map_cons, List.map_nil]); first | done | rfl | (simp only [List.length_drop, List.length_take]; rfl)) ?_; (with_reducible refine (portageref22_Writes.calls ((rd_T47 l0 x6_1).f0) ((rd_T47 l0 x6_1).f1) ((rd_T47 l0 x6_1).f2) _ _ ((rd_T47 l0 x6_1).f3) ((rd_T47 l0 x6_1).f4) ((rd_T47 l0 x6_1).f5) ((rd_T47 l0 x6_1).f6) _ _ ((rd_T47 l0 x6_1).f7) a1 false _ ?side1 ?side2 ?side3 ?side4 A7.out).mono ?_); (case side1 => repeat (first | exact (Kd.C_below HR132_3.out HB.out) | (with_reducible refine Kd.C_alloc ?_ _) | (with_reducible refine Kd.C_drewN ?_ _) | (with_reducible refine Kd.C_drew ?_))); (case side2 => exact HC132_3.out); (case side3 => repeat (first | exact (Kd.C_below HR132_7.out HB.out) | (with_reducible refine Kd.C_alloc ?_ _) | (with_reducible refine Kd.C_drewN ?_ _) | (with_reducible refine Kd.C_drew ?_))); (case side4 => exact HC132_7.out); rintro e w40 ⟨rfl, hb⟩; refine ⟨_, rfl, ?_⟩; have n0_ := Aside0.mk (blk_below (g := gb131) (o := .cells #[.int .i64 x132000_1, .int .i64 x132001_1] 49 (0, 0)) (by (with_reducible repeat (first | refine blk_drewN ?_ _ | refine blk_drew ?_ | refine blk_alloc ?_ _)); exact BK131.out) hb); have n1_ := Aside0.mk (below_step (by repeat (first | (with_reducible first | exact HB.out | apply below_alloc | apply pw_below_drewN | apply below_drew1 | refine below_set ?_ GE131.out) | exact HB.out)) hb); clear BK131; clear HB; have BK131 := n0_; have HB := n1_; clear n0_ n1_; (try clear hb); (try clear hb2); (try clear hk); (try clear hi)))
              go_roundg k1
              case measure => have := HK1.out; omega
              case rel => exact ⟨(wrap64 (x6_1 - 1)), (x132000_1), (x132001_1), (by first | rfl | (simp; done) | (simp [*]; done)), H', ⟨by have := HK1.out; omega⟩, ⟨by (with_reducible repeat (first | refine blk_drewN ?_ _ | refine blk_drew ?_ | refine blk_alloc ?_ _)); exact BK131.out⟩, ⟨by repeat (first | (with_reducible first | exact HB.out | apply below_alloc | apply pw_below_drewN | apply below_drew1 | refine below_set ?_ GE131.out) | exact HB.out)⟩⟩
          · rw [if_neg c6] at H
            exact absurd H (by simp)
        · rw [if_neg c5] at H
          exact absurd H (by simp)
      · rw [if_neg c4] at H
        have c4b0 : decide (0 ≤ x6_1) = false := decide_eq_false c4
        clear c4
        simp only [Option.some.injEq, Prod.mk.injEq] at H
        obtain ⟨rfl, rfl, rfl⟩ := H
        have hcz41_0 : wr.cell? ⟨gb131, 0, none⟩ = some (.int .i64 x132000_1) := (blk_cell BK131.out 0).trans rfl
        have hcz41_1 : wr.cell? ⟨gb131, 1, none⟩ = some (.int .i64 x132001_1) := (blk_cell BK131.out 1).trans rfl
        have hfz41_0 := blk_frozen BK131.out 0
        have hfz41_1 := blk_frozen BK131.out 1
        go_wp2
        refine bodyPost_ret (results_ct rfl _ _ gb131 49 #[.int .i64 0, .int .i64 0] (0, 0) _ rfl (by (with_reducible repeat (first | refine blk_drewN ?_ _ | refine blk_drew ?_ | refine blk_alloc ?_ _)); refine blk_put (cs := #[.int .i64 0, .int .i64 x132001_1]) ?_ 1 _ rfl; (with_reducible repeat (first | refine blk_drewN ?_ _ | refine blk_drew ?_ | refine blk_alloc ?_ _)); refine blk_put (cs := #[.int .i64 x132000_1, .int .i64 x132001_1]) ?_ 0 _ rfl; (with_reducible repeat (first | refine blk_drewN ?_ _ | refine blk_drew ?_ | refine blk_alloc ?_ _)); exact BK131.out) Try.underlying49 rfl (by kernel_rfl)) rfl ?_
        exact ⟨by first | rfl | (simp [errW_none, errW_some] <;> rfl) | (simp [*, errW_none, errW_some] <;> rfl), by repeat (first | (with_reducible first | exact HB.out | apply below_alloc | apply pw_below_drewN | apply below_drew1 | refine below_set ?_ GE131.out) | exact HB.out)⟩

/-! ### portageref22_turned: function 41 -/
def portageref22_turned.l0 : Nat → List (S47) → List (S49) → List (S49) → Int → Option ((List (S49)))
  | 0, _, _, _, _ => none
  | k + 1, x0, x1, x5, x6 => if x6 < (x1.length : Int) then (if 0 ≤ x6 then (if ((rd_T49 x1 x6).f0) = 0 then ((portageref22_KnownAs.f k x0 ((rd_T49 x1 x6).f1)).bind fun bt143 => (if bt143.2.2 = true then (if x5.length < 8796093022208 then (portageref22_turned.l0 k x0 x1 (x5 ++ [(⟨bt143.1, bt143.2.1⟩ : S49)]) (wrap64 (x6 + 1))) else (none)) else (if x5.length < 8796093022208 then (portageref22_turned.l0 k x0 x1 (x5 ++ [(⟨(rd_T49 x1 x6).f0, (rd_T49 x1 x6).f1⟩ : S49)]) (wrap64 (x6 + 1))) else (none)))) else (if x5.length < 8796093022208 then (portageref22_turned.l0 k x0 x1 (x5 ++ [(⟨(rd_T49 x1 x6).f0, (rd_T49 x1 x6).f1⟩ : S49)]) (wrap64 (x6 + 1))) else (none))) else (none)) else (some x5)
def portageref22_turned.f (k : Nat) (l0 : List (S47)) (l1 : List (S49)) : Option ((List (S49))) := portageref22_turned.l0 k l0 l1 ([] : List (S49)) 0
theorem portageref22_turned.mono_l : ∀ k, (∀ y0 y1 y2 y3, LeO (portageref22_turned.l0 k y0 y1 y2 y3) (portageref22_turned.l0 (k + 1) y0 y1 y2 y3))
  | 0 => fun _ _ _ _ r h => by simp [portageref22_turned.l0] at h
  | k + 1 => by
    have ih0 := portageref22_turned.mono_l k
    · intro y0 y1 y2 y3
      unfold portageref22_turned.l0
      repeat' first
      | (with_reducible exact ih0 _ _ _ _)
      | (with_reducible exact portageref22_KnownAs.mono _ _ _)
      | (with_reducible exact LeO.refl _)
      | (with_reducible exact LeO.none _)
      | (with_reducible refine LeO.ite ?_ ?_)
      | (with_reducible refine LeO.bind ?_ (fun _ => ?_))
      | exact ih0 _ _ _ _
      | exact portageref22_KnownAs.mono _ _ _
      | exact LeO.none _
      | refine LeO.ite ?_ ?_
      | refine LeO.bind ?_ (fun _ => ?_)
theorem portageref22_turned.mono : ∀ a0 a1 k, LeO (portageref22_turned.f k a0 a1) (portageref22_turned.f (k + 1) a0 a1) := by
  intro a0 a1 k
  have ih0 := portageref22_turned.mono_l k
  unfold portageref22_turned.f
  repeat' first
      | (with_reducible exact ih0 _ _ _ _)
      | (with_reducible exact portageref22_KnownAs.mono _ _ _)
      | (with_reducible exact LeO.refl _)
      | (with_reducible exact LeO.none _)
      | (with_reducible refine LeO.ite ?_ ?_)
      | (with_reducible refine LeO.bind ?_ (fun _ => ?_))
      | exact ih0 _ _ _ _
      | exact portageref22_KnownAs.mono _ _ _
      | exact LeO.none _
      | refine LeO.ite ?_ ?_
      | refine LeO.bind ?_ (fun _ => ?_)
set_option maxHeartbeats 8000000 in
set_option maxRecDepth 100000 in
theorem portageref22_turned.calls (k : Nat) (A0 : Option Addr) (c0 : Nat) (l0 : List (S47)) (A1 : Option Addr) (c1 : Nat) (l1 : List (S49)) (r : List (S49)) (w : World) (hr0 : Kd.C k47 w A0 l0.length l0) (hc0 : l0.length ≤ c0) (hr1 : Kd.C k49 w A1 l1.length l1) (hc1 : l1.length ≤ c1) (h : portageref22_turned.f k l0 l1 = some r) :
    Calls Try.prog 41 #[.slice A0 l0.length c0, .slice A1 l1.length c1] w fun e w' => ∃ v0_ : Value, e = .returned (v0_) ∧ Kd.R k49 49 w' w.heap.size (fun _ => True) v0_ r ∧ Below w.heap.size w w' := by
  have hu49 := Try.underlying49
  have HR0 := Aside0.mk hr0
  have HC0 := Aside0.mk hc0
  clear hr0 hc0
  have HR1 := Aside0.mk hr1
  have HC1 := Aside0.mk hc1
  clear hr1 hc1
  have HB := Aside0.mk (Below.refl w.heap.size w)
  have H : (portageref22_turned.l0 k l0 l1 ([] : List (S49)) 0) = some r := h
  clear h
  have H' := Aside0.mk H
  clear H
  go_enter Try.func41, Try.ntmps41
  go_wp2
  go_loopg [5, 6] k (fun kq v5 v6 w' => ∃ (x5_1 : List (S49)) (x6_1 : Int), v6 = .int .i64 x6_1 ∧ Aside0 (portageref22_turned.l0 kq l0 l1 x5_1 x6_1 = some r) ∧ Aside0 (kq ≤ k) ∧ Aside0 (Kd.R k49 49 w' w.heap.size (fun _ => True) v5 x5_1) ∧ Aside0 (Below w.heap.size w w'))
  case atStart => exact ⟨(([] : List (S49))), (0), (by first | rfl | (simp; done) | (simp [*]; done)), H', ⟨Nat.le_refl _⟩, ⟨by first | exact Kd.R_nil _ _ _ _ _ | exact Kd.N_nil _ _ _ _ _ | exact Kd.V_nil _ _ _ _ _ | exact Kd.Q_nil _ _ _ _ _ | exact Kd.S_nil _ _ _ _ _⟩, ⟨by repeat (first | (with_reducible first | exact HB.out | apply below_alloc | apply pw_below_drewN | apply below_drew1) | exact HB.out)⟩⟩
  case round =>
    clear H'
    try clear c1
    try clear p2
    obtain ⟨x5_1, x6_1, rfl, HA, HK1, HO_5, HB⟩ := hrel
    cases gk with
    | zero => exact absurd HA.out (by simp [portageref22_turned.l0])
    | succ k1 =>
      have H := HA.out
      clear HA
      simp only [portageref22_turned.l0] at H
      by_cases c3 : x6_1 < (l1.length : Int)
      · rw [if_pos c3] at H
        have c3b0 : decide (x6_1 < (l1.length : Int)) = true := decide_eq_true c3
        clear c3
        by_cases c4 : 0 ≤ x6_1
        · rw [if_pos c4] at H
          have c4b0 : decide (0 ≤ x6_1) = true := decide_eq_true c4
          clear c4
          by_cases c5 : ((rd_T49 l1 x6_1).f0) = 0
          · rw [if_pos c5] at H
            have c5b0 : (((rd_T49 l1 x6_1).f0) == 0) = true := beq_iff_eq.mpr c5
            have c5b1 : (((rd_T49 l1 x6_1).f0) != 0) = false := bne_eq_false_iff_eq.mpr c5
            clear c5
            replace H := Option.bind_eq_some_iff.mp H
            obtain ⟨⟨t143, t144, t145⟩, A60, H⟩ := H
            replace H : (if t145 = true then (if x5_1.length < 8796093022208 then (portageref22_turned.l0 k1 l0 l1 (x5_1 ++ [(⟨t143, t144⟩ : S49)]) (wrap64 (x6_1 + 1))) else (none)) else (if x5_1.length < 8796093022208 then (portageref22_turned.l0 k1 l0 l1 (x5_1 ++ [(⟨(rd_T49 l1 x6_1).f0, (rd_T49 l1 x6_1).f1⟩ : S49)]) (wrap64 (x6_1 + 1))) else (none))) = some r := H
            have A6 := Aside0.mk A60
            clear A60
            by_cases c7 : t145 = true
            · subst c7
              have H1 : (if x5_1.length < 8796093022208 then (portageref22_turned.l0 k1 l0 l1 (x5_1 ++ [(⟨t143, t144⟩ : S49)]) (wrap64 (x6_1 + 1))) else (none)) = some r := by rw [if_pos rfl] at H; exact H
              clear H
              have H := H1
              clear H1
              by_cases c8 : x5_1.length < 8796093022208
              · rw [if_pos c8] at H
                have LMc8 := Aside0.mk c8
                clear c8
                obtain ⟨y147, hy147⟩ : ∃ y_ : List (S49), y_ = (x5_1 ++ [(⟨t143, t144⟩ : S49)]) := ⟨_, rfl⟩
                replace H : (portageref22_turned.l0 k1 l0 l1 y147 (wrap64 (x6_1 + 1))) = some r := by first | (rw [hy147]; with_reducible exact H) | (have H2_ := (Option.bind_some _ _).symm.trans H; rw [hy147]; with_reducible exact H2_) | (have H2_ := (Option.bind_some _ _).symm.trans H; with_reducible exact H2_) | with_reducible exact H | (rw [hy147]; exact H) | exact H
                have Ny147 := Aside0.mk hy147
                clear hy147
                have H' := Aside0.mk H
                clear H
                have p141 : 0 ≤ (x6_1 : Int) := of_decide_eq_true (by first | (with_reducible assumption) | assumption)
                have q141 : x6_1 < (l1.length : Int) := of_decide_eq_true (by first | (with_reducible assumption) | assumption)
                obtain ⟨ad141, e141, hx141_0, hx141_1⟩ := at_T49 HR1.out x6_1 p141 q141
                cases e141
                replace hx141_0 := (HB.out.cell (World.block_lt_of_cell? w _ hx141_0)).trans hx141_0
                replace hx141_1 := (HB.out.cell (World.block_lt_of_cell? w _ hx141_1)).trans hx141_1
                replace p141 := eq_true p141
                replace q141 := eq_true q141
                go_wp2_with (first | ((with_reducible refine gate_dst (N := 7) rfl ?_); refine box_event ?hg (N := 7) ?hd (cs := #[.int .i64 0, .int .i64 0]) (t := 49) ?hr ?_; (case hd => rfl); (case hg => rfl); (case hr => first | (go_simp; done) | (go_simp; rfl)); intro gb142 hg w9 hbox hb; have n0_ := Aside0.mk (Kd.R_below (Kd.R_elderB (by (with_reducible repeat (first | apply Kd.R_alloc | apply Kd.R_drewN | apply Kd.R_drew)); exact HO_5.out) gb142 (Nat.le_of_eq hg.symm)) hb); have n1_ := Aside0.mk (below_step (by repeat (first | (with_reducible first | exact HB.out | apply below_alloc | apply pw_below_drewN | apply below_drew1) | exact HB.out)) hb); have n2_ := Aside0.mk (hbox); have n3_ := Aside0.mk ((by rw [hg]; exact (below_size (by repeat (first | (with_reducible first | exact HB.out | apply below_alloc | apply pw_below_drewN | apply below_drew1) | exact HB.out))) : w.heap.size ≤ gb142)); have n4_ := Aside0.mk ((by rw [hg]; exact (below_size (by repeat (first | (with_reducible first | exact HB.out | apply below_alloc | apply pw_below_drewN | apply below_drew1) | exact HB.out))) : w.heap.size ≤ gb142)); clear HO_5; clear HB; have HO_5 := n0_; have HB := n1_; have BK142 := n2_; have GW142 := n3_; have GE142 := n4_; clear n0_ n1_ n2_ n3_ n4_; clear hb hbox hg; have hcz10_0 : w9.cell? ⟨gb142, 0, none⟩ = some (.int .i64 0) := (blk_cell BK142.out 0).trans rfl; have hcz10_1 : w9.cell? ⟨gb142, 1, none⟩ = some (.int .i64 0) := (blk_cell BK142.out 1).trans rfl; have hfz10_0 := blk_frozen BK142.out 0; have hfz10_1 := blk_frozen BK142.out 1) | ((with_reducible refine gate_callee (f := 54) rfl ?_); refine goesL_ (some 27) rfl rfl Try.func54 (by kernel_rfl) rfl #[.slice A0 l0.length c0, .int .i64 ((rd_T49 l1 x6_1).f1)] rfl (by (try simp only [List.map_toArray, List.map_cons, List.map_nil]); first | done | rfl | (simp only [List.length_drop, List.length_take]; rfl)) ?_; (with_reducible refine (portageref22_KnownAs.calls k1 _ _ l0 ((rd_T49 l1 x6_1).f1) t143 t144 true _ ?side1 ?side2 A6.out).mono ?_); (case side1 => exact Kd.C_below HR0.out (by repeat (first | (with_reducible first | exact HB.out | apply below_alloc | apply pw_below_drewN | apply below_drew1 | refine below_set ?_ GE142.out) | exact HB.out))); (case side2 => exact HC0.out); rintro e w11 ⟨rfl, hb⟩; refine ⟨_, rfl, ?_⟩; have n0_ := Aside0.mk (Kd.R_below (by (with_reducible repeat (first | apply Kd.R_alloc | apply Kd.R_drewN | apply Kd.R_drew)); exact (Kd.R_mono (Kd.R_far (p := ⟨gb142, 1, none⟩) (Kd.R_far (p := ⟨gb142, 0, none⟩) (Kd.R_mono HO_5.out (fun k_ hk => (⟨hk, hk.2⟩ : _ ∧ k_ ≠ gb142))) (fun _ hk => hk.2) (.int .i64 ((rd_T49 l1 x6_1).f0))) (fun _ hk => hk.2) (.int .i64 ((rd_T49 l1 x6_1).f1))) (fun _ h_ => h_.1))) hb); have n1_ := Aside0.mk (blk_below (g := gb142) (o := .cells #[.int .i64 ((rd_T49 l1 x6_1).f0), .int .i64 ((rd_T49 l1 x6_1).f1)] 49 (0, 0)) (by (with_reducible repeat (first | refine blk_drewN ?_ _ | refine blk_drew ?_ | refine blk_alloc ?_ _)); refine blk_put (cs := #[.int .i64 ((rd_T49 l1 x6_1).f0), .int .i64 0]) ?_ 1 _ rfl; (with_reducible repeat (first | refine blk_drewN ?_ _ | refine blk_drew ?_ | refine blk_alloc ?_ _)); refine blk_put (cs := #[.int .i64 0, .int .i64 0]) ?_ 0 _ rfl; (with_reducible repeat (first | refine blk_drewN ?_ _ | refine blk_drew ?_ | refine blk_alloc ?_ _)); exact BK142.out) hb); have n2_ := Aside0.mk (below_step (by repeat (first | (with_reducible first | exact HB.out | apply below_alloc | apply pw_below_drewN | apply below_drew1 | refine below_set ?_ GE142.out) | exact HB.out)) hb); clear HO_5; clear BK142; clear HB; have HO_5 := n0_; have BK142 := n1_; have HB := n2_; clear n0_ n1_ n2_; (try clear hb); (try clear hb2); (try clear hk); (try clear hi)) | ((with_reducible refine gate_dst (N := 8) rfl ?_); refine box_event ?hg (N := 8) ?hd (cs := #[.int .i64 0, .int .i64 0]) (t := 49) ?hr ?_; (case hd => rfl); (case hg => rfl); (case hr => first | (go_simp; done) | (go_simp; rfl)); intro gb146 hg w12 hbox hb; have n0_ := Aside0.mk (Kd.R_below (Kd.R_elderB (by (with_reducible repeat (first | apply Kd.R_alloc | apply Kd.R_drewN | apply Kd.R_drew)); exact HO_5.out) gb146 (Nat.le_of_eq hg.symm)) hb); have n1_ := Aside0.mk (blk_below (g := gb142) (o := .cells #[.int .i64 ((rd_T49 l1 x6_1).f0), .int .i64 ((rd_T49 l1 x6_1).f1)] 49 (0, 0)) (by (with_reducible repeat (first | refine blk_drewN ?_ _ | refine blk_drew ?_ | refine blk_alloc ?_ _)); exact BK142.out) hb); have n2_ := Aside0.mk (below_step (by repeat (first | (with_reducible first | exact HB.out | apply below_alloc | apply pw_below_drewN | apply below_drew1 | refine below_set ?_ GE142.out) | exact HB.out)) hb); have n3_ := Aside0.mk (hbox); have n4_ := Aside0.mk ((by rw [hg]; exact (below_size (by repeat (first | (with_reducible first | exact HB.out | apply below_alloc | apply pw_below_drewN | apply below_drew1 | refine below_set ?_ GE142.out) | exact HB.out))) : w.heap.size ≤ gb146)); have n5_ := Aside0.mk ((by rw [hg]; exact (below_size (by repeat (first | (with_reducible first | exact HB.out | apply below_alloc | apply pw_below_drewN | apply below_drew1 | refine below_set ?_ GE142.out) | exact HB.out))) : w.heap.size ≤ gb146)); have n6_ := Aside0.mk ((by rw [hg]; exact Nat.ne_of_lt (blk_lt (g := gb142) (o := .cells #[.int .i64 ((rd_T49 l1 x6_1).f0), .int .i64 ((rd_T49 l1 x6_1).f1)] 49 (0, 0)) (by (with_reducible repeat (first | refine blk_drewN ?_ _ | refine blk_drew ?_ | refine blk_alloc ?_ _)); exact BK142.out)) : gb142 ≠ gb146)); have n7_ := Aside0.mk ((by rw [hg]; exact Nat.ne_of_gt (blk_lt (g := gb142) (o := .cells #[.int .i64 ((rd_T49 l1 x6_1).f0), .int .i64 ((rd_T49 l1 x6_1).f1)] 49 (0, 0)) (by (with_reducible repeat (first | refine blk_drewN ?_ _ | refine blk_drew ?_ | refine blk_alloc ?_ _)); exact BK142.out)) : gb146 ≠ gb142)); clear HO_5; clear BK142; clear HB; have HO_5 := n0_; have BK142 := n1_; have HB := n2_; have BK146 := n3_; have GW146 := n4_; have GE146 := n5_; have NB142_146 := n6_; have NB146_142 := n7_; clear n0_ n1_ n2_ n3_ n4_ n5_ n6_ n7_; clear hb hbox hg; have hnb13 := NB146_142.out; have hnc13 := NB142_146.out; have hcz14_0 : w12.cell? ⟨gb146, 0, none⟩ = some (.int .i64 0) := (blk_cell BK146.out 0).trans rfl; have hcz14_1 : w12.cell? ⟨gb146, 1, none⟩ = some (.int .i64 0) := (blk_cell BK146.out 1).trans rfl; have hfz14_0 := blk_frozen BK146.out 0; have hfz14_1 := blk_frozen BK146.out 1; have hcz15_0 : w12.cell? ⟨gb142, 0, none⟩ = some (.int .i64 ((rd_T49 l1 x6_1).f0)) := (blk_cell BK142.out 0).trans rfl; have hcz15_1 : w12.cell? ⟨gb142, 1, none⟩ = some (.int .i64 ((rd_T49 l1 x6_1).f1)) := (blk_cell BK142.out 1).trans rfl; have hfz15_0 := blk_frozen BK142.out 0; have hfz15_1 := blk_frozen BK142.out 1) | ((with_reducible refine gate_builtin (b := .append) (xs := #[.tmp 32, .tmp 34]) rfl ?_); at_builtin; refine Kd.R_append k49 (w0 := w) w.heap.size rfl (.tmp 32) (.tmp 34) 44 49 (.agg #[(.int .i64 0), (.int .i64 0)]) 16 rfl Try.underlying44 info49 rfl (by decide) (by omega) u5 x5_1 (⟨t143, t144⟩ : S49) [.int .i64 t143, .int .i64 t144] (fun k_ => k_ ≠ gb142 ∧ k_ ≠ gb146) (fun _ => False) rfl (by first | (go_simp; done) | (go_simp; rfl)) ?aP (fun _ hk => hk.elim) ?aF ?aO ?aB ?aS ?aL ?_; (case aP => exact k49_mkM _ _ _ (⟨t143, t144⟩ : S49)); (case aB => exact (by repeat (first | (with_reducible first | exact HB.out | apply below_alloc | apply pw_below_drewN | apply below_drew1 | refine below_set ?_ GE142.out | refine below_set ?_ GE146.out) | exact HB.out))); (case aF => exact (fun k_ hk => ⟨Kd.freshB (g := gb142) (o := .cells #[.int .i64 t143, .int .i64 t144] 49 (0, 0)) (by (with_reducible repeat (first | refine blk_drewN ?_ _ | refine blk_drew ?_ | refine blk_alloc ?_ _)); refine blk_put (cs := #[.int .i64 t143, .int .i64 ((rd_T49 l1 x6_1).f1)]) ?_ 1 _ rfl; (with_reducible repeat (first | refine blk_drewN ?_ _ | refine blk_drew ?_ | refine blk_alloc ?_ _)); refine blk_put (cs := #[.int .i64 ((rd_T49 l1 x6_1).f0), .int .i64 ((rd_T49 l1 x6_1).f1)]) ?_ 0 _ rfl; (with_reducible repeat (first | refine blk_drewN ?_ _ | refine blk_drew ?_ | refine blk_alloc ?_ _)); refine blk_far ?_ NB142_146.out _; (with_reducible repeat (first | refine blk_drewN ?_ _ | refine blk_drew ?_ | refine blk_alloc ?_ _)); refine blk_far ?_ NB142_146.out _; (with_reducible repeat (first | refine blk_drewN ?_ _ | refine blk_drew ?_ | refine blk_alloc ?_ _)); exact BK142.out) k_ hk, Kd.freshB (g := gb146) (o := .cells #[.int .i64 t143, .int .i64 t144] 49 (0, 0)) (by (with_reducible repeat (first | refine blk_drewN ?_ _ | refine blk_drew ?_ | refine blk_alloc ?_ _)); refine blk_far ?_ NB146_142.out _; (with_reducible repeat (first | refine blk_drewN ?_ _ | refine blk_drew ?_ | refine blk_alloc ?_ _)); refine blk_far ?_ NB146_142.out _; (with_reducible repeat (first | refine blk_drewN ?_ _ | refine blk_drew ?_ | refine blk_alloc ?_ _)); refine blk_put (cs := #[.int .i64 t143, .int .i64 0]) ?_ 1 _ rfl; (with_reducible repeat (first | refine blk_drewN ?_ _ | refine blk_drew ?_ | refine blk_alloc ?_ _)); refine blk_put (cs := #[.int .i64 0, .int .i64 0]) ?_ 0 _ rfl; (with_reducible repeat (first | refine blk_drewN ?_ _ | refine blk_drew ?_ | refine blk_alloc ?_ _)); exact BK146.out) k_ hk⟩)); (case aO => exact (by (with_reducible repeat (first | apply Kd.R_alloc | apply Kd.R_drewN | apply Kd.R_drew)); exact Kd.R_mono (Kd.R_far (p := ⟨gb142, 1, none⟩) (Kd.R_far (p := ⟨gb142, 0, none⟩) (Kd.R_far (p := ⟨gb146, 1, none⟩) (Kd.R_far (p := ⟨gb146, 0, none⟩) (Kd.R_mono (Kd.R_mono HO_5.out (fun k_ hk => (⟨hk, hk.2⟩ : _ ∧ k_ ≠ gb146))) (fun k_ hk => (⟨hk, hk.1.1.2⟩ : _ ∧ k_ ≠ gb142))) (fun _ hk => hk.1.2) (.int .i64 t143)) (fun _ hk => hk.1.2) (.int .i64 t144)) (fun _ hk => hk.2) (.int .i64 t143)) (fun _ hk => hk.2) (.int .i64 t144)) (fun _ hk => ⟨hk.1.1.1.2, hk.1.1.2⟩))); (case aS => exact (below_size (by repeat (first | (with_reducible first | exact HB.out | apply below_alloc | apply pw_below_drewN | apply below_drew1 | refine below_set ?_ GE142.out | refine below_set ?_ GE146.out) | exact HB.out)))); (case aL => have := LMc8.out; omega); intro v148 w16 ho hb hg hat; rw [← Ny147.out] at ho; have n0_ := Aside0.mk (blk_grown (g := gb142) (o := .cells #[.int .i64 t143, .int .i64 t144] 49 (0, 0)) (by (with_reducible repeat (first | refine blk_drewN ?_ _ | refine blk_drew ?_ | refine blk_alloc ?_ _)); refine blk_put (cs := #[.int .i64 t143, .int .i64 ((rd_T49 l1 x6_1).f1)]) ?_ 1 _ rfl; (with_reducible repeat (first | refine blk_drewN ?_ _ | refine blk_drew ?_ | refine blk_alloc ?_ _)); refine blk_put (cs := #[.int .i64 ((rd_T49 l1 x6_1).f0), .int .i64 ((rd_T49 l1 x6_1).f1)]) ?_ 0 _ rfl; (with_reducible repeat (first | refine blk_drewN ?_ _ | refine blk_drew ?_ | refine blk_alloc ?_ _)); refine blk_far ?_ NB142_146.out _; (with_reducible repeat (first | refine blk_drewN ?_ _ | refine blk_drew ?_ | refine blk_alloc ?_ _)); refine blk_far ?_ NB142_146.out _; (with_reducible repeat (first | refine blk_drewN ?_ _ | refine blk_drew ?_ | refine blk_alloc ?_ _)); exact BK142.out) hg (Kd.R_away HO_5.out (fun _ hk => hk.1.2))); have n1_ := Aside0.mk (blk_grown (g := gb146) (o := .cells #[.int .i64 t143, .int .i64 t144] 49 (0, 0)) (by (with_reducible repeat (first | refine blk_drewN ?_ _ | refine blk_drew ?_ | refine blk_alloc ?_ _)); refine blk_far ?_ NB146_142.out _; (with_reducible repeat (first | refine blk_drewN ?_ _ | refine blk_drew ?_ | refine blk_alloc ?_ _)); refine blk_far ?_ NB146_142.out _; (with_reducible repeat (first | refine blk_drewN ?_ _ | refine blk_drew ?_ | refine blk_alloc ?_ _)); refine blk_put (cs := #[.int .i64 t143, .int .i64 0]) ?_ 1 _ rfl; (with_reducible repeat (first | refine blk_drewN ?_ _ | refine blk_drew ?_ | refine blk_alloc ?_ _)); refine blk_put (cs := #[.int .i64 0, .int .i64 0]) ?_ 0 _ rfl; (with_reducible repeat (first | refine blk_drewN ?_ _ | refine blk_drew ?_ | refine blk_alloc ?_ _)); exact BK146.out) hg (Kd.R_away HO_5.out (fun _ hk => hk.2))); have n2_ := Aside0.mk (hb); have n3_ := Aside0.mk (ho); clear BK142; clear BK146; clear HB; clear HO_5; have BK142 := n0_; have BK146 := n1_; have HB := n2_; have HO149 := n3_; clear n0_ n1_ n2_ n3_; clear ho hb hg hat))
                go_roundg k1
                case measure => have := HK1.out; omega
                case rel => exact ⟨(y147), (wrap64 (x6_1 + 1)), (by first | rfl | (simp; done) | (simp [*]; done)), H', ⟨by have := HK1.out; omega⟩, ⟨by (with_reducible repeat (first | apply Kd.R_alloc | apply Kd.R_drewN | apply Kd.R_drew)); exact Kd.R_mono HO149.out (fun _ hk => trivial)⟩, ⟨by repeat (first | (with_reducible first | exact HB.out | apply below_alloc | apply pw_below_drewN | apply below_drew1 | refine below_set ?_ GE142.out | refine below_set ?_ GE146.out) | exact HB.out)⟩⟩
              · rw [if_neg c8] at H
                exact absurd H (by simp)
            · replace c7 := Bool.eq_false_iff.mpr c7
              subst c7
              have H1 : (if x5_1.length < 8796093022208 then (portageref22_turned.l0 k1 l0 l1 (x5_1 ++ [(⟨(rd_T49 l1 x6_1).f0, (rd_T49 l1 x6_1).f1⟩ : S49)]) (wrap64 (x6_1 + 1))) else (none)) = some r := by rw [if_neg (show ¬ (false = true) by decide)] at H; exact H
              clear H
              have H := H1
              clear H1
              by_cases c17 : x5_1.length < 8796093022208
              · rw [if_pos c17] at H
                have LMc17 := Aside0.mk c17
                clear c17
                obtain ⟨y150, hy150⟩ : ∃ y_ : List (S49), y_ = (x5_1 ++ [(⟨(rd_T49 l1 x6_1).f0, (rd_T49 l1 x6_1).f1⟩ : S49)]) := ⟨_, rfl⟩
                replace H : (portageref22_turned.l0 k1 l0 l1 y150 (wrap64 (x6_1 + 1))) = some r := by first | (rw [hy150]; with_reducible exact H) | (have H2_ := (Option.bind_some _ _).symm.trans H; rw [hy150]; with_reducible exact H2_) | (have H2_ := (Option.bind_some _ _).symm.trans H; with_reducible exact H2_) | with_reducible exact H | (rw [hy150]; exact H) | exact H
                have Ny150 := Aside0.mk hy150
                clear hy150
                have H' := Aside0.mk H
                clear H
                have p141 : 0 ≤ (x6_1 : Int) := of_decide_eq_true (by first | (with_reducible assumption) | assumption)
                have q141 : x6_1 < (l1.length : Int) := of_decide_eq_true (by first | (with_reducible assumption) | assumption)
                obtain ⟨ad141, e141, hx141_0, hx141_1⟩ := at_T49 HR1.out x6_1 p141 q141
                cases e141
                replace hx141_0 := (HB.out.cell (World.block_lt_of_cell? w _ hx141_0)).trans hx141_0
                replace hx141_1 := (HB.out.cell (World.block_lt_of_cell? w _ hx141_1)).trans hx141_1
                replace p141 := eq_true p141
                replace q141 := eq_true q141
                go_wp2_with (first | ((with_reducible refine gate_dst (N := 7) rfl ?_); refine box_event ?hg (N := 7) ?hd (cs := #[.int .i64 0, .int .i64 0]) (t := 49) ?hr ?_; (case hd => rfl); (case hg => rfl); (case hr => first | (go_simp; done) | (go_simp; rfl)); intro gb142 hg w18 hbox hb; have n0_ := Aside0.mk (Kd.R_below (Kd.R_elderB (by (with_reducible repeat (first | apply Kd.R_alloc | apply Kd.R_drewN | apply Kd.R_drew)); exact HO_5.out) gb142 (Nat.le_of_eq hg.symm)) hb); have n1_ := Aside0.mk (below_step (by repeat (first | (with_reducible first | exact HB.out | apply below_alloc | apply pw_below_drewN | apply below_drew1) | exact HB.out)) hb); have n2_ := Aside0.mk (hbox); have n3_ := Aside0.mk ((by rw [hg]; exact (below_size (by repeat (first | (with_reducible first | exact HB.out | apply below_alloc | apply pw_below_drewN | apply below_drew1) | exact HB.out))) : w.heap.size ≤ gb142)); have n4_ := Aside0.mk ((by rw [hg]; exact (below_size (by repeat (first | (with_reducible first | exact HB.out | apply below_alloc | apply pw_below_drewN | apply below_drew1) | exact HB.out))) : w.heap.size ≤ gb142)); clear HO_5; clear HB; have HO_5 := n0_; have HB := n1_; have BK142 := n2_; have GW142 := n3_; have GE142 := n4_; clear n0_ n1_ n2_ n3_ n4_; clear hb hbox hg; have hcz19_0 : w18.cell? ⟨gb142, 0, none⟩ = some (.int .i64 0) := (blk_cell BK142.out 0).trans rfl; have hcz19_1 : w18.cell? ⟨gb142, 1, none⟩ = some (.int .i64 0) := (blk_cell BK142.out 1).trans rfl; have hfz19_0 := blk_frozen BK142.out 0; have hfz19_1 := blk_frozen BK142.out 1) | ((with_reducible refine gate_callee (f := 54) rfl ?_); refine goesL_ (some 27) rfl rfl Try.func54 (by kernel_rfl) rfl #[.slice A0 l0.length c0, .int .i64 ((rd_T49 l1 x6_1).f1)] rfl (by (try simp only [List.map_toArray, List.map_cons, List.map_nil]); first | done | rfl | (simp only [List.length_drop, List.length_take]; rfl)) ?_; (with_reducible refine (portageref22_KnownAs.calls k1 _ _ l0 ((rd_T49 l1 x6_1).f1) t143 t144 false _ ?side1 ?side2 A6.out).mono ?_); (case side1 => exact Kd.C_below HR0.out (by repeat (first | (with_reducible first | exact HB.out | apply below_alloc | apply pw_below_drewN | apply below_drew1 | refine below_set ?_ GE142.out) | exact HB.out))); (case side2 => exact HC0.out); rintro e w20 ⟨rfl, hb⟩; refine ⟨_, rfl, ?_⟩; have n0_ := Aside0.mk (Kd.R_below (by (with_reducible repeat (first | apply Kd.R_alloc | apply Kd.R_drewN | apply Kd.R_drew)); exact (Kd.R_mono (Kd.R_far (p := ⟨gb142, 1, none⟩) (Kd.R_far (p := ⟨gb142, 0, none⟩) (Kd.R_mono HO_5.out (fun k_ hk => (⟨hk, hk.2⟩ : _ ∧ k_ ≠ gb142))) (fun _ hk => hk.2) (.int .i64 ((rd_T49 l1 x6_1).f0))) (fun _ hk => hk.2) (.int .i64 ((rd_T49 l1 x6_1).f1))) (fun _ h_ => h_.1))) hb); have n1_ := Aside0.mk (blk_below (g := gb142) (o := .cells #[.int .i64 ((rd_T49 l1 x6_1).f0), .int .i64 ((rd_T49 l1 x6_1).f1)] 49 (0, 0)) (by (with_reducible repeat (first | refine blk_drewN ?_ _ | refine blk_drew ?_ | refine blk_alloc ?_ _)); refine blk_put (cs := #[.int .i64 ((rd_T49 l1 x6_1).f0), .int .i64 0]) ?_ 1 _ rfl; (with_reducible repeat (first | refine blk_drewN ?_ _ | refine blk_drew ?_ | refine blk_alloc ?_ _)); refine blk_put (cs := #[.int .i64 0, .int .i64 0]) ?_ 0 _ rfl; (with_reducible repeat (first | refine blk_drewN ?_ _ | refine blk_drew ?_ | refine blk_alloc ?_ _)); exact BK142.out) hb); have n2_ := Aside0.mk (below_step (by repeat (first | (with_reducible first | exact HB.out | apply below_alloc | apply pw_below_drewN | apply below_drew1 | refine below_set ?_ GE142.out) | exact HB.out)) hb); clear HO_5; clear BK142; clear HB; have HO_5 := n0_; have BK142 := n1_; have HB := n2_; clear n0_ n1_ n2_; (try clear hb); (try clear hb2); (try clear hk); (try clear hi)) | ((with_reducible refine gate_dst (N := 8) rfl ?_); refine box_event ?hg (N := 8) ?hd (cs := #[.int .i64 0, .int .i64 0]) (t := 49) ?hr ?_; (case hd => rfl); (case hg => rfl); (case hr => first | (go_simp; done) | (go_simp; rfl)); intro gb146 hg w21 hbox hb; have n0_ := Aside0.mk (Kd.R_below (Kd.R_elderB (by (with_reducible repeat (first | apply Kd.R_alloc | apply Kd.R_drewN | apply Kd.R_drew)); exact HO_5.out) gb146 (Nat.le_of_eq hg.symm)) hb); have n1_ := Aside0.mk (blk_below (g := gb142) (o := .cells #[.int .i64 ((rd_T49 l1 x6_1).f0), .int .i64 ((rd_T49 l1 x6_1).f1)] 49 (0, 0)) (by (with_reducible repeat (first | refine blk_drewN ?_ _ | refine blk_drew ?_ | refine blk_alloc ?_ _)); exact BK142.out) hb); have n2_ := Aside0.mk (below_step (by repeat (first | (with_reducible first | exact HB.out | apply below_alloc | apply pw_below_drewN | apply below_drew1 | refine below_set ?_ GE142.out) | exact HB.out)) hb); have n3_ := Aside0.mk (hbox); have n4_ := Aside0.mk ((by rw [hg]; exact (below_size (by repeat (first | (with_reducible first | exact HB.out | apply below_alloc | apply pw_below_drewN | apply below_drew1 | refine below_set ?_ GE142.out) | exact HB.out))) : w.heap.size ≤ gb146)); have n5_ := Aside0.mk ((by rw [hg]; exact (below_size (by repeat (first | (with_reducible first | exact HB.out | apply below_alloc | apply pw_below_drewN | apply below_drew1 | refine below_set ?_ GE142.out) | exact HB.out))) : w.heap.size ≤ gb146)); have n6_ := Aside0.mk ((by rw [hg]; exact Nat.ne_of_lt (blk_lt (g := gb142) (o := .cells #[.int .i64 ((rd_T49 l1 x6_1).f0), .int .i64 ((rd_T49 l1 x6_1).f1)] 49 (0, 0)) (by (with_reducible repeat (first | refine blk_drewN ?_ _ | refine blk_drew ?_ | refine blk_alloc ?_ _)); exact BK142.out)) : gb142 ≠ gb146)); have n7_ := Aside0.mk ((by rw [hg]; exact Nat.ne_of_gt (blk_lt (g := gb142) (o := .cells #[.int .i64 ((rd_T49 l1 x6_1).f0), .int .i64 ((rd_T49 l1 x6_1).f1)] 49 (0, 0)) (by (with_reducible repeat (first | refine blk_drewN ?_ _ | refine blk_drew ?_ | refine blk_alloc ?_ _)); exact BK142.out)) : gb146 ≠ gb142)); clear HO_5; clear BK142; clear HB; have HO_5 := n0_; have BK142 := n1_; have HB := n2_; have BK146 := n3_; have GW146 := n4_; have GE146 := n5_; have NB142_146 := n6_; have NB146_142 := n7_; clear n0_ n1_ n2_ n3_ n4_ n5_ n6_ n7_; clear hb hbox hg; have hnb22 := NB146_142.out; have hnc22 := NB142_146.out; have hcz23_0 : w21.cell? ⟨gb146, 0, none⟩ = some (.int .i64 0) := (blk_cell BK146.out 0).trans rfl; have hcz23_1 : w21.cell? ⟨gb146, 1, none⟩ = some (.int .i64 0) := (blk_cell BK146.out 1).trans rfl; have hfz23_0 := blk_frozen BK146.out 0; have hfz23_1 := blk_frozen BK146.out 1; have hcz24_0 : w21.cell? ⟨gb142, 0, none⟩ = some (.int .i64 ((rd_T49 l1 x6_1).f0)) := (blk_cell BK142.out 0).trans rfl; have hcz24_1 : w21.cell? ⟨gb142, 1, none⟩ = some (.int .i64 ((rd_T49 l1 x6_1).f1)) := (blk_cell BK142.out 1).trans rfl; have hfz24_0 := blk_frozen BK142.out 0; have hfz24_1 := blk_frozen BK142.out 1) | ((with_reducible refine gate_builtin (b := .append) (xs := #[.tmp 32, .tmp 34]) rfl ?_); at_builtin; refine Kd.R_append k49 (w0 := w) w.heap.size rfl (.tmp 32) (.tmp 34) 44 49 (.agg #[(.int .i64 0), (.int .i64 0)]) 16 rfl Try.underlying44 info49 rfl (by decide) (by omega) u5 x5_1 (⟨(rd_T49 l1 x6_1).f0, (rd_T49 l1 x6_1).f1⟩ : S49) [.int .i64 ((rd_T49 l1 x6_1).f0), .int .i64 ((rd_T49 l1 x6_1).f1)] (fun k_ => k_ ≠ gb142 ∧ k_ ≠ gb146) (fun _ => False) rfl (by first | (go_simp; done) | (go_simp; rfl)) ?aP (fun _ hk => hk.elim) ?aF ?aO ?aB ?aS ?aL ?_; (case aP => exact k49_mkM _ _ _ (⟨(rd_T49 l1 x6_1).f0, (rd_T49 l1 x6_1).f1⟩ : S49)); (case aB => exact (by repeat (first | (with_reducible first | exact HB.out | apply below_alloc | apply pw_below_drewN | apply below_drew1 | refine below_set ?_ GE142.out | refine below_set ?_ GE146.out) | exact HB.out))); (case aF => exact (fun k_ hk => ⟨Kd.freshB (g := gb142) (o := .cells #[.int .i64 ((rd_T49 l1 x6_1).f0), .int .i64 ((rd_T49 l1 x6_1).f1)] 49 (0, 0)) (by (with_reducible repeat (first | refine blk_drewN ?_ _ | refine blk_drew ?_ | refine blk_alloc ?_ _)); refine blk_far ?_ NB142_146.out _; (with_reducible repeat (first | refine blk_drewN ?_ _ | refine blk_drew ?_ | refine blk_alloc ?_ _)); refine blk_far ?_ NB142_146.out _; (with_reducible repeat (first | refine blk_drewN ?_ _ | refine blk_drew ?_ | refine blk_alloc ?_ _)); exact BK142.out) k_ hk, Kd.freshB (g := gb146) (o := .cells #[.int .i64 t143, .int .i64 t144] 49 (0, 0)) (by (with_reducible repeat (first | refine blk_drewN ?_ _ | refine blk_drew ?_ | refine blk_alloc ?_ _)); refine blk_put (cs := #[.int .i64 t143, .int .i64 0]) ?_ 1 _ rfl; (with_reducible repeat (first | refine blk_drewN ?_ _ | refine blk_drew ?_ | refine blk_alloc ?_ _)); refine blk_put (cs := #[.int .i64 0, .int .i64 0]) ?_ 0 _ rfl; (with_reducible repeat (first | refine blk_drewN ?_ _ | refine blk_drew ?_ | refine blk_alloc ?_ _)); exact BK146.out) k_ hk⟩)); (case aO => exact (by (with_reducible repeat (first | apply Kd.R_alloc | apply Kd.R_drewN | apply Kd.R_drew)); exact Kd.R_mono (Kd.R_far (p := ⟨gb146, 1, none⟩) (Kd.R_far (p := ⟨gb146, 0, none⟩) (Kd.R_mono HO_5.out (fun k_ hk => (⟨hk, hk.2⟩ : _ ∧ k_ ≠ gb146))) (fun _ hk => hk.2) (.int .i64 t143)) (fun _ hk => hk.2) (.int .i64 t144)) (fun _ hk => ⟨hk.1.1.2, hk.1.2⟩))); (case aS => exact (below_size (by repeat (first | (with_reducible first | exact HB.out | apply below_alloc | apply pw_below_drewN | apply below_drew1 | refine below_set ?_ GE142.out | refine below_set ?_ GE146.out) | exact HB.out)))); (case aL => have := LMc17.out; omega); intro v151 w25 ho hb hg hat; rw [← Ny150.out] at ho; have n0_ := Aside0.mk (blk_grown (g := gb142) (o := .cells #[.int .i64 ((rd_T49 l1 x6_1).f0), .int .i64 ((rd_T49 l1 x6_1).f1)] 49 (0, 0)) (by (with_reducible repeat (first | refine blk_drewN ?_ _ | refine blk_drew ?_ | refine blk_alloc ?_ _)); refine blk_far ?_ NB142_146.out _; (with_reducible repeat (first | refine blk_drewN ?_ _ | refine blk_drew ?_ | refine blk_alloc ?_ _)); refine blk_far ?_ NB142_146.out _; (with_reducible repeat (first | refine blk_drewN ?_ _ | refine blk_drew ?_ | refine blk_alloc ?_ _)); exact BK142.out) hg (Kd.R_away HO_5.out (fun _ hk => hk.1.2))); have n1_ := Aside0.mk (blk_grown (g := gb146) (o := .cells #[.int .i64 t143, .int .i64 t144] 49 (0, 0)) (by (with_reducible repeat (first | refine blk_drewN ?_ _ | refine blk_drew ?_ | refine blk_alloc ?_ _)); refine blk_put (cs := #[.int .i64 t143, .int .i64 0]) ?_ 1 _ rfl; (with_reducible repeat (first | refine blk_drewN ?_ _ | refine blk_drew ?_ | refine blk_alloc ?_ _)); refine blk_put (cs := #[.int .i64 0, .int .i64 0]) ?_ 0 _ rfl; (with_reducible repeat (first | refine blk_drewN ?_ _ | refine blk_drew ?_ | refine blk_alloc ?_ _)); exact BK146.out) hg (Kd.R_away HO_5.out (fun _ hk => hk.2))); have n2_ := Aside0.mk (hb); have n3_ := Aside0.mk (ho); clear BK142; clear BK146; clear HB; clear HO_5; have BK142 := n0_; have BK146 := n1_; have HB := n2_; have HO152 := n3_; clear n0_ n1_ n2_ n3_; clear ho hb hg hat))
                go_roundg k1
                case measure => have := HK1.out; omega
                case rel => exact ⟨(y150), (wrap64 (x6_1 + 1)), (by first | rfl | (simp; done) | (simp [*]; done)), H', ⟨by have := HK1.out; omega⟩, ⟨by (with_reducible repeat (first | apply Kd.R_alloc | apply Kd.R_drewN | apply Kd.R_drew)); exact Kd.R_mono HO152.out (fun _ hk => trivial)⟩, ⟨by repeat (first | (with_reducible first | exact HB.out | apply below_alloc | apply pw_below_drewN | apply below_drew1 | refine below_set ?_ GE142.out | refine below_set ?_ GE146.out) | exact HB.out)⟩⟩
              · rw [if_neg c17] at H
                exact absurd H (by simp)
          · rw [if_neg c5] at H
            have c5b0 : (((rd_T49 l1 x6_1).f0) == 0) = false := beq_eq_false_iff_ne.mpr c5
            have c5b1 : (((rd_T49 l1 x6_1).f0) != 0) = true := bne_iff_ne.mpr c5
            by_cases c26 : x5_1.length < 8796093022208
            · rw [if_pos c26] at H
              have LMc26 := Aside0.mk c26
              clear c26
              obtain ⟨y153, hy153⟩ : ∃ y_ : List (S49), y_ = (x5_1 ++ [(⟨(rd_T49 l1 x6_1).f0, (rd_T49 l1 x6_1).f1⟩ : S49)]) := ⟨_, rfl⟩
              replace H : (portageref22_turned.l0 k1 l0 l1 y153 (wrap64 (x6_1 + 1))) = some r := by first | (rw [hy153]; with_reducible exact H) | (have H2_ := (Option.bind_some _ _).symm.trans H; rw [hy153]; with_reducible exact H2_) | (have H2_ := (Option.bind_some _ _).symm.trans H; with_reducible exact H2_) | with_reducible exact H | (rw [hy153]; exact H) | exact H
              have Ny153 := Aside0.mk hy153
              clear hy153
              have H' := Aside0.mk H
              clear H
              have p141 : 0 ≤ (x6_1 : Int) := of_decide_eq_true (by first | (with_reducible assumption) | assumption)
              have q141 : x6_1 < (l1.length : Int) := of_decide_eq_true (by first | (with_reducible assumption) | assumption)
              obtain ⟨ad141, e141, hx141_0, hx141_1⟩ := at_T49 HR1.out x6_1 p141 q141
              cases e141
              replace hx141_0 := (HB.out.cell (World.block_lt_of_cell? w _ hx141_0)).trans hx141_0
              replace hx141_1 := (HB.out.cell (World.block_lt_of_cell? w _ hx141_1)).trans hx141_1
              replace p141 := eq_true p141
              replace q141 := eq_true q141
              go_wp2_with (first | ((with_reducible refine gate_dst (N := 7) rfl ?_); refine box_event ?hg (N := 7) ?hd (cs := #[.int .i64 0, .int .i64 0]) (t := 49) ?hr ?_; (case hd => rfl); (case hg => rfl); (case hr => first | (go_simp; done) | (go_simp; rfl)); intro gb142 hg w27 hbox hb; have n0_ := Aside0.mk (Kd.R_below (Kd.R_elderB (by (with_reducible repeat (first | apply Kd.R_alloc | apply Kd.R_drewN | apply Kd.R_drew)); exact HO_5.out) gb142 (Nat.le_of_eq hg.symm)) hb); have n1_ := Aside0.mk (below_step (by repeat (first | (with_reducible first | exact HB.out | apply below_alloc | apply pw_below_drewN | apply below_drew1) | exact HB.out)) hb); have n2_ := Aside0.mk (hbox); have n3_ := Aside0.mk ((by rw [hg]; exact (below_size (by repeat (first | (with_reducible first | exact HB.out | apply below_alloc | apply pw_below_drewN | apply below_drew1) | exact HB.out))) : w.heap.size ≤ gb142)); have n4_ := Aside0.mk ((by rw [hg]; exact (below_size (by repeat (first | (with_reducible first | exact HB.out | apply below_alloc | apply pw_below_drewN | apply below_drew1) | exact HB.out))) : w.heap.size ≤ gb142)); clear HO_5; clear HB; have HO_5 := n0_; have HB := n1_; have BK142 := n2_; have GW142 := n3_; have GE142 := n4_; clear n0_ n1_ n2_ n3_ n4_; clear hb hbox hg; have hcz28_0 : w27.cell? ⟨gb142, 0, none⟩ = some (.int .i64 0) := (blk_cell BK142.out 0).trans rfl; have hcz28_1 : w27.cell? ⟨gb142, 1, none⟩ = some (.int .i64 0) := (blk_cell BK142.out 1).trans rfl; have hfz28_0 := blk_frozen BK142.out 0; have hfz28_1 := blk_frozen BK142.out 1) | ((with_reducible refine gate_builtin (b := .append) (xs := #[.tmp 32, .tmp 34]) rfl ?_); at_builtin; refine Kd.R_append k49 (w0 := w) w.heap.size rfl (.tmp 32) (.tmp 34) 44 49 (.agg #[(.int .i64 0), (.int .i64 0)]) 16 rfl Try.underlying44 info49 rfl (by decide) (by omega) u5 x5_1 (⟨(rd_T49 l1 x6_1).f0, (rd_T49 l1 x6_1).f1⟩ : S49) [.int .i64 ((rd_T49 l1 x6_1).f0), .int .i64 ((rd_T49 l1 x6_1).f1)] (fun k_ => k_ ≠ gb142) (fun _ => False) rfl (by first | (go_simp; done) | (go_simp; rfl)) ?aP (fun _ hk => hk.elim) ?aF ?aO ?aB ?aS ?aL ?_; (case aP => exact k49_mkM _ _ _ (⟨(rd_T49 l1 x6_1).f0, (rd_T49 l1 x6_1).f1⟩ : S49)); (case aB => exact (by repeat (first | (with_reducible first | exact HB.out | apply below_alloc | apply pw_below_drewN | apply below_drew1 | refine below_set ?_ GE142.out) | exact HB.out))); (case aF => exact (fun k_ hk => Kd.freshB (g := gb142) (o := .cells #[.int .i64 ((rd_T49 l1 x6_1).f0), .int .i64 ((rd_T49 l1 x6_1).f1)] 49 (0, 0)) (by (with_reducible repeat (first | refine blk_drewN ?_ _ | refine blk_drew ?_ | refine blk_alloc ?_ _)); refine blk_put (cs := #[.int .i64 ((rd_T49 l1 x6_1).f0), .int .i64 0]) ?_ 1 _ rfl; (with_reducible repeat (first | refine blk_drewN ?_ _ | refine blk_drew ?_ | refine blk_alloc ?_ _)); refine blk_put (cs := #[.int .i64 0, .int .i64 0]) ?_ 0 _ rfl; (with_reducible repeat (first | refine blk_drewN ?_ _ | refine blk_drew ?_ | refine blk_alloc ?_ _)); exact BK142.out) k_ hk)); (case aO => exact (by (with_reducible repeat (first | apply Kd.R_alloc | apply Kd.R_drewN | apply Kd.R_drew)); exact Kd.R_mono (Kd.R_far (p := ⟨gb142, 1, none⟩) (Kd.R_far (p := ⟨gb142, 0, none⟩) (Kd.R_mono HO_5.out (fun k_ hk => (⟨hk, hk.2⟩ : _ ∧ k_ ≠ gb142))) (fun _ hk => hk.2) (.int .i64 ((rd_T49 l1 x6_1).f0))) (fun _ hk => hk.2) (.int .i64 ((rd_T49 l1 x6_1).f1))) (fun _ hk => hk.1.2))); (case aS => exact (below_size (by repeat (first | (with_reducible first | exact HB.out | apply below_alloc | apply pw_below_drewN | apply below_drew1 | refine below_set ?_ GE142.out) | exact HB.out)))); (case aL => have := LMc26.out; omega); intro v154 w29 ho hb hg hat; rw [← Ny153.out] at ho; have n0_ := Aside0.mk (blk_grown (g := gb142) (o := .cells #[.int .i64 ((rd_T49 l1 x6_1).f0), .int .i64 ((rd_T49 l1 x6_1).f1)] 49 (0, 0)) (by (with_reducible repeat (first | refine blk_drewN ?_ _ | refine blk_drew ?_ | refine blk_alloc ?_ _)); refine blk_put (cs := #[.int .i64 ((rd_T49 l1 x6_1).f0), .int .i64 0]) ?_ 1 _ rfl; (with_reducible repeat (first | refine blk_drewN ?_ _ | refine blk_drew ?_ | refine blk_alloc ?_ _)); refine blk_put (cs := #[.int .i64 0, .int .i64 0]) ?_ 0 _ rfl; (with_reducible repeat (first | refine blk_drewN ?_ _ | refine blk_drew ?_ | refine blk_alloc ?_ _)); exact BK142.out) hg (Kd.R_away HO_5.out (fun _ hk => hk.2))); have n1_ := Aside0.mk (hb); have n2_ := Aside0.mk (ho); clear BK142; clear HB; clear HO_5; have BK142 := n0_; have HB := n1_; have HO155 := n2_; clear n0_ n1_ n2_; clear ho hb hg hat))
              go_roundg k1
              case measure => have := HK1.out; omega
              case rel => exact ⟨(y153), (wrap64 (x6_1 + 1)), (by first | rfl | (simp; done) | (simp [*]; done)), H', ⟨by have := HK1.out; omega⟩, ⟨by (with_reducible repeat (first | apply Kd.R_alloc | apply Kd.R_drewN | apply Kd.R_drew)); exact Kd.R_mono HO155.out (fun _ hk => trivial)⟩, ⟨by repeat (first | (with_reducible first | exact HB.out | apply below_alloc | apply pw_below_drewN | apply below_drew1 | refine below_set ?_ GE142.out) | exact HB.out)⟩⟩
            · rw [if_neg c26] at H
              exact absurd H (by simp)
        · rw [if_neg c4] at H
          exact absurd H (by simp)
      · rw [if_neg c3] at H
        have c3b0 : decide (x6_1 < (l1.length : Int)) = false := decide_eq_false c3
        clear c3
        obtain rfl := Option.some.inj H
        go_wp2
        go_ret
        exact ⟨_, by first | rfl | (simp [errW_none, errW_some] <;> rfl) | (simp [*, errW_none, errW_some] <;> rfl), by (with_reducible repeat (first | apply Kd.R_alloc | apply Kd.R_drewN | apply Kd.R_drew)); exact HO_5.out, by repeat (first | (with_reducible first | exact HB.out | apply below_alloc | apply pw_below_drewN | apply below_drew1) | exact HB.out)⟩

end Go.Proofs.Ytjekpkpmoanadaa.PCop
/- What a register is known as9, plainly: gone back over the list, and carried along by a map. -/
namespace Go.Proofs.Ytjekpkpmoanadaa.PCop
open Go.RowKit Go.Proofs.YtjekpkpmoanadaaW.PrintWords Go.Proofs.YtjekpkpmoanadaaW.PrintLast Go.Proofs.YtjekpkpmoanadaaW.PrintMore
set_option linter.unusedVariables false
set_option linter.unusedSimpArgs false
/-- does it write the register? -/
def wrt (x : S47) (r : Int) : Bool := x.f2 != -1 && x.f2 == r
/-- known behind the list, read backwards -/
def knownB : List S47 → Int → Option S49
  | [], _ => none
  | x :: rest, r => if wrt x r then movesOf x else (knownB rest r).bind fun o => if o.f0 = 0 ∧ wrt x o.f1 = true then none else some o
def knownS (l : List S47) (r : Int) : Option S49 := knownB l.reverse r
theorem knownS_snoc (l : List S47) (x : S47) (r : Int) : knownS (l ++ [x]) r = if wrt x r then movesOf x else (knownS l r).bind fun o => if o.f0 = 0 ∧ wrt x o.f1 = true then none else some o := by
  unfold knownS
  rw [List.reverse_append]
  rfl
/-- the map carried along -/
theorem known_step {M : Map49} {out : List S47} (h : ∀ r, M r = knownS out r) (x : S47) : ∀ r, (stepS (M, out) x).1 r = knownS (stepS (M, out) x).2 r := by
  intro r
  unfold stepS
  by_cases hd : x.f2 = -1
  · rw [if_pos hd]
    show M r = knownS (out ++ [turn47 M x]) r
    have hw : ∀ q, wrt (turn47 M x) q = false := fun q => by unfold wrt turn47; simp [hd]
    rw [knownS_snoc, hw r, h r]
    simp [hw]
  · rw [if_neg hd]
    by_cases hm : movesOf (turn47 M x) = some ⟨0, x.f2⟩
    · rw [if_pos hm]
      exact h r
    · rw [if_neg hm]
      show putM (writ M x.f2) x.f2 (movesOf (turn47 M x)) r = knownS (out ++ [turn47 M x]) r
      have hw : ∀ q, wrt (turn47 M x) q = (x.f2 == q) := fun q => by unfold wrt turn47; simp [hd]
      rw [knownS_snoc, hw r, ← h r]
      by_cases hr : x.f2 = r
      · have : (x.f2 == r) = true := beq_iff_eq.2 hr
        rw [this, if_pos rfl]
        cases hmv : movesOf (turn47 M x) with
        | some o => simp [putM, hr]
        | none => simp [putM, writ, hr]
      · have : (x.f2 == r) = false := beq_eq_false_iff_ne.2 hr
        rw [this]
        have h2 : putM (writ M x.f2) x.f2 (movesOf (turn47 M x)) r = writ M x.f2 r := by
          cases hmv : movesOf (turn47 M x) with
          | some o => simp [putM, Ne.symm hr]
          | none => rfl
        rw [h2]
        unfold writ
        cases hM : M r with
        | none => simp [hM]
        | some o => simp [hM, hw, Ne.symm hr, eq_comm (a := o.f1)]
def encK : Option S49 → Int × Int × Bool
  | some o => (o.f0, o.f1, true)
  | none => (0, 0, false)
def filt (suf : List S47) (o : Option S49) : Option S49 := o.bind fun o => if o.f0 = 0 ∧ (suf.any fun x => wrt x o.f1) = true then none else some o
theorem wr_f (x : S47) (r : Int) : portageref22_Writes.f x.f0 x.f1 x.f2 x.f3 x.f4 x.f5 x.f6 x.f7 r = some (wrt x r) := by
  unfold portageref22_Writes.f wrt
  by_cases h : x.f2 = -1
  · simp [h]
  · simp [h]
theorem mv_f (x : S47) (h : x.f2 ≠ -1) : portageref22_moves.f x.f0 x.f1 x.f2 x.f3 x.f4 x.f5 x.f6 x.f7 = some (movesOf x).isSome := by
  unfold portageref22_moves.f movesOf
  by_cases h0 : x.f0 = 1
  · rw [if_pos h0, if_pos h0]
    rcases hx : x.f3 with _ | ⟨o, _ | ⟨o2, t⟩⟩
    · simp
    · simp [h]
    · simp; omega
  · rw [if_neg h0, if_neg h0]; rfl
theorem rd47_at {L : List S47} {p : Nat} (h : p < L.length) : rd_T47 L (p : Int) = L[p] := by
  unfold rd_T47; rw [Int.toNat_natCast, List.getD_eq_getElem?_getD, List.getElem?_eq_getElem h]; rfl
theorem ka_l1 (L : List S47) (a b : Int) (hl : L.length ≤ 4611686018427387904) : ∀ (n p : Nat), p + n = L.length → ∀ k, n + 1 ≤ k → portageref22_KnownAs.l1 k L (p : Int) a b = some (if ((L.drop p).any fun x => wrt x b) = true then (0, 0, false) else (a, b, true))
  | 0, p, hp, k + 1, _ => by
    rw [portageref22_KnownAs.l1, if_neg (by omega), List.drop_eq_nil_of_le (by omega)]; simp
  | n + 1, p, hp, k + 1, hk => by
    have hlt : p < L.length := by omega
    rw [portageref22_KnownAs.l1, if_pos (by omega), if_pos (by omega), rd47_at hlt, wr_f, Option.bind_some, List.drop_eq_getElem_cons hlt, List.any_cons]
    cases hw : wrt L[p] b with
    | true => simp
    | false =>
      rw [if_neg (by simp), show wrap64 ((p : Int) + 1) = ((p + 1 : Nat) : Int) by unfold wrap64; omega, ka_l1 L a b hl n (p + 1) (by omega) k (by omega)]
      simp
theorem ka_l0 (L : List S47) (r : Int) (hl : L.length ≤ 4611686018427387904) : ∀ (p : Nat), p ≤ L.length → ∀ k, L.length + 2 + p ≤ k → portageref22_KnownAs.l0 k L r ((p : Int) - 1) = some (encK (filt (L.drop p) (knownS (L.take p) r)))
  | 0, _, k + 1, _ => by rw [portageref22_KnownAs.l0, if_neg (by omega)]; rfl
  | q + 1, hp, k + 1, hk => by
    have hlt : q < L.length := by omega
    have e : ((q + 1 : Nat) : Int) - 1 = (q : Int) := by omega
    rw [e, portageref22_KnownAs.l0, if_pos (by omega), if_pos (by omega), if_pos (by omega), rd47_at hlt, wr_f, Option.bind_some, List.take_succ_eq_append_getElem hlt, knownS_snoc]
    generalize hx : L[q] = x
    cases hw : wrt x r with
    | true =>
      have hd : x.f2 ≠ -1 := by unfold wrt at hw; simp at hw; exact hw.1
      rw [if_pos rfl, mv_f x hd, Option.bind_some, if_pos rfl]
      cases hm : movesOf x with
      | none => rfl
      | some o =>
        obtain ⟨h0, h3⟩ : x.f0 = 1 ∧ x.f3 = [o] := by
          unfold movesOf at hm
          split at hm
          · rename_i h
            split at hm
            · rename_i o' ho; exact ⟨h, by rw [ho]; cases hm; rfl⟩
            · cases hm
          · cases hm
        rw [h3]
        rw [if_pos (show (some o).isSome = true from rfl), if_pos (by simp)]
        show (if o.f0 = 0 then _ else _) = _
        by_cases ho : o.f0 = 0
        · rw [if_pos ho, show wrap64 ((q : Int) + 1) = ((q + 1 : Nat) : Int) by unfold wrap64; omega]
          show portageref22_KnownAs.l1 k L ((q + 1 : Nat) : Int) o.f0 o.f1 = _
          rw [ka_l1 L o.f0 o.f1 hl (L.length - (q + 1)) (q + 1) (by omega) k (by omega)]
          unfold filt
          rw [Option.bind_some]
          by_cases hs : ((L.drop (q + 1)).any fun x => wrt x o.f1) = true
          · rw [if_pos hs, if_pos ⟨ho, hs⟩]; rfl
          · rw [if_neg hs, if_neg (fun h => hs h.2)]; rfl
        · rw [if_neg ho]
          unfold filt
          rw [Option.bind_some, if_neg (fun h => ho h.1)]; rfl
    | false =>
      rw [if_neg (by simp), show wrap64 ((q : Int) - 1) = (q : Int) - 1 by unfold wrap64; omega, ka_l0 L r hl q (by omega) k (by omega)]
      rw [if_neg (by simp), List.drop_eq_getElem_cons hlt, hx]
      congr 2
      unfold filt
      cases hk2 : knownS (L.take q) r with
      | none => rfl
      | some o =>
        simp only [Option.bind_some, List.any_cons]
        by_cases ho : o.f0 = 0
        · by_cases hwx : wrt x o.f1 = true
          · simp [ho, hwx]
          · simp [ho, hwx]
        · simp [ho]
theorem ka_f (L : List S47) (r : Int) (hl : L.length ≤ 4611686018427387904) {k : Nat} (hk : 2 * L.length + 2 ≤ k) : portageref22_KnownAs.f k L r = some (encK (knownS L r)) := by
  unfold portageref22_KnownAs.f
  rw [show wrap64 ((L.length : Int) - 1) = (L.length : Int) - 1 by unfold wrap64; omega, ka_l0 L r hl L.length (Nat.le_refl _) k (by omega), List.take_length, List.drop_length]
  unfold filt
  cases knownS L r with
  | none => rfl
  | some o => simp
theorem ta_l0 (L : List S47) (A : List S49) (hl : L.length ≤ 4611686018427387904) (hA : A.length < 8796093022208) : ∀ (n p : Nat), p + n = A.length → ∀ k, n + 3 + 2 * L.length ≤ k → portageref22_turned.l0 k L A ((A.take p).map (ask (knownS L))) (p : Int) = some (A.map (ask (knownS L)))
  | 0, _, _, 0, hk => absurd hk (by omega)
  | _ + 1, _, _, 0, hk => absurd hk (by omega)
  | 0, p, hp, k + 1, _ => by
    rw [portageref22_turned.l0, if_neg (by omega), List.take_of_length_le (by omega)]
  | n + 1, p, hp, k + 1, hk => by
    have hlt : p < A.length := by omega
    have hsz : ((A.take p).map (ask (knownS L))).length < 8796093022208 := by simp; omega
    have ih := ta_l0 L A hl hA n (p + 1) (by omega) k (by omega)
    rw [List.take_succ_eq_append_getElem hlt, List.map_append, List.map_singleton] at ih
    have e : rd_T49 A (p : Int) = A[p] := by unfold rd_T49; rw [Int.toNat_natCast, List.getD_eq_getElem?_getD, List.getElem?_eq_getElem hlt]; rfl
    have ew : wrap64 ((p : Int) + 1) = ((p + 1 : Nat) : Int) := by unfold wrap64; omega
    rw [portageref22_turned.l0, if_pos (by omega), if_pos (by omega), e, ew]
    generalize A[p] = o at ih
    by_cases ho : o.f0 = 0
    · rw [if_pos ho, ka_f L o.f1 hl (by omega), Option.bind_some]
      cases hk2 : knownS L o.f1 with
      | none =>
        rw [show ask (knownS L) o = o by unfold ask; rw [if_pos ho, hk2]; rfl] at ih
        rw [if_neg (by simp [encK]), if_pos hsz]
        exact ih
      | some y =>
        rw [show ask (knownS L) o = y by unfold ask; rw [if_pos ho, hk2]; rfl] at ih
        rw [if_pos (by rfl), if_pos hsz]
        exact ih
    · rw [if_neg ho, if_pos hsz]
      rw [show ask (knownS L) o = o by unfold ask; rw [if_neg ho]] at ih
      exact ih
theorem ta_f (L : List S47) (A : List S49) (hl : L.length ≤ 4611686018427387904) (hA : A.length < 8796093022208) {k : Nat} (hk : A.length + 3 + 2 * L.length ≤ k) : portageref22_turned.f k L A = some (A.map (ask (knownS L))) :=
  ta_l0 L A hl hA A.length 0 (by omega) k hk
theorem fold_known : ∀ (l : List S47) (st : Map49 × List S47), st.1 = knownS st.2 → (l.foldl stepS st).1 = knownS (l.foldl stepS st).2
  | [], st, h => h
  | x :: r, st, h => by
    rw [List.foldl_cons]
    refine fold_known r _ (funext fun q => ?_)
    obtain ⟨M, out⟩ := st
    exact known_step (fun r => congrFun h r) x q
theorem known_nil : noMap = knownS [] := rfl
end Go.Proofs.Ytjekpkpmoanadaa.PCop
