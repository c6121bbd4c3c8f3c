/- copies.Run, plainly; what the walk of Run carries from round to round. -/
import Derived.Test.YtjekpkpmoanadaaTurn2
import Derived.Test.YtjekpkpmoanadaaPCopx1
namespace Go.Proofs.Ytjekpkpmoanadaa.PCop
open Go.RowKit Go.Proofs.Ytjekpkpmoanadaa.Lit Go.Proofs.Ytjekpkpmoanadaa.OwnCells Go.Proofs.YtjekpkpmoanadaaW.PrintWords Go.Proofs.YtjekpkpmoanadaaW.PrintLast Go.Proofs.YtjekpkpmoanadaaW.PrintMore
open Go.Maps
set_option linter.unusedVariables false
set_option linter.unusedSimpArgs false
instance eq49 : DecidableEq S49 := fun a b => decidable_of_iff (a.f0 = b.f0 ∧ a.f1 = b.f1) ⟨fun h => by cases a; cases b; simp at h; obtain ⟨rfl, rfl⟩ := h; rfl, fun h => by subst h; exact ⟨rfl, rfl⟩⟩
/-- what an instruction moves -/
def movesOf (x : S47) : Option S49 := if x.f0 = 1 then (match x.f3 with | [o] => some o | _ => none) else none
def putM (M : Map49) (r : Int) : Option S49 → Map49
  | some o => fun a => if a = r then some o else M a
  | none => M
def stepS (st : Map49 × List S47) (old : S47) : Map49 × List S47 :=
  if old.f2 = -1 then (st.1, st.2 ++ [turn47 st.1 old])
  else if movesOf (turn47 st.1 old) = some ⟨0, old.f2⟩ then st
  else (putM (writ st.1 old.f2) old.f2 (movesOf (turn47 st.1 old)), st.2 ++ [turn47 st.1 old])
def blockS (b : S43) : S43 := ⟨b.f0, (b.f1.foldl stepS (noMap, [])).2, b.f2⟩
def runS (l : List S43) : List S43 := l.map blockS
/-! sizes and key bounds of what is handed in -/
structure OkX (x : S47) : Prop where
  dst : WF x.f2
  args : x.f3.length * 16 ≤ 140737488351232
  exit : x.f7.length * 40 ≤ 140737488351232
  slots : ∀ s ∈ x.f7, s.f2.length * 16 ≤ 140737488351232
  wfa : ∀ o ∈ x.f3, WF o.f1
  wfs : ∀ s ∈ x.f7, ∀ o ∈ s.f2, WF o.f1
structure OkL (l : List S43) : Prop where
  len : l.length * 56 ≤ 140737488351232
  ins : ∀ b ∈ l, b.f1.length * 96 ≤ 140737488351232
  next : ∀ b ∈ l, b.f2.length * 8 ≤ 140737488351232
  each : ∀ b ∈ l, ∀ x ∈ b.f1, OkX x
theorem eql49 (w : World) (x0 y0 x1 y1 : Int) : (binOp .eql 49 (.agg #[.int .i64 x0, .int .i64 x1]) (.agg #[.int .i64 y0, .int .i64 y1])).run Try.prog w = .ok (.bool (x0 == y0 && (x1 == y1))) w := by
  simp [binOp, Op.equal, Op.maxDepth, eqA49 9998 w x0 y0 x1 y1]
/-! what other writes leave -/
theorem R_but {α : Type} {d : Kd α} {e base : Nat} {ok : Nat → Prop} {w w1 : World} {v : Value} {xs : List α} {S : Nat → Prop} (h : d.R e w base ok v xs) (hb : But S w w1) (hS : ∀ k, ok k → ¬ S k) : d.R e w1 base ok v xs := Kd.R_step h (fun k hk hlt => hb.block k hlt (hS k hk))
theorem blk_but {w w1 : World} {g : Nat} {o : Obj} {S : Nat → Prop} (h : w.heap[g]? = some o) (hb : But S w w1) (hS : ¬ S g) : w1.heap[g]? = some o := (hb.block g (blk_lt h) hS).trans h
theorem Book.blk {w : World} {B n : Nat} {M : Map49} (h : Book w B n M) : ∃ es clock, w.heap[B]? = some (.map es clock) := let ⟨D, ⟨es, clock, hb, _⟩, _⟩ := h; ⟨es, clock, hb⟩
/-- rows are no maps -/
theorem R_nomap {α : Type} {d : Kd α} {e base : Nat} {ok : Nat → Prop} {w : World} {v : Value} {xs : List α} (h : d.R e w base ok v xs) {B : Nat} {es : Array MapEntry} {clock : Nat} (hB : w.heap[B]? = some (.map es clock)) : d.R e w base (fun k => ok k ∧ k < w.heap.size ∧ k ≠ B) v xs :=
  Kd.R_mono (Kd.R_bound h) (fun k hk => ⟨hk.1, hk.2.2.1, fun he => by
    obtain ⟨_, _, _, q, hq, cells, hc⟩ := hk
    subst he
    rw [hB] at hc
    cases hc⟩)
/-- .. nor of another type -/
theorem M_apart {α β : Type} {d : Kd α} {d' : Kd β} {e base base' : Nat} {ok ok' : Nat → Prop} {w : World} {v : Value} {ys : List β} {x : α} {cs : List Value} (h : d.M w base ok x cs) (hv : d'.R e w base' ok' v ys) (ht : ∀ q, q ∈ d.E → q ≠ e) : d.M w base (fun k => ok k ∧ some k ≠ v.ownBlock) x cs := by
  obtain ⟨_, inner, ho, _⟩ := hv
  cases hob : v.ownBlock with
  | none => exact d.M_mono (fun k hk => ⟨hk, by simp⟩) h
  | some g =>
    obtain ⟨cells, hc⟩ := own_typed ho g hob
    exact d.M_mono (fun k hk => ⟨hk.1, fun he => hk.2 (by injection he)⟩) (Kd.M_types h hc ht)
theorem R_apart {α β : Type} {d : Kd α} {d' : Kd β} {t e base base' : Nat} {ok ok' : Nat → Prop} {w : World} {u v : Value} {xs : List α} {ys : List β} (h : d.R t w base ok u xs) (hv : d'.R e w base' ok' v ys) (ht : ∀ q, q ∈ t :: d.E → q ≠ e) : d.R t w base (fun k => ok k ∧ some k ≠ v.ownBlock) u xs := by
  obtain ⟨_, inner, ho, _⟩ := hv
  cases hob : v.ownBlock with
  | none => exact Kd.R_mono h (fun k hk => ⟨hk, by simp⟩)
  | some g =>
    obtain ⟨cells, hc⟩ := own_typed ho g hob
    exact Kd.R_mono (Kd.R_types h hc ht) (fun k hk => ⟨hk.1, fun he => hk.2 (by injection he)⟩)
theorem own_ne {β : Type} {d' : Kd β} {e base' t : Nat} {ok' : Nat → Prop} {w : World} {v : Value} {ys : List β} (hv : d'.R e w base' ok' v ys) {g : Nat} {cs : Array Value} (hg : w.heap[g]? = some (.cells cs t (0, 0))) (ht : t ≠ e) : some g ≠ v.ownBlock := fun he => by
  obtain ⟨_, inner, ho, _⟩ := hv
  obtain ⟨cells, hc⟩ := own_typed ho g he.symm
  exact blk_ne hg hc ht rfl
theorem own_no_map {β : Type} {d' : Kd β} {e base' : Nat} {ok' : Nat → Prop} {w : World} {v : Value} {ys : List β} (hv : d'.R e w base' ok' v ys) {B : Nat} {es : Array MapEntry} {clock : Nat} (hB : w.heap[B]? = some (.map es clock)) : some B ≠ v.ownBlock := fun he => by
  obtain ⟨_, inner, ho, _⟩ := hv
  obtain ⟨cells, hc⟩ := own_typed ho B he.symm
  rw [hB] at hc
  cases hc
/-- the outer loop: the blocks that are done, the two boxes -/
structure Outer (a b : Int) (done : List S43) (w0 : World) (B g1 g2 N : Nat) (VO : Value) (w : World) : Prop where
  row : k43.R 43 w w0.heap.size (fun q => q < N ∧ q ≠ B) VO done
  res : w.heap[g1]? = some (.cells #[.int .i64 0, .int .i64 0, .slice none 0 0] 24 (0, 0))
  out : w.heap[g2]? = some (.cells #[.int .i64 a, .int .i64 b, VO] 24 (0, 0))
  bel : Below w0.heap.size w0 w
  n1 : g1 < N ∧ g1 ≠ B ∧ w0.heap.size ≤ g1
  n2 : g2 < N ∧ g2 ≠ B ∧ w0.heap.size ≤ g2
  nB : w0.heap.size ≤ B
  nN : w0.heap.size ≤ N
  ne : g1 ≠ g2
theorem Outer.but {a b : Int} {done : List S43} {w0 : World} {B g1 g2 N : Nat} {VO : Value} {w w1 : World} (h : Outer a b done w0 B g1 g2 N VO w) (hb : But (fun k => N ≤ k ∨ k = B) w w1) : Outer a b done w0 B g1 g2 N VO w1 :=
  ⟨R_but h.row hb (fun k hk hs => hs.elim (fun hle => absurd hk.1 (by omega)) hk.2), blk_but h.res hb (fun hs => hs.elim (fun hle => absurd h.n1.1 (by omega)) h.n1.2.1), blk_but h.out hb (fun hs => hs.elim (fun hle => absurd h.n2.1 (by omega)) h.n2.2.1),
    ⟨hb.os.trans h.bel.os, hb.tape.trans h.bel.tape, hb.output.trans h.bel.output, Nat.le_trans h.bel.size hb.size, fun k hk => (hb.block k (Nat.lt_of_lt_of_le hk h.bel.size) (fun hs => hs.elim (fun hle => by have := h.nN; omega) (fun he => by have := h.nB; omega))).trans (h.bel.block k hk)⟩, h.n1, h.n2, h.nB, h.nN, h.ne⟩
theorem Outer.below {a b : Int} {done : List S43} {w0 : World} {B g1 g2 N : Nat} {VO : Value} {w w1 : World} (h : Outer a b done w0 B g1 g2 N VO w) (hb : Below w.heap.size w w1) : Outer a b done w0 B g1 g2 N VO w1 := h.but ((But.of_below hb).mono (fun _ hf => hf.elim))
/-- a new round: whatever there is is older than what it makes -/
theorem Outer.round {a b : Int} {done : List S43} {w0 : World} {B g1 g2 N : Nat} {VO : Value} {w : World} (h : Outer a b done w0 B g1 g2 N VO w) {es : Array MapEntry} {clock : Nat} (hB : w.heap[B]? = some (.map es clock)) : Outer a b done w0 B g1 g2 w.heap.size VO w :=
  ⟨Kd.R_mono (R_nomap h.row hB) (fun k hk => ⟨hk.2.1, hk.2.2⟩), h.res, h.out, h.bel, ⟨blk_lt h.res, h.n1.2⟩, ⟨blk_lt h.out, h.n2.2⟩, h.nB, h.bel.size, h.ne⟩
/-- the inner loop: the instructions that are done, the block that is made -/
structure Inner (pc : Int) (next : List Int) (M : Map49) (out : List S47) (j B N g7 : Nat) (VI VN : Value) (w : World) : Prop where
  book : Book w B j M
  row : k47.R 47 w N (fun _ => True) VI out
  nxt : (Kd.int .i64).R 3 w N (fun _ => True) VN next
  box : w.heap[g7]? = some (.cells #[.int .i64 pc, VI, VN] 43 (0, 0))
  n7 : N ≤ g7
theorem Inner.below {pc : Int} {next : List Int} {M : Map49} {out : List S47} {j B N g7 : Nat} {VI VN : Value} {w w1 : World} (h : Inner pc next M out j B N g7 VI VN w) (hb : Below w.heap.size w w1) : Inner pc next M out j B N g7 VI VN w1 :=
  ⟨h.book.below hb, Kd.R_below h.row hb, Kd.R_below h.nxt hb, blk_below h.box hb, h.n7⟩
theorem Book.mono {w : World} {B n n' : Nat} {M : Map49} (h : Book w B n M) (hn : n ≤ n') : Book w B n' M := let ⟨D, h1, h2⟩ := h; ⟨D, h1.mono hn, h2⟩
theorem Inner.mono {pc : Int} {next : List Int} {M : Map49} {out : List S47} {j j' B N g7 : Nat} {VI VN : Value} {w : World} (h : Inner pc next M out j B N g7 VI VN w) (hj : j ≤ j') : Inner pc next M out j' B N g7 VI VN w := ⟨h.book.mono hj, h.row, h.nxt, h.box, h.n7⟩
/-- the map is written -/
theorem Inner.turned {pc : Int} {next : List Int} {M M' : Map49} {out : List S47} {j j' B N g7 : Nat} {VI VN : Value} {w w1 : World} (h : Inner pc next M out j B N g7 VI VN w) (hb : Book w1 B j' M') (hg : w.grownBy w1 (some B)) : Inner pc next M' out j' B N g7 VI VN w1 := by
  obtain ⟨es, clock, hB⟩ := h.book.blk
  exact ⟨hb, Kd.R_mono (Kd.R_grown (R_nomap h.row hB) hg (fun k hk he => hk.2.2 (by injection he))) (fun _ _ => trivial), Kd.R_mono (Kd.R_grown (R_nomap h.nxt hB) hg (fun k hk he => hk.2.2 (by injection he))) (fun _ _ => trivial),
    blk_grown h.box hg (fun he => by injection he with he; have h1 := h.box; rw [he, hB] at h1; cases h1), h.n7⟩
end Go.Proofs.Ytjekpkpmoanadaa.PCop
