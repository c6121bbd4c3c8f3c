/- A range over a function of whole numbers whose variable is a slot: the round's frame is told outright. Outside of a round and within one. -/
import Derived.RangeFuncNested
import Derived.RangeFuncBox
import Derived.RangeFuncLeaves
import Derived.BigFrameIn
import Derived.Test.YtplppefpohjkbaaRegInvIn
namespace Go.Proofs.Ytplppefpohjkbaa.Range
open Go.RowKit
set_option linter.unusedVariables false
/-- the variable's slot is filled -/
theorem assign_in {F : Fence} {n : Nat} {P : Program} {id p q : Nat} {t : TypeId} {pos : String} {ts : Array Value} {v : Value} {W : World} {K : Act → World → Prop} (hp : p < ts.size) (h : K { tmps := (ts.setIfInBounds p v).setIfInBounds q v, defers := [] } W) :
    (Code.region id #[{ dst := some q, op := .assign (.tmp p), type := t, pos := pos, after := #[], guard := none }] false).wpIn F n P (Exit.then K (fun _ _ _ => False)) { tmps := (#[p].zip #[v]).foldl (fun t (p, v) => t.setIfInBounds p v) ts, defers := [] } W := by
  refine wpIn_region_list (wpListIn_plain rfl fun K' hK' => BigFrame.wpIn_assign (.tmp p) rfl (hK' _ _ (wpListIn_nil ?_)))
  have e : (Act.mk ((#[p].zip #[v]).foldl (fun t (p, v) => t.setIfInBounds p v) ts) []).eval (.tmp p) = v := by
    show ((#[p].zip #[v]).foldl (fun t (p, v) => t.setIfInBounds p v) ts).getD p undef = v
    simp [Array.getD_eq_getD_getElem?, hp]
  rw [e]
  show K _ W
  have e2 : (Act.mk ((#[p].zip #[v]).foldl (fun t (p, v) => t.setIfInBounds p v) ts) []).put (some q) v = { tmps := (ts.setIfInBounds p v).setIfInBounds q v, defers := [] } := by
    simp [Act.put]
  exact e2 ▸ h
/-- a range that is no part of a round -/
theorem rangeH {F : Fence} {n : Nat} {P : Program} {g : Operand} {p q id : Nat} {t : TypeId} {pos : String} {body : Code} {Q : Exit → Act → World → Prop} {a : Act} {w : World} (n₀ : Nat)
    (hro : F.round = none) (h1 : 1 ≤ n) {gf : Nat} {lb : Array Value} (hg : a.eval g = .func (.func gf) #[] lb) (hFg : F.fn gf) (eg : ∀ args w, (callFunc gf args).run P w = .ok (.enter gf args) w) (hp : p < a.tmps.size)
    {S Sp : List Int → Prop} {N : Nat} {w0 : World} (hseq : SeqStopsK F (n - 1) P gf lb (fun x : Int => #[Value.int .i64 x]) (Below n₀) S Sp N w0)
    (hn₀ : n₀ ≤ w.heap.size) (hb0 : Below w0.heap.size w0 w)
    (I : List Int → World → Prop) (Ix : Code → List Int → World → Prop) (hI : OwnFrom w.heap.size I) (hIx : ∀ c, OwnFrom w.heap.size (Ix c)) (h0 : I [] w)
    (hbody : ∀ (l : Nat) (pre : List Int) (x : Int) (W : World), w.heap.size ≤ l → (∃ r, W.heap[l]? = some (.loop r)) → I pre W → pre.length < N →
      body.wpIn (F.inRound l) (n - 1 - 1) P (ownPostG w.heap.size (Below n₀) I Ix (pre ++ [x]) W) { tmps := (a.tmps.setIfInBounds p (.int .i64 x)).setIfInBounds q (.int .i64 x), defers := [] } W)
    (hdone : ∀ (D : Nat) (xs : List Int) (W : World), w.heap.size ≤ D → S xs → I xs W → W.heap[D]? = some (.deferred (some [])) → Q .normal { a with defers := { target := .collected D, args := #[] } :: a.defers } W)
    (hstop : ∀ (D : Nat) (c : Code) (pre : List Int) (W : World), w.heap.size ≤ D → Sp pre → Ix c pre W → W.heap[D]? = some (.deferred (some [])) → c.wpIn F n P Q { a with defers := { target := .collected D, args := #[] } :: a.defers } W) :
    (Code.rangeFunc g #[p] (Code.region id #[{ dst := some q, op := .assign (.tmp p), type := t, pos := pos, after := #[], guard := none }] false) body).wpIn F n P Q a w :=
  wpIn_rangeFunc_ownH hro h1 hg hFg eg hseq belowK_t (belowK_b hn₀) hb0 (fun _ => rfl) I Ix hI hIx h0
    (fun x a' _ => a' = { tmps := (a.tmps.setIfInBounds p (.int .i64 x)).setIfInBounds q (.int .i64 x), defers := [] }) (fun _ _ _ _ _ _ hs _ _ => hs)
    (fun l pre x W K hi hK => assign_in hp (hK _ W (KeepsFrom.refl _ _) (Below.refl _ _) hi rfl))
    (fun l pre x a' W hl hr hi e hN => by subst e; exact hbody l pre x W hl hr hi hN) hdone hstop
/-- a range that is no part of a round; what its body keeps is the caller's choice -/
theorem rangeHK {F : Fence} {n : Nat} {P : Program} {g : Operand} {p q id : Nat} {t : TypeId} {pos : String} {body : Code} {Q : Exit → Act → World → Prop} {a : Act} {w : World} (Kp : World → World → Prop) (hKt : ∀ {A B C : World}, Kp A B → Kp B C → Kp A C) (hKr : ∀ W, Kp W W)
    (hro : F.round = none) (h1 : 1 ≤ n) {gf : Nat} {lb : Array Value} (hg : a.eval g = .func (.func gf) #[] lb) (hFg : F.fn gf) (eg : ∀ args w, (callFunc gf args).run P w = .ok (.enter gf args) w) (hp : p < a.tmps.size)
    {S Sp : List Int → Prop} {N : Nat} {w0 : World} (hseq : SeqStopsK F (n - 1) P gf lb (fun x : Int => #[Value.int .i64 x]) Kp S Sp N w0)
    (hKb : ∀ (W : World) (l : Nat) (o o' : Obj), w.heap.size ≤ l → W.heap[l]? = some o → o.isCells = false → o.isWalk = false → Kp W (W.putObj l o')) (hb0 : Below w0.heap.size w0 w)
    (I : List Int → World → Prop) (Ix : Code → List Int → World → Prop) (hI : OwnFrom w.heap.size I) (hIx : ∀ c, OwnFrom w.heap.size (Ix c)) (h0 : I [] w)
    (hbody : ∀ (l : Nat) (pre : List Int) (x : Int) (W : World), w.heap.size ≤ l → (∃ r, W.heap[l]? = some (.loop r)) → I pre W → pre.length < N →
      body.wpIn (F.inRound l) (n - 1 - 1) P (ownPostG w.heap.size Kp I Ix (pre ++ [x]) W) { tmps := (a.tmps.setIfInBounds p (.int .i64 x)).setIfInBounds q (.int .i64 x), defers := [] } W)
    (hdone : ∀ (D : Nat) (xs : List Int) (W : World), w.heap.size ≤ D → S xs → I xs W → W.heap[D]? = some (.deferred (some [])) → Q .normal { a with defers := { target := .collected D, args := #[] } :: a.defers } W)
    (hstop : ∀ (D : Nat) (c : Code) (pre : List Int) (W : World), w.heap.size ≤ D → Sp pre → Ix c pre W → W.heap[D]? = some (.deferred (some [])) → c.wpIn F n P Q { a with defers := { target := .collected D, args := #[] } :: a.defers } W) :
    (Code.rangeFunc g #[p] (Code.region id #[{ dst := some q, op := .assign (.tmp p), type := t, pos := pos, after := #[], guard := none }] false) body).wpIn F n P Q a w :=
  wpIn_rangeFunc_ownH hro h1 hg hFg eg hseq hKt hKb hb0 (fun _ => rfl) I Ix hI hIx h0
    (fun x a' _ => a' = { tmps := (a.tmps.setIfInBounds p (.int .i64 x)).setIfInBounds q (.int .i64 x), defers := [] }) (fun _ _ _ _ _ _ hs _ _ => hs)
    (fun l pre x W K hi hK => assign_in hp (hK _ W (KeepsFrom.refl _ _) (hKr _) hi rfl))
    (fun l pre x a' W hl hr hi e hN => by subst e; exact hbody l pre x W hl hr hi hN) hdone hstop
/-- a range that is no part of a round, within its block: all came, or a round left by 'break' -/
theorem rangeHB {F : Fence} {n : Nat} {P : Program} {g : Operand} {p q id bid : Nat} {t : TypeId} {pos : String} {body : Code} {Q : Exit → Act → World → Prop} {a : Act} {w : World} (n₀ : Nat)
    (hro : F.round = none) (h1 : 1 ≤ n) {gf : Nat} {lb : Array Value} (hg : a.eval g = .func (.func gf) #[] lb) (hFg : F.fn gf) (eg : ∀ args w, (callFunc gf args).run P w = .ok (.enter gf args) w) (hp : p < a.tmps.size)
    {S Sp : List Int → Prop} {N : Nat} {w0 : World} (hseq : SeqStopsK F (n - 1) P gf lb (fun x : Int => #[Value.int .i64 x]) (Below n₀) S Sp N w0)
    (hn₀ : n₀ ≤ w.heap.size) (hb0 : Below w0.heap.size w0 w)
    (I Ib : List Int → World → Prop) (hI : OwnFrom w.heap.size I) (hIb : OwnFrom w.heap.size Ib) (h0 : I [] w)
    (hbody : ∀ (l : Nat) (pre : List Int) (x : Int) (W : World), w.heap.size ≤ l → (∃ r, W.heap[l]? = some (.loop r)) → I pre W → pre.length < N →
      body.wpIn (F.inRound l) (n - 1 - 1) P (ownPostG w.heap.size (Below n₀) I (fun c xs W => c = .exit bid ∧ Ib xs W) (pre ++ [x]) W) { tmps := (a.tmps.setIfInBounds p (.int .i64 x)).setIfInBounds q (.int .i64 x), defers := [] } W)
    (hend : ∀ (D : Nat) (xs : List Int) (W : World), w.heap.size ≤ D → (S xs ∧ I xs W ∨ Sp xs ∧ Ib xs W) → W.heap[D]? = some (.deferred (some [])) → Q .normal { a with defers := { target := .collected D, args := #[] } :: a.defers } W) :
    (Code.rangeFunc g #[p] (Code.region id #[{ dst := some q, op := .assign (.tmp p), type := t, pos := pos, after := #[], guard := none }] false) body).wpIn F n P (Exit.inBlock bid Q) a w :=
  rangeH n₀ hro h1 hg hFg eg hp hseq hn₀ hb0 I (fun c xs W => c = .exit bid ∧ Ib xs W) hI (fun c s W W' row hs hg hr => ⟨hs.1, hIb s W W' row hs.2 hg hr⟩) h0 hbody
    (fun D xs W hD hs hi hK => hend D xs W hD (.inl ⟨hs, hi⟩) hK)
    (fun D c pre W hD hs hi hK => by
      obtain ⟨rfl, hi⟩ := hi
      refine wpIn_exit ?_
      show (if bid = bid then Q .normal _ W else _)
      rw [if_pos rfl]
      exact hend D pre W hD (.inr ⟨hs, hi⟩) hK)
/-- a range within a round -/
theorem rangeN {F : Fence} {n : Nat} {P : Program} {g : Operand} {p q id : Nat} {t : TypeId} {pos : String} {body : Code} {Q : Exit → Act → World → Prop} {a : Act} {w : World} (n₀ : Nat)
    {l₀ : Nat} {r₀ : Loop} (hro : F.round = some l₀) (hl₀ : w.heap[l₀]? = some (.loop r₀)) (h1 : 1 ≤ n) {gf : Nat} {lb : Array Value} (hg : a.eval g = .func (.func gf) #[] lb) (hFg : F.fn gf) (eg : ∀ args w, (callFunc gf args).run P w = .ok (.enter gf args) w) (hp : p < a.tmps.size)
    {S Sp : List Int → Prop} {N : Nat} {w0 : World} (hseq : SeqStopsK F (n - 1) P gf lb (fun x : Int => #[Value.int .i64 x]) (Below n₀) S Sp N w0)
    (hn₀ : n₀ ≤ w.heap.size) (hb0 : Below w0.heap.size w0 w)
    (I : List Int → World → Prop) (Ix : Code → List Int → World → Prop) (hI : OwnFrom w.heap.size I) (hIx : ∀ c, OwnFrom w.heap.size (Ix c)) (h0 : I [] w)
    (hbody : ∀ (l : Nat) (pre : List Int) (x : Int) (W : World), w.heap.size ≤ l → (∃ r, W.heap[l]? = some (.loop r)) → I pre W → pre.length < N →
      body.wpIn (F.inRound l) (n - 1 - 1) P (ownPostG w.heap.size (Below n₀) I Ix (pre ++ [x]) W) { tmps := (a.tmps.setIfInBounds p (.int .i64 x)).setIfInBounds q (.int .i64 x), defers := [] } W)
    (hdone : ∀ (xs : List Int) (W : World), S xs → I xs W → Q .normal a W)
    (hstop : ∀ (c : Code) (pre : List Int) (W : World), Sp pre → Ix c pre W → c.wpIn F n P Q a W) :
    (Code.rangeFunc g #[p] (Code.region id #[{ dst := some q, op := .assign (.tmp p), type := t, pos := pos, after := #[], guard := none }] false) body).wpIn F n P Q a w :=
  wpIn_rangeFunc_ownN hro hl₀ h1 hg hFg eg hseq belowK_t (belowK_b hn₀) hb0 (fun _ => rfl) I Ix hI hIx h0
    (fun x a' _ => a' = { tmps := (a.tmps.setIfInBounds p (.int .i64 x)).setIfInBounds q (.int .i64 x), defers := [] }) (fun _ _ _ _ _ _ hs _ _ => hs)
    (fun l pre x W K hi hK => assign_in hp (hK _ W (KeepsFrom.refl _ _) (Below.refl _ _) hi rfl))
    (fun l pre x a' W hl hr hi e hN => by subst e; exact hbody l pre x W hl hr hi hN) hdone hstop
/-! ### two variables -/
theorem assign2_in {F : Fence} {n : Nat} {P : Program} {id id' p q p' q' : Nat} {t t' : TypeId} {pos pos' : String} {ts : Array Value} {v v' : Value} {W : World} {K : Act → World → Prop} (hp : p < ts.size) (hp' : p' < ts.size) (h1 : p ≠ p') (h2 : q ≠ p') (h : K { tmps := (((ts.setIfInBounds p v).setIfInBounds p' v').setIfInBounds q v).setIfInBounds q' v', defers := [] } W) :
    ((Code.region id #[{ dst := some q, op := .assign (.tmp p), type := t, pos := pos, after := #[], guard := none }] false).seq (Code.region id' #[{ dst := some q', op := .assign (.tmp p'), type := t', pos := pos', after := #[], guard := none }] false)).wpIn F n P (Exit.then K (fun _ _ _ => False)) { tmps := (#[p, p'].zip #[v, v']).foldl (fun t (p, v) => t.setIfInBounds p v) ts, defers := [] } W := by
  refine wpIn_seq (wpIn_region_list (wpListIn_plain rfl fun K' hK' => BigFrame.wpIn_assign (.tmp p) rfl (hK' _ _ (wpListIn_nil ?_))))
  show Code.wpIn F n P _ _ _ W
  refine wpIn_region_list (wpListIn_plain rfl fun K' hK' => BigFrame.wpIn_assign (.tmp p') rfl (hK' _ _ (wpListIn_nil ?_)))
  have e : (Act.mk ((#[p, p'].zip #[v, v']).foldl (fun t (p, v) => t.setIfInBounds p v) ts) []).eval (.tmp p) = v := by
    show ((#[p, p'].zip #[v, v']).foldl (fun t (p, v) => t.setIfInBounds p v) ts).getD p undef = v
    simp [Array.getD_eq_getD_getElem?, hp, Ne.symm h1]
  rw [e]
  have e2 : (Act.mk ((#[p, p'].zip #[v, v']).foldl (fun t (p, v) => t.setIfInBounds p v) ts) []).put (some q) v = { tmps := ((ts.setIfInBounds p v).setIfInBounds p' v').setIfInBounds q v, defers := [] } := by
    simp [Act.put]
  rw [e2]
  have e3 : (Act.mk (((ts.setIfInBounds p v).setIfInBounds p' v').setIfInBounds q v) []).eval (.tmp p') = v' := by
    show (((ts.setIfInBounds p v).setIfInBounds p' v').setIfInBounds q v).getD p' undef = v'
    simp [Array.getD_eq_getD_getElem?, hp', h2]
  rw [e3]
  show K _ W
  exact h
/-- a range over pairs of whole numbers that is no part of a round, within its block -/
theorem range2HB {F : Fence} {n : Nat} {P : Program} {g : Operand} {p q p' q' id id' : Nat} {t t' : TypeId} {pos pos' : String} {body : Code} {Q : Exit → Act → World → Prop} {a : Act} {w : World} (n₀ : Nat)
    (hro : F.round = none) (h1 : 1 ≤ n) {gf : Nat} {lb : Array Value} (hg : a.eval g = .func (.func gf) #[] lb) (hFg : F.fn gf) (eg : ∀ args w, (callFunc gf args).run P w = .ok (.enter gf args) w) (hp : p < a.tmps.size) (hp' : p' < a.tmps.size) (hpp : p ≠ p') (hqp : q ≠ p')
    {S Sp : List (Int × Int) → Prop} {N : Nat} {w0 : World} (hseq : SeqStopsK F (n - 1) P gf lb (fun x : Int × Int => #[Value.int .i64 x.1, Value.int .i64 x.2]) (Below n₀) S Sp N w0)
    (hn₀ : n₀ ≤ w.heap.size) (hb0 : Below w0.heap.size w0 w)
    (I : List (Int × Int) → World → Prop) (Ix : Code → List (Int × Int) → World → Prop) (hI : OwnFrom w.heap.size I) (hIx : ∀ c, OwnFrom w.heap.size (Ix c)) (h0 : I [] w)
    (hbody : ∀ (l : Nat) (pre : List (Int × Int)) (x : Int × Int) (W : World), w.heap.size ≤ l → (∃ r, W.heap[l]? = some (.loop r)) → I pre W → pre.length < N →
      body.wpIn (F.inRound l) (n - 1 - 1) P (ownPostG w.heap.size (Below n₀) I Ix (pre ++ [x]) W) { tmps := (((a.tmps.setIfInBounds p (.int .i64 x.1)).setIfInBounds p' (.int .i64 x.2)).setIfInBounds q (.int .i64 x.1)).setIfInBounds q' (.int .i64 x.2), defers := [] } W)
    (hdone : ∀ (D : Nat) (xs : List (Int × Int)) (W : World), w.heap.size ≤ D → S xs → I xs W → W.heap[D]? = some (.deferred (some [])) → Q .normal { a with defers := { target := .collected D, args := #[] } :: a.defers } W)
    (hstop : ∀ (D : Nat) (c : Code) (pre : List (Int × Int)) (W : World), w.heap.size ≤ D → Sp pre → Ix c pre W → W.heap[D]? = some (.deferred (some [])) → c.wpIn F n P Q { a with defers := { target := .collected D, args := #[] } :: a.defers } W) :
    (Code.rangeFunc g #[p, p'] ((Code.region id #[{ dst := some q, op := .assign (.tmp p), type := t, pos := pos, after := #[], guard := none }] false).seq (Code.region id' #[{ dst := some q', op := .assign (.tmp p'), type := t', pos := pos', after := #[], guard := none }] false)) body).wpIn F n P Q a w :=
  wpIn_rangeFunc_ownH hro h1 hg hFg eg hseq belowK_t (belowK_b hn₀) hb0 (fun _ => rfl) I Ix hI hIx h0
    (fun x a' _ => a' = { tmps := (((a.tmps.setIfInBounds p (.int .i64 x.1)).setIfInBounds p' (.int .i64 x.2)).setIfInBounds q (.int .i64 x.1)).setIfInBounds q' (.int .i64 x.2), defers := [] }) (fun _ _ _ _ _ _ hs _ _ => hs)
    (fun l pre x W K hi hK => assign2_in hp hp' hpp hqp (hK _ W (KeepsFrom.refl _ _) (Below.refl _ _) hi rfl))
    (fun l pre x a' W hl hr hi e hN => by subst e; exact hbody l pre x W hl hr hi hN) hdone hstop
/-! ### what lies below n is kept, but for one block -/
def KBut (n g : Nat) (W W' : World) : Prop := W.heap.size ≤ W'.heap.size ∧ ∀ k, k < n → k ≠ g → W'.heap[k]? = W.heap[k]?
theorem KBut.refl (n g : Nat) (W : World) : KBut n g W W := ⟨Nat.le_refl _, fun _ _ _ => rfl⟩
theorem KBut.trans {n g : Nat} {A B C : World} (h : KBut n g A B) (k : KBut n g B C) : KBut n g A C := ⟨Nat.le_trans h.1 k.1, fun i hi hg => (k.2 i hi hg).trans (h.2 i hi hg)⟩
theorem KBut.of_below {n g : Nat} {A B : World} (h : Below n A B) : KBut n g A B := ⟨h.size, fun i hi _ => h.block i hi⟩
theorem KBut.set {n g : Nat} {A B : World} (h : KBut n g A B) (j : Nat) (u : Value) : KBut n g A (B.setCell ⟨g, j, none⟩ u) := ⟨by simpa using h.1, fun i hi hg => (Below.heap_setCell B ⟨g, j, none⟩ u i (by simpa using hg)).trans (h.2 i hi hg)⟩
theorem KBut.put {n g : Nat} {w : World} (hn : n ≤ w.heap.size) (W : World) (l : Nat) (o o' : Obj) (hl : w.heap.size ≤ l) (h : W.heap[l]? = some o) (hc : o.isCells = false) (hw : o.isWalk = false) : KBut n g W (W.putObj l o') := KBut.of_below (belowK_b hn W l o o' hl h hc hw)
theorem KBut.blk {n g k : Nat} {W W' : World} {o : Obj} (h : KBut n g W W') (hb : W.heap[k]? = some o) (hk : k < n) (hg : k ≠ g) : W'.heap[k]? = some o := (h.2 k hk hg).trans hb
theorem KBut.own {β : Type} {n g B : Nat} {w₀ : World} (hn : n ≤ w₀.heap.size) (hB : n ≤ B) : OwnFrom B (fun (_ : β) W => KBut n g w₀ W) := fun _ X Y row hs hg hr => ⟨Nat.le_trans hs.1 hg.size, fun k hk hne =>
  (hg.block k (by have := hs.1; omega) (fun e => by have := (hr k e.symm).1; omega)).trans (hs.2 k hk hne)⟩
end Go.Proofs.Ytplppefpohjkbaa.Range
