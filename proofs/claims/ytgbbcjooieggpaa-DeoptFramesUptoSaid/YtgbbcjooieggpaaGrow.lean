/- Lists that lie apart, of whatever element type: cells are stored, each list is grown, the old ones stay what they were. -/
import Derived.Test.YtgbbcjooieggpaaOwnCells
namespace Go.Proofs.Ytgbbcjooieggpaa.Grow
open Go.RowKit Go.Proofs.Ytgbbcjooieggpaa.OwnCells Go.Proofs.YtgbbcjooieggpaaW.PrintWords
set_option linter.unusedVariables false
def OwnOf (V : Nat → Value) (n : Nat) (b : Nat) : Prop := ∃ j, j < n ∧ (V j).ownBlock = some b
structure Hyp (V : Nat → Value) (n base : Nat) (Out : World → Prop) (w0 : World) : Prop where
  apart : ∀ i j b, i < n → j < n → i ≠ j → (V i).ownBlock = some b → (V j).ownBlock ≠ some b
  out : ∀ w w1 (T : Nat → Prop), But T w w1 → (∀ b, T b → OwnOf V n b ∨ w0.heap.size ≤ b) → Out w → Out w1
  base : base ≤ w0.heap.size
/-- what stands in the rows -/
structure St1 (e sz : Nat) (V : Nat → Value) (L : Nat → Nat) (n base : Nat) (Out : World → Prop) (w0 w : World) (X : Nat → List Value) : Prop where
  own : ∀ j, j < n → w.ownsRow base e sz (V j) (L j) (X j)
  outer : Out w
  but : But (OwnOf V n) w0 w
section
variable {e sz n base R : Nat} {V : Nat → Value} {L : Nat → Nat} {Out : World → Prop} {w0 w w1 : World} {X : Nat → List Value}
theorem St1.set (H : Hyp V n base Out w0) (h : St1 e sz V L n base Out w0 w X) {k g cap : Nat} (hk : k < n) (hV : V k = .slice (some ⟨g, 0, none⟩) (L k) cap) (q : Nat) (u : Value) :
    St1 e sz V L n base Out w0 (w.setCell ⟨g, q, none⟩ u) (fun j => if j = k then (X k).set q u else X j) := by
  have b1 := But.of_grown (setCell_grown w g q u)
  have hVk : (V k).ownBlock = some g := by rw [hV]; rfl
  refine ⟨fun j hj => ?_, H.out w _ _ b1 (fun b hb => .inl ⟨k, hk, hVk.trans hb⟩) h.outer, h.but.trans b1 (fun b hb => .inl ⟨k, hk, hVk.trans hb⟩)⟩
  by_cases e' : j = k
  · subst e'
    rw [if_pos rfl]
    have := h.own j hj
    rw [hV] at this ⊢
    exact own_set this q u
  · rw [if_neg e']
    refine b1.own (h.own j hj) (fun b hb he => ?_)
    have : some g = some b := he
    exact H.apart j k b hj hk e' hb (hVk.trans this)
/-- something else is written, or made -/
theorem St1.but_ (H : Hyp V n base Out w0) (h : St1 e sz V L n base Out w0 w X) {T : Nat → Prop} (b : But T w w1) (hV : ∀ j, j < n → ∀ b, (V j).ownBlock = some b → ¬ T b) (hT : ∀ b, T b → w0.heap.size ≤ b) : St1 e sz V L n base Out w0 w1 X :=
  ⟨fun j hj => b.own (h.own j hj) (hV j hj), H.out w _ _ b (fun q hq => .inr (hT q hq)) h.outer, h.but.trans b (fun q hq => .inr (hT q hq))⟩
end
theorem own_shorter {w : World} {base e sz n m cap : Nat} {b : Addr} {xs ys : List Value} (h : w.ownsRow base e sz (.slice (some b) n cap) n xs) (hm : m ≤ n) (hy : ys = xs.take (m * sz)) : w.ownsRow base e sz (.slice (some b) m cap) m ys := by
  subst hy
  refine ⟨by rw [List.length_take, h.1]; exact Nat.min_eq_left (Nat.mul_le_mul_right _ hm), ?_⟩
  rcases h.2 with ⟨h0, _⟩ | ⟨g, c, cur, he, hb, hg, h1, h2, h3, h4⟩
  · cases h0
  · cases he
    refine .inr ⟨g, cap, cur, rfl, hb, hg, by omega, h2, h3, ?_⟩
    rw [← h4, List.take_take, Nat.min_eq_left (Nat.mul_le_mul_right _ hm)]
structure St2 (e sz R : Nat) (cont : Nat → Nat → List Value) (V : Nat → Value) (L : Nat → Nat) (n base : Nat) (Out : World → Prop) (w0 w : World) (Gv : List Value) : Prop where
  own : ∀ j, j < n → w.ownsRow base e sz (V j) (L j) (cont j (L j))
  grown : ∀ j v, Gv[j]? = some v → j < n ∧ w.ownsRow base e sz v (L j + R) (cont j (L j + R)) ∧ ∀ i, i < n → i ≠ j → ∀ b, v.ownBlock = some b → (V i).ownBlock ≠ some b
  outer : Out w
  but : But (OwnOf V n) w0 w
/-- the list that grows -/
structure Cur (e sz : Nat) (cont : Nat → Nat → List Value) (V : Nat → Value) (L : Nat → Nat) (n base : Nat) (w0 w : World) (Gv : List Value) (k i : Nat) (u : Value) : Prop where
  own : w.ownsRow base e sz u (L k + i) (cont k (L k + i))
  link : u.ownBlock ≠ (V k).ownBlock ∨ (V k).ownBlock = none ∨ ∃ b c, V k = .slice (some b) (L k) c ∧ u = .slice (some b) (L k + i) c
  old : ∀ b, u.ownBlock = some b → (V k).ownBlock = some b ∨ w0.heap.size ≤ b
  others : ∀ i', i' < n → i' ≠ k → ∀ b, u.ownBlock = some b → (V i').ownBlock ≠ some b
  grown : ∀ (j : Nat) v, Gv[j]? = some v → ∀ b, u.ownBlock = some b → v.ownBlock ≠ some b
section
variable {e sz n base R : Nat} {cont : Nat → Nat → List Value} {V : Nat → Value} {L : Nat → Nat} {Out : World → Prop} {w0 w w1 : World} {Gv : List Value}
theorem own_type_ne2 {w : World} {b1 b2 e e' sz sz' : Nat} {v v' : Value} {n n' : Nat} {xs xs' : List Value} (h : w.ownsRow b1 e sz v n xs) (h' : w.ownsRow b2 e' sz' v' n' xs') (ht : e ≠ e') (b : Nat) (hb : v.ownBlock = some b) : v'.ownBlock ≠ some b := by
  intro hb'
  rcases own_type_ne h h' ht with h0 | h0
  · rw [hb] at h0; cases h0
  · exact h0 (hb.trans hb'.symm)
theorem St2.of1 {X : Nat → List Value} (h : St1 e sz V L n base Out w0 w X) (hX : ∀ j, j < n → X j = cont j (L j)) : St2 e sz R cont V L n base Out w0 w [] :=
  ⟨fun j hj => by rw [← hX j hj]; exact h.own j hj, fun j v hv => by simp at hv, h.outer, h.but⟩
theorem St2.but_ (H : Hyp V n base Out w0) (h : St2 e sz R cont V L n base Out w0 w Gv) {T : Nat → Prop} (b : But T w w1)
    (hV : ∀ j, j < n → ∀ b, (V j).ownBlock = some b → ¬ T b) (hG : ∀ (j : Nat) v, Gv[j]? = some v → ∀ b, v.ownBlock = some b → ¬ T b) (hT : ∀ b, T b → w0.heap.size ≤ b) : St2 e sz R cont V L n base Out w0 w1 Gv :=
  ⟨fun j hj => b.own (h.own j hj) (hV j hj), fun j v hv => ⟨(h.grown j v hv).1, b.own (h.grown j v hv).2.1 (hG j v hv), (h.grown j v hv).2.2⟩,
    H.out w _ _ b (fun q hq => .inr (hT q hq)) h.outer, h.but.trans b (fun q hq => .inr (hT q hq))⟩
theorem St2.far (H : Hyp V n base Out w0) (h : St2 e sz R cont V L n base Out w0 w Gv) (b : But (fun _ => False) w w1) : St2 e sz R cont V L n base Out w0 w1 Gv := h.but_ H b (fun _ _ _ _ h => h) (fun _ _ _ _ _ h => h) (fun _ h => h.elim)
theorem Cur.but_ {k i : Nat} {u : Value} (h : Cur e sz cont V L n base w0 w Gv k i u) {T : Nat → Prop} (b : But T w w1) (hT : ∀ b, u.ownBlock = some b → ¬ T b) : Cur e sz cont V L n base w0 w1 Gv k i u :=
  ⟨b.own h.own hT, h.link, h.old, h.others, h.grown⟩
/-- an element is appended to the list that grows -/
theorem grow_step (H : Hyp V n base Out w0) (hpre : ∀ k m, k < n → (cont k (L k + m)).take (L k * sz) = cont k (L k)) (h : St2 e sz R cont V L n base Out w0 w Gv) {k i : Nat} {u : Value} (hk : k < n) (hc : Cur e sz cont V L n base w0 w Gv k i u) {g cap : Nat}
    (h1 : w1.ownsRow base e sz (.slice (some ⟨g, 0, none⟩) (L k + i + 1) cap) (L k + i + 1) (cont k (L k + (i + 1)))) (h2 : w1.ownsRow base e sz u (L k + i) (cont k (L k + i)))
    (h3 : (u = .slice (some ⟨g, 0, none⟩) (L k + i) cap ∧ w.grownBy w1 (some g)) ∨ (w.heap.size ≤ g ∧ w.grownBy w1 none)) :
    St2 e sz R cont V L n base Out w0 w1 Gv ∧ Cur e sz cont V L n base w0 w1 Gv k (i + 1) (.slice (some ⟨g, 0, none⟩) (L k + i + 1) cap) ∧ But (fun b => u.ownBlock = some b) w w1 := by
  have hsz := h.but.size
  rcases h3 with ⟨rfl, hg⟩ | ⟨hge, hg⟩
  · have b := But.of_grown hg
    have hu : (Value.slice (some ⟨g, 0, none⟩) (L k + i) cap).ownBlock = some g := rfl
    have hT : ∀ q, some g = some q → OwnOf V n q ∨ w0.heap.size ≤ q := fun q hq => by
      rcases hc.old g rfl with ho | ho
      · exact .inl ⟨k, hk, ho.trans hq⟩
      · exact .inr (by rw [← Option.some.inj hq]; exact ho)
    refine ⟨⟨fun j hj => ?_, fun j v hv => ?_, H.out w _ _ b hT h.outer, h.but.trans b hT⟩, ⟨h1, ?_, fun q hq => hc.old q hq, fun j hj hjk q hq => hc.others j hj hjk q hq, fun j v hv q hq => hc.grown j v hv q hq⟩, b⟩
    · by_cases e' : j = k
      · subst e'
        rcases hc.link with hl | hl | ⟨a, c, e1, e2⟩
        · exact b.own (h.own j hj) (fun q hq hs => hl (hu.trans (Eq.trans hs hq.symm)))
        · exact b.own (h.own j hj) (fun q hq hs => by rw [hl] at hq; cases hq)
        · cases e2
          rw [e1]
          exact own_shorter h2 (by omega) (hpre _ _ hj).symm
      · exact b.own (h.own j hj) (fun q hq hs => hc.others j hj e' g rfl (hq.trans (Eq.symm hs)))
    · exact ⟨(h.grown j v hv).1, b.own (h.grown j v hv).2.1 (fun q hq hs => hc.grown j v hv g rfl (hq.trans (Eq.symm hs))), (h.grown j v hv).2.2⟩
    · rcases hc.link with hl | hl | ⟨a, c, e1, e2⟩
      · exact .inl hl
      · exact .inr (.inl hl)
      · cases e2
        exact .inr (.inr ⟨_, _, e1, rfl⟩)
  · have b : But (fun _ => False) w w1 := (But.of_grown hg).mono (fun q hq => by cases hq)
    refine ⟨h.far H b, ⟨h1, .inl (fun e' => ?_), fun q hq => ?_, fun j hj hjk q hq e' => ?_, fun j v hv q hq e' => ?_⟩, b.mono (fun _ h => h.elim)⟩
    · have hb := own_lt (h.own k hk) g e'.symm
      omega
    · have hq' : g = q := Option.some.inj hq
      exact .inr (by omega)
    · cases hq
      have hb := own_lt (h.own j hj) g e'
      omega
    · cases hq
      have hb := own_lt (h.grown j v hv).2.1 g e'
      omega
theorem Cur.start (H : Hyp V n base Out w0) (h : St2 e sz R cont V L n base Out w0 w Gv) {k : Nat} (hk : k < n) (hl : Gv.length ≤ k) : Cur e sz cont V L n base w0 w Gv k 0 (V k) := by
  refine ⟨h.own k hk, ?_, fun b hb => .inl hb, fun i hi hik b hb he => H.apart i k b hi hk hik he hb, fun j v hv b hb he => (h.grown j v hv).2.2 k hk (fun e' => ?_) b he hb⟩
  · obtain ⟨A, c, hA, _⟩ := own_form (h.own k hk)
    rw [hA]
    cases A with
    | none => exact .inr (.inl rfl)
    | some b => exact .inr (.inr ⟨b, c, rfl, rfl⟩)
  · have := (List.getElem?_eq_some_iff.1 hv).1
    omega
/-- a grown list is laid behind the others -/
theorem St2.snoc (h : St2 e sz R cont V L n base Out w0 w Gv) {k : Nat} {u : Value} (hk : k < n) (hl : Gv.length = k) (hc : Cur e sz cont V L n base w0 w Gv k R u) : St2 e sz R cont V L n base Out w0 w (Gv ++ [u]) := by
  refine ⟨h.own, fun j v hv => ?_, h.outer, h.but⟩
  rcases Nat.lt_or_ge j Gv.length with hj | hj
  · rw [List.getElem?_append_left hj] at hv
    exact h.grown j v hv
  · rw [List.getElem?_append_right hj] at hv
    have : j - Gv.length = 0 := by
      have := (List.getElem?_eq_some_iff.1 hv).1
      simp at this
      omega
    rw [this] at hv
    obtain rfl : u = v := by simpa using hv
    obtain rfl : j = k := by omega
    exact ⟨hk, hc.own, fun i hi hij b hb => hc.others i hi hij b hb⟩
end
theorem cells_new (W : World) (cs : List Value) (e : TypeId) : ∀ j u, cs[j]? = some u → (W.alloc (.cells cs.toArray e)).cell? ((⟨W.heap.size, 0, none⟩ : Addr).add j) = some u := by
  intro j u h
  rw [add_plain]
  unfold World.cell? World.alloc
  simp [h]
theorem but_alloc (w : World) (o : Obj) : But (fun _ => False) w (w.alloc o) := But.of_below (below_alloc (Below.refl _ _) o)
theorem but_drewN (w : World) (m : Nat) : But (fun _ => False) w (w.drewN m) := But.of_below (pw_below_drewN (Below.refl _ _) m)
/-! elements laid one behind the other -/
def cat (f : Nat → List Value) : Nat → List Value
  | 0 => []
  | n + 1 => cat f n ++ f n
theorem cat_len {f : Nat → List Value} {sz : Nat} (h : ∀ i, (f i).length = sz) : ∀ n, (cat f n).length = n * sz
  | 0 => by simp [cat]
  | n + 1 => by rw [cat, List.length_append, cat_len h n, h, Nat.add_mul, Nat.one_mul]
theorem cat_take {f : Nat → List Value} {sz : Nat} (h : ∀ i, (f i).length = sz) (n : Nat) : ∀ m, (cat f (n + m)).take (n * sz) = cat f n
  | 0 => by rw [Nat.add_zero, ← cat_len h n, List.take_length]
  | m + 1 => by
    rw [← Nat.add_assoc, cat, List.take_append_of_le_length (by rw [cat_len h]; exact Nat.mul_le_mul_right _ (by omega))]
    exact cat_take h n m
theorem cat_get {f : Nat → List Value} {sz : Nat} (h : ∀ i, (f i).length = sz) {q j : Nat} (hj : j < sz) : ∀ n, q < n → (cat f n)[q * sz + j]? = (f q)[j]?
  | 0, h0 => absurd h0 (by omega)
  | n + 1, h0 => by
    rw [cat]
    rcases Nat.lt_or_ge q n with hq | hq
    · have : q * sz + sz ≤ n * sz := by rw [← Nat.succ_mul]; exact Nat.mul_le_mul_right _ hq
      rw [List.getElem?_append_left (by rw [cat_len h]; omega)]
      exact cat_get h hj n hq
    · obtain rfl : q = n := by omega
      rw [List.getElem?_append_right (by rw [cat_len h]; omega), cat_len h]
      congr 1; omega
theorem cat_congr {f f' : Nat → List Value} : ∀ n, (∀ i, i < n → f i = f' i) → cat f n = cat f' n
  | 0, _ => rfl
  | n + 1, h => by rw [cat, cat, cat_congr n (fun i hi => h i (by omega)), h n (by omega)]
/-- any row is elements -/
theorem cat_of {sz : Nat} (xs : List Value) : ∀ n, xs.length = n * sz → xs = cat (fun i => (xs.drop (i * sz)).take sz) n := by
  have : ∀ n, n * sz ≤ xs.length → xs.take (n * sz) = cat (fun i => (xs.drop (i * sz)).take sz) n := by
    intro n
    induction n with
    | zero => intro _; simp [cat]
    | succ n ih =>
      intro h
      rw [Nat.add_mul, Nat.one_mul] at h
      rw [cat, ← ih (by omega), Nat.add_mul, Nat.one_mul, List.take_add]
  intro n hn
  have h := this n (by omega)
  rw [← hn, List.take_length] at h
  exact h
end Go.Proofs.Ytgbbcjooieggpaa.Grow
