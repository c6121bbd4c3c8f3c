/- ApartValues' contract: lists of values that lie apart, each in a block of its own, are found to lie apart; nothing else is written. For every world. -/
import Derived.Test.YtgbbcjooieggpaaPFrx0
import Derived.Test.YtgbbcjooieggpaaLit
import Derived.Test.YtgbbcjooieggpaaOwnCells
import Derived.Deep.DeepCutAuto
import Derived.LoopTactic
import Derived.BigQuiet
import Derived.Deep.QuietTactic
namespace Go.Proofs.Ytgbbcjooieggpaa.PFr
open Go.RowKit Go.Proofs.Ytgbbcjooieggpaa.Lit Go.Proofs.Ytgbbcjooieggpaa.OwnCells Go.Proofs.YtgbbcjooieggpaaW.PrintWords Go.Proofs.YtgbbcjooieggpaaW.PrintLast Go.Proofs.YtgbbcjooieggpaaW.PrintMore
set_option linter.unusedVariables false
set_option linter.unusedSimpArgs false
/-- n marks of the k-th list, cell by cell -/
def mk (K : Int) : Nat → List Value
  | 0 => []
  | n + 1 => mk K n ++ [.int .i64 K, .int .i64 (n : Int)]
theorem mk_len (K : Int) : ∀ n, (mk K n).length = n * 2
  | 0 => rfl
  | n + 1 => by simp only [mk, List.length_append, mk_len K n, List.length_cons, List.length_nil]; omega
theorem set_mark (K : Int) (i : Nat) (R : List Value) (m : Int) (h : 2 ≤ R.length) : ((mk K i ++ R).set (i * 2) (.int .i64 K)).set (i * 2 + 1) (.int .i64 (i : Int)) = mk K (i + 1) ++ R.drop 2 := by
 match R, h with
 | x :: y :: r, _ =>
  rw [List.set_append_right _ _ (by rw [mk_len]; omega), mk_len, Nat.sub_self, List.set_append_right _ _ (by rw [mk_len]; omega), mk_len, show i * 2 + 1 - i * 2 = 1 by omega]; simp [mk]
theorem mk_get0 (K : Int) : ∀ n q, q < n → (mk K n)[q * 2]? = some (.int .i64 K)
  | 0, q, h => absurd h (by omega)
  | n + 1, q, h => by
    simp only [mk]
    rcases Nat.lt_or_ge q n with hq | hq
    · rw [List.getElem?_append_left (by rw [mk_len]; omega)]
      exact mk_get0 K n q hq
    · obtain rfl : q = n := by omega
      rw [List.getElem?_append_right (by rw [mk_len]; omega), mk_len, Nat.sub_self]
      rfl
theorem mk_get1 (K : Int) : ∀ n q, q < n → (mk K n)[q * 2 + 1]? = some (.int .i64 (q : Int))
  | 0, q, h => absurd h (by omega)
  | n + 1, q, h => by
    simp only [mk]
    rcases Nat.lt_or_ge q n with hq | hq
    · rw [List.getElem?_append_left (by rw [mk_len]; omega)]
      exact mk_get1 K n q hq
    · obtain rfl : q = n := by omega
      rw [List.getElem?_append_right (by rw [mk_len]; omega), mk_len, show q * 2 + 1 - q * 2 = 1 by omega]
      rfl
/-- what stands in a row of 35's -/
structure St1 (V : Nat → Value) (L : Nat → Nat) (n base : Nat) (ad : Option Addr) (w0 : World) (w : World) (X : Nat → List Value) : Prop where
  own : ∀ j, j < n → w.ownsRow base 35 2 (V j) (L j) (X j)
  outer : ∀ j, j < n → ∃ a, ad = some a ∧ w.cell? (a.add j) = some (V j)
  but : But (fun b => ∃ j, j < n ∧ (V j).ownBlock = some b) w0 w
structure Hyp (V : Nat → Value) (L : Nat → Nat) (n base : Nat) (ad : Option Addr) (w0 : World) : Prop where
  apart : ∀ i j b, i < n → j < n → i ≠ j → (V i).ownBlock = some b → (V j).ownBlock ≠ some b
  far : ∀ j b a, j < n → ad = some a → (V j).ownBlock = some b → a.block ≠ b
  lim : n * 24 ≤ 140737488351232
  lims : ∀ j, j < n → (L j + 64) * 16 ≤ 140737488355328
  base : base ≤ w0.heap.size
theorem St1.step {V : Nat → Value} {L : Nat → Nat} {n base : Nat} {ad : Option Addr} {w0 w : World} {X : Nat → List Value} (H : Hyp V L n base ad w0) (h : St1 V L n base ad w0 w X) {k g cap : Nat} (hk : k < n) (hV : V k = .slice (some ⟨g, 0, none⟩) (L k) cap) (q : Nat) (u v : Value) :
    St1 V L n base ad w0 ((w.setCell ⟨g, q, none⟩ u).setCell ⟨g, q + 1, none⟩ v) (fun j => if j = k then ((X k).set q u).set (q + 1) v else X j) := by
 have b1 := But.of_grown (setCell_grown w g q u); have b2 := But.of_grown (setCell_grown (w.setCell ⟨g, q, none⟩ u) g (q + 1) v); have b3 : But (fun b => some g = some b) w ((w.setCell ⟨g, q, none⟩ u).setCell ⟨g, q + 1, none⟩ v) := b1.trans b2 (fun b hb => .inl hb); have hVk : (V k).ownBlock = some g := by rw [hV]; rfl
 refine ⟨fun j hj => ?_, fun j hj => ?_, h.but.trans b3 (fun b hb => .inl ⟨k, hk, hVk.trans hb⟩)⟩
 ·by_cases e : j = k
  ·subst e; rw [if_pos rfl]; have := h.own j hj; rw [hV] at this ⊢; exact own_set (own_set this q u) (q + 1) v
  ·rw [if_neg e]; refine b3.own (h.own j hj) (fun b hb he => ?_); have : some g = some b := he; exact H.apart j k b hj hk e hb (hVk.trans this)
 ·obtain ⟨a, ha, hc⟩ := h.outer j hj; refine ⟨a, ha, b3.cell hc (fun he => ?_)⟩; have he' : some g = some (a.add j).block := he; have hab : (a.add j).block = a.block := by unfold Addr.add; split <;> rfl
  rw [hab] at he'; exact H.far k g a hk ha hVk (Option.some.inj he').symm
theorem add_block (a : Addr) (j : Nat) : (a.add j).block = a.block := by unfold Addr.add; split <;> rfl
theorem mk_prefix (K : Int) (n : Nat) : ∀ m, (mk K (n + m)).take (n * 2) = mk K n
  | 0 => by rw [Nat.add_zero, ← mk_len K n, List.take_length]
  | m + 1 => by
    rw [← Nat.add_assoc]
    simp only [mk]
    rw [List.take_append_of_le_length (by rw [mk_len]; omega)]
    exact mk_prefix K n m
theorem own_shorter {w : World} {base n m cap : Nat} {b : Addr} {xs ys : List Value} (h : w.ownsRow base 35 2 (.slice (some b) n cap) n xs) (hm : m ≤ n) (hy : ys = xs.take (m * 2)) : w.ownsRow base 35 2 (.slice (some b) m cap) m ys := by
 subst hy; refine ⟨by rw [List.length_take, h.1]; omega, ?_⟩
 rcases h.2 with ⟨h0, _⟩ | ⟨g, c, cur, he, hb, hg, h1, h2, h3, h4⟩
 ·cases h0
 ·cases he; refine .inr ⟨g, cap, cur, rfl, hb, hg, by omega, h2, h3, ?_⟩; rw [← h4, List.take_take]
  congr 1
  omega
structure St2 (V : Nat → Value) (L : Nat → Nat) (n base : Nat) (ad : Option Addr) (w0 : World) (w : World) (Gv : List Value) : Prop where
  own : ∀ j, j < n → w.ownsRow base 35 2 (V j) (L j) (mk (-10 - (j : Int)) (L j))
  grown : ∀ j v, Gv[j]? = some v → j < n ∧ w.ownsRow base 35 2 v (L j + 64) (mk (-10 - (j : Int)) (L j + 64)) ∧ ∀ i, i < n → i ≠ j → ∀ b, v.ownBlock = some b → (V i).ownBlock ≠ some b
  outer : ∀ j, j < n → ∃ a, ad = some a ∧ w.cell? (a.add j) = some (V j) ∧ a.block < w0.heap.size
  but : But (fun b => ∃ j, j < n ∧ (V j).ownBlock = some b) w0 w
/-- the list that grows -/
structure Cur (V : Nat → Value) (L : Nat → Nat) (n base : Nat) (w0 : World) (w : World) (Gv : List Value) (k i : Nat) (u : Value) : Prop where
  own : w.ownsRow base 35 2 u (L k + i) (mk (-10 - (k : Int)) (L k + i))
  link : u.ownBlock ≠ (V k).ownBlock ∨ (V k).ownBlock = none ∨ ∃ b c, V k = .slice (some b) (L k) c ∧ u = .slice (some b) (L k + i) c
  old : ∀ b, u.ownBlock = some b → (V k).ownBlock = some b ∨ w0.heap.size ≤ b
  others : ∀ i', i' < n → i' ≠ k → ∀ b, u.ownBlock = some b → (V i').ownBlock ≠ some b
  grown : ∀ (j : Nat) v, Gv[j]? = some v → ∀ b, u.ownBlock = some b → v.ownBlock ≠ some b
theorem own_type_ne' {w : World} {b1 b2 : Nat} {v v' : Value} {n n' : Nat} {xs xs' : List Value} (h : w.ownsRow b1 25 1 v n xs) (h' : w.ownsRow b2 35 2 v' n' xs') (b : Nat) (hb : v.ownBlock = some b) : v'.ownBlock ≠ some b := by
 intro hb'
 rcases own_type_ne h h' (by decide) with h0 | h0
 ·rw [hb] at h0; cases h0
 ·exact h0 (hb.trans hb'.symm)
/-- something else is written, or made -/
theorem St2.but_ {V : Nat → Value} {L : Nat → Nat} {n base : Nat} {ad : Option Addr} {w0 w w1 : World} {Gv : List Value} (H : Hyp V L n base ad w0) (h : St2 V L n base ad w0 w Gv) {T : Nat → Prop} (b : But T w w1)
    (hV : ∀ j, j < n → ∀ b, (V j).ownBlock = some b → ¬ T b) (hG : ∀ (j : Nat) v, Gv[j]? = some v → ∀ b, v.ownBlock = some b → ¬ T b) (hT : ∀ b, T b → w0.heap.size ≤ b) : St2 V L n base ad w0 w1 Gv :=
  ⟨fun j hj => b.own (h.own j hj) (hV j hj), fun j v hv => ⟨(h.grown j v hv).1, b.own (h.grown j v hv).2.1 (hG j v hv), (h.grown j v hv).2.2⟩,
    fun j hj => let ⟨a, ha, hc, hl⟩ := h.outer j hj; ⟨a, ha, b.cell hc (fun ht => by have := hT _ ht; rw [add_block] at this; omega), hl⟩, h.but.trans b (fun q hq => .inr (hT q hq))⟩
/-- an element is appended to the list that grows -/
theorem grow_step {V : Nat → Value} {L : Nat → Nat} {n base : Nat} {ad : Option Addr} {w0 w w1 : World} {Gv : List Value} (H : Hyp V L n base ad w0) (h : St2 V L n base ad w0 w Gv) {k i : Nat} {u : Value} (hk : k < n) (hc : Cur V L n base w0 w Gv k i u) {g cap : Nat}
    (h1 : w1.ownsRow base 35 2 (.slice (some ⟨g, 0, none⟩) (L k + i + 1) cap) (L k + i + 1) (mk (-10 - (k : Int)) (L k + i) ++ [.int .i64 (-10 - (k : Int)), .int .i64 ((L k + i : Nat) : Int)])) (h2 : w1.ownsRow base 35 2 u (L k + i) (mk (-10 - (k : Int)) (L k + i)))
    (h3 : (u = .slice (some ⟨g, 0, none⟩) (L k + i) cap ∧ w.grownBy w1 (some g)) ∨ (w.heap.size ≤ g ∧ w.grownBy w1 none)) :
    St2 V L n base ad w0 w1 Gv ∧ Cur V L n base w0 w1 Gv k (i + 1) (.slice (some ⟨g, 0, none⟩) (L k + i + 1) cap) ∧ But (fun b => u.ownBlock = some b) w w1 := by
 have hsz := h.but.size
 rcases h3 with ⟨rfl, hg⟩ | ⟨hge, hg⟩
 ·have b := But.of_grown hg; have hu : (Value.slice (some ⟨g, 0, none⟩) (L k + i) cap).ownBlock = some g := rfl; refine ⟨⟨fun j hj => ?_, fun j v hv => ?_, fun j hj => ?_, h.but.trans b (fun q hq => ?_)⟩, ⟨h1, ?_, fun q hq => hc.old q hq, fun j hj hjk q hq => hc.others j hj hjk q hq, fun j v hv q hq => hc.grown j v hv q hq⟩, b⟩
  ·by_cases e : j = k
   ·subst e
    rcases hc.link with hl | hl | ⟨a, c, e1, e2⟩
    ·exact b.own (h.own j hj) (fun q hq hs => hl (hu.trans (Eq.trans hs hq.symm)))
    ·exact b.own (h.own j hj) (fun q hq hs => by rw [hl] at hq; cases hq)
    ·cases e2; rw [e1]; exact own_shorter h2 (by omega) (mk_prefix _ _ _).symm
   ·exact b.own (h.own j hj) (fun q hq hs => hc.others j hj e g rfl (hq.trans (Eq.symm hs)))
  ·exact ⟨(h.grown j v hv).1, b.own (h.grown j v hv).2.1 (fun q hq hs => hc.grown j v hv g rfl (hq.trans (Eq.symm hs))), (h.grown j v hv).2.2⟩
  ·obtain ⟨a, ha, hcell, hl⟩ := h.outer j hj; refine ⟨a, ha, b.cell hcell (fun hs => ?_), hl⟩; have hs' : some g = some (a.add j).block := hs; rw [add_block] at hs'
   rcases hc.old g rfl with ho | ho
   ·exact H.far k g a hk ha ho (Option.some.inj hs').symm
   ·have := Option.some.inj hs'
    omega
  ·have hs' : some g = some q := hq
   rcases hc.old g rfl with ho | ho
   ·exact .inl ⟨k, hk, ho.trans hs'⟩
   ·exact .inr (by rw [← Option.some.inj hs']; exact ho)
  ·rcases hc.link with hl | hl | ⟨a, c, e1, e2⟩
   ·exact .inl hl
   ·exact .inr (.inl hl)
   ·cases e2; exact .inr (.inr ⟨_, _, e1, rfl⟩)
 ·have b : But (fun _ => False) w w1 := (But.of_grown hg).mono (fun q hq => by cases hq); refine ⟨h.but_ H b (fun _ _ _ _ h => h) (fun _ _ _ _ _ h => h) (fun _ h => h.elim), ⟨h1, .inl (fun e => ?_), fun q hq => ?_, fun j hj hjk q hq e => ?_, fun j v hv q hq e => ?_⟩, b.mono (fun _ h => h.elim)⟩
  ·have hb := own_lt (h.own k hk) g e.symm
   omega
  ·have hq' : g = q := Option.some.inj hq; exact .inr (by omega)
  ·cases hq; have hb := own_lt (h.own j hj) g e
   omega
  ·cases hq; have hb := own_lt (h.grown j v hv).2.1 g e
   omega
theorem Cur.but_ {V : Nat → Value} {L : Nat → Nat} {n base : Nat} {w0 w w1 : World} {Gv : List Value} {k i : Nat} {u : Value} (h : Cur V L n base w0 w Gv k i u) {T : Nat → Prop} (b : But T w w1) (hT : ∀ b, u.ownBlock = some b → ¬ T b) : Cur V L n base w0 w1 Gv k i u :=
  ⟨b.own h.own hT, h.link, h.old, h.others, h.grown⟩
theorem but_alloc (w : World) (o : Obj) : But (fun _ => False) w (w.alloc o) := But.of_below (below_alloc (Below.refl _ _) o)
theorem info25 : (Try.prog.info? 25).map (fun i => (i.zero, i.size, i.bytes)) = some (some (.slice none 0 0), 1, 24) := by kernel_rfl
theorem Cur.start {V : Nat → Value} {L : Nat → Nat} {n base : Nat} {ad : Option Addr} {w0 w : World} {Gv : List Value} (H : Hyp V L n base ad w0) (h : St2 V L n base ad w0 w Gv) {k : Nat} (hk : k < n) (hl : Gv.length ≤ k) : Cur V L n base w0 w Gv k 0 (V k) := by
 refine ⟨h.own k hk, ?_, fun b hb => .inl hb, fun i hi hik b hb he => H.apart i k b hi hk hik he hb, fun j v hv b hb he => (h.grown j v hv).2.2 k hk (fun e => ?_) b he hb⟩
 ·obtain ⟨A, c, hA, _⟩ := own_form (h.own k hk); rw [hA]
  cases A with
  | none => exact .inr (.inl rfl)
  | some b => exact .inr (.inr ⟨b, c, rfl, rfl⟩)
 ·have := (List.getElem?_eq_some_iff.1 hv).1
  omega
/-- a grown list is laid behind the others -/
theorem St2.snoc {V : Nat → Value} {L : Nat → Nat} {n base : Nat} {ad : Option Addr} {w0 w : World} {Gv : List Value} (h : St2 V L n base ad w0 w Gv) {k : Nat} {u : Value} (hk : k < n) (hl : Gv.length = k) (hc : Cur V L n base w0 w Gv k 64 u) : St2 V L n base ad w0 w (Gv ++ [u]) := by
 refine ⟨h.own, fun j v hv => ?_, h.outer, h.but⟩
 rcases Nat.lt_or_ge j Gv.length with hj | hj
 ·rw [List.getElem?_append_left hj] at hv; exact h.grown j v hv
 ·rw [List.getElem?_append_right hj] at hv; have : j - Gv.length = 0 := by
   have := (List.getElem?_eq_some_iff.1 hv).1; simp at this
   omega
  rw [this] at hv; obtain rfl : u = v := by simpa using hv
  obtain rfl : j = k := by omega
  exact ⟨hk, hc.own, fun i hi hij b hb => hc.others i hi hij b hb⟩
theorem cells_new (W : World) (cs : List Value) (e : TypeId) : ∀ j u, cs[j]? = some u → (W.alloc (.cells cs.toArray e)).cell? ((⟨W.heap.size, 0, none⟩ : Addr).add j) = some u := by
 intro j u h; rw [add_plain]; unfold World.cell? World.alloc; simp [h]
set_option maxHeartbeats 2000000 in
set_option maxRecDepth 100000 in
theorem apart_values (V : Nat → Value) (L : Nat → Nat) (n base : Nat) (ad : Option Addr) (c : Nat) (w : World) (X : Nat → List Value) (hyp : Hyp V L n base ad w) (hst : St1 V L n base ad w w X) :
    Calls Try.prog 18 #[.slice ad n c] w fun e w' => e = .returned (.bool true) ∧ But (fun b => ∃ j, j < n ∧ (V j).ownBlock = some b) w w' := by
 have HY := Aside0.mk hyp; have HS := Aside0.mk hst; have hn := hyp.lim; clear hyp hst; go_enter Try.func18, Try.ntmps18; go_wp2; go_loopw [3, 4] (fun t _ wr => ∃ k : Nat, k ≤ n ∧ t = .int .i64 k ∧ ∃ X, St1 V L n base ad w wr X ∧ ∀ j, j < k → X j = mk (-10 - (j : Int)) (L j)) (fun t _ _ => n - (intOf t).toNat)
 case atStart => exact ⟨0, Nat.zero_le _, rfl, X, HS.out, fun j hj => absurd hj (by omega)⟩
 case round =>
  obtain ⟨k, hk, rfl, X, hS, hX⟩ := hrel; have HS1 := Aside0.mk hS; have HX := Aside0.mk hX; clear hS hX
  by_cases hlt : k < n
  ·go_wp2; obtain ⟨a, rfl, hcell0⟩ := HS1.out.outer k hlt; have hlk := HY.out.lims k hlt; obtain ⟨A, cp, hVk, hcp⟩ := own_form (HS1.out.own k hlt); have HV := Aside0.mk hVk; have HC0 := Aside0.mk hcell0; clear hVk hcell0; obtain ⟨wo, rfl⟩ : ∃ wo : World, wo = wr := ⟨_, rfl⟩; go_loopw [4] (fun t wr => ∃ i : Nat, i ≤ L k ∧ t = .int .i64 i ∧ ∃ X, St1 V L n base (some a) w wr X ∧ (∀ j, j < k → X j = mk (-10 - (j : Int)) (L j)) ∧ ∃ R, X k = mk (-10 - (k : Int)) i ++ R) (fun t _ => L k - (intOf t).toNat)
   case atStart => exact ⟨0, Nat.zero_le _, rfl, X, HS1.out, HX.out, X k, rfl⟩
   case round =>
    obtain ⟨i, hi, rfl, X2, hS2, hX2, R, hR⟩ := hrel; obtain ⟨a', ha', hcell⟩ := hS2.outer k hlt; obtain rfl := Option.some.inj ha'; clear ha'; rw [HV.out] at hcell; have HS2 := Aside0.mk hS2; have HX2 := Aside0.mk hX2; have HR := Aside0.mk hR; clear hS2 hX2 hR
    by_cases hil : i < L k
    ·obtain ⟨g, cp', hVg, _, _⟩ := (HS2.out.own k hlt).form (by omega); have hVe := HV.out; rw [hVg] at hVe
     cases hVe; have hlen : (X2 k).length = L k * 2 := (HS2.out.own k hlt).1; have ho := HS2.out.own k hlt; rw [hVg] at ho; have HVg := Aside0.mk hVg; obtain ⟨p0, f0⟩ := own_cell ho (i * 2) _ (List.getElem?_eq_getElem (by omega)); obtain ⟨p1, f1⟩ := own_cell ho (i * 2 + 1) _ (List.getElem?_eq_getElem (by omega))
     generalize (X2 k)[i * 2] = x0 at p0
     generalize (X2 k)[i * 2 + 1] = x1 at p1
     have hlen' := Aside0.mk hlen; clear ho hVg hlen; go_wp2; go_roundw
     case rel =>
      refine ⟨i + 1, by omega, by go_num, _, HS2.out.step HY.out hlt HVg.out (i * 2) _ _, fun j hj => ?_, R.drop 2, ?_⟩
      ·show (if j = k then _ else X2 j) = _; rw [if_neg (by omega)]; exact HX2.out j hj
      ·show (if k = k then _ else X2 k) = _; rw [if_pos rfl, HR.out]; exact set_mark _ i R 0 (by have := hlen'.out; rw [HR.out, List.length_append, mk_len] at this; omega)
     case measure => simp [intOf]; omega
    ·obtain rfl : i = L k := by omega
     go_wp2; go_roundw
     case rel =>
      refine ⟨k + 1, by omega, by go_num, X2, HS2.out, fun j hj => ?_⟩
      rcases Nat.lt_or_ge j k with h | h
      ·exact HX2.out j h
      ·obtain rfl : j = k := by omega
       have h1 := (HS2.out.own j hlt).1; rw [HR.out, List.length_append, mk_len] at h1; rw [HR.out, List.eq_nil_of_length_eq_zero (show R.length = 0 by omega), List.append_nil]
     case measure => simp [intOf]; omega
  ·obtain rfl : k = n := by omega
   have HS2 := Aside0.mk (show St2 V L k base ad w wr [] from ⟨fun j hj => by rw [← HX.out j hj]; exact HS1.out.own j hj, fun j v hv => by simp at hv, fun j hj => (let ⟨a, ha, hc⟩ := HS1.out.outer j hj; let ⟨a', ha', hc'⟩ := HS.out.outer j hj; ⟨a, ha, hc, by have := World.block_lt_of_cell? w _ hc'; rw [add_block] at this; rw [Option.some.inj (ha.symm.trans ha')]; exact this⟩), HS1.out.but⟩); clear HS1 HX HS X hk hlt; go_wp2; go_loopw [5, 6, 7, 8] (fun gv t _ _ wr => ∃ j : Nat, j ≤ k ∧ t = .int .i64 j ∧ ∃ Gv, Gv.length = j ∧ St2 V L k base ad w wr Gv ∧ wr.ownsRow w.heap.size 25 1 gv j Gv) (fun _ t _ _ _ => k - (intOf t).toNat)
   case atStart => exact ⟨0, Nat.zero_le _, rfl, [], rfl, HS2.out, World.ownsRow_nil _ _ _ _⟩
   case round =>
    obtain ⟨j, hj, rfl, Gv, hG, hS, hO⟩ := hrel; have HG := Aside0.mk hG; have HS3 := Aside0.mk hS; have HO := Aside0.mk hO; clear hG hS hO
    by_cases hjk : j < k
    ·obtain ⟨a, had, hcell, hal⟩ := HS3.out.outer j hjk; subst had; obtain ⟨A, cp, hVj, hcp⟩ := own_form (HS3.out.own j hjk); rw [hVj] at hcell; have HV := Aside0.mk hVj; have hlj := HY.out.lims j hjk; clear hVj; go_wp2; clear hcell; obtain ⟨wo, rfl⟩ : ∃ wo : World, wo = wr := ⟨_, rfl⟩; go_loopw [7, 8] (fun u t wr => ∃ i : Nat, i ≤ 64 ∧ t = .int .i64 i ∧ St2 V L k base (some a) w wr Gv ∧ Cur V L k base w wr Gv j i u ∧ wr.ownsRow w.heap.size 25 1 u5 j Gv) (fun _ t _ => 64 - (intOf t).toNat)
     case atStart => exact ⟨0, by omega, rfl, HS3.out, HV.out ▸ Cur.start HY.out HS3.out hjk (by have := HG.out; omega), HO.out⟩
     case round =>
      obtain ⟨i, hi, rfl, hS, hC, hO⟩ := hrel; have HS4 := Aside0.mk hS; have HC4 := Aside0.mk hC; have HO4 := Aside0.mk hO; obtain ⟨a', ha', hcell, _⟩ := hS.outer j hjk; obtain rfl := Option.some.inj ha'; rw [HV.out] at hcell; clear hS hC hO ha'
      by_cases hil : i < 64
      ·obtain ⟨i0, hi0, hz⟩ := Option.map_eq_some_iff.1 info35; simp only [Prod.mk.injEq] at hz; have HI := Aside0.mk hi0; have HZ := Aside0.mk hz; clear hi0 hz; go_wp2_with (first | ((with_reducible refine gate_builtin (b := .append) (xs := #[.tmp 51, .tmp 62]) rfl ?_); at_builtin; refine wpList_append_two rfl (.tmp 51) (.tmp 62) 25 rfl base 35 i0 (.agg #[.int .i64 0, .int .i64 0]) 2 16 Try.underlying25 HI.out HZ.out.1 HZ.out.2.1 HZ.out.2.2 rfl (by decide) u7 (L j + i) (mk (-10 - (j : Int)) (L j + i)) rfl ?aO ⟨wr.heap.size, 0, none⟩ 1 1 [.int .i64 (-10 - (j : Int)), .int .i64 ((L j : Int) + (i : Int))] rfl rfl (cells_new wr _ 35) ?aU (by decide) ?aL ?aB ?aH ?_; (case aO => exact (HC4.out.but_ (but_alloc wr _) (fun _ _ h => h)).own); (case aU => simp [Value.oneCell']); (case aL => unfold maxLen; omega); (case aB => omega); (case aH => have := HY.out.base; have := HS4.out.but.size; simp; omega); intro g cap w9 q1 q2 q3; have Q := Aside0.mk (And.intro q1 (And.intro q2 q3)); clear q1 q2 q3))
       go_roundw
       case rel =>
        obtain ⟨q1, q2, q3⟩ := Q.out; rw [← Int.natCast_add] at q1; have ba := but_alloc wr (.cells #[.int .i64 (-10 - (j : Int)), .int .i64 ((L j : Int) + (i : Int))] 35); have S1 := HS4.out.but_ HY.out ba (fun _ _ _ _ h => h) (fun _ _ _ _ _ h => h) (fun _ h => h.elim); obtain ⟨S2, C2, b2⟩ := grow_step HY.out S1 hjk (HC4.out.but_ ba (fun _ _ h => h)) q1 q2 q3; exact ⟨i + 1, by omega, by go_num, S2, C2, b2.own (ba.own HO4.out (fun _ _ h => h)) (fun b hb hs => own_type_ne' HO4.out HC4.out.own b hb hs)⟩
       case measure => simp [intOf]; omega
      ·obtain rfl : i = 64 := by omega
       obtain ⟨A7, c7, rfl, hc7⟩ := own_form HC4.out.own; obtain ⟨i1, hi1, hz⟩ := Option.map_eq_some_iff.1 info25; simp only [Prod.mk.injEq] at hz; have HI := Aside0.mk hi1; have HZ := Aside0.mk hz; clear hi1 hz; go_wp2_with (first | ((with_reducible refine gate_builtin (b := .append) (xs := #[.tmp 64, .tmp 66]) rfl ?_); at_builtin; refine wpList_append_two rfl (.tmp 64) (.tmp 66) 37 rfl w.heap.size 25 i1 (.slice none 0 0) 1 24 Try.underlying37 HI.out HZ.out.1 HZ.out.2.1 HZ.out.2.2 rfl (by decide) u5 j Gv rfl ?bO ⟨wr.heap.size, 0, none⟩ 1 1 [.slice A7 (L j + 64) c7] rfl rfl (cells_new wr _ 25) ?bU (by decide) ?bL ?bB ?bH ?_; (case bO => exact (but_alloc wr _).own HO4.out (fun _ _ h => h)); (case bU => simp [Value.oneCell']); (case bL => unfold maxLen; omega); (case bB => omega); (case bH => have := HS4.out.but.size; simp; omega); intro g cap w9 q1 q2 q3; have Q := Aside0.mk (And.intro q1 (And.intro q2 q3)); clear q1 q2 q3))
       go_roundw
       case rel =>
        obtain ⟨q1, q2, q3⟩ := Q.out; have ba := but_alloc wr (.cells #[.slice A7 (L j + 64) c7] 25); have S1 := HS4.out.but_ HY.out ba (fun _ _ _ _ h => h) (fun _ _ _ _ _ h => h) (fun _ h => h.elim); have C1 := HC4.out.but_ ba (fun _ _ h => h); have O1 := ba.own HO4.out (fun _ _ h => h); have S2 := S1.snoc hjk HG.out C1; have b2 : But (fun b => u5.ownBlock = some b) (wr.alloc (.cells #[.slice A7 (L j + 64) c7] 25)) w9 := by
         rcases q3 with ⟨e, hg⟩ | ⟨_, hg⟩
         ·rw [e]; exact But.of_grown hg
         ·exact (But.of_grown hg).mono (fun q hq => by cases hq)
        refine ⟨j + 1, by omega, by go_num, Gv ++ [.slice A7 (L j + 64) c7], by rw [List.length_append, HG.out]; rfl, S2.but_ HY.out b2 (fun i hi b hb hs => own_type_ne' O1 (S2.own i hi) b hs hb) (fun i v hv b hb hs => own_type_ne' O1 (S2.grown i v hv).2.1 b hs hb) (fun b hb => own_base O1 b hb), q1⟩
       case measure => simp [intOf]; omega
    ·obtain rfl : j = k := by omega
     clear hj hjk; go_wp2; go_loopw [9, 10, 11] (fun t _ _ wr => ∃ p : Nat, p ≤ j ∧ t = .int .i64 p ∧ St2 V L j base ad w wr Gv ∧ wr.ownsRow w.heap.size 25 1 u5 j Gv) (fun t _ _ _ => j - (intOf t).toNat)
     case atStart => exact ⟨0, Nat.zero_le _, rfl, HS3.out, HO.out⟩
     case round =>
      obtain ⟨p, hp, rfl, hS, hO⟩ := hrel; have HS5 := Aside0.mk hS; have HO5 := Aside0.mk hO; clear hS hO
      by_cases hpj : p < j
      ·have hGl := HG.out; obtain ⟨g5, cp5, rfl, _, _⟩ := HO5.out.form (by omega); obtain ⟨v, hv⟩ : ∃ v, Gv[p]? = some v := ⟨_, List.getElem?_eq_getElem (by omega)⟩; obtain ⟨b, cb, rfl, _, _⟩ := (HS5.out.grown p v hv).2.1.form (by omega); obtain ⟨a, had, hcell0, _⟩ := HS5.out.outer p hpj; subst had; obtain ⟨A, cp, hVj, hcp⟩ := own_form (HS5.out.own p hpj); have HV := Aside0.mk hVj; have HVC := Aside0.mk hv; have hlj := HY.out.lims p hpj; clear hVj hv hcell0 hGl; go_wp2; obtain ⟨wo, rfl⟩ : ∃ wo : World, wo = wr := ⟨_, rfl⟩; go_loopw [10, 11] (fun t _ wr => ∃ q : Nat, q ≤ L p + 64 ∧ t = .int .i64 q ∧ St2 V L j base (some a) w wr Gv ∧ wr.ownsRow w.heap.size 25 1 (.slice (some ⟨g5, 0, none⟩) j cp5) j Gv) (fun t _ _ => L p + 64 - (intOf t).toNat)
       case atStart => exact ⟨0, by omega, rfl, HS5.out, HO5.out⟩
       case round =>
        obtain ⟨q, hq, rfl, hS, hO⟩ := hrel; have HS6 := Aside0.mk hS; have HO6 := Aside0.mk hO; obtain ⟨a', ha', hcell, _⟩ := hS.outer p hpj; obtain rfl := Option.some.inj ha'; rw [HV.out] at hcell; have hgs := (own_cell hO p _ HVC.out).1; have hgo := (hS.grown p _ HVC.out).2.1; have hvo := hS.own p hpj; rw [HV.out] at hvo; clear hS hO ha'
        by_cases hql : q < L p + 64
        ·have x0 := (own_cell hgo (q * 2) _ (mk_get0 _ _ q hql)).1; have x1 := (own_cell hgo (q * 2 + 1) _ (mk_get1 _ _ q hql)).1; clear hgo
         by_cases hqs : q < L p
         ·obtain ⟨gv, cv, hAv, _, _⟩ := hvo.form (by omega)
          cases hAv; have y0 := (own_cell hvo (q * 2) _ (mk_get0 _ _ q hqs)).1; have y1 := (own_cell hvo (q * 2 + 1) _ (mk_get1 _ _ q hqs)).1; clear hvo; go_upto_region 25 with (fail)
          have b3 := below_alloc (Below.refl _ wr) (.cells #[.int .i64 (-10 - (p : Int)), .int .i64 (q : Int)] 35); have K1 := blk_new wr (.cells #[.int .i64 (-10 - (p : Int)), .int .i64 (q : Int)] 35); have HS7 := Aside0.mk (HS6.out.but_ HY.out (but_alloc wr (.cells #[.int .i64 (-10 - (p : Int)), .int .i64 (q : Int)] 35)) (fun _ _ _ _ h => h) (fun _ _ _ _ _ h => h) (fun _ h => h.elim)); have HO7 := Aside0.mk ((but_alloc wr (.cells #[.int .i64 (-10 - (p : Int)), .int .i64 (q : Int)] 35)).own HO6.out (fun _ _ h => h)); replace hcell := pw_cell_below b3 hcell; replace hgs := pw_cell_below b3 hgs; replace x0 := pw_cell_below b3 x0; replace x1 := pw_cell_below b3 x1; replace y0 := pw_cell_below b3 y0; replace y1 := pw_cell_below b3 y1; clear b3
          generalize wr.alloc (.cells #[.int .i64 (-10 - (p : Int)), .int .i64 (q : Int)] 35) = wz at *
          generalize wr.heap.size = gz at *
          have z0 : wz.cell? ⟨gz, 0, none⟩ = some (.int .i64 (-10 - (p : Int))) := blk_cell K1 0; have z1 : wz.cell? ⟨gz, 1, none⟩ = some (.int .i64 (q : Int)) := blk_cell K1 1; clear K1; go_quiet (fail)
          go_wp2
          rename_i nq
          have bn : But (fun _ => False) wz (wz.drewN nq) := But.of_below (pw_below_drewN (Below.refl _ _) nq); go_roundw
          case rel => exact ⟨q + 1, by omega, by go_num, HS7.out.but_ HY.out bn (fun _ _ _ _ h => h) (fun _ _ _ _ _ h => h) (fun _ h => h.elim), bn.own HO7.out (fun _ _ h => h)⟩
          case measure => simp [intOf]; omega
         ·have hd : decide (q < L p) = false := decide_eq_false hqs; clear hvo hqs; go_upto_region 25 with (fail)
          have b3 := below_alloc (Below.refl _ wr) (.cells #[.int .i64 (-10 - (p : Int)), .int .i64 (q : Int)] 35); have K1 := blk_new wr (.cells #[.int .i64 (-10 - (p : Int)), .int .i64 (q : Int)] 35); have HS7 := Aside0.mk (HS6.out.but_ HY.out (but_alloc wr (.cells #[.int .i64 (-10 - (p : Int)), .int .i64 (q : Int)] 35)) (fun _ _ _ _ h => h) (fun _ _ _ _ _ h => h) (fun _ h => h.elim)); have HO7 := Aside0.mk ((but_alloc wr (.cells #[.int .i64 (-10 - (p : Int)), .int .i64 (q : Int)] 35)).own HO6.out (fun _ _ h => h)); replace hcell := pw_cell_below b3 hcell; replace hgs := pw_cell_below b3 hgs; replace x0 := pw_cell_below b3 x0; replace x1 := pw_cell_below b3 x1; clear b3
          generalize wr.alloc (.cells #[.int .i64 (-10 - (p : Int)), .int .i64 (q : Int)] 35) = wz at *
          generalize wr.heap.size = gz at *
          have z0 : wz.cell? ⟨gz, 0, none⟩ = some (.int .i64 (-10 - (p : Int))) := blk_cell K1 0; have z1 : wz.cell? ⟨gz, 1, none⟩ = some (.int .i64 (q : Int)) := blk_cell K1 1; clear K1; go_quiet (fail)
          go_wp2
          rename_i nq
          have bn : But (fun _ => False) wz (wz.drewN nq) := But.of_below (pw_below_drewN (Below.refl _ _) nq); go_roundw
          case rel => exact ⟨q + 1, by omega, by go_num, HS7.out.but_ HY.out bn (fun _ _ _ _ h => h) (fun _ _ _ _ _ h => h) (fun _ h => h.elim), bn.own HO7.out (fun _ _ h => h)⟩
          case measure => simp [intOf]; omega
        ·obtain rfl : q = L p + 64 := by omega
         clear hgo hvo; go_wp2; go_roundw
         case rel => exact ⟨p + 1, by omega, by go_num, HS6.out, HO6.out⟩
         case measure => simp [intOf]; omega
      ·go_wp2; go_ret; exact ⟨rfl, HS5.out.but⟩
end Go.Proofs.Ytgbbcjooieggpaa.PFr
