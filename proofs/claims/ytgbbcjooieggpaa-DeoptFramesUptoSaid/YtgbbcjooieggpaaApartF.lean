/- ApartFrames' contract: lists of frames that lie apart, their slots too, are found to lie apart; nothing else is written. For every world. -/
import Derived.Test.YtgbbcjooieggpaaApart
import Derived.Test.YtgbbcjooieggpaaGrow
namespace Go.Proofs.Ytgbbcjooieggpaa.PFr
open Go.RowKit Go.Proofs.Ytgbbcjooieggpaa.Lit Go.Proofs.Ytgbbcjooieggpaa.OwnCells Go.Proofs.YtgbbcjooieggpaaW.PrintWords Go.Proofs.YtgbbcjooieggpaaW.PrintLast Go.Proofs.YtgbbcjooieggpaaW.PrintMore
set_option linter.unusedVariables false
set_option linter.unusedSimpArgs false
namespace AF
open Grow (cat cat_len cat_take cat_get cat_congr OwnOf)
theorem list_of {β : Type} {P : Nat → β → Prop} : ∀ n, (∀ i, i < n → ∃ p, P i p) → ∃ l : List β, l.length = n ∧ ∀ i p, l[i]? = some p → P i p
  | 0, _ => ⟨[], rfl, fun i p h => by simp at h⟩
  | n + 1, h => by
    obtain ⟨l, hl, hp⟩ := list_of n (fun i hi => h i (by omega))
    obtain ⟨p, hpn⟩ := h n (by omega)
    refine ⟨l ++ [p], by simp [hl], fun i q hq => ?_⟩
    rcases Nat.lt_or_ge i l.length with hi | hi
    · rw [List.getElem?_append_left hi] at hq
      exact hp i q hq
    · rw [List.getElem?_append_right hi] at hq
      have hlt := (List.getElem?_eq_some_iff.1 hq).1
      simp at hlt
      obtain rfl : i = n := by omega
      rw [show i - l.length = 0 by omega] at hq
      obtain rfl : p = q := by simpa using hq
      exact hpn
/-- a slot list: its value, its length, its cells -/
abbrev SlotRow := Value × Nat × List Value
def RowsApart (l : List SlotRow) : Prop := l.Pairwise fun p q => ∀ b, p.1.ownBlock = some b → q.1.ownBlock ≠ some b
theorem S27_open {w : World} {base : Nat} {ok : Nat → Prop} {v : Value} {xs : List S27} (h : Kd.S k27 27 w base ok v xs) :
    ∃ (O : List Value) (SL : List SlotRow), w.ownsRow base 27 3 v xs.length O ∧ SL.length = xs.length ∧ (∀ b, v.ownBlock = some b → ok b) ∧ RowsApart SL ∧
      ∀ i p, SL[i]? = some p → O[i * 3 + 2]? = some p.1 ∧ w.ownsRow base 35 2 p.1 p.2.1 p.2.2 ∧ (∃ x ∈ xs, p.2.1 = x.f2.length) ∧ ∀ b, p.1.ownBlock = some b → ok b := by
 obtain ⟨f, h0, inner, ho, hr⟩ := h; rw [List.length_zipIdx] at ho; have key : ∀ i, i < xs.length → ∃ p : SlotRow, inner[i * 3 + 2]? = some p.1 ∧ w.ownsRow base 35 2 p.1 p.2.1 p.2.2 ∧ (∃ x ∈ xs, p.2.1 = x.f2.length) ∧ ∀ b, p.1.ownBlock = some b → ok b ∧ f b = i := by
  intro i hi; have hM := hr.2 i (xs[i], i) (Kd.zip_at (List.getElem?_eq_getElem hi)); have hlen := hr.1; rw [List.length_zipIdx] at hlen
  change inner.length = xs.length * 3 at hlen; obtain ⟨c0, c1, e0, rfl, c2, c3, e1, rfl, v2, rfl, hR⟩ := hM; subst e1; have hR' : k35.R 35 w base _ v2 xs[i].f2 := hR; obtain ⟨hok, inn, hown, _⟩ := hR'; refine ⟨(v2, xs[i].f2.length, inn), ?_, hown, ⟨xs[i], List.getElem_mem hi, rfl⟩, fun b hb => ⟨(hok b hb).1.1, (hok b hb).2⟩⟩; have e2 : ((inner.drop (i * 3)).take 3)[2]? = some v2 := by
   have : (inner.drop (i * 3)).take 3 = _ := e0; rw [this]; rfl
  rw [List.getElem?_take_of_lt (by omega), List.getElem?_drop] at e2; exact e2
 obtain ⟨SL, hl, hp⟩ := list_of xs.length key; refine ⟨inner, SL, ho, hl, h0, ?_, fun i p hi => ⟨(hp i p hi).1, (hp i p hi).2.1, (hp i p hi).2.2.1, fun b hb => ((hp i p hi).2.2.2 b hb).1⟩⟩; rw [RowsApart, List.pairwise_iff_getElem]
 intro i j hi hj hij b hb hb'; have h1 := ((hp i _ (List.getElem?_eq_getElem hi)).2.2.2 b hb).2; have h2 := ((hp j _ (List.getElem?_eq_getElem hj)).2.2.2 b hb').2
 omega
def Flat (SL : Nat → List SlotRow) (k : Nat) : List SlotRow := (List.range k).flatMap SL
theorem flat_succ (SL : Nat → List SlotRow) (k : Nat) : Flat SL (k + 1) = Flat SL k ++ SL k := by unfold Flat; rw [List.range_succ, List.flatMap_append]; simp
def FL (SL : Nat → List SlotRow) (k : Nat) : List Value := (Flat SL k).map (·.1)
theorem fl_succ (SL : Nat → List SlotRow) (k : Nat) : FL SL (k + 1) = FL SL k ++ (SL k).map (·.1) := by unfold FL; rw [flat_succ, List.map_append]
theorem flat_len (SL : Nat → List SlotRow) (k n : Nat) (h : k ≤ n) : (Flat SL k).length ≤ (Flat SL n).length := by
 obtain ⟨m, rfl⟩ : ∃ m, n = k + m := ⟨n - k, by omega⟩; clear h
 induction m with
 | zero => exact Nat.le_refl _
 | succ m ih => rw [← Nat.add_assoc, flat_succ, List.length_append]; omega
structure FHyp (V : Nat → Value) (L : Nat → Nat) (O : Nat → List Value) (SL : Nat → List SlotRow) (n base : Nat) (ad : Option Addr) (w : World) : Prop where
  own : ∀ j, j < n → w.ownsRow base 27 3 (V j) (L j) (O j)
  len : ∀ j, j < n → (SL j).length = L j
  slot : ∀ j, j < n → ∀ i p, (SL j)[i]? = some p → (O j)[i * 3 + 2]? = some p.1
  rows : ∀ p ∈ Flat SL n, w.ownsRow base 35 2 p.1 p.2.1 p.2.2 ∧ (p.2.1 + 64) * 16 ≤ 140737488355328
  apart : ∀ i j b, i < n → j < n → i ≠ j → (V i).ownBlock = some b → (V j).ownBlock ≠ some b
  aparts : RowsApart (Flat SL n)
  outer : ∀ j, j < n → ∃ a, ad = some a ∧ w.cell? (a.add j) = some (V j)
  far : ∀ a b, ad = some a → OwnOf V n b → a.block ≠ b
  fars : ∀ a p b, ad = some a → p ∈ Flat SL n → p.1.ownBlock = some b → a.block ≠ b
  lim : n * 24 ≤ 140737488351232
  lims : ∀ j, j < n → (L j + 64) * 40 ≤ 140737488355328
  tot : (Flat SL n).length ≤ 2199023255552
  base : base ≤ w.heap.size
def OutA (V : Nat → Value) (n : Nat) (ad : Option Addr) (N : Nat) (w : World) : Prop := ∀ j, j < n → ∃ a, ad = some a ∧ w.cell? (a.add j) = some (V j) ∧ a.block < N
theorem outA_but {V : Nat → Value} {n N : Nat} {ad : Option Addr} (far : ∀ a b, ad = some a → OwnOf V n b → a.block ≠ b) : ∀ w w1 (T : Nat → Prop), But T w w1 → (∀ b, T b → OwnOf V n b ∨ N ≤ b) → OutA V n ad N w → OutA V n ad N w1 := by
 intro w w1 T hb hT h j hj; obtain ⟨a, ha, hc, hl⟩ := h j hj; refine ⟨a, ha, hb.cell hc (fun ht => ?_), hl⟩
 rcases hT _ ht with h1 | h1
 ·rw [add_block] at h1; exact far a _ ha h1 rfl
 ·rw [add_block] at h1; omega
def SV (SL : Nat → List SlotRow) (k i : Nat) : Value := (((SL k)[i]?).map (·.1)).getD undef
def elN (SL : Nat → List SlotRow) (k i : Nat) : List Value := [.int .i64 (k : Int), .int .i64 (i : Int), SV SL k i]
def el (SL : Nat → List SlotRow) (L : Nat → Nat) (k i : Nat) : List Value := if i < L k then elN SL k i else [.int .i64 (-1 - (k : Int)), .int .i64 0, .slice none 0 0]
def cont (SL : Nat → List SlotRow) (L : Nat → Nat) (k m : Nat) : List Value := cat (el SL L k) m
theorem elN_len (SL : Nat → List SlotRow) (k : Nat) : ∀ i, (elN SL k i).length = 3 := fun _ => rfl
theorem el_len (SL : Nat → List SlotRow) (L : Nat → Nat) (k : Nat) : ∀ i, (el SL L k i).length = 3 := fun i => by unfold el; split <;> rfl
theorem set_el {f : Nat → List Value} (hf : ∀ i, (f i).length = 3) (i : Nat) (D : List Value) (a b v : Value) (hi : f i = [a, b, v]) (hD : D[2]? = some v) : ((cat f i ++ D).set (i * 3) a).set (i * 3 + 1) b = cat f (i + 1) ++ D.drop 3 := by
 match D, hD with
 | x :: y :: z :: r, hD =>
  have : z = v := by simpa using hD
  subst this; rw [List.set_append_right _ _ (by rw [cat_len hf]; omega), cat_len hf, Nat.sub_self, List.set_append_right _ _ (by rw [cat_len hf]; omega), cat_len hf, show i * 3 + 1 - i * 3 = 1 by omega, cat, hi]; simp
theorem slots_apart (SL : Nat → List SlotRow) (n base : Nat) (u : Value) (w wr : World) (hO : wr.ownsRow w.heap.size 25 1 u (FL SL n).length (FL SL n)) (hr : ∀ p ∈ Flat SL n, wr.ownsRow base 35 2 p.1 p.2.1 p.2.2 ∧ (p.2.1 + 64) * 16 ≤ 140737488355328) (ha : RowsApart (Flat SL n)) (ht : (Flat SL n).length ≤ 2199023255552) (hb : base ≤ wr.heap.size) :
    Calls Try.prog 18 #[u] wr fun e w' => e = .returned (.bool true) ∧ But (fun b => ∃ p ∈ Flat SL n, p.1.ownBlock = some b) wr w' := by
 obtain ⟨A, c, rfl, hc⟩ := own_form hO; have hlen : (FL SL n).length = (Flat SL n).length := by unfold FL; rw [List.length_map]
 have hv : ∀ j (h : j < (FL SL n).length), (((Flat SL n)[j]?).map (·.1)).getD undef = ((Flat SL n)[j]'(by omega)).1 := fun j h => by
  simp only [List.getElem?_eq_getElem (show j < (Flat SL n).length by omega), Option.map_some, Option.getD_some]
 refine (apart_values (fun p => (((Flat SL n)[p]?).map (·.1)).getD undef) (fun p => (((Flat SL n)[p]?).map (·.2.1)).getD 0) (FL SL n).length base A c wr (fun p => (((Flat SL n)[p]?).map (·.2.2)).getD []) ⟨?_, ?_, by omega, ?_, hb⟩ ⟨?_, ?_, But.refl _ _⟩).mono ?_
 ·intro i j b hi hj hij h1 h2; rw [hv i hi] at h1; rw [hv j hj] at h2; rw [RowsApart, List.pairwise_iff_getElem] at ha
  rcases Nat.lt_or_ge i j with h | h
  ·exact ha i j (by omega) (by omega) h b h1 h2
  ·exact ha j i (by omega) (by omega) (by omega) b h2 h1
 ·intro j b a hj haA h1 h2; subst haA; rw [hv j hj] at h1; have h3 := (hr _ (List.getElem_mem (show j < (Flat SL n).length by omega))).1; obtain ⟨g, _, e, _⟩ := hO.form (by omega)
  cases e; exact Grow.own_type_ne2 hO h3 (by decide) g rfl (by rw [h1, ← h2])
 ·intro j hj; simp only [List.getElem?_eq_getElem (show j < (Flat SL n).length by omega), Option.map_some, Option.getD_some]; exact (hr _ (List.getElem_mem _)).2
 ·intro j hj; simp only [List.getElem?_eq_getElem (show j < (Flat SL n).length by omega), Option.map_some, Option.getD_some]; exact (hr _ (List.getElem_mem _)).1
 ·intro j hj; obtain ⟨g, _, e, _⟩ := hO.form (by omega)
  cases e; refine ⟨_, rfl, ?_⟩; rw [hv j hj, add_plain]; have := (own_cell hO j ((Flat SL n)[j]'(by omega)).1 (by unfold FL; rw [List.getElem?_map, List.getElem?_eq_getElem (by omega)]; rfl)).1
  simpa using this
 ·rintro e w' ⟨he, hB⟩; refine ⟨he, hB.mono fun b h => ?_⟩; obtain ⟨j, hj, h⟩ := h; rw [hv j hj] at h; exact ⟨_, List.getElem_mem _, h⟩
theorem fA40 {l i : Nat} (h : (l + 64) * 40 ≤ 140737488355328) (hi : i < 64) : l + i + 1 ≤ maxLen := by unfold maxLen; omega
theorem fB40 {l i : Nat} (h : (l + 64) * 40 ≤ 140737488355328) (hi : i < 64) : (l + i + 1) * 40 ≤ 140737488355328 := Nat.le_trans (Nat.mul_le_mul_right 40 (show l + i + 1 ≤ l + 64 by omega)) h
theorem fH40 {b : Nat} {w0 w : World} (h : b ≤ w0.heap.size) (h2 : w0.heap.size ≤ w.heap.size) (o : Obj) : b ≤ (w.alloc o).heap.size := by rw [World.size_alloc]; omega
theorem fH41 {w0 w : World} (h2 : w0.heap.size ≤ w.heap.size) (o : Obj) : w0.heap.size ≤ (w.alloc o).heap.size := by rw [World.size_alloc]; omega
theorem fA24 {n p : Nat} (h : n * 24 ≤ 140737488351232) (hp : p < n) : p + 1 ≤ maxLen := by unfold maxLen; omega
theorem fB24 {n p : Nat} (h : n * 24 ≤ 140737488351232) (hp : p < n) : (p + 1) * 24 ≤ 140737488355328 := by omega
theorem info50v : (Try.prog.info? 50).map (fun i => (i.zero, i.size, i.bytes)) = some (some (.slice none 0 0), 1, 24) := by kernel_rfl
set_option maxHeartbeats 4000000 in
set_option maxRecDepth 100000 in
theorem apart_frames (V : Nat → Value) (L : Nat → Nat) (O : Nat → List Value) (SL : Nat → List SlotRow) (n base : Nat) (ad : Option Addr) (c : Nat) (w : World) (hyp : FHyp V L O SL n base ad w) :
    Calls Try.prog 26 #[.slice ad n c] w fun e w' => e = .returned (.bool true) ∧ But (fun b => OwnOf V n b ∨ ∃ p ∈ Flat SL n, p.1.ownBlock = some b) w w' := by
 have HY := Aside0.mk hyp; have hn := hyp.lim; clear hyp; obtain ⟨i25, hi25, hz25⟩ := Option.map_eq_some_iff.1 info25; simp only [Prod.mk.injEq] at hz25; have HI25 := Aside0.mk hi25; have HZ25 := Aside0.mk hz25; clear hi25 hz25; go_enter Try.func26, Try.ntmps26; go_wp2_with (fail)
 go_loopw [3, 4, 5] (fun gv t _ wr => ∃ k : Nat, k ≤ n ∧ t = .int .i64 k ∧ wr.ownsRow w.heap.size 25 1 gv (FL SL k).length (FL SL k) ∧ Below w.heap.size w wr) (fun _ t _ _ => n - (intOf t).toNat)
 case atStart => exact ⟨0, Nat.zero_le _, rfl, World.ownsRow_nil _ _ _ _, Below.refl _ _⟩
 case round =>
  obtain ⟨k, hk, rfl, hO, hB⟩ := hrel; have HO := Aside0.mk hO; have HB := Aside0.mk hB; clear hO hB
  by_cases hlt : k < n
  ·go_wp2_with (fail)
   obtain ⟨a, rfl, hcell0⟩ := HY.out.outer k hlt; obtain ⟨A, cp, hVk, hcp⟩ := own_form (HY.out.own k hlt); have hlk := HY.out.lims k hlt; have HV := Aside0.mk hVk; have HC0 := Aside0.mk hcell0; have HKN := Aside0.mk hlt; clear hVk hcell0; obtain ⟨wo, rfl⟩ : ∃ wo : World, wo = wr := ⟨_, rfl⟩; go_loopw [3, 5] (fun gv t wr => ∃ i : Nat, i ≤ L k ∧ t = .int .i64 i ∧ wr.ownsRow w.heap.size 25 1 gv (FL SL k ++ ((SL k).map (·.1)).take i).length (FL SL k ++ ((SL k).map (·.1)).take i) ∧ Below w.heap.size w wr) (fun _ t _ => L k - (intOf t).toNat)
   case atStart => exact ⟨0, Nat.zero_le _, rfl, by simpa using HO.out, HB.out⟩
   case round =>
    clear HO HB; obtain ⟨i, hi, rfl, hO, hB⟩ := hrel; have HO := Aside0.mk hO; have HB := Aside0.mk hB; have hcell := pw_cell_below hB HC0.out; rw [HV.out] at hcell; clear hO hB
    by_cases hil : i < L k
    ·obtain ⟨g, cp', hVg, _, _⟩ := (HY.out.own k hlt).form (by omega); have hVe := HV.out; rw [hVg] at hVe
     cases hVe; have ho := HY.out.own k hlt; rw [hVg] at ho; obtain ⟨p, hp⟩ : ∃ p, (SL k)[i]? = some p := ⟨_, List.getElem?_eq_getElem (by rw [HY.out.len k hlt]; exact hil)⟩; have hsv := pw_cell_below HB.out (own_cell ho (i * 3 + 2) _ (HY.out.slot k hlt i p hp)).1; have hpm : p ∈ Flat SL n := by
      unfold Flat; rw [List.mem_flatMap]; exact ⟨k, List.mem_range.2 hlt, List.mem_of_getElem? hp⟩
     obtain ⟨Ap, cp2, hpv, _⟩ := own_form (HY.out.rows p hpm).1; have hsnoc : FL SL k ++ ((SL k).map (·.1)).take (i + 1) = FL SL k ++ ((SL k).map (·.1)).take i ++ [p.1] := by
      have hil' : i < ((SL k).map (·.1)).length := by rw [List.length_map, HY.out.len k hlt]; exact hil
      rw [List.take_succ_eq_append_getElem hil', List.append_assoc]
      congr 2
      rw [List.getElem_map]; have := (List.getElem?_eq_some_iff.1 hp).2; rw [this]
     have htot : (FL SL k ++ ((SL k).map (·.1)).take i).length ≤ 2199023255552 := by
      have h1 := flat_len SL (k + 1) n (by omega); have h2 := HY.out.tot; rw [flat_succ, List.length_append, HY.out.len k hlt] at h1; have h3 : (FL SL k).length = (Flat SL k).length := by unfold FL; rw [List.length_map]
      rw [List.length_append, List.length_take, List.length_map, HY.out.len k hlt, h3]
      omega
     have HSN := Aside0.mk hsnoc; have HTT := Aside0.mk htot; rw [hpv] at hsv; have HPV := Aside0.mk hpv; have HVg := Aside0.mk hVg; clear hsnoc htot hpv ho hpm hp hVg
     generalize hrow : FL SL k ++ ((SL k).map (·.1)).take i = rowk at *
     go_wp2_with (first | ((with_reducible refine gate_builtin (b := .append) (xs := #[.tmp 30, .tmp 39]) rfl ?_); at_builtin; refine wpList_append_two rfl (.tmp 30) (.tmp 39) 37 rfl w.heap.size 25 i25 (.slice none 0 0) 1 24 Try.underlying37 HI25.out HZ25.out.1 HZ25.out.2.1 HZ25.out.2.2 rfl (by decide) u3 rowk.length rowk rfl ?bO ⟨wr.heap.size, 0, none⟩ 1 1 [.slice Ap p.2.1 cp2] rfl rfl (cells_new wr _ 25) ?bU (by decide) ?bL ?bB ?bH ?_; (case bO => exact (but_alloc wr _).own HO.out (fun _ _ h => h)); (case bU => simp [Value.oneCell']); (case bL => have := HTT.out; unfold maxLen; omega); (case bB => have := HTT.out; omega); (case bH => have := HB.out.size; simp; omega); intro g2 cap w9 q1 q2 q3; have Q := Aside0.mk (And.intro q1 (And.intro q2 q3)); clear q1 q2 q3))
     go_roundw
     case rel =>
      obtain ⟨q1, q2, q3⟩ := Q.out; refine ⟨i + 1, by omega, by go_num, ?_, ?_⟩
      ·rw [HSN.out, List.length_append, ← HPV.out] at *; exact q1
      ·have ba := below_alloc HB.out (.cells #[.slice Ap p.2.1 cp2] 25)
       rcases q3 with ⟨e, hg⟩ | ⟨_, hg⟩
       ·exact ba.grown hg ba.size (fun q hq => by
         cases hq; have := own_base HO.out g2 (by rw [e]; rfl); exact this)
       ·exact ba.grown hg ba.size (fun q hq => by cases hq)
     case measure => simp [intOf]; omega
    ·obtain rfl : i = L k := by omega
     have hfull : FL SL k ++ ((SL k).map (·.1)).take (L k) = FL SL (k + 1) := by
      rw [fl_succ, List.take_of_length_le (by rw [List.length_map, HY.out.len k hlt]; exact Nat.le_refl _)]
     have HFU := Aside0.mk hfull; clear hfull; go_wp2_with (fail)
     go_roundw
     case rel => exact ⟨k + 1, by omega, by go_num, by have := HO.out; rw [HFU.out] at this; exact this, HB.out⟩
     case measure => simp [intOf]; omega
  ·obtain rfl : k = n := by omega
   go_wp2_with (fail)
   have hwb := Nat.le_trans HY.out.base HB.out.size; refine (slots_apart SL k base u3 w wr HO.out (fun p hp => ⟨(But.of_below HB.out).own (HY.out.rows p hp).1 (fun _ _ h => h), (HY.out.rows p hp).2⟩) HY.out.aparts HY.out.tot hwb).mono ?_
   rintro e w2 ⟨rfl, b2⟩; have hbut : But (fun b => ∃ p ∈ Flat SL k, p.1.ownBlock = some b) w w2 := ((But.of_below HB.out).mono (fun _ h => h.elim)).trans b2 (fun b hb => .inl hb); have HBU := Aside0.mk hbut; have HG : Aside0 (Grow.Hyp V k base (OutA V k ad w2.heap.size) w2) := ⟨HY.out.apart, outA_but HY.out.far, Nat.le_trans HY.out.base hbut.size⟩; have hst : Grow.St1 27 3 V L k base (OutA V k ad w2.heap.size) w2 w2 O := ⟨fun j hj => hbut.own (HY.out.own j hj) (fun b hb ⟨p, hp, hpb⟩ => Grow.own_type_ne2 (HY.out.own j hj) (HY.out.rows p hp).1 (by decide) b hb hpb),
    fun j hj => (let ⟨a, ha, hc⟩ := HY.out.outer j hj; ⟨a, ha, hbut.cell hc (fun ⟨p, hp, hpb⟩ => HY.out.fars a p _ ha hp hpb (add_block a j).symm), by have := World.block_lt_of_cell? w _ hc; rw [add_block] at this; exact Nat.lt_of_lt_of_le this hbut.size⟩), But.refl _ _⟩
   have HST := Aside0.mk hst; clear hst hbut b2 hwb hk hlt HO HB; go_wp2_with (fail)
   obtain ⟨wo, rfl⟩ : ∃ wo : World, wo = w2 := ⟨_, rfl⟩; go_loopw [6, 7] (fun t _ wr => ∃ j : Nat, j ≤ k ∧ t = .int .i64 j ∧ ∃ X, Grow.St1 27 3 V L k base (OutA V k ad wo.heap.size) wo wr X ∧ (∀ i, i < j → X i = cat (elN SL i) (L i)) ∧ ∀ i, j ≤ i → X i = O i) (fun t _ _ => k - (intOf t).toNat)
   case atStart => exact ⟨0, Nat.zero_le _, rfl, O, HST.out, fun i hi => absurd hi (by omega), fun _ _ => rfl⟩
   case round =>
    clear HST; obtain ⟨j, hj, rfl, X, hS, hX1, hX2⟩ := hrel; have HS := Aside0.mk hS; have HX1 := Aside0.mk hX1; have HX2 := Aside0.mk hX2; clear hS hX1 hX2
    by_cases hjk : j < k
    ·obtain ⟨a, rfl, hcell, _⟩ := HS.out.outer j hjk; obtain ⟨A, cp, hVk, hcp⟩ := own_form (HS.out.own j hjk); have hlk := HY.out.lims j hjk; rw [hVk] at hcell; have HV := Aside0.mk hVk; clear hVk; go_wp2_with (fail)
     clear hcell; obtain ⟨wp, rfl⟩ : ∃ wp : World, wp = wr := ⟨_, rfl⟩; go_loopw [7] (fun t wr => ∃ i : Nat, i ≤ L j ∧ t = .int .i64 i ∧ ∃ X, Grow.St1 27 3 V L k base (OutA V k (some a) wo.heap.size) wo wr X ∧ (∀ i', i' < j → X i' = cat (elN SL i') (L i')) ∧ (∀ i', j < i' → X i' = O i') ∧ X j = cat (elN SL j) i ++ (O j).drop (i * 3)) (fun t _ => L j - (intOf t).toNat)
     case atStart => exact ⟨0, Nat.zero_le _, rfl, X, HS.out, HX1.out, fun i' hi' => HX2.out i' (by omega), by rw [HX2.out j (Nat.le_refl _)]; simp [cat]⟩
     case round =>
      clear HS HX1 HX2; obtain ⟨i, hi, rfl, X, hS, hX1, hX2, hX3⟩ := hrel; have HS := Aside0.mk hS; have HX1 := Aside0.mk hX1; have HX2 := Aside0.mk hX2; have HX3 := Aside0.mk hX3; clear hS hX1 hX2 hX3; obtain ⟨_, ha0, hcell, _⟩ := HS.out.outer j hjk; obtain rfl := Option.some.inj ha0; rw [HV.out] at hcell; clear ha0
      by_cases hil : i < L j
      ·obtain ⟨g, cp', hVg, _, _⟩ := (HS.out.own j hjk).form (by omega); have hVe := HV.out; rw [hVg] at hVe
       cases hVe; have ho := HS.out.own j hjk; rw [hVg] at ho; have hXl : (X j).length = L j * 3 := (HS.out.own j hjk).1; obtain ⟨c0, f0⟩ := own_cell ho (i * 3) _ (List.getElem?_eq_getElem (by omega)); have HVg := Aside0.mk hVg; have HXL := Aside0.mk hXl
       generalize (X j)[i * 3]'_ = x0 at c0
       clear ho hVg hXl; go_upto_region 18 with (fail)
       clear hcell c0 f0; have HS2 := Aside0.mk (HS.out.set HG.out hjk HVg.out (i * 3) (.int .i64 (j : Int))); clear HS
       generalize wr.setCell ⟨g, i * 3, none⟩ (.int .i64 (j : Int)) = wq at *
       obtain ⟨_, ha0, hcell, _⟩ := HS2.out.outer j hjk; obtain rfl := Option.some.inj ha0; rw [HVg.out] at hcell; have ho := HS2.out.own j hjk; rw [HVg.out] at ho; obtain ⟨c1, f1⟩ := own_cell ho (i * 3 + 1) _ (List.getElem?_eq_getElem (by rw [if_pos rfl, List.length_set]; have := HXL.out; omega))
       generalize hx1 : (if j = j then (X j).set (i * 3) (.int .i64 (j : Int)) else X j)[i * 3 + 1]'_ = x1 at c1
       clear ho ha0 hx1; go_wp2_with (fail)
       go_roundw
       case rel =>
        have hS3 := HS2.out.set HG.out hjk HVg.out (i * 3 + 1) (.int .i64 (i : Int)); refine ⟨i + 1, by omega, by go_num, _, hS3, fun i' hi' => ?_, fun i' hi' => ?_, ?_⟩
        ·show (if i' = j then _ else (if i' = j then _ else X i')) = _; rw [if_neg (by omega), if_neg (by omega)]; exact HX1.out i' hi'
        ·show (if i' = j then _ else (if i' = j then _ else X i')) = _; rw [if_neg (by omega), if_neg (by omega)]; exact HX2.out i' hi'
        ·show (if j = j then (if j = j then (X j).set (i * 3) (.int .i64 (j : Int)) else X j).set (i * 3 + 1) (.int .i64 (i : Int)) else _) = _; rw [if_pos rfl, if_pos rfl, HX3.out]; obtain ⟨p, hp⟩ : ∃ p, (SL j)[i]? = some p := ⟨_, List.getElem?_eq_getElem (by rw [HY.out.len j hjk]; exact hil)⟩; have hsv : SV SL j i = p.1 := by unfold SV; rw [hp]; rfl
         have h2 : ((O j).drop (i * 3))[2]? = some (SV SL j i) := by rw [List.getElem?_drop, hsv]; exact HY.out.slot j hjk i p hp
         rw [set_el (elN_len SL j) i _ _ _ _ rfl h2, List.drop_drop]
         congr 2
         omega
       case measure => simp [intOf]; omega
      ·obtain rfl : i = L j := by omega
       go_wp2_with (fail)
       go_roundw
       case rel =>
        refine ⟨j + 1, by omega, by go_num, X, HS.out, fun i' hi' => ?_, fun i' hi' => HX2.out i' (by omega)⟩
        rcases Nat.lt_or_ge i' j with h | h
        ·exact HX1.out i' h
        ·obtain rfl : i' = j := by omega
         have h1 := (HY.out.own i' hjk).1; rw [HX3.out, List.drop_of_length_le (by omega), List.append_nil]
       case measure => simp [intOf]; omega
    ·obtain rfl : j = k := by omega
     have HS2 := Aside0.mk (Grow.St2.of1 (R := 64) (cont := cont SL L) HS.out (fun i hi => by rw [HX1.out i hi]; exact cat_congr _ (fun q hq => by unfold el; rw [if_pos hq]))); clear HS HX1 HX2 hj hjk; obtain ⟨i27, hi27, hz27⟩ := Option.map_eq_some_iff.1 info27; simp only [Prod.mk.injEq] at hz27; have HI27 := Aside0.mk hi27; have HZ27 := Aside0.mk hz27; obtain ⟨i50, hi50, hz50⟩ := Option.map_eq_some_iff.1 info50v; simp only [Prod.mk.injEq] at hz50; have HI50 := Aside0.mk hi50; have HZ50 := Aside0.mk hz50; clear hi27 hz27 hi50 hz50; have HPRE := Aside0.mk (show ∀ q m, q < j → (cont SL L q (L q + m)).take (L q * 3) = cont SL L q (L q) from fun q m _ => cat_take (el_len SL L q) (L q) m); go_wp2_with (fail)
     go_loopw [8, 9, 10, 11] (fun gv t _ _ wr => ∃ p : Nat, p ≤ j ∧ t = .int .i64 p ∧ ∃ Gv, Gv.length = p ∧ Grow.St2 27 3 64 (cont SL L) V L j base (OutA V j ad wo.heap.size) wo wr Gv ∧ wr.ownsRow wo.heap.size 50 1 gv p Gv) (fun _ t _ _ _ => j - (intOf t).toNat)
     case atStart => exact ⟨0, Nat.zero_le _, rfl, [], rfl, HS2.out, World.ownsRow_nil _ _ _ _⟩
     case round =>
      clear HS2; obtain ⟨p, hp, rfl, Gv, hG, hS, hO⟩ := hrel; have HGL := Aside0.mk hG; have HS3 := Aside0.mk hS; have HO := Aside0.mk hO; clear hG hS hO
      by_cases hpj : p < j
      ·obtain ⟨a, rfl, hcell, hal⟩ := HS3.out.outer p hpj; obtain ⟨A, cp, hVj, hcp⟩ := own_form (HS3.out.own p hpj); rw [hVj] at hcell; have HV := Aside0.mk hVj; have hlj := HY.out.lims p hpj; clear hVj; go_wp2_with (fail)
       clear hcell; obtain ⟨wp, rfl⟩ : ∃ wp : World, wp = wr := ⟨_, rfl⟩; go_loopw [10, 11] (fun u t wr => ∃ i : Nat, i ≤ 64 ∧ t = .int .i64 i ∧ Grow.St2 27 3 64 (cont SL L) V L j base (OutA V j (some a) wo.heap.size) wo wr Gv ∧ Grow.Cur 27 3 (cont SL L) V L j base wo wr Gv p i u ∧ wr.ownsRow wo.heap.size 50 1 u8 p Gv) (fun _ t _ => 64 - (intOf t).toNat)
       case atStart => exact ⟨0, by omega, rfl, HS3.out, HV.out ▸ Grow.Cur.start HG.out HS3.out hpj (by have := HGL.out; omega), HO.out⟩
       case round =>
        clear HS3 HO; obtain ⟨i, hi, rfl, hS, hC, hO⟩ := hrel; have HS4 := Aside0.mk hS; have HC4 := Aside0.mk hC; have HO4 := Aside0.mk hO; clear hS hC hO
        by_cases hil : i < 64
        ·have hcnt : cont SL L p (L p + (i + 1)) = cont SL L p (L p + i) ++ [.int .i64 (-1 - (p : Int)), .int .i64 0, .slice none 0 0] := by
          unfold cont; rw [← Nat.add_assoc, cat]
          congr 1
          unfold el; rw [if_neg (by omega)]
         have HCNT := Aside0.mk hcnt; clear hcnt; go_wp2_with (first | ((with_reducible refine gate_builtin (b := .append) (xs := #[.tmp 89, .tmp 93]) rfl ?_); at_builtin; refine wpList_append_two rfl (.tmp 89) (.tmp 93) 50 rfl base 27 i27 (.agg #[.int .i64 0, .int .i64 0, .slice none 0 0]) 3 40 Try.underlying50 HI27.out HZ27.out.1 HZ27.out.2.1 HZ27.out.2.2 rfl (by decide) u10 (L p + i) (cont SL L p (L p + i)) rfl ?aO ⟨wr.heap.size, 0, none⟩ 1 1 [.int .i64 (-1 - (p : Int)), .int .i64 0, .slice none 0 0] rfl rfl (cells_new wr _ 27) ?aU (by decide) ?aL ?aB ?aH ?_; (case aO => exact (HC4.out.but_ (but_alloc wr _) (fun _ _ h => h)).own); (case aU => simp [Value.oneCell']); (case aL => exact fA40 hlj hil); (case aB => exact fB40 hlj hil); (case aH => exact fH40 HG.out.base HS4.out.but.size _); intro g cap w9 q1 q2 q3; have Q := Aside0.mk (And.intro q1 (And.intro q2 q3)); clear q1 q2 q3))
         go_roundw
         case rel =>
          obtain ⟨q1, q2, q3⟩ := Q.out; rw [← HCNT.out] at q1; have ba := but_alloc wr (.cells #[.int .i64 (-1 - (p : Int)), .int .i64 0, .slice none 0 0] 27); obtain ⟨S2, C2, b2⟩ := Grow.grow_step HG.out HPRE.out (HS4.out.far HG.out ba) hpj (HC4.out.but_ ba (fun _ _ h => h)) q1 q2 q3; exact ⟨i + 1, by omega, by go_num, S2, C2, b2.own (ba.own HO4.out (fun _ _ h => h)) (fun b hb hs => Grow.own_type_ne2 HO4.out HC4.out.own (by decide) b hb hs)⟩
         case measure => simp [intOf]; omega
        ·obtain rfl : i = 64 := by omega
         obtain ⟨A7, c7, rfl, hc7⟩ := own_form HC4.out.own; go_wp2_with (first | ((with_reducible refine gate_builtin (b := .append) (xs := #[.tmp 95, .tmp 97]) rfl ?_); at_builtin; refine wpList_append_two rfl (.tmp 95) (.tmp 97) 56 rfl wo.heap.size 50 i50 (.slice none 0 0) 1 24 Try.underlying56 HI50.out HZ50.out.1 HZ50.out.2.1 HZ50.out.2.2 rfl (by decide) u8 p Gv rfl ?bO ⟨wr.heap.size, 0, none⟩ 1 1 [.slice A7 (L p + 64) c7] rfl rfl (cells_new wr _ 50) ?bU (by decide) ?bL ?bB ?bH ?_; (case bO => exact (but_alloc wr _).own HO4.out (fun _ _ h => h)); (case bU => simp [Value.oneCell']); (case bL => exact fA24 hn hpj); (case bB => exact fB24 hn hpj); (case bH => exact fH41 HS4.out.but.size _); intro g cap w9 q1 q2 q3; have Q := Aside0.mk (And.intro q1 (And.intro q2 q3)); clear q1 q2 q3))
         go_roundw
         case rel =>
          obtain ⟨q1, q2, q3⟩ := Q.out; have ba := but_alloc wr (.cells #[.slice A7 (L p + 64) c7] 50); have S1 := HS4.out.far HG.out ba; have C1 := HC4.out.but_ ba (fun _ _ h => h); have O1 := ba.own HO4.out (fun _ _ h => h); have S2 := S1.snoc hpj HGL.out C1; have b2 : But (fun b => u8.ownBlock = some b) (wr.alloc (.cells #[.slice A7 (L p + 64) c7] 50)) w9 := by
           rcases q3 with ⟨e, hg⟩ | ⟨_, hg⟩
           ·rw [e]; exact But.of_grown hg
           ·exact (But.of_grown hg).mono (fun q hq => by cases hq)
          refine ⟨p + 1, by omega, by go_num, Gv ++ [.slice A7 (L p + 64) c7], by rw [List.length_append, HGL.out]; rfl, S2.but_ HG.out b2 (fun i hi b hb hs => Grow.own_type_ne2 O1 (S2.own i hi) (by decide) b hs hb) (fun i v hv b hb hs => Grow.own_type_ne2 O1 (S2.grown i v hv).2.1 (by decide) b hs hb) (fun b hb => own_base O1 b hb), q1⟩
         case measure => simp [intOf]; omega
      ·obtain rfl : p = j := by omega
       clear hp hpj; have HCN := Aside0.mk (show ∀ q, q < p → ∀ i, i < L q → (cont SL L q (L q))[i * 3]? = some (.int .i64 (q : Int)) ∧ (cont SL L q (L q))[i * 3 + 1]? = some (.int .i64 (i : Int)) from fun q hq i hi => by
        have e : el SL L q i = elN SL q i := by unfold el; rw [if_pos hi]
        have h0 := cat_get (el_len SL L q) (q := i) (j := 0) (by decide) (L q) hi; have h1 := cat_get (el_len SL L q) (q := i) (j := 1) (by decide) (L q) hi; rw [e] at h0 h1; exact ⟨h0, h1⟩)
       have HCG := Aside0.mk (show ∀ q, q < p → ∀ i, L q ≤ i → i < L q + 64 → (cont SL L q (L q + 64))[i * 3]? = some (.int .i64 (-1 - (q : Int))) from fun q hq i hi hi2 => by
        have e : el SL L q i = [.int .i64 (-1 - (q : Int)), .int .i64 0, .slice none 0 0] := by unfold el; rw [if_neg (by omega)]
        have h0 := cat_get (el_len SL L q) (q := i) (j := 0) (by decide) (L q + 64) hi2; rw [e] at h0; exact h0)
       go_wp2_with (fail)
       go_loopw [12, 13, 14] (fun t _ _ wr => ∃ q : Nat, q ≤ p ∧ t = .int .i64 q ∧ Grow.St2 27 3 64 (cont SL L) V L p base (OutA V p ad wo.heap.size) wo wr Gv ∧ wr.ownsRow wo.heap.size 50 1 u8 p Gv) (fun t _ _ _ => p - (intOf t).toNat)
       case atStart => exact ⟨0, Nat.zero_le _, rfl, HS3.out, HO.out⟩
       case round =>
        clear HS3 HO; obtain ⟨q, hq, rfl, hS, hO⟩ := hrel; have HS5 := Aside0.mk hS; have HO5 := Aside0.mk hO; clear hS hO
        by_cases hqp : q < p
        ·have hGl := HGL.out; obtain ⟨g5, cp5, rfl, _, _⟩ := HO5.out.form (by omega); obtain ⟨v, hv⟩ : ∃ v, Gv[q]? = some v := ⟨_, List.getElem?_eq_getElem (by omega)⟩; obtain ⟨b, cb, rfl, _, _⟩ := (HS5.out.grown q v hv).2.1.form (by omega); obtain ⟨a, rfl, hcell0, _⟩ := HS5.out.outer q hqp; obtain ⟨A, cp, hVj, hcp⟩ := own_form (HS5.out.own q hqp); have HV := Aside0.mk hVj; have HVC := Aside0.mk hv; have hlj := HY.out.lims q hqp; rw [hVj] at hcell0; clear hVj hv hGl; go_wp2_with (fail)
         clear hcell0; obtain ⟨wp, rfl⟩ : ∃ wp : World, wp = wr := ⟨_, rfl⟩; go_loopw [13] (fun t wr => ∃ i : Nat, L q ≤ i ∧ i ≤ L q + 64 ∧ t = .int .i64 i ∧ Grow.St2 27 3 64 (cont SL L) V L p base (OutA V p (some a) wo.heap.size) wo wr Gv ∧ wr.ownsRow wo.heap.size 50 1 (.slice (some ⟨g5, 0, none⟩) p cp5) p Gv) (fun t _ => L q + 64 - (intOf t).toNat)
         case atStart => exact ⟨L q, Nat.le_refl _, by omega, rfl, HS5.out, HO5.out⟩
         case round =>
          clear HS5 HO5; obtain ⟨i, hi1, hi2, rfl, hS, hO⟩ := hrel; have HS6 := Aside0.mk hS; have HO6 := Aside0.mk hO; have hgs := (own_cell hO q _ HVC.out).1; have hgo := (hS.grown q _ HVC.out).2.1; clear hS hO
          by_cases hil : i < L q + 64
          ·have x0 := (own_cell hgo (i * 3) _ (HCG.out q hqp i hi1 hil)).1; clear hgo; go_wp2_with (fail)
           go_roundw
           case rel => exact ⟨i + 1, by omega, by omega, by go_num, HS6.out, HO6.out⟩
           case measure => simp [intOf]; omega
          ·obtain rfl : i = L q + 64 := by omega
           clear hgo; obtain ⟨_, ha0, hcell, _⟩ := HS6.out.outer q hqp; obtain rfl := Option.some.inj ha0; rw [HV.out] at hcell; clear ha0; go_wp2_with (fail)
           clear hcell hgs; obtain ⟨wp2, rfl⟩ : ∃ wp : World, wp = wr := ⟨_, rfl⟩; go_loopw [14] (fun t wr => ∃ i : Nat, i ≤ L q ∧ t = .int .i64 i ∧ Grow.St2 27 3 64 (cont SL L) V L p base (OutA V p (some a) wo.heap.size) wo wr Gv ∧ wr.ownsRow wo.heap.size 50 1 (.slice (some ⟨g5, 0, none⟩) p cp5) p Gv) (fun t _ => L q - (intOf t).toNat)
           case atStart => exact ⟨0, Nat.zero_le _, rfl, HS6.out, HO6.out⟩
           case round =>
            clear HS6 HO6; obtain ⟨i, hi, rfl, hS, hO⟩ := hrel; have HS7 := Aside0.mk hS; have HO7 := Aside0.mk hO; obtain ⟨_, ha0, hcell, _⟩ := hS.outer q hqp; obtain rfl := Option.some.inj ha0; rw [HV.out] at hcell; have hvo := hS.own q hqp; rw [HV.out] at hvo; clear hS hO ha0
            by_cases hil : i < L q
            ·obtain ⟨gv, cv, hAv, _, _⟩ := hvo.form (by omega)
             cases hAv; have y0 := (own_cell hvo (i * 3) _ (HCN.out q hqp i hil).1).1; have y1 := (own_cell hvo (i * 3 + 1) _ (HCN.out q hqp i hil).2).1; clear hvo; go_wp2_with (fail)
             go_roundw
             case rel => exact ⟨i + 1, by omega, by go_num, HS7.out, HO7.out⟩
             case measure => simp [intOf]; omega
            ·obtain rfl : i = L q := by omega
             clear hvo; go_wp2_with (fail)
             go_roundw
             case rel => exact ⟨q + 1, by omega, by go_num, HS7.out, HO7.out⟩
             case measure => simp [intOf]; omega
        ·go_wp2_with (fail)
         go_ret; exact ⟨rfl, (HBU.out.mono (fun b h => .inr h)).trans HS5.out.but (fun b h => .inl (.inl h))⟩
end AF
end Go.Proofs.Ytgbbcjooieggpaa.PFr
