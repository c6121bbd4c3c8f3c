/- The texts of a claim, one behind the other: HHand0 HShapes HBlock RegLast3 HCode HMarked Same SameK HSameEv HKept. -/
import Derived.Test.YtjekpkpmoanadaaCr2
/- HandCode: lists with marks behind them; what HandCode carries. For every world. -/
namespace Go.Proofs.Ytjekpkpmoanadaa.Hd
open Go.RowKit Go.Proofs.Ytjekpkpmoanadaa.PCop Go.Proofs.Ytjekpkpmoanadaa.Lit Go.Proofs.Ytjekpkpmoanadaa.OwnCells Go.Proofs.YtjekpkpmoanadaaW.PrintWords Go.Proofs.YtjekpkpmoanadaaW.PrintLast Go.Proofs.YtjekpkpmoanadaaW.PrintMore
set_option linter.unusedVariables false
set_option linter.unusedSimpArgs false
def mkO (i : Nat) : S49 := ⟨-7, (i : Int)⟩
def mkS (i : Nat) : S65 := ⟨-7, (i : Int), []⟩
def mkN (i : Nat) : Int := -7 - (i : Int)
def mkI (i : Nat) : S47 := ⟨-7, 0, 0, [], 0, (i : Int), 0, []⟩
def mkB (i : Nat) : S43 := ⟨-7 - (i : Int), [], []⟩
def full {α : Type} (m : Nat → α) (l : List α) : List α := l ++ (List.range' 0 16).map m
theorem full_len {α : Type} (m : Nat → α) (l : List α) : (full m l).length = l.length + 16 := by simp [full]
theorem full_take {α : Type} (m : Nat → α) (l : List α) : (full m l).take l.length = l := by unfold full; rw [List.take_left']; rfl
theorem range_snoc (n : Nat) : List.range' 0 (n + 1) = List.range' 0 n ++ [n] := by rw [List.range'_concat]; simp
theorem full_snoc {α : Type} (m : Nat → α) (l : List α) (k : Nat) : l ++ (List.range' 0 (k + 1)).map m = l ++ (List.range' 0 k).map m ++ [m k] := by rw [range_snoc, List.map_append, List.append_assoc]; rfl
theorem wrapN {n : Nat} (h : n < 9223372036854775807) : wrap64 ((n : Int) + 1) = ((n + 1 : Nat) : Int) := by unfold wrap64; omega
theorem rd49_at {l : List S49} {p : Nat} (h : p < l.length) : rd_T49 l (p : Int) = l[p] := by
  unfold rd_T49; rw [Int.toNat_natCast, List.getD_eq_getElem?_getD, List.getElem?_eq_getElem h]; rfl
theorem rd65_at {l : List S65} {p : Nat} (h : p < l.length) : rd_T65 l (p : Int) = l[p] := by
  unfold rd_T65; rw [Int.toNat_natCast, List.getD_eq_getElem?_getD, List.getElem?_eq_getElem h]; rfl
theorem rd47_at {l : List S47} {p : Nat} (h : p < l.length) : rd_T47 l (p : Int) = l[p] := by
  unfold rd_T47; rw [Int.toNat_natCast, List.getD_eq_getElem?_getD, List.getElem?_eq_getElem h]; rfl
theorem rd43_at {l : List S43} {p : Nat} (h : p < l.length) : rd_T43 l (p : Int) = l[p] := by
  unfold rd_T43; rw [Int.toNat_natCast, List.getD_eq_getElem?_getD, List.getElem?_eq_getElem h]; rfl
/-! markedOpnds, plainly -/
theorem mo_l1 (l : List S49) (hl : l.length ≤ 1048576) : ∀ (n p : Nat), p + n = 16 → ∀ k, n + 1 ≤ k → portagekit_markedOpnds.l1 k (l ++ (List.range' 0 p).map mkO) (p : Int) = some (full mkO l) := by
  intro n
  induction n with
  | zero =>
    intro p hp k hk
    obtain ⟨k, rfl⟩ : ∃ k', k = k' + 1 := ⟨k - 1, by omega⟩
    obtain rfl : p = 16 := by omega
    unfold portagekit_markedOpnds.l1
    rw [if_neg (by omega)]; rfl
  | succ n ih =>
    intro p hp k hk
    obtain ⟨k, rfl⟩ : ∃ k', k = k' + 1 := ⟨k - 1, by omega⟩
    unfold portagekit_markedOpnds.l1
    rw [if_pos (by omega), if_pos (by simp; omega), wrapN (by omega)]
    have := ih (p + 1) (by omega) k (by omega)
    rw [full_snoc] at this
    exact this
theorem mo_l0 (l : List S49) (hl : l.length ≤ 1048576) : ∀ (n p : Nat), p + n = l.length → ∀ k, n + 18 ≤ k → portagekit_markedOpnds.l0 k l (l.take p) (p : Int) = some (full mkO l) := by
  intro n
  induction n with
  | zero =>
    intro p hp k hk
    obtain ⟨k, rfl⟩ : ∃ k', k = k' + 1 := ⟨k - 1, by omega⟩
    unfold portagekit_markedOpnds.l0
    rw [if_neg (by omega), List.take_of_length_le (by omega)]
    have := mo_l1 l hl 16 0 (by omega) k (by omega)
    simpa using this
  | succ n ih =>
    intro p hp k hk
    obtain ⟨k, rfl⟩ : ∃ k', k = k' + 1 := ⟨k - 1, by omega⟩
    have hlt : p < l.length := by omega
    have e : l.take p ++ [(⟨(rd_T49 l (p : Int)).f0, (rd_T49 l (p : Int)).f1⟩ : S49)] = l.take (p + 1) := by
      rw [List.take_succ_eq_append_getElem hlt, rd49_at hlt]
    unfold portagekit_markedOpnds.l0
    rw [if_pos (by omega), if_pos (by omega), if_pos (by rw [List.length_take]; omega), wrapN (by omega), e]
    exact ih (p + 1) (by omega) k (by omega)
theorem marked_opnds (A : Option Addr) (c : Nat) (l : List S49) (w : World) (hA : k49.C w A l.length l) (hc : l.length ≤ c) (hl : l.length ≤ 1048576) :
    Calls Try.prog 43 #[.slice A l.length c] w fun e w' => ∃ B d, e = .returned (.slice B (full mkO l).length d) ∧ k49.R 49 w' w.heap.size (fun _ => True) (.slice B (full mkO l).length d) (full mkO l) ∧ Below w.heap.size w w' :=
  (portagekit_markedOpnds.calls 1048600 A c l (full mkO l) w hA hc (mo_l0 l hl l.length 0 (by omega) 1048600 (by omega))).mono (by
    rintro e w' ⟨v, rfl, hR, hb⟩
    obtain ⟨B, d, rfl, _⟩ := Kd.R_reads hR
    exact ⟨B, d, rfl, hR, hb⟩)
/-! rows apart -/
theorem M_apart {α β : Type} {d : Kd α} {d' : Kd β} {e base base' : Nat} {ok ok' : Nat → Prop} {w : World} {v : Value} {ys : List β} {x : α} {cs : List Value} (h : d.M w base ok x cs) (hv : d'.R e w base' ok' v ys) (ht : ∀ q, q ∈ d.E → q ≠ e) : d.M w base (fun k => ok k ∧ some k ≠ v.ownBlock) x cs := by
  obtain ⟨_, inner, ho, _⟩ := hv
  cases hob : v.ownBlock with
  | none => exact d.M_mono (fun k hk => ⟨hk, by simp⟩) h
  | some g =>
    obtain ⟨cells, hc⟩ := own_typed ho g hob
    exact d.M_mono (fun k hk => ⟨hk.1, fun he => hk.2 (by injection he)⟩) (Kd.M_types h hc ht)
/-- what is of no type in T is left -/
def Ty (T : List Nat) (w w1 : World) : Prop := ∀ (k : Nat) (c : Array Value) (q : Nat), w.heap[k]? = some (.cells c q (0, 0)) → q ∉ T → w1.heap[k]? = w.heap[k]?
theorem Ty.refl (T : List Nat) (w : World) : Ty T w w := fun _ _ _ _ _ => rfl
theorem Ty.trans {T : List Nat} {a b c : World} (h : Ty T a b) (h' : Ty T b c) : Ty T a c := fun k x q hk hq => by
  have h1 := h k x q hk hq
  rw [hk] at h1
  rw [h' k x q h1 hq, h1, hk]
theorem Ty.below {T : List Nat} {a b : World} (h : Below a.heap.size a b) : Ty T a b := fun k c q hk _ => h.block k (blk_lt hk)
theorem Ty.put {T : List Nat} {a b : World} (h : Ty T a b) {g t : Nat} {cs : Array Value} (hg : b.heap[g]? = some (.cells cs t (0, 0))) (ht : t ∈ T) (j : Nat) (u : Value) : Ty T a (b.setCell ⟨g, j, none⟩ u) := fun k c q hk hq => by
  have h1 := h k c q hk hq
  refine (Below.heap_setCell b ⟨g, j, none⟩ u k (fun e => ?_)).trans h1
  subst e
  rw [hk] at h1
  rw [h1] at hg
  injection hg with hg; injection hg with _ hg
  exact hq (hg ▸ ht)
theorem Ty.grown {T : List Nat} {a b c : World} (h : Ty T a b) {row : Option Nat} (hg : b.grownBy c row) (ht : ∀ k, row = some k → a.heap.size ≤ k ∨ ∃ x q, b.heap[k]? = some (.cells x q (0, 0)) ∧ q ∈ T) : Ty T a c := fun k x q hk hq => by
  have h1 := h k x q hk hq
  have hkb : b.heap[k]? = some (.cells x q (0, 0)) := h1.trans hk
  refine (hg.block k (blk_lt hkb) (fun e => ?_)).trans h1
  rcases ht k e.symm with h2 | ⟨x', q', h2, h3⟩
  · exact absurd (blk_lt hk) (by omega)
  · rw [hkb] at h2
    injection h2 with h2; injection h2 with _ h2
    exact hq (h2 ▸ h3)
theorem R_ty {α : Type} {d : Kd α} {e base : Nat} {ok : Nat → Prop} {w w1 : World} {v : Value} {xs : List α} {T : List Nat} (h : d.R e w base ok v xs) (hT : ∀ q, q ∈ e :: d.E → q ∉ T) (hy : Ty T w w1) : d.R e w1 base ok v xs :=
  Kd.R_mono (Kd.R_step (Kd.R_bound h) (fun k hk hlt => by
    obtain ⟨_, _, _, q, hq, c, hc⟩ := hk
    exact hy k c q hc (hT q hq))) (fun k hk => hk.1)
theorem blk_ty {w w1 : World} {g t : Nat} {cs : Array Value} {T : List Nat} (h : w.heap[g]? = some (.cells cs t (0, 0))) (ht : t ∉ T) (hy : Ty T w w1) : w1.heap[g]? = some (.cells cs t (0, 0)) := (hy g cs t h ht).trans h
/-- what HandCode has made so far -/
structure H (b g : Nat) (pO pS pN pI pB : Nat → Prop) (w : World) (vO vS vN vI vB : Value) (O : List (List S49)) (S : List (List S65)) (NX : List (List Int)) (I : List (List S47)) (B : List S43) : Prop where
  blk : w.heap[g]? = some (.cells #[.int .i64 0, .int .i64 0, .slice none 0 0, vO, vS, vN, vI, vB] 34 (0, 0))
  hg : b ≤ g
  ro : (Kd.slice 49 k49).R 44 w b pO vO O
  rs : (Kd.slice 65 k65).R 45 w b pS vS S
  rn : (Kd.slice 3 (Kd.int .i64)).R 41 w b pN vN NX
  ri : (Kd.slice 47 k47).R 40 w b pI vI I
  rb : k43.R 43 w b pB vB B
  mo : ∀ x ∈ O, ∃ p : List S49, p.length ≤ 1048576 ∧ x = full mkO p
  ms : ∀ x ∈ S, ∃ p : List S65, p.length ≤ 1048576 ∧ x = full mkS p
  mn : ∀ x ∈ NX, ∃ p : List Int, p.length ≤ 1048576 ∧ x = full mkN p
  mi : ∀ x ∈ I, ∃ p : List S47, p.length ≤ 1048576 ∧ x = full mkI p
section
variable {b g N : Nat} {pO pS pN pI pB qO qS qN qI qB : Nat → Prop} {w w1 : World} {vO vS vN vI vB v v1 : Value} {O : List (List S49)} {S : List (List S65)} {NX : List (List Int)} {I : List (List S47)} {B : List S43}
theorem H.below (h : H b g pO pS pN pI pB w vO vS vN vI vB O S NX I B) (hb : Below w.heap.size w w1) : H b g pO pS pN pI pB w1 vO vS vN vI vB O S NX I B :=
  ⟨blk_below h.blk hb, h.hg, Kd.R_below h.ro hb, Kd.R_below h.rs hb, Kd.R_below h.rn hb, Kd.R_below h.ri hb, Kd.R_below h.rb hb, h.mo, h.ms, h.mn, h.mi⟩
theorem H.mono (h : H b g pO pS pN pI pB w vO vS vN vI vB O S NX I B) (hO : ∀ k, pO k → k < w.heap.size → qO k) (hS : ∀ k, pS k → k < w.heap.size → qS k) (hN : ∀ k, pN k → k < w.heap.size → qN k) (hI : ∀ k, pI k → k < w.heap.size → qI k) (hB : ∀ k, pB k → k < w.heap.size → qB k) : H b g qO qS qN qI qB w vO vS vN vI vB O S NX I B :=
  ⟨h.blk, h.hg, Kd.R_mono (Kd.R_bound h.ro) (fun k hk => hO k hk.1 hk.2.2.1), Kd.R_mono (Kd.R_bound h.rs) (fun k hk => hS k hk.1 hk.2.2.1), Kd.R_mono (Kd.R_bound h.rn) (fun k hk => hN k hk.1 hk.2.2.1), Kd.R_mono (Kd.R_bound h.ri) (fun k hk => hI k hk.1 hk.2.2.1), Kd.R_mono (Kd.R_bound h.rb) (fun k hk => hB k hk.1 hk.2.2.1), h.mo, h.ms, h.mn, h.mi⟩
/-- a row of another's grows -/
theorem H.grown {e b' : Nat} {row : Option Nat} (h : H b g pO pS pN pI pB w vO vS vN vI vB O S NX I B) (hg : w.grownBy w1 row) (hty : ∀ k, row = some k → ∃ c, w.heap[k]? = some (.cells c e (0, 0))) (hge : ∀ k, row = some k → b' ≤ k) (h37 : 34 ≠ e)
    (cO : (∀ q ∈ 44 :: (Kd.slice 49 k49).E, q ≠ e) ∨ ∀ j, pO j → j < b') (cS : (∀ q ∈ 45 :: (Kd.slice 65 k65).E, q ≠ e) ∨ ∀ j, pS j → j < b') (cN : (∀ q ∈ 41 :: (Kd.slice 3 (Kd.int .i64)).E, q ≠ e) ∨ ∀ j, pN j → j < b') (cI : (∀ q ∈ 40 :: (Kd.slice 47 k47).E, q ≠ e) ∨ ∀ j, pI j → j < b') (cB : (∀ q ∈ 43 :: k43.E, q ≠ e) ∨ ∀ j, pB j → j < b') : H b g pO pS pN pI pB w1 vO vS vN vI vB O S NX I B := by
  have gen : ∀ {β : Type} {d' : Kd β} {e' : Nat} {p : Nat → Prop} {u : Value} {ys : List β}, d'.R e' w b p u ys → ((∀ q ∈ e' :: d'.E, q ≠ e) ∨ ∀ j, p j → j < b') → d'.R e' w1 b p u ys := by
    intro β d' e' p u ys hu hc
    refine Kd.R_mono (Kd.R_grown (Kd.R_bound hu) hg (fun k hk he => ?_)) (fun k hk => hk.1)
    obtain ⟨hk0, _, _, q, hq, c, hcc⟩ := hk
    rcases hc with hc | hc
    · obtain ⟨c', hc'⟩ := hty k he.symm
      rw [hcc] at hc'
      injection hc' with hc'; injection hc' with _ hc'
      exact hc q hq hc'
    · have h1 := hc k hk0; have h2 := hge k he.symm; omega
  refine ⟨blk_grown h.blk hg (fun he => ?_), h.hg, gen h.ro cO, gen h.rs cS, gen h.rn cN, gen h.ri cI, gen h.rb cB, h.mo, h.ms, h.mn, h.mi⟩
  obtain ⟨c', hc'⟩ := hty g he.symm
  rw [h.blk] at hc'
  injection hc' with hc'; injection hc' with _ hc'
  exact h37 hc'
theorem grown_set (w : World) (g j : Nat) (u : Value) : w.grownBy (w.setCell ⟨g, j, none⟩ u) (some g) := ⟨rfl, rfl, rfl, by simp [World.setCell], fun k _ hne => Below.heap_setCell w ⟨g, j, none⟩ u k (fun e => hne (by rw [e]))⟩
/-- its own rows grow -/
theorem H.putO {x : List S49} (h : H b g pO pS pN pI pB w vO vS vN vI vB O S NX I B) (hR : (Kd.slice 49 k49).R 44 w1 b pO v1 (O ++ [x])) (hg : w.grownBy w1 vO.ownBlock) (hx : ∃ p : List S49, p.length ≤ 1048576 ∧ x = full mkO p) : H b g pO pS pN pI pB (w1.setCell ⟨g, 3, none⟩ v1) v1 vS vN vI vB (O ++ [x]) S NX I B := by
  have hk := blk_grown h.blk hg (Kd.R_ne h.ro h.blk (by decide))
  exact ⟨blk_put hk 3 v1 rfl, h.hg, Kd.R_set hR hk (by decide) 3 v1, Kd.R_set (Kd.R_over h.rs h.ro (by decide) hg) hk (by decide) 3 v1, Kd.R_set (Kd.R_over h.rn h.ro (by decide) hg) hk (by decide) 3 v1, Kd.R_set (Kd.R_over h.ri h.ro (by decide) hg) hk (by decide) 3 v1, Kd.R_set (Kd.R_over h.rb h.ro (by decide) hg) hk (by decide) 3 v1, fun y hy => (List.mem_append.1 hy).elim (h.mo y) (fun e => by rw [List.mem_singleton.1 e]; exact hx), h.ms, h.mn, h.mi⟩
theorem H.putS {x : List S65} (h : H b g pO pS pN pI pB w vO vS vN vI vB O S NX I B) (hR : (Kd.slice 65 k65).R 45 w1 b pS v1 (S ++ [x])) (hg : w.grownBy w1 vS.ownBlock) (hx : ∃ p : List S65, p.length ≤ 1048576 ∧ x = full mkS p) : H b g pO pS pN pI pB (w1.setCell ⟨g, 4, none⟩ v1) vO v1 vN vI vB O (S ++ [x]) NX I B := by
  have hk := blk_grown h.blk hg (Kd.R_ne h.rs h.blk (by decide))
  exact ⟨blk_put hk 4 v1 rfl, h.hg, Kd.R_set (Kd.R_over h.ro h.rs (by decide) hg) hk (by decide) 4 v1, Kd.R_set hR hk (by decide) 4 v1, Kd.R_set (Kd.R_over h.rn h.rs (by decide) hg) hk (by decide) 4 v1, Kd.R_set (Kd.R_over h.ri h.rs (by decide) hg) hk (by decide) 4 v1, Kd.R_set (Kd.R_over h.rb h.rs (by decide) hg) hk (by decide) 4 v1, h.mo, fun y hy => (List.mem_append.1 hy).elim (h.ms y) (fun e => by rw [List.mem_singleton.1 e]; exact hx), h.mn, h.mi⟩
theorem H.putN {x : List Int} (h : H b g pO pS pN pI pB w vO vS vN vI vB O S NX I B) (hR : (Kd.slice 3 (Kd.int .i64)).R 41 w1 b pN v1 (NX ++ [x])) (hg : w.grownBy w1 vN.ownBlock) (hx : ∃ p : List Int, p.length ≤ 1048576 ∧ x = full mkN p) : H b g pO pS pN pI pB (w1.setCell ⟨g, 5, none⟩ v1) vO vS v1 vI vB O S (NX ++ [x]) I B := by
  have hk := blk_grown h.blk hg (Kd.R_ne h.rn h.blk (by decide))
  exact ⟨blk_put hk 5 v1 rfl, h.hg, Kd.R_set (Kd.R_over h.ro h.rn (by decide) hg) hk (by decide) 5 v1, Kd.R_set (Kd.R_over h.rs h.rn (by decide) hg) hk (by decide) 5 v1, Kd.R_set hR hk (by decide) 5 v1, Kd.R_set (Kd.R_over h.ri h.rn (by decide) hg) hk (by decide) 5 v1, Kd.R_set (Kd.R_over h.rb h.rn (by decide) hg) hk (by decide) 5 v1, h.mo, h.ms, fun y hy => (List.mem_append.1 hy).elim (h.mn y) (fun e => by rw [List.mem_singleton.1 e]; exact hx), h.mi⟩
theorem H.putI {x : List S47} (h : H b g pO pS pN pI pB w vO vS vN vI vB O S NX I B) (hR : (Kd.slice 47 k47).R 40 w1 b pI v1 (I ++ [x])) (hg : w.grownBy w1 vI.ownBlock) (hx : ∃ p : List S47, p.length ≤ 1048576 ∧ x = full mkI p) : H b g pO pS pN pI pB (w1.setCell ⟨g, 6, none⟩ v1) vO vS vN v1 vB O S NX (I ++ [x]) B := by
  have hk := blk_grown h.blk hg (Kd.R_ne h.ri h.blk (by decide))
  exact ⟨blk_put hk 6 v1 rfl, h.hg, Kd.R_set (Kd.R_over h.ro h.ri (by decide) hg) hk (by decide) 6 v1, Kd.R_set (Kd.R_over h.rs h.ri (by decide) hg) hk (by decide) 6 v1, Kd.R_set (Kd.R_over h.rn h.ri (by decide) hg) hk (by decide) 6 v1, Kd.R_set hR hk (by decide) 6 v1, Kd.R_set (Kd.R_over h.rb h.ri (by decide) hg) hk (by decide) 6 v1, h.mo, h.ms, h.mn, fun y hy => (List.mem_append.1 hy).elim (h.mi y) (fun e => by rw [List.mem_singleton.1 e]; exact hx)⟩
theorem H.putB {x : S43} (h : H b g pO pS pN pI pB w vO vS vN vI vB O S NX I B) (hR : k43.R 43 w1 b pB v1 (B ++ [x])) (hg : w.grownBy w1 vB.ownBlock) : H b g pO pS pN pI pB (w1.setCell ⟨g, 7, none⟩ v1) vO vS vN vI v1 O S NX I (B ++ [x]) := by
  have hk := blk_grown h.blk hg (Kd.R_ne h.rb h.blk (by decide))
  exact ⟨blk_put hk 7 v1 rfl, h.hg, Kd.R_set (Kd.R_over h.ro h.rb (by decide) hg) hk (by decide) 7 v1, Kd.R_set (Kd.R_over h.rs h.rb (by decide) hg) hk (by decide) 7 v1, Kd.R_set (Kd.R_over h.rn h.rb (by decide) hg) hk (by decide) 7 v1, Kd.R_set (Kd.R_over h.ri h.rb (by decide) hg) hk (by decide) 7 v1, Kd.R_set hR hk (by decide) 7 v1, h.mo, h.ms, h.mn, h.mi⟩
end
end Go.Proofs.Ytjekpkpmoanadaa.Hd
/- handShapes: the same shapes, with marks; what it leaves. For every world. -/
namespace Go.Proofs.Ytjekpkpmoanadaa.Hd
open Go.RowKit Go.Proofs.Ytjekpkpmoanadaa.PCop Go.Proofs.Ytjekpkpmoanadaa.Lit Go.Proofs.Ytjekpkpmoanadaa.OwnCells Go.Proofs.YtjekpkpmoanadaaW.PrintWords Go.Proofs.YtjekpkpmoanadaaW.PrintLast Go.Proofs.YtjekpkpmoanadaaW.PrintMore
set_option linter.unusedVariables false
set_option linter.unusedSimpArgs false
theorem cut_cap {P : Program} (t e : TypeId) (kh : IntKind) {i : TypeInfo} (ht : P.underlying t = some (.slice e)) (hi : P.info? e = some i) (A : Option Addr) (n c : Nat) (j : Int) (h0 : 0 ≤ j) (hm : j ≤ c) :
    ∀ W : World, (Instr.slice t (.slice A n c) none (some (.int kh j)) none).run P W = .ok (.slice A j.toNat c) W := by
  intro W
  have hel : P.elem t = e := by simp [Program.elem, ht]
  have hu : P.underlying t = some (.slice (P.elem t)) := by rw [hel]; exact ht
  have ha : (A.map fun x => x.add 0) = A := by cases A <;> simp [Addr.add]
  rw [run_slice_h W t A n c hu kh j h0 (by omega), hel]
  simp [sizeOf, typeInfo, hi, sliced, Result.andThen, ha]
theorem bodies (w : World) (o : Obj) : Below w.heap.size w (w.alloc o) := below_alloc (Below.refl _ _) o
theorem inf65 : (Try.prog.info? 65).map (fun i => (i.zero, i.size, i.bytes)) = some (some (.agg #[(.int .i64 0), (.int .i64 0), (.slice none 0 0)]), 3, 40) := by kernel_rfl
theorem ge44 {n d : Nat} {w : World} {base : Nat} {α : Type} {dd : Kd α} {e : Nat} {ok : Nat → Prop} {B : Option Addr} {xs : List α} (h : dd.R e w base ok (.slice B n d) xs) : n ≤ d := (Kd.R_reads' h).2.1
structure SmallS (l : List S65) : Prop where
  len : l.length ≤ 1048576
  each : ∀ s ∈ l, s.f2.length ≤ 1048576
set_option maxHeartbeats 8000000 in
set_option maxRecDepth 100000 in
theorem hand_shapes (w0 : World) (g : Nat) (AL : Option Addr) (cL : Nat) (l : List S65) (w : World) (pN pI pB : Nat → Prop) (vO vS vN vI vB : Value) (O : List (List S49)) (S : List (List S65)) (NX : List (List Int)) (I : List (List S47)) (B : List S43)
    (hl : k65.C w0 AL l.length l) (hcl : l.length ≤ cL) (hs : SmallS l) (hb : Below w0.heap.size w0 w) (hH : H w0.heap.size g (fun _ => True) (fun _ => True) pN pI pB w vO vS vN vI vB O S NX I B) (hOl : O.length + l.length ≤ 2199023255552) (hSl : S.length + 1 ≤ 2199023255552) :
    Calls Try.prog 44 #[.pointer (some ⟨g, 0, none⟩), .slice AL l.length cL] w fun e w' => ∃ A c vO' vS' O' S', e = .returned (.slice A l.length c) ∧ k65.R 65 w' w.heap.size (fun _ => True) (.slice A (full mkS l).length c) (full mkS l) ∧ H w0.heap.size g (fun _ => True) (fun _ => True) pN pI pB w' vO' vS' vN vI vB O' S' NX I B ∧ O'.length = O.length + l.length ∧ S'.length = S.length + 1 ∧ Below w0.heap.size w0 w' ∧ Ty [34, 44, 45] w w' := by
  have HL := Aside0.mk hl
  have HSM := Aside0.mk hs
  have hlen := hs.len
  have HN0 := Aside0.mk hb.size
  obtain ⟨i70, hi70, _⟩ := Option.map_eq_some_iff.1 info49
  obtain ⟨i72, hi72, _⟩ := Option.map_eq_some_iff.1 inf65
  have HI49 := Aside0.mk hi70
  have HI65 := Aside0.mk hi72
  have HSZ := Aside0.mk (And.intro hOl hSl)
  have HST := Aside0.mk (hH.mono (qO := fun _ => True) (qS := fun k => k < w.heap.size) (qN := fun k => pN k ∧ k < w.heap.size) (qI := fun k => pI k ∧ k < w.heap.size) (qB := fun k => pB k ∧ k < w.heap.size) (fun _ _ _ => trivial) (fun _ _ h => h) (fun _ h h2 => ⟨h, h2⟩) (fun _ h h2 => ⟨h, h2⟩) (fun _ h h2 => ⟨h, h2⟩))
  have HBB := Aside0.mk hb
  clear hl hs hOl hSl hH hb hi70 hi72
  go_enter Try.func44, Try.ntmps44
  go_upto_region 2 with (fail)
  go_wp2_with (fail)
  go_loopw [5, 6, 7, 8] (fun v t _ _ wr => ∃ k : Nat, k ≤ l.length ∧ t = .int .i64 k ∧ ∃ vO' O', H w0.heap.size g (fun _ => True) (fun k => k < w.heap.size) (fun k => pN k ∧ k < w.heap.size) (fun k => pI k ∧ k < w.heap.size) (fun k => pB k ∧ k < w.heap.size) wr vO' vS vN vI vB O' S NX I B ∧ O'.length = O.length + k ∧ k65.R 65 wr w.heap.size (fun _ => True) v (l.take k) ∧ Below w0.heap.size w0 wr ∧ Ty [34, 44, 45] w wr ∧ w.heap.size ≤ wr.heap.size) (fun _ t _ _ _ => l.length - (intOf t).toNat)
  case atStart => exact ⟨0, Nat.zero_le _, rfl, vO, O, HST.out, rfl, Kd.R_nil _ _ _ _ _, HBB.out, Ty.refl _ _, Nat.le_refl _⟩
  case round =>
    clear HST HBB
    obtain ⟨k, hk, rfl, vO', O', hH, hOl, hR, hb, hy, hsz⟩ := hrel
    have HST := Aside0.mk hH
    have HOL := Aside0.mk hOl
    have HR := Aside0.mk hR
    have HBB := Aside0.mk hb
    have HTY := Aside0.mk hy
    have HSW := Aside0.mk hsz
    clear hH hOl hR hb hy hsz
    obtain ⟨PV, mV, dV, rfl⟩ : ∃ P m d, u5 = .slice P m d := let ⟨A, c, h, _⟩ := Kd.R_reads HR.out; ⟨_, _, _, h⟩
    by_cases hlt : k < l.length
    · obtain ⟨ad, A2, c2, rfl, x0, x1, x2, hA2, hC2⟩ := at_T65 HL.out (k : Int) (by omega) (by omega)
      rw [Int.toNat_natCast] at x0 x1 x2
      have hx2 : (rd_T65 l (k : Int)).f2.length ≤ 1048576 := by rw [rd65_at hlt]; exact HSM.out.each _ (List.getElem_mem _)
      have hxe : l.take k ++ [rd_T65 l (k : Int)] = l.take (k + 1) := by rw [List.take_succ_eq_append_getElem hlt, rd65_at hlt]
      generalize rd_T65 l (k : Int) = x at *
      have HX2 := Aside0.mk hx2
      have HXE := Aside0.mk hxe
      have XC := Aside0.mk (fun W (b : Below w0.heap.size w0 W) => And.intro (pw_cell_below b x0) (And.intro (pw_cell_below b x1) (pw_cell_below b x2)))
      have HCA := Aside0.mk hA2
      have HCC := Aside0.mk hC2
      clear x0 x1 x2 hA2 hC2 hx2 hxe
      obtain ⟨x0, x1, x2⟩ := XC.out wr HBB.out
      go_upto_region 6 with (fail)
      clear x0 x1 x2
      have HG7 := Aside0.mk HSW.out
      have hb2 := bodies wr (.cells #[.int .i64 x.f0, .int .i64 x.f1, .slice A2 x.f2.length c2] 65)
      have K7 := blk_new wr (.cells #[.int .i64 x.f0, .int .i64 x.f1, .slice A2 x.f2.length c2] 65)
      replace HST := Aside0.mk (HST.out.below hb2)
      replace HR := Aside0.mk (Kd.R_below (Kd.R_elderB HR.out wr.heap.size (Nat.le_refl _)) hb2)
      replace HBB := Aside0.mk (HBB.out.trans (hb2.mono HBB.out.size))
      replace HTY := Aside0.mk (HTY.out.trans (Ty.below hb2))
      replace HSW := Aside0.mk (Nat.le_trans HSW.out hb2.size)
      clear hb2
      generalize wr.alloc (.cells #[.int .i64 x.f0, .int .i64 x.f1, .slice A2 x.f2.length c2] 65) = w2 at *
      generalize wr.heap.size = g7 at *
      have HK7 := Aside0.mk K7
      clear K7
      obtain ⟨x0, x1, x2⟩ := XC.out w2 HBB.out
      go_wp2_with (fail)
      refine (marked_opnds A2 c2 x.f2 w2 (Kd.C_below HCC.out HBB.out) HCA.out HX2.out).mono ?_
      rintro e w3 ⟨B8, d8, rfl, hR8, hb3⟩
      have HR8 := Aside0.mk (Kd.R_lower hR8 HSW.out)
      replace HST := Aside0.mk (HST.out.below hb3)
      replace HR := Aside0.mk (Kd.R_below HR.out hb3)
      replace HBB := Aside0.mk (HBB.out.trans (hb3.mono HBB.out.size))
      replace HTY := Aside0.mk (HTY.out.trans (Ty.below hb3))
      replace HSW := Aside0.mk (Nat.le_trans HSW.out hb3.size)
      replace HK7 := Aside0.mk (blk_below HK7.out hb3)
      clear hR8 hb3 x0 x1 x2
      obtain ⟨PO, mO, dO, rfl⟩ : ∃ P m d, vO' = .slice P m d := let ⟨A, c, h, _⟩ := Kd.R_reads HST.out.ro; ⟨_, _, _, h⟩
      have p3 : w3.cell? ⟨g, 3, none⟩ = some (.slice PO mO dO) := blk_cell HST.out.blk 3
      go_wp2_with (first | ((with_reducible refine gate_builtin (b := .append) rfl ?_); refine Classical.byContradiction (fun hcon => ?hstA)) | go_in)
      refine hcon ?_
      clear hcon p3
      refine Kd.R_append (Kd.slice 49 k49) (w0 := w3) w0.heap.size rfl _ _ 29 44 (.slice none 0 0) 24 rfl Try.underlying29 (by kernel_rfl) rfl (by decide) (by decide) (.slice PO mO dO) O' (full mkO x.f2) [.slice B8 (full mkO x.f2).length d8] (fun _ => True) _ rfl rfl (M_apart (d := Kd.slice 49 k49) ⟨_, rfl, Kd.R_lower HR8.out HN0.out⟩ HST.out.ro (by decide)) (fun _ h => h) (fun _ _ => trivial) HST.out.ro (Below.refl _ _) (Nat.le_trans HN0.out HSW.out) (by have := HOL.out; have := HSZ.out.1; omega) ?_
      intro v1 w4 hR1 _ hg1 _
      obtain ⟨P1, m1, d1, rfl⟩ : ∃ P m d, v1 = .slice P m d := let ⟨A, c, h, _⟩ := Kd.R_reads hR1; ⟨_, _, _, h⟩
      have hkg := blk_grown HST.out.blk hg1 (Kd.R_ne HST.out.ro HST.out.blk (by decide))
      have p3 : w4.cell? ⟨g, 3, none⟩ = some (.slice PO mO dO) := blk_cell hkg 3
      have f3 := blk_frozen hkg 3
      have hb4 : Below w0.heap.size w0 w4 := HBB.out.grown hg1 (Nat.le_trans HN0.out HSW.out) (Kd.R_base HST.out.ro)
      go_upto_region 8 with (fail)
      have HB5 := Aside0.mk (below_set (j := 3) (v := .slice P1 m1 d1) hb4 HST.out.hg)
      have HT5 := Aside0.mk (Ty.put (Ty.grown HTY.out hg1 (fun q hq => .inr (let ⟨c, h⟩ := Kd.R_typed HST.out.ro q hq; ⟨c, 44, h, by decide⟩))) hkg (by decide) 3 (.slice P1 m1 d1))
      have HK5 := Aside0.mk (blk_far (blk_grown HK7.out hg1 (Kd.R_ne HST.out.ro HK7.out (by decide))) (p := ⟨g, 3, none⟩) (blk_ne (blk_grown HK7.out hg1 (Kd.R_ne HST.out.ro HK7.out (by decide))) hkg (by decide)) (.slice P1 m1 d1))
      have HR85 := Aside0.mk (Kd.R_set (Kd.R_over HR8.out HST.out.ro (by decide) hg1) hkg (by decide) 3 (.slice P1 m1 d1))
      have HR5 := Aside0.mk (Kd.R_set (Kd.R_over HR.out HST.out.ro (by decide) hg1) hkg (by decide) 3 (.slice P1 m1 d1))
      have HS5 : Aside0 (w.heap.size ≤ (w4.setCell ⟨g, 3, none⟩ (.slice P1 m1 d1)).heap.size) := ⟨Nat.le_trans HSW.out (Nat.le_trans hg1.size (by simp [World.setCell]))⟩
      have HH5 := Aside0.mk (HST.out.putO hR1 hg1 ⟨x.f2, HX2.out, rfl⟩)
      clear hkg p3 f3 hb4 hR1 hg1 HST HR HBB HTY HSW HK7 HR8
      generalize w4.setCell ⟨g, 3, none⟩ (.slice P1 m1 d1) = w5 at *
      have hcut := cut_cap (P := Try.prog) 44 49 .i64 Try.underlying44 HI49.out B8 (full mkO x.f2).length d8 (x.f2.length : Int) (by omega) (by have := ge44 HR85.out; rw [full_len] at this; omega)
      rw [Int.toNat_natCast] at hcut
      obtain ⟨x0, x1, x2⟩ := XC.out w5 HB5.out
      have y2 : w5.cell? ⟨g7, 2, none⟩ = some (.slice A2 x.f2.length c2) := blk_cell HK5.out 2
      have f2 := blk_frozen HK5.out 2
      go_upto_region 9 with (fail)
      clear hcut x0 x1 x2 y2 f2
      have hg7 := grown_set w5 g7 2 (.slice B8 x.f2.length d8)
      have HB6 := Aside0.mk (below_set (j := 2) (v := .slice B8 x.f2.length d8) HB5.out (Nat.le_trans HN0.out HG7.out))
      have HT6 := Aside0.mk (Ty.grown HT5.out hg7 (fun q hq => .inl (by injection hq with hq; rw [← hq]; exact HG7.out)))
      have HK6 := Aside0.mk (blk_put HK5.out 2 (.slice B8 x.f2.length d8) (cs' := #[.int .i64 x.f0, .int .i64 x.f1, .slice B8 x.f2.length d8]) rfl)
      have HR86 := Aside0.mk (Kd.R_set HR85.out HK5.out (by decide) 2 (.slice B8 x.f2.length d8))
      have HR6 := Aside0.mk (Kd.R_mono (ok' := fun _ => True) (Kd.R_far HR5.out (p := ⟨g7, 2, none⟩) (fun q hq => hq.2) (.slice B8 x.f2.length d8)) (fun _ _ => trivial))
      have HH6 := Aside0.mk (HH5.out.grown (e := 65) (b' := w.heap.size) hg7 (fun q hq => by injection hq with hq; rw [← hq]; exact ⟨_, HK5.out⟩) (fun q hq => by injection hq with hq; rw [← hq]; exact HG7.out) (by decide) (.inl (by decide)) (.inr (fun _ h => h)) (.inl (by decide)) (.inr (fun _ h => h.2)) (.inr (fun _ h => h.2)))
      have HS6 : Aside0 (w.heap.size ≤ (w5.setCell ⟨g7, 2, none⟩ (.slice B8 x.f2.length d8)).heap.size) := ⟨Nat.le_trans HS5.out hg7.size⟩
      clear hg7 HH5 HR5 HR85 HK5 HT5 HB5 HS5
      generalize w5.setCell ⟨g7, 2, none⟩ (.slice B8 x.f2.length d8) = w6 at *
      have y0 : w6.cell? ⟨g7, 0, none⟩ = some (.int .i64 x.f0) := blk_cell HK6.out 0
      have y1 : w6.cell? ⟨g7, 1, none⟩ = some (.int .i64 x.f1) := blk_cell HK6.out 1
      have y2 : w6.cell? ⟨g7, 2, none⟩ = some (.slice B8 x.f2.length d8) := blk_cell HK6.out 2
      have hcut8 := Kd.R_take (m := x.f2.length) HR86.out (by rw [full_len]; omega)
      rw [full_take] at hcut8
      have HC8 := Aside0.mk hcut8
      clear hcut8
      go_wp2_with (first | ((with_reducible refine gate_builtin (b := .append) rfl ?_); refine Classical.byContradiction (fun hcon => ?hstB)) | go_in)
      refine hcon ?_
      clear hcon y0 y1 y2
      refine Kd.R_append k65 (w0 := w6) w.heap.size rfl _ _ 45 65 (.agg #[(.int .i64 0), (.int .i64 0), (.slice none 0 0)]) 40 rfl Try.underlying45 (by kernel_rfl) rfl (by decide) (by decide) (.slice PV mV dV) (l.take k) x [.int .i64 x.f0, .int .i64 x.f1, .slice B8 x.f2.length d8] (fun _ => True) _ rfl rfl (M_apart (d := k65) (k65_mkM _ _ _ x HC8.out) HR6.out (by decide)) (fun _ h => h) (fun _ _ => trivial) HR6.out (Below.refl _ _) HS6.out (by rw [List.length_take]; omega) ?_
      intro v1 w7 hR1 _ hg1 _
      have HB7 := Aside0.mk (HB6.out.grown hg1 (Nat.le_trans HN0.out HS6.out) (fun q hq => Nat.le_trans HN0.out (Kd.R_base HR6.out q hq)))
      have HT7 := Aside0.mk (Ty.grown HT6.out hg1 (fun q hq => .inl (Kd.R_base HR6.out q hq)))
      have HH7 := Aside0.mk (HH6.out.grown (e := 65) (b' := w.heap.size) hg1 (Kd.R_typed HR6.out) (Kd.R_base HR6.out) (by decide) (.inl (by decide)) (.inr (fun _ h => h)) (.inl (by decide)) (.inr (fun _ h => h.2)) (.inr (fun _ h => h.2)))
      rw [HXE.out] at hR1
      have HR7 := Aside0.mk hR1
      have HS7 := Aside0.mk (Nat.le_trans HS6.out hg1.size)
      clear hR1 hg1 HB6 HT6 HH6 HR6 HS6 HK6 HR86 HC8
      go_wp2
      go_roundw
      case rel => exact ⟨k + 1, by omega, by go_num, _, _, HH7.out, by rw [List.length_append, HOL.out]; rfl, HR7.out, HB7.out, HT7.out, HS7.out⟩
      case measure => simp [intOf]; omega
    · obtain rfl : k = l.length := by omega
      rw [List.take_length] at HR
      go_wp2_with (fail)
      clear hlt hk
      generalize wr = wM at *
      go_loopw [5, 9] (fun v t wr => ∃ k : Nat, k ≤ 16 ∧ t = .int .i64 k ∧ H w0.heap.size g (fun _ => True) (fun k => k < w.heap.size) (fun k => pN k ∧ k < w.heap.size) (fun k => pI k ∧ k < w.heap.size) (fun k => pB k ∧ k < w.heap.size) wr vO' vS vN vI vB O' S NX I B ∧ k65.R 65 wr w.heap.size (fun _ => True) v (l ++ (List.range' 0 k).map mkS) ∧ Below w0.heap.size w0 wr ∧ Ty [34, 44, 45] w wr ∧ w.heap.size ≤ wr.heap.size) (fun _ t _ => 16 - (intOf t).toNat)
      case atStart => exact ⟨0, by omega, rfl, HST.out, by simpa using HR.out, HBB.out, HTY.out, HSW.out⟩
      case round =>
        clear HST HR HBB HTY HSW
        obtain ⟨i, hi, rfl, hH, hR, hb, hy, hsz⟩ := hrel
        have HST := Aside0.mk hH
        have HR := Aside0.mk hR
        have HBB := Aside0.mk hb
        have HTY := Aside0.mk hy
        have HSW := Aside0.mk hsz
        clear hH hR hb hy hsz
        obtain ⟨PV, mV, dV, rfl⟩ : ∃ P m d, u5 = .slice P m d := let ⟨A, c, h, _⟩ := Kd.R_reads HR.out; ⟨_, _, _, h⟩
        by_cases hlt : i < 16
        · go_wp2_with (first | ((with_reducible refine gate_builtin (b := .append) rfl ?_); refine Classical.byContradiction (fun hcon => ?hstC)) | go_in)
          refine hcon ?_
          clear hcon
          refine Kd.R_append k65 (w0 := wr) w.heap.size rfl _ _ 45 65 (.agg #[(.int .i64 0), (.int .i64 0), (.slice none 0 0)]) 40 rfl Try.underlying45 (by kernel_rfl) rfl (by decide) (by decide) (.slice PV mV dV) (l ++ (List.range' 0 i).map mkS) (mkS i) [.int .i64 (-7), .int .i64 (i : Int), .slice none 0 0] (fun _ => True) _ rfl rfl (M_apart (d := k65) (k65_mkM _ _ (fun _ => True) (mkS i) (Kd.R_nil _ _ _ _ _)) HR.out (by decide)) (fun _ h => h) (fun _ _ => trivial) HR.out (Below.refl _ _) HSW.out (by simp; omega) ?_
          intro v1 w7 hR1 _ hg1 _
          have HB7 := Aside0.mk (HBB.out.grown hg1 (Nat.le_trans HN0.out HSW.out) (fun q hq => Nat.le_trans HN0.out (Kd.R_base HR.out q hq)))
          have HT7 := Aside0.mk (Ty.grown HTY.out hg1 (fun q hq => .inl (Kd.R_base HR.out q hq)))
          have HH7 := Aside0.mk (HST.out.grown (e := 65) (b' := w.heap.size) hg1 (Kd.R_typed HR.out) (Kd.R_base HR.out) (by decide) (.inl (by decide)) (.inr (fun _ h => h)) (.inl (by decide)) (.inr (fun _ h => h.2)) (.inr (fun _ h => h.2)))
          rw [← full_snoc] at hR1
          have HR7 := Aside0.mk hR1
          have HS7 := Aside0.mk (Nat.le_trans HSW.out hg1.size)
          clear hR1 hg1 HBB HTY HST HR HSW
          go_wp2
          go_roundw
          case rel => exact ⟨i + 1, by omega, by go_num, HH7.out, HR7.out, HB7.out, HT7.out, HS7.out⟩
          case measure => simp [intOf]; omega
        · obtain rfl : i = 16 := by omega
          obtain ⟨PS, mS, dS, rfl⟩ : ∃ P m d, vS = .slice P m d := let ⟨A, c, h, _⟩ := Kd.R_reads HST.out.rs; ⟨_, _, _, h⟩
          have p4 : wr.cell? ⟨g, 4, none⟩ = some (.slice PS mS dS) := blk_cell HST.out.blk 4
          have HF : Aside0 (k65.R 65 wr w.heap.size (fun _ => True) (.slice PV mV dV) (full mkS l)) := ⟨HR.out⟩
          have HST' := Aside0.mk (HST.out.mono (qO := fun _ => True) (qS := fun _ => True) (qN := pN) (qI := pI) (qB := pB) (fun _ _ _ => trivial) (fun _ _ _ => trivial) (fun _ h _ => h.1) (fun _ h _ => h.1) (fun _ h _ => h.1))
          clear HST HR
          go_wp2_with (first | ((with_reducible refine gate_builtin (b := .append) rfl ?_); refine Classical.byContradiction (fun hcon => ?hstD)) | go_in)
          refine hcon ?_
          clear hcon p4
          refine Kd.R_append (Kd.slice 65 k65) (w0 := wr) w0.heap.size rfl _ _ 30 45 (.slice none 0 0) 24 rfl Try.underlying30 (by kernel_rfl) rfl (by decide) (by decide) (.slice PS mS dS) S (full mkS l) [.slice PV mV dV] (fun _ => True) _ rfl rfl (M_apart (d := Kd.slice 65 k65) ⟨_, rfl, Kd.R_lower HF.out HN0.out⟩ HST'.out.rs (by decide)) (fun _ h => h) (fun _ _ => trivial) HST'.out.rs (Below.refl _ _) (Nat.le_trans HN0.out HSW.out) (by have := HSZ.out.2; omega) ?_
          intro v1 w7 hR1 _ hg1 _
          obtain ⟨P1, m1, d1, rfl⟩ : ∃ P m d, v1 = .slice P m d := let ⟨A, c, h, _⟩ := Kd.R_reads hR1; ⟨_, _, _, h⟩
          have hkg := blk_grown HST'.out.blk hg1 (Kd.R_ne HST'.out.rs HST'.out.blk (by decide))
          have p4 : w7.cell? ⟨g, 4, none⟩ = some (.slice PS mS dS) := blk_cell hkg 4
          have f4 := blk_frozen hkg 4
          have hb7 : Below w0.heap.size w0 w7 := HBB.out.grown hg1 (Nat.le_trans HN0.out HSW.out) (Kd.R_base HST'.out.rs)
          go_upto_region 15 with (fail)
          have HB8 := Aside0.mk (below_set (j := 4) (v := .slice P1 m1 d1) hb7 HST'.out.hg)
          have HT8 := Aside0.mk (Ty.put (Ty.grown HTY.out hg1 (fun q hq => .inr (let ⟨c, h⟩ := Kd.R_typed HST'.out.rs q hq; ⟨c, 45, h, by decide⟩))) hkg (by decide) 4 (.slice P1 m1 d1))
          have HF8 := Aside0.mk (Kd.R_set (Kd.R_over HF.out HST'.out.rs (by decide) hg1) hkg (by decide) 4 (.slice P1 m1 d1))
          have HH8 := Aside0.mk (HST'.out.putS hR1 hg1 ⟨l, hlen, rfl⟩)
          clear hkg p4 f4 hb7 hR1 hg1 HST' HF HBB HTY
          generalize w7.setCell ⟨g, 4, none⟩ (.slice P1 m1 d1) = w8 at *
          obtain rfl : mV = (full mkS l).length := (Kd.R_reads' HF8.out).1
          have hcut := cut_cap (P := Try.prog) 45 65 .i64 Try.underlying45 HI65.out PV (full mkS l).length dV (l.length : Int) (by omega) (by have := ge44 HF8.out; rw [full_len] at this; omega)
          rw [Int.toNat_natCast] at hcut
          go_wp2_with (fail)
          go_ret
          exact ⟨PV, dV, _, _, _, _, rfl, HF8.out, HH8.out, HOL.out, by simp, HB8.out, HT8.out⟩
end Go.Proofs.Ytjekpkpmoanadaa.Hd
/- handBlock: the same block, with marks; what it leaves. For every world. -/
namespace Go.Proofs.Ytjekpkpmoanadaa.Hd
open Go.RowKit Go.Proofs.Ytjekpkpmoanadaa.PCop Go.Proofs.Ytjekpkpmoanadaa.Lit Go.Proofs.Ytjekpkpmoanadaa.OwnCells Go.Proofs.YtjekpkpmoanadaaW.PrintWords Go.Proofs.YtjekpkpmoanadaaW.PrintLast Go.Proofs.YtjekpkpmoanadaaW.PrintMore
set_option linter.unusedVariables false
set_option linter.unusedSimpArgs false
theorem inf47 : (Try.prog.info? 47).map (fun i => (i.zero, i.size, i.bytes)) = some (some (.agg #[(.int .i64 0), (.int .i64 0), (.int .i64 0), (.slice none 0 0), (.int .i64 0), (.int .i64 0), (.int .i64 0), (.slice none 0 0)]), 8, 96) := by kernel_rfl
theorem inf3 : (Try.prog.info? 3).map (fun i => (i.zero, i.size, i.bytes)) = some (some (.int .i64 0), 1, 8) := by kernel_rfl
def costI (l : List S47) : Nat := (l.map fun x => 1 + x.f7.length).sum
theorem costI_succ {l : List S47} {k : Nat} (h : k < l.length) : costI (l.take (k + 1)) = costI (l.take k) + (1 + l[k].f7.length) := by
  unfold costI
  rw [List.take_succ_eq_append_getElem h, List.map_append, List.sum_append]; simp
theorem costI_le (l : List S47) (k : Nat) : costI (l.take k) ≤ costI l := by
  have e : costI l = costI (l.take k) + costI (l.drop k) := by
    unfold costI
    rw [← List.sum_append, ← List.map_append, List.take_append_drop]
  omega
structure SmallB (b : S43) : Prop where
  ins : b.f1.length ≤ 1048576
  next : b.f2.length ≤ 1048576
  args : ∀ x ∈ b.f1, x.f3.length ≤ 1048576
  exit : ∀ x ∈ b.f1, SmallS x.f7
def set3 (w : World) (g : Nat) (a0 a1 a2 : Value) : World := ((w.setCell ⟨g, 0, none⟩ a0).setCell ⟨g, 1, none⟩ a1).setCell ⟨g, 2, none⟩ a2
theorem set3_grown (w : World) (g : Nat) (a0 a1 a2 : Value) : w.grownBy (set3 w g a0 a1 a2) (some g) :=
  ⟨rfl, rfl, rfl, by simp [set3, World.setCell], fun k _ hne => by
    have h : k ≠ g := fun e => hne (by rw [e])
    exact (Below.heap_setCell _ ⟨g, 2, none⟩ a2 k h).trans ((Below.heap_setCell _ ⟨g, 1, none⟩ a1 k h).trans (Below.heap_setCell w ⟨g, 0, none⟩ a0 k h))⟩
theorem set3_R {α : Type} {d : Kd α} {e base : Nat} {w : World} {v : Value} {xs : List α} (h : d.R e w base (fun _ => True) v xs) {g t : Nat} {cells : Array Value} (hb : w.heap[g]? = some (.cells cells t (0, 0))) (ht : ∀ q, q ∈ e :: d.E → q ≠ t) (a0 a1 a2 : Value) : d.R e (set3 w g a0 a1 a2) base (fun _ => True) v xs :=
  Kd.R_mono (Kd.R_grown (Kd.R_types h hb ht) (set3_grown w g a0 a1 a2) (fun k hk he => hk.2 (by injection he))) (fun _ _ => trivial)
theorem set3_blk {w : World} {g : Nat} {t : TypeId} {x0 x1 x2 : Value} (h : w.heap[g]? = some (.cells #[x0, x1, x2] t (0, 0))) (a0 a1 a2 : Value) : (set3 w g a0 a1 a2).heap[g]? = some (.cells #[a0, a1, a2] t (0, 0)) :=
  blk_put (blk_put (blk_put h 0 a0 (cs' := #[a0, x1, x2]) rfl) 1 a1 (cs' := #[a0, a1, x2]) rfl) 2 a2 rfl
def dHB26 : Nat → Option Tmp
  | 0 => some 118
  | 1 => some 119
  | 2 => some 120
  | 3 => some 121
  | 4 => some 122
  | 5 => some 123
  | 6 => some 124
  | 7 => some 125
  | 8 => some 126
  | 9 => some 127
  | 10 => some 128
  | 11 => some 129
  | 12 => some 130
  | _ => none
def FHB26 (g3 nI nN nIf nNf : Nat) (pc : Int) (A1 A2 PI PN : Option Addr) (c1 c2 dI dN : Nat) : Nat → World → Value → Prop
  | 0, _, v => v = .pointer (some ⟨g3, 0, none⟩)
  | 1, _, v => v = .int .i64 pc
  | 2, _, v => v = .slice PI nIf dI
  | 3, _, v => v = .pointer (some ⟨g3, 1, none⟩)
  | 4, _, v => v = .slice A1 nI c1
  | 5, _, v => v = .int .i64 (nI : Int)
  | 6, _, v => v = .slice PI nI dI
  | 7, _, v => v = .slice PN nNf dN
  | 8, _, v => v = .pointer (some ⟨g3, 2, none⟩)
  | 9, _, v => v = .slice A2 nN c2
  | 10, _, v => v = .int .i64 (nN : Int)
  | 11, _, v => v = .slice PN nN dN
  | 12, _, v => v = .agg #[.int .i64 pc, .slice PI nI dI, .slice PN nN dN]
  | _, _, _ => True
theorem FHB26_below (g3 nI nN nIf nNf : Nat) (pc : Int) (A1 A2 PI PN : Option Addr) (c1 c2 dI dN : Nat) (i : Nat) (w w1 : World) (v : Value) (h : FHB26 g3 nI nN nIf nNf  pc  A1 A2 PI PN  c1 c2 dI dN  i w v) (hb : Below w.heap.size w w1) : FHB26 g3 nI nN nIf nNf  pc  A1 A2 PI PN  c1 c2 dI dN  i w1 v := by
  match i with
  | 0 | 1 | 2 | 3 | 4 | 5 | 6 | 7 | 8 | 9 | 10 | 11 | 12 => exact h
  | (n + 13) => exact h
set_option maxHeartbeats 16000000 in
set_option maxRecDepth 100000 in
theorem hand_block (w0 : World) (g : Nat) (b : S43) (A1 A2 : Option Addr) (c1 c2 : Nat) (w : World) (vO vS vN vI vB : Value) (O : List (List S49)) (S : List (List S65)) (NX : List (List Int)) (I : List (List S47)) (B : List S43)
    (hI : k47.C w0 A1 b.f1.length b.f1) (hcI : b.f1.length ≤ c1) (hN : (Kd.int .i64).C w0 A2 b.f2.length b.f2) (hcN : b.f2.length ≤ c2) (hs : SmallB b) (hb : Below w0.heap.size w0 w) (hH : H w0.heap.size g (fun _ => True) (fun _ => True) (fun _ => True) (fun _ => True) (fun _ => True) w vO vS vN vI vB O S NX I B) (hOl : O.length + costI b.f1 ≤ 2199023255552) (hSl : S.length + b.f1.length ≤ 2199023255552) (hNl : NX.length + 1 ≤ 2199023255552) (hIl : I.length + 1 ≤ 2199023255552) :
    Calls Try.prog 26 #[.pointer (some ⟨g, 0, none⟩), .agg #[.int .i64 b.f0, .slice A1 b.f1.length c1, .slice A2 b.f2.length c2]] w fun e w' => ∃ PI dI PN dN vO' vS' vN' vI' O' S' NX' I', e = .returned (.agg #[.int .i64 b.f0, .slice PI b.f1.length dI, .slice PN b.f2.length dN]) ∧ k47.R 47 w' w.heap.size (fun _ => True) (.slice PI b.f1.length dI) b.f1 ∧ (Kd.int .i64).R 3 w' w.heap.size (fun _ => True) (.slice PN b.f2.length dN) b.f2 ∧ H w0.heap.size g (fun _ => True) (fun _ => True) (fun _ => True) (fun _ => True) (fun _ => True) w' vO' vS' vN' vI' vB O' S' NX' I' B ∧ O'.length = O.length + costI b.f1 ∧ S'.length = S.length + b.f1.length ∧ NX'.length = NX.length + 1 ∧ I'.length = I.length + 1 ∧ Below w0.heap.size w0 w' := by
  have HI := Aside0.mk hI
  have HCI0 := Aside0.mk hcI
  have HN := Aside0.mk hN
  have HCN0 := Aside0.mk hcN
  have HSM := Aside0.mk hs
  have HN0 := Aside0.mk hb.size
  have hli := hs.ins
  have hln := hs.next
  obtain ⟨i52, hi52, _⟩ := Option.map_eq_some_iff.1 inf47
  obtain ⟨i70, hi70, _⟩ := Option.map_eq_some_iff.1 info49
  obtain ⟨i72, hi72, _⟩ := Option.map_eq_some_iff.1 inf65
  obtain ⟨i3, hi3, _⟩ := Option.map_eq_some_iff.1 inf3
  have HI47 := Aside0.mk hi52
  have HI49 := Aside0.mk hi70
  have HI65 := Aside0.mk hi72
  have HI3 := Aside0.mk hi3
  have HSZ := Aside0.mk (And.intro hOl (And.intro hSl (And.intro hNl hIl)))
  have HST := Aside0.mk (hH.mono (qO := fun _ => True) (qS := fun _ => True) (qN := fun k => k < w.heap.size) (qI := fun k => k < w.heap.size) (qB := fun k => k < w.heap.size) (fun _ _ _ => trivial) (fun _ _ _ => trivial) (fun _ _ h => h) (fun _ _ h => h) (fun _ _ h => h))
  have HBB := Aside0.mk hb
  clear hI hN hs hOl hSl hNl hIl hH hb hcI hcN hi52 hi70 hi72 hi3
  go_enter Try.func26, Try.ntmps26
  go_upto_region 1 with (fail)
  have hb2 := bodies w (.cells #[.int .i64 b.f0, .slice A1 b.f1.length c1, .slice A2 b.f2.length c2] 43)
  have hb3 := bodies (w.alloc (.cells #[.int .i64 b.f0, .slice A1 b.f1.length c1, .slice A2 b.f2.length c2] 43)) (.cells #[.int .i64 0, .slice none 0 0, .slice none 0 0] 43)
  have K3 := blk_below (blk_new w (.cells #[.int .i64 b.f0, .slice A1 b.f1.length c1, .slice A2 b.f2.length c2] 43)) hb3
  have K4 := blk_new (w.alloc (.cells #[.int .i64 b.f0, .slice A1 b.f1.length c1, .slice A2 b.f2.length c2] 43)) (.cells #[.int .i64 0, .slice none 0 0, .slice none 0 0] 43)
  rw [World.size_alloc] at K4
  have hbb := hb2.trans (hb3.mono hb2.size)
  replace HST := Aside0.mk (HST.out.below hbb)
  replace HBB := Aside0.mk (HBB.out.trans (hbb.mono HBB.out.size))
  have HSW := Aside0.mk hbb.size
  clear hb2 hb3 hbb
  generalize (w.alloc (.cells #[.int .i64 b.f0, .slice A1 b.f1.length c1, .slice A2 b.f2.length c2] 43)).alloc (.cells #[.int .i64 0, .slice none 0 0, .slice none 0 0] 43) = w1 at *
  obtain ⟨g4, hg4⟩ : ∃ q, q = w.heap.size + 1 := ⟨_, rfl⟩
  obtain ⟨g3, hg3⟩ : ∃ q, q = w.heap.size := ⟨_, rfl⟩
  rw [← hg4] at K4 ⊢
  rw [← hg3] at K3 ⊢
  have HG3 := Aside0.mk (show w.heap.size ≤ g3 by omega)
  have HG4 := Aside0.mk (show w.heap.size ≤ g4 by omega)
  have HNE := Aside0.mk (show g3 ≠ g4 by omega)
  have HK3 := Aside0.mk K3
  have HK4 := Aside0.mk K4
  clear hg3 hg4 K3 K4
  go_wp2_with (fail)
  go_loopw [5, 6] (fun v t wr => ∃ k : Nat, k ≤ b.f2.length ∧ t = .int .i64 k ∧ H w0.heap.size g (fun _ => True) (fun _ => True) (fun k => k < w.heap.size) (fun k => k < w.heap.size) (fun k => k < w.heap.size) wr vO vS vN vI vB O S NX I B ∧ (Kd.int .i64).R 3 wr w.heap.size (fun _ => True) v (b.f2.take k) ∧ Below w0.heap.size w0 wr ∧ w.heap.size ≤ wr.heap.size ∧ wr.heap[g3]? = some (.cells #[.int .i64 b.f0, .slice A1 b.f1.length c1, .slice A2 b.f2.length c2] 43 (0, 0)) ∧ wr.heap[g4]? = some (.cells #[.int .i64 0, .slice none 0 0, .slice none 0 0] 43 (0, 0))) (fun _ t _ => b.f2.length - (intOf t).toNat)
  case atStart => exact ⟨0, Nat.zero_le _, rfl, HST.out, Kd.R_nil _ _ _ _ _, HBB.out, HSW.out, HK3.out, HK4.out⟩
  case round =>
    clear HST HBB HSW HK3 HK4
    obtain ⟨k, hk, rfl, hH, hR, hb, hsz, hk3, hk4⟩ := hrel
    have HST := Aside0.mk hH
    have HR := Aside0.mk hR
    have HBB := Aside0.mk hb
    have HSW := Aside0.mk hsz
    have HK3 := Aside0.mk hk3
    have HK4 := Aside0.mk hk4
    clear hH hR hb hsz hk3 hk4
    obtain ⟨PV, mV, dV, rfl⟩ : ∃ P m d, u5 = .slice P m d := let ⟨A, c, h, _⟩ := Kd.R_reads HR.out; ⟨_, _, _, h⟩
    have q2 : wr.cell? ⟨g3, 2, none⟩ = some (.slice A2 b.f2.length c2) := blk_cell HK3.out 2
    by_cases hlt : k < b.f2.length
    · obtain ⟨ad, rfl, x0⟩ := Kd.at_int HN.out (k : Int) (by omega) (by omega)
      rw [Int.toNat_natCast] at x0
      have hxe : b.f2.take k ++ [rd b.f2 (k : Int)] = b.f2.take (k + 1) := by
        rw [List.take_succ_eq_append_getElem hlt]
        unfold rd
        rw [Int.toNat_natCast, List.getD_eq_getElem?_getD, List.getElem?_eq_getElem hlt]; rfl
      generalize rd b.f2 (k : Int) = x at *
      have HXE := Aside0.mk hxe
      clear hxe
      replace x0 := pw_cell_below HBB.out x0
      go_wp2_with (first | ((with_reducible refine gate_builtin (b := .append) rfl ?_); refine Classical.byContradiction (fun hcon => ?hstA)) | go_in)
      refine hcon ?_
      clear hcon x0 q2
      refine Kd.R_append (Kd.int .i64) (w0 := wr) w.heap.size rfl _ _ 41 3 (.int .i64 0) 8 rfl Try.underlying41 (by kernel_rfl) rfl (by decide) (by decide) (.slice PV mV dV) (b.f2.take k) x [.int .i64 x] (fun _ => True) (fun _ => False) rfl rfl rfl (fun _ h => h.elim) (fun _ _ => trivial) HR.out (Below.refl _ _) HSW.out (by rw [List.length_take]; omega) ?_
      intro v1 w7 hR1 _ hg1 _
      rw [HXE.out] at hR1
      have HB7 := Aside0.mk (HBB.out.grown hg1 (Nat.le_trans HN0.out HSW.out) (fun q hq => Nat.le_trans HN0.out (Kd.R_base HR.out q hq)))
      have HH7 := Aside0.mk (HST.out.grown (e := 3) (b' := w.heap.size) hg1 (Kd.R_typed HR.out) (Kd.R_base HR.out) (by decide) (.inl (by decide)) (.inl (by decide)) (.inr (fun _ h => h)) (.inl (by decide)) (.inr (fun _ h => h)))
      have HR7 := Aside0.mk hR1
      have HS7 := Aside0.mk (Nat.le_trans HSW.out hg1.size)
      have HK37 := Aside0.mk (blk_grown HK3.out hg1 (Kd.R_ne HR.out HK3.out (by decide)))
      have HK47 := Aside0.mk (blk_grown HK4.out hg1 (Kd.R_ne HR.out HK4.out (by decide)))
      clear hR1 hg1 HBB HST HR HSW HK3 HK4
      go_wp2
      go_roundw
      case rel => exact ⟨k + 1, by omega, by go_num, HH7.out, HR7.out, HB7.out, HS7.out, HK37.out, HK47.out⟩
      case measure => simp [intOf]; omega
    · obtain rfl : k = b.f2.length := by omega
      rw [List.take_length] at HR
      go_wp2_with (fail)
      clear hlt hk q2
      generalize wr = wM at *
      go_loopw [5, 7] (fun v t wr => ∃ k : Nat, k ≤ 16 ∧ t = .int .i64 k ∧ H w0.heap.size g (fun _ => True) (fun _ => True) (fun k => k < w.heap.size) (fun k => k < w.heap.size) (fun k => k < w.heap.size) wr vO vS vN vI vB O S NX I B ∧ (Kd.int .i64).R 3 wr w.heap.size (fun _ => True) v (b.f2 ++ (List.range' 0 k).map mkN) ∧ Below w0.heap.size w0 wr ∧ w.heap.size ≤ wr.heap.size ∧ wr.heap[g3]? = some (.cells #[.int .i64 b.f0, .slice A1 b.f1.length c1, .slice A2 b.f2.length c2] 43 (0, 0)) ∧ wr.heap[g4]? = some (.cells #[.int .i64 0, .slice none 0 0, .slice none 0 0] 43 (0, 0))) (fun _ t _ => 16 - (intOf t).toNat)
      case atStart => exact ⟨0, by omega, rfl, HST.out, by simpa using HR.out, HBB.out, HSW.out, HK3.out, HK4.out⟩
      case round =>
        clear HST HR HBB HSW HK3 HK4
        obtain ⟨i, hi, rfl, hH, hR, hb, hsz, hk3, hk4⟩ := hrel
        have HST := Aside0.mk hH
        have HR := Aside0.mk hR
        have HBB := Aside0.mk hb
        have HSW := Aside0.mk hsz
        have HK3 := Aside0.mk hk3
        have HK4 := Aside0.mk hk4
        clear hH hR hb hsz hk3 hk4
        obtain ⟨PV, mV, dV, rfl⟩ : ∃ P m d, u5 = .slice P m d := let ⟨A, c, h, _⟩ := Kd.R_reads HR.out; ⟨_, _, _, h⟩
        by_cases hlt : i < 16
        · go_wp2_with (first | ((with_reducible refine gate_builtin (b := .append) rfl ?_); refine Classical.byContradiction (fun hcon => ?hstB)) | go_in)
          refine hcon ?_
          clear hcon
          refine Kd.R_append (Kd.int .i64) (w0 := wr) w.heap.size rfl _ _ 41 3 (.int .i64 0) 8 rfl Try.underlying41 (by kernel_rfl) rfl (by decide) (by decide) (.slice PV mV dV) (b.f2 ++ (List.range' 0 i).map mkN) (mkN i) [.int .i64 (mkN i)] (fun _ => True) (fun _ => False) rfl rfl rfl (fun _ h => h.elim) (fun _ _ => trivial) HR.out (Below.refl _ _) HSW.out (by simp; omega) ?_
          intro v1 w7 hR1 _ hg1 _
          rw [← full_snoc] at hR1
          have HB7 := Aside0.mk (HBB.out.grown hg1 (Nat.le_trans HN0.out HSW.out) (fun q hq => Nat.le_trans HN0.out (Kd.R_base HR.out q hq)))
          have HH7 := Aside0.mk (HST.out.grown (e := 3) (b' := w.heap.size) hg1 (Kd.R_typed HR.out) (Kd.R_base HR.out) (by decide) (.inl (by decide)) (.inl (by decide)) (.inr (fun _ h => h)) (.inl (by decide)) (.inr (fun _ h => h)))
          have HR7 := Aside0.mk hR1
          have HS7 := Aside0.mk (Nat.le_trans HSW.out hg1.size)
          have HK37 := Aside0.mk (blk_grown HK3.out hg1 (Kd.R_ne HR.out HK3.out (by decide)))
          have HK47 := Aside0.mk (blk_grown HK4.out hg1 (Kd.R_ne HR.out HK4.out (by decide)))
          clear hR1 hg1 HBB HST HR HSW HK3 HK4
          go_wp2
          go_roundw
          case rel => exact ⟨i + 1, by omega, by go_num, HH7.out, HR7.out, HB7.out, HS7.out, HK37.out, HK47.out⟩
          case measure => simp [intOf]; omega
        · obtain rfl : i = 16 := by omega
          obtain ⟨PS, mS, dS, rfl⟩ : ∃ P m d, vN = .slice P m d := let ⟨A, c, h, _⟩ := Kd.R_reads HST.out.rn; ⟨_, _, _, h⟩
          have p5 : wr.cell? ⟨g, 5, none⟩ = some (.slice PS mS dS) := blk_cell HST.out.blk 5
          have HF : Aside0 ((Kd.int .i64).R 3 wr w.heap.size (fun _ => True) (.slice PV mV dV) (full mkN b.f2)) := ⟨HR.out⟩
          have HST' := Aside0.mk (HST.out.mono (qO := fun _ => True) (qS := fun _ => True) (qN := fun _ => True) (qI := fun k => k < w.heap.size) (qB := fun k => k < w.heap.size) (fun _ _ _ => trivial) (fun _ _ _ => trivial) (fun _ _ _ => trivial) (fun _ h _ => h) (fun _ h _ => h))
          clear HST HR
          go_wp2_with (first | ((with_reducible refine gate_builtin (b := .append) rfl ?_); refine Classical.byContradiction (fun hcon => ?hstC)) | go_in)
          refine hcon ?_
          clear hcon p5
          refine Kd.R_append (Kd.slice 3 (Kd.int .i64)) (w0 := wr) w0.heap.size rfl _ _ 31 41 (.slice none 0 0) 24 rfl Try.underlying31 (by kernel_rfl) rfl (by decide) (by decide) (.slice PS mS dS) NX (full mkN b.f2) [.slice PV mV dV] (fun _ => True) _ rfl rfl (M_apart (d := Kd.slice 3 (Kd.int .i64)) ⟨_, rfl, Kd.R_lower HF.out HN0.out⟩ HST'.out.rn (by decide)) (fun _ h => h) (fun _ _ => trivial) HST'.out.rn (Below.refl _ _) (Nat.le_trans HN0.out HSW.out) (by have := HSZ.out.2.2.1; omega) ?_
          intro v1 w7 hR1 _ hg1 _
          obtain ⟨P1, m1, d1, rfl⟩ : ∃ P m d, v1 = .slice P m d := let ⟨A, c, h, _⟩ := Kd.R_reads hR1; ⟨_, _, _, h⟩
          have hkg := blk_grown HST'.out.blk hg1 (Kd.R_ne HST'.out.rn HST'.out.blk (by decide))
          have p5 : w7.cell? ⟨g, 5, none⟩ = some (.slice PS mS dS) := blk_cell hkg 5
          have f5 := blk_frozen hkg 5
          have hb7 : Below w0.heap.size w0 w7 := HBB.out.grown hg1 (Nat.le_trans HN0.out HSW.out) (Kd.R_base HST'.out.rn)
          go_upto_region 11 with (fail)
          have HB8 := Aside0.mk (below_set (j := 5) (v := .slice P1 m1 d1) hb7 HST'.out.hg)
          have HF8 := Aside0.mk (Kd.R_set (Kd.R_over HF.out HST'.out.rn (by decide) hg1) hkg (by decide) 5 (.slice P1 m1 d1))
          have HH8 := Aside0.mk (HST'.out.putN hR1 hg1 ⟨b.f2, hln, rfl⟩)
          have HK38 := Aside0.mk (blk_far (blk_grown HK3.out hg1 (Kd.R_ne HST'.out.rn HK3.out (by decide))) (p := ⟨g, 5, none⟩) (blk_ne (blk_grown HK3.out hg1 (Kd.R_ne HST'.out.rn HK3.out (by decide))) hkg (by decide)) (.slice P1 m1 d1))
          have HK48 := Aside0.mk (blk_far (blk_grown HK4.out hg1 (Kd.R_ne HST'.out.rn HK4.out (by decide))) (p := ⟨g, 5, none⟩) (blk_ne (blk_grown HK4.out hg1 (Kd.R_ne HST'.out.rn HK4.out (by decide))) hkg (by decide)) (.slice P1 m1 d1))
          have HS8 : Aside0 (w.heap.size ≤ (w7.setCell ⟨g, 5, none⟩ (.slice P1 m1 d1)).heap.size) := ⟨Nat.le_trans HSW.out (Nat.le_trans hg1.size (by simp [World.setCell]))⟩
          clear hkg p5 f5 hb7 hR1 hg1 HST' HF HBB HSW HK3 HK4
          generalize w7.setCell ⟨g, 5, none⟩ (.slice P1 m1 d1) = w8 at *
          obtain rfl : mV = (full mkN b.f2).length := (Kd.R_reads' HF8.out).1
          go_wp2_with (fail)
          clear hlt hi
          generalize hNX : NX ++ [full mkN b.f2] = NX1 at *
          have HNX := Aside0.mk (show NX1.length = NX.length + 1 by rw [← hNX]; simp)
          clear hNX
          go_loopw [8, 9, 10, 11] (fun v t _ _ wr => ∃ k : Nat, k ≤ b.f1.length ∧ t = .int .i64 k ∧ ∃ vO' vS' O' S', H w0.heap.size g (fun _ => True) (fun _ => True) (fun _ => True) (fun k => k < w.heap.size) (fun k => k < w.heap.size) wr vO' vS' (.slice P1 m1 d1) vI vB O' S' NX1 I B ∧ O'.length = O.length + costI (b.f1.take k) ∧ S'.length = S.length + k ∧ k47.R 47 wr w.heap.size (fun _ => True) v (b.f1.take k) ∧ (Kd.int .i64).R 3 wr w.heap.size (fun _ => True) (.slice PV (full mkN b.f2).length dV) (full mkN b.f2) ∧ Below w0.heap.size w0 wr ∧ w.heap.size ≤ wr.heap.size ∧ wr.heap[g3]? = some (.cells #[.int .i64 b.f0, .slice A1 b.f1.length c1, .slice A2 b.f2.length c2] 43 (0, 0)) ∧ wr.heap[g4]? = some (.cells #[.int .i64 0, .slice none 0 0, .slice none 0 0] 43 (0, 0))) (fun _ t _ _ _ => b.f1.length - (intOf t).toNat)
          case atStart => exact ⟨0, Nat.zero_le _, rfl, _, _, _, _, HH8.out, rfl, rfl, Kd.R_nil _ _ _ _ _, HF8.out, HB8.out, HS8.out, HK38.out, HK48.out⟩
          case round =>
            clear HH8 HF8 HB8 HS8 HK38 HK48
            obtain ⟨k, hk, rfl, vO', vS', O', S', hH, hOl, hSl, hR, hF, hb, hsz, hk3, hk4⟩ := hrel
            have HST := Aside0.mk hH
            have HOL := Aside0.mk (And.intro hOl hSl)
            have HR := Aside0.mk hR
            have HF := Aside0.mk hF
            have HBB := Aside0.mk hb
            have HSW := Aside0.mk hsz
            have HK3 := Aside0.mk hk3
            have HK4 := Aside0.mk hk4
            clear hH hOl hSl hR hF hb hsz hk3 hk4
            obtain ⟨PW, mW, dW, rfl⟩ : ∃ P m d, u8 = .slice P m d := let ⟨A, c, h, _⟩ := Kd.R_reads HR.out; ⟨_, _, _, h⟩
            have q1 : wr.cell? ⟨g3, 1, none⟩ = some (.slice A1 b.f1.length c1) := blk_cell HK3.out 1
            by_cases hlt : k < b.f1.length
            · obtain ⟨ad, A3, c3, A7, c7, rfl, x0, x1, x2, x3, x4, x5, x6, x7, hA3, hC3, hA7, hC7⟩ := at_T47 HI.out (k : Int) (by omega) (by omega)
              rw [Int.toNat_natCast] at x0 x1 x2 x3 x4 x5 x6 x7
              have hx3 : (rd_T47 b.f1 (k : Int)).f3.length ≤ 1048576 := by rw [rd47_at hlt]; exact HSM.out.args _ (List.getElem_mem _)
              have hx7 : SmallS (rd_T47 b.f1 (k : Int)).f7 := by rw [rd47_at hlt]; exact HSM.out.exit _ (List.getElem_mem _)
              have hxe : b.f1.take k ++ [rd_T47 b.f1 (k : Int)] = b.f1.take (k + 1) := by rw [List.take_succ_eq_append_getElem hlt, rd47_at hlt]
              have hco : costI (b.f1.take (k + 1)) = costI (b.f1.take k) + (1 + (rd_T47 b.f1 (k : Int)).f7.length) := by rw [costI_succ hlt, rd47_at hlt]
              generalize rd_T47 b.f1 (k : Int) = x at *
              have HCO := Aside0.mk (And.intro hco (costI_le b.f1 (k + 1)))
              have HX3 := Aside0.mk hx3
              have HX7 := Aside0.mk hx7
              have HXE := Aside0.mk hxe
              have XC := Aside0.mk (fun W (b : Below w0.heap.size w0 W) => And.intro (pw_cell_below b x3) (pw_cell_below b x7))
              have HC3 := Aside0.mk (And.intro hA3 hC3)
              have HC7 := Aside0.mk (And.intro hA7 hC7)
              replace x0 := pw_cell_below HBB.out x0
              replace x1 := pw_cell_below HBB.out x1
              replace x2 := pw_cell_below HBB.out x2
              replace x3 := pw_cell_below HBB.out x3
              replace x4 := pw_cell_below HBB.out x4
              replace x5 := pw_cell_below HBB.out x5
              replace x6 := pw_cell_below HBB.out x6
              replace x7 := pw_cell_below HBB.out x7
              clear hA3 hC3 hA7 hC7 hx3 hx7 hxe hco
              go_upto_region 16 with (fail)
              clear x0 x1 x2 x3 x4 x5 x6 x7 q1
              have HG10 := Aside0.mk HSW.out
              have hb2 := bodies wr (.cells #[.int .i64 x.f0, .int .i64 x.f1, .int .i64 x.f2, .slice A3 x.f3.length c3, .int .i64 x.f4, .int .i64 x.f5, .int .i64 x.f6, .slice A7 x.f7.length c7] 47)
              have K10 := blk_new wr (.cells #[.int .i64 x.f0, .int .i64 x.f1, .int .i64 x.f2, .slice A3 x.f3.length c3, .int .i64 x.f4, .int .i64 x.f5, .int .i64 x.f6, .slice A7 x.f7.length c7] 47)
              replace HST := Aside0.mk (HST.out.below hb2)
              replace HR := Aside0.mk (Kd.R_below (Kd.R_elderB HR.out wr.heap.size (Nat.le_refl _)) hb2)
              replace HF := Aside0.mk (Kd.R_below HF.out hb2)
              replace HBB := Aside0.mk (HBB.out.trans (hb2.mono HBB.out.size))
              replace HSW := Aside0.mk (Nat.le_trans HSW.out hb2.size)
              replace HK3 := Aside0.mk (blk_below HK3.out hb2)
              replace HK4 := Aside0.mk (blk_below HK4.out hb2)
              clear hb2
              generalize wr.alloc (.cells #[.int .i64 x.f0, .int .i64 x.f1, .int .i64 x.f2, .slice A3 x.f3.length c3, .int .i64 x.f4, .int .i64 x.f5, .int .i64 x.f6, .slice A7 x.f7.length c7] 47) = w2 at *
              generalize wr.heap.size = g10 at *
              have HK10 := Aside0.mk K10
              clear K10
              obtain ⟨x3, x7⟩ := XC.out w2 HBB.out
              have q1 : w2.cell? ⟨g3, 1, none⟩ = some (.slice (some ad) b.f1.length c1) := blk_cell HK3.out 1
              go_wp2_with (fail)
              refine (marked_opnds A3 c3 x.f3 w2 (Kd.C_below HC3.out.2 HBB.out) HC3.out.1 HX3.out).mono ?_
              rintro e w3 ⟨B8, d8, rfl, hR8, hb3⟩
              have HR8 := Aside0.mk (Kd.R_lower hR8 HSW.out)
              replace HST := Aside0.mk (HST.out.below hb3)
              replace HR := Aside0.mk (Kd.R_below HR.out hb3)
              replace HF := Aside0.mk (Kd.R_below HF.out hb3)
              replace HBB := Aside0.mk (HBB.out.trans (hb3.mono HBB.out.size))
              replace HSW := Aside0.mk (Nat.le_trans HSW.out hb3.size)
              replace HK3 := Aside0.mk (blk_below HK3.out hb3)
              replace HK4 := Aside0.mk (blk_below HK4.out hb3)
              replace HK10 := Aside0.mk (blk_below HK10.out hb3)
              clear hR8 hb3 x3 x7 q1
              obtain ⟨PO, mO, dO, rfl⟩ : ∃ P m d, vO' = .slice P m d := let ⟨A, c, h, _⟩ := Kd.R_reads HST.out.ro; ⟨_, _, _, h⟩
              have p3 : w3.cell? ⟨g, 3, none⟩ = some (.slice PO mO dO) := blk_cell HST.out.blk 3
              go_wp2_with (first | ((with_reducible refine gate_builtin (b := .append) rfl ?_); refine Classical.byContradiction (fun hcon => ?hstD)) | go_in)
              refine hcon ?_
              clear hcon p3
              refine Kd.R_append (Kd.slice 49 k49) (w0 := w3) w0.heap.size rfl _ _ 29 44 (.slice none 0 0) 24 rfl Try.underlying29 (by kernel_rfl) rfl (by decide) (by decide) (.slice PO mO dO) O' (full mkO x.f3) [.slice B8 (full mkO x.f3).length d8] (fun _ => True) _ rfl rfl (M_apart (d := Kd.slice 49 k49) ⟨_, rfl, Kd.R_lower HR8.out HN0.out⟩ HST.out.ro (by decide)) (fun _ h => h) (fun _ _ => trivial) HST.out.ro (Below.refl _ _) (Nat.le_trans HN0.out HSW.out) (by have := HOL.out.1; have := HSZ.out.1; have := HCO.out; omega) ?_
              intro v1 w4 hR1 _ hg1 _
              obtain ⟨P2, m2, d2, rfl⟩ : ∃ P m d, v1 = .slice P m d := let ⟨A, c, h, _⟩ := Kd.R_reads hR1; ⟨_, _, _, h⟩
              have hkg := blk_grown HST.out.blk hg1 (Kd.R_ne HST.out.ro HST.out.blk (by decide))
              have p3 : w4.cell? ⟨g, 3, none⟩ = some (.slice PO mO dO) := blk_cell hkg 3
              have f3 := blk_frozen hkg 3
              have hb4 : Below w0.heap.size w0 w4 := HBB.out.grown hg1 (Nat.le_trans HN0.out HSW.out) (Kd.R_base HST.out.ro)
              go_upto_region 18 with (fail)
              have HB5 := Aside0.mk (below_set (j := 3) (v := .slice P2 m2 d2) hb4 HST.out.hg)
              have mv : ∀ {gx : Nat} {cs : Array Value} {t : TypeId}, t ≠ 44 → t ≠ 34 → w3.heap[gx]? = some (.cells cs t (0, 0)) → (w4.setCell ⟨g, 3, none⟩ (.slice P2 m2 d2)).heap[gx]? = some (.cells cs t (0, 0)) := fun h1 h2 h => blk_far (blk_grown h hg1 (Kd.R_ne HST.out.ro h h1.symm)) (p := ⟨g, 3, none⟩) (blk_ne (blk_grown h hg1 (Kd.R_ne HST.out.ro h h1.symm)) hkg h2) (.slice P2 m2 d2)
              have HK35 := Aside0.mk (mv (by decide) (by decide) HK3.out)
              have HK45 := Aside0.mk (mv (by decide) (by decide) HK4.out)
              have HK105 := Aside0.mk (mv (by decide) (by decide) HK10.out)
              have HR85 := Aside0.mk (Kd.R_set (Kd.R_over HR8.out HST.out.ro (by decide) hg1) hkg (by decide) 3 (.slice P2 m2 d2))
              have HR5 := Aside0.mk (Kd.R_set (Kd.R_over HR.out HST.out.ro (by decide) hg1) hkg (by decide) 3 (.slice P2 m2 d2))
              have HF5 := Aside0.mk (Kd.R_set (Kd.R_over HF.out HST.out.ro (by decide) hg1) hkg (by decide) 3 (.slice P2 m2 d2))
              have HS5 : Aside0 (w.heap.size ≤ (w4.setCell ⟨g, 3, none⟩ (.slice P2 m2 d2)).heap.size) := ⟨Nat.le_trans HSW.out (Nat.le_trans hg1.size (by simp [World.setCell]))⟩
              have HH5 := Aside0.mk (HST.out.putO hR1 hg1 ⟨x.f3, HX3.out, rfl⟩)
              clear mv hkg p3 f3 hb4 hR1 hg1 HST HR HF HBB HSW HK3 HK4 HK10 HR8
              generalize w4.setCell ⟨g, 3, none⟩ (.slice P2 m2 d2) = w5 at *
              have hcut := cut_cap (P := Try.prog) 44 49 .i64 Try.underlying44 HI49.out B8 (full mkO x.f3).length d8 (x.f3.length : Int) (by omega) (by have := ge44 HR85.out; rw [full_len] at this; omega)
              rw [Int.toNat_natCast] at hcut
              obtain ⟨x3, x7⟩ := XC.out w5 HB5.out
              have q1 : w5.cell? ⟨g3, 1, none⟩ = some (.slice (some ad) b.f1.length c1) := blk_cell HK35.out 1
              have y3 : w5.cell? ⟨g10, 3, none⟩ = some (.slice A3 x.f3.length c3) := blk_cell HK105.out 3
              have f3 := blk_frozen HK105.out 3
              go_upto_region 19 with (fail)
              clear hcut x3 x7 y3 f3 q1
              have hg7 := grown_set w5 g10 3 (.slice B8 x.f3.length d8)
              have HB6 := Aside0.mk (below_set (j := 3) (v := .slice B8 x.f3.length d8) HB5.out (Nat.le_trans HN0.out HG10.out))
              have HK106 := Aside0.mk (blk_put HK105.out 3 (.slice B8 x.f3.length d8) (cs' := #[.int .i64 x.f0, .int .i64 x.f1, .int .i64 x.f2, .slice B8 x.f3.length d8, .int .i64 x.f4, .int .i64 x.f5, .int .i64 x.f6, .slice A7 x.f7.length c7]) rfl)
              have HK36 := Aside0.mk (blk_far HK35.out (p := ⟨g10, 3, none⟩) (blk_ne HK35.out HK105.out (by decide)) (.slice B8 x.f3.length d8))
              have HK46 := Aside0.mk (blk_far HK45.out (p := ⟨g10, 3, none⟩) (blk_ne HK45.out HK105.out (by decide)) (.slice B8 x.f3.length d8))
              have HR86 := Aside0.mk (Kd.R_set HR85.out HK105.out (by decide) 3 (.slice B8 x.f3.length d8))
              have HF6 := Aside0.mk (Kd.R_set HF5.out HK105.out (by decide) 3 (.slice B8 x.f3.length d8))
              have HR6 := Aside0.mk (Kd.R_far HR5.out (p := ⟨g10, 3, none⟩) (fun q hq => hq.2) (.slice B8 x.f3.length d8))
              have HH6 := Aside0.mk (HH5.out.grown (e := 47) (b' := w.heap.size) hg7 (fun q hq => by injection hq with hq; rw [← hq]; exact ⟨_, HK105.out⟩) (fun q hq => by injection hq with hq; rw [← hq]; exact HG10.out) (by decide) (.inl (by decide)) (.inl (by decide)) (.inl (by decide)) (.inr (fun _ h => h)) (.inr (fun _ h => h)))
              have HS6 : Aside0 (w.heap.size ≤ (w5.setCell ⟨g10, 3, none⟩ (.slice B8 x.f3.length d8)).heap.size) := ⟨Nat.le_trans HS5.out hg7.size⟩
              clear hg7 HH5 HR5 HR85 HF5 HK35 HK45 HK105 HB5 HS5
              generalize w5.setCell ⟨g10, 3, none⟩ (.slice B8 x.f3.length d8) = w6 at *
              obtain ⟨x3, x7⟩ := XC.out w6 HB6.out
              have q1 : w6.cell? ⟨g3, 1, none⟩ = some (.slice (some ad) b.f1.length c1) := blk_cell HK36.out 1
              go_wp2_with (fail)
              refine (hand_shapes w0 g A7 c7 x.f7 w6 _ _ _ _ _ _ _ _ _ _ _ _ _ HC7.out.2 HC7.out.1 HX7.out HB6.out HH6.out (by rw [List.length_append, HOL.out.1]; have := HSZ.out.1; have := HCO.out; simp; omega) (by rw [HOL.out.2]; have := HSZ.out.2.1; omega)).mono ?_
              rintro e w7 ⟨B9, d9, vO7, vS7, O7, S7, rfl, hR9, hH7, hO7, hS7, hb7, hy7⟩
              have HST7 := Aside0.mk hH7
              have HOL7 : Aside0 (O7.length = O.length + costI (b.f1.take (k + 1)) ∧ S7.length = S.length + (k + 1)) := ⟨by rw [hO7, List.length_append, HOL.out.1, HCO.out.1]; simp; omega, by rw [hS7, HOL.out.2]; omega⟩
              have HR9 := Aside0.mk (Kd.R_lower hR9 HS6.out)
              have HR87 := Aside0.mk (R_ty HR86.out (by decide) hy7)
              have HF7 := Aside0.mk (R_ty HF6.out (by decide) hy7)
              have HR7 := Aside0.mk (R_ty HR6.out (by decide) hy7)
              have HK37 := Aside0.mk (blk_ty HK36.out (by decide) hy7)
              have HK47 := Aside0.mk (blk_ty HK46.out (by decide) hy7)
              have HK107 := Aside0.mk (blk_ty HK106.out (by decide) hy7)
              have HB7 := Aside0.mk hb7
              have HS7 : Aside0 (w.heap.size ≤ w7.heap.size) := ⟨by obtain ⟨q, _, _, h1, h2, _⟩ := Kd.R_form hR9 (by rw [full_len]; omega); exact Nat.le_trans HS6.out (by omega)⟩
              clear hH7 hO7 hS7 hR9 hb7 hy7 HH6 HR6 HF6 HR86 HK36 HK46 HK106 HB6 HS6 HOL x3 x7 q1
              have y7 : w7.cell? ⟨g10, 7, none⟩ = some (.slice A7 x.f7.length c7) := blk_cell HK107.out 7
              have f7 := blk_frozen HK107.out 7
              go_upto_region 20 with (fail)
              have hg7 := grown_set w7 g10 7 (.slice B9 x.f7.length d9)
              have HB8 := Aside0.mk (below_set (j := 7) (v := .slice B9 x.f7.length d9) HB7.out (Nat.le_trans HN0.out HG10.out))
              have HK108 := Aside0.mk (blk_put HK107.out 7 (.slice B9 x.f7.length d9) (cs' := #[.int .i64 x.f0, .int .i64 x.f1, .int .i64 x.f2, .slice B8 x.f3.length d8, .int .i64 x.f4, .int .i64 x.f5, .int .i64 x.f6, .slice B9 x.f7.length d9]) rfl)
              have HK38 := Aside0.mk (blk_far HK37.out (p := ⟨g10, 7, none⟩) (blk_ne HK37.out HK107.out (by decide)) (.slice B9 x.f7.length d9))
              have HK48 := Aside0.mk (blk_far HK47.out (p := ⟨g10, 7, none⟩) (blk_ne HK47.out HK107.out (by decide)) (.slice B9 x.f7.length d9))
              have HR88 := Aside0.mk (Kd.R_set HR87.out HK107.out (by decide) 7 (.slice B9 x.f7.length d9))
              have HR98 := Aside0.mk (Kd.R_set HR9.out HK107.out (by decide) 7 (.slice B9 x.f7.length d9))
              have HF8 := Aside0.mk (Kd.R_set HF7.out HK107.out (by decide) 7 (.slice B9 x.f7.length d9))
              have HR8' := Aside0.mk (Kd.R_mono (ok' := fun _ => True) (Kd.R_far HR7.out (p := ⟨g10, 7, none⟩) (fun q hq => hq.2) (.slice B9 x.f7.length d9)) (fun _ _ => trivial))
              have HH8 := Aside0.mk (HST7.out.grown (e := 47) (b' := w.heap.size) hg7 (fun q hq => by injection hq with hq; rw [← hq]; exact ⟨_, HK107.out⟩) (fun q hq => by injection hq with hq; rw [← hq]; exact HG10.out) (by decide) (.inl (by decide)) (.inl (by decide)) (.inl (by decide)) (.inr (fun _ h => h)) (.inr (fun _ h => h)))
              have HS8 : Aside0 (w.heap.size ≤ (w7.setCell ⟨g10, 7, none⟩ (.slice B9 x.f7.length d9)).heap.size) := ⟨Nat.le_trans HS7.out hg7.size⟩
              clear hg7 HST7 HR7 HR87 HR9 HF7 HK37 HK47 HK107 HB7 HS7 y7 f7
              generalize w7.setCell ⟨g10, 7, none⟩ (.slice B9 x.f7.length d9) = w8 at *
              have y0 : w8.cell? ⟨g10, 0, none⟩ = some (.int .i64 x.f0) := blk_cell HK108.out 0
              have y1 : w8.cell? ⟨g10, 1, none⟩ = some (.int .i64 x.f1) := blk_cell HK108.out 1
              have y2 : w8.cell? ⟨g10, 2, none⟩ = some (.int .i64 x.f2) := blk_cell HK108.out 2
              have y3 : w8.cell? ⟨g10, 3, none⟩ = some (.slice B8 x.f3.length d8) := blk_cell HK108.out 3
              have y4 : w8.cell? ⟨g10, 4, none⟩ = some (.int .i64 x.f4) := blk_cell HK108.out 4
              have y5 : w8.cell? ⟨g10, 5, none⟩ = some (.int .i64 x.f5) := blk_cell HK108.out 5
              have y6 : w8.cell? ⟨g10, 6, none⟩ = some (.int .i64 x.f6) := blk_cell HK108.out 6
              have y7 : w8.cell? ⟨g10, 7, none⟩ = some (.slice B9 x.f7.length d9) := blk_cell HK108.out 7
              have hc8 := Kd.R_take (m := x.f3.length) HR88.out (by rw [full_len]; omega)
              rw [full_take] at hc8
              have hc9 := Kd.R_take (m := x.f7.length) HR98.out (by rw [full_len]; omega)
              rw [full_take] at hc9
              have HC8 := Aside0.mk (And.intro hc8 hc9)
              clear hc8 hc9
              go_wp2_with (first | ((with_reducible refine gate_builtin (b := .append) rfl ?_); refine Classical.byContradiction (fun hcon => ?hstE)) | go_in)
              refine hcon ?_
              clear hcon y0 y1 y2 y3 y4 y5 y6 y7
              refine Kd.R_append k47 (w0 := w8) w.heap.size rfl _ _ 40 47 (.agg #[(.int .i64 0), (.int .i64 0), (.int .i64 0), (.slice none 0 0), (.int .i64 0), (.int .i64 0), (.int .i64 0), (.slice none 0 0)]) 96 rfl Try.underlying40 (by kernel_rfl) rfl (by decide) (by decide) (.slice PW mW dW) (b.f1.take k) x [.int .i64 x.f0, .int .i64 x.f1, .int .i64 x.f2, .slice B8 x.f3.length d8, .int .i64 x.f4, .int .i64 x.f5, .int .i64 x.f6, .slice B9 x.f7.length d9] (fun _ => True) _ rfl rfl (M_apart (d := k47) (k47_mkM _ _ _ x HC8.out.1 HC8.out.2) HR8'.out (by decide)) (fun _ h => h) (fun _ _ => trivial) HR8'.out (Below.refl _ _) HS8.out (by rw [List.length_take]; omega) ?_
              intro v1 w9 hR1 _ hg1 _
              rw [HXE.out] at hR1
              have HB9 := Aside0.mk (HB8.out.grown hg1 (Nat.le_trans HN0.out HS8.out) (fun q hq => Nat.le_trans HN0.out (Kd.R_base HR8'.out q hq)))
              have HH9 := Aside0.mk (HH8.out.grown (e := 47) (b' := w.heap.size) hg1 (Kd.R_typed HR8'.out) (Kd.R_base HR8'.out) (by decide) (.inl (by decide)) (.inl (by decide)) (.inl (by decide)) (.inr (fun _ h => h)) (.inr (fun _ h => h)))
              have HF9 := Aside0.mk (Kd.R_over HF8.out HR8'.out (by decide) hg1)
              have HR9 := Aside0.mk hR1
              have HS9 := Aside0.mk (Nat.le_trans HS8.out hg1.size)
              have HK39 := Aside0.mk (blk_grown HK38.out hg1 (Kd.R_ne HR8'.out HK38.out (by decide)))
              have HK49 := Aside0.mk (blk_grown HK48.out hg1 (Kd.R_ne HR8'.out HK48.out (by decide)))
              clear hR1 hg1 HB8 HH8 HF8 HR8' HS8 HK38 HK48 HK108 HC8 HR88 HR98
              go_wp2
              go_roundw
              case rel => exact ⟨k + 1, by omega, by go_num, _, _, _, _, HH9.out, HOL7.out.1, HOL7.out.2, HR9.out, HF9.out, HB9.out, HS9.out, HK39.out, HK49.out⟩
              case measure => simp [intOf]; omega
            · obtain rfl : k = b.f1.length := by omega
              rw [List.take_length] at HR HOL
              go_wp2_with (fail)
              clear hlt hk q1
              generalize wr = wM at *
              go_loopw [8, 12] (fun v t wr => ∃ k : Nat, k ≤ 16 ∧ t = .int .i64 k ∧ H w0.heap.size g (fun _ => True) (fun _ => True) (fun _ => True) (fun k => k < w.heap.size) (fun k => k < w.heap.size) wr vO' vS' (.slice P1 m1 d1) vI vB O' S' NX1 I B ∧ k47.R 47 wr w.heap.size (fun _ => True) v (b.f1 ++ (List.range' 0 k).map mkI) ∧ (Kd.int .i64).R 3 wr w.heap.size (fun _ => True) (.slice PV (full mkN b.f2).length dV) (full mkN b.f2) ∧ Below w0.heap.size w0 wr ∧ w.heap.size ≤ wr.heap.size ∧ wr.heap[g3]? = some (.cells #[.int .i64 b.f0, .slice A1 b.f1.length c1, .slice A2 b.f2.length c2] 43 (0, 0)) ∧ wr.heap[g4]? = some (.cells #[.int .i64 0, .slice none 0 0, .slice none 0 0] 43 (0, 0))) (fun _ t _ => 16 - (intOf t).toNat)
              case atStart => exact ⟨0, by omega, rfl, HST.out, by simpa using HR.out, HF.out, HBB.out, HSW.out, HK3.out, HK4.out⟩
              case round =>
                clear HST HR HF HBB HSW HK3 HK4
                obtain ⟨i, hi, rfl, hH, hR, hF, hb, hsz, hk3, hk4⟩ := hrel
                have HST := Aside0.mk hH
                have HR := Aside0.mk hR
                have HF := Aside0.mk hF
                have HBB := Aside0.mk hb
                have HSW := Aside0.mk hsz
                have HK3 := Aside0.mk hk3
                have HK4 := Aside0.mk hk4
                clear hH hR hF hb hsz hk3 hk4
                obtain ⟨PW, mW, dW, rfl⟩ : ∃ P m d, u8 = .slice P m d := let ⟨A, c, h, _⟩ := Kd.R_reads HR.out; ⟨_, _, _, h⟩
                by_cases hlt : i < 16
                · go_wp2_with (first | ((with_reducible refine gate_builtin (b := .append) rfl ?_); refine Classical.byContradiction (fun hcon => ?hstF)) | go_in)
                  refine hcon ?_
                  clear hcon
                  refine Kd.R_append k47 (w0 := wr) w.heap.size rfl _ _ 40 47 (.agg #[(.int .i64 0), (.int .i64 0), (.int .i64 0), (.slice none 0 0), (.int .i64 0), (.int .i64 0), (.int .i64 0), (.slice none 0 0)]) 96 rfl Try.underlying40 (by kernel_rfl) rfl (by decide) (by decide) (.slice PW mW dW) (b.f1 ++ (List.range' 0 i).map mkI) (mkI i) [.int .i64 (-7), .int .i64 0, .int .i64 0, .slice none 0 0, .int .i64 0, .int .i64 (i : Int), .int .i64 0, .slice none 0 0] (fun _ => True) _ rfl rfl (M_apart (d := k47) (k47_mkM _ _ (fun _ => True) (mkI i) (Kd.R_nil _ _ _ _ _) (Kd.R_nil _ _ _ _ _)) HR.out (by decide)) (fun _ h => h) (fun _ _ => trivial) HR.out (Below.refl _ _) HSW.out (by simp; omega) ?_
                  intro v1 w9 hR1 _ hg1 _
                  rw [← full_snoc] at hR1
                  have HB9 := Aside0.mk (HBB.out.grown hg1 (Nat.le_trans HN0.out HSW.out) (fun q hq => Nat.le_trans HN0.out (Kd.R_base HR.out q hq)))
                  have HH9 := Aside0.mk (HST.out.grown (e := 47) (b' := w.heap.size) hg1 (Kd.R_typed HR.out) (Kd.R_base HR.out) (by decide) (.inl (by decide)) (.inl (by decide)) (.inl (by decide)) (.inr (fun _ h => h)) (.inr (fun _ h => h)))
                  have HF9 := Aside0.mk (Kd.R_over HF.out HR.out (by decide) hg1)
                  have HR9 := Aside0.mk hR1
                  have HS9 := Aside0.mk (Nat.le_trans HSW.out hg1.size)
                  have HK39 := Aside0.mk (blk_grown HK3.out hg1 (Kd.R_ne HR.out HK3.out (by decide)))
                  have HK49 := Aside0.mk (blk_grown HK4.out hg1 (Kd.R_ne HR.out HK4.out (by decide)))
                  clear hR1 hg1 HBB HST HR HF HSW HK3 HK4
                  go_wp2
                  go_roundw
                  case rel => exact ⟨i + 1, by omega, by go_num, HH9.out, HR9.out, HF9.out, HB9.out, HS9.out, HK39.out, HK49.out⟩
                  case measure => simp [intOf]; omega
                · obtain rfl : i = 16 := by omega
                  obtain ⟨PS, mS, dS, rfl⟩ : ∃ P m d, vI = .slice P m d := let ⟨A, c, h, _⟩ := Kd.R_reads HST.out.ri; ⟨_, _, _, h⟩
                  have p6 : wr.cell? ⟨g, 6, none⟩ = some (.slice PS mS dS) := blk_cell HST.out.blk 6
                  have HX : Aside0 (k47.R 47 wr w.heap.size (fun _ => True) (.slice PW mW dW) (full mkI b.f1)) := ⟨HR.out⟩
                  have HST' := Aside0.mk (HST.out.mono (qO := fun _ => True) (qS := fun _ => True) (qN := fun _ => True) (qI := fun _ => True) (qB := fun k => k < w.heap.size) (fun _ _ _ => trivial) (fun _ _ _ => trivial) (fun _ _ _ => trivial) (fun _ _ _ => trivial) (fun _ h _ => h))
                  clear HST HR
                  go_wp2_with (first | ((with_reducible refine gate_builtin (b := .append) rfl ?_); refine Classical.byContradiction (fun hcon => ?hstG)) | go_in)
                  refine hcon ?_
                  clear hcon p6
                  refine Kd.R_append (Kd.slice 47 k47) (w0 := wr) w0.heap.size rfl _ _ 32 40 (.slice none 0 0) 24 rfl Try.underlying32 (by kernel_rfl) rfl (by decide) (by decide) (.slice PS mS dS) I (full mkI b.f1) [.slice PW mW dW] (fun _ => True) _ rfl rfl (M_apart (d := Kd.slice 47 k47) ⟨_, rfl, Kd.R_lower HX.out HN0.out⟩ HST'.out.ri (by decide)) (fun _ h => h) (fun _ _ => trivial) HST'.out.ri (Below.refl _ _) (Nat.le_trans HN0.out HSW.out) (by have := HSZ.out.2.2.2; omega) ?_
                  intro v1 w7 hR1 _ hg1 _
                  obtain ⟨P2, m2, d2, rfl⟩ : ∃ P m d, v1 = .slice P m d := let ⟨A, c, h, _⟩ := Kd.R_reads hR1; ⟨_, _, _, h⟩
                  have hkg := blk_grown HST'.out.blk hg1 (Kd.R_ne HST'.out.ri HST'.out.blk (by decide))
                  have p6 : w7.cell? ⟨g, 6, none⟩ = some (.slice PS mS dS) := blk_cell hkg 6
                  have f6 := blk_frozen hkg 6
                  have hb7 : Below w0.heap.size w0 w7 := HBB.out.grown hg1 (Nat.le_trans HN0.out HSW.out) (Kd.R_base HST'.out.ri)
                  go_upto_region 26 with (fail)
                  have HB8 := Aside0.mk (below_set (j := 6) (v := .slice P2 m2 d2) hb7 HST'.out.hg)
                  have HF8 := Aside0.mk (Kd.R_set (Kd.R_over HF.out HST'.out.ri (by decide) hg1) hkg (by decide) 6 (.slice P2 m2 d2))
                  have HX8 := Aside0.mk (Kd.R_set (Kd.R_over HX.out HST'.out.ri (by decide) hg1) hkg (by decide) 6 (.slice P2 m2 d2))
                  have HH8 := Aside0.mk (HST'.out.putI hR1 hg1 ⟨b.f1, hli, rfl⟩)
                  have mv : ∀ {gx : Nat} {cs : Array Value} {t : TypeId}, t ≠ 40 → t ≠ 34 → wr.heap[gx]? = some (.cells cs t (0, 0)) → (w7.setCell ⟨g, 6, none⟩ (.slice P2 m2 d2)).heap[gx]? = some (.cells cs t (0, 0)) := fun h1 h2 h => blk_far (blk_grown h hg1 (Kd.R_ne HST'.out.ri h h1.symm)) (p := ⟨g, 6, none⟩) (blk_ne (blk_grown h hg1 (Kd.R_ne HST'.out.ri h h1.symm)) hkg h2) (.slice P2 m2 d2)
                  have HK38 := Aside0.mk (mv (by decide) (by decide) HK3.out)
                  have HK48 := Aside0.mk (mv (by decide) (by decide) HK4.out)
                  have HS8 : Aside0 (w.heap.size ≤ (w7.setCell ⟨g, 6, none⟩ (.slice P2 m2 d2)).heap.size) := ⟨Nat.le_trans HSW.out (Nat.le_trans hg1.size (by simp [World.setCell]))⟩
                  clear mv hkg p6 f6 hb7 hR1 hg1 HST' HF HX HBB HSW HK3 HK4
                  generalize w7.setCell ⟨g, 6, none⟩ (.slice P2 m2 d2) = w8 at *
                  obtain rfl : mW = (full mkI b.f1).length := (Kd.R_reads' HX8.out).1
                  have hcutI := cut_cap (P := Try.prog) 40 47 .i64 Try.underlying40 HI47.out PW (full mkI b.f1).length dW (b.f1.length : Int) (by omega) (by have := ge44 HX8.out; rw [full_len] at this; omega)
                  rw [Int.toNat_natCast] at hcutI
                  have hcutN := cut_cap (P := Try.prog) 41 3 .i64 Try.underlying41 HI3.out PV (full mkN b.f2).length dV (b.f2.length : Int) (by omega) (by have := ge44 HF8.out; rw [full_len] at this; omega)
                  rw [Int.toNat_natCast] at hcutN
                  have HCI := Aside0.mk hcutI
                  have HCN := Aside0.mk hcutN
                  clear hcutI hcutN
                  have HK3 := HK38
                  generalize hPI : PW = PI at *
                  generalize hPN : PV = PN at *
                  generalize hdI : dW = dI at *
                  generalize hdN : dV = dN at *
                  clear hPI hPN hdI hdN
                  clear HK38
                  rename_i hK hQ0 hQ_
                  refine RegInv.region_last2 (by kernel_rfl) (by kernel_rfl) (fun a b => Below a.heap.size a b) (fun a b c h k => wB h k) (below_drew1 (Below.refl _ _)) dHB26 13 (by kernel_rfl) (by kernel_rfl) (by kernel_rfl) (by kernel_rfl) (FHB26 g3 b.f1.length b.f2.length (full mkI b.f1).length (full mkN b.f2).length b.f0 A1 A2 PI PN c1 c2 dI dN) (FHB26_below g3 b.f1.length b.f2.length (full mkI b.f1).length (full mkN b.f2).length b.f0 A1 A2 PI PN c1 c2 dI dN) ?hsHB26 ?heHB26
                  case hsHB26 =>
                    clear hK
                    intro i o a w8 hlt hi hM
                    have K3' := blk_below HK3.out hM.ext
                    rcases i with _ | _ | _ | _ | _ | _ | _ | _ | _ | _ | _ | _ | _ | i
                    · cases hi
                      have h0 := gdq _ _ _ (show a.tmps.getD 3 undef = .pointer (some ⟨g3, 0, none⟩) from hM.off 3 (by kernel_rfl))
                      refine RegInv.op_value (by rfl) rfl (v := .pointer (some ⟨g3, 0, none⟩)) (w' := w8) ?_ ⟨_, rfl, rfl, Below.refl _ _⟩
                      unfold execOp
                      go_simp
                    · cases hi
                      have h0 := gdq _ _ _ (show a.tmps.getD 118 undef = .pointer (some ⟨g3, 0, none⟩) from hM.at_ 0 (by decide) (by kernel_rfl))
                      have y : w8.cell? ⟨g3, 0, none⟩ = some (.int .i64 b.f0) := blk_cell K3' 0
                      refine RegInv.op_value (by rfl) rfl (v := .int .i64 b.f0) (w' := w8) ?_ ⟨_, rfl, rfl, Below.refl _ _⟩
                      unfold execOp
                      go_simp
                    · cases hi
                      have h0 := gdq _ _ _ (show a.tmps.getD 8 undef = .slice PI (full mkI b.f1).length dI from hM.off 8 (by kernel_rfl))
                      refine RegInv.op_value (by rfl) rfl (v := .slice PI (full mkI b.f1).length dI) (w' := w8) ?_ ⟨_, rfl, rfl, Below.refl _ _⟩
                      unfold execOp
                      go_simp
                    · cases hi
                      have h0 := gdq _ _ _ (show a.tmps.getD 3 undef = .pointer (some ⟨g3, 0, none⟩) from hM.off 3 (by kernel_rfl))
                      refine RegInv.op_value (by rfl) rfl (v := .pointer (some ⟨g3, 1, none⟩)) (w' := w8) ?_ ⟨_, rfl, rfl, Below.refl _ _⟩
                      unfold execOp
                      go_simp
                    · cases hi
                      have h0 := gdq _ _ _ (show a.tmps.getD 121 undef = .pointer (some ⟨g3, 1, none⟩) from hM.at_ 3 (by decide) (by kernel_rfl))
                      have y : w8.cell? ⟨g3, 1, none⟩ = some (.slice A1 b.f1.length c1) := blk_cell K3' 1
                      refine RegInv.op_value (by rfl) rfl (v := .slice A1 b.f1.length c1) (w' := w8) ?_ ⟨_, rfl, rfl, Below.refl _ _⟩
                      unfold execOp
                      go_simp
                    · cases hi
                      have h0 := gdq _ _ _ (show a.tmps.getD 122 undef = .slice A1 b.f1.length c1 from hM.at_ 4 (by decide) (by kernel_rfl))
                      refine RegInv.op_value (by rfl) rfl (v := .int .i64 (b.f1.length : Int)) (w' := w8) ?_ ⟨_, rfl, rfl, Below.refl _ _⟩
                      unfold execOp
                      go_simp
                    · cases hi
                      have h0 := gdq _ _ _ (show a.tmps.getD 120 undef = .slice PI (full mkI b.f1).length dI from hM.at_ 2 (by decide) (by kernel_rfl))
                      have h1 := gdq _ _ _ (show a.tmps.getD 123 undef = .int .i64 (b.f1.length : Int) from hM.at_ 5 (by decide) (by kernel_rfl))
                      have hcI := HCI.out
                      refine RegInv.op_value (by rfl) rfl (v := .slice PI b.f1.length dI) (w' := w8) ?_ ⟨_, rfl, rfl, Below.refl _ _⟩
                      unfold execOp
                      go_simp
                    · cases hi
                      have h0 := gdq _ _ _ (show a.tmps.getD 5 undef = .slice PN (full mkN b.f2).length dN from hM.off 5 (by kernel_rfl))
                      refine RegInv.op_value (by rfl) rfl (v := .slice PN (full mkN b.f2).length dN) (w' := w8) ?_ ⟨_, rfl, rfl, Below.refl _ _⟩
                      unfold execOp
                      go_simp
                    · cases hi
                      have h0 := gdq _ _ _ (show a.tmps.getD 3 undef = .pointer (some ⟨g3, 0, none⟩) from hM.off 3 (by kernel_rfl))
                      refine RegInv.op_value (by rfl) rfl (v := .pointer (some ⟨g3, 2, none⟩)) (w' := w8) ?_ ⟨_, rfl, rfl, Below.refl _ _⟩
                      unfold execOp
                      go_simp
                    · cases hi
                      have h0 := gdq _ _ _ (show a.tmps.getD 126 undef = .pointer (some ⟨g3, 2, none⟩) from hM.at_ 8 (by decide) (by kernel_rfl))
                      have y : w8.cell? ⟨g3, 2, none⟩ = some (.slice A2 b.f2.length c2) := blk_cell K3' 2
                      refine RegInv.op_value (by rfl) rfl (v := .slice A2 b.f2.length c2) (w' := w8) ?_ ⟨_, rfl, rfl, Below.refl _ _⟩
                      unfold execOp
                      go_simp
                    · cases hi
                      have h0 := gdq _ _ _ (show a.tmps.getD 127 undef = .slice A2 b.f2.length c2 from hM.at_ 9 (by decide) (by kernel_rfl))
                      refine RegInv.op_value (by rfl) rfl (v := .int .i64 (b.f2.length : Int)) (w' := w8) ?_ ⟨_, rfl, rfl, Below.refl _ _⟩
                      unfold execOp
                      go_simp
                    · cases hi
                      have h0 := gdq _ _ _ (show a.tmps.getD 125 undef = .slice PN (full mkN b.f2).length dN from hM.at_ 7 (by decide) (by kernel_rfl))
                      have h1 := gdq _ _ _ (show a.tmps.getD 128 undef = .int .i64 (b.f2.length : Int) from hM.at_ 10 (by decide) (by kernel_rfl))
                      have hcN := HCN.out
                      refine RegInv.op_value (by rfl) rfl (v := .slice PN b.f2.length dN) (w' := w8) ?_ ⟨_, rfl, rfl, Below.refl _ _⟩
                      unfold execOp
                      go_simp
                    · cases hi
                      have h0 := gdq _ _ _ (show a.tmps.getD 119 undef = .int .i64 b.f0 from hM.at_ 1 (by decide) (by kernel_rfl))
                      have h1 := gdq _ _ _ (show a.tmps.getD 124 undef = .slice PI b.f1.length dI from hM.at_ 6 (by decide) (by kernel_rfl))
                      have h2 := gdq _ _ _ (show a.tmps.getD 129 undef = .slice PN b.f2.length dN from hM.at_ 11 (by decide) (by kernel_rfl))
                      refine RegInv.op_value (by rfl) rfl (v := .agg #[.int .i64 b.f0, .slice PI b.f1.length dI, .slice PN b.f2.length dN]) (w' := w8) ?_ ⟨_, rfl, rfl, Below.refl _ _⟩
                      unfold execOp
                      go_simp
                    · exact absurd hlt (by omega)
                  intro vs w9 bF hF
                  have eL : vs 12 = .agg #[.int .i64 b.f0, .slice PI b.f1.length dI, .slice PN b.f2.length dN] := hF 12 (by omega)
                  clear hF
                  simp only [RegInv.puts, dHB26, Act.put, List.range, List.range.loop, List.setIfInBounds_toArray, List.set_cons_zero, List.set_cons_succ]
                  rw [eL]
                  clear eL
                  have hk4 := blk_below HK48.out bF
                  have c0' : w9.cell? ⟨g4, 0, none⟩ = some (.int .i64 0) := blk_cell hk4 0
                  have c1' : w9.cell? ⟨g4, 1, none⟩ = some (.slice none 0 0) := blk_cell hk4 1
                  have c2' : w9.cell? ⟨g4, 2, none⟩ = some (.slice none 0 0) := blk_cell hk4 2
                  have f0' : w9.frozen? ⟨g4, 0, none⟩ = false := blk_frozen hk4 0
                  have f1' : w9.frozen? ⟨g4, 1, none⟩ = false := blk_frozen hk4 1
                  have f2' : w9.frozen? ⟨g4, 2, none⟩ = false := blk_frozen hk4 2
                  refine RegInv.op_skip (by rfl) rfl (w' := set3 w9 g4 (.int .i64 b.f0) (.slice PI b.f1.length dI) (.slice PN b.f2.length dN)) ?run ?_
                  case run =>
                    unfold execOp set3
                    go_simp
                  clear c0' c1' c2' f0' f1' f2'
                  have HR9 := Aside0.mk (Kd.R_take (m := b.f1.length) (set3_R (Kd.R_below HX8.out bF) hk4 (by decide) (.int .i64 b.f0) (.slice PI b.f1.length dI) (.slice PN b.f2.length dN)) (by rw [full_len]; omega))
                  rw [full_take] at HR9
                  have HN9 := Aside0.mk (Kd.R_take (m := b.f2.length) (set3_R (Kd.R_below HF8.out bF) hk4 (by decide) (.int .i64 b.f0) (.slice PI b.f1.length dI) (.slice PN b.f2.length dN)) (by rw [full_len]; omega))
                  rw [full_take] at HN9
                  have HH9 := Aside0.mk (((HH8.out.below bF).grown (e := 43) (b' := w.heap.size) (set3_grown w9 g4 (.int .i64 b.f0) (.slice PI b.f1.length dI) (.slice PN b.f2.length dN)) (fun q hq => by injection hq with hq; rw [← hq]; exact ⟨_, hk4⟩) (fun q hq => by injection hq with hq; rw [← hq]; exact HG4.out) (by decide) (.inl (by decide)) (.inl (by decide)) (.inl (by decide)) (.inl (by decide)) (.inr (fun _ h => h))).mono (qO := fun _ => True) (qS := fun _ => True) (qN := fun _ => True) (qI := fun _ => True) (qB := fun _ => True) (fun _ _ _ => trivial) (fun _ _ _ => trivial) (fun _ _ _ => trivial) (fun _ _ _ => trivial) (fun _ _ _ => trivial))
                  have HB9 := Aside0.mk ((HB8.out.trans (bF.mono HB8.out.size)).grown (set3_grown w9 g4 (.int .i64 b.f0) (.slice PI b.f1.length dI) (.slice PN b.f2.length dN)) (Nat.le_trans HB8.out.size bF.size) (fun q hq => by injection hq with hq; rw [← hq]; exact Nat.le_trans HN0.out HG4.out))
                  have HK49 := Aside0.mk (set3_blk hk4 (.int .i64 b.f0) (.slice PI b.f1.length dI) (.slice PN b.f2.length dN))
                  clear hk4 bF HX8 HF8 HH8 HB8 HK48 HK3
                  generalize set3 w9 g4 (.int .i64 b.f0) (.slice PI b.f1.length dI) (.slice PN b.f2.length dN) = w10 at *
                  generalize vs 0 = t0
                  generalize vs 1 = t1
                  generalize vs 2 = t2
                  generalize vs 3 = t3
                  generalize vs 4 = t4
                  generalize vs 5 = t5
                  generalize vs 6 = t6
                  generalize vs 7 = t7
                  generalize vs 8 = t8
                  generalize vs 9 = t9
                  generalize vs 10 = t10
                  generalize vs 11 = t11
                  refine hK _ _ ?_
                  clear hK
                  go_wp2
                  refine bodyPost_ret (results_single (fn := Try.f26) (r := .cell 4 43) rfl (.cell g4 43 #[.int .i64 b.f0, .slice PI b.f1.length dI, .slice PN b.f2.length dN] (0, 0) _ rfl HK49.out Try.underlying43 rfl (by kernel_rfl) .nil)) rfl ?_
                  exact ⟨PI, dI, PN, dN, rfl, HR9.out, HN9.out, vO', vS', .slice P1 m1 d1, .slice P2 m2 d2, O', S', NX1, I ++ [full mkI b.f1], HH9.out, HOL.out.1, HOL.out.2, HNX.out, by simp, HB9.out⟩
end Go.Proofs.Ytjekpkpmoanadaa.Hd
/- A region that draws its order and ends with one operation that waits for all others; one of the others may write what was there (an append): Inv says of the world what holds behind those that are done, Stp what each leaves. -/
namespace Go.Proofs.Ytjekpkpmoanadaa.RegInv
set_option linter.unusedVariables false
theorem region_last3 {P : Program} {id : Nat} {ops : Array Oper} {Q : Exit → Act → World → Prop} {a0 : Act} {w0 : World} (hm : P.follows .mixedOrders = true) (he : early .any ops = true)
    (dst : Nat → Option Tmp) (n : Nat) (hn : ops.size = n + 1) (hsl : slotsOk dst n a0.tmps.size = true)
    (hdst : ((List.range n).all fun i => match ops[i]? with | some o => o.dst == dst i | none => false) = true)
    (hwait : ((List.range n).all fun j => (List.range (n + 1)).any fun i => decide (j < i) && match ops[i]? with | some o => waits o j | none => false) = true)
    (F : Nat → World → Value → Prop) (Stp : Nat → World → World → Prop) (Inv : (Nat → Prop) → World → Prop) (hInv0 : Inv (fun _ => False) { w0 with drawn := w0.drawn + 1 }) (hF : ∀ i j w w1 v, i ≠ j → F i w v → Stp j w w1 → F i w1 v)
    (hstep : ∀ (D : Nat → Prop) i o a w, i < n → ops[i]? = some o → ¬ D i → (∀ j, waits o j = true → D j) → Inv D w → Mid (fun _ _ => True) dst n F a0 w0 (fun j => waits o j = true) a w → wpOp P ops Q i (fun a' w' => ∃ v, a' = a.put (dst i) v ∧ F i w' (match dst i with | some _ => v | none => undef) ∧ Stp i w w' ∧ Inv (fun j => D j ∨ j = i) w') a w)
    (hlast : ∀ (vs : Nat → Value) w (D : Nat → Prop), (∀ i, i < n → D i) → Inv D w → (∀ i, i < n → F i w (match dst i with | some _ => vs i | none => undef)) → wpOp P ops Q n (fun a' w' => Q .normal a' w') (puts dst vs (List.range n) a0) w) : (Code.region id ops true).wp P Q a0 w0 := by
  have hdi : ∀ i o, i < n → ops[i]? = some o → o.dst = dst i := fun i o hi ho => by
    have := List.all_eq_true.1 hdst i (List.mem_range.2 hi)
    rw [ho] at this
    exact beq_iff_eq.1 this
  have hne := slots_ne hsl
  refine region_inv_op2 hm he (fun l a w => (l[n]? = some true → Q .normal a w ∧ ∀ i, i < n → l[i]? = some true) ∧ (l[n]? ≠ some true → Mid (fun _ _ => True) dst n F a0 w0 (fun j => l[j]? = some true) a w ∧ Inv (fun j => l[j]? = some true) w)) ?_ ?_ ?_
  · refine ⟨fun h => ?_, fun _ => ⟨⟨rfl, rfl, fun _ _ => rfl, trivial, fun i hi h => ?_⟩, ?_⟩⟩
    · rw [Array.getElem?_replicate, if_pos (by omega)] at h; cases h
    · rw [Array.getElem?_replicate, if_pos (by omega)] at h; cases h
    · have e : (fun j : Nat => (Array.replicate ops.size false)[j]? = some true) = fun _ => False := funext fun j => propext (by
        rw [Array.getElem?_replicate]
        split <;> simp)
      rw [e]
      exact hInv0
  · intro l a w i o hs hI ho hl hr hdep
    have hi : i < ops.size := (Array.getElem?_eq_some_iff.1 ho).1
    have hnl : l[n]? ≠ some true := fun h => by
      rcases Nat.lt_or_ge i n with hin | hin
      · rw [(hI.1 h).2 i hin] at hl; cases hl
      · obtain rfl : i = n := by omega
        rw [h] at hl; cases hl
    have hMP := hI.2 hnl
    have hM := hMP.1
    have hP := hMP.2
    rcases Nat.lt_or_ge i n with hin | hin
    · have hset : (l.setIfInBounds i true)[n]? = l[n]? := by rw [Array.getElem?_setIfInBounds, if_neg (by omega)]
      refine wpOp_mono ?_ (hstep (fun j => l[j]? = some true) i o a w hin ho (fun h => by rw [hl] at h; cases h) (fun j hw => dep_of hr hw) hP ⟨hM.defers, hM.size, hM.off, hM.ext, fun j hj hw => hM.at_ j hj (dep_of hr hw)⟩)
      rintro a' w' ⟨v, rfl, hv, hx, hq⟩
      refine ⟨fun h => absurd (hset ▸ h) hnl, fun _ => ⟨⟨?_, ?_, fun t ht => ?_, trivial, fun j hj hlj => ?_⟩, ?_⟩⟩
      · rw [← hM.defers]; cases dst i <;> rfl
      · rw [← hM.size]; cases dst i <;> simp [Act.put]
      · rw [← hM.off t ht]
        have := List.all_eq_true.1 ht i (List.mem_range.2 hin)
        cases hd : dst i with
        | none => rfl
        | some d => rw [hd] at this; exact getD_put (fun e => by rw [e] at this; simp at this)
      · by_cases hji : j = i
        · subst hji
          cases hd : dst j with
          | none => rw [hd] at hv; exact hv
          | some t =>
            rw [hd] at hv
            simp only
            rw [getD_put_self (by rw [hM.size]; exact (hne j t hj hd).1)]
            exact hv
        · have hlj' : l[j]? = some true := by
            rw [Array.getElem?_setIfInBounds, if_neg (fun e => hji e.symm)] at hlj
            exact hlj
          have h1 := hF j i _ _ _ hji (hM.at_ j hj hlj') hx
          cases hd : dst j with
          | none => rw [hd] at h1; exact h1
          | some t =>
            rw [hd] at h1
            simp only at h1 ⊢
            cases hdi' : dst i with
            | none => exact h1
            | some d => rw [getD_put (fun e => (hne j t hj hd).2 i hin (fun e => hji e.symm) (by rw [hdi', e]))]; exact h1
      · have e : (fun j : Nat => (l.setIfInBounds i true)[j]? = some true) = fun j => l[j]? = some true ∨ j = i := funext fun j => propext (by
          rw [Array.getElem?_setIfInBounds]
          by_cases hji : i = j
          · subst hji
            simp [hs, hi]
          · rw [if_neg hji]
            exact ⟨.inl, fun h => h.elim (fun h => h) (fun e => absurd e.symm hji)⟩)
        rw [e]
        exact hq
    · obtain rfl : i = n := by omega
      have hall0 : ∀ m j, m + j = i → 0 < m → l[j]? = some true := by
        intro m
        induction m using Nat.strongRecOn with
        | _ m ih =>
          intro j hj hm0
          have h1 := List.all_eq_true.1 hwait j (List.mem_range.2 (by omega))
          rw [List.any_eq_true] at h1
          obtain ⟨q, hq, h2⟩ := h1
          rw [Bool.and_eq_true, decide_eq_true_eq] at h2
          obtain ⟨hjq, h3⟩ := h2
          have hqn : q < i + 1 := List.mem_range.1 hq
          cases hoq : ops[q]? with
          | none => rw [hoq] at h3; cases h3
          | some oq =>
            rw [hoq] at h3
            rcases Nat.lt_or_ge q i with hlt | hge
            · exact hdep q j oq hoq (ih (i - q) (by omega) q (by omega) (by omega)) h3
            · obtain rfl : q = i := by omega
              rw [ho] at hoq
              cases hoq
              exact dep_of hr h3
      have hall : ∀ j, j < i → l[j]? = some true := fun j hj => hall0 (i - j) j (by omega) (by omega)
      have hp : puts dst (fun j => match dst j with | some t => a.tmps.getD t undef | none => undef) (List.range i) a0 = a := mid_puts hsl hM
      have h := hlast (fun j => match dst j with | some t => a.tmps.getD t undef | none => undef) w (fun j => l[j]? = some true) hall hP (fun j hj => by
        have := hM.at_ j hj (hall j hj)
        cases hd : dst j with
        | none => rw [hd] at this; exact this
        | some t => rw [hd] at this; simpa [hd] using this)
      rw [hp] at h
      refine wpOp_mono (fun a' w' hq => ⟨fun _ => ⟨hq, fun j hj => ?_⟩, fun hne' => absurd ?_ hne'⟩) h
      · rw [Array.getElem?_setIfInBounds, if_neg (by omega)]; exact hall j hj
      · rw [Array.getElem?_setIfInBounds, if_pos rfl, if_pos (by omega)]
  · intro a w hI
    refine (hI.1 ?_).1
    rw [Array.getElem?_replicate, if_pos (by omega)]
end Go.Proofs.Ytjekpkpmoanadaa.RegInv
/- HandCode: the same code, with marks; what it leaves. For every world. -/
namespace Go.Proofs.Ytjekpkpmoanadaa.Hd
open Go.RowKit Go.Proofs.Ytjekpkpmoanadaa.PCop Go.Proofs.Ytjekpkpmoanadaa.Lit Go.Proofs.Ytjekpkpmoanadaa.OwnCells Go.Proofs.YtjekpkpmoanadaaW.PrintWords Go.Proofs.YtjekpkpmoanadaaW.PrintLast Go.Proofs.YtjekpkpmoanadaaW.PrintMore
set_option linter.unusedVariables false
set_option linter.unusedSimpArgs false
theorem inf43 : (Try.prog.info? 43).map (fun i => (i.zero, i.size, i.bytes)) = some (some (.agg #[(.int .i64 0), (.slice none 0 0), (.slice none 0 0)]), 3, 56) := by kernel_rfl
/-- what holds of the world while a list is made (6) and appended (7) -/
def InvA (wS : World) (o : Obj) (G : World → Prop) (D : Nat → Prop) (w : World) : Prop := (¬ D 6 ∧ ¬ D 7 ∧ w = wS) ∨ (D 6 ∧ ¬ D 7 ∧ w = wS.alloc o) ∨ (D 6 ∧ D 7 ∧ G w)
section
variable {wS w w1 : World} {o : Obj} {G : World → Prop} {D : Nat → Prop} {row : Option Nat}
theorem InvA_pure {i : Nat} (h : InvA wS o G D w) (h6 : 6 ≠ i) (h7 : 7 ≠ i) : InvA wS o G (fun j => D j ∨ j = i) w := by
  rcases h with ⟨a, b, c⟩ | ⟨a, b, c⟩ | ⟨a, b, c⟩
  · exact .inl ⟨fun h => h.elim a h6, fun h => h.elim b h7, c⟩
  · exact .inr (.inl ⟨.inl a, fun h => h.elim b h7, c⟩)
  · exact .inr (.inr ⟨.inl a, .inl b, c⟩)
theorem InvA_start (h : InvA wS o G D w) (h6 : ¬ D 6) : wS = w := by
  rcases h with ⟨a, b, c⟩ | ⟨a, b, c⟩ | ⟨a, b, c⟩
  · exact c.symm
  · exact absurd a h6
  · exact absurd a h6
theorem InvA_made (h : InvA wS o G D w) (h6 : ¬ D 6) : InvA wS o G (fun j => D j ∨ j = 6) (wS.alloc o) := by
  rcases h with ⟨a, b, c⟩ | ⟨a, b, c⟩ | ⟨a, b, c⟩
  · exact .inr (.inl ⟨.inr rfl, fun h => h.elim b (by decide), rfl⟩)
  · exact absurd a h6
  · exact absurd a h6
theorem InvA_mid (h : InvA wS o G D w) (h6 : D 6) (h7 : ¬ D 7) : wS.alloc o = w := by
  rcases h with ⟨a, b, c⟩ | ⟨a, b, c⟩ | ⟨a, b, c⟩
  · exact absurd h6 a
  · exact c.symm
  · exact absurd b h7
theorem InvA_done (h : InvA wS o G D w) (h6 : D 6) (hG : G w1) : InvA wS o G (fun j => D j ∨ j = 7) w1 := .inr (.inr ⟨.inl h6, .inr rfl, hG⟩)
theorem InvA_grown (h : InvA wS o (fun w => wS.grownBy w row) D w) : wS.grownBy w row := by
  rcases h with ⟨a, b, c⟩ | ⟨a, b, c⟩ | ⟨a, b, c⟩
  · rw [c]; exact World.grownBy.refl _ _
  · rw [c]; exact World.grownBy_alloc _ _ _
  · exact c
theorem InvA_end (h : InvA wS o G D w) (h7 : D 7) : G w := by
  rcases h with ⟨a, b, c⟩ | ⟨a, b, c⟩ | ⟨a, b, c⟩
  · exact absurd h7 b
  · exact absurd h7 b
  · exact c
end
def SC6 (j : Nat) (w w1 : World) : Prop := if j = 6 then ∃ o, w1 = w.alloc o else if j = 7 then True else w1 = w
theorem H.rb' {b g : Nat} {pO pS pN pI pB : Nat → Prop} {w : World} {vO vS vN vI vB : Value} {O : List (List S49)} {S : List (List S65)} {NX : List (List Int)} {I : List (List S47)} {B : List S43} (h : H b g pO pS pN pI pB w vO vS vN vI vB O S NX I B) : k43.R 43 w b pB vB B := h.rb
theorem H.size {b g : Nat} {pO pS pN pI pB : Nat → Prop} {w : World} {vO vS vN vI vB : Value} {O : List (List S49)} {S : List (List S65)} {NX : List (List Int)} {I : List (List S47)} {B : List S43} (h : H b g pO pS pN pI pB w vO vS vN vI vB O S NX I B) : b ≤ w.heap.size := Nat.le_trans h.hg (Nat.le_of_lt (blk_lt h.blk))
def dC6 : Nat → Option Tmp
  | 0 => some 23
  | 1 => some 24
  | 2 => some 25
  | 3 => some 26
  | 4 => some 27
  | 5 => some 28
  | 6 => some 29
  | 7 => some 30
  | 8 => some 31
  | 9 => some 32
  | _ => none
def FC6 (g g5 : Nat) (PB : Option Addr) (mB dB : Nat) (PI PN : Option Addr) (nI dI nN dN sz base : Nat) (pc : Int) (B : List S43) (x : S43) : Nat → World → Value → Prop
  | 0, _, v => v = .pointer (some ⟨g, 0, none⟩)
  | 1, _, v => v = .pointer (some ⟨g, 0, none⟩)
  | 2, _, v => v = .pointer (some ⟨g, 0, none⟩)
  | 3, _, v => v = .pointer (some ⟨g, 7, none⟩)
  | 4, _, v => v = .slice PB mB dB
  | 5, _, v => v = .agg #[.int .i64 pc, .slice PI nI dI, .slice PN nN dN]
  | 6, _, v => v = .slice (some ⟨sz, 0, none⟩) 1 1
  | 7, w, v => k43.R 43 w base (fun _ => True) v (B ++ [x])
  | 8, _, v => v = .pointer (some ⟨g, 0, none⟩)
  | 9, _, v => v = .pointer (some ⟨g, 7, none⟩)
  | _, _, _ => True
theorem FC6_keep (g g5 : Nat) (PB : Option Addr) (mB dB : Nat) (PI PN : Option Addr) (nI dI nN dN sz base : Nat) (pc : Int) (B : List S43) (x : S43) (i j : Nat) (w w1 : World) (v : Value) (hij : i ≠ j) (h : FC6 g g5 PB mB dB PI PN nI dI nN dN sz base pc B x i w v) (hs : SC6 j w w1) : FC6 g g5 PB mB dB PI PN nI dI nN dN sz base pc B x i w1 v := by
  match i with
  | 0 | 1 | 2 | 3 | 4 | 5 | 6 | 8 | 9 => exact h
  | 7 =>
    unfold SC6 at hs
    by_cases h6 : j = 6
    · rw [if_pos h6] at hs
      obtain ⟨o, rfl⟩ := hs
      exact Kd.R_alloc h o
    · rw [if_neg h6, if_neg (fun e => hij e.symm)] at hs
      rw [hs]; exact h
  | (n + 10) => exact h
def dC11 : Nat → Option Tmp
  | 0 => some 49
  | 1 => some 50
  | 2 => some 51
  | 3 => some 52
  | 4 => some 53
  | 5 => some 54
  | 6 => some 55
  | 7 => some 56
  | 8 => some 57
  | 9 => some 58
  | 10 => some 59
  | 11 => some 60
  | 12 => some 61
  | 13 => some 62
  | 14 => some 63
  | 15 => some 64
  | _ => none
def FC11 (g g1 : Nat) (PB AB : Option Addr) (n nf dB cB : Nat) (fn regs : Int) : Nat → World → Value → Prop
  | 0, _, v => v = .pointer (some ⟨g, 0, none⟩)
  | 1, _, v => v = .pointer (some ⟨g1, 0, none⟩)
  | 2, _, v => v = .int .i64 fn
  | 3, _, v => v = .pointer (some ⟨g1, 1, none⟩)
  | 4, _, v => v = .int .i64 regs
  | 5, _, v => v = .pointer (some ⟨g, 0, none⟩)
  | 6, _, v => v = .pointer (some ⟨g, 0, none⟩)
  | 7, _, v => v = .pointer (some ⟨g, 7, none⟩)
  | 8, _, v => v = .slice PB nf dB
  | 9, _, v => v = .pointer (some ⟨g1, 2, none⟩)
  | 10, _, v => v = .slice AB n cB
  | 11, _, v => v = .int .i64 (n : Int)
  | 12, _, v => v = .slice PB n dB
  | 13, _, v => v = .agg #[.int .i64 fn, .int .i64 regs, .slice PB n dB]
  | 14, _, v => v = .pointer (some ⟨g, 0, none⟩)
  | 15, _, v => v = .pointer (some ⟨g, 0, none⟩)
  | _, _, _ => True
theorem FC11_below (g g1 : Nat) (PB AB : Option Addr) (n nf dB cB : Nat) (fn regs : Int) (i : Nat) (w w1 : World) (v : Value) (h : FC11 g g1  PB AB  n nf dB cB  fn regs  i w v) (hb : Below w.heap.size w w1) : FC11 g g1  PB AB  n nf dB cB  fn regs  i w1 v := by
  match i with
  | 0 | 1 | 2 | 3 | 4 | 5 | 6 | 7 | 8 | 9 | 10 | 11 | 12 | 13 | 14 | 15 => exact h
  | (n + 16) => exact h
/-- what HandCode hands out -/
structure Made (b g : Nat) (w : World) (fn regs : Int) (PB : Option Addr) (dB : Nat) (vO vS vN vI : Value) (O : List (List S49)) (S : List (List S65)) (NX : List (List Int)) (I : List (List S47)) (l : List S43) : Prop where
  blk : w.heap[g]? = some (.cells #[.int .i64 fn, .int .i64 regs, .slice PB l.length dB, vO, vS, vN, vI, .slice PB (full mkB l).length dB] 34 (0, 0))
  hg : b ≤ g
  ro : (Kd.slice 49 k49).R 44 w b (fun _ => True) vO O
  rs : (Kd.slice 65 k65).R 45 w b (fun _ => True) vS S
  rn : (Kd.slice 3 (Kd.int .i64)).R 41 w b (fun _ => True) vN NX
  ri : (Kd.slice 47 k47).R 40 w b (fun _ => True) vI I
  rb : k43.R 43 w b (fun _ => True) (.slice PB (full mkB l).length dB) (full mkB l)
  mo : ∀ x ∈ O, ∃ p : List S49, p.length ≤ 1048576 ∧ x = full mkO p
  ms : ∀ x ∈ S, ∃ p : List S65, p.length ≤ 1048576 ∧ x = full mkS p
  mn : ∀ x ∈ NX, ∃ p : List Int, p.length ≤ 1048576 ∧ x = full mkN p
  mi : ∀ x ∈ I, ∃ p : List S47, p.length ≤ 1048576 ∧ x = full mkI p
  ln : NX.length = l.length
  li : I.length = l.length
def costB (l : List S43) : Nat := (l.map fun b => costI b.f1).sum
def insB (l : List S43) : Nat := (l.map fun b => b.f1.length).sum
theorem costB_succ {l : List S43} {k : Nat} (h : k < l.length) : costB (l.take (k + 1)) = costB (l.take k) + costI l[k].f1 := by
  unfold costB
  rw [List.take_succ_eq_append_getElem h, List.map_append, List.sum_append]; simp
theorem insB_succ {l : List S43} {k : Nat} (h : k < l.length) : insB (l.take (k + 1)) = insB (l.take k) + l[k].f1.length := by
  unfold insB
  rw [List.take_succ_eq_append_getElem h, List.map_append, List.sum_append]; simp
theorem costB_le (l : List S43) (k : Nat) : costB (l.take k) ≤ costB l := by
  have e : costB l = costB (l.take k) + costB (l.drop k) := by
    unfold costB
    rw [← List.sum_append, ← List.map_append, List.take_append_drop]
  omega
theorem insB_le (l : List S43) (k : Nat) : insB (l.take k) ≤ insB l := by
  have e : insB l = insB (l.take k) + insB (l.drop k) := by
    unfold insB
    rw [← List.sum_append, ← List.map_append, List.take_append_drop]
  omega
structure SmallC (l : List S43) : Prop where
  len : l.length ≤ 1048576
  each : ∀ b ∈ l, SmallB b
  cost : costB l ≤ 2199023255552
  ins : insB l ≤ 2199023255552
set_option maxHeartbeats 16000000 in
set_option maxRecDepth 100000 in
theorem hand_code (AB : Option Addr) (cB : Nat) (l : List S43) (fn regs : Int) (wz : World) (hl : k43.C wz AB l.length l) (hcl : l.length ≤ cB) (hs : SmallC l) :
    Calls Try.prog 10 #[.agg #[.int .i64 fn, .int .i64 regs, .slice AB l.length cB]] wz fun e w' => ∃ g PB dB vO vS vN vI O S NX I, e = .returned (.pointer (some ⟨g, 0, none⟩)) ∧ Made wz.heap.size g w' fn regs PB dB vO vS vN vI O S NX I l ∧ Below wz.heap.size wz w' := by
  have HL := Aside0.mk hl
  have HCL := Aside0.mk hcl
  have HSM := Aside0.mk hs
  have hlen := hs.len
  obtain ⟨i25, hi25, _⟩ := Option.map_eq_some_iff.1 inf43
  have HI43 := Aside0.mk hi25
  clear hl hcl hs hi25
  go_enter Try.func10, Try.ntmps10
  go_upto_region 2 with (fail)
  have hb2 := bodies wz (.cells #[.int .i64 fn, .int .i64 regs, .slice AB l.length cB] 24)
  have hb3 := bodies (wz.alloc (.cells #[.int .i64 fn, .int .i64 regs, .slice AB l.length cB] 24)) (.cells #[.int .i64 0, .int .i64 0, .slice none 0 0, .slice none 0 0, .slice none 0 0, .slice none 0 0, .slice none 0 0, .slice none 0 0] 34)
  have K1 := blk_new wz (.cells #[.int .i64 fn, .int .i64 regs, .slice AB l.length cB] 24)
  have K := blk_new (wz.alloc (.cells #[.int .i64 fn, .int .i64 regs, .slice AB l.length cB] 24)) (.cells #[.int .i64 0, .int .i64 0, .slice none 0 0, .slice none 0 0, .slice none 0 0, .slice none 0 0, .slice none 0 0, .slice none 0 0] 34)
  have hsz : (wz.alloc (.cells #[.int .i64 fn, .int .i64 regs, .slice AB l.length cB] 24)).heap.size = wz.heap.size + 1 := World.size_alloc _ _
  rw [← hsz]
  generalize (wz.alloc (.cells #[.int .i64 fn, .int .i64 regs, .slice AB l.length cB] 24)) = w0 at *
  replace HL := Aside0.mk (Kd.C_below HL.out hb2)
  have HBZ := Aside0.mk hb2
  have HSZ := Aside0.mk hsz
  clear hb2 hsz
  generalize w0.alloc (.cells #[.int .i64 0, .int .i64 0, .slice none 0 0, .slice none 0 0, .slice none 0 0, .slice none 0 0, .slice none 0 0, .slice none 0 0] 34) = w1 at *
  obtain ⟨g, hg⟩ : ∃ q, q = w0.heap.size := ⟨_, rfl⟩
  obtain ⟨g1, hg1⟩ : ∃ q, q = wz.heap.size := ⟨_, rfl⟩
  rw [← hg1] at K1 ⊢
  have HG := Aside0.mk (show w0.heap.size ≤ g by omega)
  rw [← hg] at K ⊢
  have HST0 : Aside0 (H w0.heap.size g (fun _ => True) (fun _ => True) (fun _ => True) (fun _ => True) (fun _ => True) w1 (.slice none 0 0) (.slice none 0 0) (.slice none 0 0) (.slice none 0 0) (.slice none 0 0) [] [] [] [] []) := ⟨⟨K, HG.out, Kd.R_nil _ _ _ _ _, Kd.R_nil _ _ _ _ _, Kd.R_nil _ _ _ _ _, Kd.R_nil _ _ _ _ _, Kd.R_nil _ _ _ _ _, (fun _ h => by cases h), (fun _ h => by cases h), (fun _ h => by cases h), (fun _ h => by cases h)⟩⟩
  have HBB := Aside0.mk hb3
  have HKK := Aside0.mk K1
  clear K K1 hb3 hg hg1
  go_wp2_with (fail)
  go_loopw [4, 5] (fun t _ wr => ∃ k : Nat, k ≤ l.length ∧ t = .int .i64 k ∧ ∃ vO vS vN vI vB O S NX I, H w0.heap.size g (fun _ => True) (fun _ => True) (fun _ => True) (fun _ => True) (fun _ => True) wr vO vS vN vI vB O S NX I (l.take k) ∧ (O.length = costB (l.take k) ∧ S.length = insB (l.take k) ∧ NX.length = k ∧ I.length = k) ∧ Below w0.heap.size w0 wr) (fun t _ _ => l.length - (intOf t).toNat)
  case atStart => exact ⟨0, Nat.zero_le _, rfl, _, _, _, _, _, _, _, _, _, HST0.out, ⟨rfl, rfl, rfl, rfl⟩, HBB.out⟩
  case round =>
    clear HST0 HBB
    obtain ⟨k, hk, rfl, vO, vS, vN, vI, vB, O, S, NX, I, hH, hln, hb⟩ := hrel
    have HST := Aside0.mk hH
    have HLN := Aside0.mk hln
    have HBB := Aside0.mk hb
    clear hH hln hb
    have q2 : wr.cell? ⟨g1, 2, none⟩ = some (.slice AB l.length cB) := blk_cell (blk_below HKK.out HBB.out) 2
    by_cases hlt : k < l.length
    · obtain ⟨ad, A1, c1, A2, c2, rfl, x0, x1, x2, hA1, hC1, hA2, hC2⟩ := at_T43 HL.out (k : Int) (by omega) (by omega)
      rw [Int.toNat_natCast] at x0 x1 x2
      have hxs : SmallB (rd_T43 l (k : Int)) := by rw [rd43_at hlt]; exact HSM.out.each _ (List.getElem_mem _)
      have hxe : l.take k ++ [rd_T43 l (k : Int)] = l.take (k + 1) := by rw [List.take_succ_eq_append_getElem hlt, rd43_at hlt]
      have hco : costB (l.take (k + 1)) = costB (l.take k) + costI (rd_T43 l (k : Int)).f1 := by rw [costB_succ hlt, rd43_at hlt]
      have hin : insB (l.take (k + 1)) = insB (l.take k) + (rd_T43 l (k : Int)).f1.length := by rw [insB_succ hlt, rd43_at hlt]
      generalize rd_T43 l (k : Int) = x at *
      have HXS := Aside0.mk hxs
      have HXE := Aside0.mk hxe
      have HCO := Aside0.mk (And.intro hco (And.intro hin (And.intro (costB_le l (k + 1)) (insB_le l (k + 1)))))
      have HC1 := Aside0.mk (And.intro hA1 hC1)
      have HC2 := Aside0.mk (And.intro hA2 hC2)
      replace x0 := pw_cell_below HBB.out x0
      replace x1 := pw_cell_below HBB.out x1
      replace x2 := pw_cell_below HBB.out x2
      have HKL := Aside0.mk (show k ≤ 1048576 by omega)
      clear hxs hxe hco hin hA1 hC1 hA2 hC2
      go_wp2_with (fail)
      refine (hand_block w0 g x A1 A2 c1 c2 wr _ _ _ _ _ _ _ _ _ _ HC1.out.2 HC1.out.1 HC2.out.2 HC2.out.1 HXS.out HBB.out HST.out (by have := HLN.out.1; have := HCO.out; have := HSM.out.cost; omega) (by have := HLN.out.2.1; have := HCO.out; have := HSM.out.ins; omega) (by have := HLN.out.2.2.1; have := HKL.out; omega) (by have := HLN.out.2.2.2; have := HKL.out; omega)).mono ?_
      rintro e w3 ⟨PI, dI, PN, dN, vO3, vS3, vN3, vI3, O3, S3, NX3, I3, rfl, hR52, hR3, hH3, hO3, hS3, hN3, hI3, hb3⟩
      replace HST := Aside0.mk hH3
      have HLN3 : Aside0 (O3.length = costB (l.take (k + 1)) ∧ S3.length = insB (l.take (k + 1)) ∧ NX3.length = k + 1 ∧ I3.length = k + 1) := ⟨⟨by rw [hO3, HLN.out.1, HCO.out.1], by rw [hS3, HLN.out.2.1, HCO.out.2.1], by rw [hN3, HLN.out.2.2.1], by rw [hI3, HLN.out.2.2.2]⟩⟩
      have HSW := Aside0.mk HBB.out.size
      have HR52 := Aside0.mk (Kd.R_lower hR52 HSW.out)
      have HR3 := Aside0.mk (Kd.R_lower hR3 HSW.out)
      replace HBB := Aside0.mk hb3
      clear hR52 hR3 hH3 hO3 hS3 hN3 hI3 hb3 HLN HSW x0 x1 x2 q2
      go_upto_region 6 with (fail)
      have hb4 := bodies w3 (.cells #[.int .i64 x.f0, .slice PI x.f1.length dI, .slice PN x.f2.length dN] 43)
      have K5 := blk_new w3 (.cells #[.int .i64 x.f0, .slice PI x.f1.length dI, .slice PN x.f2.length dN] 43)
      have HNE := Aside0.mk (show some w3.heap.size ≠ vB.ownBlock from fun e => by have := Kd.R_lt HST.out.rb _ e.symm; omega)
      replace HST := Aside0.mk (HST.out.below hb4)
      replace HR52 := Aside0.mk (Kd.R_below HR52.out hb4)
      replace HR3 := Aside0.mk (Kd.R_below HR3.out hb4)
      replace HBB := Aside0.mk (HBB.out.trans (hb4.mono HBB.out.size))
      clear hb4
      generalize w3.alloc (.cells #[.int .i64 x.f0, .slice PI x.f1.length dI, .slice PN x.f2.length dN] 43) = w4 at *
      generalize w3.heap.size = g5 at *
      have HK5 := Aside0.mk K5
      clear K5
      have hbd := below_drew1 (Below.refl w4.heap.size w4)
      replace HST := Aside0.mk (HST.out.below hbd)
      replace HR52 := Aside0.mk (Kd.R_below HR52.out hbd)
      replace HR3 := Aside0.mk (Kd.R_below HR3.out hbd)
      replace HBB := Aside0.mk (HBB.out.trans (hbd.mono HBB.out.size))
      replace HK5 := Aside0.mk (blk_below HK5.out hbd)
      clear hbd
      obtain ⟨PB, mB, dB, rfl⟩ : ∃ P m d, vB = .slice P m d := let ⟨A, c, h, _⟩ := Kd.R_reads HST.out.rb; ⟨_, _, _, h⟩
      obtain ⟨wS, hwS⟩ : ∃ q : World, q = { w4 with drawn := w4.drawn + 1 } := ⟨_, rfl⟩
      replace HST : Aside0 (H w0.heap.size g (fun _ => True) (fun _ => True) (fun _ => True) (fun _ => True) (fun _ => True) wS vO3 vS3 vN3 vI3 (.slice PB mB dB) O3 S3 NX3 I3 (l.take k)) := hwS ▸ HST
      replace HR52 : Aside0 (k47.R 47 wS w0.heap.size (fun _ => True) (.slice PI x.f1.length dI) x.f1) := hwS ▸ HR52
      replace HR3 : Aside0 ((Kd.int .i64).R 3 wS w0.heap.size (fun _ => True) (.slice PN x.f2.length dN) x.f2) := hwS ▸ HR3
      replace HBB : Aside0 (Below w0.heap.size w0 wS) := hwS ▸ HBB
      replace HK5 : Aside0 (wS.heap[g5]? = some (.cells #[.int .i64 x.f0, .slice PI x.f1.length dI, .slice PN x.f2.length dN] 43 (0, 0))) := hwS ▸ HK5
      have HMX := Aside0.mk (M_apart (d := k43) (k43_mkM wS w0.heap.size (fun _ => True) x HR52.out HR3.out) HST.out.rb (by decide))
      rename_i hK
      refine RegInv.region_last3 (by kernel_rfl) (by kernel_rfl) dC6 10 (by kernel_rfl) (by kernel_rfl) (by kernel_rfl) (by kernel_rfl) (FC6 g g5 PB mB dB PI PN x.f1.length dI x.f2.length dN wS.heap.size w0.heap.size x.f0 (l.take k) x) SC6 (InvA wS (.cells #[.int .i64 x.f0, .slice PI x.f1.length dI, .slice PN x.f2.length dN] 43) (fun w => wS.grownBy w (Value.slice PB mB dB).ownBlock)) ?hi0 (FC6_keep g g5 PB mB dB PI PN x.f1.length dI x.f2.length dN wS.heap.size w0.heap.size x.f0 (l.take k) x) ?hsC6 ?heC6
      case hi0 => exact .inl ⟨fun h => h, fun h => h, hwS.symm⟩
      case hsC6 =>
        clear hK
        intro D i o a w8 hlt hi hnD hwD hInv hM
        rcases i with _ | _ | _ | _ | _ | _ | _ | _ | _ | _ | i
        · cases hi
          have h0 := gdq _ _ _ (show a.tmps.getD 3 undef = .pointer (some ⟨g, 0, none⟩) from hM.off 3 (by kernel_rfl))
          refine RegInv.op_value (by rfl) rfl (v := .pointer (some ⟨g, 0, none⟩)) (w' := w8) ?_ ⟨_, rfl, rfl, rfl, InvA_pure hInv (by decide) (by decide)⟩
          unfold execOp
          go_simp
        · cases hi
          have h0 := gdq _ _ _ (show a.tmps.getD 3 undef = .pointer (some ⟨g, 0, none⟩) from hM.off 3 (by kernel_rfl))
          refine RegInv.op_value (by rfl) rfl (v := .pointer (some ⟨g, 0, none⟩)) (w' := w8) ?_ ⟨_, rfl, rfl, rfl, InvA_pure hInv (by decide) (by decide)⟩
          unfold execOp
          go_simp
        · cases hi
          have h0 := gdq _ _ _ (show a.tmps.getD 24 undef = .pointer (some ⟨g, 0, none⟩) from hM.at_ 1 (by decide) (by kernel_rfl))
          refine RegInv.op_value (by rfl) rfl (v := .pointer (some ⟨g, 0, none⟩)) (w' := w8) ?_ ⟨_, rfl, rfl, rfl, InvA_pure hInv (by decide) (by decide)⟩
          unfold execOp
          go_simp
        · cases hi
          have h0 := gdq _ _ _ (show a.tmps.getD 25 undef = .pointer (some ⟨g, 0, none⟩) from hM.at_ 2 (by decide) (by kernel_rfl))
          refine RegInv.op_value (by rfl) rfl (v := .pointer (some ⟨g, 7, none⟩)) (w' := w8) ?_ ⟨_, rfl, rfl, rfl, InvA_pure hInv (by decide) (by decide)⟩
          unfold execOp
          go_simp
        · cases hi
          have h0 := gdq _ _ _ (show a.tmps.getD 26 undef = .pointer (some ⟨g, 7, none⟩) from hM.at_ 3 (by decide) (by kernel_rfl))
          have y : w8.cell? ⟨g, 7, none⟩ = some (.slice PB mB dB) := blk_cell (blk_grown HST.out.blk (InvA_grown hInv) (Kd.R_ne HST.out.rb' HST.out.blk (by decide))) 7
          refine RegInv.op_value (by rfl) rfl (v := .slice PB mB dB) (w' := w8) ?_ ⟨_, rfl, rfl, rfl, InvA_pure hInv (by decide) (by decide)⟩
          unfold execOp
          go_simp
        · cases hi
          have h0 := gdq _ _ _ (show a.tmps.getD 5 undef = .pointer (some ⟨g5, 0, none⟩) from hM.off 5 (by kernel_rfl))
          have y0 : w8.cell? ⟨g5, 0, none⟩ = some (.int .i64 x.f0) := blk_cell (blk_grown HK5.out (InvA_grown hInv) HNE.out) 0
          have y1 : w8.cell? ⟨g5, 1, none⟩ = some (.slice PI x.f1.length dI) := blk_cell (blk_grown HK5.out (InvA_grown hInv) HNE.out) 1
          have y2 : w8.cell? ⟨g5, 2, none⟩ = some (.slice PN x.f2.length dN) := blk_cell (blk_grown HK5.out (InvA_grown hInv) HNE.out) 2
          refine RegInv.op_value (by rfl) rfl (v := .agg #[.int .i64 x.f0, .slice PI x.f1.length dI, .slice PN x.f2.length dN]) (w' := w8) ?_ ⟨_, rfl, rfl, rfl, InvA_pure hInv (by decide) (by decide)⟩
          unfold execOp
          go_simp
        · cases hi
          have h0 := gdq _ _ _ (show a.tmps.getD 28 undef = .agg #[.int .i64 x.f0, .slice PI x.f1.length dI, .slice PN x.f2.length dN] from hM.at_ 5 (by decide) (by kernel_rfl))
          obtain rfl := InvA_start hInv hnD
          refine RegInv.op_value (by rfl) rfl (v := .slice (some ⟨wS.heap.size, 0, none⟩) 1 1) (w' := wS.alloc (.cells #[.int .i64 x.f0, .slice PI x.f1.length dI, .slice PN x.f2.length dN] 43)) ?_ ⟨_, rfl, rfl, ⟨_, rfl⟩, InvA_made hInv hnD⟩
          unfold execOp
          go_simp
        · cases hi
          have h4 := gdq _ _ _ (show a.tmps.getD 27 undef = .slice PB mB dB from hM.at_ 4 (by decide) (by kernel_rfl))
          have h6 := gdq _ _ _ (show a.tmps.getD 29 undef = .slice (some ⟨wS.heap.size, 0, none⟩) 1 1 from hM.at_ 6 (by decide) (by kernel_rfl))
          obtain rfl := InvA_mid hInv (hwD 6 (by kernel_rfl)) hnD
          refine RegInv.op_of_list (by rfl) ?_
          refine Kd.R_append k43 (w0 := wS) w0.heap.size rfl _ _ 22 43 (.agg #[(.int .i64 0), (.slice none 0 0), (.slice none 0 0)]) 56 rfl Try.underlying22 (by kernel_rfl) rfl (by decide) (by decide) (.slice PB mB dB) (l.take k) x [.int .i64 x.f0, .slice PI x.f1.length dI, .slice PN x.f2.length dN] (fun _ => True) _ (by simp [Act.eval, h4]) (by simp [Act.eval, h6]) HMX.out (fun _ h => h) (fun _ _ => trivial) HST.out.rb (Below.refl _ _) HST.out.size (by have := HKL.out; rw [List.length_take]; omega) ?_
          intro v1 w9 hR1 _ hg1 _
          exact ⟨_, rfl, hR1, trivial, InvA_done hInv (hwD 6 (by kernel_rfl)) hg1⟩
        · cases hi
          have h0 := gdq _ _ _ (show a.tmps.getD 23 undef = .pointer (some ⟨g, 0, none⟩) from hM.at_ 0 (by decide) (by kernel_rfl))
          refine RegInv.op_value (by rfl) rfl (v := .pointer (some ⟨g, 0, none⟩)) (w' := w8) ?_ ⟨_, rfl, rfl, rfl, InvA_pure hInv (by decide) (by decide)⟩
          unfold execOp
          go_simp
        · cases hi
          have h0 := gdq _ _ _ (show a.tmps.getD 31 undef = .pointer (some ⟨g, 0, none⟩) from hM.at_ 8 (by decide) (by kernel_rfl))
          refine RegInv.op_value (by rfl) rfl (v := .pointer (some ⟨g, 7, none⟩)) (w' := w8) ?_ ⟨_, rfl, rfl, rfl, InvA_pure hInv (by decide) (by decide)⟩
          unfold execOp
          go_simp
        · exact absurd hlt (by omega)
      intro vs w9 D hD hInv hF
      have h7 : k43.R 43 w9 w0.heap.size (fun _ => True) (vs 7) (l.take k ++ [x]) := hF 7 (by omega)
      have e9 : vs 9 = .pointer (some ⟨g, 7, none⟩) := hF 9 (by omega)
      have hg9 : wS.grownBy w9 (Value.slice PB mB dB).ownBlock := InvA_end hInv (hD 7 (by omega))
      clear hF hInv hD
      obtain ⟨P1, m1, d1, e7⟩ : ∃ P m d, vs 7 = .slice P m d := let ⟨A, c, h, _⟩ := Kd.R_reads h7; ⟨_, _, _, h⟩
      rw [e7] at h7
      simp only [RegInv.puts, dC6, Act.put, List.range, List.range.loop, List.setIfInBounds_toArray, List.set_cons_zero, List.set_cons_succ]
      rw [e9, e7]
      clear e9 e7
      have hkg := blk_grown HST.out.blk hg9 (Kd.R_ne HST.out.rb HST.out.blk (by decide))
      have p7 : w9.cell? ⟨g, 7, none⟩ = some (.slice PB mB dB) := blk_cell hkg 7
      have f7 := blk_frozen hkg 7
      refine RegInv.op_skip (by rfl) rfl (w' := w9.setCell ⟨g, 7, none⟩ (.slice P1 m1 d1)) ?run ?_
      case run =>
        unfold execOp
        go_simp
      clear p7 f7
      rw [HXE.out] at h7
      have HH9 := Aside0.mk (HST.out.putB (x := x) (HXE.out.symm ▸ h7) hg9)
      rw [HXE.out] at HH9
      have HB9 := Aside0.mk (below_set (j := 7) (v := .slice P1 m1 d1) (HBB.out.grown hg9 HST.out.size (Kd.R_base HST.out.rb)) HST.out.hg)
      clear h7 hg9 hkg HST HR52 HR3 HBB HK5 HMX HNE hwS
      generalize w9.setCell ⟨g, 7, none⟩ (.slice P1 m1 d1) = w10 at *
      generalize vs 0 = t0
      generalize vs 1 = t1
      generalize vs 2 = t2
      generalize vs 3 = t3
      generalize vs 4 = t4
      generalize vs 5 = t5
      generalize vs 6 = t6
      generalize vs 7 = t7
      generalize vs 8 = t8
      generalize vs 9 = t9
      refine hK _ _ ?_
      clear hK
      go_wp2
      go_roundw
      case rel => exact ⟨k + 1, by omega, by go_num, _, _, _, _, _, _, _, _, _, HH9.out, HLN3.out, HB9.out⟩
      case measure => simp [intOf]; omega
    · obtain rfl : k = l.length := by omega
      rw [List.take_length] at HST
      go_wp2_with (fail)
      clear hlt hk q2
      generalize wr = wM at *
      go_loopw [6] (fun t wr => ∃ k : Nat, k ≤ 16 ∧ t = .int .i64 k ∧ ∃ vB, H w0.heap.size g (fun _ => True) (fun _ => True) (fun _ => True) (fun _ => True) (fun _ => True) wr vO vS vN vI vB O S NX I (l ++ (List.range' 0 k).map mkB) ∧ Below w0.heap.size w0 wr) (fun t _ => 16 - (intOf t).toNat)
      case atStart => exact ⟨0, by omega, rfl, _, by simpa using HST.out, HBB.out⟩
      case round =>
        clear HST HBB
        obtain ⟨i, hi, rfl, vB, hH, hb⟩ := hrel
        have HST := Aside0.mk hH
        have HBB := Aside0.mk hb
        clear hH hb
        obtain ⟨PB, mB, dB, rfl⟩ : ∃ P m d, vB = .slice P m d := let ⟨A, c, h, _⟩ := Kd.R_reads HST.out.rb; ⟨_, _, _, h⟩
        by_cases hlt : i < 16
        · have p7 : wr.cell? ⟨g, 7, none⟩ = some (.slice PB mB dB) := blk_cell HST.out.blk 7
          go_wp2_with (first | ((with_reducible refine gate_builtin (b := .append) rfl ?_); refine Classical.byContradiction (fun hcon => ?hstB)) | go_in)
          refine hcon ?_
          clear hcon p7
          refine Kd.R_append k43 (w0 := wr) w0.heap.size rfl _ _ 22 43 (.agg #[(.int .i64 0), (.slice none 0 0), (.slice none 0 0)]) 56 rfl Try.underlying22 (by kernel_rfl) rfl (by decide) (by decide) (.slice PB mB dB) (l ++ (List.range' 0 i).map mkB) (mkB i) [.int .i64 (-7 - (i : Int)), .slice none 0 0, .slice none 0 0] (fun _ => True) _ rfl rfl (M_apart (d := k43) (k43_mkM wr w0.heap.size (fun _ => True) (mkB i) (Kd.R_nil _ _ _ _ _) (Kd.R_nil _ _ _ _ _)) HST.out.rb (by decide)) (fun _ h => h) (fun _ _ => trivial) HST.out.rb (Below.refl _ _) HST.out.size (by simp; omega) ?_
          intro v1 w7 hR1 _ hg1 _
          obtain ⟨P1, m1, d1, rfl⟩ : ∃ P m d, v1 = .slice P m d := let ⟨A, c, h, _⟩ := Kd.R_reads hR1; ⟨_, _, _, h⟩
          have hkg := blk_grown HST.out.blk hg1 (Kd.R_ne HST.out.rb HST.out.blk (by decide))
          have p7 : w7.cell? ⟨g, 7, none⟩ = some (.slice PB mB dB) := blk_cell hkg 7
          have f7 := blk_frozen hkg 7
          have hb7 : Below w0.heap.size w0 w7 := HBB.out.grown hg1 HST.out.size (Kd.R_base HST.out.rb)
          go_wp2
          have HB8 := Aside0.mk (below_set (j := 7) (v := .slice P1 m1 d1) hb7 HST.out.hg)
          have HH8 := Aside0.mk (HST.out.putB hR1 hg1)
          rw [← full_snoc] at HH8
          clear p7 f7 hb7 hR1 hg1 hkg HST HBB
          generalize w7.setCell ⟨g, 7, none⟩ (.slice P1 m1 d1) = w8 at *
          go_roundw
          case rel => exact ⟨i + 1, by omega, by go_num, _, HH8.out, HB8.out⟩
          case measure => simp [intOf]; omega
        · obtain rfl : i = 16 := by omega
          have HST' : Aside0 (H w0.heap.size g (fun _ => True) (fun _ => True) (fun _ => True) (fun _ => True) (fun _ => True) wr vO vS vN vI (.slice PB mB dB) O S NX I (full mkB l)) := ⟨HST.out⟩
          clear HST
          obtain rfl : mB = (full mkB l).length := (Kd.R_reads' HST'.out.rb).1
          have hcut := cut_cap (P := Try.prog) 22 43 .i64 Try.underlying22 HI43.out PB (full mkB l).length dB (l.length : Int) (by omega) (by have := ge44 HST'.out.rb; rw [full_len] at this; omega)
          rw [Int.toNat_natCast] at hcut
          have HCB := Aside0.mk hcut
          clear hcut
          go_upto_region 11 with (fail)
          have HK := Aside0.mk HST'.out.blk
          have HK1 := Aside0.mk (blk_below HKK.out HBB.out)
          rename_i hK
          refine RegInv.region_last2 (by kernel_rfl) (by kernel_rfl) (fun a b => Below a.heap.size a b) (fun a b c h k => wB h k) (below_drew1 (Below.refl _ _)) dC11 16 (by kernel_rfl) (by kernel_rfl) (by kernel_rfl) (by kernel_rfl) (FC11 g g1 PB AB l.length (full mkB l).length dB cB fn regs) (FC11_below g g1 PB AB l.length (full mkB l).length dB cB fn regs) ?hsC11 ?heC11
          case hsC11 =>
            clear hK
            intro i o a w8 hlt hi hM
            have K' := blk_below HK.out hM.ext
            have K1' := blk_below HK1.out hM.ext
            rcases i with _ | _ | _ | _ | _ | _ | _ | _ | _ | _ | _ | _ | _ | _ | _ | _ | i
            · cases hi
              have h0 := gdq _ _ _ (show a.tmps.getD 3 undef = .pointer (some ⟨g, 0, none⟩) from hM.off 3 (by kernel_rfl))
              refine RegInv.op_value (by rfl) rfl (v := .pointer (some ⟨g, 0, none⟩)) (w' := w8) ?_ ⟨_, rfl, rfl, Below.refl _ _⟩
              unfold execOp
              go_simp
            · cases hi
              have h0 := gdq _ _ _ (show a.tmps.getD 1 undef = .pointer (some ⟨g1, 0, none⟩) from hM.off 1 (by kernel_rfl))
              refine RegInv.op_value (by rfl) rfl (v := .pointer (some ⟨g1, 0, none⟩)) (w' := w8) ?_ ⟨_, rfl, rfl, Below.refl _ _⟩
              unfold execOp
              go_simp
            · cases hi
              have h0 := gdq _ _ _ (show a.tmps.getD 50 undef = .pointer (some ⟨g1, 0, none⟩) from hM.at_ 1 (by decide) (by kernel_rfl))
              have y : w8.cell? ⟨g1, 0, none⟩ = some (.int .i64 fn) := blk_cell K1' 0
              refine RegInv.op_value (by rfl) rfl (v := .int .i64 fn) (w' := w8) ?_ ⟨_, rfl, rfl, Below.refl _ _⟩
              unfold execOp
              go_simp
            · cases hi
              have h0 := gdq _ _ _ (show a.tmps.getD 1 undef = .pointer (some ⟨g1, 0, none⟩) from hM.off 1 (by kernel_rfl))
              refine RegInv.op_value (by rfl) rfl (v := .pointer (some ⟨g1, 1, none⟩)) (w' := w8) ?_ ⟨_, rfl, rfl, Below.refl _ _⟩
              unfold execOp
              go_simp
            · cases hi
              have h0 := gdq _ _ _ (show a.tmps.getD 52 undef = .pointer (some ⟨g1, 1, none⟩) from hM.at_ 3 (by decide) (by kernel_rfl))
              have y : w8.cell? ⟨g1, 1, none⟩ = some (.int .i64 regs) := blk_cell K1' 1
              refine RegInv.op_value (by rfl) rfl (v := .int .i64 regs) (w' := w8) ?_ ⟨_, rfl, rfl, Below.refl _ _⟩
              unfold execOp
              go_simp
            · cases hi
              have h0 := gdq _ _ _ (show a.tmps.getD 3 undef = .pointer (some ⟨g, 0, none⟩) from hM.off 3 (by kernel_rfl))
              refine RegInv.op_value (by rfl) rfl (v := .pointer (some ⟨g, 0, none⟩)) (w' := w8) ?_ ⟨_, rfl, rfl, Below.refl _ _⟩
              unfold execOp
              go_simp
            · cases hi
              have h0 := gdq _ _ _ (show a.tmps.getD 54 undef = .pointer (some ⟨g, 0, none⟩) from hM.at_ 5 (by decide) (by kernel_rfl))
              refine RegInv.op_value (by rfl) rfl (v := .pointer (some ⟨g, 0, none⟩)) (w' := w8) ?_ ⟨_, rfl, rfl, Below.refl _ _⟩
              unfold execOp
              go_simp
            · cases hi
              have h0 := gdq _ _ _ (show a.tmps.getD 55 undef = .pointer (some ⟨g, 0, none⟩) from hM.at_ 6 (by decide) (by kernel_rfl))
              refine RegInv.op_value (by rfl) rfl (v := .pointer (some ⟨g, 7, none⟩)) (w' := w8) ?_ ⟨_, rfl, rfl, Below.refl _ _⟩
              unfold execOp
              go_simp
            · cases hi
              have h0 := gdq _ _ _ (show a.tmps.getD 56 undef = .pointer (some ⟨g, 7, none⟩) from hM.at_ 7 (by decide) (by kernel_rfl))
              have y : w8.cell? ⟨g, 7, none⟩ = some (.slice PB (full mkB l).length dB) := blk_cell K' 7
              refine RegInv.op_value (by rfl) rfl (v := .slice PB (full mkB l).length dB) (w' := w8) ?_ ⟨_, rfl, rfl, Below.refl _ _⟩
              unfold execOp
              go_simp
            · cases hi
              have h0 := gdq _ _ _ (show a.tmps.getD 1 undef = .pointer (some ⟨g1, 0, none⟩) from hM.off 1 (by kernel_rfl))
              refine RegInv.op_value (by rfl) rfl (v := .pointer (some ⟨g1, 2, none⟩)) (w' := w8) ?_ ⟨_, rfl, rfl, Below.refl _ _⟩
              unfold execOp
              go_simp
            · cases hi
              have h0 := gdq _ _ _ (show a.tmps.getD 58 undef = .pointer (some ⟨g1, 2, none⟩) from hM.at_ 9 (by decide) (by kernel_rfl))
              have y : w8.cell? ⟨g1, 2, none⟩ = some (.slice AB l.length cB) := blk_cell K1' 2
              refine RegInv.op_value (by rfl) rfl (v := .slice AB l.length cB) (w' := w8) ?_ ⟨_, rfl, rfl, Below.refl _ _⟩
              unfold execOp
              go_simp
            · cases hi
              have h0 := gdq _ _ _ (show a.tmps.getD 59 undef = .slice AB l.length cB from hM.at_ 10 (by decide) (by kernel_rfl))
              refine RegInv.op_value (by rfl) rfl (v := .int .i64 (l.length : Int)) (w' := w8) ?_ ⟨_, rfl, rfl, Below.refl _ _⟩
              unfold execOp
              go_simp
            · cases hi
              have h0 := gdq _ _ _ (show a.tmps.getD 57 undef = .slice PB (full mkB l).length dB from hM.at_ 8 (by decide) (by kernel_rfl))
              have h1 := gdq _ _ _ (show a.tmps.getD 60 undef = .int .i64 (l.length : Int) from hM.at_ 11 (by decide) (by kernel_rfl))
              have hcB := HCB.out
              refine RegInv.op_value (by rfl) rfl (v := .slice PB l.length dB) (w' := w8) ?_ ⟨_, rfl, rfl, Below.refl _ _⟩
              unfold execOp
              go_simp
            · cases hi
              have h0 := gdq _ _ _ (show a.tmps.getD 51 undef = .int .i64 fn from hM.at_ 2 (by decide) (by kernel_rfl))
              have h1 := gdq _ _ _ (show a.tmps.getD 53 undef = .int .i64 regs from hM.at_ 4 (by decide) (by kernel_rfl))
              have h2 := gdq _ _ _ (show a.tmps.getD 61 undef = .slice PB l.length dB from hM.at_ 12 (by decide) (by kernel_rfl))
              refine RegInv.op_value (by rfl) rfl (v := .agg #[.int .i64 fn, .int .i64 regs, .slice PB l.length dB]) (w' := w8) ?_ ⟨_, rfl, rfl, Below.refl _ _⟩
              unfold execOp
              go_simp
            · cases hi
              have h0 := gdq _ _ _ (show a.tmps.getD 49 undef = .pointer (some ⟨g, 0, none⟩) from hM.at_ 0 (by decide) (by kernel_rfl))
              refine RegInv.op_value (by rfl) rfl (v := .pointer (some ⟨g, 0, none⟩)) (w' := w8) ?_ ⟨_, rfl, rfl, Below.refl _ _⟩
              unfold execOp
              go_simp
            · cases hi
              have h0 := gdq _ _ _ (show a.tmps.getD 63 undef = .pointer (some ⟨g, 0, none⟩) from hM.at_ 14 (by decide) (by kernel_rfl))
              refine RegInv.op_value (by rfl) rfl (v := .pointer (some ⟨g, 0, none⟩)) (w' := w8) ?_ ⟨_, rfl, rfl, Below.refl _ _⟩
              unfold execOp
              go_simp
            · exact absurd hlt (by omega)
          intro vs w9 bF hF
          have e13 : vs 13 = .agg #[.int .i64 fn, .int .i64 regs, .slice PB l.length dB] := hF 13 (by omega)
          have e15 : vs 15 = .pointer (some ⟨g, 0, none⟩) := hF 15 (by omega)
          clear hF
          simp only [RegInv.puts, dC11, Act.put, List.range, List.range.loop, List.setIfInBounds_toArray, List.set_cons_zero, List.set_cons_succ]
          rw [e13, e15]
          clear e13 e15
          have hkg := blk_below HK.out bF
          have c0' : w9.cell? ⟨g, 0, none⟩ = some (.int .i64 0) := blk_cell hkg 0
          have c1' : w9.cell? ⟨g, 1, none⟩ = some (.int .i64 0) := blk_cell hkg 1
          have c2' : w9.cell? ⟨g, 2, none⟩ = some (.slice none 0 0) := blk_cell hkg 2
          have f0' : w9.frozen? ⟨g, 0, none⟩ = false := blk_frozen hkg 0
          have f1' : w9.frozen? ⟨g, 1, none⟩ = false := blk_frozen hkg 1
          have f2' : w9.frozen? ⟨g, 2, none⟩ = false := blk_frozen hkg 2
          refine RegInv.op_skip (by rfl) rfl (w' := set3 w9 g (.int .i64 fn) (.int .i64 regs) (.slice PB l.length dB)) ?run ?_
          case run =>
            unfold execOp set3
            go_simp
          clear c0' c1' c2' f0' f1' f2'
          have hH9 := HST'.out.below bF
          have HM : Aside0 (Made w0.heap.size g (set3 w9 g (.int .i64 fn) (.int .i64 regs) (.slice PB l.length dB)) fn regs PB dB vO vS vN vI O S NX I l) :=
            ⟨⟨blk_put (blk_put (blk_put hkg 0 (.int .i64 fn) rfl) 1 (.int .i64 regs) rfl) 2 (.slice PB l.length dB) rfl, hH9.hg, set3_R hH9.ro hkg (by decide) _ _ _, set3_R hH9.rs hkg (by decide) _ _ _, set3_R hH9.rn hkg (by decide) _ _ _, set3_R hH9.ri hkg (by decide) _ _ _, set3_R hH9.rb hkg (by decide) _ _ _, hH9.mo, hH9.ms, hH9.mn, hH9.mi, HLN.out.2.2.1, HLN.out.2.2.2⟩⟩
          have HB9 := Aside0.mk ((HBB.out.trans (bF.mono HBB.out.size)).grown (set3_grown w9 g (.int .i64 fn) (.int .i64 regs) (.slice PB l.length dB)) (Nat.le_trans HBB.out.size bF.size) (fun q hq => by injection hq with hq; rw [← hq]; exact HST'.out.hg))
          clear hkg hH9 bF HST' HBB HK HK1
          generalize set3 w9 g (.int .i64 fn) (.int .i64 regs) (.slice PB l.length dB) = w10 at *
          generalize vs 0 = t0
          generalize vs 1 = t1
          generalize vs 2 = t2
          generalize vs 3 = t3
          generalize vs 4 = t4
          generalize vs 5 = t5
          generalize vs 6 = t6
          generalize vs 7 = t7
          generalize vs 8 = t8
          generalize vs 9 = t9
          generalize vs 10 = t10
          generalize vs 11 = t11
          generalize vs 12 = t12
          generalize vs 13 = t13
          generalize vs 14 = t14
          generalize vs 15 = t15
          refine hK _ _ ?_
          clear hK
          go_wp2
          go_ret
          have hsz := HSZ.out
          have hm := HM.out
          have hlo : wz.heap.size ≤ w0.heap.size := by omega
          exact ⟨g, PB, dB, vO, vS, vN, vI, O, S, NX, I, rfl, ⟨hm.blk, Nat.le_trans hlo hm.hg, Kd.R_lower hm.ro hlo, Kd.R_lower hm.rs hlo, Kd.R_lower hm.rn hlo, Kd.R_lower hm.ri hlo, Kd.R_lower hm.rb hlo, hm.mo, hm.ms, hm.mn, hm.mi, hm.ln, hm.li⟩, HBZ.out.trans (HB9.out.mono hlo)⟩
end Go.Proofs.Ytjekpkpmoanadaa.Hd
/- marked: the marks are where they were. For every world. -/
namespace Go.Proofs.Ytjekpkpmoanadaa.Hd
open Go.RowKit Go.Proofs.Ytjekpkpmoanadaa.PCop Go.Proofs.Ytjekpkpmoanadaa.Lit Go.Proofs.Ytjekpkpmoanadaa.OwnCells Go.Proofs.YtjekpkpmoanadaaW.PrintWords Go.Proofs.YtjekpkpmoanadaaW.PrintLast Go.Proofs.YtjekpkpmoanadaaW.PrintMore
set_option linter.unusedVariables false
set_option linter.unusedSimpArgs false
theorem neq70 (w : World) (x0 y0 x1 y1 : Int) : (binOp .neq 49 (.agg #[.int .i64 x0, .int .i64 x1]) (.agg #[.int .i64 y0, .int .i64 y1])).run Try.prog w = .ok (.bool (!(x0 == y0 && (x1 == y1)))) w := by
  simp [binOp, Op.equal, Op.maxDepth, eqA49 9998 w x0 y0 x1 y1]
theorem Made.below {b g : Nat} {w w1 : World} {fn regs : Int} {PB : Option Addr} {dB : Nat} {vO vS vN vI : Value} {O : List (List S49)} {S : List (List S65)} {NX : List (List Int)} {I : List (List S47)} {l : List S43} (h : Made b g w fn regs PB dB vO vS vN vI O S NX I l) (hb : Below w.heap.size w w1) : Made b g w1 fn regs PB dB vO vS vN vI O S NX I l :=
  ⟨blk_below h.blk hb, h.hg, Kd.R_below h.ro hb, Kd.R_below h.rs hb, Kd.R_below h.rn hb, Kd.R_below h.ri hb, Kd.R_below h.rb hb, h.mo, h.ms, h.mn, h.mi, h.ln, h.li⟩
theorem full_get {α : Type} (m : Nat → α) (p : List α) (z : α) (i : Nat) (hi : i < 16) : (full m p).getD (p.length + i) z = m i := by
  unfold full
  rw [List.getD_eq_getElem?_getD, List.getElem?_append_right (by omega), Nat.add_sub_cancel_left]
  simp [hi]
theorem mem2 {α : Type} {O : List (List α)} {k : Nat} (h : k < O.length) : O.getD ((k : Int)).toNat [] ∈ O := by
  rw [Int.toNat_natCast, List.getD_eq_getElem?_getD, List.getElem?_eq_getElem h]; exact List.getElem_mem _
theorem mark70 (p : List S49) (i : Nat) (hi : i < 16) : rd_T49 (full mkO p) ((p.length + i : Nat) : Int) = mkO i := by unfold rd_T49; rw [Int.toNat_natCast]; exact full_get _ _ _ i hi
theorem mark72 (p : List S65) (i : Nat) (hi : i < 16) : rd_T65 (full mkS p) ((p.length + i : Nat) : Int) = mkS i := by unfold rd_T65; rw [Int.toNat_natCast]; exact full_get _ _ _ i hi
theorem mark52 (p : List S47) (i : Nat) (hi : i < 16) : rd_T47 (full mkI p) ((p.length + i : Nat) : Int) = mkI i := by unfold rd_T47; rw [Int.toNat_natCast]; exact full_get _ _ _ i hi
theorem mark25 (p : List S43) (i : Nat) (hi : i < 16) : rd_T43 (full mkB p) ((p.length + i : Nat) : Int) = mkB i := by unfold rd_T43; rw [Int.toNat_natCast]; exact full_get _ _ _ i hi
theorem mark3 (p : List Int) (i : Nat) (hi : i < 16) : rd (full mkN p) ((p.length + i : Nat) : Int) = mkN i := by unfold rd; rw [Int.toNat_natCast]; exact full_get _ _ _ i hi
set_option maxHeartbeats 16000000 in
set_option maxRecDepth 100000 in
theorem marked_calls (b g : Nat) (w : World) (fn regs : Int) (PB : Option Addr) (dB : Nat) (vO vS vN vI : Value) (O : List (List S49)) (S : List (List S65)) (NX : List (List Int)) (I : List (List S47)) (l : List S43) (hM : Made b g w fn regs PB dB vO vS vN vI O S NX I l) (hl : l.length ≤ 1048576) :
    Calls Try.prog 31 #[.pointer (some ⟨g, 0, none⟩)] w fun e w' => e = .returned (.bool true) ∧ Below w.heap.size w w' := by
  obtain ⟨AO, nO, cO, rfl⟩ : ∃ P m d, vO = .slice P m d := let ⟨A, c, h, _⟩ := Kd.R_reads hM.ro; ⟨_, _, _, h⟩
  obtain ⟨AS, nS, cS, rfl⟩ : ∃ P m d, vS = .slice P m d := let ⟨A, c, h, _⟩ := Kd.R_reads hM.rs; ⟨_, _, _, h⟩
  obtain ⟨AN, nN, cN, rfl⟩ : ∃ P m d, vN = .slice P m d := let ⟨A, c, h, _⟩ := Kd.R_reads hM.rn; ⟨_, _, _, h⟩
  obtain ⟨AI, nI, cI, rfl⟩ : ∃ P m d, vI = .slice P m d := let ⟨A, c, h, _⟩ := Kd.R_reads hM.ri; ⟨_, _, _, h⟩
  obtain ⟨eO, _, hO⟩ := Kd.R_reads' hM.ro
  obtain ⟨eS, _, hS⟩ := Kd.R_reads' hM.rs
  obtain ⟨eN, _, hN⟩ := Kd.R_reads' hM.rn
  obtain ⟨eI, _, hI⟩ := Kd.R_reads' hM.ri
  obtain ⟨_, _, hB⟩ := Kd.R_reads' hM.rb
  subst eO eS eN eI
  have HK := Aside0.mk hM.blk
  have HO := Aside0.mk (And.intro hO hM.mo)
  have HS := Aside0.mk (And.intro hS hM.ms)
  have HN := Aside0.mk (And.intro hN hM.mn)
  have HI := Aside0.mk (And.intro hI hM.mi)
  have HB := Aside0.mk hB
  have HLN := Aside0.mk (And.intro hM.ln hM.li)
  have mxO := Kd.C_max hO
  have mxS := Kd.C_max hS
  have mxI := Kd.C_max hI
  clear hM hO hS hN hI hB
  go_enter Try.func31, Try.ntmps31
  go_wp2_with (fail)
  go_loopw [3, 4, 5] (fun t _ _ wr => ∃ k : Nat, k ≤ O.length ∧ t = .int .i64 k ∧ Below w.heap.size w wr) (fun t _ _ _ => O.length - (intOf t).toNat)
  case atStart => exact ⟨0, Nat.zero_le _, rfl, Below.refl _ _⟩
  case round =>
    obtain ⟨k, hk, rfl, hb⟩ := hrel
    have HBW := Aside0.mk hb
    clear hb
    have p3 : wr.cell? ⟨g, 3, none⟩ = some (.slice AO O.length cO) := blk_cell (blk_below HK.out HBW.out) 3
    by_cases hlt : k < O.length
    · obtain ⟨ad, A0, c0, rfl, x0, hle, hC⟩ := at_L2 (Kd.C_below HO.out.1 HBW.out) (k : Int) (by omega) (by omega)
      rw [Int.toNat_natCast] at x0
      obtain ⟨p, hp, e⟩ := HO.out.2 _ (mem2 hlt)
      rw [show rd_L2 O (k : Int) = full mkO p from e] at x0 hle hC
      rw [full_len] at x0
      have HC := Aside0.mk hC
      clear e hle hC
      go_wp2_with (fail)
      generalize hwx : wr = wx at *
      clear hwx
      go_loopw [5] (fun t wr => ∃ i : Nat, i ≤ 16 ∧ t = .int .i64 i ∧ Below wx.heap.size wx wr) (fun t _ => 16 - (intOf t).toNat)
      case atStart => exact ⟨0, by omega, rfl, Below.refl _ _⟩
      case round =>
        obtain ⟨i, hi, rfl, hb2⟩ := hrel
        replace p3 : wr.cell? ⟨g, 3, none⟩ = some (.slice (some ad) O.length cO) := blk_cell (blk_below (blk_below HK.out HBW.out) hb2) 3
        replace x0 := pw_cell_below hb2 x0
        by_cases hi2 : i < 16
        · obtain ⟨m, hm⟩ : ∃ m, m = p.length + i := ⟨_, rfl⟩
          have hmi : (p.length : Int) + (i : Int) = (m : Int) := by omega
          have hmb : m ≤ 1048600 := by omega
          have hml : m < p.length + 16 := by omega
          obtain ⟨a2, rfl, y0, y1⟩ := at_T49 (Kd.C_below HC.out hb2) (m : Int) (by omega) (by rw [full_len]; omega)
          rw [hm, mark70 p i hi2, ← hm, Int.toNat_natCast] at y0 y1
          unfold mkO at y0 y1
          simp only at y0 y1
          have he := neq70
          clear hm
          go_wp2
          go_roundw
          case rel => exact ⟨i + 1, by omega, by go_num, hb2⟩
          case measure => simp [intOf]; omega
        · go_wp2
          go_roundw
          case rel => exact ⟨k + 1, by omega, by go_num, wB HBW.out hb2⟩
          case measure => simp [intOf]; omega
    · go_wp2_with (fail)
      clear hlt hk p3
      generalize hwx : wr = wx at *
      clear hwx
      go_loopw [6, 7, 8, 9] (fun t _ _ _ wr => ∃ k : Nat, k ≤ S.length ∧ t = .int .i64 k ∧ Below w.heap.size w wr) (fun t _ _ _ _ => S.length - (intOf t).toNat)
      case atStart => exact ⟨0, Nat.zero_le _, rfl, HBW.out⟩
      case round =>
        clear HBW
        obtain ⟨k, hk, rfl, hb⟩ := hrel
        have HBW := Aside0.mk hb
        clear hb
        have p4 : wr.cell? ⟨g, 4, none⟩ = some (.slice AS S.length cS) := blk_cell (blk_below HK.out HBW.out) 4
        by_cases hlt : k < S.length
        · obtain ⟨ad, A0, c0, rfl, x0, hle, hC⟩ := at_L4 (Kd.C_below HS.out.1 HBW.out) (k : Int) (by omega) (by omega)
          rw [Int.toNat_natCast] at x0
          obtain ⟨p, hp, e⟩ := HS.out.2 _ (mem2 hlt)
          rw [show rd_L4 S (k : Int) = full mkS p from e] at x0 hle hC
          rw [full_len] at x0
          have HC := Aside0.mk hC
          clear e hle hC
          go_wp2_with (fail)
          generalize hwx : wr = wy at *
          clear hwx
          go_loopw [8, 9] (fun t _ wr => ∃ i : Nat, i ≤ 16 ∧ t = .int .i64 i ∧ Below wy.heap.size wy wr) (fun t _ _ => 16 - (intOf t).toNat)
          case atStart => exact ⟨0, by omega, rfl, Below.refl _ _⟩
          case round =>
            obtain ⟨i, hi, rfl, hb2⟩ := hrel
            replace p4 : wr.cell? ⟨g, 4, none⟩ = some (.slice (some ad) S.length cS) := blk_cell (blk_below (blk_below HK.out HBW.out) hb2) 4
            replace x0 := pw_cell_below hb2 x0
            by_cases hi2 : i < 16
            · obtain ⟨m, hm⟩ : ∃ m, m = p.length + i := ⟨_, rfl⟩
              have hmi : (p.length : Int) + (i : Int) = (m : Int) := by omega
              have hmb : m ≤ 1048600 := by omega
              have hml : m < p.length + 16 := by omega
              obtain ⟨a2, A3, c3, rfl, y0, y1, y2, _, _⟩ := at_T65 (Kd.C_below HC.out hb2) (m : Int) (by omega) (by rw [full_len]; omega)
              rw [hm, mark72 p i hi2, ← hm, Int.toNat_natCast] at y0 y1 y2
              unfold mkS at y0 y1 y2
              simp only [List.length_nil] at y0 y1 y2
              clear hm
              have HB2 := Aside0.mk hb2
              clear hb2
              go_upto_region 18 with (fail)
              have hb3 := bodies wr (.cells #[.int .i64 (-7), .int .i64 (i : Int), .slice A3 0 c3] 65)
              have K9 := blk_new wr (.cells #[.int .i64 (-7), .int .i64 (i : Int), .slice A3 0 c3] 65)
              have HB3 := Aside0.mk (wB HB2.out hb3)
              clear hb3 y0 y1 y2 x0 p4
              generalize wr.alloc (.cells #[.int .i64 (-7), .int .i64 (i : Int), .slice A3 0 c3] 65) = w2 at *
              generalize wr.heap.size = g9 at *
              have z0 : w2.cell? ⟨g9, 0, none⟩ = some (.int .i64 (-7)) := blk_cell K9 0
              have z1 : w2.cell? ⟨g9, 1, none⟩ = some (.int .i64 (i : Int)) := blk_cell K9 1
              have z2 : w2.cell? ⟨g9, 2, none⟩ = some (.slice A3 0 c3) := blk_cell K9 2
              clear K9
              go_wp2
              go_roundw
              case rel => exact ⟨i + 1, by omega, by go_num, HB3.out⟩
              case measure => simp [intOf]; omega
            · go_wp2
              go_roundw
              case rel => exact ⟨k + 1, by omega, by go_num, wB HBW.out hb2⟩
              case measure => simp [intOf]; omega
        · go_wp2_with (fail)
          clear hlt hk p4
          generalize hwx : wr = wy at *
          clear hwx
          go_loopw [10, 11, 12, 13, 14] (fun t _ _ _ _ wr => ∃ k : Nat, k ≤ I.length ∧ t = .int .i64 k ∧ Below w.heap.size w wr) (fun t _ _ _ _ _ => I.length - (intOf t).toNat)
          case atStart => exact ⟨0, Nat.zero_le _, rfl, HBW.out⟩
          case round =>
            clear HBW
            obtain ⟨k, hk, rfl, hb⟩ := hrel
            have HBW := Aside0.mk hb
            clear hb
            have p6 : wr.cell? ⟨g, 6, none⟩ = some (.slice AI I.length cI) := blk_cell (blk_below HK.out HBW.out) 6
            have p5 : wr.cell? ⟨g, 5, none⟩ = some (.slice AN NX.length cN) := blk_cell (blk_below HK.out HBW.out) 5
            by_cases hlt : k < I.length
            · obtain ⟨ad, A0, c0, rfl, x0, hle, hC⟩ := at_L6 (Kd.C_below HI.out.1 HBW.out) (k : Int) (by omega) (by omega)
              rw [Int.toNat_natCast] at x0
              obtain ⟨p, hp, e⟩ := HI.out.2 _ (mem2 hlt)
              rw [show rd_L6 I (k : Int) = full mkI p from e] at x0 hle hC
              rw [full_len] at x0
              have HC := Aside0.mk hC
              clear e hle hC
              have hlN : k < NX.length := by have := HLN.out; omega
              obtain ⟨ae, A1, c1, rfl, x1, hle, hC⟩ := at_L7 (Kd.C_below HN.out.1 HBW.out) (k : Int) (by omega) (by omega)
              rw [Int.toNat_natCast] at x1
              obtain ⟨p', hp', e⟩ := HN.out.2 _ (mem2 hlN)
              rw [show rd_L7 NX (k : Int) = full mkN p' from e] at x1 hle hC
              rw [full_len] at x1
              have HC' := Aside0.mk hC
              clear e hle hC
              go_wp2_with (fail)
              generalize hwx : wr = wz at *
              clear hwx
              go_loopw [13, 14] (fun t _ wr => ∃ i : Nat, i ≤ 16 ∧ t = .int .i64 i ∧ Below wz.heap.size wz wr) (fun t _ _ => 16 - (intOf t).toNat)
              case atStart => exact ⟨0, by omega, rfl, Below.refl _ _⟩
              case round =>
                obtain ⟨i, hi, rfl, hb2⟩ := hrel
                replace p6 : wr.cell? ⟨g, 6, none⟩ = some (.slice (some ad) I.length cI) := blk_cell (blk_below (blk_below HK.out HBW.out) hb2) 6
                replace p5 : wr.cell? ⟨g, 5, none⟩ = some (.slice (some ae) NX.length cN) := blk_cell (blk_below (blk_below HK.out HBW.out) hb2) 5
                replace x0 := pw_cell_below hb2 x0
                replace x1 := pw_cell_below hb2 x1
                by_cases hi2 : i < 16
                · obtain ⟨m, hm⟩ : ∃ m, m = p.length + i := ⟨_, rfl⟩
                  have hmi : (p.length : Int) + (i : Int) = (m : Int) := by omega
                  have hmb : m ≤ 1048600 := by omega
                  have hml : m < p.length + 16 := by omega
                  obtain ⟨a2, A3, c3, A7, c7, rfl, y0, y1, y2, y3, y4, y5, y6, y7, _, _, _, _⟩ := at_T47 (Kd.C_below HC.out hb2) (m : Int) (by omega) (by rw [full_len]; omega)
                  rw [hm, mark52 p i hi2, ← hm, Int.toNat_natCast] at y0 y1 y2 y3 y4 y5 y6 y7
                  unfold mkI at y0 y1 y2 y3 y4 y5 y6 y7
                  simp only [List.length_nil] at y0 y1 y2 y3 y4 y5 y6 y7
                  clear hm
                  obtain ⟨m', hm'⟩ : ∃ m, m = p'.length + i := ⟨_, rfl⟩
                  have hmi' : (p'.length : Int) + (i : Int) = (m' : Int) := by omega
                  have hmb' : m' ≤ 1048600 := by omega
                  have hml' : m' < p'.length + 16 := by omega
                  obtain ⟨a3, rfl, v0⟩ := Kd.at_int (Kd.C_below HC'.out hb2) (m' : Int) (by omega) (by rw [full_len]; omega)
                  rw [hm', mark3 p' i hi2, ← hm', Int.toNat_natCast] at v0
                  unfold mkN at v0
                  clear hm'
                  have HB2 := Aside0.mk hb2
                  clear hb2
                  go_upto_region 29 with (fail)
                  have hb3 := bodies wr (.cells #[.int .i64 (-7), .int .i64 0, .int .i64 0, .slice A3 0 c3, .int .i64 0, .int .i64 (i : Int), .int .i64 0, .slice A7 0 c7] 47)
                  have K9 := blk_new wr (.cells #[.int .i64 (-7), .int .i64 0, .int .i64 0, .slice A3 0 c3, .int .i64 0, .int .i64 (i : Int), .int .i64 0, .slice A7 0 c7] 47)
                  have HB3 := Aside0.mk (wB HB2.out hb3)
                  replace v0 := pw_cell_below hb3 v0
                  replace x1 := pw_cell_below hb3 x1
                  replace p5 := pw_cell_below hb3 p5
                  clear hb3 y0 y1 y2 y3 y4 y5 y6 y7 x0 p6
                  generalize wr.alloc (.cells #[.int .i64 (-7), .int .i64 0, .int .i64 0, .slice A3 0 c3, .int .i64 0, .int .i64 (i : Int), .int .i64 0, .slice A7 0 c7] 47) = w2 at *
                  generalize wr.heap.size = g9 at *
                  have z0 : w2.cell? ⟨g9, 0, none⟩ = some (.int .i64 (-7)) := blk_cell K9 0
                  have z3 : w2.cell? ⟨g9, 3, none⟩ = some (.slice A3 0 c3) := blk_cell K9 3
                  have z5 : w2.cell? ⟨g9, 5, none⟩ = some (.int .i64 (i : Int)) := blk_cell K9 5
                  have z7 : w2.cell? ⟨g9, 7, none⟩ = some (.slice A7 0 c7) := blk_cell K9 7
                  clear K9
                  go_wp2
                  go_roundw
                  case rel => exact ⟨i + 1, by omega, by go_num, HB3.out⟩
                  case measure => simp [intOf]; omega
                · go_wp2
                  go_roundw
                  case rel => exact ⟨k + 1, by omega, by go_num, wB HBW.out hb2⟩
                  case measure => simp [intOf]; omega
            · have p7 : wr.cell? ⟨g, 7, none⟩ = some (.slice PB (l.length + 16) dB) := by rw [← full_len mkB l]; exact blk_cell (blk_below HK.out HBW.out) 7
              go_wp2_with (fail)
              clear hlt hk p5 p6
              generalize hwx : wr = wz at *
              clear hwx
              go_loopw [16, 17] (fun t _ wr => ∃ i : Nat, i ≤ 16 ∧ t = .int .i64 i ∧ Below wz.heap.size wz wr) (fun t _ _ => 16 - (intOf t).toNat)
              case atStart => exact ⟨0, by omega, rfl, Below.refl _ _⟩
              case round =>
                obtain ⟨i, hi, rfl, hb2⟩ := hrel
                replace p7 := pw_cell_below hb2 p7
                by_cases hi2 : i < 16
                · obtain ⟨m, hm⟩ : ∃ m, m = l.length + i := ⟨_, rfl⟩
                  have hmi : (l.length : Int) + (i : Int) = (m : Int) := by omega
                  have hmb : m ≤ 1048600 := by omega
                  have hml : m < l.length + 16 := by omega
                  obtain ⟨a2, A3, c3, A7, c7, rfl, y0, y1, y2, _, _, _, _⟩ := at_T43 (Kd.C_below (Kd.C_below HB.out HBW.out) hb2) (m : Int) (by omega) (by rw [full_len]; omega)
                  rw [hm, mark25 l i hi2, ← hm, Int.toNat_natCast] at y0 y1 y2
                  unfold mkB at y0 y1 y2
                  simp only [List.length_nil] at y0 y1 y2
                  clear hm
                  have HB2 := Aside0.mk hb2
                  clear hb2
                  go_upto_region 36 with (fail)
                  have hb3 := bodies wr (.cells #[.int .i64 (-7 - (i : Int)), .slice A3 0 c3, .slice A7 0 c7] 43)
                  have K9 := blk_new wr (.cells #[.int .i64 (-7 - (i : Int)), .slice A3 0 c3, .slice A7 0 c7] 43)
                  have HB3 := Aside0.mk (wB HB2.out hb3)
                  clear hb3 y0 y1 y2 p7
                  generalize wr.alloc (.cells #[.int .i64 (-7 - (i : Int)), .slice A3 0 c3, .slice A7 0 c7] 43) = w2 at *
                  generalize wr.heap.size = g9 at *
                  have z0 : w2.cell? ⟨g9, 0, none⟩ = some (.int .i64 (-7 - (i : Int))) := blk_cell K9 0
                  have z1 : w2.cell? ⟨g9, 1, none⟩ = some (.slice A3 0 c3) := blk_cell K9 1
                  have z2 : w2.cell? ⟨g9, 2, none⟩ = some (.slice A7 0 c7) := blk_cell K9 2
                  clear K9
                  go_wp2
                  go_roundw
                  case rel => exact ⟨i + 1, by omega, by go_num, HB3.out⟩
                  case measure => simp [intOf]; omega
                · go_wp2
                  go_ret
                  exact ⟨rfl, wB HBW.out hb2⟩
end Go.Proofs.Ytjekpkpmoanadaa.Hd
/- Two codes that read the same are found the same (ints, operands, shapes, instructions, codes). For every world. -/
namespace Go.Proofs.Ytjekpkpmoanadaa.PCop
open Go.RowKit Go.Proofs.Ytjekpkpmoanadaa.Lit Go.Proofs.YtjekpkpmoanadaaW.PrintWords Go.Proofs.YtjekpkpmoanadaaW.PrintLast Go.Proofs.YtjekpkpmoanadaaW.PrintMore
set_option linter.unusedVariables false
set_option linter.unusedSimpArgs false
theorem C_drewN' {α : Type} {d : Kd α} {w : World} {A : Option Addr} {n : Nat} {xs : List α} (h : d.C w A n xs) (m : Nat) : d.C (w.drewN m) A n xs := Kd.C_below h (pw_below_drewN (Below.refl _ _) m)
set_option maxHeartbeats 1000000 in
set_option maxRecDepth 100000 in
theorem same_ints (A B : Option Addr) (c d : Nat) (l : List Int) (w : World) (hA : (Kd.int .i64).C w A l.length l) (hB : (Kd.int .i64).C w B l.length l) (hl : l.length ≤ 17592186044416) :
    Calls Try.prog 21 #[.slice A l.length c, .slice B l.length d] w fun e w' => e = .returned (.bool true) ∧ ∃ m, w' = w.drewN m := by
  have HA := Aside0.mk hA
  have HB := Aside0.mk hB
  clear hA hB
  go_enter Try.func21, Try.ntmps21
  go_wp2
  go_loopw [5] (fun t wr => ∃ k : Nat, k ≤ l.length ∧ t = .int .i64 k ∧ ∃ m, wr = w.drewN m) (fun t _ => l.length - (intOf t).toNat)
  case atStart => exact ⟨0, Nat.zero_le _, rfl, 0, rfl⟩
  case round =>
    obtain ⟨k, hk, rfl, m, rfl⟩ := hrel
    by_cases hlt : k < l.length
    · obtain ⟨a, rfl, q0⟩ := Kd.at_int HA.out (k : Int) (by omega) (by omega)
      obtain ⟨b, rfl, q1⟩ := Kd.at_int HB.out (k : Int) (by omega) (by omega)
      rw [Int.toNat_natCast] at q0 q1
      go_wp2
      go_quiet (fail)
      go_wp2
      go_roundw
      case rel => exact ⟨k + 1, by omega, by go_num, _, rfl⟩
      case measure => simp [intOf]; omega
    · go_wp2
      go_ret
      exact ⟨rfl, m, rfl⟩
set_option maxHeartbeats 1000000 in
set_option maxRecDepth 100000 in
theorem same_opnds (A B : Option Addr) (c d : Nat) (l : List S49) (w : World) (hA : k49.C w A l.length l) (hB : k49.C w B l.length l) (hl : l.length ≤ 17592186044416) :
    Calls Try.prog 23 #[.slice A l.length c, .slice B l.length d] w fun e w' => e = .returned (.bool true) ∧ ∃ m, w' = w.drewN m := by
  have HA := Aside0.mk hA
  have HB := Aside0.mk hB
  clear hA hB
  go_enter Try.func23, Try.ntmps23
  go_wp2
  go_loopw [5] (fun t wr => ∃ k : Nat, k ≤ l.length ∧ t = .int .i64 k ∧ ∃ m, wr = w.drewN m) (fun t _ => l.length - (intOf t).toNat)
  case atStart => exact ⟨0, Nat.zero_le _, rfl, 0, rfl⟩
  case round =>
    obtain ⟨k, hk, rfl, m, rfl⟩ := hrel
    by_cases hlt : k < l.length
    · obtain ⟨a, rfl, q0, q1⟩ := at_T49 HA.out (k : Int) (by omega) (by omega)
      obtain ⟨b, rfl, q2, q3⟩ := at_T49 HB.out (k : Int) (by omega) (by omega)
      rw [Int.toNat_natCast] at q0 q1 q2 q3
      go_wp2
      go_quiet (fail)
      go_wp2
      go_roundw
      case rel => exact ⟨k + 1, by omega, by go_num, _, rfl⟩
      case measure => simp [intOf]; omega
    · go_wp2
      go_ret
      exact ⟨rfl, m, rfl⟩
set_option maxHeartbeats 2000000 in
set_option maxRecDepth 100000 in
theorem same_shapes (A B : Option Addr) (c d : Nat) (l : List S65) (w : World) (hA : k65.C w A l.length l) (hB : k65.C w B l.length l) (hl : l.length ≤ 17592186044416) (hs : ∀ s ∈ l, s.f2.length ≤ 17592186044416) :
    Calls Try.prog 47 #[.slice A l.length c, .slice B l.length d] w fun e w' => e = .returned (.bool true) ∧ ∃ m, w' = w.drewN m := by
  have HA := Aside0.mk hA
  have HB := Aside0.mk hB
  have HS := Aside0.mk hs
  clear hA hB hs
  go_enter Try.func47, Try.ntmps47
  go_wp2
  go_loopw [5] (fun t wr => ∃ k : Nat, k ≤ l.length ∧ t = .int .i64 k ∧ ∃ m, wr = w.drewN m) (fun t _ => l.length - (intOf t).toNat)
  case atStart => exact ⟨0, Nat.zero_le _, rfl, 0, rfl⟩
  case round =>
    obtain ⟨k, hk, rfl, m, hm⟩ := hrel
    have HM := Aside0.mk hm
    have HA1 := Aside0.mk (show k65.C wr A l.length l from hm ▸ C_drewN' HA.out m)
    have HB1 := Aside0.mk (show k65.C wr B l.length l from hm ▸ C_drewN' HB.out m)
    clear hm
    by_cases hlt : k < l.length
    · obtain ⟨a, A2, c2, rfl, q0, q1, q2, _, g0⟩ := at_T65 HA1.out (k : Int) (by omega) (by omega)
      obtain ⟨b, B2, d2, rfl, r0, r1, r2, _, g1⟩ := at_T65 HB1.out (k : Int) (by omega) (by omega)
      have hrd : rd_T65 l (k : Int) ∈ l := by
        unfold rd_T65
        rw [Int.toNat_natCast, List.getD_eq_getElem?_getD, List.getElem?_eq_getElem hlt]
        exact List.getElem_mem hlt
      have hx := HS.out _ hrd
      rw [Int.toNat_natCast] at q0 q1 q2 r0 r1 r2
      generalize rd_T65 l (k : Int) = x at q0 q1 q2 r0 r1 r2 g0 g1 hx hrd
      have G0 := Aside0.mk g0
      have G1 := Aside0.mk g1
      have HX := Aside0.mk hx
      clear g0 g1 hrd hx
      go_wp2
      go_quiet ((go_at_call 23; exact Calls.quiet_of (same_opnds _ _ _ _ x.f2 _ (C_drewN' G0.out _) (C_drewN' G1.out _) HX.out)))
      go_wp2
      go_roundw
      case rel => exact ⟨k + 1, by omega, by go_num, _, by rw [HM.out]; exact World.drewN_drewN _ _ _⟩
      case measure => simp [intOf]; omega
    · go_wp2
      go_ret
      exact ⟨rfl, m, HM.out⟩
set_option maxHeartbeats 2000000 in
set_option maxRecDepth 100000 in
theorem same_ins (x : S47) (A B E F : Option Addr) (c d e f : Nat) (w : World) (hA : k49.C w A x.f3.length x.f3) (hB : k49.C w B x.f3.length x.f3) (hE : k65.C w E x.f7.length x.f7) (hF : k65.C w F x.f7.length x.f7) (h3 : x.f3.length ≤ 17592186044416) (h7 : x.f7.length ≤ 17592186044416) (hs : ∀ s ∈ x.f7, s.f2.length ≤ 17592186044416) :
    Calls Try.prog 30 #[.agg #[.int .i64 x.f0, .int .i64 x.f1, .int .i64 x.f2, .slice A x.f3.length c, .int .i64 x.f4, .int .i64 x.f5, .int .i64 x.f6, .slice E x.f7.length e], .agg #[.int .i64 x.f0, .int .i64 x.f1, .int .i64 x.f2, .slice B x.f3.length d, .int .i64 x.f4, .int .i64 x.f5, .int .i64 x.f6, .slice F x.f7.length f]] w fun e w' => e = .returned (.bool true) ∧ Below w.heap.size w w' := by
  have HA := Aside0.mk hA
  have HB := Aside0.mk hB
  have HE := Aside0.mk hE
  have HF := Aside0.mk hF
  have HS := Aside0.mk hs
  have H3 := Aside0.mk h3
  have H7 := Aside0.mk h7
  clear hA hB hE hF hs h3 h7
  go_enter Try.func30, Try.ntmps30
  go_upto_region 1 with (fail)
  have b1 := e4 w (.cells #[.int .i64 x.f0, .int .i64 x.f1, .int .i64 x.f2, .slice A x.f3.length c, .int .i64 x.f4, .int .i64 x.f5, .int .i64 x.f6, .slice E x.f7.length e] 47) (.cells #[.int .i64 x.f0, .int .i64 x.f1, .int .i64 x.f2, .slice B x.f3.length d, .int .i64 x.f4, .int .i64 x.f5, .int .i64 x.f6, .slice F x.f7.length f] 47)
  have K0 := blk_alloc (blk_new w (.cells #[.int .i64 x.f0, .int .i64 x.f1, .int .i64 x.f2, .slice A x.f3.length c, .int .i64 x.f4, .int .i64 x.f5, .int .i64 x.f6, .slice E x.f7.length e] 47)) (.cells #[.int .i64 x.f0, .int .i64 x.f1, .int .i64 x.f2, .slice B x.f3.length d, .int .i64 x.f4, .int .i64 x.f5, .int .i64 x.f6, .slice F x.f7.length f] 47)
  have K1 := blk_new (w.alloc (.cells #[.int .i64 x.f0, .int .i64 x.f1, .int .i64 x.f2, .slice A x.f3.length c, .int .i64 x.f4, .int .i64 x.f5, .int .i64 x.f6, .slice E x.f7.length e] 47)) (.cells #[.int .i64 x.f0, .int .i64 x.f1, .int .i64 x.f2, .slice B x.f3.length d, .int .i64 x.f4, .int .i64 x.f5, .int .i64 x.f6, .slice F x.f7.length f] 47)
  rw [World.size_alloc] at K1
  generalize (w.alloc (.cells #[.int .i64 x.f0, .int .i64 x.f1, .int .i64 x.f2, .slice A x.f3.length c, .int .i64 x.f4, .int .i64 x.f5, .int .i64 x.f6, .slice E x.f7.length e] 47)).alloc (.cells #[.int .i64 x.f0, .int .i64 x.f1, .int .i64 x.f2, .slice B x.f3.length d, .int .i64 x.f4, .int .i64 x.f5, .int .i64 x.f6, .slice F x.f7.length f] 47) = w1 at b1 K0 K1 ⊢
  generalize w.heap.size + 1 = g1 at K1 ⊢
  have HW := Aside0.mk b1
  generalize w.heap.size = g0 at K0 ⊢
  replace HA := Aside0.mk (Kd.C_below HA.out b1)
  replace HB := Aside0.mk (Kd.C_below HB.out b1)
  replace HE := Aside0.mk (Kd.C_below HE.out b1)
  replace HF := Aside0.mk (Kd.C_below HF.out b1)
  clear b1
  have q0_0 : w1.cell? ⟨g0, 0, none⟩ = some (.int .i64 x.f0) := blk_cell K0 0
  have q0_1 : w1.cell? ⟨g0, 1, none⟩ = some (.int .i64 x.f1) := blk_cell K0 1
  have q0_2 : w1.cell? ⟨g0, 2, none⟩ = some (.int .i64 x.f2) := blk_cell K0 2
  have q0_3 : w1.cell? ⟨g0, 3, none⟩ = some (.slice A x.f3.length c) := blk_cell K0 3
  have q0_4 : w1.cell? ⟨g0, 4, none⟩ = some (.int .i64 x.f4) := blk_cell K0 4
  have q0_5 : w1.cell? ⟨g0, 5, none⟩ = some (.int .i64 x.f5) := blk_cell K0 5
  have q0_6 : w1.cell? ⟨g0, 6, none⟩ = some (.int .i64 x.f6) := blk_cell K0 6
  have q0_7 : w1.cell? ⟨g0, 7, none⟩ = some (.slice E x.f7.length e) := blk_cell K0 7
  have q1_0 : w1.cell? ⟨g1, 0, none⟩ = some (.int .i64 x.f0) := blk_cell K1 0
  have q1_1 : w1.cell? ⟨g1, 1, none⟩ = some (.int .i64 x.f1) := blk_cell K1 1
  have q1_2 : w1.cell? ⟨g1, 2, none⟩ = some (.int .i64 x.f2) := blk_cell K1 2
  have q1_3 : w1.cell? ⟨g1, 3, none⟩ = some (.slice B x.f3.length d) := blk_cell K1 3
  have q1_4 : w1.cell? ⟨g1, 4, none⟩ = some (.int .i64 x.f4) := blk_cell K1 4
  have q1_5 : w1.cell? ⟨g1, 5, none⟩ = some (.int .i64 x.f5) := blk_cell K1 5
  have q1_6 : w1.cell? ⟨g1, 6, none⟩ = some (.int .i64 x.f6) := blk_cell K1 6
  have q1_7 : w1.cell? ⟨g1, 7, none⟩ = some (.slice F x.f7.length f) := blk_cell K1 7
  clear K0 K1
  go_wp2_with (fail)
  refine (same_opnds A B c d x.f3 w1 HA.out HB.out H3.out).mono ?_
  rintro ee w2 ⟨rfl, m, rfl⟩
  go_wp2_with (fail)
  refine (same_shapes E F e f x.f7 _ (C_drewN' HE.out m) (C_drewN' HF.out m) H7.out HS.out).mono ?_
  rintro ee w2 ⟨rfl, m2, rfl⟩
  go_wp2_with (fail)
  go_ret
  exact ⟨rfl, wB HW.out (pw_below_drewN (Below.refl _ _) (m + m2))⟩
def dSR : Nat → Option Tmp
  | 0 => some 76
  | 1 => some 77
  | 2 => some 78
  | 3 => some 79
  | 4 => some 80
  | 5 => some 81
  | 6 => some 82
  | 7 => some 83
  | 8 => some 84
  | 9 => some 85
  | 10 => some 86
  | 11 => some 87
  | _ => none
def FSR (x : S47) (g6 g7 k : Nat) (A6 A7 : Option Addr) (c6 c7 n : Nat) (a7 b7 : Addr) (A B E F : Option Addr) (c d e f : Nat) : Nat → World → Value → Prop
  | 0, _, v => v = .pointer (some ⟨g6, 1, none⟩)
  | 1, _, v => v = .slice A6 n c6
  | 2, _, v => v = .int .i64 (k : Int)
  | 3, _, v => v = .pointer (some a7)
  | 4, _, v => v = .agg #[.int .i64 x.f0, .int .i64 x.f1, .int .i64 x.f2, .slice A x.f3.length c, .int .i64 x.f4, .int .i64 x.f5, .int .i64 x.f6, .slice E x.f7.length e]
  | 5, _, v => v = .pointer (some ⟨g7, 1, none⟩)
  | 6, _, v => v = .slice A7 n c7
  | 7, _, v => v = .int .i64 (k : Int)
  | 8, _, v => v = .pointer (some b7)
  | 9, _, v => v = .agg #[.int .i64 x.f0, .int .i64 x.f1, .int .i64 x.f2, .slice B x.f3.length d, .int .i64 x.f4, .int .i64 x.f5, .int .i64 x.f6, .slice F x.f7.length f]
  | 10, _, v => v = .bool true
  | 11, _, v => v = .bool false
  | _, _, _ => True
theorem FSR_below (x : S47) (g6 g7 k : Nat) (A6 A7 : Option Addr) (c6 c7 n : Nat) (a7 b7 : Addr) (A B E F : Option Addr) (c d e f : Nat) (i : Nat) (w w1 : World) (v : Value) (h : FSR x  g6 g7 k  A6 A7  c6 c7 n  a7 b7  A B E F  c d e f  i w v) (hb : Below w.heap.size w w1) : FSR x  g6 g7 k  A6 A7  c6 c7 n  a7 b7  A B E F  c d e f  i w1 v := by
  match i with
  | 0 | 1 | 2 | 3 | 4 | 5 | 6 | 7 | 8 | 9 | 10 | 11 => exact h
  | (n + 12) => exact h
structure SmallX' (x : S47) : Prop where
  args : x.f3.length ≤ 17592186044416
  exit : x.f7.length ≤ 17592186044416
  slots : ∀ s ∈ x.f7, s.f2.length ≤ 17592186044416
structure SmallB' (l : List S43) : Prop where
  len : l.length ≤ 17592186044416
  ins : ∀ b ∈ l, b.f1.length ≤ 17592186044416 ∧ b.f2.length ≤ 17592186044416
  each : ∀ b ∈ l, ∀ x ∈ b.f1, SmallX' x
theorem rd_mem43 {l : List S43} {k : Nat} (h : k < l.length) : rd_T43 l (k : Int) ∈ l := by
  unfold rd_T43
  rw [Int.toNat_natCast, List.getD_eq_getElem?_getD, List.getElem?_eq_getElem h]
  exact List.getElem_mem h
theorem rd_mem47 {l : List S47} {k : Nat} (h : k < l.length) : rd_T47 l (k : Int) ∈ l := by
  unfold rd_T47
  rw [Int.toNat_natCast, List.getD_eq_getElem?_getD, List.getElem?_eq_getElem h]
  exact List.getElem_mem h
set_option maxHeartbeats 4000000 in
set_option maxRecDepth 100000 in
theorem same_regs (u v : Int) (A B : Option Addr) (c d : Nat) (l : List S43) (w : World) (hA : k43.C w A l.length l) (hB : k43.C w B l.length l) (hs : SmallB' l) :
    Calls Try.prog 12 #[.agg #[.int .i64 u, .int .i64 v, .slice A l.length c], .agg #[.int .i64 u, .int .i64 v, .slice B l.length d]] w fun e w' => e = .returned (.bool true) ∧ Below w.heap.size w w' := by
  have HA := Aside0.mk hA
  have HB := Aside0.mk hB
  have HS := Aside0.mk hs
  have hlen := hs.len
  clear hA hB hs
  go_enter Try.func12, Try.ntmps12
  go_upto_region 1 with (fail)
  have b1 := e4 w (.cells #[.int .i64 u, .int .i64 v, .slice A l.length c] 24) (.cells #[.int .i64 u, .int .i64 v, .slice B l.length d] 24)
  have K0 := blk_alloc (blk_new w (.cells #[.int .i64 u, .int .i64 v, .slice A l.length c] 24)) (.cells #[.int .i64 u, .int .i64 v, .slice B l.length d] 24)
  have K1 := blk_new (w.alloc (.cells #[.int .i64 u, .int .i64 v, .slice A l.length c] 24)) (.cells #[.int .i64 u, .int .i64 v, .slice B l.length d] 24)
  rw [World.size_alloc] at K1
  generalize (w.alloc (.cells #[.int .i64 u, .int .i64 v, .slice A l.length c] 24)).alloc (.cells #[.int .i64 u, .int .i64 v, .slice B l.length d] 24) = w1 at b1 K0 K1 ⊢
  generalize w.heap.size + 1 = g1 at K1 ⊢
  have HW := Aside0.mk b1
  generalize w.heap.size = g0 at K0 ⊢
  replace HA := Aside0.mk (Kd.C_below HA.out b1)
  replace HB := Aside0.mk (Kd.C_below HB.out b1)
  clear b1
  have q0 : w1.cell? ⟨g0, 0, none⟩ = some (.int .i64 u) := blk_cell K0 0
  have q1 : w1.cell? ⟨g0, 1, none⟩ = some (.int .i64 v) := blk_cell K0 1
  have q2 : w1.cell? ⟨g0, 2, none⟩ = some (.slice A l.length c) := blk_cell K0 2
  have r0 : w1.cell? ⟨g1, 0, none⟩ = some (.int .i64 u) := blk_cell K1 0
  have r1 : w1.cell? ⟨g1, 1, none⟩ = some (.int .i64 v) := blk_cell K1 1
  have r2 : w1.cell? ⟨g1, 2, none⟩ = some (.slice B l.length d) := blk_cell K1 2
  replace K0 := Aside0.mk K0
  replace K1 := Aside0.mk K1
  go_wp2
  clear q0 q1 q2 r0 r1 r2
  go_loopw [5, 6, 7, 8] (fun t _ _ _ wr => ∃ k : Nat, k ≤ l.length ∧ t = .int .i64 k ∧ Below w1.heap.size w1 wr) (fun t _ _ _ _ => l.length - (intOf t).toNat)
  case atStart => exact ⟨0, Nat.zero_le _, rfl, Below.refl _ _⟩
  case round =>
    obtain ⟨k, hk, rfl, hb⟩ := hrel
    have q2 : wr.cell? ⟨g0, 2, none⟩ = some (.slice A l.length c) := blk_cell (blk_below K0.out hb) 2
    have r2 : wr.cell? ⟨g1, 2, none⟩ = some (.slice B l.length d) := blk_cell (blk_below K1.out hb) 2
    by_cases hlt : k < l.length
    · obtain ⟨a, A1, c1, A2, c2, rfl, x0, x1, x2, _, g65, _, gI⟩ := at_T43 (Kd.C_below HA.out hb) (k : Int) (by omega) (by omega)
      obtain ⟨b, B1, d1, B2, d2, rfl, y0, y1, y2, _, h65, _, hI⟩ := at_T43 (Kd.C_below HB.out hb) (k : Int) (by omega) (by omega)
      have hm := rd_mem43 hlt
      have hins := HS.out.ins _ hm
      have heach := HS.out.each _ hm
      rw [Int.toNat_natCast] at x0 x1 x2 y0 y1 y2
      generalize rd_T43 l (k : Int) = bl at x0 x1 x2 y0 y1 y2 g65 h65 gI hI hins heach hm
      have HB0 := Aside0.mk hb
      have G65 := Aside0.mk g65
      have H65 := Aside0.mk h65
      have GI := Aside0.mk gI
      have HI := Aside0.mk hI
      have HN := Aside0.mk hins
      have HEACH := Aside0.mk heach
      clear hb g65 h65 gI hI hins heach hm
      go_upto_region 7 with (fail)
      have b3 := below_alloc (Below.refl _ wr) (.cells #[.int .i64 bl.f0, .slice A1 bl.f1.length c1, .slice A2 bl.f2.length c2] 43)
      have KN := blk_new wr (.cells #[.int .i64 bl.f0, .slice A1 bl.f1.length c1, .slice A2 bl.f2.length c2] 43)
      replace x0 := pw_cell_below b3 x0
      replace x1 := pw_cell_below b3 x1
      replace x2 := pw_cell_below b3 x2
      replace y0 := pw_cell_below b3 y0
      replace y1 := pw_cell_below b3 y1
      replace y2 := pw_cell_below b3 y2
      replace q2 := pw_cell_below b3 q2
      replace r2 := pw_cell_below b3 r2
      replace G65 := Aside0.mk (Kd.C_below G65.out b3)
      replace H65 := Aside0.mk (Kd.C_below H65.out b3)
      replace GI := Aside0.mk (Kd.C_below GI.out b3)
      replace HI := Aside0.mk (Kd.C_below HI.out b3)
      replace HB0 := Aside0.mk (wB HB0.out b3)
      clear b3
      generalize wr.alloc (.cells #[.int .i64 bl.f0, .slice A1 bl.f1.length c1, .slice A2 bl.f2.length c2] 43) = wx1 at *
      generalize wr.heap.size = g6 at KN ⊢
      have K6 := Aside0.mk KN
      clear KN
      go_upto_region 8 with (fail)
      have b3 := below_alloc (Below.refl _ wx1) (.cells #[.int .i64 bl.f0, .slice B1 bl.f1.length d1, .slice B2 bl.f2.length d2] 43)
      have KN := blk_new wx1 (.cells #[.int .i64 bl.f0, .slice B1 bl.f1.length d1, .slice B2 bl.f2.length d2] 43)
      replace x0 := pw_cell_below b3 x0
      replace x1 := pw_cell_below b3 x1
      replace x2 := pw_cell_below b3 x2
      replace y0 := pw_cell_below b3 y0
      replace y1 := pw_cell_below b3 y1
      replace y2 := pw_cell_below b3 y2
      replace q2 := pw_cell_below b3 q2
      replace r2 := pw_cell_below b3 r2
      replace G65 := Aside0.mk (Kd.C_below G65.out b3)
      replace H65 := Aside0.mk (Kd.C_below H65.out b3)
      replace GI := Aside0.mk (Kd.C_below GI.out b3)
      replace HI := Aside0.mk (Kd.C_below HI.out b3)
      replace K6 := Aside0.mk (blk_below K6.out b3)
      replace HB0 := Aside0.mk (wB HB0.out b3)
      clear b3
      generalize wx1.alloc (.cells #[.int .i64 bl.f0, .slice B1 bl.f1.length d1, .slice B2 bl.f2.length d2] 43) = wx2 at *
      generalize wx1.heap.size = g7 at KN ⊢
      have K7 := Aside0.mk KN
      clear KN
      clear x0 x1 x2 y0 y1 y2 q2 r2
      have z0 : wx2.cell? ⟨g6, 0, none⟩ = some (.int .i64 bl.f0) := blk_cell K6.out 0
      have z1 : wx2.cell? ⟨g6, 1, none⟩ = some (.slice A1 bl.f1.length c1) := blk_cell K6.out 1
      have z2 : wx2.cell? ⟨g6, 2, none⟩ = some (.slice A2 bl.f2.length c2) := blk_cell K6.out 2
      have t0 : wx2.cell? ⟨g7, 0, none⟩ = some (.int .i64 bl.f0) := blk_cell K7.out 0
      have t1 : wx2.cell? ⟨g7, 1, none⟩ = some (.slice B1 bl.f1.length d1) := blk_cell K7.out 1
      have t2 : wx2.cell? ⟨g7, 2, none⟩ = some (.slice B2 bl.f2.length d2) := blk_cell K7.out 2
      go_wp2_with (fail)
      refine (same_ints A2 B2 c2 d2 bl.f2 wx2 GI.out HI.out HN.out.2).mono ?_
      rintro ee wx3 ⟨rfl, m, rfl⟩
      have b3 : Below wx2.heap.size wx2 (wx2.drewN m) := pw_below_drewN (Below.refl _ _) m
      have z1' : (wx2.drewN m).cell? ⟨g6, 1, none⟩ = some (.slice A1 bl.f1.length c1) := z1
      have t1' : (wx2.drewN m).cell? ⟨g7, 1, none⟩ = some (.slice B1 bl.f1.length d1) := t1
      clear z0 z1 z2 t0 t1 t2
      replace G65 := Aside0.mk (Kd.C_below G65.out b3)
      replace H65 := Aside0.mk (Kd.C_below H65.out b3)
      replace K6 := Aside0.mk (blk_below K6.out b3)
      replace K7 := Aside0.mk (blk_below K7.out b3)
      replace HB0 := Aside0.mk (wB HB0.out b3)
      clear b3
      generalize wx2.drewN m = wx4 at *
      have hn1 := HN.out.1
      go_wp2_with (fail)
      clear z1' t1'
      go_loopw [8] (fun t wr2 => ∃ j : Nat, j ≤ bl.f1.length ∧ t = .int .i64 j ∧ Below wx4.heap.size wx4 wr2) (fun t _ => bl.f1.length - (intOf t).toNat)
      case atStart => exact ⟨0, Nat.zero_le _, rfl, Below.refl _ _⟩
      case round =>
        obtain ⟨j, hj, rfl, hb⟩ := hrel
        have K6' := blk_below K6.out hb
        have K7' := blk_below K7.out hb
        have z1 : wr.cell? ⟨g6, 1, none⟩ = some (.slice A1 bl.f1.length c1) := blk_cell K6' 1
        have t1 : wr.cell? ⟨g7, 1, none⟩ = some (.slice B1 bl.f1.length d1) := blk_cell K7' 1
        replace K6' := Aside0.mk K6'
        replace K7' := Aside0.mk K7'
        by_cases hjl : j < bl.f1.length
        · obtain ⟨a7, A3, c3, E3, e3, hA7, x0, x1, x2, x3, x4, x5, x6, x7, _, gA, _, gE⟩ := at_T47 (Kd.C_below G65.out hb) (j : Int) (by omega) (by omega)
          obtain ⟨b7, B3, d3, F3, f3, hB7, y0, y1, y2, y3, y4, y5, y6, y7, _, gB, _, gF⟩ := at_T47 (Kd.C_below H65.out hb) (j : Int) (by omega) (by omega)
          have hxm := rd_mem47 hjl
          have XX := Aside0.mk (let q := HEACH.out _ hxm; And.intro q.args (And.intro q.exit q.slots))
          rw [Int.toNat_natCast] at x0 x1 x2 x3 x4 x5 x6 x7 y0 y1 y2 y3 y4 y5 y6 y7
          generalize rd_T47 bl.f1 (j : Int) = x at *
          subst hA7
          subst hB7
          have XA := Aside0.mk gA
          have XB := Aside0.mk gB
          have XE := Aside0.mk gE
          have XF := Aside0.mk gF
          have HB1 := Aside0.mk hb
          have Y1 : ∀ w8, Below wr.heap.size wr w8 → w8.cell? ⟨g6, 1, none⟩ = some (.slice (some a7) bl.f1.length c1) := fun w8 b => pw_cell_below b z1
          have Y4 : ∀ w8, Below wr.heap.size wr w8 → w8.cell? ⟨g7, 1, none⟩ = some (.slice (some b7) bl.f1.length d1) := fun w8 b => pw_cell_below b t1
          have Y2 := fun w8 (b : Below wr.heap.size wr w8) => And.intro (pw_cell_below b x0) (And.intro (pw_cell_below b x1) (And.intro (pw_cell_below b x2) (And.intro (pw_cell_below b x3) (And.intro (pw_cell_below b x4) (And.intro (pw_cell_below b x5) (And.intro (pw_cell_below b x6) (pw_cell_below b x7)))))))
          have Y3 := fun w8 (b : Below wr.heap.size wr w8) => And.intro (pw_cell_below b y0) (And.intro (pw_cell_below b y1) (And.intro (pw_cell_below b y2) (And.intro (pw_cell_below b y3) (And.intro (pw_cell_below b y4) (And.intro (pw_cell_below b y5) (And.intro (pw_cell_below b y6) (pw_cell_below b y7)))))))
          have YY := Aside0.mk (And.intro Y1 (And.intro Y2 (And.intro Y3 Y4)))
          clear gA gB gE gF hb x0 x1 x2 x3 x4 x5 x6 x7 y0 y1 y2 y3 y4 y5 y6 y7 hxm Y1 Y2 Y3 Y4
          go_wp2_with (fail)
          clear z1 t1
          rename_i hK
          refine RegInv.region_facts (by kernel_rfl) (by kernel_rfl) (fun a b => Below a.heap.size a b) (fun a b c h k => wB h k) (below_drew1 (Below.refl _ _)) dSR 12 (by kernel_rfl) (by kernel_rfl) (by kernel_rfl) (FSR x g6 g7 j (some a7) (some b7) c1 d1 bl.f1.length (a7.add (j * 8)) (b7.add (j * 8)) A3 B3 E3 F3 c3 d3 e3 f3) (FSR_below x g6 g7 j (some a7) (some b7) c1 d1 bl.f1.length (a7.add (j * 8)) (b7.add (j * 8)) A3 B3 E3 F3 c3 d3 e3 f3) ?hsSR ?heSR
          case hsSR =>
            clear hK HW HB0
            intro i o a w8 hi hM
            have hlt : i < 12 := (Array.getElem?_eq_some_iff.1 hi).1
            obtain ⟨Y1, Y2, Y3, Y4⟩ := YY.out
            rcases i with _ | _ | _ | _ | _ | _ | _ | _ | _ | _ | _ | _ | i
            · cases hi
              have h0 := gdq _ _ _ (show a.tmps.getD 6 undef = .pointer (some ⟨g6, 0, none⟩) from hM.off 6 (by kernel_rfl))
              refine RegInv.op_value (by rfl) rfl (v := .pointer (some ⟨g6, 1, none⟩)) (w' := w8) ?_ ⟨_, rfl, rfl, Below.refl _ _⟩
              unfold execOp
              go_simp
            · cases hi
              have h0 := gdq _ _ _ (show a.tmps.getD 76 undef = .pointer (some ⟨g6, 1, none⟩) from hM.at_ 0 (by decide) (by kernel_rfl))
              have y := Y1 w8 hM.ext
              refine RegInv.op_value (by rfl) rfl (v := .slice (some a7) bl.f1.length c1) (w' := w8) ?_ ⟨_, rfl, rfl, Below.refl _ _⟩
              unfold execOp
              go_simp
            · cases hi
              have h0 := gdq _ _ _ (show a.tmps.getD 8 undef = .int .i64 (j : Int) from hM.off 8 (by kernel_rfl))
              refine RegInv.op_value (by rfl) rfl (v := .int .i64 (j : Int)) (w' := w8) ?_ ⟨_, rfl, rfl, Below.refl _ _⟩
              unfold execOp
              go_simp
            · cases hi
              have h0 := gdq _ _ _ (show a.tmps.getD 77 undef = .slice (some a7) bl.f1.length c1 from hM.at_ 1 (by decide) (by kernel_rfl))
              have h1 := gdq _ _ _ (show a.tmps.getD 78 undef = .int .i64 (j : Int) from hM.at_ 2 (by decide) (by kernel_rfl))
              refine RegInv.op_value (by rfl) rfl (v := .pointer (some (a7.add (j * 8)))) (w' := w8) ?_ ⟨_, rfl, rfl, Below.refl _ _⟩
              unfold execOp
              go_simp
            · cases hi
              have h0 := gdq _ _ _ (show a.tmps.getD 79 undef = .pointer (some (a7.add (j * 8))) from hM.at_ 3 (by decide) (by kernel_rfl))
              obtain ⟨y0, y1, y2, y3, y4, y5, y6, y7⟩ := Y2 w8 hM.ext
              clear Y1 Y4
              refine RegInv.op_value (by rfl) rfl (v := .agg #[.int .i64 x.f0, .int .i64 x.f1, .int .i64 x.f2, .slice A3 x.f3.length c3, .int .i64 x.f4, .int .i64 x.f5, .int .i64 x.f6, .slice E3 x.f7.length e3]) (w' := w8) ?_ ⟨_, rfl, rfl, Below.refl _ _⟩
              unfold execOp
              go_simp
            · cases hi
              have h0 := gdq _ _ _ (show a.tmps.getD 7 undef = .pointer (some ⟨g7, 0, none⟩) from hM.off 7 (by kernel_rfl))
              refine RegInv.op_value (by rfl) rfl (v := .pointer (some ⟨g7, 1, none⟩)) (w' := w8) ?_ ⟨_, rfl, rfl, Below.refl _ _⟩
              unfold execOp
              go_simp
            · cases hi
              have h0 := gdq _ _ _ (show a.tmps.getD 81 undef = .pointer (some ⟨g7, 1, none⟩) from hM.at_ 5 (by decide) (by kernel_rfl))
              have y := Y4 w8 hM.ext
              refine RegInv.op_value (by rfl) rfl (v := .slice (some b7) bl.f1.length d1) (w' := w8) ?_ ⟨_, rfl, rfl, Below.refl _ _⟩
              unfold execOp
              go_simp
            · cases hi
              have h0 := gdq _ _ _ (show a.tmps.getD 8 undef = .int .i64 (j : Int) from hM.off 8 (by kernel_rfl))
              refine RegInv.op_value (by rfl) rfl (v := .int .i64 (j : Int)) (w' := w8) ?_ ⟨_, rfl, rfl, Below.refl _ _⟩
              unfold execOp
              go_simp
            · cases hi
              have h0 := gdq _ _ _ (show a.tmps.getD 82 undef = .slice (some b7) bl.f1.length d1 from hM.at_ 6 (by decide) (by kernel_rfl))
              have h1 := gdq _ _ _ (show a.tmps.getD 83 undef = .int .i64 (j : Int) from hM.at_ 7 (by decide) (by kernel_rfl))
              refine RegInv.op_value (by rfl) rfl (v := .pointer (some (b7.add (j * 8)))) (w' := w8) ?_ ⟨_, rfl, rfl, Below.refl _ _⟩
              unfold execOp
              go_simp
            · cases hi
              have h0 := gdq _ _ _ (show a.tmps.getD 84 undef = .pointer (some (b7.add (j * 8))) from hM.at_ 8 (by decide) (by kernel_rfl))
              obtain ⟨y0, y1, y2, y3, y4, y5, y6, y7⟩ := Y3 w8 hM.ext
              clear Y1 Y4
              refine RegInv.op_value (by rfl) rfl (v := .agg #[.int .i64 x.f0, .int .i64 x.f1, .int .i64 x.f2, .slice B3 x.f3.length d3, .int .i64 x.f4, .int .i64 x.f5, .int .i64 x.f6, .slice F3 x.f7.length f3]) (w' := w8) ?_ ⟨_, rfl, rfl, Below.refl _ _⟩
              unfold execOp
              go_simp
            · cases hi
              have h0 := gdq _ _ _ (show a.tmps.getD 80 undef = .agg #[.int .i64 x.f0, .int .i64 x.f1, .int .i64 x.f2, .slice A3 x.f3.length c3, .int .i64 x.f4, .int .i64 x.f5, .int .i64 x.f6, .slice E3 x.f7.length e3] from hM.at_ 4 (by decide) (by kernel_rfl))
              have h1 := gdq _ _ _ (show a.tmps.getD 85 undef = .agg #[.int .i64 x.f0, .int .i64 x.f1, .int .i64 x.f2, .slice B3 x.f3.length d3, .int .i64 x.f4, .int .i64 x.f5, .int .i64 x.f6, .slice F3 x.f7.length f3] from hM.at_ 9 (by decide) (by kernel_rfl))
              refine RegInv.op_call (by rfl) rfl Try.func30 (by kernel_rfl) rfl rfl #[.agg #[.int .i64 x.f0, .int .i64 x.f1, .int .i64 x.f2, .slice A3 x.f3.length c3, .int .i64 x.f4, .int .i64 x.f5, .int .i64 x.f6, .slice E3 x.f7.length e3], .agg #[.int .i64 x.f0, .int .i64 x.f1, .int .i64 x.f2, .slice B3 x.f3.length d3, .int .i64 x.f4, .int .i64 x.f5, .int .i64 x.f6, .slice F3 x.f7.length f3]] (by simp [Act.eval, h0, h1]) ?_
              refine (same_ins x A3 B3 E3 F3 c3 d3 e3 f3 w8 (Kd.C_below XA.out hM.ext) (Kd.C_below XB.out hM.ext) (Kd.C_below XE.out hM.ext) (Kd.C_below XF.out hM.ext) XX.out.1 XX.out.2.1 XX.out.2.2).mono ?_
              rintro e w9 ⟨rfl, b⟩
              exact ⟨_, rfl, _, rfl, rfl, b⟩
            · cases hi
              have h0 := gdq _ _ _ (show a.tmps.getD 86 undef = .bool true from hM.at_ 10 (by decide) (by kernel_rfl))
              refine RegInv.op_value (by rfl) rfl (v := .bool false) (w' := w8) ?_ ⟨_, rfl, rfl, Below.refl _ _⟩
              unfold execOp
              go_simp
            · exact absurd hlt (by omega)
          intro vs w10 b3 hF
          have e11 : vs 11 = .bool false := hF 11 (by omega)
          clear hF
          simp only [RegInv.puts, dSR, Act.put, List.range, List.range.loop, List.setIfInBounds_toArray, List.set_cons_zero, List.set_cons_succ]
          rw [e11]
          clear e11
          generalize vs 0 = v0
          generalize vs 1 = v1
          generalize vs 2 = v2
          generalize vs 3 = v3
          generalize vs 4 = v4
          generalize vs 5 = v5
          generalize vs 6 = v6
          generalize vs 7 = v7
          generalize vs 8 = v8
          generalize vs 9 = v9
          generalize vs 10 = v10
          refine hK _ _ ?_
          clear hK
          go_wp2
          go_roundw
          case rel => exact ⟨j + 1, by omega, by go_num, wB HB1.out b3⟩
          case measure => simp [intOf]; omega
        · have HB1 := Aside0.mk hb
          clear hb
          go_wp2
          go_roundw
          case rel => exact ⟨k + 1, by omega, by go_num, wB HB0.out HB1.out⟩
          case measure => simp [intOf]; omega
    · clear q2 r2
      have q2 : wr.cell? ⟨g0, 2, none⟩ = some (.slice A l.length c) := blk_cell (blk_below K0.out hb) 2
      have HB0 := Aside0.mk hb
      clear hb
      go_wp2
      go_ret
      exact ⟨rfl, wB HW.out HB0.out⟩
end Go.Proofs.Ytjekpkpmoanadaa.PCop
/- portagekit's comparing functions: lists that read the same are found the same. For every world. -/
namespace Go.Proofs.Ytjekpkpmoanadaa.PCop
open Go.RowKit Go.Proofs.Ytjekpkpmoanadaa.Lit Go.Proofs.YtjekpkpmoanadaaW.PrintWords Go.Proofs.YtjekpkpmoanadaaW.PrintLast Go.Proofs.YtjekpkpmoanadaaW.PrintMore
set_option linter.unusedVariables false
set_option linter.unusedSimpArgs false
set_option maxHeartbeats 1000000 in
set_option maxRecDepth 100000 in
theorem same_opndsK (A B : Option Addr) (c d : Nat) (l : List S49) (w : World) (hA : k49.C w A l.length l) (hB : k49.C w B l.length l) (hl : l.length ≤ 17592186044416) :
    Calls Try.prog 56 #[.slice A l.length c, .slice B l.length d] w fun e w' => e = .returned (.bool true) ∧ ∃ m, w' = w.drewN m := by
  have HA := Aside0.mk hA
  have HB := Aside0.mk hB
  clear hA hB
  go_enter Try.func56, Try.ntmps56
  go_wp2
  go_loopw [5] (fun t wr => ∃ k : Nat, k ≤ l.length ∧ t = .int .i64 k ∧ ∃ m, wr = w.drewN m) (fun t _ => l.length - (intOf t).toNat)
  case atStart => exact ⟨0, Nat.zero_le _, rfl, 0, rfl⟩
  case round =>
    obtain ⟨k, hk, rfl, m, rfl⟩ := hrel
    by_cases hlt : k < l.length
    · obtain ⟨a, rfl, q0, q1⟩ := at_T49 HA.out (k : Int) (by omega) (by omega)
      obtain ⟨b, rfl, q2, q3⟩ := at_T49 HB.out (k : Int) (by omega) (by omega)
      rw [Int.toNat_natCast] at q0 q1 q2 q3
      go_wp2
      go_quiet (fail)
      go_wp2
      go_roundw
      case rel => exact ⟨k + 1, by omega, by go_num, _, rfl⟩
      case measure => simp [intOf]; omega
    · go_wp2
      go_ret
      exact ⟨rfl, m, rfl⟩
set_option maxHeartbeats 2000000 in
set_option maxRecDepth 100000 in
theorem same_shapesK (A B : Option Addr) (c d : Nat) (l : List S65) (w : World) (hA : k65.C w A l.length l) (hB : k65.C w B l.length l) (hl : l.length ≤ 17592186044416) (hs : ∀ s ∈ l, s.f2.length ≤ 17592186044416) :
    Calls Try.prog 57 #[.slice A l.length c, .slice B l.length d] w fun e w' => e = .returned (.bool true) ∧ ∃ m, w' = w.drewN m := by
  have HA := Aside0.mk hA
  have HB := Aside0.mk hB
  have HS := Aside0.mk hs
  clear hA hB hs
  go_enter Try.func57, Try.ntmps57
  go_wp2
  go_loopw [5] (fun t wr => ∃ k : Nat, k ≤ l.length ∧ t = .int .i64 k ∧ ∃ m, wr = w.drewN m) (fun t _ => l.length - (intOf t).toNat)
  case atStart => exact ⟨0, Nat.zero_le _, rfl, 0, rfl⟩
  case round =>
    obtain ⟨k, hk, rfl, m, hm⟩ := hrel
    have HM := Aside0.mk hm
    have HA1 := Aside0.mk (show k65.C wr A l.length l from hm ▸ C_drewN' HA.out m)
    have HB1 := Aside0.mk (show k65.C wr B l.length l from hm ▸ C_drewN' HB.out m)
    clear hm
    by_cases hlt : k < l.length
    · obtain ⟨a, A2, c2, rfl, q0, q1, q2, _, g0⟩ := at_T65 HA1.out (k : Int) (by omega) (by omega)
      obtain ⟨b, B2, d2, rfl, r0, r1, r2, _, g1⟩ := at_T65 HB1.out (k : Int) (by omega) (by omega)
      have hrd : rd_T65 l (k : Int) ∈ l := by
        unfold rd_T65
        rw [Int.toNat_natCast, List.getD_eq_getElem?_getD, List.getElem?_eq_getElem hlt]
        exact List.getElem_mem hlt
      have hx := HS.out _ hrd
      rw [Int.toNat_natCast] at q0 q1 q2 r0 r1 r2
      generalize rd_T65 l (k : Int) = x at q0 q1 q2 r0 r1 r2 g0 g1 hx hrd
      have G0 := Aside0.mk g0
      have G1 := Aside0.mk g1
      have HX := Aside0.mk hx
      clear g0 g1 hrd hx
      go_wp2
      go_quiet ((go_at_call 56; exact Calls.quiet_of (same_opndsK _ _ _ _ x.f2 _ (C_drewN' G0.out _) (C_drewN' G1.out _) HX.out)))
      go_wp2
      go_roundw
      case rel => exact ⟨k + 1, by omega, by go_num, _, by rw [HM.out]; exact World.drewN_drewN _ _ _⟩
      case measure => simp [intOf]; omega
    · go_wp2
      go_ret
      exact ⟨rfl, m, HM.out⟩
set_option maxHeartbeats 4000000 in
set_option maxRecDepth 100000 in
theorem same_insK (A B : Option Addr) (c d : Nat) (l : List S47) (w : World) (hA : k47.C w A l.length l) (hB : k47.C w B l.length l) (hl : l.length ≤ 17592186044416) (hs : ∀ x ∈ l, SmallX' x) :
    Calls Try.prog 48 #[.slice A l.length c, .slice B l.length d] w fun e w' => e = .returned (.bool true) ∧ Below w.heap.size w w' := by
  have HA := Aside0.mk hA
  have HB := Aside0.mk hB
  have HS := Aside0.mk hs
  clear hA hB hs
  go_enter Try.func48, Try.ntmps48
  go_wp2
  go_loopw [5, 6, 7] (fun t _ _ wr => ∃ k : Nat, k ≤ l.length ∧ t = .int .i64 k ∧ Below w.heap.size w wr) (fun t _ _ _ => l.length - (intOf t).toNat)
  case atStart => exact ⟨0, Nat.zero_le _, rfl, Below.refl _ _⟩
  case round =>
    obtain ⟨k, hk, rfl, hb⟩ := hrel
    by_cases hlt : k < l.length
    · obtain ⟨a, A3, c3, A7, c7, rfl, x0, x1, x2, x3, x4, x5, x6, x7, _, g3, _, g7⟩ := at_T47 (Kd.C_below HA.out hb) (k : Int) (by omega) (by omega)
      obtain ⟨b, B3, d3, B7, d7, rfl, y0, y1, y2, y3, y4, y5, y6, y7, _, h3, _, h7⟩ := at_T47 (Kd.C_below HB.out hb) (k : Int) (by omega) (by omega)
      rw [Int.toNat_natCast] at x0 x1 x2 x3 x4 x5 x6 x7 y0 y1 y2 y3 y4 y5 y6 y7
      have hx := HS.out _ (rd_mem47 hlt)
      generalize rd_T47 l (k : Int) = x at *
      have HX := Aside0.mk hx
      have G3 := Aside0.mk g3
      have G7 := Aside0.mk g7
      have H3 := Aside0.mk h3
      have H7 := Aside0.mk h7
      have HBB := Aside0.mk hb
      clear hx g3 g7 h3 h7 hb
      go_upto_region 7 with (fail)
      have b3 := below_alloc (Below.refl _ wr) (.cells #[.int .i64 x.f0, .int .i64 x.f1, .int .i64 x.f2, .slice A3 x.f3.length c3, .int .i64 x.f4, .int .i64 x.f5, .int .i64 x.f6, .slice A7 x.f7.length c7] 47)
      have K6 := blk_new wr (.cells #[.int .i64 x.f0, .int .i64 x.f1, .int .i64 x.f2, .slice A3 x.f3.length c3, .int .i64 x.f4, .int .i64 x.f5, .int .i64 x.f6, .slice A7 x.f7.length c7] 47)
      replace y0 := pw_cell_below b3 y0
      replace y1 := pw_cell_below b3 y1
      replace y2 := pw_cell_below b3 y2
      replace y3 := pw_cell_below b3 y3
      replace y4 := pw_cell_below b3 y4
      replace y5 := pw_cell_below b3 y5
      replace y6 := pw_cell_below b3 y6
      replace y7 := pw_cell_below b3 y7
      replace G3 := Aside0.mk (Kd.C_below G3.out b3)
      replace G7 := Aside0.mk (Kd.C_below G7.out b3)
      replace H3 := Aside0.mk (Kd.C_below H3.out b3)
      replace H7 := Aside0.mk (Kd.C_below H7.out b3)
      replace HBB := Aside0.mk (wB HBB.out b3)
      clear b3 x0 x1 x2 x3 x4 x5 x6 x7
      generalize wr.alloc (.cells #[.int .i64 x.f0, .int .i64 x.f1, .int .i64 x.f2, .slice A3 x.f3.length c3, .int .i64 x.f4, .int .i64 x.f5, .int .i64 x.f6, .slice A7 x.f7.length c7] 47) = w1 at *
      generalize wr.heap.size = g6 at *
      replace K6 := Aside0.mk K6
      go_upto_region 8 with (fail)
      have b3 := below_alloc (Below.refl _ w1) (.cells #[.int .i64 x.f0, .int .i64 x.f1, .int .i64 x.f2, .slice B3 x.f3.length d3, .int .i64 x.f4, .int .i64 x.f5, .int .i64 x.f6, .slice B7 x.f7.length d7] 47)
      have K7 := blk_new w1 (.cells #[.int .i64 x.f0, .int .i64 x.f1, .int .i64 x.f2, .slice B3 x.f3.length d3, .int .i64 x.f4, .int .i64 x.f5, .int .i64 x.f6, .slice B7 x.f7.length d7] 47)
      replace G3 := Aside0.mk (Kd.C_below G3.out b3)
      replace G7 := Aside0.mk (Kd.C_below G7.out b3)
      replace H3 := Aside0.mk (Kd.C_below H3.out b3)
      replace H7 := Aside0.mk (Kd.C_below H7.out b3)
      replace K6 := Aside0.mk (blk_below K6.out b3)
      replace HBB := Aside0.mk (wB HBB.out b3)
      clear b3 y0 y1 y2 y3 y4 y5 y6 y7
      generalize w1.alloc (.cells #[.int .i64 x.f0, .int .i64 x.f1, .int .i64 x.f2, .slice B3 x.f3.length d3, .int .i64 x.f4, .int .i64 x.f5, .int .i64 x.f6, .slice B7 x.f7.length d7] 47) = w2 at *
      generalize w1.heap.size = g7 at *
      have x0 : w2.cell? ⟨g6, 0, none⟩ = some _ := blk_cell K6.out 0
      have x1 : w2.cell? ⟨g6, 1, none⟩ = some _ := blk_cell K6.out 1
      have x2 : w2.cell? ⟨g6, 2, none⟩ = some _ := blk_cell K6.out 2
      have x3 : w2.cell? ⟨g6, 3, none⟩ = some _ := blk_cell K6.out 3
      have x4 : w2.cell? ⟨g6, 4, none⟩ = some _ := blk_cell K6.out 4
      have x5 : w2.cell? ⟨g6, 5, none⟩ = some _ := blk_cell K6.out 5
      have x6 : w2.cell? ⟨g6, 6, none⟩ = some _ := blk_cell K6.out 6
      have x7 : w2.cell? ⟨g6, 7, none⟩ = some _ := blk_cell K6.out 7
      have y0 : w2.cell? ⟨g7, 0, none⟩ = some _ := blk_cell K7 0
      have y1 : w2.cell? ⟨g7, 1, none⟩ = some _ := blk_cell K7 1
      have y2 : w2.cell? ⟨g7, 2, none⟩ = some _ := blk_cell K7 2
      have y3 : w2.cell? ⟨g7, 3, none⟩ = some _ := blk_cell K7 3
      have y4 : w2.cell? ⟨g7, 4, none⟩ = some _ := blk_cell K7 4
      have y5 : w2.cell? ⟨g7, 5, none⟩ = some _ := blk_cell K7 5
      have y6 : w2.cell? ⟨g7, 6, none⟩ = some _ := blk_cell K7 6
      have y7 : w2.cell? ⟨g7, 7, none⟩ = some _ := blk_cell K7 7
      clear K6 K7
      go_wp2_with (fail)
      refine (same_opndsK A3 B3 c3 d3 x.f3 w2 G3.out H3.out HX.out.args).mono ?_
      rintro ee w3 ⟨rfl, m, rfl⟩
      go_wp2_with (fail)
      refine (same_shapesK A7 B7 c7 d7 x.f7 _ (C_drewN' G7.out m) (C_drewN' H7.out m) HX.out.exit HX.out.slots).mono ?_
      rintro ee w3 ⟨rfl, m2, rfl⟩
      have HFB := Aside0.mk (wB HBB.out (pw_below_drewN (Below.refl _ w2) (m + m2)))
      clear x0 x1 x2 x3 x4 x5 x6 x7 y0 y1 y2 y3 y4 y5 y6 y7
      rw [World.drewN_drewN] at *
      generalize w2.drewN (m + m2) = w5 at *
      go_wp2
      go_roundw
      case rel => exact ⟨k + 1, by omega, by go_num, HFB.out⟩
      case measure => simp [intOf]; omega
    · go_wp2
      go_ret
      exact ⟨rfl, hb⟩
def dK6 : Nat → Option Tmp
  | 0 => some 18
  | 1 => some 19
  | 2 => some 20
  | 3 => some 21
  | 4 => some 22
  | 5 => some 23
  | 6 => some 24
  | 7 => some 25
  | 8 => some 26
  | 9 => some 27
  | 10 => some 28
  | 11 => some 29
  | 12 => some 30
  | 13 => some 31
  | 14 => some 32
  | 15 => some 33
  | 16 => some 34
  | 17 => some 35
  | 18 => some 36
  | 19 => some 37
  | 20 => some 38
  | 21 => some 39
  | 22 => some 40
  | 23 => some 41
  | 24 => some 42
  | 25 => some 43
  | 26 => some 44
  | 27 => some 45
  | 28 => some 46
  | 29 => some 47
  | 30 => some 48
  | 31 => some 49
  | 32 => some 50
  | 33 => some 51
  | 34 => some 52
  | 35 => some 53
  | 36 => some 54
  | 37 => some 55
  | 38 => some 56
  | 39 => some 57
  | _ => none
def FK6 (n k c d : Nat) (a b : Addr) (bl : S43) (A1 A2 B1 B2 : Option Addr) (c1 c2 d1 d2 : Nat) : Nat → World → Value → Prop
  | 0, _, v => v = .slice (some a) n c
  | 1, _, v => v = .int .i64 (k : Int)
  | 2, _, v => v = .pointer (some (a.add (k * 3)))
  | 3, _, v => v = .pointer (some (a.add (k * 3)))
  | 4, _, v => v = .int .i64 bl.f0
  | 5, _, v => v = .slice (some b) n d
  | 6, _, v => v = .int .i64 (k : Int)
  | 7, _, v => v = .pointer (some (b.add (k * 3)))
  | 8, _, v => v = .pointer (some (b.add (k * 3)))
  | 9, _, v => v = .int .i64 bl.f0
  | 10, _, v => v = .bool false
  | 11, _, v => v = .bool false
  | 12, _, v => v = .slice (some a) n c
  | 13, _, v => v = .int .i64 (k : Int)
  | 14, _, v => v = .pointer (some (a.add (k * 3)))
  | 15, _, v => v = .pointer (some ⟨(a.add (k * 3)).block, (a.add (k * 3)).off + 2, none⟩)
  | 16, _, v => v = .slice A2 bl.f2.length c2
  | 17, _, v => v = .int .i64 (bl.f2.length : Int)
  | 18, _, v => v = .slice (some b) n d
  | 19, _, v => v = .int .i64 (k : Int)
  | 20, _, v => v = .pointer (some (b.add (k * 3)))
  | 21, _, v => v = .pointer (some ⟨(b.add (k * 3)).block, (b.add (k * 3)).off + 2, none⟩)
  | 22, _, v => v = .slice B2 bl.f2.length d2
  | 23, _, v => v = .int .i64 (bl.f2.length : Int)
  | 24, _, v => v = .bool false
  | 25, _, v => v = .bool false
  | 26, _, v => v = .bool false
  | 27, _, v => v = .slice (some a) n c
  | 28, _, v => v = .int .i64 (k : Int)
  | 29, _, v => v = .pointer (some (a.add (k * 3)))
  | 30, _, v => v = .pointer (some ⟨(a.add (k * 3)).block, (a.add (k * 3)).off + 1, none⟩)
  | 31, _, v => v = .slice A1 bl.f1.length c1
  | 32, _, v => v = .slice (some b) n d
  | 33, _, v => v = .int .i64 (k : Int)
  | 34, _, v => v = .pointer (some (b.add (k * 3)))
  | 35, _, v => v = .pointer (some ⟨(b.add (k * 3)).block, (b.add (k * 3)).off + 1, none⟩)
  | 36, _, v => v = .slice B1 bl.f1.length d1
  | 37, _, v => v = .bool true
  | 38, _, v => v = .bool false
  | 39, _, v => v = .bool false
  | _, _, _ => True
theorem FK6_below (n k c d : Nat) (a b : Addr) (bl : S43) (A1 A2 B1 B2 : Option Addr) (c1 c2 d1 d2 : Nat) (i : Nat) (w w1 : World) (v : Value) (h : FK6 n k c d a b bl A1 A2 B1 B2 c1 c2 d1 d2 i w v) (hb : Below w.heap.size w w1) : FK6 n k c d a b bl A1 A2 B1 B2 c1 c2 d1 d2 i w1 v := by
  match i with
  | 0 | 1 | 2 | 3 | 4 | 5 | 6 | 7 | 8 | 9 | 10 | 11 | 12 | 13 | 14 | 15 | 16 | 17 | 18 | 19 | 20 | 21 | 22 | 23 | 24 | 25 | 26 | 27 | 28 | 29 | 30 | 31 | 32 | 33 | 34 | 35 | 36 | 37 | 38 | 39 => exact h
  | (n + 40) => exact h
set_option maxHeartbeats 8000000 in
set_option maxRecDepth 100000 in
theorem same_blocksK (A B : Option Addr) (c d : Nat) (l : List S43) (w : World) (hA : k43.C w A l.length l) (hB : k43.C w B l.length l) (hs : SmallB' l) :
    Calls Try.prog 32 #[.slice A l.length c, .slice B l.length d] w fun e w' => e = .returned (.bool true) ∧ Below w.heap.size w w' := by
  have HA := Aside0.mk hA
  have HB := Aside0.mk hB
  have HS := Aside0.mk hs
  have hlen := hs.len
  clear hA hB hs
  go_enter Try.func32, Try.ntmps32
  go_wp2
  go_loopw [5, 6] (fun t _ wr => ∃ k : Nat, k ≤ l.length ∧ t = .int .i64 k ∧ Below w.heap.size w wr) (fun t _ _ => l.length - (intOf t).toNat)
  case atStart => exact ⟨0, Nat.zero_le _, rfl, Below.refl _ _⟩
  case round =>
    obtain ⟨k, hk, rfl, hb⟩ := hrel
    by_cases hlt : k < l.length
    · obtain ⟨a, A1, c1, A2, c2, rfl, x0, x1, x2, _, g1, _, g2⟩ := at_T43 (Kd.C_below HA.out hb) (k : Int) (by omega) (by omega)
      obtain ⟨b, B1, d1, B2, d2, rfl, y0, y1, y2, _, h1, _, h2⟩ := at_T43 (Kd.C_below HB.out hb) (k : Int) (by omega) (by omega)
      rw [Int.toNat_natCast] at x0 x1 x2 y0 y1 y2
      have hins := HS.out.ins _ (rd_mem43 hlt)
      have heach := HS.out.each _ (rd_mem43 hlt)
      generalize rd_T43 l (k : Int) = bl at *
      have GI := Aside0.mk (And.intro g1 h1)
      have GN := Aside0.mk (And.intro g2 h2)
      have HN := Aside0.mk hins
      have HEACH := Aside0.mk heach
      have HBB := Aside0.mk hb
      have XX : Aside0 (∀ w8, Below wr.heap.size wr w8 → w8.cell? (a.add (k * 3)) = some (.int .i64 bl.f0) ∧ w8.cell? (b.add (k * 3)) = some (.int .i64 bl.f0) ∧ w8.cell? ⟨(a.add (k * 3)).block, (a.add (k * 3)).off + 2, none⟩ = some (.slice A2 bl.f2.length c2) ∧ w8.cell? ⟨(b.add (k * 3)).block, (b.add (k * 3)).off + 2, none⟩ = some (.slice B2 bl.f2.length d2) ∧ w8.cell? ⟨(a.add (k * 3)).block, (a.add (k * 3)).off + 1, none⟩ = some (.slice A1 bl.f1.length c1) ∧ w8.cell? ⟨(b.add (k * 3)).block, (b.add (k * 3)).off + 1, none⟩ = some (.slice B1 bl.f1.length d1)) := ⟨fun w8 h => ⟨pw_cell_below h x0, pw_cell_below h y0, pw_cell_below h x2, pw_cell_below h y2, pw_cell_below h x1, pw_cell_below h y1⟩⟩
      clear x0 x1 x2 y0 y1 y2 g1 g2 h1 h2 hins heach hb
      go_wp2_with (fail)
      rename ∀ (a : Act) (w : World), _ → _ => hK
      refine RegInv.region_facts (by kernel_rfl) (by kernel_rfl) (fun a b => Below a.heap.size a b) (fun a b c h k => h.trans (k.mono h.size)) (below_drew1 (Below.refl _ _)) dK6 40 (by kernel_rfl) (by kernel_rfl) (by kernel_rfl) (FK6 l.length k c d a b bl A1 A2 B1 B2 c1 c2 d1 d2) (FK6_below l.length k c d a b bl A1 A2 B1 B2 c1 c2 d1 d2) ?hsK6 ?heK6
      case hsK6 =>
        clear hK
        intro i o aX w8 hi hM
        have hltI : i < 40 := (Array.getElem?_eq_some_iff.1 hi).1
        have hExt := hM.ext
        rcases i with _ | _ | _ | _ | _ | _ | _ | _ | _ | _ | _ | _ | _ | _ | _ | _ | _ | _ | _ | _ | _ | _ | _ | _ | _ | _ | _ | _ | _ | _ | _ | _ | _ | _ | _ | _ | _ | _ | _ | _ | i
        · cases hi
          have h0 := gdq _ _ _ (show aX.tmps.getD 0 undef = .slice (some a) l.length c from hM.off 0 (by kernel_rfl))
          refine RegInv.op_value (by rfl) rfl (v := .slice (some a) l.length c) (w' := w8) ?_ ⟨_, rfl, rfl, Below.refl _ _⟩
          unfold execOp
          go_simp
        · cases hi
          have h5 := gdq _ _ _ (show aX.tmps.getD 5 undef = .int .i64 (k : Int) from hM.off 5 (by kernel_rfl))
          refine RegInv.op_value (by rfl) rfl (v := .int .i64 (k : Int)) (w' := w8) ?_ ⟨_, rfl, rfl, Below.refl _ _⟩
          unfold execOp
          go_simp
        · cases hi
          have h18 := gdq _ _ _ (show aX.tmps.getD 18 undef = .slice (some a) l.length c from hM.at_ 0 (by decide) (by kernel_rfl))
          have h19 := gdq _ _ _ (show aX.tmps.getD 19 undef = .int .i64 (k : Int) from hM.at_ 1 (by decide) (by kernel_rfl))
          refine RegInv.op_value (by rfl) rfl (v := .pointer (some (a.add (k * 3)))) (w' := w8) ?_ ⟨_, rfl, rfl, Below.refl _ _⟩
          unfold execOp
          go_simp
        · cases hi
          have h20 := gdq _ _ _ (show aX.tmps.getD 20 undef = .pointer (some (a.add (k * 3))) from hM.at_ 2 (by decide) (by kernel_rfl))
          refine RegInv.op_value (by rfl) rfl (v := .pointer (some (a.add (k * 3)))) (w' := w8) ?_ ⟨_, rfl, rfl, Below.refl _ _⟩
          unfold execOp
          go_simp
        · cases hi
          have y := (XX.out w8 hExt).1
          have h21 := gdq _ _ _ (show aX.tmps.getD 21 undef = .pointer (some (a.add (k * 3))) from hM.at_ 3 (by decide) (by kernel_rfl))
          refine RegInv.op_value (by rfl) rfl (v := .int .i64 bl.f0) (w' := w8) ?_ ⟨_, rfl, rfl, Below.refl _ _⟩
          unfold execOp
          go_simp
        · cases hi
          have h1 := gdq _ _ _ (show aX.tmps.getD 1 undef = .slice (some b) l.length d from hM.off 1 (by kernel_rfl))
          refine RegInv.op_value (by rfl) rfl (v := .slice (some b) l.length d) (w' := w8) ?_ ⟨_, rfl, rfl, Below.refl _ _⟩
          unfold execOp
          go_simp
        · cases hi
          have h5 := gdq _ _ _ (show aX.tmps.getD 5 undef = .int .i64 (k : Int) from hM.off 5 (by kernel_rfl))
          refine RegInv.op_value (by rfl) rfl (v := .int .i64 (k : Int)) (w' := w8) ?_ ⟨_, rfl, rfl, Below.refl _ _⟩
          unfold execOp
          go_simp
        · cases hi
          have h23 := gdq _ _ _ (show aX.tmps.getD 23 undef = .slice (some b) l.length d from hM.at_ 5 (by decide) (by kernel_rfl))
          have h24 := gdq _ _ _ (show aX.tmps.getD 24 undef = .int .i64 (k : Int) from hM.at_ 6 (by decide) (by kernel_rfl))
          refine RegInv.op_value (by rfl) rfl (v := .pointer (some (b.add (k * 3)))) (w' := w8) ?_ ⟨_, rfl, rfl, Below.refl _ _⟩
          unfold execOp
          go_simp
        · cases hi
          have h25 := gdq _ _ _ (show aX.tmps.getD 25 undef = .pointer (some (b.add (k * 3))) from hM.at_ 7 (by decide) (by kernel_rfl))
          refine RegInv.op_value (by rfl) rfl (v := .pointer (some (b.add (k * 3)))) (w' := w8) ?_ ⟨_, rfl, rfl, Below.refl _ _⟩
          unfold execOp
          go_simp
        · cases hi
          have y := (XX.out w8 hExt).2.1
          have h26 := gdq _ _ _ (show aX.tmps.getD 26 undef = .pointer (some (b.add (k * 3))) from hM.at_ 8 (by decide) (by kernel_rfl))
          refine RegInv.op_value (by rfl) rfl (v := .int .i64 bl.f0) (w' := w8) ?_ ⟨_, rfl, rfl, Below.refl _ _⟩
          unfold execOp
          go_simp
        · cases hi
          have h22 := gdq _ _ _ (show aX.tmps.getD 22 undef = .int .i64 bl.f0 from hM.at_ 4 (by decide) (by kernel_rfl))
          have h27 := gdq _ _ _ (show aX.tmps.getD 27 undef = .int .i64 bl.f0 from hM.at_ 9 (by decide) (by kernel_rfl))
          refine RegInv.op_value (by rfl) rfl (v := .bool false) (w' := w8) ?_ ⟨_, rfl, rfl, Below.refl _ _⟩
          unfold execOp
          go_simp
        · cases hi
          have h28 := gdq _ _ _ (show aX.tmps.getD 28 undef = .bool false from hM.at_ 10 (by decide) (by kernel_rfl))
          refine RegInv.op_value (by rfl) rfl (v := .bool false) (w' := w8) ?_ ⟨_, rfl, rfl, Below.refl _ _⟩
          unfold execOp
          go_simp
        · cases hi
          have h0 := gdq _ _ _ (show aX.tmps.getD 0 undef = .slice (some a) l.length c from hM.off 0 (by kernel_rfl))
          have h29 := gdq _ _ _ (show aX.tmps.getD 29 undef = .bool false from hM.at_ 11 (by decide) (by kernel_rfl))
          have hg : aX.tmps.getD 29 undef = .bool false := hM.at_ 11 (by decide) (by kernel_rfl)
          refine RegInv.op_valueW (by rfl) (RegInv.wanted_of 29 rfl rfl hg) (v := .slice (some a) l.length c) (w' := w8) ?_ ⟨_, rfl, rfl, Below.refl _ _⟩
          unfold execOp
          go_simp
        · cases hi
          have h5 := gdq _ _ _ (show aX.tmps.getD 5 undef = .int .i64 (k : Int) from hM.off 5 (by kernel_rfl))
          have h29 := gdq _ _ _ (show aX.tmps.getD 29 undef = .bool false from hM.at_ 11 (by decide) (by kernel_rfl))
          have hg : aX.tmps.getD 29 undef = .bool false := hM.at_ 11 (by decide) (by kernel_rfl)
          refine RegInv.op_valueW (by rfl) (RegInv.wanted_of 29 rfl rfl hg) (v := .int .i64 (k : Int)) (w' := w8) ?_ ⟨_, rfl, rfl, Below.refl _ _⟩
          unfold execOp
          go_simp
        · cases hi
          have h30 := gdq _ _ _ (show aX.tmps.getD 30 undef = .slice (some a) l.length c from hM.at_ 12 (by decide) (by kernel_rfl))
          have h31 := gdq _ _ _ (show aX.tmps.getD 31 undef = .int .i64 (k : Int) from hM.at_ 13 (by decide) (by kernel_rfl))
          have h29 := gdq _ _ _ (show aX.tmps.getD 29 undef = .bool false from hM.at_ 11 (by decide) (by kernel_rfl))
          have hg : aX.tmps.getD 29 undef = .bool false := hM.at_ 11 (by decide) (by kernel_rfl)
          refine RegInv.op_valueW (by rfl) (RegInv.wanted_of 29 rfl rfl hg) (v := .pointer (some (a.add (k * 3)))) (w' := w8) ?_ ⟨_, rfl, rfl, Below.refl _ _⟩
          unfold execOp
          go_simp
        · cases hi
          have h32 := gdq _ _ _ (show aX.tmps.getD 32 undef = .pointer (some (a.add (k * 3))) from hM.at_ 14 (by decide) (by kernel_rfl))
          have h29 := gdq _ _ _ (show aX.tmps.getD 29 undef = .bool false from hM.at_ 11 (by decide) (by kernel_rfl))
          have hg : aX.tmps.getD 29 undef = .bool false := hM.at_ 11 (by decide) (by kernel_rfl)
          refine RegInv.op_valueW (by rfl) (RegInv.wanted_of 29 rfl rfl hg) (v := .pointer (some ⟨(a.add (k * 3)).block, (a.add (k * 3)).off + 2, none⟩)) (w' := w8) ?_ ⟨_, rfl, rfl, Below.refl _ _⟩
          unfold execOp
          go_simp
        · cases hi
          have y := (XX.out w8 hExt).2.2.1
          have h33 := gdq _ _ _ (show aX.tmps.getD 33 undef = .pointer (some ⟨(a.add (k * 3)).block, (a.add (k * 3)).off + 2, none⟩) from hM.at_ 15 (by decide) (by kernel_rfl))
          have h29 := gdq _ _ _ (show aX.tmps.getD 29 undef = .bool false from hM.at_ 11 (by decide) (by kernel_rfl))
          have hg : aX.tmps.getD 29 undef = .bool false := hM.at_ 11 (by decide) (by kernel_rfl)
          refine RegInv.op_valueW (by rfl) (RegInv.wanted_of 29 rfl rfl hg) (v := .slice A2 bl.f2.length c2) (w' := w8) ?_ ⟨_, rfl, rfl, Below.refl _ _⟩
          unfold execOp
          go_simp
        · cases hi
          have h34 := gdq _ _ _ (show aX.tmps.getD 34 undef = .slice A2 bl.f2.length c2 from hM.at_ 16 (by decide) (by kernel_rfl))
          have h29 := gdq _ _ _ (show aX.tmps.getD 29 undef = .bool false from hM.at_ 11 (by decide) (by kernel_rfl))
          have hg : aX.tmps.getD 29 undef = .bool false := hM.at_ 11 (by decide) (by kernel_rfl)
          refine RegInv.op_valueW (by rfl) (RegInv.wanted_of 29 rfl rfl hg) (v := .int .i64 (bl.f2.length : Int)) (w' := w8) ?_ ⟨_, rfl, rfl, Below.refl _ _⟩
          unfold execOp
          go_simp
        · cases hi
          have h1 := gdq _ _ _ (show aX.tmps.getD 1 undef = .slice (some b) l.length d from hM.off 1 (by kernel_rfl))
          have h29 := gdq _ _ _ (show aX.tmps.getD 29 undef = .bool false from hM.at_ 11 (by decide) (by kernel_rfl))
          have hg : aX.tmps.getD 29 undef = .bool false := hM.at_ 11 (by decide) (by kernel_rfl)
          refine RegInv.op_valueW (by rfl) (RegInv.wanted_of 29 rfl rfl hg) (v := .slice (some b) l.length d) (w' := w8) ?_ ⟨_, rfl, rfl, Below.refl _ _⟩
          unfold execOp
          go_simp
        · cases hi
          have h5 := gdq _ _ _ (show aX.tmps.getD 5 undef = .int .i64 (k : Int) from hM.off 5 (by kernel_rfl))
          have h29 := gdq _ _ _ (show aX.tmps.getD 29 undef = .bool false from hM.at_ 11 (by decide) (by kernel_rfl))
          have hg : aX.tmps.getD 29 undef = .bool false := hM.at_ 11 (by decide) (by kernel_rfl)
          refine RegInv.op_valueW (by rfl) (RegInv.wanted_of 29 rfl rfl hg) (v := .int .i64 (k : Int)) (w' := w8) ?_ ⟨_, rfl, rfl, Below.refl _ _⟩
          unfold execOp
          go_simp
        · cases hi
          have h36 := gdq _ _ _ (show aX.tmps.getD 36 undef = .slice (some b) l.length d from hM.at_ 18 (by decide) (by kernel_rfl))
          have h37 := gdq _ _ _ (show aX.tmps.getD 37 undef = .int .i64 (k : Int) from hM.at_ 19 (by decide) (by kernel_rfl))
          have h29 := gdq _ _ _ (show aX.tmps.getD 29 undef = .bool false from hM.at_ 11 (by decide) (by kernel_rfl))
          have hg : aX.tmps.getD 29 undef = .bool false := hM.at_ 11 (by decide) (by kernel_rfl)
          refine RegInv.op_valueW (by rfl) (RegInv.wanted_of 29 rfl rfl hg) (v := .pointer (some (b.add (k * 3)))) (w' := w8) ?_ ⟨_, rfl, rfl, Below.refl _ _⟩
          unfold execOp
          go_simp
        · cases hi
          have h38 := gdq _ _ _ (show aX.tmps.getD 38 undef = .pointer (some (b.add (k * 3))) from hM.at_ 20 (by decide) (by kernel_rfl))
          have h29 := gdq _ _ _ (show aX.tmps.getD 29 undef = .bool false from hM.at_ 11 (by decide) (by kernel_rfl))
          have hg : aX.tmps.getD 29 undef = .bool false := hM.at_ 11 (by decide) (by kernel_rfl)
          refine RegInv.op_valueW (by rfl) (RegInv.wanted_of 29 rfl rfl hg) (v := .pointer (some ⟨(b.add (k * 3)).block, (b.add (k * 3)).off + 2, none⟩)) (w' := w8) ?_ ⟨_, rfl, rfl, Below.refl _ _⟩
          unfold execOp
          go_simp
        · cases hi
          have y := (XX.out w8 hExt).2.2.2.1
          have h39 := gdq _ _ _ (show aX.tmps.getD 39 undef = .pointer (some ⟨(b.add (k * 3)).block, (b.add (k * 3)).off + 2, none⟩) from hM.at_ 21 (by decide) (by kernel_rfl))
          have h29 := gdq _ _ _ (show aX.tmps.getD 29 undef = .bool false from hM.at_ 11 (by decide) (by kernel_rfl))
          have hg : aX.tmps.getD 29 undef = .bool false := hM.at_ 11 (by decide) (by kernel_rfl)
          refine RegInv.op_valueW (by rfl) (RegInv.wanted_of 29 rfl rfl hg) (v := .slice B2 bl.f2.length d2) (w' := w8) ?_ ⟨_, rfl, rfl, Below.refl _ _⟩
          unfold execOp
          go_simp
        · cases hi
          have h40 := gdq _ _ _ (show aX.tmps.getD 40 undef = .slice B2 bl.f2.length d2 from hM.at_ 22 (by decide) (by kernel_rfl))
          have h29 := gdq _ _ _ (show aX.tmps.getD 29 undef = .bool false from hM.at_ 11 (by decide) (by kernel_rfl))
          have hg : aX.tmps.getD 29 undef = .bool false := hM.at_ 11 (by decide) (by kernel_rfl)
          refine RegInv.op_valueW (by rfl) (RegInv.wanted_of 29 rfl rfl hg) (v := .int .i64 (bl.f2.length : Int)) (w' := w8) ?_ ⟨_, rfl, rfl, Below.refl _ _⟩
          unfold execOp
          go_simp
        · cases hi
          have h35 := gdq _ _ _ (show aX.tmps.getD 35 undef = .int .i64 (bl.f2.length : Int) from hM.at_ 17 (by decide) (by kernel_rfl))
          have h41 := gdq _ _ _ (show aX.tmps.getD 41 undef = .int .i64 (bl.f2.length : Int) from hM.at_ 23 (by decide) (by kernel_rfl))
          have h29 := gdq _ _ _ (show aX.tmps.getD 29 undef = .bool false from hM.at_ 11 (by decide) (by kernel_rfl))
          have hg : aX.tmps.getD 29 undef = .bool false := hM.at_ 11 (by decide) (by kernel_rfl)
          refine RegInv.op_valueW (by rfl) (RegInv.wanted_of 29 rfl rfl hg) (v := .bool false) (w' := w8) ?_ ⟨_, rfl, rfl, Below.refl _ _⟩
          unfold execOp
          go_simp
        · cases hi
          have h29 := gdq _ _ _ (show aX.tmps.getD 29 undef = .bool false from hM.at_ 11 (by decide) (by kernel_rfl))
          have h42 := gdq _ _ _ (show aX.tmps.getD 42 undef = .bool false from hM.at_ 24 (by decide) (by kernel_rfl))
          refine RegInv.op_value (by rfl) rfl (v := .bool false) (w' := w8) ?_ ⟨_, rfl, rfl, Below.refl _ _⟩
          unfold execOp
          go_simp
        · cases hi
          have h43 := gdq _ _ _ (show aX.tmps.getD 43 undef = .bool false from hM.at_ 25 (by decide) (by kernel_rfl))
          refine RegInv.op_value (by rfl) rfl (v := .bool false) (w' := w8) ?_ ⟨_, rfl, rfl, Below.refl _ _⟩
          unfold execOp
          go_simp
        · cases hi
          have h0 := gdq _ _ _ (show aX.tmps.getD 0 undef = .slice (some a) l.length c from hM.off 0 (by kernel_rfl))
          have h44 := gdq _ _ _ (show aX.tmps.getD 44 undef = .bool false from hM.at_ 26 (by decide) (by kernel_rfl))
          have hg : aX.tmps.getD 44 undef = .bool false := hM.at_ 26 (by decide) (by kernel_rfl)
          refine RegInv.op_valueW (by rfl) (RegInv.wanted_of 44 rfl rfl hg) (v := .slice (some a) l.length c) (w' := w8) ?_ ⟨_, rfl, rfl, Below.refl _ _⟩
          unfold execOp
          go_simp
        · cases hi
          have h5 := gdq _ _ _ (show aX.tmps.getD 5 undef = .int .i64 (k : Int) from hM.off 5 (by kernel_rfl))
          have h44 := gdq _ _ _ (show aX.tmps.getD 44 undef = .bool false from hM.at_ 26 (by decide) (by kernel_rfl))
          have hg : aX.tmps.getD 44 undef = .bool false := hM.at_ 26 (by decide) (by kernel_rfl)
          refine RegInv.op_valueW (by rfl) (RegInv.wanted_of 44 rfl rfl hg) (v := .int .i64 (k : Int)) (w' := w8) ?_ ⟨_, rfl, rfl, Below.refl _ _⟩
          unfold execOp
          go_simp
        · cases hi
          have h45 := gdq _ _ _ (show aX.tmps.getD 45 undef = .slice (some a) l.length c from hM.at_ 27 (by decide) (by kernel_rfl))
          have h46 := gdq _ _ _ (show aX.tmps.getD 46 undef = .int .i64 (k : Int) from hM.at_ 28 (by decide) (by kernel_rfl))
          have h44 := gdq _ _ _ (show aX.tmps.getD 44 undef = .bool false from hM.at_ 26 (by decide) (by kernel_rfl))
          have hg : aX.tmps.getD 44 undef = .bool false := hM.at_ 26 (by decide) (by kernel_rfl)
          refine RegInv.op_valueW (by rfl) (RegInv.wanted_of 44 rfl rfl hg) (v := .pointer (some (a.add (k * 3)))) (w' := w8) ?_ ⟨_, rfl, rfl, Below.refl _ _⟩
          unfold execOp
          go_simp
        · cases hi
          have h47 := gdq _ _ _ (show aX.tmps.getD 47 undef = .pointer (some (a.add (k * 3))) from hM.at_ 29 (by decide) (by kernel_rfl))
          have h44 := gdq _ _ _ (show aX.tmps.getD 44 undef = .bool false from hM.at_ 26 (by decide) (by kernel_rfl))
          have hg : aX.tmps.getD 44 undef = .bool false := hM.at_ 26 (by decide) (by kernel_rfl)
          refine RegInv.op_valueW (by rfl) (RegInv.wanted_of 44 rfl rfl hg) (v := .pointer (some ⟨(a.add (k * 3)).block, (a.add (k * 3)).off + 1, none⟩)) (w' := w8) ?_ ⟨_, rfl, rfl, Below.refl _ _⟩
          unfold execOp
          go_simp
        · cases hi
          have y := (XX.out w8 hExt).2.2.2.2.1
          have h48 := gdq _ _ _ (show aX.tmps.getD 48 undef = .pointer (some ⟨(a.add (k * 3)).block, (a.add (k * 3)).off + 1, none⟩) from hM.at_ 30 (by decide) (by kernel_rfl))
          have h44 := gdq _ _ _ (show aX.tmps.getD 44 undef = .bool false from hM.at_ 26 (by decide) (by kernel_rfl))
          have hg : aX.tmps.getD 44 undef = .bool false := hM.at_ 26 (by decide) (by kernel_rfl)
          refine RegInv.op_valueW (by rfl) (RegInv.wanted_of 44 rfl rfl hg) (v := .slice A1 bl.f1.length c1) (w' := w8) ?_ ⟨_, rfl, rfl, Below.refl _ _⟩
          unfold execOp
          go_simp
        · cases hi
          have h1 := gdq _ _ _ (show aX.tmps.getD 1 undef = .slice (some b) l.length d from hM.off 1 (by kernel_rfl))
          have h44 := gdq _ _ _ (show aX.tmps.getD 44 undef = .bool false from hM.at_ 26 (by decide) (by kernel_rfl))
          have hg : aX.tmps.getD 44 undef = .bool false := hM.at_ 26 (by decide) (by kernel_rfl)
          refine RegInv.op_valueW (by rfl) (RegInv.wanted_of 44 rfl rfl hg) (v := .slice (some b) l.length d) (w' := w8) ?_ ⟨_, rfl, rfl, Below.refl _ _⟩
          unfold execOp
          go_simp
        · cases hi
          have h5 := gdq _ _ _ (show aX.tmps.getD 5 undef = .int .i64 (k : Int) from hM.off 5 (by kernel_rfl))
          have h44 := gdq _ _ _ (show aX.tmps.getD 44 undef = .bool false from hM.at_ 26 (by decide) (by kernel_rfl))
          have hg : aX.tmps.getD 44 undef = .bool false := hM.at_ 26 (by decide) (by kernel_rfl)
          refine RegInv.op_valueW (by rfl) (RegInv.wanted_of 44 rfl rfl hg) (v := .int .i64 (k : Int)) (w' := w8) ?_ ⟨_, rfl, rfl, Below.refl _ _⟩
          unfold execOp
          go_simp
        · cases hi
          have h50 := gdq _ _ _ (show aX.tmps.getD 50 undef = .slice (some b) l.length d from hM.at_ 32 (by decide) (by kernel_rfl))
          have h51 := gdq _ _ _ (show aX.tmps.getD 51 undef = .int .i64 (k : Int) from hM.at_ 33 (by decide) (by kernel_rfl))
          have h44 := gdq _ _ _ (show aX.tmps.getD 44 undef = .bool false from hM.at_ 26 (by decide) (by kernel_rfl))
          have hg : aX.tmps.getD 44 undef = .bool false := hM.at_ 26 (by decide) (by kernel_rfl)
          refine RegInv.op_valueW (by rfl) (RegInv.wanted_of 44 rfl rfl hg) (v := .pointer (some (b.add (k * 3)))) (w' := w8) ?_ ⟨_, rfl, rfl, Below.refl _ _⟩
          unfold execOp
          go_simp
        · cases hi
          have h52 := gdq _ _ _ (show aX.tmps.getD 52 undef = .pointer (some (b.add (k * 3))) from hM.at_ 34 (by decide) (by kernel_rfl))
          have h44 := gdq _ _ _ (show aX.tmps.getD 44 undef = .bool false from hM.at_ 26 (by decide) (by kernel_rfl))
          have hg : aX.tmps.getD 44 undef = .bool false := hM.at_ 26 (by decide) (by kernel_rfl)
          refine RegInv.op_valueW (by rfl) (RegInv.wanted_of 44 rfl rfl hg) (v := .pointer (some ⟨(b.add (k * 3)).block, (b.add (k * 3)).off + 1, none⟩)) (w' := w8) ?_ ⟨_, rfl, rfl, Below.refl _ _⟩
          unfold execOp
          go_simp
        · cases hi
          have y := (XX.out w8 hExt).2.2.2.2.2
          have h53 := gdq _ _ _ (show aX.tmps.getD 53 undef = .pointer (some ⟨(b.add (k * 3)).block, (b.add (k * 3)).off + 1, none⟩) from hM.at_ 35 (by decide) (by kernel_rfl))
          have h44 := gdq _ _ _ (show aX.tmps.getD 44 undef = .bool false from hM.at_ 26 (by decide) (by kernel_rfl))
          have hg : aX.tmps.getD 44 undef = .bool false := hM.at_ 26 (by decide) (by kernel_rfl)
          refine RegInv.op_valueW (by rfl) (RegInv.wanted_of 44 rfl rfl hg) (v := .slice B1 bl.f1.length d1) (w' := w8) ?_ ⟨_, rfl, rfl, Below.refl _ _⟩
          unfold execOp
          go_simp
        · cases hi
          have h49 := gdq _ _ _ (show aX.tmps.getD 49 undef = .slice A1 bl.f1.length c1 from hM.at_ 31 (by decide) (by kernel_rfl))
          have h54 := gdq _ _ _ (show aX.tmps.getD 54 undef = .slice B1 bl.f1.length d1 from hM.at_ 36 (by decide) (by kernel_rfl))
          have h44 := gdq _ _ _ (show aX.tmps.getD 44 undef = .bool false from hM.at_ 26 (by decide) (by kernel_rfl))
          have hg : aX.tmps.getD 44 undef = .bool false := hM.at_ 26 (by decide) (by kernel_rfl)
          refine RegInv.op_callW (by rfl) (RegInv.wanted_of 44 rfl rfl hg) Try.func48 (by kernel_rfl) rfl rfl #[.slice A1 bl.f1.length c1, .slice B1 bl.f1.length d1] (by simp [Act.eval, h49, h54, h44]) ?_
          refine (same_insK A1 B1 c1 d1 bl.f1 w8 (Kd.C_below GI.out.1 hExt) (Kd.C_below GI.out.2 hExt) HN.out.1 HEACH.out).mono ?_
          rintro e w9 ⟨rfl, b9⟩
          exact ⟨_, rfl, _, rfl, rfl, b9⟩
        · cases hi
          have h55 := gdq _ _ _ (show aX.tmps.getD 55 undef = .bool true from hM.at_ 37 (by decide) (by kernel_rfl))
          have h44 := gdq _ _ _ (show aX.tmps.getD 44 undef = .bool false from hM.at_ 26 (by decide) (by kernel_rfl))
          have hg : aX.tmps.getD 44 undef = .bool false := hM.at_ 26 (by decide) (by kernel_rfl)
          refine RegInv.op_valueW (by rfl) (RegInv.wanted_of 44 rfl rfl hg) (v := .bool false) (w' := w8) ?_ ⟨_, rfl, rfl, Below.refl _ _⟩
          unfold execOp
          go_simp
        · cases hi
          have h44 := gdq _ _ _ (show aX.tmps.getD 44 undef = .bool false from hM.at_ 26 (by decide) (by kernel_rfl))
          have h56 := gdq _ _ _ (show aX.tmps.getD 56 undef = .bool false from hM.at_ 38 (by decide) (by kernel_rfl))
          refine RegInv.op_value (by rfl) rfl (v := .bool false) (w' := w8) ?_ ⟨_, rfl, rfl, Below.refl _ _⟩
          unfold execOp
          go_simp
        · exact absurd hltI (by omega)
      case heK6 =>
        intro vs w8 hExt hvs
        have v0 : vs 0 = .slice (some a) l.length c := hvs 0 (by decide)
        have v1 : vs 1 = .int .i64 (k : Int) := hvs 1 (by decide)
        have v2 : vs 2 = .pointer (some (a.add (k * 3))) := hvs 2 (by decide)
        have v3 : vs 3 = .pointer (some (a.add (k * 3))) := hvs 3 (by decide)
        have v4 : vs 4 = .int .i64 bl.f0 := hvs 4 (by decide)
        have v5 : vs 5 = .slice (some b) l.length d := hvs 5 (by decide)
        have v6 : vs 6 = .int .i64 (k : Int) := hvs 6 (by decide)
        have v7 : vs 7 = .pointer (some (b.add (k * 3))) := hvs 7 (by decide)
        have v8 : vs 8 = .pointer (some (b.add (k * 3))) := hvs 8 (by decide)
        have v9 : vs 9 = .int .i64 bl.f0 := hvs 9 (by decide)
        have v10 : vs 10 = .bool false := hvs 10 (by decide)
        have v11 : vs 11 = .bool false := hvs 11 (by decide)
        have v12 : vs 12 = .slice (some a) l.length c := hvs 12 (by decide)
        have v13 : vs 13 = .int .i64 (k : Int) := hvs 13 (by decide)
        have v14 : vs 14 = .pointer (some (a.add (k * 3))) := hvs 14 (by decide)
        have v15 : vs 15 = .pointer (some ⟨(a.add (k * 3)).block, (a.add (k * 3)).off + 2, none⟩) := hvs 15 (by decide)
        have v16 : vs 16 = .slice A2 bl.f2.length c2 := hvs 16 (by decide)
        have v17 : vs 17 = .int .i64 (bl.f2.length : Int) := hvs 17 (by decide)
        have v18 : vs 18 = .slice (some b) l.length d := hvs 18 (by decide)
        have v19 : vs 19 = .int .i64 (k : Int) := hvs 19 (by decide)
        have v20 : vs 20 = .pointer (some (b.add (k * 3))) := hvs 20 (by decide)
        have v21 : vs 21 = .pointer (some ⟨(b.add (k * 3)).block, (b.add (k * 3)).off + 2, none⟩) := hvs 21 (by decide)
        have v22 : vs 22 = .slice B2 bl.f2.length d2 := hvs 22 (by decide)
        have v23 : vs 23 = .int .i64 (bl.f2.length : Int) := hvs 23 (by decide)
        have v24 : vs 24 = .bool false := hvs 24 (by decide)
        have v25 : vs 25 = .bool false := hvs 25 (by decide)
        have v26 : vs 26 = .bool false := hvs 26 (by decide)
        have v27 : vs 27 = .slice (some a) l.length c := hvs 27 (by decide)
        have v28 : vs 28 = .int .i64 (k : Int) := hvs 28 (by decide)
        have v29 : vs 29 = .pointer (some (a.add (k * 3))) := hvs 29 (by decide)
        have v30 : vs 30 = .pointer (some ⟨(a.add (k * 3)).block, (a.add (k * 3)).off + 1, none⟩) := hvs 30 (by decide)
        have v31 : vs 31 = .slice A1 bl.f1.length c1 := hvs 31 (by decide)
        have v32 : vs 32 = .slice (some b) l.length d := hvs 32 (by decide)
        have v33 : vs 33 = .int .i64 (k : Int) := hvs 33 (by decide)
        have v34 : vs 34 = .pointer (some (b.add (k * 3))) := hvs 34 (by decide)
        have v35 : vs 35 = .pointer (some ⟨(b.add (k * 3)).block, (b.add (k * 3)).off + 1, none⟩) := hvs 35 (by decide)
        have v36 : vs 36 = .slice B1 bl.f1.length d1 := hvs 36 (by decide)
        have v37 : vs 37 = .bool true := hvs 37 (by decide)
        have v38 : vs 38 = .bool false := hvs 38 (by decide)
        have v39 : vs 39 = .bool false := hvs 39 (by decide)
        simp only [RegInv.puts, dK6, Act.put, List.range, List.range.loop, List.setIfInBounds_toArray, List.set_cons_zero, List.set_cons_succ, v0, v1, v2, v3, v4, v5, v6, v7, v8, v9, v10, v11, v12, v13, v14, v15, v16, v17, v18, v19, v20, v21, v22, v23, v24, v25, v26, v27, v28, v29, v30, v31, v32, v33, v34, v35, v36, v37, v38, v39]
        clear hvs v0 v1 v2 v3 v4 v5 v6 v7 v8 v9 v10 v11 v12 v13 v14 v15 v16 v17 v18 v19 v20 v21 v22 v23 v24 v25 v26 v27 v28 v29 v30 v31 v32 v33 v34 v35 v36 v37 v38 v39
        have HB8 := Aside0.mk hExt
        refine hK _ _ ?_
        clear hK hExt
        have hle := HN.out.2
        have x2 := (XX.out w8 HB8.out).2.2.1
        go_wp2_with (fail)
        clear x2
        go_loopw [6] (fun t wr2 => ∃ j : Nat, j ≤ bl.f2.length ∧ t = .int .i64 j ∧ Below wr.heap.size wr wr2) (fun t _ => bl.f2.length - (intOf t).toNat)
        case atStart => exact ⟨0, Nat.zero_le _, rfl, HB8.out⟩
        case round =>
          obtain ⟨j, hj, rfl, hb2⟩ := hrel
          by_cases hltj : j < bl.f2.length
          · obtain ⟨e, rfl, q0⟩ := Kd.at_int (Kd.C_below GN.out.1 hb2) (j : Int) (by omega) (by omega)
            obtain ⟨f, rfl, q1⟩ := Kd.at_int (Kd.C_below GN.out.2 hb2) (j : Int) (by omega) (by omega)
            rw [Int.toNat_natCast] at q0 q1
            obtain ⟨_, _, x2, y2, _, _⟩ := XX.out _ hb2
            have HB9 := Aside0.mk hb2
            clear hb2
            have hE : ((rd bl.f2 (j : Int)) != (rd bl.f2 (j : Int))) = false := by simp
            go_wp2
            go_quiet (fail)
            go_wp2
            go_roundw
            case rel => exact ⟨j + 1, by omega, by go_num, wB HB9.out (pw_below_drewN (Below.refl _ _) _)⟩
            case measure => simp [intOf]; omega
          · have hje : j = bl.f2.length := by omega
            subst hje
            obtain ⟨_, _, x2, y2, _, _⟩ := XX.out _ hb2
            have HB9 := Aside0.mk hb2
            clear hb2
            go_wp2
            go_roundw
            case rel => exact ⟨k + 1, by omega, by go_num, wB HBB.out HB9.out⟩
            case measure => simp [intOf]; omega
    · go_wp2
      go_ret
      exact ⟨rfl, hb⟩
end Go.Proofs.Ytjekpkpmoanadaa.PCop
/- Blocks that read the same are found the same. -/
namespace Go.Proofs.Ytjekpkpmoanadaa.Hd
open Go.RowKit Go.Proofs.Ytjekpkpmoanadaa.PCop Go.Proofs.YtjekpkpmoanadaaW.PrintWords
set_option linter.unusedVariables false
theorem same_blocks (A B : Option Addr) (c d : Nat) (l : List S43) (w : World) (hA : k43.C w A l.length l) (hc : l.length ≤ c) (hB : k43.C w B l.length l) (hd : l.length ≤ d) (hl : l.length ≤ 1048576) (hs : ∀ b ∈ l, SmallB b) :
    Calls Try.prog 32 #[.slice A l.length c, .slice B l.length d] w fun e w' => e = .returned (.bool true) ∧ Below w.heap.size w w' :=
  same_blocksK A B c d l w hA hB ⟨by omega, fun b hb => ⟨by have := (hs b hb).ins; omega, by have := (hs b hb).next; omega⟩, fun b hb x hx => ⟨by have := (hs b hb).args x hx; omega, by have := ((hs b hb).exit x hx).len; omega, fun s h => by have := ((hs b hb).exit x hx).each s h; omega⟩⟩
end Go.Proofs.Ytjekpkpmoanadaa.Hd
/- Kept: code that was handed out by HandCode is found as9 it was. For every world. -/
namespace Go.Proofs.Ytjekpkpmoanadaa.Hd
open Go.RowKit Go.Proofs.Ytjekpkpmoanadaa.PCop Go.Proofs.Ytjekpkpmoanadaa.Lit Go.Proofs.Ytjekpkpmoanadaa.OwnCells Go.Proofs.YtjekpkpmoanadaaW.PrintWords Go.Proofs.YtjekpkpmoanadaaW.PrintLast Go.Proofs.YtjekpkpmoanadaaW.PrintMore
set_option linter.unusedVariables false
set_option linter.unusedSimpArgs false
def dKT : Nat → Option Tmp
  | 0 => some 5
  | 1 => some 6
  | 2 => some 7
  | 3 => some 8
  | 4 => some 9
  | 5 => some 10
  | 6 => some 11
  | 7 => some 12
  | 8 => some 13
  | 9 => some 14
  | 10 => some 15
  | 11 => some 16
  | 12 => some 17
  | 13 => some 18
  | 14 => some 19
  | 15 => some 4
  | _ => none
def FKT (g g3 : Nat) (PB AB : Option Addr) (n nf dB cB : Nat) : Nat → World → Value → Prop
  | 0, _, v => v = .pointer (some ⟨g, 0, none⟩)
  | 1, _, v => v = .bool true
  | 2, _, v => v = .bool true
  | 3, _, v => v = .pointer (some ⟨g, 0, none⟩)
  | 4, _, v => v = .pointer (some ⟨g, 0, none⟩)
  | 5, _, v => v = .pointer (some ⟨g, 7, none⟩)
  | 6, _, v => v = .slice PB nf dB
  | 7, _, v => v = .pointer (some ⟨g3, 2, none⟩)
  | 8, _, v => v = .slice AB n cB
  | 9, _, v => v = .int .i64 (n : Int)
  | 10, _, v => v = .slice PB n dB
  | 11, _, v => v = .pointer (some ⟨g3, 2, none⟩)
  | 12, _, v => v = .slice AB n cB
  | 13, _, v => v = .bool true
  | 14, _, v => v = .bool true
  | 15, _, v => v = .bool true
  | _, _, _ => True
theorem FKT_below (g g3 : Nat) (PB AB : Option Addr) (n nf dB cB : Nat) (i : Nat) (w w1 : World) (v : Value) (h : FKT g g3  PB AB  n nf dB cB  i w v) (hb : Below w.heap.size w w1) : FKT g g3  PB AB  n nf dB cB  i w1 v := by
  match i with
  | 0 | 1 | 2 | 3 | 4 | 5 | 6 | 7 | 8 | 9 | 10 | 11 | 12 | 13 | 14 | 15 => exact h
  | (n + 16) => exact h
set_option maxHeartbeats 16000000 in
set_option maxRecDepth 100000 in
theorem kept_calls (b g : Nat) (w : World) (fn regs f' r' : Int) (PB AB : Option Addr) (dB cB : Nat) (vO vS vN vI : Value) (O : List (List S49)) (S : List (List S65)) (NX : List (List Int)) (I : List (List S47)) (l : List S43) (hM : Made b g w fn regs PB dB vO vS vN vI O S NX I l) (hA : k43.C w AB l.length l) (hc : l.length ≤ cB) (hs : SmallC l) :
    Calls Try.prog 13 #[.pointer (some ⟨g, 0, none⟩), .agg #[.int .i64 f', .int .i64 r', .slice AB l.length cB]] w fun e w' => e = .returned (.bool true) ∧ Below w.heap.size w w' := by
  have HM := Aside0.mk hM
  have HAB := Aside0.mk hA
  have HCB := Aside0.mk hc
  have HS := Aside0.mk hs
  obtain ⟨i25, hi25, _⟩ := Option.map_eq_some_iff.1 inf43
  have hge := (Kd.R_reads' hM.rb).2.1
  rw [full_len] at hge
  have hcut := cut_cap (P := Try.prog) 22 43 .i64 Try.underlying22 hi25 PB (full mkB l).length dB (l.length : Int) (by omega) (by omega)
  rw [Int.toNat_natCast] at hcut
  have HCUT := Aside0.mk hcut
  have HLE := Aside0.mk (show l.length ≤ dB by omega)
  have hcc : k43.C w PB l.length l := by
    have := Kd.C_take (Kd.R_reads' hM.rb).2.2 (m := l.length) (by rw [full_len]; omega)
    rwa [full_take] at this
  have HCC := Aside0.mk hcc
  clear hM hA hc hs hi25 hge hcut hcc
  go_enter Try.func13, Try.ntmps13
  go_upto_region 1 with (fail)
  have hb := bodies w (.cells #[.int .i64 f', .int .i64 r', .slice AB l.length cB] 24)
  have K3 := blk_new w (.cells #[.int .i64 f', .int .i64 r', .slice AB l.length cB] 24)
  replace HM := Aside0.mk (HM.out.below hb)
  replace HAB := Aside0.mk (Kd.C_below HAB.out hb)
  replace HCC := Aside0.mk (Kd.C_below HCC.out hb)
  have HB := Aside0.mk hb
  clear hb
  generalize w.alloc (.cells #[.int .i64 f', .int .i64 r', .slice AB l.length cB] 24) = w1 at *
  obtain ⟨g3, hg3⟩ : ∃ q, q = w.heap.size := ⟨_, rfl⟩
  rw [← hg3] at K3 ⊢
  clear hg3
  have HK3 := Aside0.mk K3
  clear K3
  rename_i hK
  refine RegInv.region_facts (by kernel_rfl) (by kernel_rfl) (fun a b => Below a.heap.size a b) (fun a b c h k => wB h k) (below_drew1 (Below.refl _ _)) dKT 16 (by kernel_rfl) (by kernel_rfl) (by kernel_rfl) (FKT g g3 PB AB l.length (full mkB l).length dB cB) (FKT_below g g3 PB AB l.length (full mkB l).length dB cB) ?hsKT ?heKT
  case hsKT =>
    clear hK
    intro i o a w8 hi hM
    have hlt : i < 16 := (Array.getElem?_eq_some_iff.1 hi).1
    rcases i with _ | _ | _ | _ | _ | _ | _ | _ | _ | _ | _ | _ | _ | _ | _ | _ | i
    · cases hi
      have h0 := gdq _ _ _ (show a.tmps.getD 0 undef = .pointer (some ⟨g, 0, none⟩) from hM.off 0 (by kernel_rfl))
      refine RegInv.op_value (by rfl) rfl (v := .pointer (some ⟨g, 0, none⟩)) (w' := w8) ?_ ⟨_, rfl, rfl, Below.refl _ _⟩
      unfold execOp
      go_simp
    · cases hi
      have h0 := gdq _ _ _ (show a.tmps.getD 5 undef = .pointer (some ⟨g, 0, none⟩) from hM.at_ 0 (by decide) (by kernel_rfl))
      refine RegInv.op_call (by rfl) rfl Try.func31 (by kernel_rfl) rfl rfl #[.pointer (some ⟨g, 0, none⟩)] (by simp [Act.eval, h0]) ?_
      refine (marked_calls b g w8 fn regs PB dB vO vS vN vI O S NX I l (HM.out.below hM.ext) HS.out.len).mono ?_
      rintro e w9 ⟨rfl, b⟩
      exact ⟨_, rfl, _, rfl, rfl, b⟩
    · cases hi
      have h0 := gdq _ _ _ (show a.tmps.getD 6 undef = .bool true from hM.at_ 1 (by decide) (by kernel_rfl))
      refine RegInv.op_value (by rfl) rfl (v := .bool true) (w' := w8) ?_ ⟨_, rfl, rfl, Below.refl _ _⟩
      unfold execOp
      go_simp
    · cases hi
      have hg : a.tmps.getD 7 undef = .bool true := hM.at_ 2 (by decide) (by kernel_rfl)
      have h0 := gdq _ _ _ (show a.tmps.getD 0 undef = .pointer (some ⟨g, 0, none⟩) from hM.off 0 (by kernel_rfl))
      refine RegInv.op_valueW (by rfl) (RegInv.wanted_of 7 rfl rfl hg) (v := .pointer (some ⟨g, 0, none⟩)) (w' := w8) ?_ ⟨_, rfl, rfl, Below.refl _ _⟩
      unfold execOp
      go_simp
    · cases hi
      have hg : a.tmps.getD 7 undef = .bool true := hM.at_ 2 (by decide) (by kernel_rfl)
      have h0 := gdq _ _ _ (show a.tmps.getD 8 undef = .pointer (some ⟨g, 0, none⟩) from hM.at_ 3 (by decide) (by kernel_rfl))
      refine RegInv.op_valueW (by rfl) (RegInv.wanted_of 7 rfl rfl hg) (v := .pointer (some ⟨g, 0, none⟩)) (w' := w8) ?_ ⟨_, rfl, rfl, Below.refl _ _⟩
      unfold execOp
      go_simp
    · cases hi
      have hg : a.tmps.getD 7 undef = .bool true := hM.at_ 2 (by decide) (by kernel_rfl)
      have h0 := gdq _ _ _ (show a.tmps.getD 9 undef = .pointer (some ⟨g, 0, none⟩) from hM.at_ 4 (by decide) (by kernel_rfl))
      refine RegInv.op_valueW (by rfl) (RegInv.wanted_of 7 rfl rfl hg) (v := .pointer (some ⟨g, 7, none⟩)) (w' := w8) ?_ ⟨_, rfl, rfl, Below.refl _ _⟩
      unfold execOp
      go_simp
    · cases hi
      have hg : a.tmps.getD 7 undef = .bool true := hM.at_ 2 (by decide) (by kernel_rfl)
      have h0 := gdq _ _ _ (show a.tmps.getD 10 undef = .pointer (some ⟨g, 7, none⟩) from hM.at_ 5 (by decide) (by kernel_rfl))
      have y : w8.cell? ⟨g, 7, none⟩ = some (.slice PB (full mkB l).length dB) := blk_cell (HM.out.below hM.ext).blk 7
      refine RegInv.op_valueW (by rfl) (RegInv.wanted_of 7 rfl rfl hg) (v := .slice PB (full mkB l).length dB) (w' := w8) ?_ ⟨_, rfl, rfl, Below.refl _ _⟩
      unfold execOp
      go_simp
    · cases hi
      have hg : a.tmps.getD 7 undef = .bool true := hM.at_ 2 (by decide) (by kernel_rfl)
      have h0 := gdq _ _ _ (show a.tmps.getD 3 undef = .pointer (some ⟨g3, 0, none⟩) from hM.off 3 (by kernel_rfl))
      refine RegInv.op_valueW (by rfl) (RegInv.wanted_of 7 rfl rfl hg) (v := .pointer (some ⟨g3, 2, none⟩)) (w' := w8) ?_ ⟨_, rfl, rfl, Below.refl _ _⟩
      unfold execOp
      go_simp
    · cases hi
      have hg : a.tmps.getD 7 undef = .bool true := hM.at_ 2 (by decide) (by kernel_rfl)
      have h0 := gdq _ _ _ (show a.tmps.getD 12 undef = .pointer (some ⟨g3, 2, none⟩) from hM.at_ 7 (by decide) (by kernel_rfl))
      have y : w8.cell? ⟨g3, 2, none⟩ = some (.slice AB l.length cB) := blk_cell (blk_below HK3.out hM.ext) 2
      refine RegInv.op_valueW (by rfl) (RegInv.wanted_of 7 rfl rfl hg) (v := .slice AB l.length cB) (w' := w8) ?_ ⟨_, rfl, rfl, Below.refl _ _⟩
      unfold execOp
      go_simp
    · cases hi
      have hg : a.tmps.getD 7 undef = .bool true := hM.at_ 2 (by decide) (by kernel_rfl)
      have h0 := gdq _ _ _ (show a.tmps.getD 13 undef = .slice AB l.length cB from hM.at_ 8 (by decide) (by kernel_rfl))
      refine RegInv.op_valueW (by rfl) (RegInv.wanted_of 7 rfl rfl hg) (v := .int .i64 (l.length : Int)) (w' := w8) ?_ ⟨_, rfl, rfl, Below.refl _ _⟩
      unfold execOp
      go_simp
    · cases hi
      have hg : a.tmps.getD 7 undef = .bool true := hM.at_ 2 (by decide) (by kernel_rfl)
      have h0 := gdq _ _ _ (show a.tmps.getD 11 undef = .slice PB (full mkB l).length dB from hM.at_ 6 (by decide) (by kernel_rfl))
      have h1 := gdq _ _ _ (show a.tmps.getD 14 undef = .int .i64 (l.length : Int) from hM.at_ 9 (by decide) (by kernel_rfl))
      have hcB := HCUT.out
      refine RegInv.op_valueW (by rfl) (RegInv.wanted_of 7 rfl rfl hg) (v := .slice PB l.length dB) (w' := w8) ?_ ⟨_, rfl, rfl, Below.refl _ _⟩
      unfold execOp
      go_simp
    · cases hi
      have hg : a.tmps.getD 7 undef = .bool true := hM.at_ 2 (by decide) (by kernel_rfl)
      have h0 := gdq _ _ _ (show a.tmps.getD 3 undef = .pointer (some ⟨g3, 0, none⟩) from hM.off 3 (by kernel_rfl))
      refine RegInv.op_valueW (by rfl) (RegInv.wanted_of 7 rfl rfl hg) (v := .pointer (some ⟨g3, 2, none⟩)) (w' := w8) ?_ ⟨_, rfl, rfl, Below.refl _ _⟩
      unfold execOp
      go_simp
    · cases hi
      have hg : a.tmps.getD 7 undef = .bool true := hM.at_ 2 (by decide) (by kernel_rfl)
      have h0 := gdq _ _ _ (show a.tmps.getD 16 undef = .pointer (some ⟨g3, 2, none⟩) from hM.at_ 11 (by decide) (by kernel_rfl))
      have y : w8.cell? ⟨g3, 2, none⟩ = some (.slice AB l.length cB) := blk_cell (blk_below HK3.out hM.ext) 2
      refine RegInv.op_valueW (by rfl) (RegInv.wanted_of 7 rfl rfl hg) (v := .slice AB l.length cB) (w' := w8) ?_ ⟨_, rfl, rfl, Below.refl _ _⟩
      unfold execOp
      go_simp
    · cases hi
      have hg : a.tmps.getD 7 undef = .bool true := hM.at_ 2 (by decide) (by kernel_rfl)
      have h0 := gdq _ _ _ (show a.tmps.getD 15 undef = .slice PB l.length dB from hM.at_ 10 (by decide) (by kernel_rfl))
      have h1 := gdq _ _ _ (show a.tmps.getD 17 undef = .slice AB l.length cB from hM.at_ 12 (by decide) (by kernel_rfl))
      refine RegInv.op_callW (by rfl) (RegInv.wanted_of 7 rfl rfl hg) Try.func32 (by kernel_rfl) rfl rfl #[.slice PB l.length dB, .slice AB l.length cB] (by simp [Act.eval, h0, h1]) ?_
      refine (same_blocks PB AB dB cB l w8 (Kd.C_below HCC.out hM.ext) HLE.out (Kd.C_below HAB.out hM.ext) HCB.out HS.out.len HS.out.each).mono ?_
      rintro e w9 ⟨rfl, b⟩
      exact ⟨_, rfl, _, rfl, rfl, b⟩
    · cases hi
      have h0 := gdq _ _ _ (show a.tmps.getD 7 undef = .bool true from hM.at_ 2 (by decide) (by kernel_rfl))
      have h1 := gdq _ _ _ (show a.tmps.getD 18 undef = .bool true from hM.at_ 13 (by decide) (by kernel_rfl))
      refine RegInv.op_value (by rfl) rfl (v := .bool true) (w' := w8) ?_ ⟨_, rfl, rfl, Below.refl _ _⟩
      unfold execOp
      go_simp
    · cases hi
      have h0 := gdq _ _ _ (show a.tmps.getD 19 undef = .bool true from hM.at_ 14 (by decide) (by kernel_rfl))
      refine RegInv.op_value (by rfl) rfl (v := .bool true) (w' := w8) ?_ ⟨_, rfl, rfl, Below.refl _ _⟩
      unfold execOp
      go_simp
    · exact absurd hlt (by omega)
  intro vs w9 bF hF
  have eL : vs 15 = .bool true := hF 15 (by omega)
  clear hF
  simp only [RegInv.puts, dKT, Act.put, List.range, List.range.loop, List.setIfInBounds_toArray, List.set_cons_zero, List.set_cons_succ]
  rw [eL]
  clear eL
  generalize vs 0 = t0
  generalize vs 1 = t1
  generalize vs 2 = t2
  generalize vs 3 = t3
  generalize vs 4 = t4
  generalize vs 5 = t5
  generalize vs 6 = t6
  generalize vs 7 = t7
  generalize vs 8 = t8
  generalize vs 9 = t9
  generalize vs 10 = t10
  generalize vs 11 = t11
  generalize vs 12 = t12
  generalize vs 13 = t13
  generalize vs 14 = t14
  replace HB := Aside0.mk (wB HB.out bF)
  clear bF
  refine hK _ _ ?_
  clear hK
  go_wp2
  go_ret
  exact ⟨rfl, HB.out⟩
end Go.Proofs.Ytjekpkpmoanadaa.Hd
