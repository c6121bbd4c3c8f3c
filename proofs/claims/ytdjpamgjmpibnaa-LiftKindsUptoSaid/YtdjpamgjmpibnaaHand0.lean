/- HandCode: lists with marks behind them; what HandCode carries. For every world. -/
import Derived.Test.YtdjpamgjmpibnaaPHcx2
import Derived.Test.YtdjpamgjmpibnaaRegLast2
import Derived.Test.YtdjpamgjmpibnaaLit
import Derived.Test.YtdjpamgjmpibnaaOwnCells
namespace Go.Proofs.Ytdjpamgjmpibnaa.PHc
open Go.RowKit Go.Proofs.Ytdjpamgjmpibnaa.Lit Go.Proofs.Ytdjpamgjmpibnaa.OwnCells Go.Proofs.YtdjpamgjmpibnaaW.PrintWords Go.Proofs.YtdjpamgjmpibnaaW.PrintLast Go.Proofs.YtdjpamgjmpibnaaW.PrintMore
set_option linter.unusedVariables false
set_option linter.unusedSimpArgs false
def mkO (i : Nat) : S70 := ⟨-7, (i : Int)⟩
def mkS (i : Nat) : S72 := ⟨-7, (i : Int), []⟩
def mkN (i : Nat) : Int := -7 - (i : Int)
def mkI (i : Nat) : S52 := ⟨-7, 0, 0, [], 0, (i : Int), 0, []⟩
def mkB (i : Nat) : S25 := ⟨-7 - (i : Int), [], []⟩
def full {α : Type} (m : Nat → α) (l : List α) : List α := l ++ (List.range' 0 16).map m
theorem full_len {α : Type} (m : Nat → α) (l : List α) : (full m l).length = l.length + 16 := by simp [full]
theorem full_take {α : Type} (m : Nat → α) (l : List α) : (full m l).take l.length = l := by unfold full; rw [List.take_left']; rfl
theorem range_cons (p n : Nat) : List.range' p (n + 1) = p :: List.range' (p + 1) n := rfl
theorem range_snoc (n : Nat) : List.range' 0 (n + 1) = List.range' 0 n ++ [n] := by rw [List.range'_concat]; simp
theorem full_snoc {α : Type} (m : Nat → α) (l : List α) (k : Nat) : l ++ (List.range' 0 (k + 1)).map m = l ++ (List.range' 0 k).map m ++ [m k] := by rw [range_snoc, List.map_append, List.append_assoc]; rfl
theorem wrapN {n : Nat} (h : n < 9223372036854775807) : wrap64 ((n : Int) + 1) = ((n + 1 : Nat) : Int) := by unfold wrap64; omega
theorem rd70_at {l : List S70} {p : Nat} (h : p < l.length) : rd_T70 l (p : Int) = l[p] := by
  unfold rd_T70; rw [Int.toNat_natCast, List.getD_eq_getElem?_getD, List.getElem?_eq_getElem h]; rfl
theorem rd72_at {l : List S72} {p : Nat} (h : p < l.length) : rd_T72 l (p : Int) = l[p] := by
  unfold rd_T72; rw [Int.toNat_natCast, List.getD_eq_getElem?_getD, List.getElem?_eq_getElem h]; rfl
theorem rd52_at {l : List S52} {p : Nat} (h : p < l.length) : rd_T52 l (p : Int) = l[p] := by
  unfold rd_T52; rw [Int.toNat_natCast, List.getD_eq_getElem?_getD, List.getElem?_eq_getElem h]; rfl
theorem rd25_at {l : List S25} {p : Nat} (h : p < l.length) : rd_T25 l (p : Int) = l[p] := by
  unfold rd_T25; rw [Int.toNat_natCast, List.getD_eq_getElem?_getD, List.getElem?_eq_getElem h]; rfl
/-! markedOpnds, plainly -/
theorem mo_l1 (l : List S70) (hl : l.length ≤ 1048576) : ∀ (n p : Nat), p + n = 16 → ∀ k, n + 1 ≤ k → portagekit_markedOpnds.l1 k (l ++ (List.range' 0 p).map mkO) (p : Int) = some (full mkO l) := by
  intro n
  induction n with
  | zero =>
    intro p hp k hk
    obtain ⟨k, rfl⟩ : ∃ k', k = k' + 1 := ⟨k - 1, by omega⟩
    obtain rfl : p = 16 := by omega
    unfold portagekit_markedOpnds.l1
    rw [if_neg (by omega)]; rfl
  | succ n ih =>
    intro p hp k hk
    obtain ⟨k, rfl⟩ : ∃ k', k = k' + 1 := ⟨k - 1, by omega⟩
    unfold portagekit_markedOpnds.l1
    rw [if_pos (by omega), if_pos (by simp; omega), wrapN (by omega)]
    have := ih (p + 1) (by omega) k (by omega)
    rw [full_snoc] at this
    exact this
theorem mo_l0 (l : List S70) (hl : l.length ≤ 1048576) : ∀ (n p : Nat), p + n = l.length → ∀ k, n + 18 ≤ k → portagekit_markedOpnds.l0 k l (l.take p) (p : Int) = some (full mkO l) := by
  intro n
  induction n with
  | zero =>
    intro p hp k hk
    obtain ⟨k, rfl⟩ : ∃ k', k = k' + 1 := ⟨k - 1, by omega⟩
    unfold portagekit_markedOpnds.l0
    rw [if_neg (by omega), List.take_of_length_le (by omega)]
    have := mo_l1 l hl 16 0 (by omega) k (by omega)
    simpa using this
  | succ n ih =>
    intro p hp k hk
    obtain ⟨k, rfl⟩ : ∃ k', k = k' + 1 := ⟨k - 1, by omega⟩
    have hlt : p < l.length := by omega
    have e : l.take p ++ [(⟨(rd_T70 l (p : Int)).f0, (rd_T70 l (p : Int)).f1⟩ : S70)] = l.take (p + 1) := by
      rw [List.take_succ_eq_append_getElem hlt, rd70_at hlt]
    unfold portagekit_markedOpnds.l0
    rw [if_pos (by omega), if_pos (by omega), if_pos (by rw [List.length_take]; omega), wrapN (by omega), e]
    exact ih (p + 1) (by omega) k (by omega)
theorem marked_opnds (A : Option Addr) (c : Nat) (l : List S70) (w : World) (hA : k70.C w A l.length l) (hc : l.length ≤ c) (hl : l.length ≤ 1048576) :
    Calls Try.prog 26 #[.slice A l.length c] w fun e w' => ∃ B d, e = .returned (.slice B (full mkO l).length d) ∧ k70.R 70 w' w.heap.size (fun _ => True) (.slice B (full mkO l).length d) (full mkO l) ∧ Below w.heap.size w w' :=
  (portagekit_markedOpnds.calls 1048600 A c l (full mkO l) w hA hc (mo_l0 l hl l.length 0 (by omega) 1048600 (by omega))).mono (by
    rintro e w' ⟨v, rfl, hR, hb⟩
    obtain ⟨B, d, rfl, _⟩ := Kd.R_reads hR
    exact ⟨B, d, rfl, hR, hb⟩)
/-! rows apart -/
theorem M_apart {α β : Type} {d : Kd α} {d' : Kd β} {e base base' : Nat} {ok ok' : Nat → Prop} {w : World} {v : Value} {ys : List β} {x : α} {cs : List Value} (h : d.M w base ok x cs) (hv : d'.R e w base' ok' v ys) (ht : ∀ q, q ∈ d.E → q ≠ e) : d.M w base (fun k => ok k ∧ some k ≠ v.ownBlock) x cs := by
  obtain ⟨_, inner, ho, _⟩ := hv
  cases hob : v.ownBlock with
  | none => exact d.M_mono (fun k hk => ⟨hk, by simp⟩) h
  | some g =>
    obtain ⟨cells, hc⟩ := own_typed ho g hob
    exact d.M_mono (fun k hk => ⟨hk.1, fun he => hk.2 (by injection he)⟩) (Kd.M_types h hc ht)
/-- what is of no type in T is left -/
def Ty (T : List Nat) (w w1 : World) : Prop := ∀ (k : Nat) (c : Array Value) (q : Nat), w.heap[k]? = some (.cells c q (0, 0)) → q ∉ T → w1.heap[k]? = w.heap[k]?
theorem Ty.refl (T : List Nat) (w : World) : Ty T w w := fun _ _ _ _ _ => rfl
theorem Ty.trans {T : List Nat} {a b c : World} (h : Ty T a b) (h' : Ty T b c) : Ty T a c := fun k x q hk hq => by
  have h1 := h k x q hk hq
  rw [hk] at h1
  rw [h' k x q h1 hq, h1, hk]
theorem Ty.below {T : List Nat} {a b : World} (h : Below a.heap.size a b) : Ty T a b := fun k c q hk _ => h.block k (blk_lt hk)
theorem Ty.put {T : List Nat} {a b : World} (h : Ty T a b) {g t : Nat} {cs : Array Value} (hg : b.heap[g]? = some (.cells cs t (0, 0))) (ht : t ∈ T) (j : Nat) (u : Value) : Ty T a (b.setCell ⟨g, j, none⟩ u) := fun k c q hk hq => by
  have h1 := h k c q hk hq
  refine (Below.heap_setCell b ⟨g, j, none⟩ u k (fun e => ?_)).trans h1
  subst e
  rw [hk] at h1
  rw [h1] at hg
  injection hg with hg; injection hg with _ hg
  exact hq (hg ▸ ht)
theorem Ty.grown {T : List Nat} {a b c : World} (h : Ty T a b) {row : Option Nat} (hg : b.grownBy c row) (ht : ∀ k, row = some k → a.heap.size ≤ k ∨ ∃ x q, b.heap[k]? = some (.cells x q (0, 0)) ∧ q ∈ T) : Ty T a c := fun k x q hk hq => by
  have h1 := h k x q hk hq
  have hkb : b.heap[k]? = some (.cells x q (0, 0)) := h1.trans hk
  refine (hg.block k (blk_lt hkb) (fun e => ?_)).trans h1
  rcases ht k e.symm with h2 | ⟨x', q', h2, h3⟩
  · exact absurd (blk_lt hk) (by omega)
  · rw [hkb] at h2
    injection h2 with h2; injection h2 with _ h2
    exact hq (h2 ▸ h3)
theorem R_ty {α : Type} {d : Kd α} {e base : Nat} {ok : Nat → Prop} {w w1 : World} {v : Value} {xs : List α} {T : List Nat} (h : d.R e w base ok v xs) (hT : ∀ q, q ∈ e :: d.E → q ∉ T) (hy : Ty T w w1) : d.R e w1 base ok v xs :=
  Kd.R_mono (Kd.R_step (Kd.R_bound h) (fun k hk hlt => by
    obtain ⟨_, _, _, q, hq, c, hc⟩ := hk
    exact hy k c q hc (hT q hq))) (fun k hk => hk.1)
theorem blk_ty {w w1 : World} {g t : Nat} {cs : Array Value} {T : List Nat} (h : w.heap[g]? = some (.cells cs t (0, 0))) (ht : t ∉ T) (hy : Ty T w w1) : w1.heap[g]? = some (.cells cs t (0, 0)) := (hy g cs t h ht).trans h
/-- what HandCode has made so far -/
structure H (b g : Nat) (pO pS pN pI pB : Nat → Prop) (w : World) (vO vS vN vI vB : Value) (O : List (List S70)) (S : List (List S72)) (NX : List (List Int)) (I : List (List S52)) (B : List S25) : Prop where
  blk : w.heap[g]? = some (.cells #[.int .i64 0, .int .i64 0, .slice none 0 0, vO, vS, vN, vI, vB] 37 (0, 0))
  hg : b ≤ g
  ro : (Kd.slice 70 k70).R 49 w b pO vO O
  rs : (Kd.slice 72 k72).R 50 w b pS vS S
  rn : (Kd.slice 3 (Kd.int .i64)).R 23 w b pN vN NX
  ri : (Kd.slice 52 k52).R 22 w b pI vI I
  rb : k25.R 25 w b pB vB B
  mo : ∀ x ∈ O, ∃ p : List S70, p.length ≤ 1048576 ∧ x = full mkO p
  ms : ∀ x ∈ S, ∃ p : List S72, p.length ≤ 1048576 ∧ x = full mkS p
  mn : ∀ x ∈ NX, ∃ p : List Int, p.length ≤ 1048576 ∧ x = full mkN p
  mi : ∀ x ∈ I, ∃ p : List S52, p.length ≤ 1048576 ∧ x = full mkI p
section
variable {b g N : Nat} {pO pS pN pI pB qO qS qN qI qB : Nat → Prop} {w w1 : World} {vO vS vN vI vB v v1 : Value} {O : List (List S70)} {S : List (List S72)} {NX : List (List Int)} {I : List (List S52)} {B : List S25}
theorem H.below (h : H b g pO pS pN pI pB w vO vS vN vI vB O S NX I B) (hb : Below w.heap.size w w1) : H b g pO pS pN pI pB w1 vO vS vN vI vB O S NX I B :=
  ⟨blk_below h.blk hb, h.hg, Kd.R_below h.ro hb, Kd.R_below h.rs hb, Kd.R_below h.rn hb, Kd.R_below h.ri hb, Kd.R_below h.rb hb, h.mo, h.ms, h.mn, h.mi⟩
theorem H.mono (h : H b g pO pS pN pI pB w vO vS vN vI vB O S NX I B) (hO : ∀ k, pO k → k < w.heap.size → qO k) (hS : ∀ k, pS k → k < w.heap.size → qS k) (hN : ∀ k, pN k → k < w.heap.size → qN k) (hI : ∀ k, pI k → k < w.heap.size → qI k) (hB : ∀ k, pB k → k < w.heap.size → qB k) : H b g qO qS qN qI qB w vO vS vN vI vB O S NX I B :=
  ⟨h.blk, h.hg, Kd.R_mono (Kd.R_bound h.ro) (fun k hk => hO k hk.1 hk.2.2.1), Kd.R_mono (Kd.R_bound h.rs) (fun k hk => hS k hk.1 hk.2.2.1), Kd.R_mono (Kd.R_bound h.rn) (fun k hk => hN k hk.1 hk.2.2.1), Kd.R_mono (Kd.R_bound h.ri) (fun k hk => hI k hk.1 hk.2.2.1), Kd.R_mono (Kd.R_bound h.rb) (fun k hk => hB k hk.1 hk.2.2.1), h.mo, h.ms, h.mn, h.mi⟩
/-- a row of another's grows -/
theorem H.grown {e b' : Nat} {row : Option Nat} (h : H b g pO pS pN pI pB w vO vS vN vI vB O S NX I B) (hg : w.grownBy w1 row) (hty : ∀ k, row = some k → ∃ c, w.heap[k]? = some (.cells c e (0, 0))) (hge : ∀ k, row = some k → b' ≤ k) (h37 : 37 ≠ e)
    (cO : (∀ q ∈ 49 :: (Kd.slice 70 k70).E, q ≠ e) ∨ ∀ j, pO j → j < b') (cS : (∀ q ∈ 50 :: (Kd.slice 72 k72).E, q ≠ e) ∨ ∀ j, pS j → j < b') (cN : (∀ q ∈ 23 :: (Kd.slice 3 (Kd.int .i64)).E, q ≠ e) ∨ ∀ j, pN j → j < b') (cI : (∀ q ∈ 22 :: (Kd.slice 52 k52).E, q ≠ e) ∨ ∀ j, pI j → j < b') (cB : (∀ q ∈ 25 :: k25.E, q ≠ e) ∨ ∀ j, pB j → j < b') : H b g pO pS pN pI pB w1 vO vS vN vI vB O S NX I B := by
  have gen : ∀ {β : Type} {d' : Kd β} {e' : Nat} {p : Nat → Prop} {u : Value} {ys : List β}, d'.R e' w b p u ys → ((∀ q ∈ e' :: d'.E, q ≠ e) ∨ ∀ j, p j → j < b') → d'.R e' w1 b p u ys := by
    intro β d' e' p u ys hu hc
    refine Kd.R_mono (Kd.R_grown (Kd.R_bound hu) hg (fun k hk he => ?_)) (fun k hk => hk.1)
    obtain ⟨hk0, _, _, q, hq, c, hcc⟩ := hk
    rcases hc with hc | hc
    · obtain ⟨c', hc'⟩ := hty k he.symm
      rw [hcc] at hc'
      injection hc' with hc'; injection hc' with _ hc'
      exact hc q hq hc'
    · have h1 := hc k hk0; have h2 := hge k he.symm; omega
  refine ⟨blk_grown h.blk hg (fun he => ?_), h.hg, gen h.ro cO, gen h.rs cS, gen h.rn cN, gen h.ri cI, gen h.rb cB, h.mo, h.ms, h.mn, h.mi⟩
  obtain ⟨c', hc'⟩ := hty g he.symm
  rw [h.blk] at hc'
  injection hc' with hc'; injection hc' with _ hc'
  exact h37 hc'
theorem grown_set (w : World) (g j : Nat) (u : Value) : w.grownBy (w.setCell ⟨g, j, none⟩ u) (some g) := ⟨rfl, rfl, rfl, by simp [World.setCell], fun k _ hne => Below.heap_setCell w ⟨g, j, none⟩ u k (fun e => hne (by rw [e]))⟩
/-- its own rows grow -/
theorem H.putO {x : List S70} (h : H b g pO pS pN pI pB w vO vS vN vI vB O S NX I B) (hR : (Kd.slice 70 k70).R 49 w1 b pO v1 (O ++ [x])) (hg : w.grownBy w1 vO.ownBlock) (hx : ∃ p : List S70, p.length ≤ 1048576 ∧ x = full mkO p) : H b g pO pS pN pI pB (w1.setCell ⟨g, 3, none⟩ v1) v1 vS vN vI vB (O ++ [x]) S NX I B := by
  have hk := blk_grown h.blk hg (Kd.R_ne h.ro h.blk (by decide))
  exact ⟨blk_put hk 3 v1 rfl, h.hg, Kd.R_set hR hk (by decide) 3 v1, Kd.R_set (Kd.R_over h.rs h.ro (by decide) hg) hk (by decide) 3 v1, Kd.R_set (Kd.R_over h.rn h.ro (by decide) hg) hk (by decide) 3 v1, Kd.R_set (Kd.R_over h.ri h.ro (by decide) hg) hk (by decide) 3 v1, Kd.R_set (Kd.R_over h.rb h.ro (by decide) hg) hk (by decide) 3 v1, fun y hy => (List.mem_append.1 hy).elim (h.mo y) (fun e => by rw [List.mem_singleton.1 e]; exact hx), h.ms, h.mn, h.mi⟩
theorem H.putS {x : List S72} (h : H b g pO pS pN pI pB w vO vS vN vI vB O S NX I B) (hR : (Kd.slice 72 k72).R 50 w1 b pS v1 (S ++ [x])) (hg : w.grownBy w1 vS.ownBlock) (hx : ∃ p : List S72, p.length ≤ 1048576 ∧ x = full mkS p) : H b g pO pS pN pI pB (w1.setCell ⟨g, 4, none⟩ v1) vO v1 vN vI vB O (S ++ [x]) NX I B := by
  have hk := blk_grown h.blk hg (Kd.R_ne h.rs h.blk (by decide))
  exact ⟨blk_put hk 4 v1 rfl, h.hg, Kd.R_set (Kd.R_over h.ro h.rs (by decide) hg) hk (by decide) 4 v1, Kd.R_set hR hk (by decide) 4 v1, Kd.R_set (Kd.R_over h.rn h.rs (by decide) hg) hk (by decide) 4 v1, Kd.R_set (Kd.R_over h.ri h.rs (by decide) hg) hk (by decide) 4 v1, Kd.R_set (Kd.R_over h.rb h.rs (by decide) hg) hk (by decide) 4 v1, h.mo, fun y hy => (List.mem_append.1 hy).elim (h.ms y) (fun e => by rw [List.mem_singleton.1 e]; exact hx), h.mn, h.mi⟩
theorem H.putN {x : List Int} (h : H b g pO pS pN pI pB w vO vS vN vI vB O S NX I B) (hR : (Kd.slice 3 (Kd.int .i64)).R 23 w1 b pN v1 (NX ++ [x])) (hg : w.grownBy w1 vN.ownBlock) (hx : ∃ p : List Int, p.length ≤ 1048576 ∧ x = full mkN p) : H b g pO pS pN pI pB (w1.setCell ⟨g, 5, none⟩ v1) vO vS v1 vI vB O S (NX ++ [x]) I B := by
  have hk := blk_grown h.blk hg (Kd.R_ne h.rn h.blk (by decide))
  exact ⟨blk_put hk 5 v1 rfl, h.hg, Kd.R_set (Kd.R_over h.ro h.rn (by decide) hg) hk (by decide) 5 v1, Kd.R_set (Kd.R_over h.rs h.rn (by decide) hg) hk (by decide) 5 v1, Kd.R_set hR hk (by decide) 5 v1, Kd.R_set (Kd.R_over h.ri h.rn (by decide) hg) hk (by decide) 5 v1, Kd.R_set (Kd.R_over h.rb h.rn (by decide) hg) hk (by decide) 5 v1, h.mo, h.ms, fun y hy => (List.mem_append.1 hy).elim (h.mn y) (fun e => by rw [List.mem_singleton.1 e]; exact hx), h.mi⟩
theorem H.putI {x : List S52} (h : H b g pO pS pN pI pB w vO vS vN vI vB O S NX I B) (hR : (Kd.slice 52 k52).R 22 w1 b pI v1 (I ++ [x])) (hg : w.grownBy w1 vI.ownBlock) (hx : ∃ p : List S52, p.length ≤ 1048576 ∧ x = full mkI p) : H b g pO pS pN pI pB (w1.setCell ⟨g, 6, none⟩ v1) vO vS vN v1 vB O S NX (I ++ [x]) B := by
  have hk := blk_grown h.blk hg (Kd.R_ne h.ri h.blk (by decide))
  exact ⟨blk_put hk 6 v1 rfl, h.hg, Kd.R_set (Kd.R_over h.ro h.ri (by decide) hg) hk (by decide) 6 v1, Kd.R_set (Kd.R_over h.rs h.ri (by decide) hg) hk (by decide) 6 v1, Kd.R_set (Kd.R_over h.rn h.ri (by decide) hg) hk (by decide) 6 v1, Kd.R_set hR hk (by decide) 6 v1, Kd.R_set (Kd.R_over h.rb h.ri (by decide) hg) hk (by decide) 6 v1, h.mo, h.ms, h.mn, fun y hy => (List.mem_append.1 hy).elim (h.mi y) (fun e => by rw [List.mem_singleton.1 e]; exact hx)⟩
theorem H.putB {x : S25} (h : H b g pO pS pN pI pB w vO vS vN vI vB O S NX I B) (hR : k25.R 25 w1 b pB v1 (B ++ [x])) (hg : w.grownBy w1 vB.ownBlock) : H b g pO pS pN pI pB (w1.setCell ⟨g, 7, none⟩ v1) vO vS vN vI v1 O S NX I (B ++ [x]) := by
  have hk := blk_grown h.blk hg (Kd.R_ne h.rb h.blk (by decide))
  exact ⟨blk_put hk 7 v1 rfl, h.hg, Kd.R_set (Kd.R_over h.ro h.rb (by decide) hg) hk (by decide) 7 v1, Kd.R_set (Kd.R_over h.rs h.rb (by decide) hg) hk (by decide) 7 v1, Kd.R_set (Kd.R_over h.rn h.rb (by decide) hg) hk (by decide) 7 v1, Kd.R_set (Kd.R_over h.ri h.rb (by decide) hg) hk (by decide) 7 v1, Kd.R_set hR hk (by decide) 7 v1, h.mo, h.ms, h.mn, h.mi⟩
end
end Go.Proofs.Ytdjpamgjmpibnaa.PHc
