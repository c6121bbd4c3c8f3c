/- The comparing functions, as printed, find a list to be itself. The steps of a block, too. -/
import Derived.Test.YtdjpamgjmpibnaaCode
import Derived.Test.YtdjpamgjmpibnaaPHcx5
namespace Go.Proofs.Ytdjpamgjmpibnaa.PHc
open Go.RowKit Go.Proofs.YtdjpamgjmpibnaaW.PrintWords
set_option linter.unusedVariables false
set_option linter.unusedSimpArgs false
theorem so_l0 (l : List S70) (hl : l.length ≤ 1048576) : ∀ (n p : Nat), p + n = l.length → ∀ k, n + 1 ≤ k → portagekit_sameOpnds.l0 k l l (p : Int) = some true := by
  intro n
  induction n with
  | zero =>
    intro p hp k hk
    obtain ⟨k, rfl⟩ : ∃ k', k = k' + 1 := ⟨k - 1, by omega⟩
    unfold portagekit_sameOpnds.l0
    rw [if_neg (by omega)]
  | succ n ih =>
    intro p hp k hk
    obtain ⟨k, rfl⟩ : ∃ k', k = k' + 1 := ⟨k - 1, by omega⟩
    unfold portagekit_sameOpnds.l0
    rw [if_pos (by omega), if_pos (by omega), if_pos (by omega), if_neg (by simp), wrapN (by omega)]
    exact ih (p + 1) (by omega) k (by omega)
theorem so_f (l : List S70) (hl : l.length ≤ 1048576) {k : Nat} (hk : 1048577 ≤ k) : portagekit_sameOpnds.f k l l = some true := by
  unfold portagekit_sameOpnds.f
  rw [if_pos rfl]
  exact so_l0 l hl l.length 0 (by omega) k (by omega)
theorem ss_l0 (l : List S72) (hs : SmallS l) : ∀ (n p : Nat), p + n = l.length → ∀ k, n + 1048580 ≤ k → portagekit_sameShapes.l0 k l l (p : Int) = some true := by
  have hl := hs.len
  intro n
  induction n with
  | zero =>
    intro p hp k hk
    obtain ⟨k, rfl⟩ : ∃ k', k = k' + 1 := ⟨k - 1, by omega⟩
    unfold portagekit_sameShapes.l0
    rw [if_neg (by omega)]
  | succ n ih =>
    intro p hp k hk
    obtain ⟨k, rfl⟩ : ∃ k', k = k' + 1 := ⟨k - 1, by omega⟩
    have hlt : p < l.length := by omega
    unfold portagekit_sameShapes.l0
    rw [if_pos (by omega), if_pos (by omega), if_pos (by omega), if_pos rfl, if_pos rfl, rd72_at hlt, so_f _ (hs.each _ (List.getElem_mem hlt)) (by omega), Option.bind_some, if_pos rfl, wrapN (by omega)]
    exact ih (p + 1) (by omega) k (by omega)
theorem ss_f (l : List S72) (hs : SmallS l) {k : Nat} (hk : 2097200 ≤ k) : portagekit_sameShapes.f k l l = some true := by
  have hl := hs.len
  unfold portagekit_sameShapes.f
  rw [if_pos rfl]
  exact ss_l0 l hs l.length 0 (by omega) k (by omega)
structure SmallI (l : List S52) : Prop where
  len : l.length ≤ 1048576
  args : ∀ x ∈ l, x.f3.length ≤ 1048576
  exit : ∀ x ∈ l, SmallS x.f7
theorem si_l0 (l : List S52) (hs : SmallI l) : ∀ (n p : Nat), p + n = l.length → ∀ k, 2 * n + 2097204 ≤ k → portagekit_sameIns.l0 k l l (p : Int) = some true := by
  have hl := hs.len
  intro n
  induction n with
  | zero =>
    intro p hp k hk
    obtain ⟨k, rfl⟩ : ∃ k', k = k' + 1 := ⟨k - 1, by omega⟩
    unfold portagekit_sameIns.l0
    rw [if_neg (by omega)]
  | succ n ih =>
    intro p hp k hk
    obtain ⟨k, rfl⟩ : ∃ k', k = k' + 1 + 1 := ⟨k - 2, by omega⟩
    have hlt : p < l.length := by omega
    unfold portagekit_sameIns.l0
    rw [if_pos (by omega), if_pos (by omega), if_pos (by omega), if_pos rfl, if_pos rfl, if_pos rfl, if_pos rfl, if_pos rfl, portagekit_sameIns.j1, if_neg (by simp), rd52_at hlt, so_f _ (hs.args _ (List.getElem_mem hlt)) (by omega), Option.bind_some, if_pos rfl, ss_f _ (hs.exit _ (List.getElem_mem hlt)) (by omega), Option.bind_some, if_pos rfl, wrapN (by omega)]
    exact ih (p + 1) (by omega) k (by omega)
theorem si_f (l : List S52) (hs : SmallI l) {k : Nat} (hk : 4194400 ≤ k) : portagekit_sameIns.f k l l = some true := by
  have hl := hs.len
  unfold portagekit_sameIns.f
  rw [if_pos rfl]
  exact si_l0 l hs l.length 0 (by omega) k (by omega)
theorem sb_l1 (l : List S25) (hl : l.length ≤ 1048576) (p : Nat) (hp : p < l.length) (hn : (rd_T25 l (p : Int)).f2.length ≤ 1048576) (K : Nat) (hK : ∀ k, K ≤ k → portagekit_sameBlocks.l0 k l l ((p + 1 : Nat) : Int) = some true) : ∀ (n q : Nat), q + n = (rd_T25 l (p : Int)).f2.length → ∀ k, n + 1 + K ≤ k → portagekit_sameBlocks.l1 k l l (p : Int) (q : Int) = some true := by
  intro n
  induction n with
  | zero =>
    intro q hq k hk
    obtain ⟨k, rfl⟩ : ∃ k', k = k' + 1 := ⟨k - 1, by omega⟩
    unfold portagekit_sameBlocks.l1
    rw [if_pos (by omega), if_pos (by omega), if_neg (by omega), wrapN (by omega)]
    exact hK k (by omega)
  | succ n ih =>
    intro q hq k hk
    obtain ⟨k, rfl⟩ : ∃ k', k = k' + 1 := ⟨k - 1, by omega⟩
    unfold portagekit_sameBlocks.l1
    rw [if_pos (by omega), if_pos (by omega), if_pos (by omega), if_pos (by omega), if_pos (by omega), if_pos (by omega), if_pos rfl, wrapN (by omega)]
    exact ih (q + 1) (by omega) k (by omega)
theorem sb_l0 (l : List S25) (hl : l.length ≤ 1048576) (hs : ∀ b ∈ l, SmallB b) (M L : Nat) (hM : 1048600 ≤ M) (hL : 4194500 ≤ L) : ∀ (n p : Nat), p + n = l.length → ∀ k, n * M + L ≤ k → portagekit_sameBlocks.l0 k l l (p : Int) = some true := by
  intro n
  induction n with
  | zero =>
    intro p hp k hk
    obtain ⟨k, rfl⟩ : ∃ k', k = k' + 1 := ⟨k - 1, by omega⟩
    unfold portagekit_sameBlocks.l0
    rw [if_neg (by omega)]
  | succ n ih =>
    intro p hp k hk
    obtain ⟨k, rfl⟩ : ∃ k', k = k' + 1 + 1 := ⟨k - 2, by have := Nat.le_add_left L ((n + 1) * M); omega⟩
    have hlt : p < l.length := by omega
    have hb := hs _ (List.getElem_mem hlt)
    have hn : (rd_T25 l (p : Int)).f2.length ≤ 1048576 := by rw [rd25_at hlt]; exact hb.next
    have hi : portagekit_sameIns.f (k + 1) (rd_T25 l (p : Int)).f1 (rd_T25 l (p : Int)).f1 = some true := by
      have hk4 : 4194400 ≤ k + 1 := by have := Nat.le_add_left L ((n + 1) * M); omega
      rw [rd25_at hlt]; exact si_f _ ⟨hb.ins, hb.args, hb.exit⟩ hk4
    unfold portagekit_sameBlocks.l0
    rw [if_pos (by omega), if_pos (by omega), if_pos (by omega), if_pos rfl, if_pos rfl, hi, Option.bind_some, portagekit_sameBlocks.j1]
    rw [if_neg (show ¬ (!true) = true by decide)]
    rw [Nat.succ_mul] at hk
    exact sb_l1 l hl p hlt hn (n * M + L) (fun k' hk' => ih (p + 1) (by omega) k' hk') (rd_T25 l (p : Int)).f2.length 0 (Nat.zero_add _) k (by omega)
theorem sb_f (l : List S25) (hl : l.length ≤ 1048576) (hs : ∀ b ∈ l, SmallB b) : portagekit_sameBlocks.f (l.length * 1048600 + 4194500) l l = some true := by
  unfold portagekit_sameBlocks.f
  rw [if_pos rfl]
  exact sb_l0 l hl hs 1048600 4194500 (Nat.le_refl _) (Nat.le_refl _) l.length 0 (Nat.zero_add _) _ (Nat.le_refl _)
theorem same_blocks (A B : Option Addr) (c d : Nat) (l : List S25) (w : World) (hA : k25.C w A l.length l) (hc : l.length ≤ c) (hB : k25.C w B l.length l) (hd : l.length ≤ d) (hl : l.length ≤ 1048576) (hs : ∀ b ∈ l, SmallB b) :
    Calls Try.prog 17 #[.slice A l.length c, .slice B l.length d] w fun e w' => e = .returned (.bool true) ∧ Below w.heap.size w w' :=
  portagekit_sameBlocks.calls _ A c l B d l true w hA hc hB hd (sb_f l hl hs)
/-! Point, Steps -/
def pointB (o : Int) : Bool := decide (o = 3 ∨ o = 4 ∨ o = 5 ∨ o = 6 ∨ o = 9)
theorem ite_cut {α : Sort _} {c : Prop} [Decidable c] {a b x : α} (h1 : c → a = x) (h2 : ¬ c → b = x) : (if c then a else b) = x := by
  by_cases h : c
  · rw [if_pos h]; exact h1 h
  · rw [if_neg h]; exact h2 h
theorem po_in (o : Int) : lift_Point.f o = some (pointB o) := by
  unfold lift_Point.f pointB
  repeat' (refine ite_cut (fun h => ?_) (fun h => ?_))
  all_goals (congr 1; symm; first | (rw [decide_eq_true_eq]; omega) | (rw [decide_eq_false_iff_not]; omega))
theorem po_ref (o : Int) : portageref19_Point.f o = some (pointB o) := by
  unfold portageref19_Point.f pointB
  repeat' (refine ite_cut (fun h => ?_) (fun h => ?_))
  all_goals (congr 1; symm; first | (rw [decide_eq_true_eq]; omega) | (rw [decide_eq_false_iff_not]; omega))
def stepsS (l : List S52) (a : Int) : Int := l.foldl (fun n x => if pointB x.f0 = true then wrap64 (n + x.f6) else n) a
theorem st_in (l : List S52) (hl : l.length ≤ 1048576) : ∀ (n p : Nat) (a : Int), p + n = l.length → ∀ k, n + 1 ≤ k → lift_Steps.l0 k a l (l.length : Int) (p : Int) = some (stepsS (l.drop p) a) := by
  intro n
  induction n with
  | zero =>
    intro p a hp k hk
    obtain ⟨k, rfl⟩ : ∃ k', k = k' + 1 := ⟨k - 1, by omega⟩
    unfold lift_Steps.l0
    rw [if_neg (by omega), List.drop_eq_nil_of_le (by omega)]; rfl
  | succ n ih =>
    intro p a hp k hk
    obtain ⟨k, rfl⟩ : ∃ k', k = k' + 1 := ⟨k - 1, by omega⟩
    have hlt : p < l.length := by omega
    have e : ∀ a, stepsS (l.drop p) a = stepsS (l.drop (p + 1)) (if pointB l[p].f0 = true then wrap64 (a + l[p].f6) else a) := fun a => by rw [List.drop_eq_getElem_cons hlt]; rfl
    unfold lift_Steps.l0
    rw [if_pos (by omega), if_pos (by omega), if_pos (by omega), rd52_at hlt, po_in, Option.bind_some, wrapN (by omega), ih (p + 1) _ (by omega) k (by omega), ih (p + 1) _ (by omega) k (by omega), e]
    by_cases hb : pointB l[p].f0 = true
    · rw [if_pos hb, if_pos hb]
    · rw [if_neg hb, if_neg hb]
theorem st_ref (l : List S52) (g0 : Int) (g2 : List Int) (hl : l.length ≤ 1048576) : ∀ (n p : Nat) (a : Int), p + n = l.length → ∀ k, n + 1 ≤ k → portageref19_Steps.l0 k a (p : Int) g0 l g2 = some (stepsS (l.drop p) a) := by
  intro n
  induction n with
  | zero =>
    intro p a hp k hk
    obtain ⟨k, rfl⟩ : ∃ k', k = k' + 1 := ⟨k - 1, by omega⟩
    unfold portageref19_Steps.l0
    rw [if_neg (by omega), List.drop_eq_nil_of_le (by omega)]; rfl
  | succ n ih =>
    intro p a hp k hk
    obtain ⟨k, rfl⟩ : ∃ k', k = k' + 1 := ⟨k - 1, by omega⟩
    have hlt : p < l.length := by omega
    have e : ∀ a, stepsS (l.drop p) a = stepsS (l.drop (p + 1)) (if pointB l[p].f0 = true then wrap64 (a + l[p].f6) else a) := fun a => by rw [List.drop_eq_getElem_cons hlt]; rfl
    unfold portageref19_Steps.l0
    rw [if_pos (by omega), if_pos (by omega), rd52_at hlt, po_ref, Option.bind_some, wrapN (by omega), ih (p + 1) _ (by omega) k (by omega), ih (p + 1) _ (by omega) k (by omega), e]
    by_cases hb : pointB l[p].f0 = true
    · rw [if_pos hb, if_pos hb]
    · rw [if_neg hb, if_neg hb]
theorem steps_in (b : S25) (A1 A2 : Option Addr) (c1 c2 : Nat) (w : World) (h1 : k52.C w A1 b.f1.length b.f1) (l1 : b.f1.length ≤ c1) (h2 : (Kd.int .i64).C w A2 b.f2.length b.f2) (l2 : b.f2.length ≤ c2) (hl : b.f1.length ≤ 1048576) :
    Calls Try.prog 6 #[.agg #[.int .i64 b.f0, .slice A1 b.f1.length c1, .slice A2 b.f2.length c2]] w fun e w' => e = .returned (.int .i64 (stepsS b.f1 0)) ∧ Below w.heap.size w w' :=
  lift_Steps.calls 1048600 b.f0 A1 c1 b.f1 A2 c2 b.f2 _ w h1 l1 h2 l2 (st_in b.f1 hl b.f1.length 0 0 (by omega) 1048600 (by omega))
theorem steps_ref (b : S25) (A1 A2 : Option Addr) (c1 c2 : Nat) (w : World) (h1 : k52.C w A1 b.f1.length b.f1) (l1 : b.f1.length ≤ c1) (h2 : (Kd.int .i64).C w A2 b.f2.length b.f2) (l2 : b.f2.length ≤ c2) (hl : b.f1.length ≤ 1048576) :
    Calls Try.prog 9 #[.agg #[.int .i64 b.f0, .slice A1 b.f1.length c1, .slice A2 b.f2.length c2]] w fun e w' => e = .returned (.int .i64 (stepsS b.f1 0)) ∧ Below w.heap.size w w' :=
  portageref19_Steps.calls 1048600 b.f0 A1 c1 b.f1 A2 c2 b.f2 _ w h1 l1 h2 l2 (st_ref b.f1 b.f0 b.f2 hl b.f1.length 0 0 (by omega) 1048600 (by omega))
theorem point_in (o : Int) (w : World) : Calls Try.prog 7 #[.int .i64 o] w fun e w' => e = .returned (.bool (pointB o)) ∧ Drawn0 w w' := lift_Point.calls o _ w (po_in o)
theorem point_ref (o : Int) (w : World) : Calls Try.prog 8 #[.int .i64 o] w fun e w' => e = .returned (.bool (pointB o)) ∧ Drawn0 w w' := portageref19_Point.calls o _ w (po_ref o)
end Go.Proofs.Ytdjpamgjmpibnaa.PHc
