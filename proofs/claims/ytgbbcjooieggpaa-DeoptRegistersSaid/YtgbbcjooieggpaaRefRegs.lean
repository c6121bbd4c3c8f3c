/- The document's Registers (Enters, Point, in), and KeptValues: what they give, as plain functions. For every world. -/
import Derived.Test.YtgbbcjooieggpaaSame
import Derived.Test.YtgbbcjooieggpaaOwnCells
import Derived.Test.YtgbbcjooieggpaaPureRegs
import Derived.StillTailTactics
namespace Go.Proofs.Ytgbbcjooieggpaa.PRegs
open Go.RowKit Go.Proofs.Ytgbbcjooieggpaa.Lit Go.Proofs.Ytgbbcjooieggpaa.OwnCells Go.Proofs.YtgbbcjooieggpaaW.PrintWords Go.Proofs.YtgbbcjooieggpaaW.PrintLast Go.Proofs.YtgbbcjooieggpaaW.PrintMore
set_option linter.unusedVariables false
set_option linter.unusedSimpArgs false
/-- the first block at a place -/
def entersFrom (pc : Int) : Nat → List S63 → Int
  | _, [] => -1
  | i, b :: t => if b.f0 = pc then (i : Int) else entersFrom pc (i + 1) t
theorem rdE63 (l : List S63) (i : Nat) (h : i < l.length) : rd_T63 l (i : Int) = l[i] := by
  unfold rd_T63; rw [Int.toNat_natCast, List.getD_eq_getElem?_getD, List.getElem?_eq_getElem h]; rfl
set_option maxHeartbeats 1000000 in
set_option maxRecDepth 100000 in
theorem enters (u v pc : Int) (A : Option Addr) (c : Nat) (l : List S63) (w : World) (hA : k63.C w A l.length l) (hl : l.length ≤ 17592186044416) :
    Calls Try.prog 36 #[.agg #[.int .i64 u, .int .i64 v, .slice A l.length c], .int .i64 pc] w fun e w' => e = .returned (.int .i64 (entersFrom pc 0 l)) ∧ Below w.heap.size w w' := by
  have HA := Aside0.mk hA
  clear hA
  go_enter Try.func36, Try.ntmps36
  go_upto_region 1 with (fail)
  have b1 := below_alloc (Below.refl _ w) (.cells #[.int .i64 u, .int .i64 v, .slice A l.length c] 24)
  have K0 := blk_new w (.cells #[.int .i64 u, .int .i64 v, .slice A l.length c] 24)
  generalize w.alloc (.cells #[.int .i64 u, .int .i64 v, .slice A l.length c] 24) = w1 at b1 K0 ⊢
  have HW := Aside0.mk b1
  generalize w.heap.size = g0 at K0 ⊢
  have q2 : w1.cell? ⟨g0, 2, none⟩ = some (.slice A l.length c) := blk_cell K0 2
  replace HA := Aside0.mk (Kd.C_below HA.out b1)
  clear b1 K0
  go_wp2
  go_loop [5] (fun t => ∃ i : Nat, i ≤ l.length ∧ t = .int .i64 i ∧ entersFrom pc 0 l = entersFrom pc i (l.drop i)) (fun t => l.length - (intOf t).toNat)
  case atStart => exact ⟨0, Nat.zero_le _, rfl, rfl⟩
  case round =>
    obtain ⟨i, hi, rfl, hE⟩ := hrel
    have HE := Aside0.mk hE
    clear hE
    by_cases hlt : i < l.length
    · obtain ⟨a, A1, c1, A2, c2, rfl, x0, _, _, _, _, _, _⟩ := at_T63 HA.out (i : Int) (by omega) (by omega)
      rw [Int.toNat_natCast, rdE63 l i hlt] at x0
      have hd : l.drop i = l[i] :: l.drop (i + 1) := List.drop_eq_getElem_cons hlt
      by_cases hp : l[i].f0 = pc
      · have hE2 := Aside0.mk (show entersFrom pc 0 l = (i : Int) by rw [HE.out, hd]; simp only [entersFrom]; rw [if_pos hp])
        rw [hp] at x0
        clear hp hd
        go_wp2
        go_ret
        exact ⟨by rw [hE2.out]; rfl, HW.out⟩
      · have hE2 := Aside0.mk (show entersFrom pc 0 l = entersFrom pc (i + 1) (l.drop (i + 1)) by rw [HE.out, hd]; simp only [entersFrom]; rw [if_neg hp])
        have hp' : (l[i].f0 == pc) = false := by rw [beq_eq_false_iff_ne]; exact hp
        clear hp hd
        go_wp2
        go_round
        case rel => exact ⟨i + 1, by omega, by go_num, hE2.out⟩
        case measure => simp [intOf]; omega
    · have hE2 := Aside0.mk (show entersFrom pc 0 l = -1 by rw [HE.out, List.drop_eq_nil_of_le (by omega)]; rfl)
      go_wp2
      go_ret
      exact ⟨by rw [hE2.out]; rfl, HW.out⟩
def inB (n m : Int) : Bool := decide (0 ≤ n ∧ n < m)
set_option maxHeartbeats 1000000 in
theorem in_ (n m : Int) (w : World) : Calls Try.prog 38 #[.int .i64 n, .int .i64 m] w fun e w' => e = .returned (.bool (inB n m)) ∧ w = w' := by
  by_cases h0 : 0 ≤ n
  · by_cases h1 : n < m
    · have e : inB n m = true := decide_eq_true ⟨h0, h1⟩
      rw [e]
      clear e
      go_enter Try.func38, Try.ntmps38
      go_wp2
      go_ret
      exact ⟨rfl, rfl⟩
    · have e : inB n m = false := decide_eq_false (fun h => h1 h.2)
      rw [e]
      clear e
      have h1' : decide (n < m) = false := decide_eq_false h1
      go_enter Try.func38, Try.ntmps38
      go_wp2
      go_ret
      exact ⟨rfl, rfl⟩
  · have e : inB n m = false := decide_eq_false (fun h => h0 h.1)
    rw [e]
    clear e
    have h0' : decide (0 ≤ n) = false := decide_eq_false h0
    go_enter Try.func38, Try.ntmps38
    go_wp2
    go_ret
    exact ⟨rfl, rfl⟩

/-- the one shape of a block's first point -/
def pointOf (b : S63) : Option S67 := match b.f1 with
  | x :: _ => if x.f0 = 6 then (match x.f7 with
    | [s] => some s
    | _ => none) else none
  | [] => none
theorem box3 {w : World} {g : Nat} {t : TypeId} {x y z : Value} (h : w.heap[g]? = some (.cells #[x, y, z] t (0, 0))) (a b c : Value) : (((w.setCell ⟨g, 0, none⟩ a).setCell ⟨g, 1, none⟩ b).setCell ⟨g, 2, none⟩ c).heap[g]? = some (.cells #[a, b, c] t (0, 0)) :=
  blk_put (blk_put (blk_put h 0 a rfl) 1 b rfl) 2 c rfl
theorem below_set3 {B : Nat} {w w1 : World} {g : Nat} (h : Below B w w1) (hg : B ≤ g) (a b c : Value) : Below B w (((w1.setCell ⟨g, 0, none⟩ a).setCell ⟨g, 1, none⟩ b).setCell ⟨g, 2, none⟩ c) :=
  ((h.setCell hg _).setCell hg _).setCell hg _
theorem add0' (a : Addr) : a.add 0 = a := by simp [Addr.add]
def PointPost (p : Option S67) (e : Ending) (w' : World) : Prop := match p with
  | some s => ∃ v, e = .returned (.tuple #[.agg #[.int .i64 s.f0, .int .i64 s.f1, v], .bool true]) ∧ Sl k44 s.f2 w' v
  | none => e = .returned (.tuple #[.agg #[.int .i64 0, .int .i64 0, .slice none 0 0], .bool false])
set_option maxHeartbeats 2000000 in
set_option maxRecDepth 100000 in
theorem point (b : S63) (A B : Option Addr) (c d : Nat) (w : World) (hA : k65.C w A b.f1.length b.f1) (hl : b.f1.length ≤ 17592186044416) (hx : ∀ x ∈ b.f1, x.f7.length ≤ 17592186044416) :
    Calls Try.prog 37 #[.agg #[.int .i64 b.f0, .slice A b.f1.length c, .slice B b.f2.length d]] w fun e w' => Below w.heap.size w w' ∧ PointPost (pointOf b) e w' := by
  have HA := Aside0.mk hA
  have HX := Aside0.mk hx
  clear hA hx
  rcases b with ⟨pc, ins, next⟩
  simp only at HA HX hl ⊢
  go_enter Try.func37, Try.ntmps37
  go_upto_region 1 with (fail)
  have b1 := e4 w (.cells #[.int .i64 pc, .slice A ins.length c, .slice B next.length d] 63) (.cells #[.int .i64 0, .int .i64 0, .slice none 0 0] 67)
  have K0 := blk_alloc (blk_new w (.cells #[.int .i64 pc, .slice A ins.length c, .slice B next.length d] 63)) (.cells #[.int .i64 0, .int .i64 0, .slice none 0 0] 67)
  have K1 := blk_new (w.alloc (.cells #[.int .i64 pc, .slice A ins.length c, .slice B next.length d] 63)) (.cells #[.int .i64 0, .int .i64 0, .slice none 0 0] 67)
  rw [World.size_alloc] at K1
  generalize (w.alloc (.cells #[.int .i64 pc, .slice A ins.length c, .slice B next.length d] 63)).alloc (.cells #[.int .i64 0, .int .i64 0, .slice none 0 0] 67) = w1 at b1 K0 K1 ⊢
  have HB := Aside0.mk b1
  have hge : w.heap.size ≤ w.heap.size + 1 := Nat.le_succ _
  have HG := Aside0.mk hge
  clear hge
  have q1 : w1.cell? ⟨w.heap.size, 1, none⟩ = some (.slice A ins.length c) := blk_cell K0 1
  generalize hg1 : w.heap.size + 1 = g1 at K1 ⊢
  have HG1 := Aside0.mk hg1
  clear hg1
  generalize w.heap.size = g0 at K0 q1 ⊢
  have f0 : w1.frozen? ⟨g1, 0, none⟩ = false := blk_frozen K1 0
  have f1 : w1.frozen? ⟨g1, 1, none⟩ = false := blk_frozen K1 1
  have f2 : w1.frozen? ⟨g1, 2, none⟩ = false := blk_frozen K1 2
  have z0 : w1.cell? ⟨g1, 0, none⟩ = some (.int .i64 0) := blk_cell K1 0
  have z1 : w1.cell? ⟨g1, 1, none⟩ = some (.int .i64 0) := blk_cell K1 1
  have z2 : w1.cell? ⟨g1, 2, none⟩ = some (.slice none 0 0) := blk_cell K1 2
  replace K1 := Aside0.mk K1
  clear K0 b1
  cases ins with
  | nil =>
    go_wp2
    exact bodyPost_ret (results_list (fn := Try.f37) (rs := [.cell 2 67, .tmp 3]) rfl (by simp) (.cell g1 67 #[.int .i64 0, .int .i64 0, .slice none 0 0] (0, 0) _ rfl (box3 K1.out _ _ _) Try.underlying67 rfl (by kernel_rfl) (.tmp .nil))) rfl ⟨below_set3 HB.out (by have := HG1.out; omega) _ _ _, rfl⟩
  | cons x t =>
    obtain ⟨ad, A3, c3, E3, e3, rfl, x0, _, _, _, _, _, _, x7, _, _, hE, g7⟩ := at_T65 HA.out 0 (by decide) (by simp only [List.length_cons]; omega)
    rw [show rd_T65 (x :: t) 0 = x from rfl] at x0 x7 hE g7
    rw [show (0 : Int).toNat * 8 = 0 from rfl, add0'] at x0 x7
    replace x0 := pw_cell_below HB.out x0
    replace x7 := pw_cell_below HB.out x7
    have hx7 := HX.out x List.mem_cons_self
    have hl2 : t.length + 1 ≤ 17592186044416 := hl
    have hz : ((t.length : Int) + 1 == 0) = false := by rw [beq_eq_false_iff_ne]; omega
    have n2 : (0 : Int) < (t.length : Int) + 1 := by omega
    by_cases h6 : x.f0 = 6
    case neg =>
      have h6' : (x.f0 != 6) = true := by rw [bne_iff_ne]; exact h6
      have hp : pointOf ⟨pc, x :: t, next⟩ = none := by simp only [pointOf]; rw [if_neg h6]
      have HP := Aside0.mk hp
      clear h6 hp
      go_wp2
      exact bodyPost_ret (results_list (fn := Try.f37) (rs := [.cell 2 67, .tmp 3]) rfl (by simp) (.cell g1 67 #[.int .i64 0, .int .i64 0, .slice none 0 0] (0, 0) _ rfl (box3 K1.out _ _ _) Try.underlying67 rfl (by kernel_rfl) (.tmp .nil))) rfl ⟨below_set3 HB.out (by have := HG1.out; omega) _ _ _, by rw [HP.out]; rfl⟩
    rw [h6] at x0
    have hp : pointOf ⟨pc, x :: t, next⟩ = (match x.f7 with | [s] => some s | _ => none) := by simp only [pointOf]; rw [if_pos h6]
    have HP := Aside0.mk hp
    clear h6 hp
    rcases hx' : x.f7 with _ | ⟨s, _ | ⟨s2, r⟩⟩
    · rw [hx'] at x7
      have HX7 := Aside0.mk hx'
      clear hx'
      go_wp2
      exact bodyPost_ret (results_list (fn := Try.f37) (rs := [.cell 2 67, .tmp 3]) rfl (by simp) (.cell g1 67 #[.int .i64 0, .int .i64 0, .slice none 0 0] (0, 0) _ rfl (box3 K1.out _ _ _) Try.underlying67 rfl (by kernel_rfl) (.tmp .nil))) rfl ⟨below_set3 HB.out (by have := HG1.out; omega) _ _ _, by rw [HP.out, HX7.out]; rfl⟩
    · rw [hx'] at x7 g7 hE
      have HX7 := Aside0.mk hx'
      clear hx'
      obtain ⟨ae, A6, c6, rfl, y0, y1, y2, hl6, g44⟩ := at_T67 g7 0 (by decide) (by simp)
      rw [show rd_T67 [s] 0 = s from rfl] at y0 y1 y2 hl6 g44
      rw [show (0 : Int).toNat * 3 = 0 from rfl, add0'] at y0 y1 y2
      replace y0 := pw_cell_below HB.out y0
      replace y1 := pw_cell_below HB.out y1
      replace y2 := pw_cell_below HB.out y2
      have G44 := Aside0.mk g44
      have HL6 := Aside0.mk hl6
      clear g7 hE g44 hl6
      go_wp2
      refine bodyPost_ret (results_list (fn := Try.f37) (rs := [.cell 2 67, .tmp 3]) rfl (by simp) (.cell g1 67 #[.int .i64 s.f0, .int .i64 s.f1, .slice A6 s.f2.length c6] (0, 0) _ rfl (box3 K1.out _ _ _) Try.underlying67 rfl (by kernel_rfl) (.tmp .nil))) rfl ⟨below_set3 HB.out (by have := HG1.out; omega) _ _ _, ?_⟩
      rw [HP.out, HX7.out]
      exact ⟨_, rfl, A6, c6, rfl, HL6.out, Kd.C_below G44.out (below_set3 HB.out (by have := HG1.out; omega) _ _ _)⟩
    · rw [hx'] at x7 hx7
      have HX7 := Aside0.mk hx'
      clear hx'
      have hn : ((r.length : Int) + 1 + 1 != 1) = true := by rw [bne_iff_ne]; omega
      simp only [List.length_cons] at hx7
      go_wp2
      exact bodyPost_ret (results_list (fn := Try.f37) (rs := [.cell 2 67, .tmp 3]) rfl (by simp) (.cell g1 67 #[.int .i64 0, .int .i64 0, .slice none 0 0] (0, 0) _ rfl (box3 K1.out _ _ _) Try.underlying67 rfl (by kernel_rfl) (.tmp .nil))) rfl ⟨below_set3 HB.out (by have := HG1.out; omega) _ _ _, by rw [HP.out, HX7.out]; rfl⟩

/-! the document's Registers -/
theorem cells_new (W : World) (cs : List Value) (e : TypeId) : ∀ j u, cs[j]? = some u → (W.alloc (.cells cs.toArray e)).cell? ((⟨W.heap.size, 0, none⟩ : Addr).add j) = some u := by
  intro j u h
  rw [add_plain]
  unfold World.cell? World.alloc
  simp [h]
def flat35 : List S35 → List Value
  | [] => []
  | x :: t => .int .i64 x.f0 :: .int .i64 x.f1 :: flat35 t
theorem flat35_len : ∀ l, (flat35 l).length = l.length * 2
  | [] => rfl
  | x :: t => by simp only [flat35, List.length_cons, flat35_len t]; omega
theorem flat35_append : ∀ a b, flat35 (a ++ b) = flat35 a ++ flat35 b
  | [], _ => rfl
  | x :: t, b => by simp only [List.cons_append, flat35, flat35_append t b]
theorem flat35_set : ∀ (l : List S35) (j : Nat) (x : S35), ((flat35 l).set (j * 2) (.int .i64 x.f0)).set (j * 2 + 1) (.int .i64 x.f1) = flat35 (l.set j x)
  | [], _, _ => rfl
  | y :: t, 0, x => rfl
  | y :: t, j + 1, x => by
    rw [show (j + 1) * 2 = j * 2 + 2 by omega, show j * 2 + 2 + 1 = (j * 2 + 1) + 2 by omega]
    simp only [flat35, List.set_cons_succ, flat35_set t j x]
theorem flat35_get : ∀ (l : List S35) (j : Nat) (x : S35), l[j]? = some x → (flat35 l)[j * 2]? = some (.int .i64 x.f0) ∧ (flat35 l)[j * 2 + 1]? = some (.int .i64 x.f1)
  | [], _, _, h => by simp at h
  | y :: t, 0, x, h => by
    simp at h
    subst h
    exact ⟨rfl, rfl⟩
  | y :: t, j + 1, x, h => by
    rw [show (j + 1) * 2 = j * 2 + 2 by omega, show j * 2 + 2 + 1 = (j * 2 + 1) + 2 by omega]
    simp only [flat35, List.getElem?_cons_succ]
    exact flat35_get t j x (by simpa using h)
theorem own_Sl35 {w : World} {base : Nat} {v : Value} {l : List S35} (h : w.ownsRow base 35 2 v l.length (flat35 l)) (hl : l.length ≤ 9223372036854775807) : Sl k35 l w v := by
  obtain ⟨A, c, rfl, hc⟩ := own_form h
  refine ⟨A, c, rfl, hc, rfl, hl, fun hn => ?_⟩
  obtain ⟨g, cap, he, _, _⟩ := h.form hn
  cases he
  refine ⟨_, rfl, fun j p hj => ⟨[.int .i64 p.f0, .int .i64 p.f1], rfl, k35_mk w p, fun i u hu => ?_⟩⟩
  obtain ⟨h0, h1⟩ := flat35_get l j p hj
  rw [show k35.sz = 2 from rfl]
  match i, hu with
  | 0, hu =>
    simp at hu
    subst hu
    have := (own_cell h (j * 2) _ h0).1
    rw [add_plain]
    exact this
  | 1, hu =>
    simp at hu
    subst hu
    have := (own_cell h (j * 2 + 1) _ h1).1
    rw [add_plain]
    exact this
  | i + 2, hu => simp at hu
def RegPost (B : Nat) (q : List S35 × Int × Bool) (e : Ending) (w' : World) : Prop := ∃ v, e = .returned (.tuple #[v, .int .i64 q.2.1, .bool q.2.2]) ∧ w'.ownsRow B 35 2 v q.1.length (flat35 q.1)
theorem own_lower {w : World} {b b' n size : Nat} {e : TypeId} {v : Value} {xs : List Value} (h : w.ownsRow b e size v n xs) (hb : b' ≤ b) : w.ownsRow b' e size v n xs := by
  refine ⟨h.1, ?_⟩
  rcases h.2 with h0 | ⟨g, cap, cur, e1, e2, e3⟩
  · exact .inl h0
  · exact .inr ⟨g, cap, cur, e1, Nat.le_trans hb e2, e3⟩
theorem R_own35 {w : World} {base : Nat} {ok : Nat → Prop} {v : Value} {xs : List S35} (h : Kd.R k35 35 w base ok v xs) : w.ownsRow base 35 2 v xs.length (flat35 xs) := by
  obtain ⟨_, inner, ho, hr⟩ := h
  have : inner = flat35 xs := by
    have key : ∀ (xs : List S35) (inner : List Value), Reps (k35.M w base (fun k => ok k ∧ some k ≠ v.ownBlock)) k35.sz xs inner → inner = flat35 xs := by
      intro xs
      induction xs with
      | nil => intro inner h; exact List.eq_nil_of_length_eq_zero (by simpa using h.1)
      | cons x t ih =>
        intro inner h
        obtain ⟨h1, h2⟩ := h
        have hx := k35_openM (h2 0 x rfl)
        simp only [Nat.zero_mul, List.drop_zero] at hx
        have hlen : inner.length = (t.length + 1) * 2 := h1
        have ht := ih (inner.drop 2) ⟨by rw [List.length_drop, hlen]; show _ = t.length * 2; omega, fun j p hj => by
          have := h2 (j + 1) p (by simpa using hj)
          rw [show (j + 1) * k35.sz = 2 + j * k35.sz by rw [show k35.sz = 2 from rfl]; omega, ← List.drop_drop] at this
          exact this⟩
        rw [← List.take_append_drop 2 inner, ht]
        rw [show List.take 2 inner = List.take k35.sz inner from rfl, hx]
        rfl
    exact key xs inner hr
  rw [this] at ho
  exact ho
theorem entersFrom_ge (pc : Int) : ∀ (l : List S63) (i : Nat), entersFrom pc i l = -1 ∨ ∃ j, ∃ h : j < l.length, entersFrom pc i l = ((i + j : Nat) : Int) ∧ l[j].f0 = pc
  | [], _ => .inl rfl
  | b :: t, i => by
    simp only [entersFrom]
    by_cases h : b.f0 = pc
    · rw [if_pos h]
      exact .inr ⟨0, by simp, by simp, h⟩
    · rw [if_neg h]
      rcases entersFrom_ge pc t (i + 1) with h1 | ⟨j, hj, h1, h2⟩
      · exact .inl h1
      · exact .inr ⟨j + 1, by simp only [List.length_cons]; omega, by rw [h1]; congr 1; omega, h2⟩
theorem regFrom_enters (n pc : Int) (vs : List S35) : ∀ (l : List S63) (i : Nat), (entersFrom pc i l = -1 → PureR.regFrom n pc vs i l = ([], 0, false)) ∧ (∀ j : Nat, (h : j < l.length) → entersFrom pc i l = ((i + j : Nat) : Int) → PureR.regFrom n pc vs i l = match PureR.fillOf n l[j] vs with | some r => (r, ((i + j : Nat) : Int), true) | none => ([], 0, false))
  | [], i => ⟨fun _ => rfl, fun j h => absurd h (by simp)⟩
  | b :: t, i => by
    obtain ⟨h1, h2⟩ := regFrom_enters n pc vs t (i + 1)
    simp only [entersFrom, PureR.regFrom]
    by_cases h : b.f0 = pc
    · rw [if_pos h, if_pos h]
      refine ⟨fun e => absurd e (by omega), fun j hj e => ?_⟩
      obtain rfl : j = 0 := by omega
      rfl
    · rw [if_neg h, if_neg h]
      refine ⟨h1, fun j hj e => ?_⟩
      rcases entersFrom_ge pc t (i + 1) with h3 | ⟨j', hj', h3, _⟩
      · omega
      · obtain rfl : j = j' + 1 := by omega
        have := h2 j' hj' h3
        rw [this]
        simp only [List.getElem_cons_succ]
        rw [show i + 1 + j' = i + (j' + 1) by omega]
theorem fillOf_point (n : Int) (b : S63) (vs : List S35) : PureR.fillOf n b vs = match pointOf b with | some s => if s.f2.length = vs.length then PureR.fillAll n s.f2 vs (List.replicate n.toNat z35) else none | none => none := by
  unfold PureR.fillOf pointOf
  cases b.f1 with
  | nil => rfl
  | cons x t =>
    simp only
    by_cases h : x.f0 = 6
    · rw [if_pos h, if_pos h]
      rcases x.f7 with _ | ⟨s, _ | ⟨s2, r⟩⟩ <;> rfl
    · rw [if_neg h, if_neg h]
set_option maxHeartbeats 4000000 in
set_option maxRecDepth 100000 in
theorem ref_registers (c0 c1 f0 f1 : Int) (A B : Option Addr) (cA cB : Nat) (l : List S63) (vs : List S35) (w : World) (hA : k63.C w A l.length l) (hB : k35.C w B vs.length vs) (hs : PureR.SmallB l) (hv : vs.length ≤ 8796093021952) :
    Calls Try.prog 12 #[.agg #[.int .i64 c0, .int .i64 c1, .slice A l.length cA], .agg #[.int .i64 f0, .int .i64 f1, .slice B vs.length cB]] w fun e w' => Below w.heap.size w w' ∧ RegPost w.heap.size (PureR.regOf c0 c1 l f0 f1 vs) e w' := by
  have HA := Aside0.mk hA
  have HB := Aside0.mk hB
  have HS := Aside0.mk hs
  have hlen := hs.1
  have HV := hv
  clear hA hB hs hv
  go_enter Try.func12, Try.ntmps12
  go_upto_region 1 with (fail)
  have b1 := e4 w (.cells #[.int .i64 c0, .int .i64 c1, .slice A l.length cA] 24) (.cells #[.int .i64 f0, .int .i64 f1, .slice B vs.length cB] 27)
  have K0 := blk_alloc (blk_new w (.cells #[.int .i64 c0, .int .i64 c1, .slice A l.length cA] 24)) (.cells #[.int .i64 f0, .int .i64 f1, .slice B vs.length cB] 27)
  have K1 := blk_new (w.alloc (.cells #[.int .i64 c0, .int .i64 c1, .slice A l.length cA] 24)) (.cells #[.int .i64 f0, .int .i64 f1, .slice B vs.length cB] 27)
  rw [World.size_alloc] at K1
  generalize (w.alloc (.cells #[.int .i64 c0, .int .i64 c1, .slice A l.length cA] 24)).alloc (.cells #[.int .i64 f0, .int .i64 f1, .slice B vs.length cB] 27) = w1 at b1 K0 K1 ⊢
  generalize w.heap.size + 1 = g1 at K1 ⊢
  have HW := Aside0.mk b1
  generalize w.heap.size = g0 at K0 ⊢
  replace HA := Aside0.mk (Kd.C_below HA.out b1)
  replace HB := Aside0.mk (Kd.C_below HB.out b1)
  clear b1
  have q0 : w1.cell? ⟨g0, 0, none⟩ = some (.int .i64 c0) := blk_cell K0 0
  have q1 : w1.cell? ⟨g0, 1, none⟩ = some (.int .i64 c1) := blk_cell K0 1
  have q2 : w1.cell? ⟨g0, 2, none⟩ = some (.slice A l.length cA) := blk_cell K0 2
  have r1 : w1.cell? ⟨g1, 1, none⟩ = some (.int .i64 f1) := blk_cell K1 1
  replace K0 := Aside0.mk K0
  replace K1 := Aside0.mk K1
  go_wp2_with (fail)
  clear q0 q1 q2 r1
  refine (enters c0 c1 f1 A cA l w1 HA.out (by omega)).mono ?_
  rintro ee w2 ⟨rfl, b2⟩
  replace K0 := Aside0.mk (blk_below K0.out b2)
  replace K1 := Aside0.mk (blk_below K1.out b2)
  replace HA := Aside0.mk (Kd.C_below HA.out b2)
  replace HB := Aside0.mk (Kd.C_below HB.out b2)
  replace HW := Aside0.mk (wB HW.out b2)
  clear b2
  have q0 : w2.cell? ⟨g0, 0, none⟩ = some (.int .i64 c0) := blk_cell K0.out 0
  have q1 : w2.cell? ⟨g0, 1, none⟩ = some (.int .i64 c1) := blk_cell K0.out 1
  have q2 : w2.cell? ⟨g0, 2, none⟩ = some (.slice A l.length cA) := blk_cell K0.out 2
  have r0 : w2.cell? ⟨g1, 0, none⟩ = some (.int .i64 f0) := blk_cell K1.out 0
  have r2 : w2.cell? ⟨g1, 2, none⟩ = some (.slice B vs.length cB) := blk_cell K1.out 2
  have HE := Aside0.mk (entersFrom_ge f1 l 0)
  have HR := Aside0.mk (regFrom_enters c1 f1 vs l 0)
  generalize entersFrom f1 0 l = en at *
  by_cases a1 : c1 < 0
  · have HP := Aside0.mk (show PureR.regOf c0 c1 l f0 f1 vs = ([], 0, false) by unfold PureR.regOf; rw [if_pos (.inl a1)])
    go_wp2_with (fail)
    go_ret3
    exact ⟨HW.out, by rw [HP.out]; exact ⟨_, rfl, World.ownsRow_nil _ _ _ _⟩⟩
  have a1' : decide (c1 < 0) = false := decide_eq_false a1
  by_cases a2 : c1 > 512
  · have HP := Aside0.mk (show PureR.regOf c0 c1 l f0 f1 vs = ([], 0, false) by unfold PureR.regOf; rw [if_pos (.inr (.inl a2))])
    go_wp2_with (fail)
    go_ret3
    exact ⟨HW.out, by rw [HP.out]; exact ⟨_, rfl, World.ownsRow_nil _ _ _ _⟩⟩
  have a2' : decide (512 < c1) = false := decide_eq_false a2
  by_cases a3 : c0 = f0
  case neg =>
    have HP := Aside0.mk (show PureR.regOf c0 c1 l f0 f1 vs = ([], 0, false) by unfold PureR.regOf; rw [if_pos (.inr (.inr a3))])
    have a3' : (c0 != f0) = true := by rw [bne_iff_ne]; exact a3
    clear a3
    go_wp2_with (fail)
    go_ret3
    exact ⟨HW.out, by rw [HP.out]; exact ⟨_, rfl, World.ownsRow_nil _ _ _ _⟩⟩
  have HP := Aside0.mk (show PureR.regOf c0 c1 l f0 f1 vs = PureR.regFrom c1 f1 vs 0 l by unfold PureR.regOf; rw [if_neg (by rintro (h | h | h); exact a1 h; exact a2 h; exact h a3)])
  subst a3
  by_cases a4 : en < 0
  · have HP2 := Aside0.mk (HP.out.trans (HR.out.1 (by rcases HE.out with h | ⟨j, _, h, _⟩ <;> omega)))
    go_wp2_with (fail)
    go_ret3
    exact ⟨HW.out, by rw [HP2.out]; exact ⟨_, rfl, World.ownsRow_nil _ _ _ _⟩⟩
  have a4' : decide (en < 0) = false := decide_eq_false a4
  obtain ⟨j, hj, hen, hpc⟩ : ∃ j, ∃ h : j < l.length, en = (j : Int) ∧ l[j].f0 = f1 := by
    rcases HE.out with h | ⟨j, h1, h2, h3⟩
    · omega
    · exact ⟨j, h1, by rw [h2]; congr 1; omega, h3⟩
  have HP2 := Aside0.mk (HP.out.trans (HR.out.2 j hj (by rw [hen]; congr 1; omega)))
  obtain ⟨ad, A2, c2, A3, c3, rfl, x0, x1, x2, _, g65, _, _⟩ := at_T63 HA.out (j : Int) (by omega) (by omega)
  rw [rdE63 l j hj] at x0 x1 x2 g65
  have hbl := HS.out.2 l[j] (List.getElem_mem hj)
  have hbl1 := hbl.1.1
  have hbl2 : ∀ x ∈ l[j].f1, x.f7.length ≤ 17592186044416 := fun x hx => by have := (hbl.1.2 x hx).2.1; omega
  have hslots : ∀ s, pointOf l[j] = some s → s.f2.length ≤ 8796093021952 := by
    intro s hs
    unfold pointOf at hs
    cases hf : l[j].f1 with
    | nil => rw [hf] at hs; cases hs
    | cons x t =>
      rw [hf] at hs
      simp only at hs
      split at hs
      · have hx := (hbl.1.2 x (by rw [hf]; exact List.mem_cons_self)).2.2
        rcases h7 : x.f7 with _ | ⟨s1, _ | ⟨s2, r⟩⟩
        · rw [h7] at hs; cases hs
        · rw [h7] at hs
          cases hs
          have := hx s (by rw [h7]; exact List.mem_singleton.2 rfl)
          omega
        · rw [h7] at hs; cases hs
      · cases hs
  have HSL := Aside0.mk hslots
  have HF := Aside0.mk (fillOf_point c1 l[j] vs)
  have HEN := Aside0.mk hen
  rw [hen]
  have n0 : (j : Int) < (l.length : Int) := by omega
  rw [Int.toNat_natCast] at x0 x1 x2
  generalize l[j] = b at *
  have G65 := Aside0.mk g65
  have HX := Aside0.mk hbl2
  have HBL := Aside0.mk hbl1
  have hd0 : decide ((j : Int) < 0) = false := decide_eq_false (by omega)
  clear hbl hbl1 hbl2 hslots g65 hen a4 a4' hpc
  go_wp2_with (fail)
  refine (point b A2 A3 c2 c3 w2 G65.out (by have := HBL.out; omega) HX.out).mono ?_
  rintro ee w3 ⟨b3, hp⟩
  replace K0 := Aside0.mk (blk_below K0.out b3)
  replace K1 := Aside0.mk (blk_below K1.out b3)
  replace HB := Aside0.mk (Kd.C_below HB.out b3)
  replace HW := Aside0.mk (wB HW.out b3)
  replace q0 := pw_cell_below b3 q0
  replace q1 := pw_cell_below b3 q1
  replace r2 := pw_cell_below b3 r2
  clear b3 q2 r0 x0 x1 x2 G65
  cases hpt : pointOf b with
  | none =>
    rw [hpt] at hp
    obtain rfl := hp
    have HP3 := Aside0.mk (HP2.out.trans (by rw [HF.out, hpt]))
    clear hpt
    go_wp2_with (fail)
    go_ret3
    exact ⟨below_alloc HW.out _, by rw [HP3.out]; exact ⟨_, rfl, World.ownsRow_nil _ _ _ _⟩⟩
  | some s =>
    rw [hpt] at hp
    obtain ⟨v, rfl, A6, c6, rfl, hl6, g44⟩ := hp
    have HF2 := Aside0.mk (HF.out.trans (by rw [hpt]))
    have hsl := HSL.out s hpt
    have G44 := Aside0.mk g44
    have HL6 := Aside0.mk hl6
    clear hpt g44 hl6 HF
    go_upto_region 5 with (fail)
    have b3 := below_alloc (Below.refl _ w3) (.cells #[.int .i64 s.f0, .int .i64 s.f1, .slice A6 s.f2.length c6] 67)
    have K2 := blk_new w3 (.cells #[.int .i64 s.f0, .int .i64 s.f1, .slice A6 s.f2.length c6] 67)
    replace K0 := Aside0.mk (blk_below K0.out b3)
    replace K1 := Aside0.mk (blk_below K1.out b3)
    replace HB := Aside0.mk (Kd.C_below HB.out b3)
    replace HW := Aside0.mk (wB HW.out b3)
    replace G44 := Aside0.mk (Kd.C_below G44.out b3)
    clear b3 q0 q1 r2
    generalize w3.alloc (.cells #[.int .i64 s.f0, .int .i64 s.f1, .slice A6 s.f2.length c6] 67) = w4 at *
    generalize w3.heap.size = g2 at *
    have q1 : w4.cell? ⟨g0, 1, none⟩ = some (.int .i64 c1) := blk_cell K0.out 1
    have r2 : w4.cell? ⟨g1, 2, none⟩ = some (.slice B vs.length cB) := blk_cell K1.out 2
    have s2 : w4.cell? ⟨g2, 2, none⟩ = some (.slice A6 s.f2.length c6) := blk_cell K2 2
    replace K2 := Aside0.mk K2
    by_cases hsv : s.f2.length = vs.length
    case neg =>
      have HP3 : Aside0 (PureR.regOf c0 c1 l c0 f1 vs = ([], 0, false)) := ⟨by rw [HP2.out, HF2.out, if_neg hsv]⟩
      have hsv' : ((s.f2.length : Int) != (vs.length : Int)) = true := by rw [bne_iff_ne]; omega
      clear hsv
      go_wp2_with (fail)
      go_ret3
      exact ⟨HW.out, by rw [HP3.out]; exact ⟨_, rfl, World.ownsRow_nil _ _ _ _⟩⟩
    have HP3 : Aside0 (PureR.regOf c0 c1 l c0 f1 vs = match PureR.fillAll c1 s.f2 vs (List.replicate c1.toNat z35) with | some r => (r, ((0 + j : Nat) : Int), true) | none => ([], 0, false)) := ⟨by rw [HP2.out, HF2.out, if_pos hsv]⟩
    have hsv' : ((s.f2.length : Int) != (vs.length : Int)) = false := by rw [bne_eq_false_iff_eq]; omega
    have HSV := Aside0.mk hsv
    clear hsv
    have HW0 := Aside0.mk HW.out.size
    obtain ⟨m, rfl⟩ : ∃ m : Nat, c1 = (m : Int) := ⟨c1.toNat, by omega⟩
    have hm : m ≤ 512 := by omega
    rw [Int.toNat_natCast] at HP3
    clear a1 a1' a2 a2'
    go_wp2
    clear q1 r2 s2
    go_loopw [10, 11] (fun v t wr => ∃ i : Nat, i ≤ m ∧ t = .int .i64 i ∧ wr.ownsRow w4.heap.size 35 2 v i (flat35 (List.replicate i z35)) ∧ Below w4.heap.size w4 wr) (fun _ t _ => m - (intOf t).toNat)
    case atStart => exact ⟨0, Nat.zero_le _, rfl, World.ownsRow_nil _ _ _ _, Below.refl _ _⟩
    case round =>
      obtain ⟨i, hi, rfl, ho, hb⟩ := hrel
      have q1 : wr.cell? ⟨g0, 1, none⟩ = some (.int .i64 (m : Int)) := blk_cell (blk_below K0.out hb) 1
      have HO := Aside0.mk ho
      have HBL2 := Aside0.mk hb
      clear ho hb
      by_cases him : i < m
      · obtain ⟨i0, hi0, hz⟩ := Option.map_eq_some_iff.1 info35
        simp only [Prod.mk.injEq] at hz
        have HI := Aside0.mk hi0
        have HZ := Aside0.mk hz
        clear hi0 hz
        go_wp2_with (first | ((with_reducible refine gate_builtin (b := .append) (xs := #[.tmp 63, .tmp 65]) rfl ?_); at_builtin; refine wpList_append_two rfl (.tmp 63) (.tmp 65) 25 rfl w4.heap.size 35 i0 (.agg #[.int .i64 0, .int .i64 0]) 2 16 Try.underlying25 HI.out HZ.out.1 HZ.out.2.1 HZ.out.2.2 rfl (by decide) u10 i (flat35 (List.replicate i z35)) rfl ?aO ⟨wr.heap.size, 0, none⟩ 1 1 [.int .i64 0, .int .i64 0] rfl rfl (cells_new wr _ 35) ?aU (by decide) ?aL ?aB ?aH ?_; (case aO => exact (But.of_below (below_alloc (Below.refl _ _) _)).own HO.out (fun _ _ h => h)); (case aU => simp [Value.oneCell']); (case aL => unfold maxLen; omega); (case aB => omega); (case aH => have := HBL2.out.size; simp; omega); intro g cap w9 k1 k2 k3; have Q := Aside0.mk (And.intro k1 (And.intro k2 k3)); clear k1 k2 k3))
        clear q1
        go_roundw
        case rel =>
          obtain ⟨k1, k2, k3⟩ := Q.out
          refine ⟨i + 1, by omega, by go_num, ?_, ?_⟩
          · rw [List.replicate_succ', flat35_append]
            exact k1
          · have ba := below_alloc (Below.refl _ wr) (.cells #[.int .i64 0, .int .i64 0] 35)
            have b5 := HBL2.out.trans (ba.mono HBL2.out.size)
            have hown := (But.of_below ba).own HO.out (fun _ _ h => h)
            rcases k3 with ⟨e, hg⟩ | ⟨_, hg⟩
            · exact b5.trans ((But.of_grown hg).to_below (by have := b5.size; exact this) (fun q hq => by have := own_base hown q (by rw [e]; exact hq); exact this))
            · exact b5.trans ((But.of_grown hg).to_below b5.size (fun q hq => by cases hq))
        case measure => simp [intOf]; omega
      · obtain rfl : i = m := by omega
        clear q1
        have q1 : wr.cell? ⟨g0, 1, none⟩ = some (.int .i64 (i : Int)) := blk_cell (blk_below K0.out HBL2.out) 1
        go_wp2
        clear q1
        have HSL2 := Aside0.mk hsl
        go_loopw [12, 13] (fun t _ wr => ∃ q : Nat, q ≤ s.f2.length ∧ t = .int .i64 q ∧ ∃ acc : List S35, acc.length = i ∧ wr.ownsRow w4.heap.size 35 2 u10 i (flat35 acc) ∧ PureR.fillAll i (s.f2.drop q) (vs.drop q) acc = PureR.fillAll i s.f2 vs (List.replicate i z35) ∧ Below w4.heap.size w4 wr) (fun t _ _ => s.f2.length - (intOf t).toNat)
        case atStart => exact ⟨0, Nat.zero_le _, rfl, List.replicate i z35, List.length_replicate, HO.out, rfl, HBL2.out⟩
        case round =>
          clear HO HBL2
          obtain ⟨q, hq, rfl, acc, hac, ho, hfa, hb⟩ := hrel
          have s2 : wr.cell? ⟨g2, 2, none⟩ = some (.slice A6 s.f2.length c6) := blk_cell (blk_below K2.out hb) 2
          have HO := Aside0.mk ho
          have HAC := Aside0.mk hac
          have HFA := Aside0.mk hfa
          have HBL2 := Aside0.mk hb
          clear ho hac hfa hb
          by_cases hql : q < s.f2.length
          · have hqv : q < vs.length := by rw [← HSV.out]; exact hql
            obtain ⟨a6, rfl, o0, o1⟩ := at_T44 (Kd.C_below G44.out HBL2.out) (q : Int) (by omega) (by omega)
            obtain ⟨a7, rfl, v0, v1⟩ := at_T35 (Kd.C_below HB.out HBL2.out) (q : Int) (by omega) (by omega)
            have HD := Aside0.mk (show PureR.fillAll i (s.f2.drop q) (vs.drop q) acc = if (rd_T44 s.f2 (q : Int)).f0 = 0 ∧ 0 ≤ (rd_T44 s.f2 (q : Int)).f1 ∧ (rd_T44 s.f2 (q : Int)).f1 < i then PureR.fillAll i (s.f2.drop (q + 1)) (vs.drop (q + 1)) (acc.set (rd_T44 s.f2 (q : Int)).f1.toNat (rd_T35 vs (q : Int))) else none by
              rw [PureR.drop_cons _ q hql, PureR.drop_cons _ q hqv, PureR.rd44 _ q hql, PureR.rd35 _ q hqv]; rfl)
            rw [Int.toNat_natCast] at o0 o1 v0 v1
            generalize rd_T44 s.f2 (q : Int) = o at *
            generalize rd_T35 vs (q : Int) = x at *
            go_upto_region 16 with (fail)
            have b3 := below_alloc (Below.refl _ wr) (.cells #[.int .i64 o.f0, .int .i64 o.f1] 44)
            have K5 := blk_new wr (.cells #[.int .i64 o.f0, .int .i64 o.f1] 44)
            have hge := HBL2.out.size
            have HGE := Aside0.mk hge
            clear hge
            replace HO := Aside0.mk ((But.of_below b3).own HO.out (fun _ _ h => h))
            replace HBL2 := Aside0.mk (HBL2.out.trans (b3.mono HBL2.out.size))
            replace v0 := pw_cell_below b3 v0
            replace v1 := pw_cell_below b3 v1
            clear b3 s2 o0 o1
            generalize wr.alloc (.cells #[.int .i64 o.f0, .int .i64 o.f1] 44) = wx at *
            generalize hg5 : wr.heap.size = g5 at *
            have p0 : wx.cell? ⟨g5, 0, none⟩ = some (.int .i64 o.f0) := blk_cell K5 0
            have p1 : wx.cell? ⟨g5, 1, none⟩ = some (.int .i64 o.f1) := blk_cell K5 1
            have q1 : wx.cell? ⟨g0, 1, none⟩ = some (.int .i64 (i : Int)) := blk_cell (blk_below K0.out HBL2.out) 1
            have r2 : wx.cell? ⟨g1, 2, none⟩ = some (.slice (some a7) vs.length cB) := blk_cell (blk_below K1.out HBL2.out) 2
            clear K5 hg5
            by_cases h0 : o.f0 = 0
            case neg =>
              have HN := Aside0.mk (show PureR.fillAll i s.f2 vs (List.replicate i z35) = none by rw [← HFA.out, HD.out, if_neg (fun h => h0 h.1)])
              have h0' : (o.f0 != 0) = true := by rw [bne_iff_ne]; exact h0
              clear h0
              go_wp2_with (fail)
              go_ret3
              exact ⟨wB HW.out HBL2.out, by rw [HP3.out, HN.out]; exact ⟨_, rfl, World.ownsRow_nil _ _ _ _⟩⟩
            rw [h0] at p0
            have HH0 := Aside0.mk h0
            clear h0
            go_wp2_with (fail)
            refine (in_ o.f1 i wx).mono ?_
            rintro ee w' ⟨rfl, rfl⟩
            cases hin : inB o.f1 i with
            | false =>
              have hni : ¬ (0 ≤ o.f1 ∧ o.f1 < (i : Int)) := of_decide_eq_false hin
              have HN := Aside0.mk (show PureR.fillAll i s.f2 vs (List.replicate i z35) = none by rw [← HFA.out, HD.out, if_neg (fun h => hni h.2)])
              clear hin hni
              go_wp2_with (fail)
              go_ret3
              exact ⟨wB HW.out HBL2.out, by rw [HP3.out, HN.out]; exact ⟨_, rfl, World.ownsRow_nil _ _ _ _⟩⟩
            | true =>
              have hyi : 0 ≤ o.f1 ∧ o.f1 < (i : Int) := of_decide_eq_true hin
              have HN := Aside0.mk (HFA.out.symm.trans (by rw [HD.out, if_pos ⟨HH0.out, hyi.1, hyi.2⟩]))
              obtain ⟨j', hj'⟩ : ∃ j' : Nat, o.f1 = (j' : Int) := ⟨o.f1.toNat, by omega⟩
              obtain ⟨g10, cp10, hu, _, _⟩ := HO.out.form (by omega)
              subst hu
              have hji : j' < i := by omega
              have hfl := flat35_len acc
              have hac := HAC.out
              obtain ⟨e0, f0'⟩ := own_cell HO.out (j' * 2) _ (List.getElem?_eq_getElem (by omega))
              obtain ⟨e1, f1'⟩ := own_cell HO.out (j' * 2 + 1) _ (List.getElem?_eq_getElem (by omega))
              generalize (flat35 acc)[j' * 2] = y0 at e0
              generalize (flat35 acc)[j' * 2 + 1] = y1 at e1
              rw [hj'] at p1
              have HJ := Aside0.mk hj'
              clear hin hyi hj' hfl hac
              go_wp2_with (fail)
              go_still_tail 9, (by kernel_rfl)
              change wpList _ _ _ _ _ wx.drew
              have HOy := Aside0.mk (show wx.drew.ownsRow w4.heap.size 35 2 (.slice (some ⟨g10, 0, none⟩) i cp10) i (flat35 acc) from HO.out)
              have HBy := Aside0.mk (show Below w4.heap.size w4 wx.drew from below_drew HBL2.out)
              have e0' : wx.drew.cell? ⟨g10, j' * 2, none⟩ = some y0 := e0
              have e1' : wx.drew.cell? ⟨g10, j' * 2 + 1, none⟩ = some y1 := e1
              have ff0 : wx.drew.frozen? ⟨g10, j' * 2, none⟩ = false := f0'
              have ff1 : wx.drew.frozen? ⟨g10, j' * 2 + 1, none⟩ = false := f1'
              clear e0 e1 f0' f1' p0 p1 q1 r2 v0 v1 HO HBL2
              generalize wx.drew = wy at *
              go_wp2
              go_roundw
              case rel =>
                refine ⟨q + 1, by omega, by go_num, acc.set j' x, by rw [List.length_set]; exact HAC.out, ?_, ?_, ?_⟩
                · rw [← flat35_set]
                  exact own_set (own_set HOy.out (j' * 2) _) (j' * 2 + 1) _
                · have := HN.out
                  rw [HJ.out, Int.toNat_natCast] at this
                  exact this.symm
                · have hgb := own_base HOy.out g10 rfl
                  exact (HBy.out.setCell hgb _).setCell hgb _
              case measure => simp [intOf]; omega
          · obtain rfl : q = s.f2.length := by omega
            have HN := Aside0.mk (show PureR.fillAll i s.f2 vs (List.replicate i z35) = some acc by rw [← HFA.out, List.drop_length]; rfl)
            go_wp2
            go_ret3
            refine ⟨wB HW.out HBL2.out, ?_⟩
            rw [HP3.out, HN.out, Nat.zero_add]
            have hac := HAC.out
            have ho := HO.out
            rw [← hac] at ho
            exact ⟨_, rfl, own_lower ho HW0.out⟩
end Go.Proofs.Ytgbbcjooieggpaa.PRegs
