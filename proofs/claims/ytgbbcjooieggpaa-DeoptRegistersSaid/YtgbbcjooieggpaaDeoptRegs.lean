/- DeoptRegisters' contract: the registers that a frame enters with are the document's; what was handed in is as it was; answers are new memory. For every input of a length that memory can hold. -/
import Derived.Test.YtgbbcjooieggpaaKeptV
import Derived.Test.YtgbbcjooieggpaaPureRegs2
import Derived.Test.YtgbbcjooieggpaaRegLast
import Derived.Test.YtgbbcjooieggpaaApart
namespace Go.Proofs.Ytgbbcjooieggpaa.PRegs
open Go.RowKit Go.Proofs.Ytgbbcjooieggpaa.Lit Go.Proofs.Ytgbbcjooieggpaa.OwnCells Go.Proofs.YtgbbcjooieggpaaW.PrintWords Go.Proofs.YtgbbcjooieggpaaW.PrintLast Go.Proofs.YtgbbcjooieggpaaW.PrintMore
set_option linter.unusedVariables false
set_option linter.unusedSimpArgs false
/-- a box that was made, at a block from W4 on -/
def BoxAt (W4 : Nat) (cs : Array Value) (t : TypeId) (w : World) (v : Value) : Prop := ∃ g, v = .pointer (some ⟨g, 0, none⟩) ∧ W4 ≤ g ∧ w.heap[g]? = some (.cells cs t (0, 0))
theorem BoxAt.below {W4 : Nat} {cs : Array Value} {t : TypeId} {w w1 : World} {v : Value} (h : BoxAt W4 cs t w v) (hb : Below w.heap.size w w1) : BoxAt W4 cs t w1 v := let ⟨g, h1, h2, h3⟩ := h; ⟨g, h1, h2, blk_below h3 hb⟩
theorem own_prefix {w : World} {base g n m cap : Nat} {X Y : List S35} (h : w.ownsRow base 35 2 (.slice (some ⟨g, 0, none⟩) n cap) n (flat35 X)) (hX : X.length = n) (hm : m ≤ n) (hY : Y = X.take m) (hl : n ≤ 9223372036854775807) : k35.C w (some ⟨g, 0, none⟩) m Y := by
  obtain ⟨A, c, he, _, hC⟩ := own_Sl35 (l := X) (by rw [hX]; exact h) (by omega)
  cases he
  refine ⟨by rw [hY, List.length_take]; omega, by omega, fun hn => ?_⟩
  obtain ⟨ad, h1, h2⟩ := hC.2.2 (by omega)
  refine ⟨ad, h1, fun j p hj => h2 j p ?_⟩
  rw [hY, List.getElem?_take] at hj
  split at hj
  · exact hj
  · cases hj
theorem same_own (A B : Option Addr) (c d b1 b2 : Nat) (x : List S35) (w : World) (h1 : w.ownsRow b1 35 2 (.slice A x.length c) x.length (flat35 x)) (h2 : w.ownsRow b2 35 2 (.slice B x.length d) x.length (flat35 x)) (hl : x.length ≤ 8796093022208) :
    Calls Try.prog 14 #[.slice A x.length c, .slice B x.length d] w fun e w' => e = .returned (.bool true) ∧ Below w.heap.size w w' := by
  obtain ⟨k, hk⟩ := PureR.sameV x (by omega)
  obtain ⟨A', c', e1, g1, C1⟩ := own_Sl35 h1 (by omega)
  obtain ⟨B', d', e2, g2, C2⟩ := own_Sl35 h2 (by omega)
  cases e1
  cases e2
  exact (portageref0_SameValues.calls k A c x B d x true w C1 g1 C2 g2 hk).mono fun e w' h => ⟨h.1, h.2.below⟩
theorem kept_own (gS cS b1 : Nat) (B : Option Addr) (d : Nat) (s : List S35) (w : World) (h1 : w.ownsRow b1 35 2 (.slice (some ⟨gS, 0, none⟩) (s.length + 64) cS) (s.length + 64) (flat35 (s ++ PureR.sp 64))) (hB : k35.C w B s.length s) (hl : s.length ≤ 8796093021952) :
    Calls Try.prog 15 #[.slice (some ⟨gS, 0, none⟩) (s.length + 64) cS, .slice B s.length d] w fun e w' => e = .returned (.bool true) ∧ Below w.heap.size w w' := by
  have hn : (s ++ sp35 64).length = s.length + 64 := by rw [List.length_append, sp35_len]
  have hC : k35.C w (some ⟨gS, 0, none⟩) (s ++ sp35 64).length (s ++ sp35 64) := by
    rw [hn]
    exact own_prefix h1 (by rw [← hn]; rfl) (Nat.le_refl _) (by rw [← hn]; exact (List.take_length).symm) (by omega)
  have h := kept_values (some ⟨gS, 0, none⟩) B cS d s w hC hB hl
  rw [hn] at h
  exact h
theorem own_copyB (A : Option Addr) (c : Nat) (x : List S35) (b : Nat) (w : World) (h : w.ownsRow b 35 2 (.slice A x.length c) x.length (flat35 x)) (hl : x.length ≤ 8796093022208) :
    Calls Try.prog 17 #[.slice A x.length c] w fun e w' => ∃ A' c', e = .returned (.slice A' x.length c') ∧ x.length ≤ c' ∧ w'.ownsRow w.heap.size 35 2 (.slice A' x.length c') x.length (flat35 x) ∧ Below w.heap.size w w' := by
  obtain ⟨k, p⟩ := PureR.copyV x hl
  obtain ⟨A', c', e1, g1, C1⟩ := own_Sl35 h (by omega)
  cases e1
  refine (portageref0_CopyValues.calls k A c x x w C1 g1 (p k (Nat.le_refl _))).mono ?_
  rintro e w' ⟨v, rfl, hR, b⟩
  have hO := R_own35 hR
  obtain ⟨A', c', rfl, hc'⟩ := own_form hO
  exact ⟨A', c', rfl, hc', hO, b⟩
def RowAt (base : Nat) (q : List S35) (w : World) (v : Value) : Prop := ∃ A c, v = .slice A q.length c ∧ q.length ≤ c ∧ w.ownsRow base 35 2 (.slice A q.length c) q.length (flat35 q)
theorem RowAt.below {base : Nat} {q : List S35} {w w1 : World} {v : Value} (h : RowAt base q w v) (hb : Below w.heap.size w w1) : RowAt base q w1 v := let ⟨A, c, h1, h2, h3⟩ := h; ⟨A, c, h1, h2, (But.of_below hb).own h3 (fun _ _ h => h)⟩
theorem RowAt.of_own {base b : Nat} {q : List S35} {w : World} {v : Value} (h : w.ownsRow base 35 2 v q.length (flat35 q)) (hb : b ≤ base) : RowAt b q w v := by
  obtain ⟨A, c, rfl, hc⟩ := own_form h
  exact ⟨A, c, rfl, hc, own_lower h hb⟩
def TupAt (base : Nat) (q : List S35) (b : Int) (o : Bool) (w : World) (v : Value) : Prop := ∃ u, v = .tuple #[u, .int .i64 b, .bool o] ∧ RowAt base q w u
theorem TupAt.below {base : Nat} {q : List S35} {b : Int} {o : Bool} {w w1 : World} {v : Value} (h : TupAt base q b o w v) (hb : Below w.heap.size w w1) : TupAt base q b o w1 v := let ⟨u, h1, h2⟩ := h; ⟨u, h1, h2.below hb⟩
theorem own_ge {w : World} {base n size : Nat} {e : TypeId} {v : Value} {xs : List Value} (h : w.ownsRow base e size v n xs) (b : Nat) (hb : v.ownBlock = some b) : base ≤ b ∧ b < w.heap.size := by
  rcases h.2 with ⟨h0, _⟩ | ⟨g', cap', cur, he, hb', hg, _⟩
  · rw [h0] at hb; cases hb
  · rw [he] at hb; cases hb
    exact ⟨hb', (Array.getElem?_eq_some_iff.1 hg).1⟩
theorem ref_now (c0 c1 f0 f1 : Int) (A : Option Addr) (cA : Nat) (l : List S63) (g cN base n : Nat) (X Y q2 : List S35) (qb : Int) (qo : Bool) (w : World) (hA : k63.C w A l.length l) (hO : w.ownsRow base 35 2 (.slice (some ⟨g, 0, none⟩) (n + 64) cN) (n + 64) (flat35 X)) (hX : X.length = n + 64) (hY : Y = X.take n) (hq : PureR.regOf c0 c1 l f0 f1 Y = (q2, qb, qo)) (hs : PureR.SmallB l) (hn : n ≤ 8796093021952) :
    Calls Try.prog 12 #[.agg #[.int .i64 c0, .int .i64 c1, .slice A l.length cA], .agg #[.int .i64 f0, .int .i64 f1, .slice (some ⟨g, 0, none⟩) n cN]] w fun e w' => ∃ v, e = .returned v ∧ TupAt 0 q2 qb qo w' v ∧ Below w.heap.size w w' := by
  have hl : Y.length = n := by rw [hY, List.length_take]; omega
  have hC := own_prefix hO hX (Nat.le_add_right n 64) hY (by omega)
  have h := ref_registers c0 c1 f0 f1 A (some ⟨g, 0, none⟩) cA cN l Y w hA (by rw [hl]; exact hC) hs (by omega)
  rw [hl] at h
  refine h.mono ?_
  rintro e w' ⟨b, v, rfl, hw⟩
  rw [hq] at hw ⊢
  exact ⟨_, rfl, ⟨v, rfl, RowAt.of_own hw (Nat.zero_le _)⟩, b⟩
theorem got_now (c0 c1 f0 f1 : Int) (A : Option Addr) (cA : Nat) (l : List S63) (g cN base n : Nat) (X Y q2 : List S35) (qb : Int) (qo : Bool) (w : World) (hA : k63.C w A l.length l) (hlA : l.length ≤ cA) (hO : w.ownsRow base 35 2 (.slice (some ⟨g, 0, none⟩) (n + 64) cN) (n + 64) (flat35 X)) (hX : X.length = n + 64) (hY : Y = X.take n) (hq : PureR.regOf c0 c1 l f0 f1 Y = (q2, qb, qo)) (hs : PureR.SmallB l) (hn : n ≤ 8796093021952) :
    Calls Try.prog 13 #[.agg #[.int .i64 c0, .int .i64 c1, .slice A l.length cA], .agg #[.int .i64 f0, .int .i64 f1, .slice (some ⟨g, 0, none⟩) n cN]] w fun e w' => ∃ A' c', e = .returned (.tuple #[.slice A' q2.length c', .int .i64 qb, .bool qo]) ∧ q2.length ≤ c' ∧ w'.ownsRow w.heap.size 35 2 (.slice A' q2.length c') q2.length (flat35 q2) ∧ Below w.heap.size w w' := by
  have hl : Y.length = n := by rw [hY, List.length_take]; omega
  have hC := own_prefix hO hX (Nat.le_add_right n 64) hY (by omega)
  obtain ⟨k, p⟩ := PureR.reg_ev c0 c1 f0 f1 l Y hs (by omega)
  have hk : deopt_Registers.f k c0 c1 l f0 f1 Y = _ := p k (Nat.le_refl _)
  rw [hq] at hk
  obtain ⟨_, _, e1, hc⟩ := own_form hO
  cases e1
  have h := deopt_Registers.calls k c0 c1 A cA l f0 f1 (some ⟨g, 0, none⟩) cN Y q2 qb qo w hA hlA (by rw [hl]; exact hC) (by omega) hk
  rw [hl] at h
  refine h.mono ?_
  rintro e w' ⟨v, rfl, hR, b⟩
  have hO2 := R_own35 hR
  obtain ⟨A', c', rfl, hc'⟩ := own_form hO2
  exact ⟨A', c', rfl, hc', hO2, b⟩
def V2 (a b : Value) : Nat → Value
  | 0 => a
  | _ => b
def L2 (a b : Nat) : Nat → Nat
  | 0 => a
  | _ => b
def X2 (a b : List Value) : Nat → List Value
  | 0 => a
  | _ => b
theorem apart_two (A B : Option Addr) (c d base : Nat) (q q2 : List S35) (w : World) (hw : base ≤ w.heap.size) (h1 : w.ownsRow base 35 2 (.slice A q.length c) q.length (flat35 q)) (h2 : w.ownsRow base 35 2 (.slice B q2.length d) q2.length (flat35 q2)) (hne : ∀ b, (Value.slice A q.length c).ownBlock = some b → (Value.slice B q2.length d).ownBlock ≠ some b) (hl1 : q.length ≤ 512) (hl2 : q2.length ≤ 512) :
    Calls Try.prog 18 #[.slice (some ⟨w.heap.size, 0, none⟩) 2 2] (w.alloc (.cells #[.slice A q.length c, .slice B q2.length d] 25)) fun e w' => e = .returned (.bool true) ∧ But (fun b => (Value.slice A q.length c).ownBlock = some b ∨ (Value.slice B q2.length d).ownBlock = some b) (w.alloc (.cells #[.slice A q.length c, .slice B q2.length d] 25)) w' := by
  have hb := below_alloc (Below.refl _ w) (.cells #[.slice A q.length c, .slice B q2.length d] 25)
  refine (PFrames.apart_values (V2 (.slice A q.length c) (.slice B q2.length d)) (L2 q.length q2.length) 2 base (some ⟨w.heap.size, 0, none⟩) 2 _ (X2 (flat35 q) (flat35 q2)) ⟨?_, ?_, by decide, ?_, by rw [World.size_alloc]; omega⟩ ⟨?_, ?_, But.refl _ _⟩).mono ?_
  · intro i j b hi hj hij h e
    match i, j, hi, hj with
    | 0, 0, _, _ => exact hij rfl
    | 0, 1, _, _ => exact hne b h e
    | 1, 0, _, _ => exact hne b e h
    | 1, 1, _, _ => exact hij rfl
  · intro j b a hj ha h
    cases ha
    match j, hj with
    | 0, _ => have := (own_ge h1 b h).2; show w.heap.size ≠ b; omega
    | 1, _ => have := (own_ge h2 b h).2; show w.heap.size ≠ b; omega
  · intro j hj
    match j, hj with
    | 0, _ => show (q.length + 64) * 16 ≤ 140737488355328; omega
    | 1, _ => show (q2.length + 64) * 16 ≤ 140737488355328; omega
  · intro j hj
    match j, hj with
    | 0, _ => exact (But.of_below hb).own h1 (fun _ _ h => h)
    | 1, _ => exact (But.of_below hb).own h2 (fun _ _ h => h)
  · intro j hj
    refine ⟨_, rfl, ?_⟩
    match j, hj with
    | 0, _ => exact cells_new w [.slice A q.length c, .slice B q2.length d] 25 0 _ rfl
    | 1, _ => exact cells_new w [.slice A q.length c, .slice B q2.length d] 25 1 _ rfl
  · rintro e w' ⟨he, hB⟩
    refine ⟨he, hB.mono fun b h => ?_⟩
    obtain ⟨j, hj, h⟩ := h
    match j, hj with
    | 0, _ => exact .inl h
    | 1, _ => exact .inr h
structure RegsOk (l : List S63) (s : List S35) : Prop where
  blocks : PureR.SmallB l
  slots : s.length * 16 ≤ 140737488351232
theorem small_of {l : List S63} (h : PureR.SmallB l) : SmallB' l := ⟨by have := h.1; omega, fun b hb => by have := h.2 b hb; exact ⟨by have := this.1.1; omega, by have := this.2; omega⟩, fun b hb x hx => by have := (h.2 b hb).1.2 x hx; exact ⟨by have := this.1; omega, by have := this.2.1; omega, fun s hs => by have := this.2.2 s hs; omega⟩⟩
def dL3 : Nat → Option Tmp
  | 0 => some 26
  | 1 => some 27
  | 2 => some 28
  | 3 => some 29
  | 4 => some 30
  | 5 => some 31
  | 6 => some 32
  | 7 => some 33
  | 8 => some 34
  | 9 => some 35
  | 10 => some 7
  | _ => none
def FL3 (f0 f1 : Int) (B : Option Addr) (cB gS cS n g3 W4 : Nat) : Nat → World → Value → Prop
  | 0, _, v => v = .pointer (some ⟨g3, 0, none⟩)
  | 1, _, v => v = .int .i64 f0
  | 2, _, v => v = .pointer (some ⟨g3, 1, none⟩)
  | 3, _, v => v = .int .i64 f1
  | 4, _, v => v = .slice (some ⟨gS, 0, none⟩) (n + 64) cS
  | 5, _, v => v = .pointer (some ⟨g3, 2, none⟩)
  | 6, _, v => v = .slice B n cB
  | 7, _, v => v = .int .i64 (n : Int)
  | 8, _, v => v = .slice (some ⟨gS, 0, none⟩) n cS
  | 9, _, v => v = .agg #[.int .i64 f0, .int .i64 f1, .slice (some ⟨gS, 0, none⟩) n cS]
  | 10, w, v => BoxAt W4 #[.int .i64 0, .int .i64 0, .slice none 0 0] 27 w v
  | _, _, _ => True
theorem FL3_below (f0 f1 : Int) (B : Option Addr) (cB gS cS n g3 W4 : Nat) (i : Nat) (w w1 : World) (v : Value) (h : FL3 f0 f1  B  cB gS cS n g3 W4  i w v) (hb : Below w.heap.size w w1) : FL3 f0 f1  B  cB gS cS n g3 W4  i w1 v := by
  match i with
  | 0 | 1 | 2 | 3 | 4 | 5 | 6 | 7 | 8 | 9 => exact h
  | 10 => exact h.below hb
  | (n + 11) => exact h
def dL11 : Nat → Option Tmp
  | 0 => some 87
  | 1 => some 88
  | 2 => some 89
  | 3 => some 90
  | 4 => some 91
  | 5 => some 92
  | 6 => some 93
  | 7 => some 94
  | 8 => some 95
  | 9 => some 96
  | 10 => some 97
  | 11 => some 98
  | 12 => some 86
  | 13 => some 99
  | 14 => some 100
  | 15 => some 101
  | 16 => some 15
  | 17 => some 16
  | 18 => some 17
  | _ => none
def FL11 (f0 f1 : Int) (B : Option Addr) (cB gN cN n g3 : Nat) (q2 : List S35) (qb : Int) (qo : Bool) (ac : Value) : Nat → World → Value → Prop
  | 0, _, v => v = ac
  | 1, _, v => v = .pointer (some ⟨g3, 0, none⟩)
  | 2, _, v => v = .int .i64 f0
  | 3, _, v => v = .pointer (some ⟨g3, 1, none⟩)
  | 4, _, v => v = .int .i64 f1
  | 5, _, v => v = .slice (some ⟨gN, 0, none⟩) (n + 64) cN
  | 6, _, v => v = .pointer (some ⟨g3, 2, none⟩)
  | 7, _, v => v = .slice B n cB
  | 8, _, v => v = .int .i64 (n : Int)
  | 9, _, v => v = .slice (some ⟨gN, 0, none⟩) n cN
  | 10, _, v => v = .agg #[.int .i64 f0, .int .i64 f1, .slice (some ⟨gN, 0, none⟩) n cN]
  | 11, w, v => TupAt 0 q2 qb qo w v
  | 12, w, v => TupAt 0 q2 qb qo w v
  | 13, w, v => RowAt 0 q2 w v
  | 14, _, v => v = .int .i64 qb
  | 15, _, v => v = .bool qo
  | 16, w, v => RowAt 0 q2 w v
  | 17, _, v => v = .int .i64 qb
  | 18, _, v => v = .bool qo
  | _, _, _ => True
theorem FL11_below (f0 f1 : Int) (B : Option Addr) (cB gN cN n g3 : Nat) (q2 : List S35) (qb : Int) (qo : Bool) (ac : Value) (i : Nat) (w w1 : World) (v : Value) (h : FL11 f0 f1  B  cB gN cN n g3  q2  qb  qo  ac  i w v) (hb : Below w.heap.size w w1) : FL11 f0 f1  B  cB gN cN n g3  q2  qb  qo  ac  i w1 v := by
  match i with
  | 0 | 1 | 2 | 3 | 4 | 5 | 6 | 7 | 8 | 9 | 10 | 14 | 15 | 17 | 18 => exact h
  | 11 | 12 | 13 | 16 => exact h.below hb
  | (n + 19) => exact h
set_option maxHeartbeats 8000000 in
set_option maxRecDepth 100000 in
theorem portagelaw26_DeoptRegisters.calls (c0 c1 : Int) (A : Option Addr) (cA : Nat) (l : List S63) (f0 f1 : Int) (B : Option Addr) (cB : Nat) (s : List S35) (r : Bool) (w : World)
    (hA : Kd.C k63 w A l.length l) (hlA : l.length ≤ cA) (hB : Kd.C k35 w B s.length s) (hlB : s.length ≤ cB) (h : RegsOk l s ∧ r = true) :
    Calls Try.prog 3 #[.agg #[.int .i64 c0, .int .i64 c1, .slice A l.length cA], .agg #[.int .i64 f0, .int .i64 f1, .slice B s.length cB]] w fun e w' => e = .returned (.bool r) ∧ Below w.heap.size w w' := by
  obtain ⟨hOK, rfl⟩ := h
  obtain ⟨k1, p1⟩ := PureR.copyB c0 c1 l hOK.blocks
  obtain ⟨k2, p2⟩ := PureR.lent_ev s (by have := hOK.slots; omega)
  have H1 := Aside0.mk (p1 k1 (Nat.le_refl _))
  have H2 := Aside0.mk (p2 k2 (Nat.le_refl _))
  clear p1 p2
  have HA := Aside0.mk hA
  have HB := Aside0.mk hB
  have HLA := Aside0.mk hlA
  have HLB := Aside0.mk hlB
  have HOK := Aside0.mk hOK
  have hsn := hOK.slots
  have hln := hOK.blocks.1
  clear hA hB hlA hlB hOK
  go_enter Try.func3, Try.ntmps3
  go_upto_region 1 with (fail)
  have b1 := e4 w (.cells #[.int .i64 c0, .int .i64 c1, .slice A l.length cA] 24) (.cells #[.int .i64 f0, .int .i64 f1, .slice B s.length cB] 27)
  have K2 := blk_alloc (blk_new w (.cells #[.int .i64 c0, .int .i64 c1, .slice A l.length cA] 24)) (.cells #[.int .i64 f0, .int .i64 f1, .slice B s.length cB] 27)
  have K3 := blk_new (w.alloc (.cells #[.int .i64 c0, .int .i64 c1, .slice A l.length cA] 24)) (.cells #[.int .i64 f0, .int .i64 f1, .slice B s.length cB] 27)
  rw [World.size_alloc] at K3
  generalize (w.alloc (.cells #[.int .i64 c0, .int .i64 c1, .slice A l.length cA] 24)).alloc (.cells #[.int .i64 f0, .int .i64 f1, .slice B s.length cB] 27) = w1 at b1 K2 K3 ⊢
  generalize w.heap.size + 1 = g3 at K3 ⊢
  have HW := Aside0.mk b1
  generalize w.heap.size = g2 at K2 ⊢
  replace HA := Aside0.mk (Kd.C_below HA.out b1)
  replace HB := Aside0.mk (Kd.C_below HB.out b1)
  clear b1
  have q0 : w1.cell? ⟨g2, 0, none⟩ = some (.int .i64 c0) := blk_cell K2 0
  have q1 : w1.cell? ⟨g2, 1, none⟩ = some (.int .i64 c1) := blk_cell K2 1
  have q2 : w1.cell? ⟨g2, 2, none⟩ = some (.slice A l.length cA) := blk_cell K2 2
  replace K2 := Aside0.mk K2
  replace K3 := Aside0.mk K3
  go_wp2_with (fail)
  clear q0 q1 q2
  refine (portageref0_CopyRegs.calls k1 c0 c1 A cA l c0 c1 l w1 HA.out HLA.out H1.out).mono ?_
  rintro e w2 ⟨v2, rfl, hR, b⟩
  obtain ⟨D, cD, rfl, hlD, hD⟩ := Kd.R_reads hR
  clear hR H1
  have HD := Aside0.mk hD
  have HLD := Aside0.mk hlD
  clear hD hlD
  replace HA := Aside0.mk (Kd.C_below HA.out b)
  replace HB := Aside0.mk (Kd.C_below HB.out b)
  replace K2 := Aside0.mk (blk_below K2.out b)
  replace K3 := Aside0.mk (blk_below K3.out b)
  replace HW := Aside0.mk (wB HW.out b)
  clear b
  go_upto_region 2 with (fail)
  have b := below_alloc (Below.refl _ w2) (.cells #[.int .i64 c0, .int .i64 c1, .slice D l.length cD] 24)
  have K5 := blk_new w2 (.cells #[.int .i64 c0, .int .i64 c1, .slice D l.length cD] 24)
  replace HA := Aside0.mk (Kd.C_below HA.out b)
  replace HB := Aside0.mk (Kd.C_below HB.out b)
  replace HD := Aside0.mk (Kd.C_below HD.out b)
  replace K2 := Aside0.mk (blk_below K2.out b)
  replace K3 := Aside0.mk (blk_below K3.out b)
  replace HW := Aside0.mk (wB HW.out b)
  clear b
  generalize w2.alloc (.cells #[.int .i64 c0, .int .i64 c1, .slice D l.length cD] 24) = w3 at *
  generalize w2.heap.size = g5 at *
  have q2 : w3.cell? ⟨g3, 2, none⟩ = some (.slice B s.length cB) := blk_cell K3.out 2
  replace K5 := Aside0.mk K5
  go_wp2_with (fail)
  clear q2
  refine (portagekit_LentValues.calls k2 B cB s (s ++ PureR.sp 64) w3 HB.out HLB.out H2.out).mono ?_
  rintro e w4 ⟨vS, rfl, hR, b⟩
  have hS := R_own35 hR
  clear hR H2
  have hlS : (s ++ PureR.sp 64).length = s.length + 64 := by rw [List.length_append, PureR.sp_len]
  rw [hlS] at hS
  obtain ⟨gS, cS, rfl, hgS, hgS4⟩ := hS.form (by omega)
  have hcS : s.length + 64 ≤ cS := by
    obtain ⟨A', c', he, hle⟩ := own_form hS
    cases he
    exact hle
  have OS := Aside0.mk hS
  have HLS := Aside0.mk hlS
  have HGS := Aside0.mk hgS
  have HCS := Aside0.mk hcS
  have OLD := Aside0.mk b
  clear hS hlS hgS hcS b
  have X0 : ∀ w8, Below w4.heap.size w4 w8 → w8.cell? ⟨g3, 0, none⟩ = some (.int .i64 f0) := fun w8 b => blk_cell (blk_below (blk_below K3.out OLD.out) b) 0
  have X1 : ∀ w8, Below w4.heap.size w4 w8 → w8.cell? ⟨g3, 1, none⟩ = some (.int .i64 f1) := fun w8 b => blk_cell (blk_below (blk_below K3.out OLD.out) b) 1
  have X2 : ∀ w8, Below w4.heap.size w4 w8 → w8.cell? ⟨g3, 2, none⟩ = some (.slice B s.length cB) := fun w8 b => blk_cell (blk_below (blk_below K3.out OLD.out) b) 2
  have XX := Aside0.mk (And.intro X0 (And.intro X1 X2))
  clear X0 X1 X2
  go_wp2_with (fail)
  rename_i hK
  refine RegInv.region_last (by kernel_rfl) (by kernel_rfl) (fun a b => Below a.heap.size a b) (fun a b c h k => wB h k) (below_drew1 (Below.refl _ _)) dL3 11 (by kernel_rfl) (by kernel_rfl) (by kernel_rfl) (by kernel_rfl) (FL3 f0 f1 B cB gS cS s.length g3 w4.heap.size) (FL3_below f0 f1 B cB gS cS s.length g3 w4.heap.size) ?hsL3 ?heL3
  case hsL3 =>
    clear hK HW
    intro i o a w8 hlt hi hM
    obtain ⟨X0, X1, X2⟩ := XX.out
    have hcS := HCS.out
    rcases i with _ | _ | _ | _ | _ | _ | _ | _ | _ | _ | _ | i
    · cases hi
      have h0 := gdq _ _ _ (show a.tmps.getD 3 undef = .pointer (some ⟨g3, 0, none⟩) from hM.off 3 (by kernel_rfl))
      refine RegInv.op_value (by rfl) rfl (v := .pointer (some ⟨g3, 0, none⟩)) (w' := w8) ?_ ⟨_, rfl, rfl, Below.refl _ _⟩
      unfold execOp
      go_simp
    · cases hi
      have h0 := gdq _ _ _ (show a.tmps.getD 26 undef = .pointer (some ⟨g3, 0, none⟩) from hM.at_ 0 (by decide) (by kernel_rfl))
      have y := X0 w8 hM.ext
      refine RegInv.op_value (by rfl) rfl (v := .int .i64 f0) (w' := w8) ?_ ⟨_, rfl, rfl, Below.refl _ _⟩
      unfold execOp
      go_simp
    · cases hi
      have h0 := gdq _ _ _ (show a.tmps.getD 3 undef = .pointer (some ⟨g3, 0, none⟩) from hM.off 3 (by kernel_rfl))
      refine RegInv.op_value (by rfl) rfl (v := .pointer (some ⟨g3, 1, none⟩)) (w' := w8) ?_ ⟨_, rfl, rfl, Below.refl _ _⟩
      unfold execOp
      go_simp
    · cases hi
      have h0 := gdq _ _ _ (show a.tmps.getD 28 undef = .pointer (some ⟨g3, 1, none⟩) from hM.at_ 2 (by decide) (by kernel_rfl))
      have y := X1 w8 hM.ext
      refine RegInv.op_value (by rfl) rfl (v := .int .i64 f1) (w' := w8) ?_ ⟨_, rfl, rfl, Below.refl _ _⟩
      unfold execOp
      go_simp
    · cases hi
      have h0 := gdq _ _ _ (show a.tmps.getD 6 undef = .slice (some ⟨gS, 0, none⟩) (s.length + 64) cS from hM.off 6 (by kernel_rfl))
      refine RegInv.op_value (by rfl) rfl (v := .slice (some ⟨gS, 0, none⟩) (s.length + 64) cS) (w' := w8) ?_ ⟨_, rfl, rfl, Below.refl _ _⟩
      unfold execOp
      go_simp
    · cases hi
      have h0 := gdq _ _ _ (show a.tmps.getD 3 undef = .pointer (some ⟨g3, 0, none⟩) from hM.off 3 (by kernel_rfl))
      refine RegInv.op_value (by rfl) rfl (v := .pointer (some ⟨g3, 2, none⟩)) (w' := w8) ?_ ⟨_, rfl, rfl, Below.refl _ _⟩
      unfold execOp
      go_simp
    · cases hi
      have h0 := gdq _ _ _ (show a.tmps.getD 31 undef = .pointer (some ⟨g3, 2, none⟩) from hM.at_ 5 (by decide) (by kernel_rfl))
      have y := X2 w8 hM.ext
      refine RegInv.op_value (by rfl) rfl (v := .slice B s.length cB) (w' := w8) ?_ ⟨_, rfl, rfl, Below.refl _ _⟩
      unfold execOp
      go_simp
    · cases hi
      have h0 := gdq _ _ _ (show a.tmps.getD 32 undef = .slice B s.length cB from hM.at_ 6 (by decide) (by kernel_rfl))
      refine RegInv.op_value (by rfl) rfl (v := .int .i64 (s.length : Int)) (w' := w8) ?_ ⟨_, rfl, rfl, Below.refl _ _⟩
      unfold execOp
      go_simp
    · cases hi
      have h0 := gdq _ _ _ (show a.tmps.getD 30 undef = .slice (some ⟨gS, 0, none⟩) (s.length + 64) cS from hM.at_ 4 (by decide) (by kernel_rfl))
      have h1 := gdq _ _ _ (show a.tmps.getD 33 undef = .int .i64 (s.length : Int) from hM.at_ 7 (by decide) (by kernel_rfl))
      have y0 := hcS
      have y1 : (0 : Int) ≤ (s.length : Int) := by omega
      have y2 : (s.length : Int) ≤ (cS : Int) := by omega
      refine RegInv.op_value (by rfl) rfl (v := .slice (some ⟨gS, 0, none⟩) s.length cS) (w' := w8) ?_ ⟨_, rfl, rfl, Below.refl _ _⟩
      unfold execOp
      go_simp
    · cases hi
      have h0 := gdq _ _ _ (show a.tmps.getD 27 undef = .int .i64 f0 from hM.at_ 1 (by decide) (by kernel_rfl))
      have h1 := gdq _ _ _ (show a.tmps.getD 29 undef = .int .i64 f1 from hM.at_ 3 (by decide) (by kernel_rfl))
      have h2 := gdq _ _ _ (show a.tmps.getD 34 undef = .slice (some ⟨gS, 0, none⟩) s.length cS from hM.at_ 8 (by decide) (by kernel_rfl))
      refine RegInv.op_value (by rfl) rfl (v := .agg #[.int .i64 f0, .int .i64 f1, .slice (some ⟨gS, 0, none⟩) s.length cS]) (w' := w8) ?_ ⟨_, rfl, rfl, Below.refl _ _⟩
      unfold execOp
      go_simp
    · cases hi
      refine RegInv.op_value (by rfl) rfl (v := .pointer (some ⟨w8.heap.size, 0, none⟩)) (w' := w8.alloc (.cells #[.int .i64 0, .int .i64 0, .slice none 0 0] 27)) ?_ ⟨_, rfl, ⟨_, rfl, hM.ext.size, blk_new _ _⟩, below_alloc (Below.refl _ _) _⟩
      unfold execOp
      go_simp
    · exact absurd hlt (by omega)
  intro vs w5 b hF
  obtain ⟨g7, e7, hg7, K7⟩ : BoxAt w4.heap.size #[.int .i64 0, .int .i64 0, .slice none 0 0] 27 w5 (vs 10) := hF 10 (by omega)
  have e9 : vs 9 = .agg #[.int .i64 f0, .int .i64 f1, .slice (some ⟨gS, 0, none⟩) s.length cS] := hF 9 (by omega)
  clear hF
  simp only [RegInv.puts, dL3, Act.put, List.range, List.range.loop, List.setIfInBounds_toArray, List.set_cons_zero, List.set_cons_succ]
  rw [e7, e9]
  clear e7 e9
  have c0' : w5.cell? ⟨g7, 0, none⟩ = some (.int .i64 0) := blk_cell K7 0
  have c1' : w5.cell? ⟨g7, 1, none⟩ = some (.int .i64 0) := blk_cell K7 1
  have c2' : w5.cell? ⟨g7, 2, none⟩ = some (.slice none 0 0) := blk_cell K7 2
  have f0' : w5.frozen? ⟨g7, 0, none⟩ = false := blk_frozen K7 0
  have f1' : w5.frozen? ⟨g7, 1, none⟩ = false := blk_frozen K7 1
  have f2' : w5.frozen? ⟨g7, 2, none⟩ = false := blk_frozen K7 2
  refine RegInv.op_skip (by rfl) rfl (w' := ((w5.setCell ⟨g7, 0, none⟩ (.int .i64 f0)).setCell ⟨g7, 1, none⟩ (.int .i64 f1)).setCell ⟨g7, 2, none⟩ (.slice (some ⟨gS, 0, none⟩) s.length cS)) ?run ?_
  case run =>
    unfold execOp
    go_simp
  clear c0' c1' c2' f0' f1' f2'
  replace K7 := box3 K7 (.int .i64 f0) (.int .i64 f1) (.slice (some ⟨gS, 0, none⟩) s.length cS)
  have b6 := below_set3 b hg7 (.int .i64 f0) (.int .i64 f1) (.slice (some ⟨gS, 0, none⟩) s.length cS)
  generalize ((w5.setCell ⟨g7, 0, none⟩ (.int .i64 f0)).setCell ⟨g7, 1, none⟩ (.int .i64 f1)).setCell ⟨g7, 2, none⟩ (.slice (some ⟨gS, 0, none⟩) s.length cS) = w6 at *
  replace K7 := Aside0.mk K7
  replace OS := Aside0.mk ((But.of_below b6).own OS.out (fun _ _ h => h))
  replace OLD := Aside0.mk (OLD.out.trans (b6.mono OLD.out.size))
  have G7 := Aside0.mk (show g7 ≠ gS by omega)
  clear b b6 hg7 XX
  generalize vs 0 = t0
  generalize vs 1 = t1
  generalize vs 2 = t2
  generalize vs 3 = t3
  generalize vs 4 = t4
  generalize vs 5 = t5
  generalize vs 6 = t6
  generalize vs 7 = t7
  generalize vs 8 = t8
  refine hK _ _ ?_
  clear hK
  have K2' := blk_below K2.out OLD.out
  have K3' := blk_below K3.out OLD.out
  have q0 : w6.cell? ⟨g2, 0, none⟩ = some (.int .i64 c0) := blk_cell K2' 0
  have q1 : w6.cell? ⟨g2, 1, none⟩ = some (.int .i64 c1) := blk_cell K2' 1
  have q2 : w6.cell? ⟨g2, 2, none⟩ = some (.slice A l.length cA) := blk_cell K2' 2
  have r0 : w6.cell? ⟨g3, 0, none⟩ = some (.int .i64 f0) := blk_cell K3' 0
  have r1 : w6.cell? ⟨g3, 1, none⟩ = some (.int .i64 f1) := blk_cell K3' 1
  have r2 : w6.cell? ⟨g3, 2, none⟩ = some (.slice B s.length cB) := blk_cell K3' 2
  clear K2' K3'
  go_wp2_with (fail)
  clear q0 q1 q2 r0 r1 r2
  refine (ref_registers c0 c1 f0 f1 A B cA cB l s w6 (Kd.C_below HA.out OLD.out) (Kd.C_below HB.out OLD.out) HOK.out.blocks (by omega)).mono ?_
  have GSW6 := Aside0.mk ((own_ge OS.out gS rfl).2)
  rintro e w7 ⟨b7, hP⟩
  have GSW := Aside0.mk (Nat.lt_of_lt_of_le GSW6.out b7.size)
  obtain ⟨vW, rfl, hW⟩ := hP
  obtain ⟨⟨q, qb, qo⟩, hq⟩ : ∃ p, PureR.regOf c0 c1 l f0 f1 s = p := ⟨_, rfl⟩
  rw [hq] at hW ⊢
  have HQ := Aside0.mk hq
  have hql : q.length ≤ 512 := by
    have := PureR.regOf_len c0 c1 f0 f1 l s
    rw [hq] at this
    exact this
  have HQL := Aside0.mk hql
  obtain ⟨AW, cW, rfl, hcW⟩ := own_form hW
  have GWS : Aside0 (∀ b', (Value.slice AW q.length cW).ownBlock = some b' → ¬ b' = gS) := ⟨fun b' h => by have := own_ge hW b' h; have := GSW6.out; omega⟩
  have OW := Aside0.mk (own_lower hW (show w3.heap.size ≤ w6.heap.size from OLD.out.size))
  have HCW := Aside0.mk hcW
  clear hW hcW hq hql
  replace K7 := Aside0.mk (blk_below K7.out b7)
  replace OS := Aside0.mk ((But.of_below b7).own OS.out (fun _ _ h => h))
  replace OLD := Aside0.mk (OLD.out.trans (b7.mono OLD.out.size))
  clear b7
  have K5' := blk_below K5.out OLD.out
  have q0 : w7.cell? ⟨g5, 0, none⟩ = some (.int .i64 c0) := blk_cell K5' 0
  have q1 : w7.cell? ⟨g5, 1, none⟩ = some (.int .i64 c1) := blk_cell K5' 1
  have q2 : w7.cell? ⟨g5, 2, none⟩ = some (.slice D l.length cD) := blk_cell K5' 2
  have r0 : w7.cell? ⟨g7, 0, none⟩ = some (.int .i64 f0) := blk_cell K7.out 0
  have r1 : w7.cell? ⟨g7, 1, none⟩ = some (.int .i64 f1) := blk_cell K7.out 1
  have r2 : w7.cell? ⟨g7, 2, none⟩ = some (.slice (some ⟨gS, 0, none⟩) s.length cS) := blk_cell K7.out 2
  clear K5'
  go_wp2_with (fail)
  clear q0 q1 q2 r0 r1 r2
  obtain ⟨k3, p3⟩ := PureR.reg_ev c0 c1 f0 f1 l s HOK.out.blocks (by omega)
  have H3 := p3 k3 (Nat.le_refl _)
  rw [HQ.out] at H3
  have hCS := HCS.out
  refine (deopt_Registers.calls k3 c0 c1 D cD l f0 f1 (some ⟨gS, 0, none⟩) cS s q qb qo w7 (Kd.C_below HD.out OLD.out) HLD.out (own_prefix (Y := s) OS.out HLS.out (Nat.le_add_right _ _) (by rw [List.take_left]) (by omega)) (by omega) H3).mono ?_
  clear p3 H3 hCS
  rintro e w8 ⟨vG, rfl, hR, b⟩
  have hG := R_own35 hR
  clear hR
  obtain ⟨AG, cG, rfl, hcG⟩ := own_form hG
  have OG := Aside0.mk (own_lower hG (show w3.heap.size ≤ w7.heap.size from OLD.out.size))
  have OGB := Aside0.mk hG
  have HCG := Aside0.mk hcG
  clear hG hcG
  replace K7 := Aside0.mk (blk_below K7.out b)
  replace OS := Aside0.mk ((But.of_below b).own OS.out (fun _ _ h => h))
  replace OW := Aside0.mk ((But.of_below b).own OW.out (fun _ _ h => h))
  replace OLD := Aside0.mk (OLD.out.trans (b.mono OLD.out.size))
  clear b
  go_wp2_with (fail)
  refine (same_own AG AW cG cW _ _ q w8 OG.out OW.out (by have := HQL.out; omega)).mono ?_
  rintro e w9 ⟨rfl, b⟩
  replace K7 := Aside0.mk (blk_below K7.out b)
  replace OS := Aside0.mk ((But.of_below b).own OS.out (fun _ _ h => h))
  replace OW := Aside0.mk ((But.of_below b).own OW.out (fun _ _ h => h))
  replace OG := Aside0.mk ((But.of_below b).own OG.out (fun _ _ h => h))
  replace OGB := Aside0.mk ((But.of_below b).own OGB.out (fun _ _ h => h))
  replace OLD := Aside0.mk (OLD.out.trans (b.mono OLD.out.size))
  clear b
  have K3' := blk_below K3.out OLD.out
  have r2 : w9.cell? ⟨g3, 2, none⟩ = some (.slice B s.length cB) := blk_cell K3' 2
  clear K3'
  go_wp2_with (fail)
  clear r2
  refine (kept_own gS cS _ B cB s w9 OS.out (Kd.C_below HB.out OLD.out) (by omega)).mono ?_
  rintro e w10 ⟨rfl, b⟩
  replace K7 := Aside0.mk (blk_below K7.out b)
  replace OS := Aside0.mk ((But.of_below b).own OS.out (fun _ _ h => h))
  replace OW := Aside0.mk ((But.of_below b).own OW.out (fun _ _ h => h))
  replace OG := Aside0.mk ((But.of_below b).own OG.out (fun _ _ h => h))
  replace OGB := Aside0.mk ((But.of_below b).own OGB.out (fun _ _ h => h))
  replace OLD := Aside0.mk (OLD.out.trans (b.mono OLD.out.size))
  clear b
  have K2' := blk_below K2.out OLD.out
  have K5' := blk_below K5.out OLD.out
  have q0 : w10.cell? ⟨g2, 0, none⟩ = some (.int .i64 c0) := blk_cell K2' 0
  have q1 : w10.cell? ⟨g2, 1, none⟩ = some (.int .i64 c1) := blk_cell K2' 1
  have q2 : w10.cell? ⟨g2, 2, none⟩ = some (.slice A l.length cA) := blk_cell K2' 2
  have r0 : w10.cell? ⟨g5, 0, none⟩ = some (.int .i64 c0) := blk_cell K5' 0
  have r1 : w10.cell? ⟨g5, 1, none⟩ = some (.int .i64 c1) := blk_cell K5' 1
  have r2 : w10.cell? ⟨g5, 2, none⟩ = some (.slice D l.length cD) := blk_cell K5' 2
  clear K2' K5'
  go_wp2_with (fail)
  clear q0 q1 q2 r0 r1 r2
  refine (same_regs c0 c1 D A cD cA l w10 (Kd.C_below HD.out OLD.out) (Kd.C_below HA.out OLD.out) (small_of HOK.out.blocks)).mono ?_
  rintro e w11 ⟨rfl, b⟩
  replace K7 := Aside0.mk (blk_below K7.out b)
  replace OS := Aside0.mk ((But.of_below b).own OS.out (fun _ _ h => h))
  replace OW := Aside0.mk ((But.of_below b).own OW.out (fun _ _ h => h))
  replace OG := Aside0.mk ((But.of_below b).own OG.out (fun _ _ h => h))
  replace OGB := Aside0.mk ((But.of_below b).own OGB.out (fun _ _ h => h))
  replace OLD := Aside0.mk (OLD.out.trans (b.mono OLD.out.size))
  clear b
  have K3' := blk_below K3.out OLD.out
  have r2 : w11.cell? ⟨g3, 2, none⟩ = some (.slice B s.length cB) := blk_cell K3' 2
  clear K3'
  have GS : Aside0 (∀ b', (Value.slice AG q.length cG).ownBlock = some b' → b' ≠ gS) := ⟨fun b' h => by have := own_ge OGB.out b' h; have := GSW.out; omega⟩
  by_cases hs0 : s.length = 0
  · have hd0 : decide (0 < (s.length : Int)) = false := decide_eq_false (by omega)
    have hd1 : decide (0 < s.length) = false := decide_eq_false (by omega)
    clear hs0
    obtain ⟨X1, hX1, hO1⟩ : ∃ X1, X1.length = s.length + 64 ∧ w11.ownsRow w3.heap.size 35 2 (.slice (some ⟨gS, 0, none⟩) (s.length + 64) cS) (s.length + 64) (flat35 X1) := ⟨_, HLS.out, OS.out⟩
    replace OS := Aside0.mk hO1
    clear hO1
    obtain ⟨Y, hY⟩ : ∃ Y, Y = X1.take s.length := ⟨_, rfl⟩
    have hYl : Y.length = s.length := by rw [hY, List.length_take]; omega
    obtain ⟨q2, hq2⟩ : ∃ q2, PureR.regOf c0 c1 l f0 f1 Y = (q2, qb, qo) := by
      have h := PureR.regOf_same c0 c1 f0 f1 l Y s hYl
      rw [HQ.out] at h
      exact ⟨(PureR.regOf c0 c1 l f0 f1 Y).1, Prod.ext rfl h⟩
    have HQ2L := Aside0.mk (show q2.length ≤ 512 by
      have := PureR.regOf_len c0 c1 f0 f1 l Y
      rw [hq2] at this
      exact this)
    have HX := Aside0.mk hX1
    have HY := Aside0.mk hY
    have HQ2 := Aside0.mk hq2
    clear hX1 hY hYl hq2
    go_wp2_with (fail)
    have hXl := HX.out
    have hcp := own_copyB (some ⟨gS, 0, none⟩) cS X1 _ w11 (by rw [hXl]; exact OS.out) (by omega)
    rw [hXl] at hcp
    refine hcp.mono ?_
    clear hcp
    rintro e w13 ⟨AN, cN, rfl, hcN, hN, b⟩
    obtain ⟨gN, cN', heN, hgN, hgN'⟩ := hN.form (by omega)
    cases heN
    have ON := Aside0.mk hN
    have HCN := Aside0.mk hcN
    have GN := Aside0.mk (fun b' h => (by have := own_ge OG.out b' h; omega : b' ≠ gN) : ∀ b', (Value.slice AG q.length cG).ownBlock = some b' → b' ≠ gN)
    clear hcN hN hgN hXl
    replace K7 := Aside0.mk (blk_below K7.out b)
    replace OS := Aside0.mk ((But.of_below b).own OS.out (fun _ _ h => h))
    replace OW := Aside0.mk ((But.of_below b).own OW.out (fun _ _ h => h))
    replace OG := Aside0.mk ((But.of_below b).own OG.out (fun _ _ h => h))
    replace OGB := Aside0.mk ((But.of_below b).own OGB.out (fun _ _ h => h))
    replace OLD := Aside0.mk (OLD.out.trans (b.mono OLD.out.size))
    clear b
    have W20 : ∀ w8, Below w13.heap.size w13 w8 → w8.cell? ⟨g2, 0, none⟩ = some (.int .i64 c0) := fun w8 b => blk_cell (blk_below (blk_below K2.out OLD.out) b) 0
    have W21 : ∀ w8, Below w13.heap.size w13 w8 → w8.cell? ⟨g2, 1, none⟩ = some (.int .i64 c1) := fun w8 b => blk_cell (blk_below (blk_below K2.out OLD.out) b) 1
    have W22 : ∀ w8, Below w13.heap.size w13 w8 → w8.cell? ⟨g2, 2, none⟩ = some (.slice A l.length cA) := fun w8 b => blk_cell (blk_below (blk_below K2.out OLD.out) b) 2
    have X0 : ∀ w8, Below w13.heap.size w13 w8 → w8.cell? ⟨g3, 0, none⟩ = some (.int .i64 f0) := fun w8 b => blk_cell (blk_below (blk_below K3.out OLD.out) b) 0
    have X1' : ∀ w8, Below w13.heap.size w13 w8 → w8.cell? ⟨g3, 1, none⟩ = some (.int .i64 f1) := fun w8 b => blk_cell (blk_below (blk_below K3.out OLD.out) b) 1
    have X2' : ∀ w8, Below w13.heap.size w13 w8 → w8.cell? ⟨g3, 2, none⟩ = some (.slice B s.length cB) := fun w8 b => blk_cell (blk_below (blk_below K3.out OLD.out) b) 2
    have XX := Aside0.mk (And.intro W20 (And.intro W21 (And.intro W22 (And.intro X0 (And.intro X1' X2')))))
    clear W20 W21 W22 X0 X1' X2'
    go_wp2_with (fail)
    rename_i hK
    refine RegInv.region_facts (by kernel_rfl) (by kernel_rfl) (fun a b => Below a.heap.size a b) (fun a b c h k => wB h k) (below_drew1 (Below.refl _ _)) dL11 19 (by kernel_rfl) (by kernel_rfl) (by kernel_rfl) (FL11 f0 f1 B cB gN cN s.length g3 q2 qb qo (.agg #[.int .i64 c0, .int .i64 c1, .slice A l.length cA])) (FL11_below f0 f1 B cB gN cN s.length g3 q2 qb qo (.agg #[.int .i64 c0, .int .i64 c1, .slice A l.length cA])) ?hsw11 ?hew11
    case hsw11 =>
      clear hK HW HD
      intro i o a w8 hi hM
      have hlt : i < 19 := (Array.getElem?_eq_some_iff.1 hi).1
      obtain ⟨W20, W21, W22, X0, X1', X2'⟩ := XX.out
      rcases i with _ | _ | _ | _ | _ | _ | _ | _ | _ | _ | _ | _ | _ | _ | _ | _ | _ | _ | _ | i
      · cases hi
        have h0 := gdq _ _ _ (show a.tmps.getD 2 undef = .pointer (some ⟨g2, 0, none⟩) from hM.off 2 (by kernel_rfl))
        have y0 := W20 w8 hM.ext
        have y1 := W21 w8 hM.ext
        have y2 := W22 w8 hM.ext
        refine RegInv.op_value (by rfl) rfl (v := .agg #[.int .i64 c0, .int .i64 c1, .slice A l.length cA]) (w' := w8) ?_ ⟨_, rfl, rfl, Below.refl _ _⟩
        unfold execOp
        go_simp
      · cases hi
        have h0 := gdq _ _ _ (show a.tmps.getD 3 undef = .pointer (some ⟨g3, 0, none⟩) from hM.off 3 (by kernel_rfl))
        refine RegInv.op_value (by rfl) rfl (v := .pointer (some ⟨g3, 0, none⟩)) (w' := w8) ?_ ⟨_, rfl, rfl, Below.refl _ _⟩
        unfold execOp
        go_simp
      · cases hi
        have h0 := gdq _ _ _ (show a.tmps.getD 88 undef = .pointer (some ⟨g3, 0, none⟩) from hM.at_ 1 (by decide) (by kernel_rfl))
        have y := X0 w8 hM.ext
        refine RegInv.op_value (by rfl) rfl (v := .int .i64 f0) (w' := w8) ?_ ⟨_, rfl, rfl, Below.refl _ _⟩
        unfold execOp
        go_simp
      · cases hi
        have h0 := gdq _ _ _ (show a.tmps.getD 3 undef = .pointer (some ⟨g3, 0, none⟩) from hM.off 3 (by kernel_rfl))
        refine RegInv.op_value (by rfl) rfl (v := .pointer (some ⟨g3, 1, none⟩)) (w' := w8) ?_ ⟨_, rfl, rfl, Below.refl _ _⟩
        unfold execOp
        go_simp
      · cases hi
        have h0 := gdq _ _ _ (show a.tmps.getD 90 undef = .pointer (some ⟨g3, 1, none⟩) from hM.at_ 3 (by decide) (by kernel_rfl))
        have y := X1' w8 hM.ext
        refine RegInv.op_value (by rfl) rfl (v := .int .i64 f1) (w' := w8) ?_ ⟨_, rfl, rfl, Below.refl _ _⟩
        unfold execOp
        go_simp
      · cases hi
        have h0 := gdq _ _ _ (show a.tmps.getD 14 undef = .slice (some ⟨gN, 0, none⟩) (s.length + 64) cN from hM.off 14 (by kernel_rfl))
        refine RegInv.op_value (by rfl) rfl (v := .slice (some ⟨gN, 0, none⟩) (s.length + 64) cN) (w' := w8) ?_ ⟨_, rfl, rfl, Below.refl _ _⟩
        unfold execOp
        go_simp
      · cases hi
        have h0 := gdq _ _ _ (show a.tmps.getD 3 undef = .pointer (some ⟨g3, 0, none⟩) from hM.off 3 (by kernel_rfl))
        refine RegInv.op_value (by rfl) rfl (v := .pointer (some ⟨g3, 2, none⟩)) (w' := w8) ?_ ⟨_, rfl, rfl, Below.refl _ _⟩
        unfold execOp
        go_simp
      · cases hi
        have h0 := gdq _ _ _ (show a.tmps.getD 93 undef = .pointer (some ⟨g3, 2, none⟩) from hM.at_ 6 (by decide) (by kernel_rfl))
        have y := X2' w8 hM.ext
        refine RegInv.op_value (by rfl) rfl (v := .slice B s.length cB) (w' := w8) ?_ ⟨_, rfl, rfl, Below.refl _ _⟩
        unfold execOp
        go_simp
      · cases hi
        have h0 := gdq _ _ _ (show a.tmps.getD 94 undef = .slice B s.length cB from hM.at_ 7 (by decide) (by kernel_rfl))
        refine RegInv.op_value (by rfl) rfl (v := .int .i64 (s.length : Int)) (w' := w8) ?_ ⟨_, rfl, rfl, Below.refl _ _⟩
        unfold execOp
        go_simp
      · cases hi
        have h0 := gdq _ _ _ (show a.tmps.getD 92 undef = .slice (some ⟨gN, 0, none⟩) (s.length + 64) cN from hM.at_ 5 (by decide) (by kernel_rfl))
        have h1 := gdq _ _ _ (show a.tmps.getD 95 undef = .int .i64 (s.length : Int) from hM.at_ 8 (by decide) (by kernel_rfl))
        have y0 := HCN.out
        have y1 : (0 : Int) ≤ (s.length : Int) := by omega
        have y2 : (s.length : Int) ≤ (cN : Int) := by omega
        refine RegInv.op_value (by rfl) rfl (v := .slice (some ⟨gN, 0, none⟩) s.length cN) (w' := w8) ?_ ⟨_, rfl, rfl, Below.refl _ _⟩
        unfold execOp
        go_simp
      · cases hi
        have h0 := gdq _ _ _ (show a.tmps.getD 89 undef = .int .i64 f0 from hM.at_ 2 (by decide) (by kernel_rfl))
        have h1 := gdq _ _ _ (show a.tmps.getD 91 undef = .int .i64 f1 from hM.at_ 4 (by decide) (by kernel_rfl))
        have h2 := gdq _ _ _ (show a.tmps.getD 96 undef = .slice (some ⟨gN, 0, none⟩) s.length cN from hM.at_ 9 (by decide) (by kernel_rfl))
        refine RegInv.op_value (by rfl) rfl (v := .agg #[.int .i64 f0, .int .i64 f1, .slice (some ⟨gN, 0, none⟩) s.length cN]) (w' := w8) ?_ ⟨_, rfl, rfl, Below.refl _ _⟩
        unfold execOp
        go_simp
      · cases hi
        have h0 := gdq _ _ _ (show a.tmps.getD 87 undef = .agg #[.int .i64 c0, .int .i64 c1, .slice A l.length cA] from hM.at_ 0 (by decide) (by kernel_rfl))
        have h1 := gdq _ _ _ (show a.tmps.getD 97 undef = .agg #[.int .i64 f0, .int .i64 f1, .slice (some ⟨gN, 0, none⟩) s.length cN] from hM.at_ 10 (by decide) (by kernel_rfl))
        refine RegInv.op_call (by rfl) rfl Try.func12 (by kernel_rfl) rfl rfl #[.agg #[.int .i64 c0, .int .i64 c1, .slice A l.length cA], .agg #[.int .i64 f0, .int .i64 f1, .slice (some ⟨gN, 0, none⟩) s.length cN]] (by simp [Act.eval, h0, h1]) ?_
        refine (ref_now c0 c1 f0 f1 A cA l gN cN _ s.length X1 Y q2 qb qo w8 (Kd.C_below HA.out (OLD.out.trans (hM.ext.mono OLD.out.size))) ((But.of_below hM.ext).own ON.out (fun _ _ h => h)) HX.out HY.out HQ2.out HOK.out.blocks (by omega)).mono ?_
        rintro e w9 ⟨v0, rfl, hT, b⟩
        exact ⟨_, rfl, _, rfl, hT, b⟩
      · cases hi
        obtain ⟨u, hu, hU⟩ : TupAt 0 q2 qb qo w8 (a.tmps.getD 98 undef) := hM.at_ 11 (by decide) (by kernel_rfl)
        replace hu := gdq _ _ _ hu
        refine RegInv.op_value (by rfl) rfl (v := .tuple #[u, .int .i64 qb, .bool qo]) (w' := w8) ?_ ⟨_, rfl, ⟨u, rfl, hU⟩, Below.refl _ _⟩
        clear hU
        unfold execOp
        go_simp
      · cases hi
        obtain ⟨u, hu, hU⟩ : TupAt 0 q2 qb qo w8 (a.tmps.getD 86 undef) := hM.at_ 12 (by decide) (by kernel_rfl)
        replace hu := gdq _ _ _ hu
        refine RegInv.op_value (by rfl) rfl (v := u) (w' := w8) ?_ ⟨_, rfl, hU, Below.refl _ _⟩
        clear hU
        unfold execOp
        go_simp
      · cases hi
        obtain ⟨u, hu, hU⟩ : TupAt 0 q2 qb qo w8 (a.tmps.getD 86 undef) := hM.at_ 12 (by decide) (by kernel_rfl)
        replace hu := gdq _ _ _ hu
        refine RegInv.op_value (by rfl) rfl (v := .int .i64 qb) (w' := w8) ?_ ⟨_, rfl, rfl, Below.refl _ _⟩
        clear hU
        unfold execOp
        go_simp
      · cases hi
        obtain ⟨u, hu, hU⟩ : TupAt 0 q2 qb qo w8 (a.tmps.getD 86 undef) := hM.at_ 12 (by decide) (by kernel_rfl)
        replace hu := gdq _ _ _ hu
        refine RegInv.op_value (by rfl) rfl (v := .bool qo) (w' := w8) ?_ ⟨_, rfl, rfl, Below.refl _ _⟩
        clear hU
        unfold execOp
        go_simp
      · cases hi
        have hU : RowAt 0 q2 w8 (a.tmps.getD 99 undef) := hM.at_ 13 (by decide) (by kernel_rfl)
        refine RegInv.op_value (by rfl) rfl (v := a.tmps.getD 99 undef) (w' := w8) ?_ ⟨_, rfl, hU, Below.refl _ _⟩
        clear hU
        unfold execOp
        simp only [Act.eval, Array.getD_eq_getD_getElem?]
        go_simp
      · cases hi
        have h0 := gdq _ _ _ (show a.tmps.getD 100 undef = .int .i64 qb from hM.at_ 14 (by decide) (by kernel_rfl))
        refine RegInv.op_value (by rfl) rfl (v := .int .i64 qb) (w' := w8) ?_ ⟨_, rfl, rfl, Below.refl _ _⟩
        unfold execOp
        go_simp
      · cases hi
        have h0 := gdq _ _ _ (show a.tmps.getD 101 undef = .bool qo from hM.at_ 15 (by decide) (by kernel_rfl))
        refine RegInv.op_value (by rfl) rfl (v := .bool qo) (w' := w8) ?_ ⟨_, rfl, rfl, Below.refl _ _⟩
        unfold execOp
        go_simp
      · exact absurd hlt (by omega)
    intro vs w14 b hF
    have r16 : RowAt 0 q2 w14 (vs 16) := hF 16 (by omega)
    have e17 : vs 17 = .int .i64 qb := hF 17 (by omega)
    have e18 : vs 18 = .bool qo := hF 18 (by omega)
    clear hF
    simp only [RegInv.puts, dL11, Act.put, List.range, List.range.loop, List.setIfInBounds_toArray, List.set_cons_zero, List.set_cons_succ]
    obtain ⟨AW2, cW2, e16, _, hW2⟩ := r16
    rw [e16, e17, e18]
    clear e16 e17 e18
    have OW2 := Aside0.mk hW2
    clear hW2
    generalize vs 0 = u0
    generalize vs 1 = u1
    generalize vs 2 = u2
    generalize vs 3 = u3
    generalize vs 4 = u4
    generalize vs 5 = u5
    generalize vs 6 = u6
    generalize vs 7 = u7
    generalize vs 8 = u8
    generalize vs 9 = u9
    generalize vs 10 = u10
    generalize vs 11 = u11
    generalize vs 12 = u12
    generalize vs 13 = u13
    generalize vs 14 = u14
    generalize vs 15 = u15
    refine hK _ _ ?_
    clear hK XX
    replace K7 := Aside0.mk (blk_below K7.out b)
    replace OS := Aside0.mk ((But.of_below b).own OS.out (fun _ _ h => h))
    replace OW := Aside0.mk ((But.of_below b).own OW.out (fun _ _ h => h))
    replace OG := Aside0.mk ((But.of_below b).own OG.out (fun _ _ h => h))
    replace OGB := Aside0.mk ((But.of_below b).own OGB.out (fun _ _ h => h))
    replace ON := Aside0.mk ((But.of_below b).own ON.out (fun _ _ h => h))
    replace OLD := Aside0.mk (OLD.out.trans (b.mono OLD.out.size))
    clear b
    have K5' := blk_below K5.out OLD.out
    have q0 : w14.cell? ⟨g5, 0, none⟩ = some (.int .i64 c0) := blk_cell K5' 0
    have q1 : w14.cell? ⟨g5, 1, none⟩ = some (.int .i64 c1) := blk_cell K5' 1
    have q2' : w14.cell? ⟨g5, 2, none⟩ = some (.slice D l.length cD) := blk_cell K5' 2
    have r0 : w14.cell? ⟨g7, 0, none⟩ = some (.int .i64 f0) := blk_cell K7.out 0
    have r1 : w14.cell? ⟨g7, 1, none⟩ = some (.int .i64 f1) := blk_cell K7.out 1
    have r2 : w14.cell? ⟨g7, 2, none⟩ = some (.slice (some ⟨gS, 0, none⟩) s.length cS) := blk_cell K7.out 2
    clear K5'
    go_wp2_with (fail)
    clear q0 q1 q2' r0 r1 r2
    refine (got_now c0 c1 f0 f1 D cD l gS cS _ s.length X1 Y q2 qb qo w14 (Kd.C_below HD.out OLD.out) HLD.out OS.out HX.out HY.out HQ2.out HOK.out.blocks (by omega)).mono ?_
    rintro e w15 ⟨AA, cA2, rfl, hcA2, hA2, b⟩
    have OA := Aside0.mk (own_lower hA2 (show w3.heap.size ≤ w14.heap.size from OLD.out.size))
    have NE := Aside0.mk (fun b' h h' => (by have := own_ge OG.out b' h; have := own_ge hA2 b' h'; omega : False) : ∀ b', (Value.slice AG q.length cG).ownBlock = some b' → (Value.slice AA q2.length cA2).ownBlock ≠ some b')
    have NS := Aside0.mk ((by have := own_ge OS.out gS rfl; intro h; have := own_ge hA2 gS h; omega) : (Value.slice AA q2.length cA2).ownBlock ≠ some gS)
    have NN := Aside0.mk ((by have := own_ge ON.out gN rfl; intro h; have := own_ge hA2 gN h; omega) : (Value.slice AA q2.length cA2).ownBlock ≠ some gN)
    clear hcA2 hA2
    replace OS := Aside0.mk ((But.of_below b).own OS.out (fun _ _ h => h))
    replace OW := Aside0.mk ((But.of_below b).own OW.out (fun _ _ h => h))
    replace OG := Aside0.mk ((But.of_below b).own OG.out (fun _ _ h => h))
    replace OGB := Aside0.mk ((But.of_below b).own OGB.out (fun _ _ h => h))
    replace ON := Aside0.mk ((But.of_below b).own ON.out (fun _ _ h => h))
    replace OW2 := Aside0.mk ((But.of_below b).own OW2.out (fun _ _ h => h))
    replace OLD := Aside0.mk (OLD.out.trans (b.mono OLD.out.size))
    clear b K7
    go_wp2_with (fail)
    refine (same_own AA AW2 cA2 cW2 _ _ q2 w15 OA.out OW2.out (by have := HQ2L.out; omega)).mono ?_
    rintro e w16 ⟨rfl, b⟩
    replace OS := Aside0.mk ((But.of_below b).own OS.out (fun _ _ h => h))
    replace OW := Aside0.mk ((But.of_below b).own OW.out (fun _ _ h => h))
    replace OG := Aside0.mk ((But.of_below b).own OG.out (fun _ _ h => h))
    replace OGB := Aside0.mk ((But.of_below b).own OGB.out (fun _ _ h => h))
    replace ON := Aside0.mk ((But.of_below b).own ON.out (fun _ _ h => h))
    replace OA := Aside0.mk ((But.of_below b).own OA.out (fun _ _ h => h))
    replace OLD := Aside0.mk (OLD.out.trans (b.mono OLD.out.size))
    clear b OW2
    go_wp2_with (fail)
    refine (same_own AG AW cG cW _ _ q w16 OG.out OW.out (by have := HQL.out; omega)).mono ?_
    rintro e w17 ⟨rfl, b⟩
    replace OS := Aside0.mk ((But.of_below b).own OS.out (fun _ _ h => h))
    replace OG := Aside0.mk ((But.of_below b).own OG.out (fun _ _ h => h))
    replace OGB := Aside0.mk ((But.of_below b).own OGB.out (fun _ _ h => h))
    replace ON := Aside0.mk ((But.of_below b).own ON.out (fun _ _ h => h))
    replace OA := Aside0.mk ((But.of_below b).own OA.out (fun _ _ h => h))
    replace OLD := Aside0.mk (OLD.out.trans (b.mono OLD.out.size))
    clear b OW
    go_wp2_with (fail)
    refine (apart_two AG AA cG cA2 w3.heap.size q q2 w17 OLD.out.size OG.out OA.out NE.out HQL.out HQ2L.out).mono ?_
    rintro e w18 ⟨rfl, bt⟩
    have bA := below_alloc (Below.refl _ w17) (.cells #[.slice AG q.length cG, .slice AA q2.length cA2] 25)
    have GS := GS.out
    have hS := bt.own ((But.of_below bA).own OS.out (fun _ _ h => h)) (fun b h => by
      cases h
      rintro (h | h)
      · exact GS _ h rfl
      · exact NS.out h)
    have hN := bt.own ((But.of_below bA).own ON.out (fun _ _ h => h)) (fun b h => by
      cases h
      rintro (h | h)
      · exact GN.out _ h rfl
      · exact NN.out h)
    have bF := (OLD.out.trans (bA.mono OLD.out.size)).trans (bt.to_below (Nat.le_trans OLD.out.size bA.size) (fun b h => h.elim (fun h => (own_ge OG.out b h).1) (fun h => (own_ge OA.out b h).1)))
    have OS := Aside0.mk hS
    have ON := Aside0.mk hN
    replace OLD := Aside0.mk bF
    clear bF hS hN bt bA
    go_wp2_with (fail)
    have hsm := same_own (some ⟨gS, 0, none⟩) (some ⟨gN, 0, none⟩) cS cN _ _ X1 w18 (by rw [HX.out]; exact OS.out) (by rw [HX.out]; exact ON.out) (by have := HX.out; omega)
    rw [HX.out] at hsm
    refine hsm.mono ?_
    rintro e w19 ⟨rfl, b⟩
    clear hsm
    replace OLD := Aside0.mk (OLD.out.trans (b.mono OLD.out.size))
    clear b
    go_wp2_with (fail)
    go_ret
    exact ⟨rfl, wB HW.out OLD.out⟩
  · have hd0 : decide (0 < (s.length : Int)) = true := decide_eq_true (by omega)
    have hd1 : decide (0 < s.length) = true := decide_eq_true (by omega)
    obtain ⟨x0, hx0⟩ : ∃ x0, (s ++ PureR.sp 64)[0]? = some x0 := ⟨(s ++ PureR.sp 64)[0]'(by have := HLS.out; omega), List.getElem?_eq_getElem _⟩
    obtain ⟨hg0, hg1⟩ := flat35_get _ 0 x0 hx0
    obtain ⟨z0, y0⟩ := own_cell OS.out 0 _ hg0
    obtain ⟨z1, y1⟩ := own_cell OS.out 1 _ hg1
    clear hs0 hx0 hg0 hg1
    have h12 := own_set (own_set OS.out 0 (.int .i64 1)) 1 (.int .i64 1)
    rw [show ((flat35 (s ++ PureR.sp 64)).set 0 (.int .i64 1)).set 1 (.int .i64 1) = flat35 ((s ++ PureR.sp 64).set 0 ⟨1, 1⟩) from flat35_set _ 0 ⟨1, 1⟩] at h12
    have hbt : But (fun b => b = gS) w11 ((w11.setCell ⟨gS, 0, none⟩ (.int .i64 1)).setCell ⟨gS, 1, none⟩ (.int .i64 1)) := ((But.of_grown (setCell_grown w11 gS 0 (.int .i64 1))).trans (But.of_grown (setCell_grown _ gS 1 (.int .i64 1))) (fun b h => .inl h)).mono (fun b h => by cases h; rfl)
    go_wp2_with (fail)
    clear z0 y0 z1 y1 r2
    generalize (w11.setCell ⟨gS, 0, none⟩ (.int .i64 1)).setCell ⟨gS, 1, none⟩ (.int .i64 1) = w12 at *
    have hA12 : ∀ b', (Value.slice AG q.length cG).ownBlock = some b' → ¬ b' = gS := GS.out
    replace K7 : Aside0 (w12.heap[g7]? = some (.cells #[.int .i64 f0, .int .i64 f1, .slice (some ⟨gS, 0, none⟩) s.length cS] 27)) := ⟨by rw [hbt.block g7 (Array.getElem?_eq_some_iff.1 K7.out).1 G7.out]; exact K7.out⟩
    replace OW := Aside0.mk (hbt.own OW.out GWS.out)
    replace OG := Aside0.mk (hbt.own OG.out GS.out)
    replace OGB := Aside0.mk (hbt.own OGB.out GS.out)
    replace OLD := Aside0.mk (OLD.out.trans (hbt.to_below OLD.out.size (fun b h => by cases h; exact HGS.out)))
    obtain ⟨X1, hX1, hO1⟩ : ∃ X1, X1.length = s.length + 64 ∧ w12.ownsRow w3.heap.size 35 2 (.slice (some ⟨gS, 0, none⟩) (s.length + 64) cS) (s.length + 64) (flat35 X1) := ⟨_, by rw [List.length_set]; exact HLS.out, h12⟩
    replace OS := Aside0.mk hO1
    clear hO1 h12 hbt hA12
    obtain ⟨Y, hY⟩ : ∃ Y, Y = X1.take s.length := ⟨_, rfl⟩
    have hYl : Y.length = s.length := by rw [hY, List.length_take]; omega
    obtain ⟨q2, hq2⟩ : ∃ q2, PureR.regOf c0 c1 l f0 f1 Y = (q2, qb, qo) := by
      have h := PureR.regOf_same c0 c1 f0 f1 l Y s hYl
      rw [HQ.out] at h
      exact ⟨(PureR.regOf c0 c1 l f0 f1 Y).1, Prod.ext rfl h⟩
    have HQ2L := Aside0.mk (show q2.length ≤ 512 by
      have := PureR.regOf_len c0 c1 f0 f1 l Y
      rw [hq2] at this
      exact this)
    have HX := Aside0.mk hX1
    have HY := Aside0.mk hY
    have HQ2 := Aside0.mk hq2
    clear hX1 hY hYl hq2
    have hXl := HX.out
    have hcp := own_copyB (some ⟨gS, 0, none⟩) cS X1 _ w12 (by rw [hXl]; exact OS.out) (by omega)
    rw [hXl] at hcp
    refine hcp.mono ?_
    clear hcp
    rintro e w13 ⟨AN, cN, rfl, hcN, hN, b⟩
    obtain ⟨gN, cN', heN, hgN, hgN'⟩ := hN.form (by omega)
    cases heN
    have ON := Aside0.mk hN
    have HCN := Aside0.mk hcN
    have GN := Aside0.mk (fun b' h => (by have := own_ge OG.out b' h; omega : b' ≠ gN) : ∀ b', (Value.slice AG q.length cG).ownBlock = some b' → b' ≠ gN)
    clear hcN hN hgN hXl
    replace K7 := Aside0.mk (blk_below K7.out b)
    replace OS := Aside0.mk ((But.of_below b).own OS.out (fun _ _ h => h))
    replace OW := Aside0.mk ((But.of_below b).own OW.out (fun _ _ h => h))
    replace OG := Aside0.mk ((But.of_below b).own OG.out (fun _ _ h => h))
    replace OGB := Aside0.mk ((But.of_below b).own OGB.out (fun _ _ h => h))
    replace OLD := Aside0.mk (OLD.out.trans (b.mono OLD.out.size))
    clear b
    have W20 : ∀ w8, Below w13.heap.size w13 w8 → w8.cell? ⟨g2, 0, none⟩ = some (.int .i64 c0) := fun w8 b => blk_cell (blk_below (blk_below K2.out OLD.out) b) 0
    have W21 : ∀ w8, Below w13.heap.size w13 w8 → w8.cell? ⟨g2, 1, none⟩ = some (.int .i64 c1) := fun w8 b => blk_cell (blk_below (blk_below K2.out OLD.out) b) 1
    have W22 : ∀ w8, Below w13.heap.size w13 w8 → w8.cell? ⟨g2, 2, none⟩ = some (.slice A l.length cA) := fun w8 b => blk_cell (blk_below (blk_below K2.out OLD.out) b) 2
    have X0 : ∀ w8, Below w13.heap.size w13 w8 → w8.cell? ⟨g3, 0, none⟩ = some (.int .i64 f0) := fun w8 b => blk_cell (blk_below (blk_below K3.out OLD.out) b) 0
    have X1' : ∀ w8, Below w13.heap.size w13 w8 → w8.cell? ⟨g3, 1, none⟩ = some (.int .i64 f1) := fun w8 b => blk_cell (blk_below (blk_below K3.out OLD.out) b) 1
    have X2' : ∀ w8, Below w13.heap.size w13 w8 → w8.cell? ⟨g3, 2, none⟩ = some (.slice B s.length cB) := fun w8 b => blk_cell (blk_below (blk_below K3.out OLD.out) b) 2
    have XX := Aside0.mk (And.intro W20 (And.intro W21 (And.intro W22 (And.intro X0 (And.intro X1' X2')))))
    clear W20 W21 W22 X0 X1' X2'
    go_wp2_with (fail)
    rename_i hK
    refine RegInv.region_facts (by kernel_rfl) (by kernel_rfl) (fun a b => Below a.heap.size a b) (fun a b c h k => wB h k) (below_drew1 (Below.refl _ _)) dL11 19 (by kernel_rfl) (by kernel_rfl) (by kernel_rfl) (FL11 f0 f1 B cB gN cN s.length g3 q2 qb qo (.agg #[.int .i64 c0, .int .i64 c1, .slice A l.length cA])) (FL11_below f0 f1 B cB gN cN s.length g3 q2 qb qo (.agg #[.int .i64 c0, .int .i64 c1, .slice A l.length cA])) ?hsw12 ?hew12
    case hsw12 =>
      clear hK HW HD
      intro i o a w8 hi hM
      have hlt : i < 19 := (Array.getElem?_eq_some_iff.1 hi).1
      obtain ⟨W20, W21, W22, X0, X1', X2'⟩ := XX.out
      rcases i with _ | _ | _ | _ | _ | _ | _ | _ | _ | _ | _ | _ | _ | _ | _ | _ | _ | _ | _ | i
      · cases hi
        have h0 := gdq _ _ _ (show a.tmps.getD 2 undef = .pointer (some ⟨g2, 0, none⟩) from hM.off 2 (by kernel_rfl))
        have y0 := W20 w8 hM.ext
        have y1 := W21 w8 hM.ext
        have y2 := W22 w8 hM.ext
        refine RegInv.op_value (by rfl) rfl (v := .agg #[.int .i64 c0, .int .i64 c1, .slice A l.length cA]) (w' := w8) ?_ ⟨_, rfl, rfl, Below.refl _ _⟩
        unfold execOp
        go_simp
      · cases hi
        have h0 := gdq _ _ _ (show a.tmps.getD 3 undef = .pointer (some ⟨g3, 0, none⟩) from hM.off 3 (by kernel_rfl))
        refine RegInv.op_value (by rfl) rfl (v := .pointer (some ⟨g3, 0, none⟩)) (w' := w8) ?_ ⟨_, rfl, rfl, Below.refl _ _⟩
        unfold execOp
        go_simp
      · cases hi
        have h0 := gdq _ _ _ (show a.tmps.getD 88 undef = .pointer (some ⟨g3, 0, none⟩) from hM.at_ 1 (by decide) (by kernel_rfl))
        have y := X0 w8 hM.ext
        refine RegInv.op_value (by rfl) rfl (v := .int .i64 f0) (w' := w8) ?_ ⟨_, rfl, rfl, Below.refl _ _⟩
        unfold execOp
        go_simp
      · cases hi
        have h0 := gdq _ _ _ (show a.tmps.getD 3 undef = .pointer (some ⟨g3, 0, none⟩) from hM.off 3 (by kernel_rfl))
        refine RegInv.op_value (by rfl) rfl (v := .pointer (some ⟨g3, 1, none⟩)) (w' := w8) ?_ ⟨_, rfl, rfl, Below.refl _ _⟩
        unfold execOp
        go_simp
      · cases hi
        have h0 := gdq _ _ _ (show a.tmps.getD 90 undef = .pointer (some ⟨g3, 1, none⟩) from hM.at_ 3 (by decide) (by kernel_rfl))
        have y := X1' w8 hM.ext
        refine RegInv.op_value (by rfl) rfl (v := .int .i64 f1) (w' := w8) ?_ ⟨_, rfl, rfl, Below.refl _ _⟩
        unfold execOp
        go_simp
      · cases hi
        have h0 := gdq _ _ _ (show a.tmps.getD 14 undef = .slice (some ⟨gN, 0, none⟩) (s.length + 64) cN from hM.off 14 (by kernel_rfl))
        refine RegInv.op_value (by rfl) rfl (v := .slice (some ⟨gN, 0, none⟩) (s.length + 64) cN) (w' := w8) ?_ ⟨_, rfl, rfl, Below.refl _ _⟩
        unfold execOp
        go_simp
      · cases hi
        have h0 := gdq _ _ _ (show a.tmps.getD 3 undef = .pointer (some ⟨g3, 0, none⟩) from hM.off 3 (by kernel_rfl))
        refine RegInv.op_value (by rfl) rfl (v := .pointer (some ⟨g3, 2, none⟩)) (w' := w8) ?_ ⟨_, rfl, rfl, Below.refl _ _⟩
        unfold execOp
        go_simp
      · cases hi
        have h0 := gdq _ _ _ (show a.tmps.getD 93 undef = .pointer (some ⟨g3, 2, none⟩) from hM.at_ 6 (by decide) (by kernel_rfl))
        have y := X2' w8 hM.ext
        refine RegInv.op_value (by rfl) rfl (v := .slice B s.length cB) (w' := w8) ?_ ⟨_, rfl, rfl, Below.refl _ _⟩
        unfold execOp
        go_simp
      · cases hi
        have h0 := gdq _ _ _ (show a.tmps.getD 94 undef = .slice B s.length cB from hM.at_ 7 (by decide) (by kernel_rfl))
        refine RegInv.op_value (by rfl) rfl (v := .int .i64 (s.length : Int)) (w' := w8) ?_ ⟨_, rfl, rfl, Below.refl _ _⟩
        unfold execOp
        go_simp
      · cases hi
        have h0 := gdq _ _ _ (show a.tmps.getD 92 undef = .slice (some ⟨gN, 0, none⟩) (s.length + 64) cN from hM.at_ 5 (by decide) (by kernel_rfl))
        have h1 := gdq _ _ _ (show a.tmps.getD 95 undef = .int .i64 (s.length : Int) from hM.at_ 8 (by decide) (by kernel_rfl))
        have y0 := HCN.out
        have y1 : (0 : Int) ≤ (s.length : Int) := by omega
        have y2 : (s.length : Int) ≤ (cN : Int) := by omega
        refine RegInv.op_value (by rfl) rfl (v := .slice (some ⟨gN, 0, none⟩) s.length cN) (w' := w8) ?_ ⟨_, rfl, rfl, Below.refl _ _⟩
        unfold execOp
        go_simp
      · cases hi
        have h0 := gdq _ _ _ (show a.tmps.getD 89 undef = .int .i64 f0 from hM.at_ 2 (by decide) (by kernel_rfl))
        have h1 := gdq _ _ _ (show a.tmps.getD 91 undef = .int .i64 f1 from hM.at_ 4 (by decide) (by kernel_rfl))
        have h2 := gdq _ _ _ (show a.tmps.getD 96 undef = .slice (some ⟨gN, 0, none⟩) s.length cN from hM.at_ 9 (by decide) (by kernel_rfl))
        refine RegInv.op_value (by rfl) rfl (v := .agg #[.int .i64 f0, .int .i64 f1, .slice (some ⟨gN, 0, none⟩) s.length cN]) (w' := w8) ?_ ⟨_, rfl, rfl, Below.refl _ _⟩
        unfold execOp
        go_simp
      · cases hi
        have h0 := gdq _ _ _ (show a.tmps.getD 87 undef = .agg #[.int .i64 c0, .int .i64 c1, .slice A l.length cA] from hM.at_ 0 (by decide) (by kernel_rfl))
        have h1 := gdq _ _ _ (show a.tmps.getD 97 undef = .agg #[.int .i64 f0, .int .i64 f1, .slice (some ⟨gN, 0, none⟩) s.length cN] from hM.at_ 10 (by decide) (by kernel_rfl))
        refine RegInv.op_call (by rfl) rfl Try.func12 (by kernel_rfl) rfl rfl #[.agg #[.int .i64 c0, .int .i64 c1, .slice A l.length cA], .agg #[.int .i64 f0, .int .i64 f1, .slice (some ⟨gN, 0, none⟩) s.length cN]] (by simp [Act.eval, h0, h1]) ?_
        refine (ref_now c0 c1 f0 f1 A cA l gN cN _ s.length X1 Y q2 qb qo w8 (Kd.C_below HA.out (OLD.out.trans (hM.ext.mono OLD.out.size))) ((But.of_below hM.ext).own ON.out (fun _ _ h => h)) HX.out HY.out HQ2.out HOK.out.blocks (by omega)).mono ?_
        rintro e w9 ⟨v0, rfl, hT, b⟩
        exact ⟨_, rfl, _, rfl, hT, b⟩
      · cases hi
        obtain ⟨u, hu, hU⟩ : TupAt 0 q2 qb qo w8 (a.tmps.getD 98 undef) := hM.at_ 11 (by decide) (by kernel_rfl)
        replace hu := gdq _ _ _ hu
        refine RegInv.op_value (by rfl) rfl (v := .tuple #[u, .int .i64 qb, .bool qo]) (w' := w8) ?_ ⟨_, rfl, ⟨u, rfl, hU⟩, Below.refl _ _⟩
        clear hU
        unfold execOp
        go_simp
      · cases hi
        obtain ⟨u, hu, hU⟩ : TupAt 0 q2 qb qo w8 (a.tmps.getD 86 undef) := hM.at_ 12 (by decide) (by kernel_rfl)
        replace hu := gdq _ _ _ hu
        refine RegInv.op_value (by rfl) rfl (v := u) (w' := w8) ?_ ⟨_, rfl, hU, Below.refl _ _⟩
        clear hU
        unfold execOp
        go_simp
      · cases hi
        obtain ⟨u, hu, hU⟩ : TupAt 0 q2 qb qo w8 (a.tmps.getD 86 undef) := hM.at_ 12 (by decide) (by kernel_rfl)
        replace hu := gdq _ _ _ hu
        refine RegInv.op_value (by rfl) rfl (v := .int .i64 qb) (w' := w8) ?_ ⟨_, rfl, rfl, Below.refl _ _⟩
        clear hU
        unfold execOp
        go_simp
      · cases hi
        obtain ⟨u, hu, hU⟩ : TupAt 0 q2 qb qo w8 (a.tmps.getD 86 undef) := hM.at_ 12 (by decide) (by kernel_rfl)
        replace hu := gdq _ _ _ hu
        refine RegInv.op_value (by rfl) rfl (v := .bool qo) (w' := w8) ?_ ⟨_, rfl, rfl, Below.refl _ _⟩
        clear hU
        unfold execOp
        go_simp
      · cases hi
        have hU : RowAt 0 q2 w8 (a.tmps.getD 99 undef) := hM.at_ 13 (by decide) (by kernel_rfl)
        refine RegInv.op_value (by rfl) rfl (v := a.tmps.getD 99 undef) (w' := w8) ?_ ⟨_, rfl, hU, Below.refl _ _⟩
        clear hU
        unfold execOp
        simp only [Act.eval, Array.getD_eq_getD_getElem?]
        go_simp
      · cases hi
        have h0 := gdq _ _ _ (show a.tmps.getD 100 undef = .int .i64 qb from hM.at_ 14 (by decide) (by kernel_rfl))
        refine RegInv.op_value (by rfl) rfl (v := .int .i64 qb) (w' := w8) ?_ ⟨_, rfl, rfl, Below.refl _ _⟩
        unfold execOp
        go_simp
      · cases hi
        have h0 := gdq _ _ _ (show a.tmps.getD 101 undef = .bool qo from hM.at_ 15 (by decide) (by kernel_rfl))
        refine RegInv.op_value (by rfl) rfl (v := .bool qo) (w' := w8) ?_ ⟨_, rfl, rfl, Below.refl _ _⟩
        unfold execOp
        go_simp
      · exact absurd hlt (by omega)
    intro vs w14 b hF
    have r16 : RowAt 0 q2 w14 (vs 16) := hF 16 (by omega)
    have e17 : vs 17 = .int .i64 qb := hF 17 (by omega)
    have e18 : vs 18 = .bool qo := hF 18 (by omega)
    clear hF
    simp only [RegInv.puts, dL11, Act.put, List.range, List.range.loop, List.setIfInBounds_toArray, List.set_cons_zero, List.set_cons_succ]
    obtain ⟨AW2, cW2, e16, _, hW2⟩ := r16
    rw [e16, e17, e18]
    clear e16 e17 e18
    have OW2 := Aside0.mk hW2
    clear hW2
    generalize vs 0 = u0
    generalize vs 1 = u1
    generalize vs 2 = u2
    generalize vs 3 = u3
    generalize vs 4 = u4
    generalize vs 5 = u5
    generalize vs 6 = u6
    generalize vs 7 = u7
    generalize vs 8 = u8
    generalize vs 9 = u9
    generalize vs 10 = u10
    generalize vs 11 = u11
    generalize vs 12 = u12
    generalize vs 13 = u13
    generalize vs 14 = u14
    generalize vs 15 = u15
    refine hK _ _ ?_
    clear hK XX
    replace K7 := Aside0.mk (blk_below K7.out b)
    replace OS := Aside0.mk ((But.of_below b).own OS.out (fun _ _ h => h))
    replace OW := Aside0.mk ((But.of_below b).own OW.out (fun _ _ h => h))
    replace OG := Aside0.mk ((But.of_below b).own OG.out (fun _ _ h => h))
    replace OGB := Aside0.mk ((But.of_below b).own OGB.out (fun _ _ h => h))
    replace ON := Aside0.mk ((But.of_below b).own ON.out (fun _ _ h => h))
    replace OLD := Aside0.mk (OLD.out.trans (b.mono OLD.out.size))
    clear b
    have K5' := blk_below K5.out OLD.out
    have q0 : w14.cell? ⟨g5, 0, none⟩ = some (.int .i64 c0) := blk_cell K5' 0
    have q1 : w14.cell? ⟨g5, 1, none⟩ = some (.int .i64 c1) := blk_cell K5' 1
    have q2' : w14.cell? ⟨g5, 2, none⟩ = some (.slice D l.length cD) := blk_cell K5' 2
    have r0 : w14.cell? ⟨g7, 0, none⟩ = some (.int .i64 f0) := blk_cell K7.out 0
    have r1 : w14.cell? ⟨g7, 1, none⟩ = some (.int .i64 f1) := blk_cell K7.out 1
    have r2 : w14.cell? ⟨g7, 2, none⟩ = some (.slice (some ⟨gS, 0, none⟩) s.length cS) := blk_cell K7.out 2
    clear K5'
    go_wp2_with (fail)
    clear q0 q1 q2' r0 r1 r2
    refine (got_now c0 c1 f0 f1 D cD l gS cS _ s.length X1 Y q2 qb qo w14 (Kd.C_below HD.out OLD.out) HLD.out OS.out HX.out HY.out HQ2.out HOK.out.blocks (by omega)).mono ?_
    rintro e w15 ⟨AA, cA2, rfl, hcA2, hA2, b⟩
    have OA := Aside0.mk (own_lower hA2 (show w3.heap.size ≤ w14.heap.size from OLD.out.size))
    have NE := Aside0.mk (fun b' h h' => (by have := own_ge OG.out b' h; have := own_ge hA2 b' h'; omega : False) : ∀ b', (Value.slice AG q.length cG).ownBlock = some b' → (Value.slice AA q2.length cA2).ownBlock ≠ some b')
    have NS := Aside0.mk ((by have := own_ge OS.out gS rfl; intro h; have := own_ge hA2 gS h; omega) : (Value.slice AA q2.length cA2).ownBlock ≠ some gS)
    have NN := Aside0.mk ((by have := own_ge ON.out gN rfl; intro h; have := own_ge hA2 gN h; omega) : (Value.slice AA q2.length cA2).ownBlock ≠ some gN)
    clear hcA2 hA2
    replace OS := Aside0.mk ((But.of_below b).own OS.out (fun _ _ h => h))
    replace OW := Aside0.mk ((But.of_below b).own OW.out (fun _ _ h => h))
    replace OG := Aside0.mk ((But.of_below b).own OG.out (fun _ _ h => h))
    replace OGB := Aside0.mk ((But.of_below b).own OGB.out (fun _ _ h => h))
    replace ON := Aside0.mk ((But.of_below b).own ON.out (fun _ _ h => h))
    replace OW2 := Aside0.mk ((But.of_below b).own OW2.out (fun _ _ h => h))
    replace OLD := Aside0.mk (OLD.out.trans (b.mono OLD.out.size))
    clear b K7
    go_wp2_with (fail)
    refine (same_own AA AW2 cA2 cW2 _ _ q2 w15 OA.out OW2.out (by have := HQ2L.out; omega)).mono ?_
    rintro e w16 ⟨rfl, b⟩
    replace OS := Aside0.mk ((But.of_below b).own OS.out (fun _ _ h => h))
    replace OW := Aside0.mk ((But.of_below b).own OW.out (fun _ _ h => h))
    replace OG := Aside0.mk ((But.of_below b).own OG.out (fun _ _ h => h))
    replace OGB := Aside0.mk ((But.of_below b).own OGB.out (fun _ _ h => h))
    replace ON := Aside0.mk ((But.of_below b).own ON.out (fun _ _ h => h))
    replace OA := Aside0.mk ((But.of_below b).own OA.out (fun _ _ h => h))
    replace OLD := Aside0.mk (OLD.out.trans (b.mono OLD.out.size))
    clear b OW2
    go_wp2_with (fail)
    refine (same_own AG AW cG cW _ _ q w16 OG.out OW.out (by have := HQL.out; omega)).mono ?_
    rintro e w17 ⟨rfl, b⟩
    replace OS := Aside0.mk ((But.of_below b).own OS.out (fun _ _ h => h))
    replace OG := Aside0.mk ((But.of_below b).own OG.out (fun _ _ h => h))
    replace OGB := Aside0.mk ((But.of_below b).own OGB.out (fun _ _ h => h))
    replace ON := Aside0.mk ((But.of_below b).own ON.out (fun _ _ h => h))
    replace OA := Aside0.mk ((But.of_below b).own OA.out (fun _ _ h => h))
    replace OLD := Aside0.mk (OLD.out.trans (b.mono OLD.out.size))
    clear b OW
    go_wp2_with (fail)
    refine (apart_two AG AA cG cA2 w3.heap.size q q2 w17 OLD.out.size OG.out OA.out NE.out HQL.out HQ2L.out).mono ?_
    rintro e w18 ⟨rfl, bt⟩
    have bA := below_alloc (Below.refl _ w17) (.cells #[.slice AG q.length cG, .slice AA q2.length cA2] 25)
    have GS := GS.out
    have hS := bt.own ((But.of_below bA).own OS.out (fun _ _ h => h)) (fun b h => by
      cases h
      rintro (h | h)
      · exact GS _ h rfl
      · exact NS.out h)
    have hN := bt.own ((But.of_below bA).own ON.out (fun _ _ h => h)) (fun b h => by
      cases h
      rintro (h | h)
      · exact GN.out _ h rfl
      · exact NN.out h)
    have bF := (OLD.out.trans (bA.mono OLD.out.size)).trans (bt.to_below (Nat.le_trans OLD.out.size bA.size) (fun b h => h.elim (fun h => (own_ge OG.out b h).1) (fun h => (own_ge OA.out b h).1)))
    have OS := Aside0.mk hS
    have ON := Aside0.mk hN
    replace OLD := Aside0.mk bF
    clear bF hS hN bt bA
    go_wp2_with (fail)
    have hsm := same_own (some ⟨gS, 0, none⟩) (some ⟨gN, 0, none⟩) cS cN _ _ X1 w18 (by rw [HX.out]; exact OS.out) (by rw [HX.out]; exact ON.out) (by have := HX.out; omega)
    rw [HX.out] at hsm
    refine hsm.mono ?_
    rintro e w19 ⟨rfl, b⟩
    clear hsm
    replace OLD := Aside0.mk (OLD.out.trans (b.mono OLD.out.size))
    clear b
    go_wp2_with (fail)
    go_ret
    exact ⟨rfl, wB HW.out OLD.out⟩
end Go.Proofs.Ytgbbcjooieggpaa.PRegs
