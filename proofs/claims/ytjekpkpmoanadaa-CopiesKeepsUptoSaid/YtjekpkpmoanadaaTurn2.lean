/- An instruction at its sources: the contract of turn. For every world. -/
import Derived.Test.YtjekpkpmoanadaaTurn
import Derived.Test.YtjekpkpmoanadaaRegLast2
namespace Go.Proofs.Ytjekpkpmoanadaa.PCop
open Go.RowKit Go.Proofs.Ytjekpkpmoanadaa.Lit Go.Proofs.Ytjekpkpmoanadaa.OwnCells Go.Proofs.YtjekpkpmoanadaaW.PrintWords Go.Proofs.YtjekpkpmoanadaaW.PrintLast Go.Proofs.YtjekpkpmoanadaaW.PrintMore
open Go.Maps
set_option linter.unusedVariables false
set_option linter.unusedSimpArgs false
def turn65 (M : Map49) (s : S65) : S65 := ⟨s.f0, s.f1, s.f2.map (ask M)⟩
def turn47 (M : Map49) (x : S47) : S47 := ⟨x.f0, x.f1, x.f2, x.f3.map (ask M), x.f4, x.f5, x.f6, x.f7.map (turn65 M)⟩
/-- the first k shapes are at their sources, the others as they came -/
def TurnInv (w0 : World) (M : Map49) (l : List S65) (base g cap k : Nat) (wr : World) : Prop :=
  ∃ rows, (Kd.raw 3).R 65 wr base (fun _ => True) (.slice (some ⟨g, 0, none⟩) l.length cap) rows ∧ rows.length = l.length ∧
    ∀ (j : Nat) (s : S65) (cs : List Value), l[j]? = some s → rows[j]? = some cs → (j < k → k65.M wr base (fun b => b ≠ g) (turn65 M s) cs) ∧ (k ≤ j → k65.K w0 s cs)
theorem TurnInv.below {w0 : World} {M : Map49} {l : List S65} {base g cap k : Nat} {w w1 : World} (h : TurnInv w0 M l base g cap k w) (hb : Below w.heap.size w w1) : TurnInv w0 M l base g cap k w1 := by
  obtain ⟨rows, h1, h2, h3⟩ := h
  exact ⟨rows, Kd.R_below h1 hb, h2, fun j s cs hs hc => ⟨fun hj => Kd.M_below ((h3 j s cs hs hc).1 hj) hb, (h3 j s cs hs hc).2⟩⟩
theorem TurnInv.start {w0 w : World} {M : Map49} {l : List S65} {base g cap : Nat} {rows : List (List Value)} (h1 : (Kd.raw 3).R 65 w base (fun _ => True) (.slice (some ⟨g, 0, none⟩) l.length cap) rows) (h2 : rows.length = l.length) (h3 : ∀ (j : Nat) (x : S65) (cs : List Value), l[j]? = some x → rows[j]? = some cs → k65.K w0 x cs) : TurnInv w0 M l base g cap 0 w :=
  ⟨rows, h1, h2, fun j s cs hs hc => ⟨fun hj => absurd hj (by omega), fun _ => h3 j s cs hs hc⟩⟩
theorem turn65_open {w : World} {base : Nat} {ok : Nat → Prop} {M : Map49} {s : S65} {v : Value} (h : k49.R 49 w base ok v (s.f2.map (ask M))) : k65.M w base ok (turn65 M s) [.int .i64 s.f0, .int .i64 s.f1, v] := k65_mkM w base ok (turn65 M s) h
/-- element k as it came -/
theorem TurnInv.elem {w0 : World} {M : Map49} {l : List S65} {base g cap k : Nat} {w : World} (h : TurnInv w0 M l base g cap k w) {s : S65} (hs : l[k]? = some s) :
    ∃ A2 c2, w.cell? ⟨g, k * 3 + 2, none⟩ = some (.slice A2 s.f2.length c2) ∧ s.f2.length ≤ c2 ∧ k49.C w0 A2 s.f2.length s.f2 ∧ w.frozen? ⟨g, k * 3 + 2, none⟩ = false := by
  obtain ⟨rows, h1, h2, h3⟩ := h
  have hk : k < l.length := (List.getElem?_eq_some_iff.1 hs).1
  have hr : rows[k]? = some rows[k] := List.getElem?_eq_getElem (by omega)
  obtain ⟨A2, c2, e, hl, hC⟩ := k65_open ((h3 k s _ hs hr).2 (Nat.le_refl _))
  obtain ⟨ad, c', hcE, hcl, hcK, hcc⟩ := Kd.C_get (Kd.R_reads' h1).2.2 [] (k : Int) (by omega) (by omega)
  obtain rfl : (⟨g, 0, none⟩ : Addr) = ad := Option.some.inj hcE
  have hcr : c' = rows[k] := by
    have := hcK.1
    rwa [Int.toNat_natCast, List.getD_eq_getElem?_getD, hr] at this
  rw [hcr, e] at hcc
  have h4 := hcc 2 _ rfl
  rw [add_plain, Int.toNat_natCast] at h4
  refine ⟨A2, c2, h4, hl, hC, ?_⟩
  obtain ⟨_, inner, ho, _⟩ := h1
  obtain ⟨cells, hc⟩ := own_typed ho g (by simp [Value.ownBlock])
  exact blk_frozen hc _
theorem TurnInv.store {w0 : World} {M : Map49} {l : List S65} {base g cap k : Nat} {w : World} (h : TurnInv w0 M l base g cap k w) {s : S65} (hs : l[k]? = some s) {v : Value} (hv : k49.R 49 w base (fun b => b ≠ g) v (s.f2.map (ask M))) :
    TurnInv w0 M l base g cap (k + 1) (w.setCell ⟨g, k * 3 + 2, none⟩ v) := by
  obtain ⟨rows, h1, h2, h3⟩ := h
  have hk : k < l.length := (List.getElem?_eq_some_iff.1 hs).1
  have hr : rows[k]? = some rows[k] := List.getElem?_eq_getElem (by omega)
  obtain ⟨A2, c2, e, hl, hC⟩ := k65_open ((h3 k s _ hs hr).2 (Nat.le_refl _))
  obtain ⟨ad, c', hcE, hcl, hcK, hcc⟩ := Kd.C_get (Kd.R_reads' h1).2.2 [] (k : Int) (by omega) (by omega)
  obtain rfl : (⟨g, 0, none⟩ : Addr) = ad := Option.some.inj hcE
  have hcr : c' = rows[k] := by
    have := hcK.1
    rwa [Int.toNat_natCast, List.getD_eq_getElem?_getD, hr] at this
  rw [hcr, e] at hcc
  obtain ⟨A9, c9, hv9, _⟩ := Kd.R_reads hv
  obtain ⟨r1, r2⟩ := Kd.R_seg (d := Kd.raw 3) h1 (k : Int) (by omega) (by omega) (c := [.int .i64 s.f0, .int .i64 s.f1, .slice A2 s.f2.length c2]) (seg := [v]) (j := 2) rfl (fun j u hu => by have := hcc j u hu; rwa [add_plain] at this) (Nat.le_refl 3) (x' := [.int .i64 s.f0, .int .i64 s.f1, v]) (okp := fun _ => False) ⟨rfl, rfl, by rw [hv9]; simp; exact ⟨rfl, rfl, rfl⟩⟩ (fun _ hk => hk.elim)
  rw [Int.toNat_natCast] at r1 r2
  have e1 : w.setCells g (k * (Kd.raw 3).sz + 2) [v] = w.setCell ⟨g, k * 3 + 2, none⟩ v := rfl
  rw [e1] at r1 r2
  refine ⟨_, r1, by rw [List.length_set]; exact h2, fun j s' cs hs' hc => ⟨fun hj => ?_, fun hj => ?_⟩⟩
  · by_cases hjk : j = k
    · subst hjk
      rw [hs] at hs'
      cases hs'
      rw [List.getElem?_set_self (by omega)] at hc
      cases hc
      exact turn65_open (Kd.R_far hv (fun b hb => hb) v)
    · rw [List.getElem?_set_ne (fun e => hjk e.symm)] at hc
      exact Kd.M_far ((h3 j s' cs hs' hc).1 (by omega)) (fun b hb => hb) v
  · rw [List.getElem?_set_ne (by omega)] at hc
    exact (h3 j s' cs hs' hc).2 (by omega)
theorem TurnInv.finish {w0 : World} {M : Map49} {l : List S65} {base g cap : Nat} {w : World} (h : TurnInv w0 M l base g cap l.length w) : k65.R 65 w base (fun _ => True) (.slice (some ⟨g, 0, none⟩) l.length cap) (l.map (turn65 M)) := by
  obtain ⟨rows, ⟨h0, inner, ho, hr⟩, h2, h3⟩ := h
  refine ⟨fun _ _ => trivial, inner, ?_, ?_, fun j p hj => ?_⟩
  · rw [List.length_map]; rw [h2] at ho; exact ho
  · rw [List.length_map, ← h2]; exact hr.1
  · rw [List.getElem?_map] at hj
    obtain ⟨s, hs, rfl⟩ := Option.map_eq_some_iff.1 hj
    have hjl : j < rows.length := by rw [h2]; exact (List.getElem?_eq_some_iff.1 hs).1
    have hc := List.getElem?_eq_getElem hjl
    have e := (hr.2 j _ hc).1
    have hm := (h3 j s _ hs hc).1 (by rw [← h2]; exact hjl)
    have e' : List.take k65.sz (List.drop (j * k65.sz) inner) = rows[j] := e
    rw [e']
    exact k65.M_mono (fun b hb => ⟨trivial, fun he => hb (by injection he)⟩) hm
def set8 (w : World) (g : Nat) (a0 a1 a2 a3 a4 a5 a6 a7 : Value) : World := ((((((((w.setCell ⟨g, 0, none⟩ a0).setCell ⟨g, 1, none⟩ a1).setCell ⟨g, 2, none⟩ a2).setCell ⟨g, 3, none⟩ a3).setCell ⟨g, 4, none⟩ a4).setCell ⟨g, 5, none⟩ a5).setCell ⟨g, 6, none⟩ a6).setCell ⟨g, 7, none⟩ a7)
theorem set8_grown (w : World) (g : Nat) (a0 a1 a2 a3 a4 a5 a6 a7 : Value) : w.grownBy (set8 w g a0 a1 a2 a3 a4 a5 a6 a7) (some g) := by
  unfold set8
  have h : ∀ {a b : World} (hg : a.grownBy b (some g)) (j : Nat) (v : Value), a.grownBy (b.setCell ⟨g, j, none⟩ v) (some g) := fun hg j v => hg.andThen (setCell_grown _ g j v) (fun q hq => Or.inr hq)
  exact h (h (h (h (h (h (h (setCell_grown w g 0 a0) 1 a1) 2 a2) 3 a3) 4 a4) 5 a5) 6 a6) 7 a7
theorem set8_blk {w : World} {g : Nat} {t : TypeId} {x0 x1 x2 x3 x4 x5 x6 x7 : Value} (h : w.heap[g]? = some (.cells #[x0, x1, x2, x3, x4, x5, x6, x7] t (0, 0))) (a0 a1 a2 a3 a4 a5 a6 a7 : Value) : (set8 w g a0 a1 a2 a3 a4 a5 a6 a7).heap[g]? = some (.cells #[a0, a1, a2, a3, a4, a5, a6, a7] t (0, 0)) := by
  have h0 := blk_put h 0 a0 (cs' := #[a0, x1, x2, x3, x4, x5, x6, x7]) rfl
  have h1 := blk_put h0 1 a1 (cs' := #[a0, a1, x2, x3, x4, x5, x6, x7]) rfl
  have h2 := blk_put h1 2 a2 (cs' := #[a0, a1, a2, x3, x4, x5, x6, x7]) rfl
  have h3 := blk_put h2 3 a3 (cs' := #[a0, a1, a2, a3, x4, x5, x6, x7]) rfl
  have h4 := blk_put h3 4 a4 (cs' := #[a0, a1, a2, a3, a4, x5, x6, x7]) rfl
  have h5 := blk_put h4 5 a5 (cs' := #[a0, a1, a2, a3, a4, a5, x6, x7]) rfl
  have h6 := blk_put h5 6 a6 (cs' := #[a0, a1, a2, a3, a4, a5, a6, x7]) rfl
  have h7 := blk_put h6 7 a7 (cs' := #[a0, a1, a2, a3, a4, a5, a6, a7]) rfl
  exact h7
theorem set8_R {α : Type} {d : Kd α} {e base : Nat} {w : World} {v : Value} {xs : List α} (h : d.R e w base (fun _ => True) v xs) {g t : Nat} {cells : Array Value} (hb : w.heap[g]? = some (.cells cells t (0, 0))) (ht : ∀ q, q ∈ e :: d.E → q ≠ t) (a0 a1 a2 a3 a4 a5 a6 a7 : Value) : d.R e (set8 w g a0 a1 a2 a3 a4 a5 a6 a7) base (fun _ => True) v xs :=
  Kd.R_mono (Kd.R_grown (Kd.R_types h hb ht) (set8_grown w g a0 a1 a2 a3 a4 a5 a6 a7) (fun k hk he => hk.2 (by injection he))) (fun _ _ => trivial)
def TurnV (w0 : World) (M : Map49) (l : List S65) (base : Nat) (V : Value) (k : Nat) (wr : World) : Prop :=
  (∃ g cap, V = .slice (some ⟨g, 0, none⟩) l.length cap ∧ base ≤ g ∧ (∃ cells, wr.heap[g]? = some (.cells cells 65 (0, 0))) ∧ TurnInv w0 M l base g cap k wr) ∨ (l = [] ∧ V = .slice none 0 0)
theorem TurnV.form {w0 : World} {M : Map49} {l : List S65} {base : Nat} {V : Value} {k : Nat} {wr : World} (h : TurnV w0 M l base V k wr) : ∃ A c, V = .slice A l.length c := by
  rcases h with ⟨g, cap, rfl, _⟩ | ⟨rfl, rfl⟩
  · exact ⟨_, _, rfl⟩
  · exact ⟨_, _, rfl⟩
theorem TurnV.of_raw {w0 w : World} {M : Map49} {l : List S65} {base : Nat} {V : Value} {rows : List (List Value)} (h1 : (Kd.raw 3).R 65 w base (fun _ => True) V rows) (h2 : rows.length = l.length) (h3 : ∀ (j : Nat) (x : S65) (cs : List Value), l[j]? = some x → rows[j]? = some cs → k65.K w0 x cs) : TurnV w0 M l base V 0 w := by
  have h1' := h1
  obtain ⟨_, inner, ho, _⟩ := h1'
  rcases ho.2 with ⟨rfl, hn⟩ | ⟨g, cap, cur, rfl, hb, hg, _⟩
  · exact .inr ⟨List.eq_nil_of_length_eq_zero (by omega), rfl⟩
  · rw [h2] at h1 ⊢
    exact .inl ⟨g, cap, rfl, hb, ⟨cur, hg⟩, TurnInv.start h1 h2 h3⟩
theorem TurnV.finish {w0 w : World} {M : Map49} {l : List S65} {base : Nat} {V : Value} (h : TurnV w0 M l base V l.length w) : k65.R 65 w base (fun _ => True) V (l.map (turn65 M)) := by
  rcases h with ⟨g, cap, rfl, _, _, hi⟩ | ⟨rfl, rfl⟩
  · exact hi.finish
  · exact Kd.R_nil _ _ _ _ _
theorem TurnV.below {w0 : World} {M : Map49} {l : List S65} {base : Nat} {V : Value} {k : Nat} {w w1 : World} (h : TurnV w0 M l base V k w) (hb : Below w.heap.size w w1) : TurnV w0 M l base V k w1 := by
  rcases h with ⟨g, cap, rfl, h1, ⟨cells, h2⟩, hi⟩ | h
  · exact .inl ⟨g, cap, rfl, h1, ⟨cells, blk_below h2 hb⟩, hi.below hb⟩
  · exact .inr h
/-- the row of the slots of a shape, anew -/
def AskRow (M : Map49) (s : S65) (base g : Nat) (w : World) (v : Value) : Prop := k49.R 49 w base (fun b => b ≠ g) v (s.f2.map (ask M))
theorem AskRow.below {M : Map49} {s : S65} {base g : Nat} {w w1 : World} {v : Value} (h : AskRow M s base g w v) (hb : Below w.heap.size w w1) : AskRow M s base g w1 v := Kd.R_below h hb
def Inv28 (x : S47) (w : World) (M : Map49) (g3 g4 : Nat) (P3 : Option Addr) (m3 d3 : Nat) (P7 : Option Addr) (d7 k : Nat) (wr : World) : Prop :=
  TurnV w M x.f7 w.heap.size (.slice P7 x.f7.length d7) k wr ∧ k49.R 49 wr w.heap.size (fun _ => True) (.slice P3 m3 d3) (x.f3.map (ask M)) ∧ Below w.heap.size w wr ∧
    wr.heap[g3]? = some (.cells #[.int .i64 x.f0, .int .i64 x.f1, .int .i64 x.f2, .slice P3 m3 d3, .int .i64 x.f4, .int .i64 x.f5, .int .i64 x.f6, .slice P7 x.f7.length d7] 47 (0, 0)) ∧
    wr.heap[g4]? = some (.cells #[.int .i64 0, .int .i64 0, .int .i64 0, .slice none 0 0, .int .i64 0, .int .i64 0, .int .i64 0, .slice none 0 0] 47 (0, 0))
theorem rd_T65_at {l : List S65} {k : Nat} (h : k < l.length) : l[k]? = some (rd_T65 l (k : Int)) := by
  unfold rd_T65
  rw [Int.toNat_natCast, List.getD_eq_getElem?_getD, List.getElem?_eq_getElem h]; rfl
def dT6 : Nat → Option Tmp
  | 0 => some 21
  | 1 => some 22
  | 2 => some 23
  | 3 => some 24
  | 4 => some 25
  | 5 => some 26
  | 6 => some 27
  | 7 => some 28
  | 8 => some 29
  | 9 => some 30
  | 10 => some 31
  | 11 => some 32
  | 12 => some 33
  | _ => none
def FT6 (B : Nat) (M : Map49) (sh : S65) (base g3 g k n d7 : Nat) (A2 : Option Addr) (c2 : Nat) : Nat → World → Value → Prop
  | 0, _, v => v = .pointer (some ⟨g3, 7, none⟩)
  | 1, _, v => v = .slice (some ⟨g, 0, none⟩) n d7
  | 2, _, v => v = .int .i64 (k : Int)
  | 3, _, v => v = .map (some B)
  | 4, _, v => v = .pointer (some ⟨g3, 7, none⟩)
  | 5, _, v => v = .slice (some ⟨g, 0, none⟩) n d7
  | 6, _, v => v = .int .i64 (k : Int)
  | 7, _, v => v = .pointer (some ⟨g, k * 3, none⟩)
  | 8, _, v => v = .pointer (some ⟨g, k * 3 + 2, none⟩)
  | 9, _, v => v = .slice A2 sh.f2.length c2
  | 10, w, v => AskRow M sh base g w v
  | 11, _, v => v = .pointer (some ⟨g, k * 3, none⟩)
  | 12, _, v => v = .pointer (some ⟨g, k * 3 + 2, none⟩)
  | _, _, _ => True
theorem FT6_below (B : Nat) (M : Map49) (sh : S65) (base g3 g k n d7 : Nat) (A2 : Option Addr) (c2 : Nat) (i : Nat) (w w1 : World) (v : Value) (h : FT6 B  M  sh  base g3 g k n d7  A2  c2  i w v) (hb : Below w.heap.size w w1) : FT6 B  M  sh  base g3 g k n d7  A2  c2  i w1 v := by
  match i with
  | 0 | 1 | 2 | 3 | 4 | 5 | 6 | 7 | 8 | 9 | 11 | 12 => exact h
  | 10 => exact h.below hb
  | (n + 13) => exact h
set_option maxHeartbeats 4000000 in
set_option maxRecDepth 100000 in
theorem turn_calls (B n : Nat) (M : Map49) (x : S47) (A3 : Option Addr) (c3 : Nat) (A7 : Option Addr) (c7 : Nat) (w : World) (hbk : Book w B n M) (h3 : k49.C w A3 x.f3.length x.f3) (h7 : k65.C w A7 x.f7.length x.f7)
    (l3 : x.f3.length * 16 ≤ 140737488355328) (l7 : x.f7.length * 40 ≤ 140737488355328) (ls : ∀ s ∈ x.f7, s.f2.length * 16 ≤ 140737488355328) (w3 : ∀ o ∈ x.f3, WF o.f1) (ws : ∀ s ∈ x.f7, ∀ o ∈ s.f2, WF o.f1) :
    Calls Try.prog 28 #[.map (some B), .agg #[.int .i64 x.f0, .int .i64 x.f1, .int .i64 x.f2, .slice A3 x.f3.length c3, .int .i64 x.f4, .int .i64 x.f5, .int .i64 x.f6, .slice A7 x.f7.length c7]] w fun e w' =>
      ∃ v3 v7, e = .returned (.agg #[.int .i64 x.f0, .int .i64 x.f1, .int .i64 x.f2, v3, .int .i64 x.f4, .int .i64 x.f5, .int .i64 x.f6, v7]) ∧ k49.R 49 w' w.heap.size (fun _ => True) v3 (x.f3.map (ask M)) ∧ k65.R 65 w' w.heap.size (fun _ => True) v7 (x.f7.map (turn65 M)) ∧ Below w.heap.size w w' := by
  have HBK := Aside0.mk hbk
  have H3 := Aside0.mk h3
  have H7 := Aside0.mk h7
  have HL3 := Aside0.mk l3
  have HL7 := Aside0.mk l7
  have HLS := Aside0.mk ls
  have HW3 := Aside0.mk w3
  have HWS := Aside0.mk ws
  clear hbk h3 h7 l3 l7 ls w3 ws
  go_enter Try.func28, Try.ntmps28
  go_upto_region 1 with (fail)
  have hbx := e4 w (.cells #[.int .i64 x.f0, .int .i64 x.f1, .int .i64 x.f2, .slice A3 x.f3.length c3, .int .i64 x.f4, .int .i64 x.f5, .int .i64 x.f6, .slice A7 x.f7.length c7] 47) (.cells #[.int .i64 0, .int .i64 0, .int .i64 0, .slice none 0 0, .int .i64 0, .int .i64 0, .int .i64 0, .slice none 0 0] 47)
  have K3 := blk_alloc (blk_new w (.cells #[.int .i64 x.f0, .int .i64 x.f1, .int .i64 x.f2, .slice A3 x.f3.length c3, .int .i64 x.f4, .int .i64 x.f5, .int .i64 x.f6, .slice A7 x.f7.length c7] 47)) (.cells #[.int .i64 0, .int .i64 0, .int .i64 0, .slice none 0 0, .int .i64 0, .int .i64 0, .int .i64 0, .slice none 0 0] 47)
  have K4 := blk_new (w.alloc (.cells #[.int .i64 x.f0, .int .i64 x.f1, .int .i64 x.f2, .slice A3 x.f3.length c3, .int .i64 x.f4, .int .i64 x.f5, .int .i64 x.f6, .slice A7 x.f7.length c7] 47)) (.cells #[.int .i64 0, .int .i64 0, .int .i64 0, .slice none 0 0, .int .i64 0, .int .i64 0, .int .i64 0, .slice none 0 0] 47)
  rw [World.size_alloc] at K4
  generalize (w.alloc (.cells #[.int .i64 x.f0, .int .i64 x.f1, .int .i64 x.f2, .slice A3 x.f3.length c3, .int .i64 x.f4, .int .i64 x.f5, .int .i64 x.f6, .slice A7 x.f7.length c7] 47)).alloc (.cells #[.int .i64 0, .int .i64 0, .int .i64 0, .slice none 0 0, .int .i64 0, .int .i64 0, .int .i64 0, .slice none 0 0] 47) = w1 at *
  have HG3 := Aside0.mk (Nat.le_refl w.heap.size)
  have HG4 := Aside0.mk (Nat.lt_succ_self w.heap.size)
  rw [Nat.succ_eq_add_one] at HG4
  generalize w.heap.size + 1 = g4 at *
  have HBX := Aside0.mk hbx
  clear hbx
  obtain ⟨g3, hg3⟩ : ∃ g3, g3 = w.heap.size := ⟨_, rfl⟩
  rw [← hg3] at K3 ⊢
  have HE3 := Aside0.mk hg3
  clear hg3
  have q3 : w1.cell? ⟨g3, 3, none⟩ = some (.slice A3 x.f3.length c3) := blk_cell K3 3
  have HK3 := Aside0.mk K3
  have HK4 := Aside0.mk K4
  clear K3 K4
  go_wp2_with (fail)
  refine (all_calls B n M A3 c3 x.f3 w1 (HBK.out.below HBX.out) (Kd.C_below H3.out HBX.out) HL3.out HW3.out).mono ?_
  rintro e w2 ⟨v3, rfl, hr3, hb2⟩
  replace hr3 := Kd.R_lower hr3 HBX.out.size
  obtain ⟨P3, m3, d3, rfl⟩ : ∃ P m d, v3 = .slice P m d := let ⟨A, c, h, _⟩ := Kd.R_reads hr3; ⟨_, _, _, h⟩
  have K3 := blk_below HK3.out hb2
  have K4 := blk_below HK4.out hb2
  clear q3
  have q3 : w2.cell? ⟨g3, 3, none⟩ = some (.slice A3 x.f3.length c3) := blk_cell K3 3
  have f3 := blk_frozen K3 3
  have HB2 := Aside0.mk (below_set (wB HBX.out hb2) (j := 3) (v := .slice P3 m3 d3) (g := g3) (Nat.le_of_eq HE3.out.symm))
  have HR3 := Aside0.mk (Kd.R_set hr3 K3 (by decide) 3 (.slice P3 m3 d3))
  replace HK3 := Aside0.mk (blk_put K3 3 (.slice P3 m3 d3) rfl)
  replace HK4 := Aside0.mk (blk_far K4 (p := ⟨g3, 3, none⟩) (by have := HE3.out; have := HG4.out; show g4 ≠ g3; omega) (.slice P3 m3 d3))
  clear hb2 hr3 K3 K4 HBX
  go_upto_region 2 with (fail)
  clear q3 f3
  generalize w2.setCell ⟨g3, 3, none⟩ (.slice P3 m3 d3) = w3 at *
  have q7 : w3.cell? ⟨g3, 7, none⟩ = some (.slice A7 x.f7.length c7) := blk_cell HK3.out 7
  go_wp2_with (fail)
  refine (clone_shapes A7 c7 x.f7 w w3 H7.out HB2.out HL7.out).mono ?_
  rintro e w4 ⟨v7, rows, rfl, hr7, hrl, hrk, hb4⟩
  replace hr7 := Kd.R_lower hr7 HB2.out.size
  have hV := TurnV.of_raw (M := M) hr7 hrl hrk
  obtain ⟨P7, d7, rfl⟩ := hV.form
  have K3 := blk_below HK3.out hb4
  have K4 := blk_below HK4.out hb4
  clear q7
  have q7 : w4.cell? ⟨g3, 7, none⟩ = some (.slice A7 x.f7.length c7) := blk_cell K3 7
  have f7 := blk_frozen K3 7
  have HB4 := Aside0.mk (below_set (wB HB2.out hb4) (j := 7) (v := .slice P7 x.f7.length d7) (g := g3) (Nat.le_of_eq HE3.out.symm))
  replace HR3 := Aside0.mk (Kd.R_set (Kd.R_below HR3.out hb4) K3 (by decide) 7 (.slice P7 x.f7.length d7))
  have hr7' := Kd.R_set hr7 K3 (by decide) 7 (.slice P7 x.f7.length d7)
  have HV := Aside0.mk (TurnV.of_raw (M := M) hr7' hrl hrk)
  replace HK3 := Aside0.mk (blk_put K3 7 (.slice P7 x.f7.length d7) rfl)
  replace HK4 := Aside0.mk (blk_far K4 (p := ⟨g3, 7, none⟩) (by have := HE3.out; have := HG4.out; show g4 ≠ g3; omega) (.slice P7 x.f7.length d7))
  clear hb4 hr7 K3 K4 HB2 hV hr7' hrl hrk
  go_upto_region 3 with (fail)
  clear q7 f7
  generalize w4.setCell ⟨g3, 7, none⟩ (.slice P7 x.f7.length d7) = w5 at *
  have q7 : w5.cell? ⟨g3, 7, none⟩ = some (.slice P7 x.f7.length d7) := blk_cell HK3.out 7
  have hl7 := HL7.out
  go_wp2_with (fail)
  clear q7 hl7
  go_loopw [18] (fun t wr => ∃ k : Nat, k ≤ x.f7.length ∧ t = .int .i64 k ∧ Inv28 x w M g3 g4 P3 m3 d3 P7 d7 k wr) (fun t _ => x.f7.length - (intOf t).toNat)
  case atStart => exact ⟨0, Nat.zero_le _, rfl, HV.out, HR3.out, HB4.out, HK3.out, HK4.out⟩
  case round =>
    clear HV HR3 HB4 HK3 HK4
    obtain ⟨k, hk, rfl, hi⟩ := hrel
    by_cases hlt : k < x.f7.length
    · have HI := Aside0.mk hi
      obtain ⟨iV, i3, iB, iK3, iK4⟩ := hi
      rcases iV with ⟨g, cap, eV, hgb, ⟨cells, hcl⟩, iT⟩ | ⟨e0, _⟩
      rotate_left 1
      · rw [e0] at hlt; exact absurd hlt (by simp)
      injection eV with e1 e2 e3
      subst e1
      subst e3
      obtain ⟨A2, c2, y0, _, yC, fz⟩ := iT.elem (rd_T65_at hlt)
      have hm := List.mem_of_getElem? (rd_T65_at hlt)
      have HS := Aside0.mk (rd_T65_at hlt)
      have hls := HLS.out _ hm
      have hws := HWS.out _ hm
      generalize rd_T65 x.f7 (k : Int) = sh at *
      have X0 : ∀ w8, Below wr.heap.size wr w8 → w8.cell? ⟨g3, 7, none⟩ = some (.slice (some ⟨g, 0, none⟩) x.f7.length d7) := fun w8 b => blk_cell (blk_below iK3 b) 7
      have X1 : ∀ w8, Below wr.heap.size wr w8 → w8.cell? ⟨g, k * 3 + 2, none⟩ = some (.slice A2 sh.f2.length c2) := fun w8 b => pw_cell_below b y0
      have XX := Aside0.mk (And.intro X0 (And.intro X1 (And.intro yC (And.intro hls (And.intro hws iB)))))
      have HCL := Aside0.mk hcl
      have HGB := Aside0.mk hgb
      have GL : Aside0 (g < wr.heap.size) := ⟨blk_lt hcl⟩
      clear X0 X1 yC hls hws iB y0 fz hm i3 iK3 iK4 iT hcl hgb
      go_wp2_with (fail)
      rename_i hK
      refine RegInv.region_last2 (by kernel_rfl) (by kernel_rfl) (fun a b => Below a.heap.size a b) (fun a b c h k => wB h k) (below_drew1 (Below.refl _ _)) dT6 13 (by kernel_rfl) (by kernel_rfl) (by kernel_rfl) (by kernel_rfl) (FT6 B M sh w.heap.size g3 g k x.f7.length d7 A2 c2) (FT6_below B M sh w.heap.size g3 g k x.f7.length d7 A2 c2) ?hsT6 ?heT6
      case hsT6 =>
        clear hK
        intro i o a w8 hlt hi hM
        obtain ⟨X0, X1, _⟩ := XX.out
        rcases i with _ | _ | _ | _ | _ | _ | _ | _ | _ | _ | _ | _ | _ | i
        · cases hi
          have h0 := gdq _ _ _ (show a.tmps.getD 3 undef = .pointer (some ⟨g3, 0, none⟩) from hM.off 3 (by kernel_rfl))
          refine RegInv.op_value (by rfl) rfl (v := .pointer (some ⟨g3, 7, none⟩)) (w' := w8) ?_ ⟨_, rfl, rfl, Below.refl _ _⟩
          unfold execOp
          go_simp
        · cases hi
          have h0 := gdq _ _ _ (show a.tmps.getD 21 undef = .pointer (some ⟨g3, 7, none⟩) from hM.at_ 0 (by decide) (by kernel_rfl))
          have y := X0 w8 hM.ext
          refine RegInv.op_value (by rfl) rfl (v := .slice (some ⟨g, 0, none⟩) x.f7.length d7) (w' := w8) ?_ ⟨_, rfl, rfl, Below.refl _ _⟩
          unfold execOp
          go_simp
        · cases hi
          have h0 := gdq _ _ _ (show a.tmps.getD 5 undef = .int .i64 (k : Int) from hM.off 5 (by kernel_rfl))
          refine RegInv.op_value (by rfl) rfl (v := .int .i64 (k : Int)) (w' := w8) ?_ ⟨_, rfl, rfl, Below.refl _ _⟩
          unfold execOp
          go_simp
        · cases hi
          have h0 := gdq _ _ _ (show a.tmps.getD 0 undef = .map (some B) from hM.off 0 (by kernel_rfl))
          refine RegInv.op_value (by rfl) rfl (v := .map (some B)) (w' := w8) ?_ ⟨_, rfl, rfl, Below.refl _ _⟩
          unfold execOp
          go_simp
        · cases hi
          have h0 := gdq _ _ _ (show a.tmps.getD 3 undef = .pointer (some ⟨g3, 0, none⟩) from hM.off 3 (by kernel_rfl))
          refine RegInv.op_value (by rfl) rfl (v := .pointer (some ⟨g3, 7, none⟩)) (w' := w8) ?_ ⟨_, rfl, rfl, Below.refl _ _⟩
          unfold execOp
          go_simp
        · cases hi
          have h0 := gdq _ _ _ (show a.tmps.getD 25 undef = .pointer (some ⟨g3, 7, none⟩) from hM.at_ 4 (by decide) (by kernel_rfl))
          have y := X0 w8 hM.ext
          refine RegInv.op_value (by rfl) rfl (v := .slice (some ⟨g, 0, none⟩) x.f7.length d7) (w' := w8) ?_ ⟨_, rfl, rfl, Below.refl _ _⟩
          unfold execOp
          go_simp
        · cases hi
          have h0 := gdq _ _ _ (show a.tmps.getD 5 undef = .int .i64 (k : Int) from hM.off 5 (by kernel_rfl))
          refine RegInv.op_value (by rfl) rfl (v := .int .i64 (k : Int)) (w' := w8) ?_ ⟨_, rfl, rfl, Below.refl _ _⟩
          unfold execOp
          go_simp
        · cases hi
          have h0 := gdq _ _ _ (show a.tmps.getD 26 undef = .slice (some ⟨g, 0, none⟩) x.f7.length d7 from hM.at_ 5 (by decide) (by kernel_rfl))
          have h1 := gdq _ _ _ (show a.tmps.getD 27 undef = .int .i64 (k : Int) from hM.at_ 6 (by decide) (by kernel_rfl))
          refine RegInv.op_value (by rfl) rfl (v := .pointer (some ⟨g, k * 3, none⟩)) (w' := w8) ?_ ⟨_, rfl, rfl, Below.refl _ _⟩
          unfold execOp
          go_simp
        · cases hi
          have h0 := gdq _ _ _ (show a.tmps.getD 28 undef = .pointer (some ⟨g, k * 3, none⟩) from hM.at_ 7 (by decide) (by kernel_rfl))
          refine RegInv.op_value (by rfl) rfl (v := .pointer (some ⟨g, k * 3 + 2, none⟩)) (w' := w8) ?_ ⟨_, rfl, rfl, Below.refl _ _⟩
          unfold execOp
          go_simp
        · cases hi
          have h0 := gdq _ _ _ (show a.tmps.getD 29 undef = .pointer (some ⟨g, k * 3 + 2, none⟩) from hM.at_ 8 (by decide) (by kernel_rfl))
          have y := X1 w8 hM.ext
          refine RegInv.op_value (by rfl) rfl (v := .slice A2 sh.f2.length c2) (w' := w8) ?_ ⟨_, rfl, rfl, Below.refl _ _⟩
          unfold execOp
          go_simp
        · cases hi
          have h0 := gdq _ _ _ (show a.tmps.getD 24 undef = .map (some B) from hM.at_ 3 (by decide) (by kernel_rfl))
          have h1 := gdq _ _ _ (show a.tmps.getD 30 undef = .slice A2 sh.f2.length c2 from hM.at_ 9 (by decide) (by kernel_rfl))
          refine RegInv.op_call (by rfl) rfl Try.func45 (by kernel_rfl) rfl rfl #[.map (some B), .slice A2 sh.f2.length c2] (by simp [Act.eval, h0, h1]) ?_
          refine (all_calls B n M A2 c2 sh.f2 w8 (HBK.out.below (wB XX.out.2.2.2.2.2 hM.ext)) (Kd.C_below XX.out.2.2.1 (wB XX.out.2.2.2.2.2 hM.ext)) XX.out.2.2.2.1 XX.out.2.2.2.2.1).mono ?_
          rintro e w9 ⟨v, rfl, hr, b⟩
          exact ⟨_, rfl, _, rfl, (Kd.R_lower (Kd.R_mono (Kd.R_bound hr) (fun q hq => by have h1 := hq.2.1; have h2 := GL.out; have h3 := hM.ext.size; show q ≠ g; omega)) (wB XX.out.2.2.2.2.2 hM.ext).size), b⟩
        · cases hi
          have h0 := gdq _ _ _ (show a.tmps.getD 22 undef = .slice (some ⟨g, 0, none⟩) x.f7.length d7 from hM.at_ 1 (by decide) (by kernel_rfl))
          have h1 := gdq _ _ _ (show a.tmps.getD 23 undef = .int .i64 (k : Int) from hM.at_ 2 (by decide) (by kernel_rfl))
          refine RegInv.op_value (by rfl) rfl (v := .pointer (some ⟨g, k * 3, none⟩)) (w' := w8) ?_ ⟨_, rfl, rfl, Below.refl _ _⟩
          unfold execOp
          go_simp
        · cases hi
          have h0 := gdq _ _ _ (show a.tmps.getD 32 undef = .pointer (some ⟨g, k * 3, none⟩) from hM.at_ 11 (by decide) (by kernel_rfl))
          refine RegInv.op_value (by rfl) rfl (v := .pointer (some ⟨g, k * 3 + 2, none⟩)) (w' := w8) ?_ ⟨_, rfl, rfl, Below.refl _ _⟩
          unfold execOp
          go_simp
        · exact absurd hlt (by omega)
      intro vs w5 b hF
      have e12 : vs 12 = .pointer (some ⟨g, k * 3 + 2, none⟩) := hF 12 (by omega)
      have e10 : AskRow M sh w.heap.size g w5 (vs 10) := hF 10 (by omega)
      clear hF
      simp only [RegInv.puts, dT6, Act.put, List.range, List.range.loop, List.setIfInBounds_toArray, List.set_cons_zero, List.set_cons_succ]
      rw [e12]
      clear e12
      obtain ⟨P9, m9, d9, e9⟩ : ∃ P m d, vs 10 = .slice P m d := let ⟨A, c, h, _⟩ := Kd.R_reads e10; ⟨_, _, _, h⟩
      have HI5 : Inv28 x w M g3 g4 P3 m3 d3 (some ⟨g, 0, none⟩) d7 k w5 := let ⟨i1, i2, i3, i4, i5⟩ := HI.out; ⟨i1.below b, Kd.R_below i2 b, wB i3 b, blk_below i4 b, blk_below i5 b⟩
      obtain ⟨iV, i3, iB, iK3, iK4⟩ := HI5
      rcases iV with ⟨g', cap', eV, _, _, iT⟩ | ⟨e0, _⟩
      rotate_left 1
      · rw [e0] at hlt; exact absurd hlt (by simp)
      injection eV with e1 _ e3
      injection e1 with e1
      injection e1 with e1
      subst e1
      subst e3
      obtain ⟨A8, c8, y0, _, _, fz⟩ := iT.elem HS.out
      have hcl := blk_below HCL.out b
      rw [e9]
      have g3ne : g3 ≠ g := blk_ne iK3 hcl (by decide)
      have g4ne : g4 ≠ g := blk_ne iK4 hcl (by decide)
      have hgb := HGB.out
      rw [e9] at e10
      have iT' := iT.store HS.out e10
      refine RegInv.op_skip (by rfl) rfl (w' := w5.setCell ⟨g, k * 3 + 2, none⟩ (.slice P9 m9 d9)) ?run ?_
      case run =>
        clear HI HBK iK3 iK4 hcl iT iT' i3
        unfold execOp
        go_simp
      have HI6 : Inv28 x w M g3 g4 P3 m3 d3 (some ⟨g, 0, none⟩) d7 (k + 1) (w5.setCell ⟨g, k * 3 + 2, none⟩ (.slice P9 m9 d9)) :=
        ⟨.inl ⟨g, d7, rfl, hgb, ⟨_, blk_set hcl _ _⟩, iT'⟩, Kd.R_set i3 hcl (by decide) _ _, below_set iB hgb, blk_far iK3 (p := ⟨g, k * 3 + 2, none⟩) g3ne _, blk_far iK4 (p := ⟨g, k * 3 + 2, none⟩) g4ne _⟩
      clear y0 fz i3 iB iK3 iK4 iT iT' e10 e9 hcl
      generalize w5.setCell ⟨g, k * 3 + 2, none⟩ (.slice P9 m9 d9) = w6 at *
      replace HI6 := Aside0.mk HI6
      generalize vs 0 = t0
      generalize vs 1 = t1
      generalize vs 2 = t2
      generalize vs 3 = t3
      generalize vs 4 = t4
      generalize vs 5 = t5
      generalize vs 6 = t6
      generalize vs 7 = t7
      generalize vs 8 = t8
      generalize vs 9 = t9
      generalize vs 11 = t11
      have hl7 := HL7.out
      refine hK _ _ ?_
      clear hK
      go_wp2
      go_roundw
      case rel => exact ⟨k + 1, by omega, by go_num, HI6.out⟩
      case measure => simp [intOf]; omega
    · obtain rfl : k = x.f7.length := by omega
      obtain ⟨iV, i3, iB, iK3, iK4⟩ := hi
      have r3 := i3
      have r7 := iV.finish
      have HR3 := Aside0.mk r3
      have HR7 := Aside0.mk r7
      have HBB := Aside0.mk iB
      clear i3 iV r3 r7 iB
      have q0 : wr.cell? ⟨g3, 0, none⟩ = some (.int .i64 x.f0) := blk_cell iK3 0
      have q1 : wr.cell? ⟨g3, 1, none⟩ = some (.int .i64 x.f1) := blk_cell iK3 1
      have q2 : wr.cell? ⟨g3, 2, none⟩ = some (.int .i64 x.f2) := blk_cell iK3 2
      have q3 : wr.cell? ⟨g3, 3, none⟩ = some (.slice P3 m3 d3) := blk_cell iK3 3
      have q4 : wr.cell? ⟨g3, 4, none⟩ = some (.int .i64 x.f4) := blk_cell iK3 4
      have q5 : wr.cell? ⟨g3, 5, none⟩ = some (.int .i64 x.f5) := blk_cell iK3 5
      have q6 : wr.cell? ⟨g3, 6, none⟩ = some (.int .i64 x.f6) := blk_cell iK3 6
      have q7 : wr.cell? ⟨g3, 7, none⟩ = some (.slice P7 x.f7.length d7) := blk_cell iK3 7
      have p0 : wr.cell? ⟨g4, 0, none⟩ = some (.int .i64 0) := blk_cell iK4 0
      have f0 := blk_frozen iK4 0
      have p1 : wr.cell? ⟨g4, 1, none⟩ = some (.int .i64 0) := blk_cell iK4 1
      have f1 := blk_frozen iK4 1
      have p2 : wr.cell? ⟨g4, 2, none⟩ = some (.int .i64 0) := blk_cell iK4 2
      have f2 := blk_frozen iK4 2
      have p3 : wr.cell? ⟨g4, 3, none⟩ = some (.slice none 0 0) := blk_cell iK4 3
      have f3 := blk_frozen iK4 3
      have p4 : wr.cell? ⟨g4, 4, none⟩ = some (.int .i64 0) := blk_cell iK4 4
      have f4 := blk_frozen iK4 4
      have p5 : wr.cell? ⟨g4, 5, none⟩ = some (.int .i64 0) := blk_cell iK4 5
      have f5 := blk_frozen iK4 5
      have p6 : wr.cell? ⟨g4, 6, none⟩ = some (.int .i64 0) := blk_cell iK4 6
      have f6 := blk_frozen iK4 6
      have p7 : wr.cell? ⟨g4, 7, none⟩ = some (.slice none 0 0) := blk_cell iK4 7
      have f7 := blk_frozen iK4 7
      have IK4 := Aside0.mk iK4
      clear iK3 iK4
      go_wp2
      have hE : ∀ a0 a1 a2 a3 a4 a5 a6 a7, ((((((((wr.setCell ⟨g4, 0, none⟩ a0).setCell ⟨g4, 1, none⟩ a1).setCell ⟨g4, 2, none⟩ a2).setCell ⟨g4, 3, none⟩ a3).setCell ⟨g4, 4, none⟩ a4).setCell ⟨g4, 5, none⟩ a5).setCell ⟨g4, 6, none⟩ a6).setCell ⟨g4, 7, none⟩ a7) = set8 wr g4 a0 a1 a2 a3 a4 a5 a6 a7 := fun _ _ _ _ _ _ _ _ => rfl
      rw [hE]
      clear hE
      refine bodyPost_ret (results_single (fn := Try.f28) (r := .cell 4 47) rfl (.cell g4 47 #[.int .i64 x.f0, .int .i64 x.f1, .int .i64 x.f2, .slice P3 m3 d3, .int .i64 x.f4, .int .i64 x.f5, .int .i64 x.f6, .slice P7 x.f7.length d7] (0, 0) _ rfl (set8_blk IK4.out _ _ _ _ _ _ _ _) Try.underlying47 rfl (by kernel_rfl) .nil)) rfl ?_
      exact ⟨_, _, rfl, set8_R HR3.out IK4.out (by decide) _ _ _ _ _ _ _ _, set8_R HR7.out IK4.out (by decide) _ _ _ _ _ _ _ _, HBB.out.grown (set8_grown _ _ _ _ _ _ _ _ _ _) HBB.out.size (fun k hk => by injection hk with hk; have := HG4.out; omega)⟩
end Go.Proofs.Ytjekpkpmoanadaa.PCop
