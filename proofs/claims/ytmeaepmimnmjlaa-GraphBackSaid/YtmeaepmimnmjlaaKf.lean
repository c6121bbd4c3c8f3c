/- FromP LawKit -/
import Derived.Test.YtmeaepmimnmjlaaKe
import Derived.Test.YtmeaepmimnmjlaaSecF
/- from, reached, plainly: which blocks a way leads to without going through one. -/
namespace Go.Proofs.Ytmeaepmimnmjlaa.Ask
open Go.Proofs.Ytmeaepmimnmjlaa.Dfs Go.Proofs.Ytmeaepmimnmjlaa.Dom Go.Proofs.Ytmeaepmimnmjlaa.DomT Go.RowKit Go.Shelf Go.Proofs.Ytmeaepmimnmjlaa.PGb Go.Proofs.YtmeaepmimnmjlaaW.PrintWords
set_option linter.unusedVariables false
set_option linter.unusedSimpArgs false
/-- a way leads from a that does not go through d -/
inductive Goes (nx : List (List Int)) (a d : Int) : Int → Prop
  | base : a ≠ d → Goes nx a d a
  | step {x y : Int} : Goes nx a d x → y ∈ nb nx x → y ≠ d → Goes nx a d y
structure FI (nx : List (List Int)) (a d : Int) (is : List Bool) (work : List Int) : Prop where
  len : is.length = nx.length
  mks : ∀ x : Nat, x < nx.length → (is.getD x false = true ↔ (x : Int) ∈ work)
  bd : ∀ x ∈ work, 0 ≤ x ∧ x < (nx.length : Int)
  nd : work.Nodup
  go : ∀ x ∈ work, Goes nx a d x
  first : a ≠ d → a ∈ work
def Spec (nx : List (List Int)) (a d : Int) (r : List Bool) : Prop := r.length = nx.length ∧ ∀ x : Nat, x < nx.length → (r.getD x false = true ↔ Goes nx a d (x : Int))
theorem rdOf_false (l : List Bool) (x : Nat) : rdOf false l (x : Int) = l.getD x false := rfl
theorem wrap_succ {j : Nat} (h : j < 4611686018427387904) : wrap64 ((j : Int) + 1) = ((j + 1 : Nat) : Int) := by unfold wrap64; omega
section
variable {nx : List (List Int)} {a d : Int}
theorem FI.short {is : List Bool} {work : List Int} (h : FI nx a d is work) : work.length ≤ nx.length := nodup_le nx.length work h.nd h.bd
theorem FI.has {is : List Bool} {work : List Int} (h : FI nx a d is work) {c : Int} (hc0 : 0 ≤ c) (hc1 : c < (nx.length : Int)) (hin : rdOf false is c = true) : c ∈ work := by
  obtain ⟨q, rfl⟩ : ∃ q : Nat, c = (q : Int) := ⟨c.toNat, by omega⟩
  exact (h.mks q (by omega)).1 hin
theorem FI.add {is : List Bool} {work : List Int} (h : FI nx a d is work) {c : Int} (hc0 : 0 ≤ c) (hc1 : c < (nx.length : Int)) (hf : ¬ rdOf false is c = true) (hg : Goes nx a d c) : FI nx a d (is.set c.toNat true) (work ++ [c]) := by
  obtain ⟨k, rfl⟩ : ∃ k : Nat, c = (k : Int) := ⟨c.toNat, by omega⟩
  have hk : k < nx.length := by omega
  rw [Int.toNat_natCast]
  rw [rdOf_false] at hf
  have hnm : ¬ (k : Int) ∈ work := fun hm => hf ((h.mks k hk).2 hm)
  refine ⟨by rw [List.length_set]; exact h.len, fun x hx => ?_, fun x hx => ?_, ?_, fun x hx => ?_, fun hne => List.mem_append_left _ (h.first hne)⟩
  · rw [getD_set (by rw [h.len]; exact hk), List.mem_append, List.mem_singleton]
    by_cases e : k = x
    · subst e; simp
    · rw [if_neg e, h.mks x hx]
      constructor
      · exact .inl
      · rintro (h1 | h1)
        · exact h1
        · omega
  · rcases List.mem_append.1 hx with h1 | h1
    · exact h.bd x h1
    · rw [List.mem_singleton.1 h1]; omega
  · rw [List.nodup_append]
    refine ⟨h.nd, by simp, fun x hx y hy => ?_⟩
    rw [List.mem_singleton.1 hy]
    exact fun e => hnm (e ▸ hx)
  · rcases List.mem_append.1 hx with h1 | h1
    · exact h.go x h1
    · rw [List.mem_singleton.1 h1]; exact hg
theorem FI.done {is : List Bool} {work : List Int} (h : FI nx a d is work) (hd : ∀ j, j < work.length → ∀ c ∈ nb nx (rd work (j : Int)), c = d ∨ c ∈ work) : Spec nx a d is := by
  refine ⟨h.len, fun x hx => ?_⟩
  rw [h.mks x hx]
  refine ⟨h.go _, fun hg => ?_⟩
  have key : ∀ y, Goes nx a d y → y ∈ work := by
    intro y hy
    induction hy with
    | base hne => exact h.first hne
    | step _ hm hne ih =>
      obtain ⟨j, hj, e⟩ := List.getElem_of_mem ih
      have e2 : rd work (j : Int) = work[j] := by simp [rd, hj]
      exact (hd j hj _ (by rw [e2, e]; exact hm)).resolve_left hne
  exact key _ hg
variable (st ord l hd : List Int)
theorem from_l2 (hw : Wf nx) (hn : nx.length ≤ 8796093022208) (i : Nat) (hi : i < nx.length) (b : Int) (hrow : (nb nx b).length ≤ nx.length) :
    ∀ (e j : Nat) (is : List Bool) (work : List Int), j + e = (nb nx b).length → FI nx a d is work → i < work.length → rd work (i : Int) = b → (∀ j', j' < j → ∀ c, (nb nx b)[j']? = some c → c = d ∨ c ∈ work) → (∀ j', j' < i → ∀ c ∈ nb nx (rd work (j' : Int)), c = d ∨ c ∈ work) →
      (∀ is' work', FI nx a d is' work' → i + 1 ≤ work'.length → (∀ j', j' < i + 1 → ∀ c ∈ nb nx (rd work' (j' : Int)), c = d ∨ c ∈ work') → ∃ k r, portagelaw09_from.l1 k d is' work' ((i + 1 : Nat) : Int) st nx ord l hd = some r ∧ Spec nx a d r) →
      ∃ k r, portagelaw09_from.l2 k d is work (i : Int) (nb nx b) (j : Int) st nx ord l hd = some r ∧ Spec nx a d r := by
  intro e
  induction e with
  | zero =>
    intro j is work hj hF hiw hb hdj hdi hnext
    obtain ⟨k, r, hk, hs⟩ := hnext is work hF (by omega) (fun j' hj' c hc => by
      by_cases e : j' = i
      · subst e
        rw [hb] at hc
        obtain ⟨q, hq, e2⟩ := List.getElem_of_mem hc
        exact hdj q (by omega) c (by rw [List.getElem?_eq_getElem hq, e2])
      · exact hdi j' (by omega) c hc)
    refine ⟨k + 1, r, ?_, hs⟩
    rw [portagelaw09_from.l2, if_neg (by omega), show wrap64 ((i : Int) + 1) = ((i + 1 : Nat) : Int) by unfold wrap64; omega]
    exact hk
  | succ e ih =>
    intro j is work hj hF hiw hb hdj hdi hnext
    have hjl : j < (nb nx b).length := by omega
    obtain ⟨c, hc⟩ : ∃ c, rd (nb nx b) (j : Int) = c := ⟨_, rfl⟩
    have hget : (nb nx b)[j]? = some c := by rw [← hc, List.getElem?_eq_getElem hjl]; simp [rd, hjl]
    have hcm := List.mem_of_getElem? hget
    obtain ⟨hc0, hc1⟩ := hw.in_ b c hcm
    have hbm : b ∈ work := by rw [← hb]; exact rd_mem hiw
    have hl := hF.len
    have hsh := hF.short
    have hjm : j < 4611686018427387904 := by omega
    by_cases hin : rdOf false is c = true
    · obtain ⟨k, r, hk, hs⟩ := ih (j + 1) is work (by omega) hF hiw hb (fun j' hj' c' hc' => by
        by_cases e2 : j' = j
        · subst e2
          rw [hget] at hc'
          cases hc'
          exact .inr (hF.has hc0 hc1 hin)
        · exact hdj j' (by omega) c' hc') hdi hnext
      refine ⟨k + 1, r, ?_, hs⟩
      rw [portagelaw09_from.l2, if_pos (by omega), if_pos (by omega), hc, if_pos hc0, if_pos (by omega), if_pos hin, wrap_succ hjm]
      exact hk
    · by_cases hcd : c = d
      · obtain ⟨k, r, hk, hs⟩ := ih (j + 1) is work (by omega) hF hiw hb (fun j' hj' c' hc' => by
          by_cases e2 : j' = j
          · subst e2
            rw [hget] at hc'
            cases hc'
            exact .inl hcd
          · exact hdj j' (by omega) c' hc') hdi hnext
        refine ⟨k + 1, r, ?_, hs⟩
        rw [portagelaw09_from.l2, if_pos (by omega), if_pos (by omega), hc, if_pos hc0, if_pos (by omega), if_neg hin, if_pos hcd, wrap_succ hjm]
        exact hk
      · have hF' := hF.add hc0 hc1 hin (.step (hF.go b hbm) hcm hcd)
        have hrd : ∀ j' : Nat, j' < work.length → rd (work ++ [c]) (j' : Int) = rd work (j' : Int) := fun j' hj' => by
          unfold rd
          rw [Int.toNat_natCast, List.getD_eq_getElem?_getD, List.getD_eq_getElem?_getD, List.getElem?_append_left hj']
        obtain ⟨k, r, hk, hs⟩ := ih (j + 1) (is.set c.toNat true) (work ++ [c]) (by omega) hF' (by rw [List.length_append]; omega) (by rw [hrd i hiw]; exact hb) (fun j' hj' c' hc' => by
          by_cases e2 : j' = j
          · subst e2
            rw [hget] at hc'
            cases hc'
            exact .inr (by simp)
          · exact (hdj j' (by omega) c' hc').imp id (List.mem_append_left _)) (fun j' hj' c' hc' => by
            rw [hrd j' (by omega)] at hc'
            exact (hdi j' hj' c' hc').imp id (List.mem_append_left _)) hnext
        refine ⟨k + 1, r, ?_, hs⟩
        rw [portagelaw09_from.l2, if_pos (by omega), if_pos (by omega), hc, if_pos hc0, if_pos (by omega), if_neg hin, if_neg hcd, if_pos (by omega), wrap_succ hjm]
        exact hk
theorem from_l1 (hw : Wf nx) (hn : nx.length ≤ 8796093022208) (hrow : ∀ b : Int, (nb nx b).length ≤ nx.length) :
    ∀ (e i : Nat) (is : List Bool) (work : List Int), i + e = nx.length → FI nx a d is work → i ≤ work.length → (∀ j', j' < i → ∀ c ∈ nb nx (rd work (j' : Int)), c = d ∨ c ∈ work) →
      ∃ k r, portagelaw09_from.l1 k d is work (i : Int) st nx ord l hd = some r ∧ Spec nx a d r := by
  intro e
  induction e with
  | zero =>
    intro i is work hi hF hiw hdi
    have := hF.short
    refine ⟨1, is, ?_, hF.done (fun j hj => hdi j (by omega))⟩
    rw [portagelaw09_from.l1, if_neg (by omega)]
  | succ e ih =>
    intro i is work hi hF hiw hdi
    by_cases hlt : i < work.length
    · obtain ⟨b, hb⟩ : ∃ b, rd work (i : Int) = b := ⟨_, rfl⟩
      have hbm : b ∈ work := by rw [← hb]; exact rd_mem hlt
      obtain ⟨hb0, hb1⟩ := hF.bd b hbm
      obtain ⟨k, r, hk, hs⟩ := from_l2 st ord l hd hw hn i (by omega) b (hrow b) (nb nx b).length 0 is work (by omega) hF hlt hb (fun j' hj' => by omega) hdi (fun is' work' hF' hl' hd' => ih (i + 1) is' work' (by omega) hF' hl' hd')
      refine ⟨k + 1, r, ?_, hs⟩
      rw [portagelaw09_from.l1, if_pos (by omega), if_pos (by omega), hb, if_pos hb0, if_pos (by omega)]
      exact hk
    · refine ⟨1, is, ?_, hF.done (fun j hj => hdi j (by omega))⟩
      rw [portagelaw09_from.l1, if_neg (by omega)]
theorem from_f (hw : Wf nx) (hn : nx.length ≤ 8796093022208) (hrow : ∀ b : Int, (nb nx b).length ≤ nx.length) (ha0 : 0 ≤ a) (ha1 : a < (nx.length : Int)) : ∃ k r, portagelaw09_from.f k st nx ord l hd a d = some r ∧ Spec nx a d r := by
  have key : ∀ (e j : Nat), j + e = nx.length → ∃ k r, portagelaw09_from.l0 k a d (List.replicate j false) (j : Int) st nx ord l hd = some r ∧ Spec nx a d r := by
    intro e
    induction e with
    | zero =>
      intro j hj
      have hjn : j = nx.length := by omega
      have hgf : ∀ x : Nat, (List.replicate j false).getD x false = false := fun x => by
        rw [List.getD_eq_getElem?_getD, List.getElem?_replicate]; split <;> rfl
      by_cases hda : d = a
      · have hF : FI nx a d (List.replicate j false) [] := ⟨by rw [List.length_replicate]; exact hjn, fun x hx => (by rw [hgf]; simp), fun x hx => (by cases hx), List.nodup_nil, fun x hx => (by cases hx), fun h => absurd hda.symm h⟩
        obtain ⟨k, r, hk, hs⟩ := from_l1 st ord l hd hw hn hrow nx.length 0 _ _ (by omega) hF (Nat.zero_le _) (fun j' hj' => by omega)
        refine ⟨k + 2, r, ?_, hs⟩
        rw [portagelaw09_from.l0, if_neg (by omega), if_pos hda, portagelaw09_from.j1]
        exact hk
      · have hF0 : FI nx a a (List.replicate j false) [] := ⟨by rw [List.length_replicate]; exact hjn, fun x hx => (by rw [hgf]; simp), fun x hx => (by cases hx), List.nodup_nil, fun x hx => (by cases hx), fun h => absurd rfl h⟩
        obtain ⟨q, rfl⟩ : ∃ q : Nat, a = (q : Int) := ⟨a.toNat, by omega⟩
        have hF : FI nx (q : Int) d ((List.replicate j false).set q true) [(q : Int)] := by
          refine ⟨by simp; exact hjn, fun x hx => ?_, fun x hx => ?_, by simp, fun x hx => ?_, fun _ => by simp⟩
          · rw [getD_set (by simp; omega), List.mem_singleton, hgf]
            by_cases e : q = x
            · subst e; simp
            · rw [if_neg e]; simp; omega
          · rw [List.mem_singleton.1 hx]; omega
          · rw [List.mem_singleton.1 hx]; exact .base (fun e => hda e.symm)
        obtain ⟨k, r, hk, hs⟩ := from_l1 st ord l hd hw hn hrow nx.length 0 _ _ (by omega) hF (Nat.zero_le _) (fun j' hj' => by omega)
        refine ⟨k + 2, r, ?_, hs⟩
        rw [portagelaw09_from.l0, if_neg (by omega), if_neg hda, if_pos (by simp), if_pos ha0, if_pos (by simp; omega), portagelaw09_from.j1]
        exact hk
    | succ e ih =>
      intro j hj
      obtain ⟨k, r, hk, hs⟩ := ih (j + 1) (by omega)
      refine ⟨k + 1, r, ?_, hs⟩
      rw [portagelaw09_from.l0, if_pos (by omega), if_pos (by rw [List.length_replicate]; omega), show wrap64 ((j : Int) + 1) = ((j + 1 : Nat) : Int) by unfold wrap64; omega, show List.replicate j false ++ [false] = List.replicate (j + 1) false by rw [List.replicate_succ']]
      exact hk
  exact key nx.length 0 (by omega)
theorem reached_f (hw : Wf nx) (hn : nx.length ≤ 8796093022208) (hrow : ∀ b : Int, (nb nx b).length ≤ nx.length) : ∃ k r, portagelaw09_reached.f k st nx ord l hd d = some r ∧ Spec nx 0 d r := by
  have := hw.pos
  obtain ⟨k, r, hk, hs⟩ := from_f (a := 0) (d := d) st ord l hd hw hn hrow (by omega) (by omega)
  exact ⟨k, r, by unfold portagelaw09_reached.f; rw [hk]; rfl, hs⟩
end
end Go.Proofs.Ytmeaepmimnmjlaa.Ask
/- What the laws over a flow share: the two boxes, reached and from by their meaning. -/
namespace Go.Proofs.Ytmeaepmimnmjlaa.Ask
open Go.Proofs.Ytmeaepmimnmjlaa.Dfs Go.Proofs.Ytmeaepmimnmjlaa.Dom Go.Proofs.Ytmeaepmimnmjlaa.DomT Go.RowKit Go.Shelf Go.Proofs.Ytmeaepmimnmjlaa.PGb Go.Proofs.Ytmeaepmimnmjlaa.Lit Go.Proofs.Ytmeaepmimnmjlaa.OwnCells Go.Proofs.YtmeaepmimnmjlaaW.PrintWords Go.Proofs.YtmeaepmimnmjlaaW.PrintLast Go.Proofs.YtmeaepmimnmjlaaW.PrintMore
set_option linter.unusedVariables false
set_option linter.unusedSimpArgs false
structure LB (w W : World) (GB : Nat) (cf gc : Array Value) : Prop where
  fb : W.heap[w.heap.size]? = some (.cells cf 25 (0, 0))
  gb : W.heap[GB]? = some (.cells gc 29 (0, 0))
  below : Below w.heap.size w W
theorem LB.from_ {w W W' : World} {GB : Nat} {cf gc : Array Value} (a : LB w W GB cf gc) (hb : Below W.heap.size W W') : LB w W' GB cf gc := ⟨blk_below a.fb hb, blk_below a.gb hb, a.below.trans (hb.mono a.below.size)⟩
section
variable {code : List S40} {hs : List S49} {n m : Nat} {st : List Int} {nx : List (List Int)} {ord l hd : List Int} {W : World} {a0 a1 a2 a3 a4 : Option Addr} {c0 c1 c2 c3 c4 : Nat}
theorem GF.rows (g : GF code hs n m st nx ord l hd) (b : Int) : (nb nx b).length ≤ nx.length := by
  rw [g.lnx]
  by_cases hb : b.toNat < n
  · exact g.row_len (b := b.toNat) hb
  · rw [g.nxe, nextOf_off hs (by rw [g.ln]; exact hb)]; exact Nat.zero_le _
/-- a list of marks, in memory -/
def MarksAt (W : World) (A : Option Addr) (c n : Nat) (nx : List (List Int)) (a d : Int) (is : List Bool) : Prop := n ≤ c ∧ Kd.bool.C W A n is ∧ is.length = n ∧ ∀ x : Nat, x < n → (rdOf false is (x : Int) = true ↔ Goes nx a d (x : Int))
theorem MarksAt.below {W W' : World} {A : Option Addr} {c n : Nat} {nx : List (List Int)} {a d : Int} {is : List Bool} (h : MarksAt W A c n nx a d is) (hb : Below W.heap.size W W') : MarksAt W' A c n nx a d is := ⟨h.1, Kd.C_below h.2.1 hb, h.2.2.1, h.2.2.2⟩
theorem reached_own (g : GF code hs n m st nx ord l hd) (v : GV W a0 a1 a2 a3 a4 c0 c1 c2 c3 c4 n m st nx ord l hd) (hn : code.length ≤ 8796093022207) (d : Int) :
    Calls Try.prog 27 #[.agg #[.slice a0 n c0, .slice a1 n c1, .slice a2 n c2, .slice a3 n c3, .slice a4 m c4], .int .i64 d] W fun e w' => ∃ A c is, e = .returned (.slice A n c) ∧ MarksAt w' A c n nx 0 d is ∧ Below W.heap.size W w' := by
  have e0 := g.ln
  have e1 := g.lnx
  have e2 := g.lord
  have e3 := g.ll
  have e4 := g.lm
  have hsh := g.short
  obtain ⟨k, r, hk, hr, hsp⟩ := reached_f (d := d) st ord l hd g.wf (by omega) g.rows
  have := portagelaw09_reached.calls k a0 c0 st a1 c1 nx a2 c2 ord a3 c3 l a4 c4 hd d r W (e0.symm ▸ v.r0) (e0.symm ▸ v.k0) (e1.symm ▸ v.r1) (e1.symm ▸ v.k1) (e2.symm ▸ v.r2) (e2.symm ▸ v.k2) (e3.symm ▸ v.r3) (e3.symm ▸ v.k3) (e4.symm ▸ v.r4) (e4.symm ▸ v.k4) hk
  rw [e0, e1, e2, e3, e4] at this
  refine this.mono ?_
  rintro e w' ⟨v0, rfl, hR, hb⟩
  obtain ⟨A, c, rfl, hc, hC⟩ := Kd.R_reads hR
  have hrn := hr.trans e1
  rw [hrn] at hc hC ⊢
  exact ⟨A, c, r, rfl, ⟨hc, hC, hrn, fun x hx => hsp x (by omega)⟩, hb⟩
theorem from_own (g : GF code hs n m st nx ord l hd) (v : GV W a0 a1 a2 a3 a4 c0 c1 c2 c3 c4 n m st nx ord l hd) (hn : code.length ≤ 8796093022207) (a d : Int) (ha0 : 0 ≤ a) (ha1 : a < (n : Int)) :
    Calls Try.prog 28 #[.agg #[.slice a0 n c0, .slice a1 n c1, .slice a2 n c2, .slice a3 n c3, .slice a4 m c4], .int .i64 a, .int .i64 d] W fun e w' => ∃ A c is, e = .returned (.slice A n c) ∧ MarksAt w' A c n nx a d is ∧ Below W.heap.size W w' := by
  have e0 := g.ln
  have e1 := g.lnx
  have e2 := g.lord
  have e3 := g.ll
  have e4 := g.lm
  have hsh := g.short
  obtain ⟨k, r, hk, hr, hsp⟩ := from_f (a := a) (d := d) st ord l hd g.wf (by omega) g.rows ha0 (by omega)
  have := portagelaw09_from.calls k a0 c0 st a1 c1 nx a2 c2 ord a3 c3 l a4 c4 hd a d r W (e0.symm ▸ v.r0) (e0.symm ▸ v.k0) (e1.symm ▸ v.r1) (e1.symm ▸ v.k1) (e2.symm ▸ v.r2) (e2.symm ▸ v.k2) (e3.symm ▸ v.r3) (e3.symm ▸ v.k3) (e4.symm ▸ v.r4) (e4.symm ▸ v.k4) hk
  rw [e0, e1, e2, e3, e4] at this
  refine this.mono ?_
  rintro e w' ⟨v0, rfl, hR, hb⟩
  obtain ⟨A, c, rfl, hc, hC⟩ := Kd.R_reads hR
  have hrn := hr.trans e1
  rw [hrn] at hc hC ⊢
  exact ⟨A, c, r, rfl, ⟨hc, hC, hrn, fun x hx => hsp x (by omega)⟩, hb⟩
theorem reach_goes (hw : Wf nx) {a x : Int} (ha : 0 ≤ a) (h : Dfs.Reach nx a x) : Goes nx a (-1) x := by
  induction h with
  | refl => exact .base (by omega)
  | step _ hm ih => exact .step ih hm (by have := hw.in_ _ _ hm; omega)
theorem goes_reach' {a d x : Int} : Goes nx a d x → Dfs.Reach nx a x := by
  intro h
  induction h with
  | base => exact .refl a
  | step _ hm _ ih => exact .step ih hm
theorem goes_post (hw : Wf nx) {d x : Int} (h : Goes nx 0 d x) : x ∈ post nx := (post_mem nx hw x).2 (goes_reach' h)
theorem goes_all (hw : Wf nx) (x : Int) : Goes nx 0 (-1) x ↔ x ∈ post nx := ⟨goes_post hw, fun h => reach_goes hw (by omega) ((post_mem nx hw x).1 h)⟩
theorem goes_ar (hw : Wf nx) {d x : Int} : Goes nx 0 d x ↔ AR (Ex nx) d x := by
  constructor
  · intro h
    induction h with
    | base hne => exact .zero (fun e => hne e.symm)
    | step h1 hm hne ih => exact .step ih ⟨goes_post hw h1, hm⟩ hne
  · intro h
    induction h with
    | zero hne => exact .base (fun e => hne e.symm)
    | step _ he hne ih => exact .step ih he.2 hne
theorem ar_self {d : Int} : ¬ AR (Ex nx) d d := by
  intro h
  cases h with
  | zero hne => exact hne rfl
  | step _ _ hne => exact hne rfl
/-- what Dominates answers -/
theorem GF.cuts (g : GF code hs n m st nx ord l hd) {a b : Nat} (hb : (b : Int) ∈ post nx) {left : List Bool} (hleft : rdOf false left (b : Int) = true ↔ Goes nx 0 (a : Int) (b : Int)) : decide ((a : Int) ∈ doms l n (b : Int)) = (decide ((a : Int) = (b : Int)) || !rdOf false left (b : Int)) := by
  have h := g.dom.doms (b : Int) hb (a : Int)
  rw [g.ll] at h
  by_cases hab : (a : Int) = (b : Int)
  · rw [decide_eq_true hab, Bool.true_or, decide_eq_true_eq, h, hab]; exact ar_self
  · rw [decide_eq_false hab, Bool.false_or]
    by_cases hl : AR (Ex nx) (a : Int) (b : Int)
    · rw [decide_eq_false (fun hm => h.1 hm hl), hleft.2 ((goes_ar g.wf).2 hl)]; rfl
    · rw [decide_eq_true (h.2 hl)]
      cases hx : rdOf false left (b : Int) with
      | true => exact absurd ((goes_ar g.wf).1 (hleft.1 hx)) hl
      | false => rfl
end
end Go.Proofs.Ytmeaepmimnmjlaa.Ask
