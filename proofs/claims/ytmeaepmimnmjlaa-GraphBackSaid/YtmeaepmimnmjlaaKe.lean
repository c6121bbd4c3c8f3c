/- PureG Flow0 Flow FlowNo -/
import Derived.Test.YtmeaepmimnmjlaaKd
import Derived.Test.YtmeaepmimnmjlaaSecA
/- The graph that Build answers, plainly: how long its lists are, and what stands in them. -/
namespace Go.Proofs.Ytmeaepmimnmjlaa.Ask
open Go.Proofs.Ytmeaepmimnmjlaa.Dfs Go.Proofs.Ytmeaepmimnmjlaa.Dom Go.Proofs.Ytmeaepmimnmjlaa.DomT Go.RowKit Go.Shelf Go.Proofs.Ytmeaepmimnmjlaa.PGb Go.Proofs.YtmeaepmimnmjlaaW.PrintWords
set_option linter.unusedVariables false
set_option linter.unusedSimpArgs false
def StP (code : List S40) (hs : List S49) : Nat → Prop := fun p => Why code code.length p ∨ ∃ x ∈ hs, x.f2 = (p : Int)
structure GF (code : List S40) (hs : List S49) (n m : Nat) (st : List Int) (nx : List (List Int)) (ord l hd : List Int) : Prop where
  fit : FitsP code hs
  sts : Starts code (StP code hs) st
  nxe : nx = nextOf code hs st
  orde : ord = (post nx).reverse ++ unr nx n
  dom : IsDom nx l
  hde : ∃ h, hd = idxs h ∧ Mk h code.length (Led code code.length)
  ln : st.length = n
  lm : hd.length = m
theorem cnt_step (j : Nat) : ∀ (l : List Int), l.Nodup → (l.filter fun x => decide (x < ((j + 1 : Nat) : Int))).length = (l.filter fun x => decide (x < (j : Int))).length + (if (j : Int) ∈ l then 1 else 0)
  | [], _ => rfl
  | a :: l, h => by
    obtain ⟨h1, h2⟩ := List.nodup_cons.1 h
    have ih := cnt_step j l h2
    rw [List.filter_cons, List.filter_cons]
    by_cases ha : a = (j : Int)
    · subst ha
      rw [if_neg h1] at ih
      rw [if_pos (decide_eq_true (by omega)), if_neg (by simp), if_pos List.mem_cons_self, List.length_cons, ih]
    · have e : (if (j : Int) ∈ a :: l then 1 else 0) = (if (j : Int) ∈ l then 1 else 0) := by
        by_cases hm : (j : Int) ∈ l
        · rw [if_pos hm, if_pos (List.mem_cons_of_mem _ hm)]
        · rw [if_neg hm, if_neg (fun hx => (List.mem_cons.1 hx).elim (fun e => ha e.symm) hm)]
      rw [e]
      by_cases hlt : a < (j : Int)
      · rw [if_pos (decide_eq_true (by omega)), if_pos (decide_eq_true hlt), List.length_cons, List.length_cons, ih]; omega
      · rw [if_neg (by simp; omega), if_neg (by simpa using hlt), ih]
theorem unr_count (nx : List (List Int)) (hw : Wf nx) : ∀ j : Nat, ((post nx).filter fun x => decide (x < (j : Int))).length + (unr nx j).length = j
  | 0 => by
    have : ((post nx).filter fun x => decide (x < ((0 : Nat) : Int))) = [] := by
      rw [List.filter_eq_nil_iff]
      intro x hx
      have := post_bound nx hw hx
      simp; omega
    rw [this]; rfl
  | j + 1 => by
    have ih := unr_count nx hw j
    rw [cnt_step j _ (post_nodup nx hw), unr_succ, List.length_append]
    by_cases h : (j : Int) ∈ post nx
    · rw [if_pos h, if_pos h]; simp; omega
    · rw [if_neg h, if_neg h]; simp; omega
theorem unr_mem (nx : List (List Int)) (j : Nat) (x : Int) : x ∈ unr nx j ↔ 0 ≤ x ∧ x < (j : Int) ∧ ¬ x ∈ post nx := by
  unfold unr
  rw [List.mem_map]
  constructor
  · rintro ⟨p, hp, rfl⟩
    rw [List.mem_filter, List.mem_range, decide_eq_true_eq] at hp
    exact ⟨by omega, by omega, hp.2⟩
  · rintro ⟨h0, h1, h2⟩
    refine ⟨x.toNat, List.mem_filter.2 ⟨List.mem_range.2 (by omega), ?_⟩, by omega⟩
    rw [decide_eq_true_eq, show ((x.toNat : Nat) : Int) = x by omega]; exact h2
theorem unr_rise (nx : List (List Int)) (j : Nat) : (unr nx j).Pairwise (· < ·) := by
  unfold unr
  rw [List.pairwise_map]
  refine List.Pairwise.imp (R := fun (a b : Nat) => a < b) (fun h => by omega) ?_
  exact List.Pairwise.filter _ List.pairwise_lt_range
section
variable {code : List S40} {hs : List S49} {n m : Nat} {st : List Int} {nx : List (List Int)} {ord l hd : List Int}
theorem GF.wf (g : GF code hs n m st nx ord l hd) : Wf nx := by rw [g.nxe]; exact g.sts.wf g.fit
theorem GF.lnx (g : GF code hs n m st nx ord l hd) : nx.length = n := by rw [g.nxe, ← g.ln]; simp [nextOf]
theorem GF.ll (g : GF code hs n m st nx ord l hd) : l.length = n := by rw [g.dom.len, g.lnx]
theorem GF.pos (g : GF code hs n m st nx ord l hd) : 0 < n := by rw [← g.ln]; exact g.sts.len
theorem GF.short (g : GF code hs n m st nx ord l hd) : n ≤ code.length := by rw [← g.ln]; exact g.sts.short
theorem GF.shorth (g : GF code hs n m st nx ord l hd) : m ≤ code.length := by
  obtain ⟨h, e, hm⟩ := g.hde
  rw [← g.lm, e, ← hm.1]; exact idxs_length h
theorem GF.lord (g : GF code hs n m st nx ord l hd) : ord.length = n := by
  have h1 := unr_count nx g.wf n
  have h2 : ((post nx).filter fun x => decide (x < (n : Int))) = post nx := by
    rw [List.filter_eq_self]
    intro x hx
    have := post_bound nx g.wf hx
    rw [g.lnx] at this
    simp; omega
  rw [h2] at h1
  rw [g.orde, List.length_append, List.length_reverse]; exact h1
theorem GF.ord_mem (g : GF code hs n m st nx ord l hd) (x : Int) : x ∈ ord ↔ 0 ≤ x ∧ x < (n : Int) := by
  rw [g.orde, List.mem_append, List.mem_reverse, unr_mem]
  constructor
  · rintro (h | h)
    · have := post_bound nx g.wf h
      rw [g.lnx] at this; exact this
    · exact ⟨h.1, h.2.1⟩
  · rintro ⟨h0, h1⟩
    by_cases h : x ∈ post nx
    · exact .inl h
    · exact .inr ⟨h0, h1, h⟩
theorem GF.ord_in (g : GF code hs n m st nx ord l hd) {b : Nat} (hb : b < n) : 0 ≤ rd ord (b : Int) ∧ rd ord (b : Int) < (n : Int) :=
  (g.ord_mem _).1 (rd_mem (by rw [g.lord]; exact hb))
theorem GF.dom_in (g : GF code hs n m st nx ord l hd) {b : Nat} (hb : b < n) : -1 ≤ rd l (b : Int) ∧ rd l (b : Int) < (n : Int) := by
  have hn := g.lnx
  have hp := g.pos
  by_cases hm : (b : Int) ∈ post nx
  · by_cases h0 : (b : Int) = 0
    · rw [h0, g.dom.zero]; omega
    · have := post_bound nx g.wf (g.dom.up _ hm h0).1
      omega
  · rw [g.dom.off (b : Int) (by omega) (by omega) hm]; omega
theorem GF.row (g : GF code hs n m st nx ord l hd) {b : Nat} (hb : b < n) : rd_L3 nx (b : Int) = tidy (rawOf code hs st b) := by
  have := nextOf_nb (code := code) (st := st) hs (b := (b : Int)) (by omega) (by rw [g.ln]; omega)
  rw [g.nxe]
  exact this
theorem GF.nx_in (g : GF code hs n m st nx ord l hd) {b k : Nat} (hk : k < (rd_L3 nx (b : Int)).length) : 0 ≤ rd (rd_L3 nx (b : Int)) (k : Int) ∧ rd (rd_L3 nx (b : Int)) (k : Int) < (n : Int) := by
  have := g.wf.in_ (b : Int) _ (rd_mem hk)
  rw [g.lnx] at this; exact this
theorem GF.nx_rise (g : GF code hs n m st nx ord l hd) {b : Nat} (hb : b < n) : (rd_L3 nx (b : Int)).Pairwise (· < ·) := by
  rw [g.row hb]; exact (tidy_facts _).1
theorem GF.nx_up (g : GF code hs n m st nx ord l hd) {b k : Nat} (hb : b < n) (hk : k + 1 < (rd_L3 nx (b : Int)).length) : rd (rd_L3 nx (b : Int)) (k : Int) < rd (rd_L3 nx (b : Int)) ((k + 1 : Nat) : Int) :=
  rise_rd (g.nx_rise hb) (by omega) hk
theorem GF.row_len (g : GF code hs n m st nx ord l hd) {b : Nat} (hb : b < n) : (rd_L3 nx (b : Int)).length ≤ n := by
  refine nodup_le n _ ((g.nx_rise hb).imp (fun h => by omega)) (fun x hx => ?_)
  have := g.wf.in_ (b : Int) _ hx
  rw [g.lnx] at this; exact this
theorem GF.st0 (g : GF code hs n m st nx ord l hd) : rd st (0 : Int) = 0 := g.sts.first
theorem GF.st_up (g : GF code hs n m st nx ord l hd) {b : Nat} (hb : b + 1 < n) : rd st (b : Int) < rd st ((b + 1 : Nat) : Int) := g.sts.sts.up b (by rw [g.ln]; exact hb)
theorem GF.st_in (g : GF code hs n m st nx ord l hd) {b : Nat} (hb : b < n) : 0 ≤ rd st (b : Int) ∧ rd st (b : Int) < (code.length : Int) := g.sts.sts.lo b (by rw [g.ln]; exact hb)
end
/-- the graph, read in memory -/
structure GV (W : World) (a0 a1 a2 a3 a4 : Option Addr) (c0 c1 c2 c3 c4 n m : Nat) (st : List Int) (nx : List (List Int)) (ord l hd : List Int) : Prop where
  r0 : (Kd.int .i64).C W a0 n st
  r1 : (Kd.slice 3 (Kd.int .i64)).C W a1 n nx
  r2 : (Kd.int .i64).C W a2 n ord
  r3 : (Kd.int .i64).C W a3 n l
  r4 : (Kd.int .i64).C W a4 m hd
  k0 : n ≤ c0
  k1 : n ≤ c1
  k2 : n ≤ c2
  k3 : n ≤ c3
  k4 : m ≤ c4
theorem GV.below {W W' : World} {a0 a1 a2 a3 a4 : Option Addr} {c0 c1 c2 c3 c4 n m : Nat} {st : List Int} {nx : List (List Int)} {ord l hd : List Int} (h : GV W a0 a1 a2 a3 a4 c0 c1 c2 c3 c4 n m st nx ord l hd) (hb : Below W.heap.size W W') : GV W' a0 a1 a2 a3 a4 c0 c1 c2 c3 c4 n m st nx ord l hd :=
  ⟨Kd.C_below h.r0 hb, Kd.C_below h.r1 hb, Kd.C_below h.r2 hb, Kd.C_below h.r3 hb, Kd.C_below h.r4 hb, h.k0, h.k1, h.k2, h.k3, h.k4⟩
/-- what Build answers of a function that fits, told as a graph that is read -/
theorem Built.gv {w w' : World} {code : List S40} {hs : List S49} {v0 v1 v2 v3 v4 : Value} {st hdl l : List Int} (hf : FitsP code hs) (hn : code.length ≤ 8796093022207) (h : Built w w' code hs v0 v1 v2 v3 v4 st hdl l) :
    ∃ a0 a1 a2 a3 a4 c0 c1 c2 c3 c4 n m nx ord, v0 = .slice a0 n c0 ∧ v1 = .slice a1 n c1 ∧ v2 = .slice a2 n c2 ∧ v3 = .slice a3 n c3 ∧ v4 = .slice a4 m c4 ∧ GV w' a0 a1 a2 a3 a4 c0 c1 c2 c3 c4 n m st nx ord l hdl ∧ GF code hs n m st nx ord l hdl := by
  obtain ⟨b1, b2, b3, b4, b5, ga, vs, _, _, _, _, _, _, ⟨o0, _⟩, ⟨o4, _⟩, ⟨e1, gr, _, _⟩, ⟨o3, _⟩, o2⟩ := h.mem
  have hG : GF code hs st.length hdl.length st (nextOf code hs st) ((post (nextOf code hs st)).reverse ++ unr (nextOf code hs st) st.length) l hdl := ⟨hf, h.starts, rfl, rfl, h.dom, h.heads, rfl, rfl⟩
  obtain ⟨ord, ho⟩ : ∃ ord, (post (nextOf code hs st)).reverse ++ unr (nextOf code hs st) st.length = ord := ⟨_, rfl⟩
  rw [ho] at hG o2
  obtain ⟨a0, c0, rfl⟩ := row_slice o0
  obtain ⟨a4, c4, rfl⟩ := row_slice o4
  obtain ⟨a3, c3, rfl⟩ := row_slice o3
  obtain ⟨a2, c2, rfl⟩ := row_slice o2
  obtain ⟨r0, k0⟩ := row_C o0
  obtain ⟨r4, k4⟩ := row_C o4
  obtain ⟨r3, k3⟩ := row_C o3
  obtain ⟨r2, k2⟩ := row_C o2
  have hsh := hG.short
  have r1 := gr.C (by omega)
  have hl := hG.ll
  have ho2 := hG.lord
  have hx := hG.lnx
  rw [hl] at r3 k3 ⊢
  rw [ho2] at r2 k2 ⊢
  rw [hx] at r1
  exact ⟨a0, some ⟨ga, 0, none⟩, a2, a3, a4, c0, st.length, c2, c3, c4, st.length, hdl.length, _, ord, rfl, e1, rfl, rfl, rfl, ⟨r0, r1, r2, r3, r4, k0, Nat.le_refl _, k2, k3, k4⟩, hG⟩
theorem Built.held {w w' W : World} {code : List S40} {hs : List S49} {v0 v1 v2 v3 v4 : Value} {st hdl l : List Int} (h : Built w w' code hs v0 v1 v2 v3 v4 st hdl l) (hz : w'.heap.size ≤ W.heap.size) (hm : ∀ k o, w.heap.size ≤ k → w'.heap[k]? = some o → o.isCells = true → W.heap[k]? = some o) : Built w W code hs v0 v1 v2 v3 v4 st hdl l := by
  obtain ⟨b1, b2, b3, b4, b5, ga, vs, i1, i2, i3, i4, i5, i6, ⟨o0, p0⟩, ⟨o4, p4⟩, ⟨e1, gr, p1, p2⟩, ⟨o3, p3⟩, o2⟩ := h.mem
  exact ⟨h.starts, h.heads, h.dom, b1, b2, b3, b4, b5, ga, vs, i1, i2, i3, i4, i5, by omega, ⟨own_held o0 hm, p0⟩, ⟨own_held o4 fun k o hk => hm k o (by omega), p4⟩, ⟨e1, gr.held fun k o hk => hm k o (by omega), p1, p2⟩, ⟨own_held o3 fun k o hk => hm k o (by omega), p3⟩, own_held o2 fun k o hk => hm k o (by omega)⟩
theorem Built.gv2 {w w' : World} {code : List S40} {hs : List S49} {a0 a1 a2 a3 a4 : Option Addr} {c0 c1 c2 c3 c4 n m : Nat} {st hd l ord : List Int} {nx : List (List Int)} (h : Built w w' code hs (.slice a0 n c0) (.slice a1 n c1) (.slice a2 n c2) (.slice a3 n c3) (.slice a4 m c4) st hd l) (hf : FitsP code hs) (hn : code.length ≤ 8796093022207) (g : GF code hs n m st nx ord l hd) : GV w' a0 a1 a2 a3 a4 c0 c1 c2 c3 c4 n m st nx ord l hd := by
  obtain ⟨a0', a1', a2', a3', a4', d0, d1, d2, d3, d4, n', m', nx', ord', e0, e1, e2, e3, e4, gv, gf⟩ := h.gv hf hn
  cases e0
  cases e1
  cases e2
  cases e3
  cases e4
  have h1 : nx' = nx := gf.nxe.trans g.nxe.symm
  subst h1
  have h2 : ord' = ord := gf.orde.trans g.orde.symm
  subst h2
  exact gv
end Go.Proofs.Ytmeaepmimnmjlaa.Ask
/- fits, plainly. -/
namespace Go.Proofs.Ytmeaepmimnmjlaa.Ask
open Go.Proofs.Ytmeaepmimnmjlaa.Dfs Go.Proofs.Ytmeaepmimnmjlaa.Dom Go.Proofs.Ytmeaepmimnmjlaa.DomT Go.RowKit Go.Shelf Go.Proofs.Ytmeaepmimnmjlaa.PGb Go.Proofs.YtmeaepmimnmjlaaW.PrintWords
set_option linter.unusedVariables false
set_option linter.unusedSimpArgs false
theorem ljumps_f (op : Int) : portagelaw09_jumps.f op = some (jumpsP op) := by
  unfold portagelaw09_jumps.f jumpsP
  by_cases h : op = 40
  · subst h; rfl
  · by_cases h2 : op = 41
    · subst h2; rfl
    · by_cases h3 : op = 42
      · subst h3; rfl
      · rw [if_neg h, if_neg h2]
        by_cases h4 : 40 ≤ op
        · have : ¬ (op ≤ 42) := by omega
          simp [h3, h4, this]
        · simp [h3, h4]
theorem fits_l1 (nm : ByteArray) (pa lo n : Int) (code : List S40) (hs : List S49) (hl : hs.length < 9223372036854775807) : ∀ (d j k : Nat), j + d = hs.length → d < k → portagelaw09_fits.l1 k n (j : Int) nm pa lo code hs = some ((hs.drop j).all (okH n) && decide (0 < n))
  | _, _, 0, _, hk => by omega
  | 0, j, k + 1, hj, hk => by
    rw [portagelaw09_fits.l1, if_neg (by omega), List.drop_eq_nil_of_le (by omega)]; simp
  | d + 1, j, k + 1, hj, hk => by
    have hjl : j < hs.length := by omega
    have hw : wrap64 ((j : Int) + 1) = ((j + 1 : Nat) : Int) := by unfold wrap64; omega
    have ih := fits_l1 nm pa lo n code hs hl d (j + 1) k (by omega) (by omega)
    obtain ⟨h, hh⟩ : ∃ h, rd_T49 hs (j : Int) = h := ⟨_, rfl⟩
    have hd : hs.drop j = h :: hs.drop (j + 1) := by
      rw [List.drop_eq_getElem_cons hjl]
      congr 1
      rw [← hh]; simp [rd_T49, hjl]
    rw [portagelaw09_fits.l1, if_pos (by omega), if_pos (by omega), hh, hw, ih, hd, List.all_cons]
    by_cases c1 : h.f0 < 0
    · rw [if_pos c1]; simp [okH, show ¬ (0 ≤ h.f0) by omega]
    · rw [if_neg c1]
      by_cases c2 : h.f1 ≤ h.f0
      · rw [if_pos c2]; simp [okH, show ¬ (h.f0 < h.f1) by omega]
      · rw [if_neg c2]
        by_cases c3 : h.f1 > n
        · rw [if_pos c3]; simp [okH, show ¬ (h.f1 ≤ n) by omega]
        · rw [if_neg c3]
          by_cases c4 : h.f2 < 0
          · rw [if_pos c4]; simp [okH, show ¬ (0 ≤ h.f2) by omega]
          · rw [if_neg c4]
            by_cases c5 : h.f2 ≥ n
            · rw [if_pos c5]; simp [okH, show ¬ (h.f2 < n) by omega]
            · rw [if_neg c5]
              have : okH n h = true := by
                simp only [okH, Bool.and_eq_true, decide_eq_true_eq]; omega
              rw [this, Bool.true_and]
theorem fits_l0 (nm : ByteArray) (pa lo : Int) (code : List S40) (hs : List S49) (hc : code.length < 9223372036854775807) (hl : hs.length < 9223372036854775807) : ∀ (d j k : Nat), j + d = code.length → d + hs.length + 1 < k → portagelaw09_fits.l0 k (code.length : Int) (j : Int) nm pa lo code hs = some ((code.drop j).all (okJ code.length) && (hs.all (okH code.length) && decide (0 < (code.length : Int))))
  | _, _, 0, _, hk => by omega
  | 0, j, k + 1, hj, hk => by
    have h1 := fits_l1 nm pa lo (code.length : Int) code hs hl hs.length 0 k (by omega) (by omega)
    rw [portagelaw09_fits.l0, if_neg (by omega), List.drop_eq_nil_of_le (by omega)]
    rw [List.drop_zero] at h1
    exact h1
  | d + 1, j, k + 1, hj, hk => by
    have hjl : j < code.length := by omega
    have hw : wrap64 ((j : Int) + 1) = ((j + 1 : Nat) : Int) := by unfold wrap64; omega
    have ih := fits_l0 nm pa lo code hs hc hl d (j + 1) k (by omega) (by omega)
    obtain ⟨i, hi⟩ : ∃ i, rd_T40 code (j : Int) = i := ⟨_, rfl⟩
    have hd : code.drop j = i :: code.drop (j + 1) := by
      rw [List.drop_eq_getElem_cons hjl]
      congr 1
      rw [← hi]; simp [rd_T40, hjl]
    rw [portagelaw09_fits.l0, if_pos (by omega), if_pos (by omega), if_pos (by omega), hi, hw, ih, hd, List.all_cons, ljumps_f, Option.bind_some]
    cases hj : jumpsP i.f0 with
    | true =>
      rw [if_pos rfl]
      by_cases c1 : i.f1 < 0
      · rw [if_pos c1]; simp [okJ, hj, show ¬ (0 ≤ i.f1) by omega]
      · rw [if_neg c1]
        by_cases c2 : i.f1 ≥ (code.length : Int)
        · rw [if_pos c2]; simp [okJ, hj, show ¬ (i.f1 < (code.length : Int)) by omega]
        · rw [if_neg c2]
          have : okJ code.length i = true := by
            simp only [okJ, hj, Bool.not_true, Bool.false_or, Bool.and_eq_true, decide_eq_true_eq]; omega
          rw [this, Bool.true_and]
    | false =>
      rw [if_neg (by decide)]
      have : okJ code.length i = true := by simp [okJ, hj]
      rw [this, Bool.true_and]
theorem fits_f (nm : ByteArray) (pa lo : Int) (code : List S40) (hs : List S49) (hc : code.length < 9223372036854775807) (hl : hs.length < 9223372036854775807) : portagelaw09_fits.f (code.length + hs.length + 2) nm pa lo code hs = some (decide (errOf code hs = 0)) := by
  unfold portagelaw09_fits.f errOf
  have h := fits_l0 nm pa lo code hs hc hl code.length 0 (code.length + hs.length + 2) (by omega) (by omega)
  rw [List.drop_zero] at h
  rw [show ((0 : Nat) : Int) = 0 from rfl] at h
  rw [h]
  by_cases h0 : code.length = 0
  · rw [if_pos h0, h0]; simp
  · rw [if_neg h0, decide_eq_true (show (0 : Int) < (code.length : Int) by omega), Bool.and_true]
    split
    · rename_i h1; rw [h1]; simp
    · rename_i h1; rw [Bool.not_eq_true] at h1; rw [h1]; simp
end Go.Proofs.Ytmeaepmimnmjlaa.Ask
/- flow of a function that fits: for every world. -/
namespace Go.Proofs.Ytmeaepmimnmjlaa.Ask
open Go.Proofs.Ytmeaepmimnmjlaa.Dfs Go.Proofs.Ytmeaepmimnmjlaa.Dom Go.RowKit Go.Shelf Go.Proofs.Ytmeaepmimnmjlaa.PGb Go.Proofs.Ytmeaepmimnmjlaa.Lit Go.Proofs.Ytmeaepmimnmjlaa.OwnCells Go.Proofs.YtmeaepmimnmjlaaW.PrintWords Go.Proofs.YtmeaepmimnmjlaaW.PrintLast Go.Proofs.YtmeaepmimnmjlaaW.PrintMore
attribute [local go_sem] Oper.semAt_some
attribute [local go_sem] run_store_fn
attribute [local go_sem] run_eql_fn
set_option linter.unusedVariables false
set_option linter.unusedSimpArgs false
theorem results_flow {fn : Func} (h : fn.results = #[.cell 2 29, .tmp 3, .tmp 4]) (tmps : Array Value) (w : World) (g : Nat) (A0 A1 A2 A3 A4 : Option Addr) (m0 m1 m2 m3 m4 c0 c1 c2 c3 c4 : Nat) (x y : Bool) (hp : tmps.getD 2 undef = .pointer (some ⟨g, 0, none⟩)) (hv : tmps.getD 3 undef = .bool x) (hv4 : tmps.getD 4 undef = .bool y)
    (hb : w.heap[g]? = some (.cells #[.slice A0 m0 c0, .slice A1 m1 c1, .slice A2 m2 c2, .slice A3 m3 c3, .slice A4 m4 c4] 29 (0, 0))) : (results fn tmps).run Try.prog w = .ok (.tuple #[.agg #[.slice A0 m0 c0, .slice A1 m1 c1, .slice A2 m2 c2, .slice A3 m3 c3, .slice A4 m4 c4], .bool x, .bool y]) w := by
  have q0 := cell_blk hb (i := 0) rfl
  have q1 := cell_blk hb (i := 1) rfl
  have q2 := cell_blk hb (i := 2) rfl
  have q3 := cell_blk hb (i := 3) rfl
  have q4 := cell_blk hb (i := 4) rfl
  have hp' : tmps[2]?.getD undef = .pointer (some ⟨g, 0, none⟩) := gdq _ _ _ hp
  have hv' : tmps[3]?.getD undef = .bool x := gdq _ _ _ hv
  have hv4' : tmps[4]?.getD undef = .bool y := gdq _ _ _ hv4
  have hu29 := Try.underlying29
  simp [results, h, hp', hv', hv4', asAddr]
  go_simp
set_option maxRecDepth 100000 in
set_option maxHeartbeats 8000000 in
theorem flow_yes (nm : ByteArray) (pa lo : Int) (A3 A4 : Option Addr) (c3 c4 : Nat) (code : List S40) (hs : List S49) (w : World) (hC : k40.C w A3 code.length code) (hc3 : code.length ≤ c3) (hH : k49.C w A4 hs.length hs) (hc4 : hs.length ≤ c4) (hfit : FitsP code hs) (hn : code.length ≤ 8796093022207) (hh : hs.length ≤ 8796093022208) :
    Calls Try.prog 19 #[.agg #[.string nm, .int .i64 pa, .int .i64 lo, .slice A3 code.length c3, .slice A4 hs.length c4]] w fun e w' => ∃ a0 a1 a2 a3 a4 d0 d1 d2 d3 d4 n m st nx ord l hd, e = .returned (.tuple #[.agg #[.slice a0 n d0, .slice a1 n d1, .slice a2 n d2, .slice a3 n d3, .slice a4 m d4], .bool true, .bool true]) ∧ GV w' a0 a1 a2 a3 a4 d0 d1 d2 d3 d4 n m st nx ord l hd ∧ GF code hs n m st nx ord l hd ∧ Below w.heap.size w w' := by
  have HC := Aside0.mk hC
  have HH := Aside0.mk hH
  have HC3 := Aside0.mk hc3
  have HC4 := Aside0.mk hc4
  have HF := Aside0.mk hfit
  have HN := Aside0.mk hn
  have HHN := Aside0.mk hh
  clear hC hH hc3 hc4 hfit hn hh
  have hu25 := Try.underlying25
  have hu29 := Try.underlying29
  have hu40 := Try.underlying40
  have hu49 := Try.underlying49
  go_enter Try.func19, Try.ntmps19
  go_upto_region 1 with (fail)
  obtain ⟨W0, hW0⟩ : ∃ W0, (w.alloc (.cells #[.string nm, .int .i64 pa, .int .i64 lo, .slice A3 code.length c3, .slice A4 hs.length c4] 25)).alloc (.cells #[.slice none 0 0, .slice none 0 0, .slice none 0 0, .slice none 0 0, .slice none 0 0] 29) = W0 := ⟨_, rfl⟩
  have hb0 : Below w.heap.size w W0 := by rw [← hW0]; exact below_alloc (below_alloc (Below.refl _ _) _) _
  have hfb0 : W0.heap[w.heap.size]? = some (.cells #[.string nm, .int .i64 pa, .int .i64 lo, .slice A3 code.length c3, .slice A4 hs.length c4] 25 (0, 0)) := by
    rw [← hW0]; exact ((World.grownBy_alloc (w.alloc _) _ none).block _ (by simp) (by simp)).trans (World.alloc_heap_new w _)
  have hrb : W0.heap[w.heap.size + 1]? = some (.cells #[.slice none 0 0, .slice none 0 0, .slice none 0 0, .slice none 0 0, .slice none 0 0] 29 (0, 0)) := by
    rw [← hW0]
    have := World.alloc_heap_new (w.alloc (.cells #[.string nm, .int .i64 pa, .int .i64 lo, .slice A3 code.length c3, .slice A4 hs.length c4] 25)) (.cells #[.slice none 0 0, .slice none 0 0, .slice none 0 0, .slice none 0 0, .slice none 0 0] 29)
    rw [World.size_alloc] at this
    exact this
  have hsz0 : W0.heap.size = w.heap.size + 2 := by rw [← hW0]; simp
  rw [hW0]
  clear hW0
  have f0 := cell_blk hfb0 (i := 0) rfl
  have f1 := cell_blk hfb0 (i := 1) rfl
  have f2 := cell_blk hfb0 (i := 2) rfl
  have f3 := cell_blk hfb0 (i := 3) rfl
  have f4 := cell_blk hfb0 (i := 4) rfl
  have HFB := Aside0.mk hfb0
  have HRB := Aside0.mk hrb
  have HB0 := Aside0.mk hb0
  have HS0 := Aside0.mk hsz0
  clear hfb0 hrb hb0 hsz0
  go_wp2_with (fail)
  refine (build_yes (code.length + hs.length + 2) nm pa lo A3 A4 c3 c4 code hs W0 (Kd.C_below HC.out HB0.out) HC3.out (Kd.C_below HH.out HB0.out) HC4.out (by rw [check_f nm pa lo code hs (by have := HN.out; omega) (by have := HHN.out; omega), (errOf_fits code hs).2 HF.out]) HF.out HN.out HHN.out).mono ?_
  rintro e w1 ⟨v0, v1, v2, v3, v4, st, hd, l, rfl, hB, hb1⟩
  obtain ⟨a0, a1, a2, a3, a4, d0, d1, d2, d3, d4, n, m, nx, ord, rfl, rfl, rfl, rfl, rfl, gv, gf⟩ := hB.gv HF.out HN.out
  have HBT := Aside0.mk hB
  have HFB1 := Aside0.mk (blk_below HFB.out hb1)
  have HRB1 := Aside0.mk (blk_below HRB.out hb1)
  have HB1 := Aside0.mk (HB0.out.trans (hb1.mono HB0.out.size))
  have HS1 := Aside0.mk (show w.heap.size + 2 ≤ w1.heap.size by have := hb1.size; have := HS0.out; omega)
  have HV := Aside0.mk gv
  have HG := Aside0.mk gf
  clear hB hb1 gv gf f0 f1 f2 f3 f4 HFB HRB HB0
  go_upto_region 2 with (fail)
  obtain ⟨GB, hGB⟩ : ∃ GB, w1.heap.size = GB := ⟨_, rfl⟩
  obtain ⟨cf, hcf⟩ : ∃ cf, #[Value.string nm, .int .i64 pa, .int .i64 lo, .slice A3 code.length c3, .slice A4 hs.length c4] = cf := ⟨_, rfl⟩
  obtain ⟨gc, hgc⟩ : ∃ gc, #[Value.slice a0 n d0, .slice a1 n d1, .slice a2 n d2, .slice a3 n d3, .slice a4 m d4] = gc := ⟨_, rfl⟩
  have hb2 : Below w1.heap.size w1 (w1.alloc (.cells gc 29)) := below_alloc (Below.refl _ _) _
  have HBS : Aside0 (BS w (w1.alloc (.cells gc 29)) GB cf gc) := ⟨⟨hcf ▸ blk_below HFB1.out hb2, blk_below HRB1.out hb2, hGB ▸ World.alloc_heap_new w1 _, HB1.out.trans (hb2.mono HB1.out.size), by have := HS1.out; omega⟩⟩
  have HV2 := Aside0.mk (HV.out.below hb2)
  have HL2 := Aside0.mk hb2
  have HGL := Aside0.mk (show GB < (w1.alloc (.cells gc 29)).heap.size by simp; omega)
  rw [hgc, hGB]
  have HCF := Aside0.mk hcf
  have HGC := Aside0.mk hgc
  revert HBS HV2 HGL HL2
  generalize w1.alloc (.cells gc 29) = W2
  intro HBS HV2 HL2 HGL
  clear hb2 hGB hcf hgc HFB1 HRB1 HB1 HV
  have f0 := cell_blk HBS.out.fb (i := 0) (by rw [← HCF.out]; rfl)
  have f1 := cell_blk HBS.out.fb (i := 1) (by rw [← HCF.out]; rfl)
  have f2 := cell_blk HBS.out.fb (i := 2) (by rw [← HCF.out]; rfl)
  have f3 := cell_blk HBS.out.fb (i := 3) (by rw [← HCF.out]; rfl)
  have f4 := cell_blk HBS.out.fb (i := 4) (by rw [← HCF.out]; rfl)
  go_wp2_with (fail)
  refine (portagelaw09_fits.calls (code.length + hs.length + 2) nm pa lo A3 c3 code A4 c4 hs true W2 (Kd.C_below HC.out HBS.out.below) HC3.out (Kd.C_below HH.out HBS.out.below) HC4.out (by rw [fits_f nm pa lo code hs (by have := HN.out; omega) (by have := HHN.out; omega), (errOf_fits code hs).2 HF.out]; rfl)).mono ?_
  rintro e w3 ⟨rfl, hb3⟩
  have HBS3 := Aside0.mk (HBS.out.from_ hb3)
  have HV3 := Aside0.mk (HV2.out.below hb3)
  have HL3 := Aside0.mk (HL2.out.trans (hb3.mono HL2.out.size))
  clear hb3 f0 f1 f2 f3 f4 HBS HV2 HGL HL2
  have kg0 : gc[0]? = some (.slice a0 n d0) := by rw [← HGC.out]; rfl
  have kg1 : gc[1]? = some (.slice a1 n d1) := by rw [← HGC.out]; rfl
  have kg2 : gc[2]? = some (.slice a2 n d2) := by rw [← HGC.out]; rfl
  have kg3 : gc[3]? = some (.slice a3 n d3) := by rw [← HGC.out]; rfl
  have kg4 : gc[4]? = some (.slice a4 m d4) := by rw [← HGC.out]; rfl
  have kf3 : cf[3]? = some (.slice A3 code.length c3) := by rw [← HCF.out]; rfl
  have HK := Aside0.mk (And.intro kg0 (And.intro kg1 (And.intro kg2 (And.intro kg3 (And.intro kg4 kf3)))))
  clear kg0 kg1 kg2 kg3 kg4 kf3
  have hp := HG.out.pos
  have hsh := HG.out.short
  obtain ⟨r0, rfl, hr0⟩ := Kd.at_int HV3.out.r0 0 (by omega) (by omega)
  obtain ⟨r1, _, _, rfl, _⟩ := at_L3 HV3.out.r1 0 (by omega) (by omega)
  obtain ⟨r2, rfl, _⟩ := Kd.at_int HV3.out.r2 0 (by omega) (by omega)
  obtain ⟨r3, rfl, _⟩ := Kd.at_int HV3.out.r3 0 (by omega) (by omega)
  rw [HG.out.st0] at hr0
  have g0 := cell_blk HBS3.out.gb HK.out.1
  have g1 := cell_blk HBS3.out.gb HK.out.2.1
  have g2 := cell_blk HBS3.out.gb HK.out.2.2.1
  have g3 := cell_blk HBS3.out.gb HK.out.2.2.2.1
  have f3 := cell_blk HBS3.out.fb HK.out.2.2.2.2.2
  have t1 : decide ((n : Int) < 1) = false := decide_eq_false (by omega)
  have t2 : decide ((code.length : Int) < (n : Int)) = false := decide_eq_false (by omega)
  have t3 : (0 : Int) < (n : Int) := by omega
  have t4 : decide (code.length < n) = false := decide_eq_false (by omega)
  have t5 : decide (n < 1) = false := decide_eq_false (by omega)
  have hr0' : w3.cell? r0 = some (.int .i64 0) := by simpa [Addr.add] using hr0
  go_upto_region 7 with (fail)
  clear g0 g1 g2 g3 f3 t1 t2 hr0 hr0' t4 t5
  go_wp2_with (fail)
  go_loopw [8] (fun i wr => ∃ b : Nat, b ≤ n ∧ i = .int .i64 (b : Int) ∧ BS w wr GB cf gc ∧ GV wr (some r0) (some r1) (some r2) (some r3) a4 d0 d1 d2 d3 d4 n m st nx ord l hd ∧ Below w1.heap.size w1 wr) (fun i _ => ((n : Int) - intOf i).toNat)
  case atStart => exact ⟨0, Nat.zero_le _, rfl, HBS3.out, HV3.out, HL3.out⟩
  case round =>
    clear HBS3 HV3 HL3
    obtain ⟨b, hb, rfl, hBS, hV, hL⟩ := hrel
    have HBS := Aside0.mk hBS
    have HV := Aside0.mk hV; have HL := Aside0.mk hL; clear hL
    by_cases hlt : b < n
    · have hbn : (b : Int) < (n : Int) := by omega
      have hb0 : (0 : Int) ≤ (b : Int) := by omega
      have HBN := Aside0.mk hlt
      clear hb hBS hV hlt
      go_upto_region 10 with (fail)
      go_cut [103] (fun v103 wc => v103 = .bool false ∧ BS w wc GB cf gc ∧ GV wc (some r0) (some r1) (some r2) (some r3) a4 d0 d1 d2 d3 d4 n m st nx ord l hd ∧ Below w1.heap.size w1 wc)
      case first =>
        have g0 := cell_blk HBS.out.gb HK.out.1
        have f3 := cell_blk HBS.out.fb HK.out.2.2.2.2.2
        obtain ⟨x, e0, q0⟩ := Kd.at_int HV.out.r0 (b : Int) hb0 hbn
        cases e0
        have hin := HG.out.st_in HBN.out
        rw [Int.toNat_natCast] at q0
        obtain ⟨sb, hsb⟩ : ∃ x, rd st (b : Int) = x := ⟨_, rfl⟩
        rw [hsb] at q0 hin
        have HIN := Aside0.mk hin
        have HSB := Aside0.mk hsb
        have t1 : decide ((code.length : Int) ≤ sb) = false := decide_eq_false (by omega)
        clear hin hsb
        by_cases hz : b = 0
        · subst hz
          rw [show ((0 : Nat) : Int) = 0 from rfl] at hbn ⊢
          have q0' : wr.cell? r0 = some (.int .i64 sb) := by simpa [Addr.add] using q0
          go_big_quiet (fail)
          go_wp2_with (fail)
          go_meet
          case rel => exact ⟨rfl, HBS.out.from_ (pw_below_drewN (Below.refl _ _) _), HV.out.below (pw_below_drewN (Below.refl _ _) _), pw_below_drewN HL.out _⟩
        · obtain ⟨b', hb'⟩ : ∃ b' : Nat, b = b' + 1 := ⟨b - 1, by omega⟩
          have HBB := Aside0.mk hb'
          have hup := HG.out.st_up (b := b') (by have := HBN.out; omega)
          rw [← hb', HSB.out] at hup
          obtain ⟨x1, e1, q1⟩ := Kd.at_int HV.out.r0 (b' : Int) (by omega) (by omega)
          cases e1
          rw [Int.toNat_natCast] at q1
          have z1 : decide ((0 : Int) < (b : Int)) = true := decide_eq_true (by omega)
          have z1' : decide (0 < b) = true := decide_eq_true (by omega)
          have z2 : IntKind.i64.wrap ((b : Int) - 1) = (b' : Int) := by rw [i64_w]; have := HN.out; have := HG.out.short; have := HBN.out; unfold wrap64; omega
          have z3 : decide (sb ≤ rd st (b' : Int)) = false := decide_eq_false (by omega)
          have hb1 : (0 : Int) ≤ (b' : Int) := by omega
          have hb2 : (b' : Int) < (n : Int) := by have := HBN.out; omega
          clear hup hb' hz
          go_big_quiet (fail)
          go_wp2_with (fail)
          go_meet
          case rel => exact ⟨rfl, HBS.out.from_ (pw_below_drewN (Below.refl _ _) _), HV.out.below (pw_below_drewN (Below.refl _ _) _), pw_below_drewN HL.out _⟩
      case rest =>
        obtain ⟨rfl, hBS, hV, hL⟩ := hcut
        clear HBS HV HL
        have HBS := Aside0.mk hBS
        have HV := Aside0.mk hV; have HL := Aside0.mk hL; clear hL
        have g2 := cell_blk hBS.gb HK.out.2.2.1
        have g3 := cell_blk hBS.gb HK.out.2.2.2.1
        obtain ⟨x2, e2, q2⟩ := Kd.at_int hV.r2 (b : Int) hb0 hbn
        cases e2
        obtain ⟨x3, e3, q3⟩ := Kd.at_int hV.r3 (b : Int) hb0 hbn
        cases e3
        rw [Int.toNat_natCast] at q2 q3
        obtain ⟨ho1, ho2⟩ := HG.out.ord_in HBN.out
        obtain ⟨hd1, hd2⟩ := HG.out.dom_in HBN.out
        obtain ⟨ob, hob⟩ : ∃ x, rd ord (b : Int) = x := ⟨_, rfl⟩
        obtain ⟨db, hdb⟩ : ∃ x, rd l (b : Int) = x := ⟨_, rfl⟩
        rw [hob] at q2 ho1 ho2
        rw [hdb] at q3 hd1 hd2
        have t1 : decide (ob < 0) = false := decide_eq_false (by omega)
        have t2 : decide ((n : Int) ≤ ob) = false := decide_eq_false (by omega)
        have t3 : decide (db < -1) = false := decide_eq_false (by omega)
        have t4 : decide ((n : Int) ≤ db) = false := decide_eq_false (by omega)
        clear hob hdb ho1 ho2 hd1 hd2 hBS hV
        go_upto_region 14 with (fail)
        clear g2 g3 q2 q3 t1 t2 t3 t4
        go_wp2_with (fail)
        obtain ⟨row, hrow⟩ : ∃ row, rd_L3 nx (b : Int) = row := ⟨_, rfl⟩
        have hlr := HG.out.row_len HBN.out
        rw [hrow] at hlr
        have HRW := Aside0.mk hrow
        have HLR := Aside0.mk hlr
        clear hrow hlr
        go_loopw [9] (fun i wr => ∃ k : Nat, k ≤ row.length ∧ i = .int .i64 (k : Int) ∧ BS w wr GB cf gc ∧ GV wr (some r0) (some r1) (some r2) (some r3) a4 d0 d1 d2 d3 d4 n m st nx ord l hd ∧ Below w1.heap.size w1 wr) (fun i _ => ((row.length : Int) - intOf i).toNat)
        case atStart => exact ⟨0, Nat.zero_le _, rfl, HBS.out, HV.out, HL.out⟩
        case round =>
          clear HBS HV HL
          obtain ⟨k, hk, rfl, hBS, hV, hL⟩ := hrel
          have HBS := Aside0.mk hBS
          have HV := Aside0.mk hV; have HL := Aside0.mk hL; clear hL
          obtain ⟨x1, A9, c9, e1, q1, hc9, hC9⟩ := at_L3 hV.r1 (b : Int) hb0 hbn
          cases e1
          rw [HRW.out] at q1 hC9
          rw [Int.toNat_natCast] at q1
          have g1 := cell_blk hBS.gb HK.out.2.1
          by_cases hkl : k < row.length
          · have hkr : (k : Int) < (row.length : Int) := by omega
            have hk0 : (0 : Int) ≤ (k : Int) := by omega
            obtain ⟨ad, e2, q2⟩ := Kd.at_int hC9 (k : Int) hk0 hkr
            subst e2
            rw [Int.toNat_natCast] at q2
            have HKL := Aside0.mk hkl
            have HIN := HG.out.nx_in (b := b) (k := k) (by rw [HRW.out]; exact hkl)
            rw [HRW.out] at HIN
            obtain ⟨x, hx⟩ : ∃ x, rd row (k : Int) = x := ⟨_, rfl⟩
            rw [hx] at q2 HIN
            have t1 : decide (x < 0) = false := decide_eq_false (by omega)
            have t2 : decide ((n : Int) ≤ x) = false := decide_eq_false (by omega)
            have HX := Aside0.mk hx
            clear hx hC9 hBS hV hk HIN hkl
            go_upto_region 17 with (fail)
            go_cut [192] (fun v192 wc => v192 = .bool false ∧ BS w wc GB cf gc ∧ GV wc (some r0) (some r1) (some r2) (some r3) a4 d0 d1 d2 d3 d4 n m st nx ord l hd ∧ Below w1.heap.size w1 wc)
            case first =>
              by_cases hz : k = 0
              · subst hz
                rw [show ((0 : Nat) : Int) = 0 from rfl] at hkr ⊢
                have q2' : wr.cell? ad = some (.int .i64 x) := by simpa [Addr.add] using q2
                go_big_quiet (fail)
                go_wp2_with (fail)
                go_meet
                case rel => exact ⟨rfl, HBS.out.from_ (pw_below_drewN (Below.refl _ _) _), HV.out.below (pw_below_drewN (Below.refl _ _) _), pw_below_drewN HL.out _⟩
              · obtain ⟨k', hk'⟩ : ∃ k' : Nat, k = k' + 1 := ⟨k - 1, by omega⟩
                have hup := HG.out.nx_up (b := b) (k := k') HBN.out (by rw [HRW.out]; have := HKL.out; omega)
                rw [← hk', HRW.out, HX.out] at hup
                obtain ⟨_, _, _, e5, q5, _, hC9⟩ := at_L3 HV.out.r1 (b : Int) hb0 hbn
                cases e5
                rw [HRW.out] at q5 hC9
                rw [Int.toNat_natCast, q1] at q5
                cases q5
                obtain ⟨ad2, e2, q3⟩ := Kd.at_int hC9 (k' : Int) (by omega) (by omega)
                cases e2
                rw [Int.toNat_natCast] at q3
                have z1 : decide ((0 : Int) < (k : Int)) = true := decide_eq_true (by omega)
                have z1' : decide (0 < k) = true := decide_eq_true (by omega)
                have z2 : IntKind.i64.wrap ((k : Int) - 1) = (k' : Int) := by rw [i64_w]; have := HN.out; have := HG.out.short; have := HLR.out; unfold wrap64; omega
                have z3 : decide (x ≤ rd row (k' : Int)) = false := decide_eq_false (by omega)
                have hb1 : (0 : Int) ≤ (k' : Int) := by omega
                have hb2 : (k' : Int) < (row.length : Int) := by omega
                clear hup hk' hz hC9
                go_big_quiet (fail)
                go_wp2_with (fail)
                go_meet
                case rel => exact ⟨rfl, HBS.out.from_ (pw_below_drewN (Below.refl _ _) _), HV.out.below (pw_below_drewN (Below.refl _ _) _), pw_below_drewN HL.out _⟩
            case rest =>
              obtain ⟨rfl, hBS, hV, hL⟩ := hcut
              have HBS := Aside0.mk hBS
              have HV := Aside0.mk hV; have HL := Aside0.mk hL; clear hL
              have hkm : k < 9223372036854775807 := by have := HN.out; have := HG.out.short; have := HLR.out; have := HKL.out; omega
              clear q1 q2 g1 t1 t2 hBS hV
              go_wp2_with (fail)
              go_roundw
              case measure => simp [intOf]; omega
              case rel => exact ⟨k + 1, HKL.out, by first | rfl | go_num, HBS.out, HV.out, HL.out⟩
          · have hkr : (row.length : Int) ≤ (k : Int) := by omega
            have hbm : b < 9223372036854775807 := by have := HN.out; have := HG.out.short; have := HBN.out; omega
            clear hBS hV hC9 hk hkl
            go_wp2_with (fail)
            go_roundw
            case measure => simp [intOf]; omega
            case rel => exact ⟨b + 1, HBN.out, by first | rfl | go_num, HBS.out, HV.out, HL.out⟩
    · have hbn : (n : Int) ≤ (b : Int) := by omega
      have g0 := cell_blk hBS.gb HK.out.1
      have g1 := cell_blk hBS.gb HK.out.2.1
      have g2 := cell_blk hBS.gb HK.out.2.2.1
      have g3 := cell_blk hBS.gb HK.out.2.2.2.1
      have g4 := cell_blk hBS.gb HK.out.2.2.2.2.1
      have u0 := cell_blk hBS.rb (i := 0) rfl
      have u1 := cell_blk hBS.rb (i := 1) rfl
      have u2 := cell_blk hBS.rb (i := 2) rfl
      have u3 := cell_blk hBS.rb (i := 3) rfl
      have u4 := cell_blk hBS.rb (i := 4) rfl
      have z0 : wr.frozen? ⟨w.heap.size + 1, 0, none⟩ = false := by simp [World.frozen?, hBS.rb]
      have z1 : wr.frozen? ⟨w.heap.size + 1, 1, none⟩ = false := by simp [World.frozen?, hBS.rb]
      have z2 : wr.frozen? ⟨w.heap.size + 1, 2, none⟩ = false := by simp [World.frozen?, hBS.rb]
      have z3 : wr.frozen? ⟨w.heap.size + 1, 3, none⟩ = false := by simp [World.frozen?, hBS.rb]
      have z4 : wr.frozen? ⟨w.heap.size + 1, 4, none⟩ = false := by simp [World.frozen?, hBS.rb]
      clear hb hBS hV hlt
      go_wp2_with (fail)
      have hrbF := blk_set (j := 4) (v := .slice a4 m d4) (blk_set (j := 3) (v := .slice (some r3) n d3) (blk_set (j := 2) (v := .slice (some r2) n d2) (blk_set (j := 1) (v := .slice (some r1) n d1) (blk_set (j := 0) (v := .slice (some r0) n d0) HBS.out.rb))))
      have hbF : Below w.heap.size w (((((wr.setCell ⟨w.heap.size + 1, 0, none⟩ (.slice (some r0) n d0)).setCell ⟨w.heap.size + 1, 1, none⟩ (.slice (some r1) n d1)).setCell ⟨w.heap.size + 1, 2, none⟩ (.slice (some r2) n d2)).setCell ⟨w.heap.size + 1, 3, none⟩ (.slice (some r3) n d3)).setCell ⟨w.heap.size + 1, 4, none⟩ (.slice a4 m d4)) := by
        refine ((((HBS.out.below.setCell (p := ⟨w.heap.size + 1, 0, none⟩) ?_ _).setCell (p := ⟨w.heap.size + 1, 1, none⟩) ?_ _).setCell (p := ⟨w.heap.size + 1, 2, none⟩) ?_ _).setCell (p := ⟨w.heap.size + 1, 3, none⟩) ?_ _).setCell (p := ⟨w.heap.size + 1, 4, none⟩) ?_ _ <;> exact Nat.le_succ _
      refine bodyPost_ret (results_flow rfl _ _ (w.heap.size + 1) _ _ _ _ _ _ _ _ _ _ _ _ _ _ _ true true rfl rfl rfl hrbF) rfl ⟨_, _, _, _, _, _, _, _, _, _, n, m, st, nx, ord, l, hd, rfl, ?_, HG.out, hbF⟩
      refine (HBT.out.held (by simpa using HL.out.size) (fun k o hk ho hc => ?_)).gv2 HF.out HN.out HG.out
      have hne : ∀ (W : World) (j : Nat) (v : Value), (W.setCell ⟨w.heap.size + 1, j, none⟩ v).heap[k]? = W.heap[k]? := fun W j v => Below.heap_setCell W ⟨w.heap.size + 1, j, none⟩ v k (by have := HS0.out; simp; omega)
      rw [hne, hne, hne, hne, hne]
      exact (HL.out.block k (blk_lt ho)).trans ho
end Go.Proofs.Ytmeaepmimnmjlaa.Ask
/- flow of a function that has none: for every world. -/
namespace Go.Proofs.Ytmeaepmimnmjlaa.Ask
open Go.Proofs.Ytmeaepmimnmjlaa.Dfs Go.Proofs.Ytmeaepmimnmjlaa.Dom Go.RowKit Go.Shelf Go.Proofs.Ytmeaepmimnmjlaa.PGb Go.Proofs.Ytmeaepmimnmjlaa.Lit Go.Proofs.Ytmeaepmimnmjlaa.OwnCells Go.Proofs.YtmeaepmimnmjlaaW.PrintWords Go.Proofs.YtmeaepmimnmjlaaW.PrintLast Go.Proofs.YtmeaepmimnmjlaaW.PrintMore
attribute [local go_sem] Oper.semAt_some
attribute [local go_sem] run_store_fn
attribute [local go_sem] run_eql_fn
set_option linter.unusedVariables false
set_option linter.unusedSimpArgs false
theorem op_valueD {P : Program} {ops : Array Oper} {Q : Exit → Act → World → Prop} {i : Nat} {o : Oper} {K : Act → World → Prop} {a : Act} {w w' : World} {v : Value} {d : Option Tmp} (hi : ops[i]? = some o) (hg : o.guard = none) (hd : o.dst = d) (hrun : (execOp a.eval o).run P w = .ok (.value v) w') (h : K (a.put d v) w') : wpOp P ops Q i K a w := RegInv.op_value hi hg hrun (hd ▸ h)
def nils : Value := .agg #[.slice none 0 0, .slice none 0 0, .slice none 0 0, .slice none 0 0, .slice none 0 0]
def nilo : Obj := .cells #[.slice none 0 0, .slice none 0 0, .slice none 0 0, .slice none 0 0, .slice none 0 0] 29 (0, 0)
def dFN : Nat → Option Tmp
  | 0 => some 18
  | 1 => some 19
  | 2 => some 20
  | 3 => some 21
  | 4 => some 22
  | 5 => some 23
  | 6 => some 24
  | 7 => some 25
  | 8 => some 26
  | 9 => none
  | 10 => some 3
  | _ => none
def FFN (R GB : Nat) (er : Int) : Nat → World → Value → Prop
  | 0, _, v => v = .agg #[.slice none 0 0, .slice none 0 0, .slice none 0 0, .slice none 0 0, .slice none 0 0]
  | 1, _, v => v = .int .i64 er
  | 2, _, v => v = .bool true
  | 3, _, v => v = .bool true
  | 4, _, v => v = .pointer (some ⟨GB, 0, none⟩)
  | 5, _, v => v = .slice none 0 0
  | 6, _, v => v = .int .i64 0
  | 7, _, v => v = .bool true
  | 8, _, v => v = .bool true
  | 9, w, _ => w.heap[R]? = some nilo
  | 10, _, v => v = .bool true
  | _, _, _ => True
theorem FFN_below {R GB : Nat} {er : Int} (i : Nat) (w w1 : World) (v : Value) (h : FFN R GB er i w v) (hb : Below w.heap.size w w1) : FFN R GB er i w1 v := by
  match i with
  | 0 | 1 | 2 | 3 | 4 | 5 | 6 | 7 | 8 | 10 => exact h
  | 9 => exact blk_below h hb
  | (n + 11) => exact trivial
theorem FFN_p {R GB : Nat} {er : Int} (i : Nat) (w w1 : World) (v : Value) (hi : i ≠ 9) (h : FFN R GB er i w v) : FFN R GB er i w1 v := by
  match i with
  | 0 | 1 | 2 | 3 | 4 | 5 | 6 | 7 | 8 | 10 => exact h
  | 9 => exact absurd rfl hi
  | (n + 11) => exact trivial
set_option maxRecDepth 100000 in
set_option maxHeartbeats 8000000 in
theorem flow_no (nm : ByteArray) (pa lo : Int) (A3 A4 : Option Addr) (c3 c4 : Nat) (code : List S40) (hs : List S49) (w : World) (hC : k40.C w A3 code.length code) (hc3 : code.length ≤ c3) (hH : k49.C w A4 hs.length hs) (hc4 : hs.length ≤ c4) (hfit : ¬ FitsP code hs) (hn : code.length < 9223372036854775807) (hh : hs.length < 9223372036854775807) :
    Calls Try.prog 19 #[.agg #[.string nm, .int .i64 pa, .int .i64 lo, .slice A3 code.length c3, .slice A4 hs.length c4]] w fun e w' => e = .returned (.tuple #[.agg #[.slice none 0 0, .slice none 0 0, .slice none 0 0, .slice none 0 0, .slice none 0 0], .bool true, .bool false]) ∧ Below w.heap.size w w' := by
  have hne : errOf code hs ≠ 0 := fun h => hfit ((errOf_fits code hs).1 h)
  have hchk := check_f nm pa lo code hs hn hh
  have hft := fits_f nm pa lo code hs hn hh
  rw [decide_eq_false hne] at hft
  obtain ⟨er, her⟩ : ∃ er, errOf code hs = er := ⟨_, rfl⟩
  rw [her] at hchk hne
  have HC := Aside0.mk hC
  have HH := Aside0.mk hH
  have HC3 := Aside0.mk hc3
  have HC4 := Aside0.mk hc4
  have HCK := Aside0.mk hchk
  have HFT := Aside0.mk hft
  clear hC hH hc3 hc4 hfit hn hh hchk hft her
  have hu25 := Try.underlying25
  have hu29 := Try.underlying29
  go_enter Try.func19, Try.ntmps19
  go_upto_region 1 with (fail)
  obtain ⟨W0, hW0⟩ : ∃ W0, (w.alloc (.cells #[.string nm, .int .i64 pa, .int .i64 lo, .slice A3 code.length c3, .slice A4 hs.length c4] 25)).alloc (.cells #[.slice none 0 0, .slice none 0 0, .slice none 0 0, .slice none 0 0, .slice none 0 0] 29) = W0 := ⟨_, rfl⟩
  have hb0 : Below w.heap.size w W0 := by rw [← hW0]; exact below_alloc (below_alloc (Below.refl _ _) _) _
  have hfb0 : W0.heap[w.heap.size]? = some (.cells #[.string nm, .int .i64 pa, .int .i64 lo, .slice A3 code.length c3, .slice A4 hs.length c4] 25 (0, 0)) := by
    rw [← hW0]; exact ((World.grownBy_alloc (w.alloc _) _ none).block _ (by simp) (by simp)).trans (World.alloc_heap_new w _)
  have hrb : W0.heap[w.heap.size + 1]? = some (.cells #[.slice none 0 0, .slice none 0 0, .slice none 0 0, .slice none 0 0, .slice none 0 0] 29 (0, 0)) := by
    rw [← hW0]
    have := World.alloc_heap_new (w.alloc (.cells #[.string nm, .int .i64 pa, .int .i64 lo, .slice A3 code.length c3, .slice A4 hs.length c4] 25)) (.cells #[.slice none 0 0, .slice none 0 0, .slice none 0 0, .slice none 0 0, .slice none 0 0] 29)
    rw [World.size_alloc] at this
    exact this
  have hsz0 : W0.heap.size = w.heap.size + 2 := by rw [← hW0]; simp
  rw [hW0]
  clear hW0
  have f0 := cell_blk hfb0 (i := 0) rfl
  have f1 := cell_blk hfb0 (i := 1) rfl
  have f2 := cell_blk hfb0 (i := 2) rfl
  have f3 := cell_blk hfb0 (i := 3) rfl
  have f4 := cell_blk hfb0 (i := 4) rfl
  have HFB := Aside0.mk hfb0
  have HRB := Aside0.mk hrb
  have HB0 := Aside0.mk hb0
  have HS0 := Aside0.mk hsz0
  have HNE := Aside0.mk hne
  clear hfb0 hrb hb0 hsz0 hne
  go_wp2_with (fail)
  refine (build_no (code.length + hs.length + 2) nm pa lo er A3 A4 c3 c4 code hs W0 (Kd.C_below HC.out HB0.out) HC3.out (Kd.C_below HH.out HB0.out) HC4.out HCK.out HNE.out).mono ?_
  rintro e w1 ⟨rfl, hb1⟩
  have HFB1 := Aside0.mk (blk_below HFB.out hb1)
  have HRB1 := Aside0.mk (blk_below HRB.out hb1)
  have HB1 := Aside0.mk (HB0.out.trans (hb1.mono HB0.out.size))
  have HS1 := Aside0.mk (show w.heap.size + 2 ≤ w1.heap.size by have := hb1.size; have := HS0.out; omega)
  clear hb1 f0 f1 f2 f3 f4 HFB HRB HB0
  go_upto_region 2 with (fail)
  obtain ⟨GB, hGB⟩ : ∃ GB, w1.heap.size = GB := ⟨_, rfl⟩
  have hb2 : Below w1.heap.size w1 (w1.alloc (.cells #[.slice none 0 0, .slice none 0 0, .slice none 0 0, .slice none 0 0, .slice none 0 0] 29)) := below_alloc (Below.refl _ _) _
  have HBS : Aside0 (BS w (w1.alloc (.cells #[.slice none 0 0, .slice none 0 0, .slice none 0 0, .slice none 0 0, .slice none 0 0] 29)) GB #[.string nm, .int .i64 pa, .int .i64 lo, .slice A3 code.length c3, .slice A4 hs.length c4] #[.slice none 0 0, .slice none 0 0, .slice none 0 0, .slice none 0 0, .slice none 0 0]) := ⟨⟨blk_below HFB1.out hb2, blk_below HRB1.out hb2, hGB ▸ World.alloc_heap_new w1 _, HB1.out.trans (hb2.mono HB1.out.size), by have := HS1.out; omega⟩⟩
  rw [hGB]
  revert HBS
  generalize w1.alloc (.cells #[.slice none 0 0, .slice none 0 0, .slice none 0 0, .slice none 0 0, .slice none 0 0] 29) = W2
  intro HBS
  clear hb2 hGB HFB1 HRB1 HB1
  have f0 := cell_blk HBS.out.fb (i := 0) rfl
  have f1 := cell_blk HBS.out.fb (i := 1) rfl
  have f2 := cell_blk HBS.out.fb (i := 2) rfl
  have f3 := cell_blk HBS.out.fb (i := 3) rfl
  have f4 := cell_blk HBS.out.fb (i := 4) rfl
  go_wp2_with (fail)
  refine (portagelaw09_fits.calls (code.length + hs.length + 2) nm pa lo A3 c3 code A4 c4 hs false W2 (Kd.C_below HC.out HBS.out.below) HC3.out (Kd.C_below HH.out HBS.out.below) HC4.out HFT.out).mono ?_
  rintro e w3 ⟨rfl, hb3⟩
  have HBS3 := Aside0.mk (HBS.out.from_ hb3)
  clear hb3 f0 f1 f2 f3 f4 HBS
  go_upto_region 3 with (fail)
  have hlo := HBS3.out.lo
  have hmx : ∀ w8 : World, w3.grownBy w8 (some (w.heap.size + 1)) → w8.heap[GB]? = some nilo := fun w8 h => (h.block GB (blk_lt HBS3.out.gb) (by intro e; cases e; omega)).trans HBS3.out.gb
  have HMX := Aside0.mk hmx
  have HLO := Aside0.mk hlo
  clear hmx hlo
  refine RegInv.region_facts_p (by kernel_rfl) (by kernel_rfl) (fun a b => Below a.heap.size a b) (fun a b => a.grownBy b (some (w.heap.size + 1))) (fun a b c h k => wB h k) (fun a b h => ⟨h.os, h.tape, h.output, h.size, fun k hk _ => h.block k hk⟩) (fun a b c h k => h.trans k) (pw_below_drewN (Below.refl _ _) 1) dFN 11 9 (by rfl) (by kernel_rfl) (by kernel_rfl) (by kernel_rfl) (FFN (w.heap.size + 1) GB er) FFN_below (fun i w w1 v hi h _ => FFN_p i w w1 v hi h) ?hsX ?heX
  case hsX =>
    intro i o a w8 hlt hi hM
    have hg8 := HMX.out w8 hM.ext
    have q0 := cell_blk hg8 (i := 0) rfl
    have q1 := cell_blk hg8 (i := 1) rfl
    have q2 := cell_blk hg8 (i := 2) rfl
    have q3 := cell_blk hg8 (i := 3) rfl
    have q4 := cell_blk hg8 (i := 4) rfl
    rcases i with _ | _ | _ | _ | _ | _ | _ | _ | _ | _ | _ | i
    · cases hi
      have h0 := gdq _ _ _ (show a.tmps.getD 5 undef = .pointer (some ⟨GB, 0, none⟩) from hM.off 5 (by kernel_rfl))
      refine RegInv.op_value (by rfl) rfl (v := .agg #[.slice none 0 0, .slice none 0 0, .slice none 0 0, .slice none 0 0, .slice none 0 0]) (w' := w8) ?_ ⟨_, rfl, rfl, grown_refl _ _, fun _ => Below.refl _ _⟩
      unfold execOp
      go_simp
    · cases hi
      have h0 := gdq _ _ _ (show a.tmps.getD 6 undef = .int .i64 er from hM.off 6 (by kernel_rfl))
      refine RegInv.op_value (by rfl) rfl (v := .int .i64 er) (w' := w8) ?_ ⟨_, rfl, rfl, grown_refl _ _, fun _ => Below.refl _ _⟩
      unfold execOp
      go_simp
    · cases hi
      have h0 := gdq _ _ _ (show a.tmps.getD 19 undef = .int .i64 er from hM.at_ 1 (by decide) (by kernel_rfl))
      have hne2 : (er != 0) = true := by simpa using HNE.out
      refine RegInv.op_value (by rfl) rfl (v := .bool true) (w' := w8) ?_ ⟨_, rfl, rfl, grown_refl _ _, fun _ => Below.refl _ _⟩
      unfold execOp
      go_simp
    · cases hi
      have h0 := gdq _ _ _ (show a.tmps.getD 20 undef = .bool true from hM.at_ 2 (by decide) (by kernel_rfl))
      refine RegInv.op_value (by rfl) rfl (v := .bool true) (w' := w8) ?_ ⟨_, rfl, rfl, grown_refl _ _, fun _ => Below.refl _ _⟩
      unfold execOp
      go_simp
    · cases hi
      have h0 := gdq _ _ _ (show a.tmps.getD 5 undef = .pointer (some ⟨GB, 0, none⟩) from hM.off 5 (by kernel_rfl))
      have hg : a.tmps.getD 21 undef = .bool true := hM.at_ 3 (by decide) (by kernel_rfl)
      refine RegInv.op_valueW (by rfl) (RegInv.wanted_of 21 rfl rfl hg) (v := .pointer (some ⟨GB, 0, none⟩)) (w' := w8) ?_ ⟨_, rfl, rfl, grown_refl _ _, fun _ => Below.refl _ _⟩
      unfold execOp
      go_simp
    · cases hi
      have h0 := gdq _ _ _ (show a.tmps.getD 22 undef = .pointer (some ⟨GB, 0, none⟩) from hM.at_ 4 (by decide) (by kernel_rfl))
      have hg : a.tmps.getD 21 undef = .bool true := hM.at_ 3 (by decide) (by kernel_rfl)
      refine RegInv.op_valueW (by rfl) (RegInv.wanted_of 21 rfl rfl hg) (v := .slice none 0 0) (w' := w8) ?_ ⟨_, rfl, rfl, grown_refl _ _, fun _ => Below.refl _ _⟩
      unfold execOp
      go_simp
    · cases hi
      have h0 := gdq _ _ _ (show a.tmps.getD 23 undef = .slice none 0 0 from hM.at_ 5 (by decide) (by kernel_rfl))
      have hg : a.tmps.getD 21 undef = .bool true := hM.at_ 3 (by decide) (by kernel_rfl)
      refine RegInv.op_valueW (by rfl) (RegInv.wanted_of 21 rfl rfl hg) (v := .int .i64 0) (w' := w8) ?_ ⟨_, rfl, rfl, grown_refl _ _, fun _ => Below.refl _ _⟩
      unfold execOp
      go_simp
    · cases hi
      have h0 := gdq _ _ _ (show a.tmps.getD 24 undef = .int .i64 0 from hM.at_ 6 (by decide) (by kernel_rfl))
      have hg : a.tmps.getD 21 undef = .bool true := hM.at_ 3 (by decide) (by kernel_rfl)
      refine RegInv.op_valueW (by rfl) (RegInv.wanted_of 21 rfl rfl hg) (v := .bool true) (w' := w8) ?_ ⟨_, rfl, rfl, grown_refl _ _, fun _ => Below.refl _ _⟩
      unfold execOp
      go_simp
    · cases hi
      have h0 := gdq _ _ _ (show a.tmps.getD 21 undef = .bool true from hM.at_ 3 (by decide) (by kernel_rfl))
      have h1 := gdq _ _ _ (show a.tmps.getD 25 undef = .bool true from hM.at_ 7 (by decide) (by kernel_rfl))
      refine RegInv.op_value (by rfl) rfl (v := .bool true) (w' := w8) ?_ ⟨_, rfl, rfl, grown_refl _ _, fun _ => Below.refl _ _⟩
      unfold execOp
      go_simp
    · cases hi
      have h0 := gdq _ _ _ (show a.tmps.getD 18 undef = .agg #[.slice none 0 0, .slice none 0 0, .slice none 0 0, .slice none 0 0, .slice none 0 0] from hM.at_ 0 (by decide) (by kernel_rfl))
      have h1 := gdq _ _ _ (show a.tmps.getD 2 undef = .pointer (some ⟨w.heap.size + 1, 0, none⟩) from hM.off 2 (by kernel_rfl))
      have hb8 := hM.exts rfl
      have hr8 := blk_below HBS3.out.rb hb8
      have u0 := cell_blk hr8 (i := 0) rfl
      have u1 := cell_blk hr8 (i := 1) rfl
      have u2 := cell_blk hr8 (i := 2) rfl
      have u3 := cell_blk hr8 (i := 3) rfl
      have u4 := cell_blk hr8 (i := 4) rfl
      have z0 : w8.frozen? ⟨w.heap.size + 1, 0, none⟩ = false := by simp [World.frozen?, hr8]
      have z1 : w8.frozen? ⟨w.heap.size + 1, 1, none⟩ = false := by simp [World.frozen?, hr8]
      have z2 : w8.frozen? ⟨w.heap.size + 1, 2, none⟩ = false := by simp [World.frozen?, hr8]
      have z3 : w8.frozen? ⟨w.heap.size + 1, 3, none⟩ = false := by simp [World.frozen?, hr8]
      have z4 : w8.frozen? ⟨w.heap.size + 1, 4, none⟩ = false := by simp [World.frozen?, hr8]
      have hrbF := blk_set (j := 4) (v := .slice none 0 0) (blk_set (j := 3) (v := .slice none 0 0) (blk_set (j := 2) (v := .slice none 0 0) (blk_set (j := 1) (v := .slice none 0 0) (blk_set (j := 0) (v := .slice none 0 0) hr8))))
      refine RegInv.op_skip (w' := ((((w8.setCell ⟨w.heap.size + 1, 0, none⟩ (.slice none 0 0)).setCell ⟨w.heap.size + 1, 1, none⟩ (.slice none 0 0)).setCell ⟨w.heap.size + 1, 2, none⟩ (.slice none 0 0)).setCell ⟨w.heap.size + 1, 3, none⟩ (.slice none 0 0)).setCell ⟨w.heap.size + 1, 4, none⟩ (.slice none 0 0)) (by rfl) rfl ?_ ⟨undef, rfl, hrbF, ?_, fun h => absurd rfl h⟩
      · unfold execOp
        go_simp
      · have hg1 : ∀ (W : World) (j : Nat), W.grownBy (W.setCell ⟨w.heap.size + 1, j, none⟩ (.slice none 0 0)) (some (w.heap.size + 1)) := fun W j => ⟨rfl, rfl, rfl, by simp, fun k hk hne => Below.heap_setCell W ⟨w.heap.size + 1, j, none⟩ _ k (fun e => hne (by rw [e]))⟩
        exact ((((hg1 _ 0).trans (hg1 _ 1)).trans (hg1 _ 2)).trans (hg1 _ 3)).trans (hg1 _ 4)
    · cases hi
      have h0 := gdq _ _ _ (show a.tmps.getD 26 undef = .bool true from hM.at_ 8 (by decide) (by kernel_rfl))
      refine RegInv.op_value (by rfl) rfl (v := .bool true) (w' := w8) ?_ ⟨_, rfl, rfl, grown_refl _ _, fun _ => Below.refl _ _⟩
      unfold execOp
      go_simp
    · exact absurd hlt (by omega)
  case heX =>
    intro vs8 w8 hx hf
    have e0 : vs8 0 = .agg #[.slice none 0 0, .slice none 0 0, .slice none 0 0, .slice none 0 0, .slice none 0 0] := hf 0 (by decide)
    have e1 : vs8 1 = .int .i64 er := hf 1 (by decide)
    have e2 : vs8 2 = .bool true := hf 2 (by decide)
    have e3 : vs8 3 = .bool true := hf 3 (by decide)
    have e4 : vs8 4 = .pointer (some ⟨GB, 0, none⟩) := hf 4 (by decide)
    have e5 : vs8 5 = .slice none 0 0 := hf 5 (by decide)
    have e6 : vs8 6 = .int .i64 0 := hf 6 (by decide)
    have e7 : vs8 7 = .bool true := hf 7 (by decide)
    have e8 : vs8 8 = .bool true := hf 8 (by decide)
    have e9 : w8.heap[w.heap.size + 1]? = some nilo := hf 9 (by decide)
    have e10 : vs8 10 = .bool true := hf 10 (by decide)
    simp only [RegInv.puts, dFN, Act.put, List.range, List.range.loop, List.setIfInBounds_toArray, List.set_cons_zero, List.set_cons_succ]
    rw [e0, e1, e2, e3, e4, e5, e6, e7, e8, e10]
    have HE := Aside0.mk e9
    have HX := Aside0.mk hx
    clear e0 e1 e2 e3 e4 e5 e6 e7 e8 e9 e10 hf hx
    refine op_valueD (d := some 4) (by rfl) rfl rfl (v := .bool false) (w' := w8) ?_ ?_
    · unfold execOp
      go_simp
    · skip
      simp only [Act.put, List.setIfInBounds_toArray, List.set_cons_zero, List.set_cons_succ]
      go_wp2_with (fail)
      refine bodyPost_ret (results_flow rfl _ _ (w.heap.size + 1) _ _ _ _ _ _ _ _ _ _ _ _ _ _ _ true false (by first | rfl | simp) (by first | rfl | simp) (by first | rfl | simp) HE.out) rfl ⟨rfl, HBS3.out.below.grown HX.out HBS3.out.below.size (fun j e => ?_)⟩
      cases e
      exact Nat.le_succ _
end Go.Proofs.Ytmeaepmimnmjlaa.Ask
