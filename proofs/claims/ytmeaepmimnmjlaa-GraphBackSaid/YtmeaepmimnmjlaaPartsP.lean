/- The graph's places, plainly: which block holds a place, why a start is one, where a block ends. -/
import Derived.Test.YtmeaepmimnmjlaaKe
import Derived.Test.YtmeaepmimnmjlaaSecB
namespace Go.Proofs.Ytmeaepmimnmjlaa.Ask
open Go.Proofs.Ytmeaepmimnmjlaa.Dfs Go.Proofs.Ytmeaepmimnmjlaa.Dom Go.Proofs.Ytmeaepmimnmjlaa.DomT Go.RowKit Go.Shelf Go.Proofs.Ytmeaepmimnmjlaa.PGb Go.Proofs.YtmeaepmimnmjlaaW.PrintWords
set_option linter.unusedVariables false
set_option linter.unusedSimpArgs false
theorem lstops_f (op : Int) : portagelaw09_stops.f op = some (stopsP op) := by
  unfold portagelaw09_stops.f stopsP
  by_cases h : op = 40
  · simp [h]
  · by_cases h2 : op = 44
    · simp [h2]
    · by_cases h3 : op = 45 <;> simp [h, h2, h3]
theorem lparts_f (op : Int) : portagelaw09_parts.f op = some (partsP op) := by
  unfold portagelaw09_parts.f partsP
  simp only [ljumps_f, lstops_f, Option.bind_some]
  cases h1 : jumpsP op with
  | true => simp
  | false =>
    cases h2 : stopsP op with
    | true => simp
    | false =>
      by_cases h3 : op = 43
      · simp [h3]
      · by_cases h4 : op = 60
        · simp [h4]
        · by_cases h5 : op = 61
          · simp [h5]
          · by_cases h6 : op = 63
            · simp [h6]
            · by_cases h7 : op = 64 <;> simp [h3, h4, h5, h6, h7]
theorem in_f (l : List Int) (x : Int) (hl : l.length < 4611686018427387904) : portagelaw09_in.f (l.length + 1) l x = some (decide (x ∈ l)) := by
  have key : ∀ (d j k : Nat), j + d = l.length → d < k → portagelaw09_in.l0 k l x (j : Int) = some (decide (x ∈ l.drop j)) := by
    intro d
    induction d with
    | zero =>
      intro j k hj hk
      obtain ⟨k, rfl⟩ : ∃ m, k = m + 1 := ⟨k - 1, by omega⟩
      rw [portagelaw09_in.l0, if_neg (by omega), List.drop_eq_nil_of_le (by omega)]; simp
    | succ d ih =>
      intro j k hj hk
      obtain ⟨k, rfl⟩ : ∃ m, k = m + 1 := ⟨k - 1, by omega⟩
      have hjl : j < l.length := by omega
      have hd : l.drop j = rd l (j : Int) :: l.drop (j + 1) := by
        rw [List.drop_eq_getElem_cons hjl]
        congr 1
        simp [rd, hjl]
      rw [portagelaw09_in.l0, if_pos (by omega), if_pos (by omega), hd]
      by_cases h : rd l (j : Int) = x
      · rw [if_pos h]; simp [h]
      · rw [if_neg h, show wrap64 ((j : Int) + 1) = ((j + 1 : Nat) : Int) by unfold wrap64; omega, ih (j + 1) k (by omega) (by omega)]
        simp [Ne.symm h]
  have := key l.length 0 (l.length + 1) (by omega) (by omega)
  rw [List.drop_zero] at this
  exact this
section
variable {code : List S40} {hs : List S49} {n m : Nat} {st : List Int} {nx : List (List Int)} {ord l hd : List Int} {W : World} {a0 a1 a2 a3 a4 : Option Addr} {c0 c1 c2 c3 c4 : Nat}
theorem end_f (g : GF code hs n m st nx ord l hd) (hn : code.length ≤ 8796093022207) (nm : ByteArray) (pa lo : Int) {b : Nat} (hb : b < n) : portagelaw09_end.f nm pa lo code hs st nx ord l hd (b : Int) = some (endOf code st b) := by
  have hs := g.short
  have e := g.ln
  have hw : wrap64 ((b : Int) + 1) = ((b + 1 : Nat) : Int) := by unfold wrap64; omega
  unfold portagelaw09_end.f endOf
  rw [hw]
  clear hw
  by_cases h : b + 1 < st.length
  · rw [if_pos (by omega), if_pos (by omega), if_pos h]
  · rw [if_neg (by omega), if_neg h]
theorem GF.end_in (g : GF code hs n m st nx ord l hd) {b : Nat} (hb : b < n) : rd st (b : Int) < endOf code st b ∧ endOf code st b ≤ (code.length : Int) := g.sts.sts.end_ (by rw [g.ln]; exact hb)
/-- no start lies within a block -/
theorem GF.between (g : GF code hs n m st nx ord l hd) {b p : Nat} (hb : b < n) (h0 : rd st (b : Int) < (p : Int)) (h1 : (p : Int) < endOf code st b) : ¬ StP code hs p := by
  intro hP
  have he := g.end_in hb
  have hm : (p : Int) ∈ st := (g.sts.mem _).2 ⟨p, by omega, rfl, hP⟩
  obtain ⟨j, hj, e⟩ := List.getElem_of_mem hm
  have e2 : rd st (j : Int) = (p : Int) := by simp [rd, hj, e]
  have hln := g.ln
  rcases Nat.lt_trichotomy j b with h | h | h
  · have := rise_rd g.sts.rise h (by omega); omega
  · subst h; omega
  · unfold endOf at h1
    rw [if_pos (by omega)] at h1
    by_cases e3 : j = b + 1
    · subst e3; omega
    · have := rise_rd g.sts.rise (i := b + 1) (j := j) (by omega) hj
      omega
theorem GF.block_of (g : GF code hs n m st nx ord l hd) {b : Nat} (hb : b < n) {p : Int} (h0 : rd st (b : Int) ≤ p) (h1 : p < endOf code st b) : blockAt p (back st st.length) = (b : Int) := by
  have hin := g.st_in hb
  have hln := g.ln
  obtain ⟨i, hi, e, hle, hup⟩ := g.sts.block (pc := p) (by omega)
  have e' : blockAt p (back st st.length) = (i : Int) := e
  rw [e']
  rcases Nat.lt_trichotomy i b with h | h | h
  · have := hup b h (by omega); omega
  · rw [h]
  · unfold endOf at h1
    rw [if_pos (by omega)] at h1
    by_cases e3 : i = b + 1
    · subst e3; omega
    · have := rise_rd g.sts.rise (i := b + 1) (j := i) (by omega) hi
      omega
theorem get40 {code : List S40} {p : Nat} (hp : p < code.length) : code[p]? = some (rd_T40 code (p : Int)) := by
  rw [List.getElem?_eq_getElem hp]; simp [rd_T40, hp]
theorem get49 {hs : List S49} {p : Nat} (hp : p < hs.length) : hs[p]? = some (rd_T49 hs (p : Int)) := by
  rw [List.getElem?_eq_getElem hp]; simp [rd_T49, hp]
theorem GF.parts_last (g : GF code hs n m st nx ord l hd) {b p : Nat} (hb : b < n) (h0 : rd st (b : Int) ≤ (p : Int)) (h1 : (p : Int) < endOf code st b) (hp : partsP (rd_T40 code (p : Int)).f0 = true) : ¬ ((p : Int) + 1 < endOf code st b) := by
  intro h2
  have he := g.end_in hb
  refine g.between (p := p + 1) hb (by omega) (by omega) (.inl (.inr ⟨p, _, by omega, get40 (by omega), .inl ⟨hp, rfl⟩⟩))
/-- what makes a start: the instruction ahead, a jump, a handler -/
def R0 (code : List S40) (s : Int) : Prop := s = 0 ∨ ∃ (q : Nat) (i : S40), code[q]? = some i ∧ partsP i.f0 = true ∧ s = (q : Int) + 1
def RJ (code : List S40) (k : Nat) (s : Int) : Prop := ∃ (q : Nat) (i : S40), q < k ∧ code[q]? = some i ∧ jumpsP i.f0 = true ∧ i.f1 = s
def RH (hs : List S49) (k : Nat) (s : Int) : Prop := ∃ (q : Nat) (x : S49), q < k ∧ hs[q]? = some x ∧ x.f2 = s
theorem RJ_step {code : List S40} {k : Nat} (hk : k < code.length) (s : Int) : RJ code (k + 1) s ↔ RJ code k s ∨ (jumpsP (rd_T40 code (k : Int)).f0 = true ∧ (rd_T40 code (k : Int)).f1 = s) := by
  constructor
  · rintro ⟨q, i, hq, hi, hj, e⟩
    by_cases h : q = k
    · subst h
      rw [get40 hk] at hi
      cases hi
      exact .inr ⟨hj, e⟩
    · exact .inl ⟨q, i, by omega, hi, hj, e⟩
  · rintro (⟨q, i, hq, hi, hj, e⟩ | ⟨hj, e⟩)
    · exact ⟨q, i, by omega, hi, hj, e⟩
    · exact ⟨k, _, by omega, get40 hk, hj, e⟩
theorem RH_step {hs : List S49} {k : Nat} (hk : k < hs.length) (s : Int) : RH hs (k + 1) s ↔ RH hs k s ∨ (rd_T49 hs (k : Int)).f2 = s := by
  constructor
  · rintro ⟨q, i, hq, hi, e⟩
    by_cases h : q = k
    · subst h
      rw [get49 hk] at hi
      cases hi
      exact .inr e
    · exact .inl ⟨q, i, by omega, hi, e⟩
  · rintro (⟨q, i, hq, hi, e⟩ | e)
    · exact ⟨q, i, by omega, hi, e⟩
    · exact ⟨k, _, by omega, get49 hk, e⟩
theorem GF.reason (g : GF code hs n m st nx ord l hd) {b : Nat} (hb : b < n) : (R0 code (rd st (b : Int)) ∨ RJ code code.length (rd st (b : Int))) ∨ RH hs hs.length (rd st (b : Int)) := by
  obtain ⟨p, hp, e, hP⟩ := g.sts.in_ (i := b) (by rw [g.ln]; exact hb)
  rw [e]
  rcases hP with (h | ⟨q, i, hq, hi, h⟩) | ⟨x, hx, h⟩
  · exact .inl (.inl (.inl (by omega)))
  · rcases h with ⟨h1, h2⟩ | ⟨h1, h2⟩
    · exact .inl (.inl (.inr ⟨q, i, hi, h1, by omega⟩))
    · exact .inl (.inr ⟨q, i, hq, hi, h1, h2⟩)
  · obtain ⟨j, hj, e2⟩ := List.getElem_of_mem hx
    exact .inr ⟨j, x, hj, by rw [List.getElem?_eq_getElem hj, e2], h⟩
theorem GF.jump_in (g : GF code hs n m st nx ord l hd) {i : S40} (hi : i ∈ code) (hj : jumpsP i.f0 = true) : i.f1 ∈ st := by
  have := g.fit.jmp i hi hj
  obtain ⟨q, hq, e⟩ := List.getElem_of_mem hi
  exact (g.sts.mem _).2 ⟨i.f1.toNat, by omega, by omega, .inl (.inr ⟨q, i, hq, by rw [List.getElem?_eq_getElem hq, e], .inr ⟨hj, by omega⟩⟩)⟩
theorem GF.target_in (g : GF code hs n m st nx ord l hd) {x : S49} (hx : x ∈ hs) : x.f2 ∈ st := by
  have := g.fit.hnd x hx
  exact (g.sts.mem _).2 ⟨x.f2.toNat, by omega, by omega, .inr ⟨x, hx, by omega⟩⟩
/-- end, by its meaning -/
theorem end_own (g : GF code hs n m st nx ord l hd) (v : GV W a0 a1 a2 a3 a4 c0 c1 c2 c3 c4 n m st nx ord l hd) (hn : code.length ≤ 8796093022207) {nm : ByteArray} {pa lo : Int} {A3 A4 : Option Addr} {k3 k4 : Nat} (hC : k40.C W A3 code.length code) (hc : code.length ≤ k3) (hH : k49.C W A4 hs.length hs) (hh : hs.length ≤ k4) {b : Nat} (hb : b < n) :
    Calls Try.prog 20 #[.agg #[.string nm, .int .i64 pa, .int .i64 lo, .slice A3 code.length k3, .slice A4 hs.length k4], .agg #[.slice a0 n c0, .slice a1 n c1, .slice a2 n c2, .slice a3 n c3, .slice a4 m c4], .int .i64 (b : Int)] W fun e w' => e = .returned (.int .i64 (endOf code st b)) ∧ Below W.heap.size W w' := by
  have e0 := g.ln
  have e1 := g.lnx
  have e2 := g.lord
  have e3 := g.ll
  have e4 := g.lm
  have := portagelaw09_end.calls nm pa lo A3 k3 code A4 k4 hs a0 c0 st a1 c1 nx a2 c2 ord a3 c3 l a4 c4 hd b _ W hC hc hH hh (e0.symm ▸ v.r0) (e0.symm ▸ v.k0) (e1.symm ▸ v.r1) (e1.symm ▸ v.k1) (e2.symm ▸ v.r2) (e2.symm ▸ v.k2) (e3.symm ▸ v.r3) (e3.symm ▸ v.k3) (e4.symm ▸ v.r4) (e4.symm ▸ v.k4) (end_f g hn nm pa lo hb)
  rw [e0, e1, e2, e3, e4] at this
  exact this
theorem in_own {c : Nat} {A : Option Addr} {l : List Int} (x : Int) (hC : (Kd.int .i64).C W A l.length l) (hc : l.length ≤ c) (hl : l.length < 4611686018427387904) :
    Calls Try.prog 24 #[.slice A l.length c, .int .i64 x] W fun e w' => e = .returned (.bool (decide (x ∈ l))) ∧ Drawn0 W w' := portagelaw09_in.calls (l.length + 1) A c l x _ W hC hc (in_f l x hl)
end
end Go.Proofs.Ytmeaepmimnmjlaa.Ask
