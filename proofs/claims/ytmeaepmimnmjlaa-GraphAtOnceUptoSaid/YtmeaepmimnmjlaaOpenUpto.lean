/- The same as Open, by the bulk of what is read: for the statements whose inputs are of a bulk of at most 1048576. -/
import Derived.Test.YtmeaepmimnmjlaaRows
import Derived.Test.YtmeaepmimnmjlaaProg
import Derived.Test.YtmeaepmimnmjlaaWWords
import Derived.Deep.Slices
import Derived.SizedLaws
import Derived.ChangeArms
namespace Go.Proofs.Ytmeaepmimnmjlaa.OpenUpto
open Go.RowKit Go.Proofs.YtmeaepmimnmjlaaW.PrintWords
set_option linter.unusedVariables false
set_option linter.unusedSimpArgs false

/-- what is read is of a bulk of at most 1048576 -/
def few {H : Type} (d : DataW H) : Prop := Rows.uptoBulk d ≤ 1048576
theorem one_le {H : Type} (d : DataW H) : 1 ≤ Rows.uptoBulk d := by
  cases d with
  | lit l => cases l <;> simp [Rows.uptoBulk]
  | nil => simp [Rows.uptoBulk]
  | ptr d => simp [Rows.uptoBulk]
  | slice elems spare => simp [Rows.uptoBulk]
  | agg parts => simp [Rows.uptoBulk]
  | iface t d => simp [Rows.uptoBulk]
  | map entries => simp [Rows.uptoBulk]
  | held h => simp [Rows.uptoBulk]
theorem part_le {H : Type} {d : DataW H} {l : List (DataW H)} (h : d ∈ l) : Rows.uptoBulk d ≤ Rows.uptoBulkAll l := by
  induction l with
  | nil => cases h
  | cons x r ih =>
    simp only [Rows.uptoBulkAll]
    cases List.mem_cons.1 h with
    | inl e => subst e; omega
    | inr e => have := ih e; omega
theorem length_le {H : Type} (l : List (DataW H)) : l.length ≤ Rows.uptoBulkAll l := by
  induction l with
  | nil => simp [Rows.uptoBulkAll]
  | cons x r ih => have := one_le x; simp only [Rows.uptoBulkAll, List.length_cons]; omega

/-- What reads as data of type t is a value of kind d of which Q holds. -/
def Opens {α : Type} (d : Kd α) (P : Program) (t : TypeId) (Q : α → Prop) : Prop :=
  ∀ (H : Type) (enc : TypeId × Value → H) (W : World) (fuel : Nat) (cs : List Value) (x : DataW H × List MemPlace), DataW.trod enc P W 0 (fun _ => true) true fuel t cs = some x → few x.1 → ∃ a, d.K W a cs ∧ Q a
/-- .. of a struct's fields from one on. -/
def OpensF {α : Type} (d : Kd α) (P : Program) (fs : List Field) (off : Nat) (Q : α → Prop) : Prop :=
  ∀ (H : Type) (enc : TypeId × Value → H) (W : World) (fuel : Nat) (cs : List Value) (xs : List (DataW H × List MemPlace)), cs.length = d.sz → xs.length = fs.length →
    (∀ (i : Nat) (f : Field), fs[i]? = some f → DataW.trod enc P W 0 (fun _ => true) true fuel f.type ((cs.drop (f.offset - off)).take (P.cellsOf f.type)) = xs[i]?) →
    (∀ (i : Nat) (f : Field), fs[i]? = some f → off ≤ f.offset) →
    Rows.uptoBulkAll (xs.map (·.1)) ≤ 1048576 → ∃ a, d.K W a cs ∧ Q a

theorem Opens.mono {α : Type} {d : Kd α} {P : Program} {t : TypeId} {Q Q' : α → Prop} (h : Opens d P t Q) (hq : ∀ a, Q a → Q' a) : Opens d P t Q' := fun H enc W fuel cs x h1 h2 =>
  let ⟨a, h3, h4⟩ := h H enc W fuel cs x h1 h2; ⟨a, h3, hq a h4⟩

theorem opens_int {P : Program} {t : TypeId} (k : IntKind) (ht : P.underlying t = some (.int k)) : Opens (Kd.int k) P t (fun n => (Lit.int k n).wf = true) := by
  intro H enc W fuel cs x h _
  cases fuel with
  | zero => simp [DataW.trod] at h
  | succ n =>
    unfold DataW.trod at h
    rw [ht] at h
    split at h <;> simp_all
    obtain ⟨⟨rfl, hw⟩, _⟩ := h
    exact ⟨_, rfl, hw⟩
theorem opens_bool {P : Program} {t : TypeId} (ht : P.underlying t = some .bool) : Opens Kd.bool P t (fun _ => True) := by
  intro H enc W fuel cs x h _
  cases fuel with
  | zero => simp [DataW.trod] at h
  | succ n =>
    unfold DataW.trod at h
    rw [ht] at h
    split at h <;> simp_all
    rename_i b
    cases b
    · exact .inl rfl
    · exact .inr rfl
theorem opens_string {P : Program} {t : TypeId} (ht : P.underlying t = some .string) : Opens Kd.string P t (fun s => s.size ≤ 1048576) := by
  intro H enc W fuel cs x h hs
  cases fuel with
  | zero => simp [DataW.trod] at h
  | succ n =>
    unfold DataW.trod at h
    rw [ht] at h
    split at h <;> simp_all
    obtain ⟨hm, rfl⟩ := h
    refine ⟨_, rfl, ?_⟩
    have h1 : Rows.uptoBulk (DataW.lit (H := H) (.string _)) ≤ 1048576 := hs
    simp only [Rows.uptoBulk] at h1
    simp at h1
    have : ∀ b : ByteArray, b.data.size = b.size := fun b => rfl
    omega

theorem opens_slice {α : Type} {d : Kd α} {P : Program} {t e : TypeId} {Q : α → Prop} (ht : P.underlying t = some (.slice e)) (hd : Opens d P e Q) (hc : P.cellsOf e = d.sz) [Inhabited α] :
    Opens (Kd.slice e d) P t (fun l => l.length ≤ 1048576 ∧ ∀ a ∈ l, Q a) := by
  intro H enc W fuel cs x h hs
  rcases Go.Deep.open_slice ht h with ⟨rfl, rfl⟩ | ⟨a, len, cap, m, n, D, Pl, rfl, hb, hl, hm, hmm, rfl, hx⟩
  · refine ⟨[], ⟨none, 0, rfl, Nat.le_refl _, rfl, by simp, fun h => absurd h (by simp)⟩, ?_⟩
    exact ⟨by simp, fun a ha => by cases ha⟩
  · rw [if_pos rfl] at hmm
    subst hmm
    have hw : Rows.uptoBulkAll ((List.range len).map D) + Rows.uptoBulkAll ((List.range (m - len)).map fun j => D (len + j)) + 1 ≤ 1048576 := by
      have h1 : Rows.uptoBulk (DataW.slice ((List.range len).map D) ((List.range (m - len)).map fun j => D (len + j))) ≤ 1048576 := hs
      simpa only [Rows.uptoBulk] using h1
    have hall : ∀ d ∈ (List.range len).map D, few d := fun d hd => by
      have := part_le hd
      unfold few
      omega
    have hlen : len ≤ 1048576 := by
      have := length_le ((List.range len).map D)
      simp only [List.length_map, List.length_range] at this
      omega
    obtain ⟨V, hV⟩ := Go.Deep.choose_lt (α := α) (n := len) (p := fun i v => Q v ∧ ∃ c, d.K W v c ∧ c.length = d.sz ∧ W.cells? 0 (a.add (i * P.cellsOf e)) (P.cellsOf e) = some c) (fun i hi => by
      obtain ⟨c, h1, h2⟩ := hx i (by omega)
      obtain ⟨v, h3, h4⟩ := hd H enc W n c _ h2 (hall _ (List.mem_map.2 ⟨i, List.mem_range.2 hi, rfl⟩))
      exact ⟨v, h4, c, h3, d.K_len h3, h1⟩)
    refine ⟨(List.range len).map V, ⟨some a, m, by simp, by simpa using hl, by simp, by simp; unfold maxLen at hm; omega, fun _ => ⟨a, rfl, ?_⟩⟩, ?_, ?_⟩
    · intro j p hj
      rw [List.getElem?_map] at hj
      obtain ⟨j', hj', rfl⟩ := Option.map_eq_some_iff.1 hj
      have hjl : j < len := by
        have := (List.getElem?_eq_some_iff.1 hj').1
        simpa using this
      have : j' = j := by
        rw [List.getElem?_range hjl] at hj'
        exact (Option.some.inj hj').symm
      subst this
      obtain ⟨_, c, hK, hcl, hcells⟩ := hV j' hjl
      refine ⟨c, hcl, hK, fun i u hu => ?_⟩
      obtain ⟨_, hlen, hg⟩ := World.cells?_some hcells
      have hil : i < c.length := (List.getElem?_eq_some_iff.1 hu).1
      have := hg i (by rw [hc, ← hcl]; exact hil)
      rw [hu, hc, Go.Deep.add_add] at this
      exact this
    · simp only [List.length_map, List.length_range]; exact hlen
    · intro b hb2
      obtain ⟨i, hi, rfl⟩ := List.mem_map.1 hb2
      exact (hV i (List.mem_range.1 hi)).1

theorem opensF_last {α : Type} {d : Kd α} {P : Program} {f : Field} {off : Nat} {Q : α → Prop} (hd : Opens d P f.type Q) (ho : f.offset = off) (hc : P.cellsOf f.type = d.sz) : OpensF d P [f] off Q := by
  intro H enc W fuel cs xs hl hx hr _ hs
  match xs, hx with
  | [y], _ =>
    have h0 := hr 0 f rfl
    rw [ho, Nat.sub_self, List.drop_zero, hc, ← hl, List.take_length] at h0
    have hs' : Rows.uptoBulk y.1 + 0 ≤ 1048576 := hs
    exact hd H enc W fuel cs y h0 hs'
theorem opensF_cons {α β : Type} {d : Kd α} {d2 : Kd β} {P : Program} {f : Field} {fs : List Field} {off : Nat} {Q : α → Prop} {Q2 : β → Prop} (hd : Opens d P f.type Q) (ho : f.offset = off) (hc : P.cellsOf f.type = d.sz)
    (hf : OpensF d2 P fs (off + d.sz) Q2) (hofs : ∀ g ∈ fs, off + d.sz ≤ g.offset) : OpensF (Kd.pair d d2) P (f :: fs) off (fun p => Q p.1 ∧ Q2 p.2) := by
  intro H enc W fuel cs xs hl hx hr hoff hs
  have hl' : cs.length = d.sz + d2.sz := hl
  match xs, hx with
  | y :: ys, hx =>
    have h0 := hr 0 f rfl
    rw [ho, Nat.sub_self, List.drop_zero, hc] at h0
    have hs' : Rows.uptoBulk y.1 + Rows.uptoBulkAll (ys.map (·.1)) ≤ 1048576 := hs
    have s1 : few y.1 := by unfold few; omega
    have s2 : Rows.uptoBulkAll (ys.map (·.1)) ≤ 1048576 := by omega
    obtain ⟨a, ha, qa⟩ := hd H enc W fuel _ y h0 s1
    obtain ⟨b, hb, qb⟩ := hf H enc W fuel (cs.drop d.sz) ys (by rw [List.length_drop]; omega) (by simpa using hx) (fun i g hg => by
      have hge : off + d.sz ≤ g.offset := hofs g (List.mem_of_getElem? hg)
      have := hr (i+1) g (by simpa using hg)
      rw [List.drop_drop, show d.sz + (g.offset - (off + d.sz)) = g.offset - off by omega]
      simpa using this) (fun i g hg => hofs g (List.mem_of_getElem? hg)) s2
    exact ⟨(a, b), ⟨cs.take d.sz, cs.drop d.sz, (List.take_append_drop _ _).symm, ha, hb⟩, qa, qb⟩
theorem opens_struct {α β : Type} {d : Kd α} {P : Program} {t : TypeId} {fs : Array Field} {Q : α → Prop} (g : α → β) (f : β → α) (hfg : ∀ a, f (g a) = a) (ht : P.underlying t = some (.struct fs)) (hc : P.cellsOf t = d.sz) (h : OpensF d P fs.toList 0 Q) :
    Opens (Kd.iso d f) P t (fun b => Q (f b)) := by
  intro H enc W fuel cs x hx hs
  obtain ⟨xs, n, rfl, rfl, hl, hxl, hr⟩ := DataW.trod_struct ht hx
  have hs' : Rows.uptoBulkAll (xs.map (·.1)) ≤ 1048576 := by
    have h1 : Rows.uptoBulk (DataW.agg (xs.map (·.1))) ≤ 1048576 := hs
    simp only [Rows.uptoBulk] at h1
    omega
  obtain ⟨a, ha, qa⟩ := h H enc W n cs xs (by rw [hl, hc]) (by rw [hxl]; simp) (fun i f hf => by rw [Nat.sub_zero]; exact hr i f (by simpa using hf)) (fun _ _ _ => Nat.zero_le _) hs'
  exact ⟨g a, by show d.K W (f (g a)) cs; rw [hfg]; exact ha, by show Q (f (g a)); rw [hfg]; exact qa⟩
/-- an argument -/
theorem opens_arg {α : Type} {d : Kd α} {P : Program} {t : TypeId} {Q : α → Prop} (h : Opens d P t Q) {H : Type} {enc : TypeId × Value → H} {W : World} {v : Value} {dd : DataW H} {ps : List MemPlace} {ds : List (DataW H)} {j : Nat}
    (hk : Rows.uptoSmall H ds = true) (hd : ds[j]? = some dd) (ht2 : DataW.Trod enc P W 0 (fun _ => true) true t v dd ps) : ∃ a, d.K W a v.cells.toList ∧ Q a := by
  obtain ⟨fuel, hf⟩ := ht2
  refine h H enc W fuel _ _ hf ?_
  have h1 : Rows.uptoBulkAll ds ≤ 1048576 := of_decide_eq_true hk
  have h2 := part_le (List.mem_of_getElem? hd)
  exact Nat.le_trans h2 h1
end Go.Proofs.Ytmeaepmimnmjlaa.OpenUpto
