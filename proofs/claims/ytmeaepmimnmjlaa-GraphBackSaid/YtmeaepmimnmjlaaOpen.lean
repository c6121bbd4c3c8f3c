/- How an argument that reads as data is opened into a kind's value: whole numbers, bools, texts, structs, slices, nested as deep as one likes. -/
import Derived.Test.YtmeaepmimnmjlaaProg
import Derived.Test.YtmeaepmimnmjlaaWWords
import Derived.Deep.Slices
import Derived.SizedLaws
import Derived.ChangeArms
namespace Go.Proofs.Ytmeaepmimnmjlaa.Open
open Go.RowKit Go.Proofs.YtmeaepmimnmjlaaW.PrintWords
set_option linter.unusedVariables false
set_option linter.unusedSimpArgs false

def small (l : List Nat) : Prop := l.all (· ≤ reachBytes) = true
theorem small_append {a b : List Nat} : small (a ++ b) ↔ small a ∧ small b := by unfold small; rw [List.all_append, Bool.and_eq_true]

/-- What reads as data of type t is a value of kind d of which Q holds. -/
def Opens {α : Type} (d : Kd α) (P : Program) (t : TypeId) (Q : α → Prop) : Prop :=
  ∀ (H : Type) (enc : TypeId × Value → H) (W : World) (fuel : Nat) (cs : List Value) (x : DataW H × List MemPlace), DataW.trod enc P W 0 (fun _ => true) true fuel t cs = some x → small (x.1.weights P t) → ∃ a, d.K W a cs ∧ Q a
/-- .. of a struct's fields from one on. -/
def OpensF {α : Type} (d : Kd α) (P : Program) (fs : List Field) (off : Nat) (Q : α → Prop) : Prop :=
  ∀ (H : Type) (enc : TypeId × Value → H) (W : World) (fuel : Nat) (cs : List Value) (xs : List (DataW H × List MemPlace)), cs.length = d.sz → xs.length = fs.length →
    (∀ (i : Nat) (f : Field), fs[i]? = some f → DataW.trod enc P W 0 (fun _ => true) true fuel f.type ((cs.drop (f.offset - off)).take (P.cellsOf f.type)) = xs[i]?) →
    (∀ (i : Nat) (f : Field), fs[i]? = some f → off ≤ f.offset) →
    small (DataW.weightsEach P (fs.map (·.type)) (xs.map (·.1))) → ∃ a, d.K W a cs ∧ Q a

theorem Opens.mono {α : Type} {d : Kd α} {P : Program} {t : TypeId} {Q Q' : α → Prop} (h : Opens d P t Q) (hq : ∀ a, Q a → Q' a) : Opens d P t Q' := fun H enc W fuel cs x h1 h2 =>
  let ⟨a, h3, h4⟩ := h H enc W fuel cs x h1 h2; ⟨a, h3, hq a h4⟩

theorem opens_int {P : Program} {t : TypeId} (k : IntKind) (ht : P.underlying t = some (.int k)) : Opens (Kd.int k) P t (fun n => (Lit.int k n).wf = true) := by
  intro H enc W fuel cs x h _
  cases fuel with
  | zero => simp [DataW.trod] at h
  | succ n =>
    unfold DataW.trod at h
    rw [ht] at h
    split at h <;> simp_all
    obtain ⟨⟨rfl, hw⟩, _⟩ := h
    exact ⟨_, rfl, hw⟩
theorem opens_bool {P : Program} {t : TypeId} (ht : P.underlying t = some .bool) : Opens Kd.bool P t (fun _ => True) := by
  intro H enc W fuel cs x h _
  cases fuel with
  | zero => simp [DataW.trod] at h
  | succ n =>
    unfold DataW.trod at h
    rw [ht] at h
    split at h <;> simp_all
    rename_i b
    cases b
    · exact .inl rfl
    · exact .inr rfl
theorem opens_string {P : Program} {t : TypeId} (ht : P.underlying t = some .string) : Opens Kd.string P t (fun s => s.size ≤ 140737488351232) := by
  intro H enc W fuel cs x h hs
  cases fuel with
  | zero => simp [DataW.trod] at h
  | succ n =>
    unfold DataW.trod at h
    rw [ht] at h
    split at h <;> simp_all
    obtain ⟨hm, rfl⟩ := h
    refine ⟨_, rfl, ?_⟩
    have := List.all_eq_true.1 hs _ (by simp [DataW.weights]; rfl)
    exact of_decide_eq_true this

theorem weightsAll_mem {H : Type} {P : Program} {e : TypeId} {l : List (DataW H)} (h : small (DataW.weightsAll P e l)) : ∀ d ∈ l, small (d.weights P e) := by
  induction l with
  | nil => intro d hd; cases hd
  | cons y r ih =>
    have h' : small (y.weights P e ++ DataW.weightsAll P e r) := h
    rw [small_append] at h'
    intro d hd
    rcases List.mem_cons.1 hd with rfl | hd
    · exact h'.1
    · exact ih h'.2 d hd

theorem opens_slice {α : Type} {d : Kd α} {P : Program} {t e : TypeId} {Q : α → Prop} {B : Nat} (ht : P.underlying t = some (.slice e)) (hd : Opens d P e Q) (hc : P.cellsOf e = d.sz) (hB : P.bytesOf e = B) [Inhabited α] :
    Opens (Kd.slice e d) P t (fun l => l.length ≤ maxLen ∧ l.length * B ≤ 140737488351232 ∧ ∀ a ∈ l, Q a) := by
  intro H enc W fuel cs x h hs
  rcases Go.Deep.open_slice ht h with ⟨rfl, rfl⟩ | ⟨a, len, cap, m, n, D, Pl, rfl, hb, hl, hm, hmm, rfl, hx⟩
  · refine ⟨[], ⟨none, 0, rfl, Nat.le_refl _, rfl, by simp, fun h => absurd h (by simp)⟩, ?_⟩
    exact ⟨by simp, by simp, fun a ha => by cases ha⟩
  · rw [if_pos rfl] at hmm
    subst hmm
    have hw : small ((((List.range len).map D).length + ((List.range (m - len)).map fun j => D (len + j)).length) * P.bytesOf e :: (DataW.weightsAll P e ((List.range len).map D) ++ DataW.weightsAll P e ((List.range (m - len)).map fun j => D (len + j)))) := by
      have hs' := hs
      simp only [DataW.weights, ht] at hs'
      exact hs'
    have hw2 : small ([(((List.range len).map D).length + ((List.range (m - len)).map fun j => D (len + j)).length) * P.bytesOf e] ++ (DataW.weightsAll P e ((List.range len).map D) ++ DataW.weightsAll P e ((List.range (m - len)).map fun j => D (len + j)))) := hw
    rw [small_append, small_append] at hw2
    obtain ⟨w1, w2, _⟩ := hw2
    have hall := weightsAll_mem w2
    obtain ⟨V, hV⟩ := Go.Deep.choose_lt (α := α) (n := len) (p := fun i v => Q v ∧ ∃ c, d.K W v c ∧ c.length = d.sz ∧ W.cells? 0 (a.add (i * P.cellsOf e)) (P.cellsOf e) = some c) (fun i hi => by
      obtain ⟨c, h1, h2⟩ := hx i (by omega)
      obtain ⟨v, h3, h4⟩ := hd H enc W n c _ h2 (hall _ (List.mem_map.2 ⟨i, List.mem_range.2 hi, rfl⟩))
      exact ⟨v, h4, c, h3, d.K_len h3, h1⟩)
    refine ⟨(List.range len).map V, ⟨some a, m, by simp, by simpa using hl, by simp, by simp; unfold maxLen at hm; omega, fun _ => ⟨a, rfl, ?_⟩⟩, ?_, ?_, ?_⟩
    · intro j p hj
      rw [List.getElem?_map] at hj
      obtain ⟨j', hj', rfl⟩ := Option.map_eq_some_iff.1 hj
      have hjl : j < len := by
        have := (List.getElem?_eq_some_iff.1 hj').1
        simpa using this
      have : j' = j := by
        rw [List.getElem?_range hjl] at hj'
        exact (Option.some.inj hj').symm
      subst this
      obtain ⟨_, c, hK, hcl, hcells⟩ := hV j' hjl
      refine ⟨c, hcl, hK, fun i u hu => ?_⟩
      obtain ⟨_, hlen, hg⟩ := World.cells?_some hcells
      have hil : i < c.length := (List.getElem?_eq_some_iff.1 hu).1
      have := hg i (by rw [hc, ← hcl]; exact hil)
      rw [hu, hc, Go.Deep.add_add] at this
      exact this
    · simp; omega
    · have h0 : (len + (m - len)) * P.bytesOf e ≤ reachBytes := by
        have := List.all_eq_true.1 w1 _ (List.mem_singleton.2 rfl)
        simpa using this
      rw [hB] at h0
      simp only [List.length_map, List.length_range]
      have h1 : len * B ≤ (len + (m - len)) * B := Nat.mul_le_mul_right _ (by omega)
      unfold reachBytes at h0
      omega
    · intro b hb2
      obtain ⟨i, hi, rfl⟩ := List.mem_map.1 hb2
      exact (hV i (List.mem_range.1 hi)).1

theorem opensF_last {α : Type} {d : Kd α} {P : Program} {f : Field} {off : Nat} {Q : α → Prop} (hd : Opens d P f.type Q) (ho : f.offset = off) (hc : P.cellsOf f.type = d.sz) : OpensF d P [f] off Q := by
  intro H enc W fuel cs xs hl hx hr _ hs
  match xs, hx with
  | [y], _ =>
    have h0 := hr 0 f rfl
    rw [ho, Nat.sub_self, List.drop_zero, hc, ← hl, List.take_length] at h0
    have hs' : small (y.1.weights P f.type ++ DataW.weightsEach P [] []) := hs
    exact hd H enc W fuel cs y h0 (small_append.1 hs').1
theorem opensF_cons {α β : Type} {d : Kd α} {d2 : Kd β} {P : Program} {f : Field} {fs : List Field} {off : Nat} {Q : α → Prop} {Q2 : β → Prop} (hd : Opens d P f.type Q) (ho : f.offset = off) (hc : P.cellsOf f.type = d.sz)
    (hf : OpensF d2 P fs (off + d.sz) Q2) (hofs : ∀ g ∈ fs, off + d.sz ≤ g.offset) : OpensF (Kd.pair d d2) P (f :: fs) off (fun p => Q p.1 ∧ Q2 p.2) := by
  intro H enc W fuel cs xs hl hx hr hoff hs
  have hl' : cs.length = d.sz + d2.sz := hl
  match xs, hx with
  | y :: ys, hx =>
    have h0 := hr 0 f rfl
    rw [ho, Nat.sub_self, List.drop_zero, hc] at h0
    have hs' : small (y.1.weights P f.type ++ DataW.weightsEach P (fs.map (·.type)) (ys.map (·.1))) := hs
    obtain ⟨s1, s2⟩ := small_append.1 hs'
    obtain ⟨a, ha, qa⟩ := hd H enc W fuel _ y h0 s1
    obtain ⟨b, hb, qb⟩ := hf H enc W fuel (cs.drop d.sz) ys (by rw [List.length_drop]; omega) (by simpa using hx) (fun i g hg => by
      have hge : off + d.sz ≤ g.offset := hofs g (List.mem_of_getElem? hg)
      have := hr (i+1) g (by simpa using hg)
      rw [List.drop_drop, show d.sz + (g.offset - (off + d.sz)) = g.offset - off by omega]
      simpa using this) (fun i g hg => hofs g (List.mem_of_getElem? hg)) s2
    exact ⟨(a, b), ⟨cs.take d.sz, cs.drop d.sz, (List.take_append_drop _ _).symm, ha, hb⟩, qa, qb⟩
theorem opens_struct {α β : Type} {d : Kd α} {P : Program} {t : TypeId} {fs : Array Field} {Q : α → Prop} (g : α → β) (f : β → α) (hfg : ∀ a, f (g a) = a) (ht : P.underlying t = some (.struct fs)) (hc : P.cellsOf t = d.sz) (h : OpensF d P fs.toList 0 Q) :
    Opens (Kd.iso d f) P t (fun b => Q (f b)) := by
  intro H enc W fuel cs x hx hs
  obtain ⟨xs, n, rfl, rfl, hl, hxl, hr⟩ := DataW.trod_struct ht hx
  have hs' : small (DataW.weightsEach P (fs.toList.map (·.type)) (xs.map (·.1))) := by
    have := hs
    simp only [DataW.weights, ht] at this
    exact this
  obtain ⟨a, ha, qa⟩ := h H enc W n cs xs (by rw [hl, hc]) (by rw [hxl]; simp) (fun i f hf => by rw [Nat.sub_zero]; exact hr i f (by simpa using hf)) (fun _ _ _ => Nat.zero_le _) hs'
  exact ⟨g a, by show d.K W (f (g a)) cs; rw [hfg]; exact ha, by show Q (f (g a)); rw [hfg]; exact qa⟩
/-- an argument -/
theorem opens_arg {α : Type} {d : Kd α} {P : Program} {t : TypeId} {Q : α → Prop} (h : Opens d P t Q) {H : Type} {enc : TypeId × Value → H} {W : World} {v : Value} {dd : DataW H} {ps : List MemPlace} {ts : List TypeId} {ds : List (DataW H)} {j : Nat}
    (hsz : (DataW.weightsEach P ts ds).all (· ≤ reachBytes) = true) (ht : ts[j]? = some t) (hd : ds[j]? = some dd) (ht2 : DataW.Trod enc P W 0 (fun _ => true) true t v dd ps) : ∃ a, d.K W a v.cells.toList ∧ Q a := by
  obtain ⟨fuel, hf⟩ := ht2
  refine h H enc W fuel _ _ hf ?_
  apply List.all_eq_true.2
  intro z hz
  exact List.all_eq_true.1 hsz z (DataW.weights_mem_each ht hd z hz)
end Go.Proofs.Ytmeaepmimnmjlaa.Open
