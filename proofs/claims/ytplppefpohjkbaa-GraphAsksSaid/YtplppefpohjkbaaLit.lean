/- Rows and boxes that a call makes, as facts that later steps leave: what a literal reads as. -/
import Derived.Test.YtplppefpohjkbaaWWords
import Derived.Test.YtplppefpohjkbaaRegInv
namespace Go.Proofs.Ytplppefpohjkbaa.Lit
open Go.RowKit Go.Proofs.YtplppefpohjkbaaW.PrintWords
set_option linter.unusedVariables false
theorem lit_C {α : Type} (d : Kd α) (W : World) (e : TypeId) (xs : List α) (cs : List Value) (h : Reps (d.K W) d.sz xs cs) (hl : xs.length ≤ 9223372036854775807) : d.C (W.alloc (.cells cs.toArray e)) (some ⟨W.heap.size, 0, none⟩) xs.length xs := by
  refine ⟨rfl, hl, fun _ => ⟨_, rfl, fun j p hj => ?_⟩⟩
  obtain ⟨h1, h2⟩ := h
  have hjl : j < xs.length := (List.getElem?_eq_some_iff.1 hj).1
  have hle : j * d.sz + d.sz ≤ cs.length := by
    rw [h1]
    calc j * d.sz + d.sz = (j + 1) * d.sz := by rw [Nat.add_mul, Nat.one_mul]
      _ ≤ xs.length * d.sz := Nat.mul_le_mul_right _ hjl
  refine ⟨(cs.drop (j * d.sz)).take d.sz, ?_, d.K_below ((Below.refl _ _).alloc (Nat.le_refl _) _) (h2 j p hj), fun i u hu => ?_⟩
  · rw [List.length_take, List.length_drop]; omega
  · have hi : i < d.sz := by
      have := (List.getElem?_eq_some_iff.1 hu).1
      rw [List.length_take] at this; omega
    rw [List.getElem?_take_of_lt hi, List.getElem?_drop] at hu
    rw [add_plain]
    unfold World.cell? World.alloc
    simp [hu]
theorem reps1 {α : Type} {R : α → List Value → Prop} {sz : Nat} {x : α} {c : List Value} (h : R x c) (hc : c.length = sz) : Reps R sz [x] c := by
  have := (Reps.none R sz).snoc h hc
  simpa using this
theorem reps2 {α : Type} {R : α → List Value → Prop} {sz : Nat} {x y : α} {c c' : List Value} (h : R x c) (hc : c.length = sz) (h' : R y c') (hc' : c'.length = sz) : Reps R sz [x, y] (c ++ c') := by
  have := ((Reps.none R sz).snoc h hc).snoc h' hc'
  simpa using this

def Sl {α : Type} (d : Kd α) (xs : List α) (w : World) (v : Value) : Prop := ∃ A c, v = .slice A xs.length c ∧ xs.length ≤ c ∧ d.C w A xs.length xs
theorem Sl.below {α : Type} {d : Kd α} {xs : List α} {w w1 : World} {v : Value} (h : Sl d xs w v) (hb : Below w.heap.size w w1) : Sl d xs w1 v := let ⟨A, c, h1, h2, h3⟩ := h; ⟨A, c, h1, h2, Kd.C_below h3 hb⟩
theorem gdq (x : Array Value) (t : Nat) (v : Value) (h : x.getD t undef = v) : x[t]?.getD undef = v := by rw [← h, Array.getD_eq_getD_getElem?]
theorem reps4 {α : Type} {R : α → List Value → Prop} {sz : Nat} {x y z u : α} {c d e f : List Value} (h : R x c) (hc : c.length = sz) (h' : R y d) (hc' : d.length = sz) (h2 : R z e) (hc2 : e.length = sz) (h3 : R u f) (hc3 : f.length = sz) : Reps R sz [x, y, z, u] (c ++ d ++ e ++ f) := by
  have := ((((Reps.none R sz).snoc h hc).snoc h' hc').snoc h2 hc2).snoc h3 hc3
  simpa using this
theorem nil_C {α : Type} {d : Kd α} (w : World) : d.C w none 0 [] := ⟨rfl, by decide, fun h => absurd h (by decide)⟩
theorem e4 (W : World) (o o' : Obj) : Below W.heap.size W ((W.alloc o).alloc o') := below_alloc (below_alloc (Below.refl _ _) o) o'
theorem wB {a b c : World} (h : Below a.heap.size a b) (k : Below b.heap.size b c) : Below a.heap.size a c := below_then h h.size k
end Go.Proofs.Ytplppefpohjkbaa.Lit
