/- inline.Fits and the document's Fits, as printed, are the same plain function. -/
import Derived.Test.YtdjpamgjmpibnaaPFitx6
import Derived.Test.YtdjpamgjmpibnaaPFitx8
namespace Go.Proofs.Ytdjpamgjmpibnaa.PFit
open Go.RowKit Go.Proofs.YtdjpamgjmpibnaaW.PrintWords
set_option linter.unusedVariables false
set_option linter.unusedSimpArgs false
def appB (o : Int) : Bool := decide ((12 ≤ o ∧ o ≤ 39) ∨ (46 ≤ o ∧ o ≤ 57) ∨ o = 62 ∨ o = 65 ∨ o = 66)
def opB (o : Int) : Bool := decide ((0 ≤ o ∧ o ≤ 11) ∨ appB o = true ∨ o = 58 ∨ o = 59)
theorem wrapS {n : Nat} (h : n < 9223372036854775807) : wrap64 ((n : Int) + 1) = ((n + 1 : Nat) : Int) := by unfold wrap64; omega
theorem ops_app (o : Int) (k : Nat) (hk : 2 ≤ k) : ops_Applies.f k o = some (appB o) := by
  obtain ⟨k, rfl⟩ : ∃ k', k = k' + 2 := ⟨k - 2, by omega⟩
  unfold ops_Applies.f
  simp only [ops_Applies.j0, ops_Applies.j1, appB, decide_eq_true_eq, Bool.false_eq_true, if_false]
  (repeat' split) <;> (congr 1; symm; first | (rw [decide_eq_true_eq]; omega) | (rw [decide_eq_false_iff_not]; omega))
theorem ite_cut {α : Sort _} {c : Prop} [Decidable c] {a b x : α} (h1 : c → a = x) (h2 : ¬ c → b = x) : (if c then a else b) = x := by
  by_cases h : c
  · rw [if_pos h]; exact h1 h
  · rw [if_neg h]; exact h2 h
theorem ref_app (o : Int) : portageref13_Applies.f o = some (appB o) := by
  unfold portageref13_Applies.f appB
  repeat' (refine ite_cut (fun h => ?_) (fun h => ?_))
  all_goals (congr 1; symm; first | (rw [decide_eq_true_eq]; omega) | (rw [decide_eq_false_iff_not]; omega) | (rw [decide_eq_decide]; omega))
theorem rd64_at {l : List S64} {p : Nat} (h : p < l.length) : rd_T64 l (p : Int) = l[p] := by
  unfold rd_T64
  rw [Int.toNat_natCast, List.getD_eq_getElem?_getD, List.getElem?_eq_getElem h]; rfl
def okB (xs : List S64) : Bool := xs.all (fun x => opB x.f0)
theorem okB_drop {xs : List S64} {p : Nat} (h : p < xs.length) : okB (xs.drop p) = (opB xs[p].f0 && okB (xs.drop (p + 1))) := by
  rw [List.drop_eq_getElem_cons h]; rfl
theorem in_l0 (xs : List S64) (hl : xs.length < 1048577) : ∀ (n p : Nat), p + n = xs.length → ∀ k, 2 * n + 4 ≤ k → inline_Fits.l0 k xs (xs.length : Int) (p : Int) = some (okB (xs.drop p)) := by
  intro n
  induction n with
  | zero =>
    intro p hp k hk
    obtain ⟨k, rfl⟩ : ∃ k', k = k' + 1 := ⟨k - 1, by omega⟩
    unfold inline_Fits.l0
    rw [if_neg (by omega), List.drop_eq_nil_of_le (by omega)]; rfl
  | succ n ih =>
    intro p hp k hk
    obtain ⟨k, rfl⟩ : ∃ k', k = k' + 2 := ⟨k - 2, by omega⟩
    have hlt : p < xs.length := by omega
    have go := ih (p + 1) (by omega) k (by omega)
    unfold inline_Fits.l0
    rw [if_pos (by omega), if_pos (by omega), if_pos (by omega), rd64_at hlt, okB_drop hlt]
    generalize xs[p] = x
    obtain ⟨o, i⟩ := x
    simp only [inline_Fits.j3]
    rw [wrapS (by omega), go, ops_app o k (by omega), Option.bind_some]
    generalize okB (xs.drop (p + 1)) = y
    have e : ∀ (b : Bool), b = true → opB o = true → (some y : Option Bool) = some (opB o && y) := by intro b _ h; rw [h, Bool.true_and]
    by_cases h0 : opB o = true
    · rw [h0, Bool.true_and]
      by_cases h1 : appB o = true
      · simp only [h1, if_true, ite_self]
      · have h2 : (0 ≤ o ∧ o ≤ 11) ∨ o = 58 ∨ o = 59 := by
          have := h0; unfold opB at this; rw [decide_eq_true_eq] at this
          rcases this with h | h | h | h
          · exact .inl h
          · exact absurd h h1
          · exact .inr (.inl h)
          · exact .inr (.inr h)
        have h3 : o = 0 ∨ o = 1 ∨ o = 2 ∨ o = 3 ∨ o = 4 ∨ o = 5 ∨ o = 6 ∨ o = 7 ∨ o = 8 ∨ o = 9 ∨ o = 10 ∨ o = 11 ∨ o = 58 ∨ o = 59 := by omega
        rcases h3 with rfl | rfl | rfl | rfl | rfl | rfl | rfl | rfl | rfl | rfl | rfl | rfl | rfl | rfl <;> simp
    · have h1 : ¬ appB o = true := by intro h; apply h0; unfold opB; rw [decide_eq_true_eq]; exact .inr (.inl h)
      have h4 : ¬ ((0 ≤ o ∧ o ≤ 11) ∨ o = 58 ∨ o = 59) := by
        intro h; apply h0; unfold opB; rw [decide_eq_true_eq]; omega
      rw [Bool.not_eq_true] at h0 h1
      rw [h0, h1, Bool.false_and]
      have n0 : ¬ o = 0 := by omega
      have n1 : ¬ o = 1 := by omega
      have n2 : ¬ o = 2 := by omega
      have n3 : ¬ o = 3 := by omega
      have n4 : ¬ o = 4 := by omega
      have n5 : ¬ o = 5 := by omega
      have n6 : ¬ o = 6 := by omega
      have n7 : ¬ o = 7 := by omega
      have n8 : ¬ o = 8 := by omega
      have n9 : ¬ o = 9 := by omega
      have n10 : ¬ o = 10 := by omega
      have n11 : ¬ o = 11 := by omega
      have n58 : ¬ o = 58 := by omega
      have n59 : ¬ o = 59 := by omega
      simp only [n0, n1, n2, n3, n4, n5, n6, n7, n8, n9, n10, n11, n58, n59, if_false, beq_iff_eq, Bool.false_eq_true]
theorem ref_l0 (xs : List S64) (hl : xs.length < 1048577) (g0 : ByteArray) (g1 g2 : Int) (g4 : List S75) : ∀ (n p : Nat), p + n + 1 = xs.length → ∀ k, n + 1 ≤ k → portageref20_Fits.l0 k (xs.length : Int) (p : Int) g0 g1 g2 xs g4 = some (okB ((xs.take (xs.length - 1)).drop p)) := by
  intro n
  induction n with
  | zero =>
    intro p hp k hk
    obtain ⟨k, rfl⟩ : ∃ k', k = k' + 1 := ⟨k - 1, by omega⟩
    have ew : wrap64 ((xs.length : Int) - 1) = (xs.length : Int) - 1 := by unfold wrap64; omega
    unfold portageref20_Fits.l0
    rw [ew, if_neg (by omega), List.drop_eq_nil_of_le (by rw [List.length_take]; omega)]; rfl
  | succ n ih =>
    intro p hp k hk
    obtain ⟨k, rfl⟩ : ∃ k', k = k' + 1 := ⟨k - 1, by omega⟩
    have hlt : p < xs.length := by omega
    have ew : wrap64 ((xs.length : Int) - 1) = (xs.length : Int) - 1 := by unfold wrap64; omega
    have go := ih (p + 1) (by omega) k (by omega)
    have hlt2 : p < (xs.take (xs.length - 1)).length := by rw [List.length_take]; omega
    unfold portageref20_Fits.l0
    rw [ew, if_pos (by omega), if_pos (by omega), if_pos (by omega), rd64_at hlt, okB_drop hlt2, List.getElem_take, wrapS (by omega), go]
    generalize okB ((xs.take (xs.length - 1)).drop (p + 1)) = y
    generalize xs[p] = x
    obtain ⟨o, i⟩ := x
    rw [ref_app, Option.bind_some]
    by_cases h0 : opB o = true
    · have h2 := h0
      unfold opB at h2; rw [decide_eq_true_eq] at h2
      rw [h0, Bool.true_and]
      (repeat' split) <;> first | rfl | (exfalso; simp_all; done) | (exfalso; simp_all; omega)
    · have h2 := h0
      unfold opB at h2; rw [decide_eq_true_eq] at h2
      rw [Bool.not_eq_true] at h0
      rw [h0, Bool.false_and]
      (repeat' split) <;> first | rfl | (exfalso; simp_all; done) | (exfalso; simp_all; omega)
/-- the answer, plainly -/
def fitsB (f : List S60) (a1 : Int) : Bool :=
  decide (0 ≤ a1 ∧ a1 < (f.length : Int)) && (decide (1 ≤ (rd_T60 f a1).f3.length ∧ (rd_T60 f a1).f3.length ≤ 24 ∧ (rd_T60 f a1).f4.length = 0) && (decide ((rd_T64 (rd_T60 f a1).f3 (((rd_T60 f a1).f3.length : Int) - 1)).f0 = 44) && okB ((rd_T60 f a1).f3.take ((rd_T60 f a1).f3.length - 1))))
theorem in_fits (c : List S56) (f : List S60) (a1 : Int) (hf : ∀ x ∈ f, x.f3.length  ≤ 1048576) {k : Nat} (hk : k = 62) : inline_Fits.f (k + 1 + 1) c f a1 = some (fitsB f a1) := by
  unfold inline_Fits.f fitsB
  by_cases h0 : a1 < 0
  · rw [if_pos h0, decide_eq_false (by omega), Bool.false_and]; rfl
  · rw [if_neg h0]
    by_cases h1 : a1 ≥ (f.length : Int)
    · rw [decide_eq_true h1, decide_eq_false (p := _ ∧ _) (by omega), Bool.false_and]; rfl
    · rw [decide_eq_false h1, decide_eq_true (p := _ ∧ _) (by omega), Bool.true_and]
      have hx : (rd_T60 f a1).f3.length ≤ 1048576 := by
        have e : rd_T60 f a1 = f[a1.toNat]'(by omega) := by
          unfold rd_T60
          rw [List.getD_eq_getElem?_getD, List.getElem?_eq_getElem (by omega)]; rfl
        rw [e]; exact hf _ (List.getElem_mem _)
      rw [inline_Fits.j0]
      rw [if_neg (by simp), if_pos (by omega), if_pos (by omega)]
      generalize rd_T60 f a1 = x at hx ⊢
      obtain ⟨x0, x1, x2, x3, x4⟩ := x
      simp only at hx ⊢
      have ew : wrap64 ((x3.length : Int) - 1) = (x3.length : Int) - 1 := by unfold wrap64; omega
      rw [ew]
      by_cases g0 : x3.length = 0
      · rw [if_pos (by omega), decide_eq_false (p := _ ∧ _) (by omega), Bool.false_and]; rfl
      · rw [if_neg (by omega)]
        by_cases g1 : 24 < x3.length
        · rw [if_pos (by omega), decide_eq_false (p := _ ∧ _) (by omega), Bool.false_and]; rfl
        · rw [if_neg (by omega)]
          by_cases g2 : 0 < x4.length
          · rw [if_pos (by omega), decide_eq_false (p := _ ∧ _) (by omega), Bool.false_and]; rfl
          · rw [if_neg (by omega), if_pos (by omega), if_pos (by omega), decide_eq_true (p := _ ∧ _) (by omega), Bool.true_and]
            rw [inline_Fits.j1]
            by_cases g3 : (rd_T64 x3 ((x3.length : Int) - 1)).f0 = 44
            · rw [if_neg (by simp [g3]), if_pos (by omega), if_pos (by omega), Option.bind_some, decide_eq_true g3, Bool.true_and]
              have et : ((x3.length : Int) - 1).toNat = x3.length - 1 := by omega
              rw [et]
              exact in_l0 _ (by rw [List.length_take]; omega) (x3.take (x3.length - 1)).length 0 (by omega) k (by rw [List.length_take]; omega)
            · rw [if_pos (by simp [g3]), decide_eq_false g3, Bool.false_and]
theorem ref_fits (c : List S56) (f : List S60) (a1 : Int) (hf : ∀ x ∈ f, x.f3.length  ≤ 1048576) {k : Nat} (hk : k = 62) : portageref20_Fits.f (k + 1 + 1) c f a1 = some (fitsB f a1) := by
  unfold portageref20_Fits.f fitsB
  by_cases h0 : a1 < 0
  · rw [if_pos h0, decide_eq_false (by omega), Bool.false_and]; rfl
  · rw [if_neg h0]
    by_cases h1 : a1 ≥ (f.length : Int)
    · rw [decide_eq_true h1, decide_eq_false (p := _ ∧ _) (by omega), Bool.false_and]; rfl
    · rw [decide_eq_false h1, decide_eq_true (p := _ ∧ _) (by omega), Bool.true_and]
      have hx : (rd_T60 f a1).f3.length ≤ 1048576 := by
        have e : rd_T60 f a1 = f[a1.toNat]'(by omega) := by
          unfold rd_T60
          rw [List.getD_eq_getElem?_getD, List.getElem?_eq_getElem (by omega)]; rfl
        rw [e]; exact hf _ (List.getElem_mem _)
      rw [portageref20_Fits.j0]
      rw [if_neg (by simp), if_pos (by omega), if_pos (by omega)]
      generalize rd_T60 f a1 = x at hx ⊢
      obtain ⟨x0, x1, x2, x3, x4⟩ := x
      simp only at hx ⊢
      have ew : wrap64 ((x3.length : Int) - 1) = (x3.length : Int) - 1 := by unfold wrap64; omega
      rw [ew]
      by_cases g0 : x3.length = 0
      · rw [if_pos (by omega), decide_eq_false (p := _ ∧ _) (by omega), Bool.false_and]; rfl
      · rw [if_neg (by omega)]
        by_cases g1 : 24 < x3.length
        · rw [if_pos (by omega), decide_eq_false (p := _ ∧ _) (by omega), Bool.false_and]; rfl
        · rw [if_neg (by omega)]
          by_cases g2 : 0 < x4.length
          · rw [if_pos (by omega), decide_eq_false (p := _ ∧ _) (by omega), Bool.false_and]; rfl
          · rw [if_neg (by omega), if_pos (by omega), if_pos (by omega), decide_eq_true (p := _ ∧ _) (by omega), Bool.true_and]
            rw [portageref20_Fits.j1]
            by_cases g3 : (rd_T64 x3 ((x3.length : Int) - 1)).f0 = 44
            · rw [if_neg (by simp [g3]), decide_eq_true g3, Bool.true_and]
              exact ref_l0 x3 (by omega) x0 x1 x2 x4 (x3.length - 1) 0 (by omega) k (by omega)
            · rw [if_pos (by simp [g3]), decide_eq_false g3, Bool.false_and]
end Go.Proofs.Ytdjpamgjmpibnaa.PFit
