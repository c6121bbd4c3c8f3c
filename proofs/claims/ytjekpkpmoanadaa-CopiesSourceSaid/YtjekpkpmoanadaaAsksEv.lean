/- asks, as printed, says no where no operand is the register. -/
import Derived.Test.YtjekpkpmoanadaaSrc
import Derived.Test.YtjekpkpmoanadaaPCopx7
namespace Go.Proofs.Ytjekpkpmoanadaa.PCop
open Go.RowKit Go.Proofs.YtjekpkpmoanadaaW.PrintWords
set_option linter.unusedVariables false
set_option linter.unusedSimpArgs false
theorem wrap_succ {n : Nat} (h : n < 9223372036854775807) : wrap64 ((n : Int) + 1) = ((n + 1 : Nat) : Int) := by
  unfold wrap64
  omega
theorem rd49_mem {l : List S49} {n : Nat} (h : n < l.length) : rd_T49 l (n : Int) ∈ l := by
  unfold rd_T49
  rw [Int.toNat_natCast, List.getD_eq_getElem?_getD, List.getElem?_eq_getElem h]
  exact List.getElem_mem h
theorem rd65_mem {l : List S65} {n : Nat} (h : n < l.length) : rd_T65 l (n : Int) ∈ l := by
  unfold rd_T65
  rw [Int.toNat_natCast, List.getD_eq_getElem?_getD, List.getElem?_eq_getElem h]
  exact List.getElem_mem h
theorem not_reg {o : S49} {r : Int} (h : o ≠ ⟨0, r⟩) : (o.f0 == 0 && (o.f1 == r)) = false := by
  rw [Bool.and_eq_false_iff, beq_eq_false_iff_ne, beq_eq_false_iff_ne]
  rcases Classical.em (o.f0 = 0) with h0 | h0
  · exact .inr (fun h1 => h (by cases o; simp at h0 h1; rw [h0, h1]))
  · exact .inl h0
section
variable {r a0 a1 a2 a4 a5 a6 : Int} {l3 : List S49} {l7 : List S65}
theorem asks_l2 {K q : Nat} (hq : q < l7.length) (hs : (rd_T65 l7 (q : Int)).f2.length < 9223372036854775807) (hl7 : l7.length < 9223372036854775807) (hn : ∀ o ∈ (rd_T65 l7 (q : Int)).f2, o ≠ ⟨0, r⟩) (hK : ∀ k, K ≤ k → portagelaw22_asks.l1 k r ((q + 1 : Nat) : Int) a0 a1 a2 l3 a4 a5 a6 l7 = some false) :
    ∀ n p : Nat, p + n = (rd_T65 l7 (q : Int)).f2.length → ∀ k, K + n + 1 ≤ k → portagelaw22_asks.l2 k r (q : Int) (p : Int) a0 a1 a2 l3 a4 a5 a6 l7 = some false := by
  intro n
  induction n with
  | zero =>
    intro p hp k hk
    obtain ⟨k, rfl⟩ : ∃ k', k = k' + 1 := ⟨k - 1, by omega⟩
    unfold portagelaw22_asks.l2
    rw [if_pos (by omega), if_pos (by omega), if_neg (by omega), wrap_succ (by omega)]
    exact hK k (by omega)
  | succ n ih =>
    intro p hp k hk
    obtain ⟨k, rfl⟩ : ∃ k', k = k' + 1 := ⟨k - 1, by omega⟩
    unfold portagelaw22_asks.l2
    have hb := not_reg (hn _ (rd49_mem (show p < (rd_T65 l7 (q : Int)).f2.length by omega)))
    rw [if_pos (by omega), if_pos (by omega), if_pos (by omega), if_pos (by omega)]
    show (if ((rd_T49 (rd_T65 l7 (q : Int)).f2 (p : Int)).f0 == 0 && ((rd_T49 (rd_T65 l7 (q : Int)).f2 (p : Int)).f1 == r)) = true then some true else portagelaw22_asks.l2 k r (q : Int) (wrap64 ((p : Int) + 1)) a0 a1 a2 l3 a4 a5 a6 l7) = some false
    rw [hb, if_neg (by decide), wrap_succ (by omega)]
    exact ih (p + 1) (by omega) k (by omega)
theorem asks_l1 (hl7 : l7.length < 9223372036854775807) (hs : ∀ s ∈ l7, s.f2.length < 9223372036854775807) (hn : ∀ s ∈ l7, ∀ o ∈ s.f2, o ≠ ⟨0, r⟩) :
    ∀ n q : Nat, q + n = l7.length → ∃ K, ∀ k, K ≤ k → portagelaw22_asks.l1 k r (q : Int) a0 a1 a2 l3 a4 a5 a6 l7 = some false := by
  intro n
  induction n with
  | zero =>
    intro q hq
    refine ⟨1, fun k hk => ?_⟩
    obtain ⟨k, rfl⟩ : ∃ k', k = k' + 1 := ⟨k - 1, by omega⟩
    unfold portagelaw22_asks.l1
    rw [if_neg (by omega)]
  | succ n ih =>
    intro q hq
    obtain ⟨K, hK⟩ := ih (q + 1) (by omega)
    have hm := rd65_mem (show q < l7.length by omega)
    refine ⟨K + (rd_T65 l7 (q : Int)).f2.length + 2, fun k hk => ?_⟩
    obtain ⟨k, rfl⟩ : ∃ k', k = k' + 1 := ⟨k - 1, by omega⟩
    unfold portagelaw22_asks.l1
    rw [if_pos (by omega)]
    exact asks_l2 (by omega) (hs _ hm) hl7 (hn _ hm) hK (rd_T65 l7 (q : Int)).f2.length 0 (by omega) k (by omega)
theorem asks_l0 (hl3 : l3.length < 9223372036854775807) (hl7 : l7.length < 9223372036854775807) (hs : ∀ s ∈ l7, s.f2.length < 9223372036854775807) (hn3 : ∀ o ∈ l3, o ≠ ⟨0, r⟩) (hn : ∀ s ∈ l7, ∀ o ∈ s.f2, o ≠ ⟨0, r⟩) :
    ∀ n p : Nat, p + n = l3.length → ∃ K, ∀ k, K ≤ k → portagelaw22_asks.l0 k r (p : Int) a0 a1 a2 l3 a4 a5 a6 l7 = some false := by
  intro n
  induction n with
  | zero =>
    intro p hp
    obtain ⟨K, hK⟩ := asks_l1 (r := r) (a0 := a0) (a1 := a1) (a2 := a2) (a4 := a4) (a5 := a5) (a6 := a6) (l3 := l3) hl7 hs hn l7.length 0 (by omega)
    refine ⟨K + 1, fun k hk => ?_⟩
    obtain ⟨k, rfl⟩ : ∃ k', k = k' + 1 := ⟨k - 1, by omega⟩
    unfold portagelaw22_asks.l0
    rw [if_neg (by omega)]
    exact hK k (by omega)
  | succ n ih =>
    intro p hp
    obtain ⟨K, hK⟩ := ih (p + 1) (by omega)
    refine ⟨K + 1, fun k hk => ?_⟩
    obtain ⟨k, rfl⟩ : ∃ k', k = k' + 1 := ⟨k - 1, by omega⟩
    unfold portagelaw22_asks.l0
    have hb := not_reg (hn3 _ (rd49_mem (show p < l3.length by omega)))
    rw [if_pos (by omega), if_pos (by omega)]
    show (if ((rd_T49 l3 (p : Int)).f0 == 0 && ((rd_T49 l3 (p : Int)).f1 == r)) = true then some true else portagelaw22_asks.l0 k r (wrap64 ((p : Int) + 1)) a0 a1 a2 l3 a4 a5 a6 l7) = some false
    rw [hb, if_neg (by decide), wrap_succ (by omega)]
    exact hK k (by omega)
end
theorem asks_no (y : S47) (r : Int) (hy : OkX y) (h : ¬ Asks y r) (A : Option Addr) (c : Nat) (E : Option Addr) (e : Nat) (w : World) (hA : k49.C w A y.f3.length y.f3) (hc : y.f3.length ≤ c) (hE : k65.C w E y.f7.length y.f7) (he : y.f7.length ≤ e) :
    Calls Try.prog 17 #[.agg #[.int .i64 y.f0, .int .i64 y.f1, .int .i64 y.f2, .slice A y.f3.length c, .int .i64 y.f4, .int .i64 y.f5, .int .i64 y.f6, .slice E y.f7.length e], .int .i64 r] w fun e w' => e = .returned (.bool false) ∧ Below w.heap.size w w' := by
  obtain ⟨K, hK⟩ := asks_l0 (r := r) (a0 := y.f0) (a1 := y.f1) (a2 := y.f2) (a4 := y.f4) (a5 := y.f5) (a6 := y.f6) (l3 := y.f3) (l7 := y.f7) (by have := hy.args; omega) (by have := hy.exit; omega) (fun s hs => by have := hy.slots s hs; omega) (fun o ho he => h (.inl (he ▸ ho))) (fun s hs o ho he => h (.inr ⟨s, hs, he ▸ ho⟩)) y.f3.length 0 (by omega)
  exact portagelaw22_asks.calls K y.f0 y.f1 y.f2 A c y.f3 y.f4 y.f5 y.f6 E e y.f7 r false w hA hc hE he (hK K (Nat.le_refl _))
end Go.Proofs.Ytjekpkpmoanadaa.PCop
