/- LentProgram, as printed, says the full lists. -/
import Derived.Test.YtdjpamgjmpibnaaPFitx4
import Derived.Test.YtdjpamgjmpibnaaLentDefs
namespace Go.Proofs.Ytdjpamgjmpibnaa.PFit
open Go.RowKit Go.Proofs.YtdjpamgjmpibnaaW.PrintWords
set_option linter.unusedVariables false
set_option linter.unusedSimpArgs false
/-! fullInstrs, fullHandlers -/
theorem fi_l1 : ∀ (n p : Nat) (acc : List S64), p + n = 64 → acc.length + n < 8796093022208 → ∀ k, n + 1 ≤ k → portagekit_fullInstrs.l1 k acc (p : Int) = some (acc ++ (List.range' p n).map markI) := by
  intro n
  induction n with
  | zero =>
    intro p acc hp ha k hk
    obtain ⟨k, rfl⟩ : ∃ k', k = k' + 1 := ⟨k - 1, by omega⟩
    unfold portagekit_fullInstrs.l1
    rw [if_neg (by omega)]; simp
  | succ n ih =>
    intro p acc hp ha k hk
    obtain ⟨k, rfl⟩ : ∃ k', k = k' + 1 := ⟨k - 1, by omega⟩
    unfold portagekit_fullInstrs.l1
    rw [if_pos (by omega), if_pos (by omega), wrapN (by omega), ih (p + 1) _ (by omega) (by simp; omega) k (by omega), range_cons, List.map_cons, List.append_assoc]
    rfl
theorem fi_l0 {l : List S64} (hl : l.length ≤ 1048576) : ∀ (n p : Nat), p + n = l.length → ∀ k, n + 66 ≤ k → portagekit_fullInstrs.l0 k l (l.take p) (p : Int) = some (fullI l) := by
  intro n
  induction n with
  | zero =>
    intro p hp k hk
    obtain ⟨k, rfl⟩ : ∃ k', k = k' + 1 := ⟨k - 1, by omega⟩
    unfold portagekit_fullInstrs.l0
    rw [if_neg (by omega), List.take_of_length_le (by omega)]
    exact fi_l1 64 0 l (by omega) (by omega) k (by omega)
  | succ n ih =>
    intro p hp k hk
    obtain ⟨k, rfl⟩ : ∃ k', k = k' + 1 := ⟨k - 1, by omega⟩
    have hlt : p < l.length := by omega
    have e : l.take p ++ [(⟨(rd_T64 l (p : Int)).f0, (rd_T64 l (p : Int)).f1⟩ : S64)] = l.take (p + 1) := by
      rw [List.take_succ_eq_append_getElem hlt]
      have : rd_T64 l (p : Int) = l[p] := by unfold rd_T64; rw [Int.toNat_natCast, List.getD_eq_getElem?_getD, List.getElem?_eq_getElem hlt]; rfl
      rw [this]
    unfold portagekit_fullInstrs.l0
    rw [if_pos (by omega), if_pos (by omega), if_pos (by rw [List.length_take]; omega), wrapN (by omega), e]
    exact ih (p + 1) (by omega) k (by omega)
theorem fi_f {l : List S64} (hl : l.length ≤ 1048576) {k : Nat} (hk : 1048642 ≤ k) : portagekit_fullInstrs.f k l = some (fullI l) := fi_l0 hl l.length 0 (by omega) k (by omega)
theorem fh_l1 : ∀ (n p : Nat) (acc : List S75), p + n = 64 → acc.length + n < 4398046511104 → ∀ k, n + 1 ≤ k → portagekit_fullHandlers.l1 k acc (p : Int) = some (acc ++ (List.range' p n).map markH) := by
  intro n
  induction n with
  | zero =>
    intro p acc hp ha k hk
    obtain ⟨k, rfl⟩ : ∃ k', k = k' + 1 := ⟨k - 1, by omega⟩
    unfold portagekit_fullHandlers.l1
    rw [if_neg (by omega)]; simp
  | succ n ih =>
    intro p acc hp ha k hk
    obtain ⟨k, rfl⟩ : ∃ k', k = k' + 1 := ⟨k - 1, by omega⟩
    unfold portagekit_fullHandlers.l1
    rw [if_pos (by omega), if_pos (by omega), wrapN (by omega), ih (p + 1) _ (by omega) (by simp; omega) k (by omega), range_cons, List.map_cons, List.append_assoc]
    rfl
theorem fh_l0 {l : List S75} (hl : l.length ≤ 1048576) : ∀ (n p : Nat), p + n = l.length → ∀ k, n + 66 ≤ k → portagekit_fullHandlers.l0 k l (l.take p) (p : Int) = some (fullH l) := by
  intro n
  induction n with
  | zero =>
    intro p hp k hk
    obtain ⟨k, rfl⟩ : ∃ k', k = k' + 1 := ⟨k - 1, by omega⟩
    unfold portagekit_fullHandlers.l0
    rw [if_neg (by omega), List.take_of_length_le (by omega)]
    exact fh_l1 64 0 l (by omega) (by omega) k (by omega)
  | succ n ih =>
    intro p hp k hk
    obtain ⟨k, rfl⟩ : ∃ k', k = k' + 1 := ⟨k - 1, by omega⟩
    have hlt : p < l.length := by omega
    have e : l.take p ++ [(⟨(rd_T75 l (p : Int)).f0, (rd_T75 l (p : Int)).f1, (rd_T75 l (p : Int)).f2, (rd_T75 l (p : Int)).f3⟩ : S75)] = l.take (p + 1) := by
      rw [List.take_succ_eq_append_getElem hlt]
      have : rd_T75 l (p : Int) = l[p] := by unfold rd_T75; rw [Int.toNat_natCast, List.getD_eq_getElem?_getD, List.getElem?_eq_getElem hlt]; rfl
      rw [this]
    unfold portagekit_fullHandlers.l0
    rw [if_pos (by omega), if_pos (by omega), if_pos (by rw [List.length_take]; omega), wrapN (by omega), e]
    exact ih (p + 1) (by omega) k (by omega)
theorem fh_f {l : List S75} (hl : l.length ≤ 1048576) {k : Nat} (hk : 1048642 ≤ k) : portagekit_fullHandlers.f k l = some (fullH l) := fh_l0 hl l.length 0 (by omega) k (by omega)
/-! LentProgram -/
section
variable {c : List S56} {f : List S60} {a1 : List S56}
theorem set_same {l : List S60} {p : Nat} {x : S60} (h : l[p]? = some x) : l.set p x = l := by
  apply List.ext_getElem?
  intro i
  by_cases hi : i = p
  · subst hi
    rw [List.getElem?_set_self (List.getElem?_eq_some_iff.1 h).1, h]
  · rw [List.getElem?_set_ne (fun e => hi e.symm)]
theorem lp_l5 (hs : SmallF f) (hc : c.length ≤ a1.length) : ∀ (n p : Nat), p + n = f.length → ∀ k, n + 1 ≤ k → portagekit_LentProgram.l5 k (f.length : Int) (p : Int) c f a1 (fullP f) = some (a1, fullP f) := by
  intro n
  induction n with
  | zero =>
    intro p hp k hk
    obtain ⟨k, rfl⟩ : ∃ k', k = k' + 1 := ⟨k - 1, by omega⟩
    have hl := fullP_len f
    unfold portagekit_LentProgram.l5
    rw [if_neg (by omega), if_pos (by omega), if_pos (by omega), if_pos (by omega), if_pos (by omega)]
  | succ n ih =>
    intro p hp k hk
    obtain ⟨k, rfl⟩ : ∃ k', k = k' + 1 := ⟨k - 1, by omega⟩
    have hlt : p < f.length := by omega
    have hl := fullP_len f
    have hsl := hs.len
    have ew : wrap64 ((f.length : Int) + (p : Int)) = ((f.length + p : Nat) : Int) := by unfold wrap64; omega
    have r1 : rd_T60 (fullP f) ((f.length + p : Nat) : Int) = fullF f p := by
      rw [rd60_getD, List.getD_eq_getElem?_getD, fullP_mid hlt]; rfl
    have r2 : rd_T60 (fullP f) (p : Int) = f[p] := by
      rw [rd60_getD, List.getD_eq_getElem?_getD, fullP_low hlt]; rfl
    have r3 := rd60_at hlt
    have g0 : f.getD p z60 = f[p] := by rw [← rd60_getD]; exact r3
    have t3 : (fullF f p).f3.take f[p].f3.length = f[p].f3 := by
      show (fullI (f.getD p z60).f3).take _ = _
      rw [g0]; unfold fullI
      rw [List.take_append_of_le_length (Nat.le_refl _), List.take_length]
    have t4 : (fullF f p).f4.take f[p].f4.length = f[p].f4 := by
      show (fullH (f.getD p z60).f4).take _ = _
      rw [g0]; unfold fullH
      rw [List.take_append_of_le_length (Nat.le_refl _), List.take_length]
    have l3 : f[p].f3.length ≤ (fullF f p).f3.length := by
      show _ ≤ (fullI (f.getD p z60).f3).length
      rw [g0]; unfold fullI; simp
    have l4 : f[p].f4.length ≤ (fullF f p).f4.length := by
      show _ ≤ (fullH (f.getD p z60).f4).length
      rw [g0]; unfold fullH; simp
    unfold portagekit_LentProgram.l5
    rw [if_pos (by omega), ew, if_pos (by omega), if_pos (by omega), if_pos (by omega), if_pos (by omega), r1, r2, r3, if_pos (by omega), if_pos (by omega), if_pos (by omega), Int.toNat_natCast, Int.toNat_natCast, t3]
    have s1 : (fullP f).set p (⟨f[p].f0, f[p].f1, f[p].f2, f[p].f3, f[p].f4⟩ : S60) = fullP f := set_same (fullP_low hlt)
    rw [s1]
    rw [Option.bind_some, r1, r2, if_pos (by omega), if_pos (by omega), Int.toNat_natCast, t4]
    have s2 : (fullP f).set p (⟨f[p].f0, f[p].f1, f[p].f2, f[p].f3, f[p].f4⟩ : S60) = fullP f := set_same (fullP_low hlt)
    rw [s2, wrapN (by omega)]
    exact ih (p + 1) (by omega) k (by omega)
theorem lp_l4 (hs : SmallF f) (hc : c.length ≤ a1.length) : ∀ (n p : Nat) (a2 : List S60), p + n = 64 → a2 ++ (List.range' p n).map (markF f.length) = fullP f → ∀ k, n + f.length + 2 ≤ k → portagekit_LentProgram.l4 k (f.length : Int) (p : Int) c f a1 a2 = some (a1, fullP f) := by
  intro n
  induction n with
  | zero =>
    intro p a2 hp ha k hk
    obtain ⟨k, rfl⟩ : ∃ k', k = k' + 1 := ⟨k - 1, by omega⟩
    unfold portagekit_LentProgram.l4
    simp at ha
    rw [if_neg (by omega), ha]
    exact lp_l5 hs hc f.length 0 (by omega) k (by omega)
  | succ n ih =>
    intro p a2 hp ha k hk
    obtain ⟨k, rfl⟩ : ∃ k', k = k' + 1 := ⟨k - 1, by omega⟩
    have hal : a2.length ≤ 2 * f.length + 64 := by rw [← fullP_len f, ← ha]; simp
    have hsl := hs.len
    have ew : wrap64 ((f.length : Int) + (p : Int)) = ((f.length + p : Nat) : Int) := by unfold wrap64; omega
    unfold portagekit_LentProgram.l4
    rw [if_pos (by omega), if_pos (by omega), ew, wrapN (by omega)]
    refine ih (p + 1) _ (by omega) ?_ k (by omega)
    rw [← ha, range_cons, List.map_cons, List.append_assoc]
    rfl
theorem lp_l3 (hs : SmallF f) (hc : c.length ≤ a1.length) : ∀ (n p : Nat) (a2 : List S60), p + n = f.length → a2 ++ (List.range' p n).map (fullF f) ++ (List.range' 0 64).map (markF f.length) = fullP f → ∀ k, n + f.length + 1048800 ≤ k → portagekit_LentProgram.l3 k (f.length : Int) (p : Int) c f a1 a2 = some (a1, fullP f) := by
  intro n
  induction n with
  | zero =>
    intro p a2 hp ha k hk
    obtain ⟨k, rfl⟩ : ∃ k', k = k' + 1 := ⟨k - 1, by omega⟩
    unfold portagekit_LentProgram.l3
    rw [if_neg (by omega)]
    simp only [List.range'_zero, List.map_nil, List.append_nil] at ha
    exact lp_l4 hs hc 64 0 a2 (by omega) ha k (by omega)
  | succ n ih =>
    intro p a2 hp ha k hk
    obtain ⟨k, rfl⟩ : ∃ k', k = k' + 1 := ⟨k - 1, by omega⟩
    have hlt : p < f.length := by omega
    have hal : a2.length ≤ 2 * f.length + 64 := by rw [← fullP_len f, ← ha, List.append_assoc]; simp
    have hsl := hs.len
    have r3 := rd60_at hlt
    have g0 : f.getD p z60 = f[p] := by rw [← rd60_getD]; exact r3
    have hm := List.getElem_mem hlt
    unfold portagekit_LentProgram.l3
    rw [if_pos (by omega), if_pos (by omega), if_pos (by omega), r3, fi_f (hs.code _ hm) (by omega), Option.bind_some, fh_f (hs.hand _ hm) (by omega), Option.bind_some, if_pos (by omega), wrapN (by omega)]
    refine ih (p + 1) _ (by omega) ?_ k (by omega)
    rw [← ha, range_cons p n, List.map_cons]
    have e : fullF f p = ⟨⟨#[]⟩, -7, (p : Int), fullI f[p].f3, fullH f[p].f4⟩ := by unfold fullF; rw [g0]
    rw [e]
    simp
theorem lp_l2 (hs : SmallF f) (hc : c.length ≤ a1.length) : ∀ (n p : Nat), p + n = f.length → ∀ k, n + 2 * f.length + 1048900 ≤ k → portagekit_LentProgram.l2 k (f.length : Int) (p : Int) c f a1 (f.take p) = some (a1, fullP f) := by
  intro n
  induction n with
  | zero =>
    intro p hp k hk
    obtain ⟨k, rfl⟩ : ∃ k', k = k' + 1 := ⟨k - 1, by omega⟩
    unfold portagekit_LentProgram.l2
    rw [if_neg (by omega), List.take_of_length_le (by omega)]
    exact lp_l3 hs hc f.length 0 f (by omega) rfl k (by omega)
  | succ n ih =>
    intro p hp k hk
    obtain ⟨k, rfl⟩ : ∃ k', k = k' + 1 := ⟨k - 1, by omega⟩
    have hlt : p < f.length := by omega
    have hsl := hs.len
    unfold portagekit_LentProgram.l2
    rw [if_pos (by omega), if_pos (by omega), if_pos (by omega), if_pos (by rw [List.length_take]; omega), wrapN (by omega), rd60_at hlt]
    have e : f.take p ++ [(⟨f[p].f0, f[p].f1, f[p].f2, f[p].f3, f[p].f4⟩ : S60)] = f.take (p + 1) := by rw [List.take_succ_eq_append_getElem hlt]
    rw [e]
    exact ih (p + 1) (by omega) k (by omega)
end
section
variable {c : List S56} {f : List S60}
theorem lp_l1 (hs : SmallF f) (hcs : c.length ≤ 1048576) : ∀ (n p : Nat) (a1 : List S56), p + n = 64 → a1 ++ (List.range' p n).map markC = fullC c → c.length ≤ a1.length → ∀ k, n + 3 * f.length + 1049000 ≤ k → portagekit_LentProgram.l1 k (f.length : Int) (p : Int) c f a1 = some (fullC c, fullP f) := by
  intro n
  induction n with
  | zero =>
    intro p a1 hp ha hl k hk
    obtain ⟨k, rfl⟩ : ∃ k', k = k' + 1 := ⟨k - 1, by omega⟩
    unfold portagekit_LentProgram.l1
    simp at ha
    rw [if_neg (by omega), ← ha]
    exact lp_l2 hs hl f.length 0 (by omega) k (by omega)
  | succ n ih =>
    intro p a1 hp ha hl k hk
    obtain ⟨k, rfl⟩ : ∃ k', k = k' + 1 := ⟨k - 1, by omega⟩
    have hal : a1.length ≤ c.length + 64 := by
      have : (fullC c).length = c.length + 64 := by simp [fullC]
      rw [← this, ← ha]; simp
    unfold portagekit_LentProgram.l1
    rw [if_pos (by omega), if_pos (by omega), wrapN (by omega)]
    refine ih (p + 1) _ (by omega) ?_ (by simp; omega) k (by omega)
    rw [← ha, range_cons, List.map_cons, List.append_assoc]
    rfl
theorem lp_l0 (hs : SmallF f) (hcs : c.length ≤ 1048576) : ∀ (n p : Nat), p + n = c.length → ∀ k, n + 3 * f.length + 1049100 ≤ k → portagekit_LentProgram.l0 k (f.length : Int) (p : Int) c f (c.take p) = some (fullC c, fullP f) := by
  intro n
  induction n with
  | zero =>
    intro p hp k hk
    obtain ⟨k, rfl⟩ : ∃ k', k = k' + 1 := ⟨k - 1, by omega⟩
    unfold portagekit_LentProgram.l0
    rw [if_neg (by omega), List.take_of_length_le (by omega)]
    exact lp_l1 hs hcs 64 0 c (by omega) rfl (Nat.le_refl _) k (by omega)
  | succ n ih =>
    intro p hp k hk
    obtain ⟨k, rfl⟩ : ∃ k', k = k' + 1 := ⟨k - 1, by omega⟩
    have hlt : p < c.length := by omega
    unfold portagekit_LentProgram.l0
    rw [if_pos (by omega), if_pos (by omega), if_pos (by rw [List.length_take]; omega), wrapN (by omega), rd56_at hlt]
    have e : c.take p ++ [(⟨c[p].f0, c[p].f1, c[p].f2⟩ : S56)] = c.take (p + 1) := by rw [List.take_succ_eq_append_getElem hlt]
    rw [e]
    exact ih (p + 1) (by omega) k (by omega)
/-- the lists, marks and all -/
theorem lent_f (hs : SmallF f) (hcs : c.length ≤ 1048576) : portagekit_LentProgram.f 5300000 c f = some (fullC c, fullP f) :=
  lp_l0 hs hcs c.length 0 (by omega) 5300000 (by have := hs.len; omega)
end
theorem lent_calls (A : Option Addr) (c0 : Nat) (c : List S56) (B : Option Addr) (c1 : Nat) (f : List S60) (w : World) (hA : k56.C w A c.length c) (hc : c.length ≤ c0) (hB : k60.C w B f.length f) (hb : f.length ≤ c1) (hs : SmallF f) (hcs : c.length ≤ 1048576) :
    Calls Try.prog 11 #[.agg #[.slice A c.length c0, .slice B f.length c1]] w fun e w' => ∃ A0 d0 A1 d1, e = .returned (.agg #[.slice A0 c.length d0, .slice A1 f.length d1]) ∧ (fullC c).length ≤ d0 ∧ k56.C w' A0 (fullC c).length (fullC c) ∧ (fullP f).length ≤ d1 ∧ k60.C w' A1 (fullP f).length (fullP f) ∧ Below w.heap.size w w' :=
  portagekit_LentProgram.calls 5300000 A c0 c (fun k => k < w.heap.size) B c1 f (fullC c) (fullP f) w hA hc (Kd.V_mk hb (Kd.C_F k60_heap hB)) (lent_f hs hcs)
end Go.Proofs.Ytdjpamgjmpibnaa.PFit
