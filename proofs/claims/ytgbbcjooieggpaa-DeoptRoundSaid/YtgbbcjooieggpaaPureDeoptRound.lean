/- DeoptRound, the plain part: what Registers gives, and that Frames gives the frame back. For every input of a length that memory can hold. -/
import Derived.Test.YtgbbcjooieggpaaPFramesx12
import Derived.Test.YtgbbcjooieggpaaPFramesx13
import Derived.Test.YtgbbcjooieggpaaPureFrames
set_option linter.unusedSimpArgs false
set_option linter.unusedVariables false
namespace Go.Proofs.Ytgbbcjooieggpaa.PureF
open Go.RowKit Go.Proofs.Ytgbbcjooieggpaa.PFrames Go.Proofs.YtgbbcjooieggpaaW.PrintWords Go.Proofs.YtgbbcjooieggpaaW.PrintLast
theorem rd63 (l : List S63) (i : Nat) (h : i < l.length) : rd_T63 l (i : Int) = l[i] := by
  unfold rd_T63; rw [Int.toNat_natCast, List.getD_eq_getElem?_getD, List.getElem?_eq_getElem h]; rfl
theorem rd65 (l : List S65) (i : Nat) (h : i < l.length) : rd_T65 l (i : Int) = l[i] := by
  unfold rd_T65; rw [Int.toNat_natCast, List.getD_eq_getElem?_getD, List.getElem?_eq_getElem h]; rfl
/-! fill -/
def fillAll (n : Int) : List S44 → List S35 → List S35 → Option (List S35)
  | o :: os, v :: vs, acc => if o.f0 = 0 ∧ 0 ≤ o.f1 ∧ o.f1 < n then fillAll n os vs (acc.set o.f1.toNat v) else none
  | _, _, acc => some acc
def fillRes (x : Option (List S35)) : List S35 × Bool := match x with
  | some a => (a, true)
  | none => ([], false)
theorem fill_l0 (n : Int) (os : List S44) (vs : List S35) (hl : os.length = vs.length) (ho : os.length ≤ 8796093021952) : ∀ d i : Nat, i + d = os.length → ∀ acc : List S35, (acc.length : Int) = n →
    Ev (fun k => deopt_fill.l0 k n vs os acc (os.length : Int) (i : Int)) (fillRes (fillAll n (os.drop i) (vs.drop i) acc)) := by
  intro d
  induction d with
  | zero =>
    intro i hi acc ha
    obtain rfl : i = os.length := by omega
    refine ⟨1, fun k hk => ?_⟩
    obtain ⟨k, rfl⟩ : ∃ m, k = m + 1 := ⟨k-1, by omega⟩
    simp only [deopt_fill.l0]
    rw [if_neg (by omega), List.drop_length]
    simp only [fillAll, fillRes]
  | succ d ih =>
    intro i hi acc ha
    have h1 : i < os.length := by omega
    have h2 : i < vs.length := by omega
    rw [drop_cons os i h1, drop_cons vs i h2]
    by_cases hc : os[i].f0 = 0 ∧ 0 ≤ os[i].f1 ∧ os[i].f1 < n
    · obtain ⟨c0, c1, c2⟩ := hc
      simp only [fillAll]
      rw [if_pos ⟨c0, c1, c2⟩]
      refine Ev.step (fun k => ?_) (ih (i+1) (by omega) (acc.set os[i].f1.toNat vs[i]) (by rw [List.length_set]; exact ha))
      simp only [deopt_fill.l0]
      rw [if_pos (by omega), if_pos (by omega), if_pos (by omega), rd44 os i h1, if_pos c0, if_neg (by omega), if_neg (by omega), if_pos (by omega), if_pos c1, if_pos (by omega), rd35 vs i h2, wr (i : Int) (by omega)]
      rfl
    · simp only [fillAll]
      rw [if_neg hc]
      refine ⟨1, fun k hk => ?_⟩
      obtain ⟨k, rfl⟩ : ∃ m, k = m + 1 := ⟨k-1, by omega⟩
      simp only [deopt_fill.l0]
      rw [if_pos (by omega), if_pos (by omega), if_pos (by omega), rd44 os i h1]
      by_cases c0 : os[i].f0 = 0
      · rw [if_pos c0]
        by_cases c1 : os[i].f1 < 0
        · rw [if_pos c1]; rfl
        · rw [if_neg c1, if_pos (by omega)]; rfl
      · rw [if_neg c0]; rfl
/-- the registers that a block's beginning tells -/
def fillOf (n : Int) (b : S63) (vs : List S35) : Option (List S35) := match b.f1 with
  | x :: _ => if x.f0 = 6 then (match x.f7 with
    | [s] => if s.f2.length = vs.length then fillAll n s.f2 vs (List.replicate n.toNat z35) else none
    | _ => none) else none
  | [] => none
theorem fill_ev (n : Int) (hn : 0 ≤ n ∧ n ≤ 512) (b : S63) (vs : List S35) (hv : vs.length ≤ 8796093021952) (hb : b.f1.length ≤ 8796093021952) (hx : ∀ x ∈ b.f1, x.f7.length ≤ 8796093021952) :
    Ev (fun k => deopt_fill.f k n b.f0 b.f1 b.f2 vs) (fillRes (fillOf n b vs)) := by
  unfold fillOf
  cases hb1 : b.f1 with
  | nil =>
    refine ⟨1, fun k hk => ?_⟩
    obtain ⟨k, rfl⟩ : ∃ m, k = m + 1 := ⟨k-1, by omega⟩
    simp only [deopt_fill.f]
    rw [if_pos (by rfl)]
    rfl
  | cons x t =>
    have e0 : rd_T65 (x :: t) 0 = x := rfl
    have hx' := hx x (by rw [hb1]; exact List.mem_cons_self)
    rw [hb1] at hb
    simp only
    by_cases c6 : x.f0 = 6
    · rw [if_pos c6]
      have hf : ∀ k, deopt_fill.f k n b.f0 (x :: t) b.f2 vs = deopt_fill.j0 k n vs ((x.f7.length : Int) != 1) b.f0 (x :: t) b.f2 := fun k => by
        simp only [deopt_fill.f, e0]
        rw [if_neg (by simp only [List.length_cons]; omega), if_pos (by simp only [List.length_cons]; omega), if_pos c6]
      refine Ev.congr hf ?_
      match h7 : x.f7 with
      | [] =>
        refine ⟨1, fun k hk => ?_⟩
        obtain ⟨k, rfl⟩ : ∃ m, k = m + 1 := ⟨k-1, by omega⟩
        rfl
      | a :: c :: r =>
        refine ⟨1, fun k hk => ?_⟩
        obtain ⟨k, rfl⟩ : ∃ m, k = m + 1 := ⟨k-1, by omega⟩
        rw [h7] at hx'
        have hne : (((a :: c :: r).length : Int) != 1) = true := by
          rw [bne_iff_ne]; simp only [List.length_cons]; omega
        rw [hne]
        rfl
      | [s] =>
        have e1 : rd_T67 x.f7 0 = s := by rw [h7]; rfl
        by_cases cl : s.f2.length = vs.length
        · simp only
          rw [if_pos cl]
          refine Ev.step (fun k => ?_) (fill_l0 n s.f2 vs cl (by omega) s.f2.length 0 (by omega) (List.replicate n.toNat z35) (by simp; omega))
          simp only [deopt_fill.j0, e0, e1]
          rw [if_neg (by simp), if_pos (by simp only [List.length_cons]; omega), if_pos (by rw [h7]; simp), if_pos (by omega), if_pos (by omega), if_pos (by omega)]
          rfl
        · simp only
          rw [if_neg cl]
          refine ⟨1, fun k hk => ?_⟩
          obtain ⟨k, rfl⟩ : ∃ m, k = m + 1 := ⟨k-1, by omega⟩
          simp only [deopt_fill.j0, e0, e1]
          rw [if_neg (by simp), if_pos (by simp only [List.length_cons]; omega), if_pos (by rw [h7]; simp), if_neg (by omega)]
          rfl
    · rw [if_neg c6]
      refine ⟨1, fun k hk => ?_⟩
      obtain ⟨k, rfl⟩ : ∃ m, k = m + 1 := ⟨k-1, by omega⟩
      simp only [deopt_fill.f, e0]
      rw [if_neg (by simp only [List.length_cons]; omega), if_pos (by simp only [List.length_cons]; omega), if_neg c6]
      rfl
/-! Registers -/
def regFrom (n : Int) (pc : Int) (vs : List S35) : Nat → List S63 → List S35 × Int × Bool
  | _, [] => ([], 0, false)
  | i, b :: t => if b.f0 = pc then (match fillOf n b vs with | some r => (r, (i : Int), true) | none => ([], 0, false)) else regFrom n pc vs (i+1) t
def regOf (c0 c1 : Int) (l : List S63) (f0 f1 : Int) (vs : List S35) : List S35 × Int × Bool := if c1 < 0 ∨ c1 > 512 ∨ c0 ≠ f0 then ([], 0, false) else regFrom c1 f1 vs 0 l
def SmallX (x : S65) : Prop := x.f3.length * 16 ≤ 140737488351232 ∧ (x.f7.length * 40 ≤ 140737488351232 ∧ ∀ s ∈ x.f7, s.f2.length * 16 ≤ 140737488351232)
def SmallB (l : List S63) : Prop := l.length * 56 ≤ 140737488351232 ∧ ∀ b ∈ l, (b.f1.length * 96 ≤ 140737488351232 ∧ ∀ x ∈ b.f1, SmallX x) ∧ b.f2.length * 8 ≤ 140737488351232
theorem reg_l0 (c0 c1 f0 f1 : Int) (l : List S63) (vs : List S35) (h1 : 0 ≤ c1 ∧ c1 ≤ 512) (hs : SmallB l) (hv : vs.length ≤ 8796093021952) : ∀ d i : Nat, i + d = l.length →
    Ev (fun k => deopt_Registers.l0 k l (l.length : Int) (i : Int) c0 c1 l f0 f1 vs) (regFrom c1 f1 vs i (l.drop i)) := by
  have hl := hs.1
  intro d
  induction d with
  | zero =>
    intro i hi
    obtain rfl : i = l.length := by omega
    refine ⟨1, fun k hk => ?_⟩
    obtain ⟨k, rfl⟩ : ∃ m, k = m + 1 := ⟨k-1, by omega⟩
    simp only [deopt_Registers.l0]
    rw [if_neg (by omega), List.drop_length]
    rfl
  | succ d ih =>
    intro i hi
    have hlt : i < l.length := by omega
    rw [drop_cons l i hlt]
    simp only [regFrom]
    by_cases hp : l[i].f0 = f1
    · rw [if_pos hp]
      have hb := hs.2 l[i] (List.getElem_mem hlt)
      obtain ⟨K, h⟩ := fill_ev c1 h1 l[i] vs hv (by have := hb.1.1; omega) (fun x hx => by have := (hb.1.2 x hx).2.1; omega)
      refine ⟨K + 1, fun k hk => ?_⟩
      obtain ⟨k, rfl⟩ : ∃ m, k = m + 1 := ⟨k-1, by omega⟩
      simp only [deopt_Registers.l0]
      rw [if_pos (by omega), if_pos (by omega), if_pos (by omega), rd63 l i hlt, if_pos hp, show deopt_fill.f k c1 l[i].f0 l[i].f1 l[i].f2 vs = some _ from h k (by omega), Option.bind_some]
      cases fillOf c1 l[i] vs with
      | none => rfl
      | some r => rfl
    · rw [if_neg hp]
      refine Ev.step (fun k => ?_) (ih (i+1) (by omega))
      simp only [deopt_Registers.l0]
      rw [if_pos (by omega), if_pos (by omega), if_pos (by omega), rd63 l i hlt, if_neg hp, wr (i : Int) (by omega)]
      rfl
theorem reg_ev (c0 c1 f0 f1 : Int) (l : List S63) (vs : List S35) (hs : SmallB l) (hv : vs.length ≤ 8796093021952) : Ev (fun k => deopt_Registers.f k c0 c1 l f0 f1 vs) (regOf c0 c1 l f0 f1 vs) := by
  have no : Ev (fun k => deopt_Registers.j0 k true c0 c1 l f0 f1 vs) (([], 0, false) : List S35 × Int × Bool) := by
    refine ⟨1, fun k hk => ?_⟩
    obtain ⟨k, rfl⟩ : ∃ m, k = m + 1 := ⟨k-1, by omega⟩
    rfl
  unfold regOf
  by_cases a1 : c1 < 0
  · rw [if_pos (.inl a1)]
    exact Ev.congr (fun k => by simp only [deopt_Registers.f]; rw [if_pos a1]) no
  by_cases a2 : c1 > 512
  · rw [if_pos (.inr (.inl a2))]
    exact Ev.congr (fun k => by simp only [deopt_Registers.f]; rw [if_neg a1, if_pos a2]) no
  by_cases a3 : c0 = f0
  · rw [if_neg (by rintro (h | h | h); exact a1 h; exact a2 h; exact h a3)]
    have h := reg_l0 c0 c1 f0 f1 l vs (by omega) hs hv l.length 0 (by omega)
    rw [List.drop_zero] at h
    refine Ev.congr (fun k => by simp only [deopt_Registers.f]; rw [if_neg a1, if_neg a2, show (c0 != f0) = false from by rw [bne_eq_false_iff_eq]; exact a3]) (Ev.step (fun k => ?_) h)
    simp only [deopt_Registers.j0]
    rw [if_neg (by decide)]
    rfl
  · rw [if_pos (.inr (.inr a3))]
    exact Ev.congr (fun k => by simp only [deopt_Registers.f]; rw [if_neg a1, if_neg a2, show (c0 != f0) = true from by rw [bne_iff_ne]; exact a3]) no
/-! what it tells where it tells something -/
theorem fillAll_len (n : Int) : ∀ (os : List S44) (vs acc r : List S35), fillAll n os vs acc = some r → r.length = acc.length
  | [], _, _, _, h => by simp only [fillAll] at h; cases h; rfl
  | _ :: _, [], _, _, h => by simp only [fillAll] at h; cases h; rfl
  | o :: os, v :: vs, acc, r, h => by
    simp only [fillAll] at h
    split at h
    · rw [fillAll_len n os vs _ r h, List.length_set]
    · cases h
theorem fillAll_other (n : Int) : ∀ (os : List S44) (vs acc r : List S35) (j : Nat), fillAll n os vs acc = some r → (∀ o ∈ os, o.f1.toNat ≠ j) → r[j]? = acc[j]?
  | [], _, _, _, _, h, _ => by simp only [fillAll] at h; cases h; rfl
  | _ :: _, [], _, _, _, h, _ => by simp only [fillAll] at h; cases h; rfl
  | o :: os, v :: vs, acc, r, j, h, hj => by
    simp only [fillAll] at h
    split at h
    · rw [fillAll_other n os vs _ r j h (fun q hq => hj q (List.mem_cons_of_mem _ hq)), List.getElem?_set_ne (hj o List.mem_cons_self)]
    · cases h
/-- operands that are registers, no two alike -/
def Unlike : List S44 → Prop
  | [] => True
  | o :: t => (∀ p ∈ t, p.f1 ≠ o.f1) ∧ Unlike t
theorem fillAll_back (n : Int) (c : List S35) : ∀ (os : List S44) (vs acc r : List S35), os.length = vs.length → (acc.length : Int) = n → fillAll n os vs acc = some r → Unlike os → valsOf r c os = some vs
  | [], [], _, _, _, _, _, _ => rfl
  | [], _ :: _, _, _, h, _, _, _ => by simp at h
  | _ :: _, [], _, _, h, _, _, _ => by simp at h
  | o :: os, v :: vs, acc, r, hl, ha, h, hu => by
    simp only [fillAll] at h
    split at h
    · rename_i hc
      obtain ⟨c0, c1, c2⟩ := hc
      have ih := fillAll_back n c os vs _ r (by simpa using hl) (by rw [List.length_set]; exact ha) h hu.2
      have hmem : ∀ o' ∈ os, o'.f0 = 0 ∧ 0 ≤ o'.f1 := by
        clear ih
        have : ∀ (os : List S44) (vs acc r : List S35), os.length = vs.length → fillAll n os vs acc = some r → ∀ o' ∈ os, o'.f0 = 0 ∧ 0 ≤ o'.f1 := by
          intro os
          induction os with
          | nil => intro _ _ _ _ _ o' ho; cases ho
          | cons p t iht =>
            intro vs acc r hl h o' ho
            cases vs with
            | nil => simp at hl
            | cons u us =>
              simp only [fillAll] at h
              split at h
              · rename_i hc
                rcases List.mem_cons.1 ho with rfl | ho
                · exact ⟨hc.1, hc.2.1⟩
                · exact iht us _ r (by simpa using hl) h o' ho
              · cases h
        exact this os vs _ r (by simpa using hl) h
      have hr := fillAll_other n os vs _ r o.f1.toNat h (fun p hp e => hu.1 p hp (by have := (hmem p hp).2; omega))
      rw [List.getElem?_set_self (by omega)] at hr
      have hrl : r.length = acc.length := by rw [fillAll_len n os vs _ r h, List.length_set]
      have hval : valOf o r c = some v := by
        unfold valOf deopt_Value.f
        rw [if_pos c0, at_eq, Option.bind_some, if_neg (by omega)]
        have e : rd_T35 r o.f1 = v := by
          unfold rd_T35
          rw [List.getD_eq_getElem?_getD, hr]; rfl
        rw [e]
        rfl
      simp only [valsOf]
      rw [hval, ih]
      rfl
    · cases h
/-- the point that a block begins with -/
structure Told (c0 c1 : Int) (l : List S63) (f0 f1 : Int) (vs r : List S35) (i : Nat) (s : S67) : Prop where
  lt : i < l.length
  pc : (l[i]'lt).f0 = f1
  len : (r.length : Int) = c1
  ins : ∃ x t, (l[i]'lt).f1 = x :: t ∧ x.f7 = [s]
  slots : s.f2.length = vs.length
  fill : fillAll c1 s.f2 vs (List.replicate c1.toNat z35) = some r
  pos : 0 ≤ c1
theorem regFrom_told (c1 f1 : Int) (vs : List S35) (h0 : 0 ≤ c1) : ∀ (l : List S63) (i : Nat) (r : List S35) (n : Int), regFrom c1 f1 vs i l = (r, n, true) →
    ∃ j s, n = ((i + j : Nat) : Int) ∧ Told 0 c1 l 0 f1 vs r j s
  | [], _, _, _, h => by simp only [regFrom] at h; cases h
  | b :: t, i, r, n, h => by
    simp only [regFrom] at h
    split at h
    · rename_i hp
      cases hf : fillOf c1 b vs with
      | none => rw [hf] at h; cases h
      | some r' =>
        rw [hf] at h
        simp only [Prod.mk.injEq, and_true] at h
        obtain ⟨rfl, rfl⟩ := h
        unfold fillOf at hf
        cases hb : b.f1 with
        | nil => rw [hb] at hf; cases hf
        | cons x t' =>
          rw [hb] at hf
          simp only at hf
          split at hf
          · match h7 : x.f7 with
            | [] => rw [h7] at hf; cases hf
            | a :: c :: q => rw [h7] at hf; cases hf
            | [s] =>
              rw [h7] at hf
              simp only at hf
              split at hf
              · rename_i hl
                have hlen := fillAll_len c1 _ _ _ _ hf
                rw [List.length_replicate] at hlen
                exact ⟨0, s, by simp, ⟨by simp, hp, by omega, ⟨x, t', hb, h7⟩, hl, hf, h0⟩⟩
              · cases hf
          · cases hf
    · obtain ⟨j, s, hn, hT⟩ := regFrom_told c1 f1 vs h0 t (i+1) r n h
      refine ⟨j+1, s, by rw [hn]; congr 1; omega, ⟨by simp only [List.length_cons]; have := hT.lt; omega, hT.pc, hT.len, hT.ins, hT.slots, hT.fill, hT.pos⟩⟩
theorem reg_told (c0 c1 f0 f1 : Int) (l : List S63) (vs r : List S35) (n : Int) (h : regOf c0 c1 l f0 f1 vs = (r, n, true)) : ∃ (i : Nat) (s : S67), n = (i : Int) ∧ Told 0 c1 l 0 f1 vs r i s := by
  unfold regOf at h
  split at h
  · cases h
  · rename_i hc
    obtain ⟨j, s, hn, hT⟩ := regFrom_told c1 f1 vs (by omega) l 0 r n h
    exact ⟨j, s, by rw [hn]; congr 1; omega, hT⟩
/-! unlike -/
def Ne (l : List S44) (j : Nat) : Prop := ∀ i q : Nat, j ≤ i → (g : q < i) → (h : i < l.length) → (l[q]'(Nat.lt_trans g h)).f1 ≠ l[i].f1
theorem un_l1 (l : List S44) (hl : l.length ≤ 8796093021952) (i : Nat) (hi : i < l.length) (next : ∃ u, Ev (fun k => portagelaw26_unlike.l0 k l ((i + 1 : Nat) : Int)) u ∧ (u = true → Ne l (i+1))) : ∀ d q : Nat, q + d = i →
    ∃ u, Ev (fun k => portagelaw26_unlike.l1 k l (i : Int) (q : Int)) u ∧ (u = true → Ne l (i+1) ∧ ∀ p : Nat, q ≤ p → (h : p < i) → (l[p]'(by omega)).f1 ≠ l[i].f1) := by
  intro d
  induction d with
  | zero =>
    intro q hq
    obtain rfl : q = i := by omega
    obtain ⟨u, h, hu⟩ := next
    refine ⟨u, Ev.step (fun k => ?_) h, fun e => ⟨hu e, fun p h1 h2 => absurd h2 (by omega)⟩⟩
    simp only [portagelaw26_unlike.l1]
    rw [if_neg (by omega), wr (q : Int) (by omega)]
    rfl
  | succ d ih =>
    intro q hq
    have hql : q < l.length := by omega
    by_cases he : l[q].f1 = l[i].f1
    · refine ⟨false, ⟨1, fun k hk => ?_⟩, fun e => by cases e⟩
      obtain ⟨k, rfl⟩ : ∃ m, k = m + 1 := ⟨k-1, by omega⟩
      simp only [portagelaw26_unlike.l1]
      rw [if_pos (by omega), if_pos (by omega), if_pos (by omega), if_pos (by omega), if_pos (by omega), rd44 l q hql, rd44 l i hi, if_pos he]
    · obtain ⟨u, h, hu⟩ := ih (q+1) (by omega)
      refine ⟨u, Ev.step (fun k => ?_) h, fun e => ⟨(hu e).1, fun p h1 h2 => ?_⟩⟩
      · simp only [portagelaw26_unlike.l1]
        rw [if_pos (by omega), if_pos (by omega), if_pos (by omega), if_pos (by omega), if_pos (by omega), rd44 l q hql, rd44 l i hi, if_neg he, wr (q : Int) (by omega)]
        rfl
      · rcases Nat.lt_or_ge q p with hlt | hge
        · exact (hu e).2 p hlt h2
        · obtain rfl : p = q := by omega
          exact he
theorem un_l0 (l : List S44) (hl : l.length ≤ 8796093021952) : ∀ d i : Nat, i + d = l.length → ∃ u, Ev (fun k => portagelaw26_unlike.l0 k l (i : Int)) u ∧ (u = true → Ne l i) := by
  intro d
  induction d with
  | zero =>
    intro i hi
    refine ⟨true, ⟨1, fun k hk => ?_⟩, fun _ a b h1 h2 h3 => absurd h3 (by omega)⟩
    obtain ⟨k, rfl⟩ : ∃ m, k = m + 1 := ⟨k-1, by omega⟩
    simp only [portagelaw26_unlike.l0]
    rw [if_neg (by omega)]
  | succ d ih =>
    intro i hi
    obtain ⟨u, h, hu⟩ := un_l1 l hl i (by omega) (ih (i+1) (by omega)) i 0 (by omega)
    refine ⟨u, Ev.step (fun k => ?_) h, fun e a b h1 h2 h3 => ?_⟩
    · simp only [portagelaw26_unlike.l0]
      rw [if_pos (by omega)]
      rfl
    · rcases Nat.lt_or_ge i a with hlt | hge
      · exact (hu e).1 a b hlt h2 h3
      · obtain rfl : a = i := by omega
        exact (hu e).2 b (by omega) h2
theorem unlike_of : ∀ (l : List S44), Ne l 0 → Unlike l
  | [], _ => trivial
  | o :: t, h => ⟨fun p hp e => by
      obtain ⟨i, hi, rfl⟩ := List.getElem_of_mem hp
      have := h (i+1) 0 (by omega) (by omega) (by simp only [List.length_cons]; omega)
      exact this e.symm, unlike_of t (fun i q h1 h2 h3 => by
      have := h (i+1) (q+1) (by omega) (by omega) (by simp only [List.length_cons]; omega)
      exact this)⟩
theorem un_ev (l : List S44) (hl : l.length ≤ 8796093021952) : ∃ u, Ev (fun k => portagelaw26_unlike.f k l) u ∧ (u = true → Unlike l) := by
  obtain ⟨u, h, hu⟩ := un_l0 l hl l.length 0 (by omega)
  exact ⟨u, h, fun e => unlike_of l (hu e)⟩
/-- what is entered out of a frame and left at once -/
theorem back (c0 c1 f0 f1 : Int) (l : List S63) (vs r c : List S35) (i : Nat) (s : S67) (hT : Told c0 c1 l f0 f1 vs r i s) (hu : Unlike s.f2) : resOf r c [] [s] = ([⟨s.f0, s.f1, vs⟩], true) := by
  have hp := hT.pos
  have h := fillAll_back c1 c s.f2 vs _ r hT.slots (by rw [List.length_replicate]; omega) hT.fill hu
  unfold resOf fsOf fOf
  rw [h]
  rfl
/-! copies -/
theorem rdI (l : List Int) (i : Nat) (h : i < l.length) : rd l (i : Int) = l[i] := by
  unfold rd; rw [Int.toNat_natCast, List.getD_eq_getElem?_getD, List.getElem?_eq_getElem h]; rfl
theorem copyI_l0 (r : List Int) (hr : r.length ≤ 17592186044000) : ∀ d i : Nat, i + d = r.length → Ev (fun k => portageref0_CopyInts.l0 k r (r.take i) (i : Int)) r := by
  intro d
  induction d with
  | zero =>
    intro i hi
    obtain rfl : i = r.length := by omega
    refine ⟨1, fun k hk => ?_⟩
    obtain ⟨k, rfl⟩ : ∃ m, k = m + 1 := ⟨k-1, by omega⟩
    simp only [portageref0_CopyInts.l0]
    rw [if_neg (by omega), List.take_length]
  | succ d ih =>
    intro i hi
    have hlt : i < r.length := by omega
    refine Ev.step (fun k => ?_) (ih (i+1) (by omega))
    simp only [portageref0_CopyInts.l0]
    rw [if_pos (by omega), if_pos (by omega), if_pos (by rw [List.length_take]; omega), wr (i : Int) (by omega), rdI r i hlt, List.take_succ_eq_append_getElem hlt]
    rfl
theorem copyI (r : List Int) (hr : r.length ≤ 17592186044000) : Ev (fun k => portageref0_CopyInts.f k r) r := by
  have := copyI_l0 r hr r.length 0 (by omega)
  rw [List.take_zero] at this; exact this
theorem copyX (x : S65) (h : SmallX x) : Ev (fun k => portageref0_CopyIns.f k x.f0 x.f1 x.f2 x.f3 x.f4 x.f5 x.f6 x.f7) (x.f0, x.f1, x.f2, x.f3, x.f4, x.f5, x.f6, x.f7) := by
  obtain ⟨h1, h2, h3⟩ := h
  obtain ⟨K1, e1⟩ := copyO x.f3 (by omega)
  obtain ⟨K2, e2⟩ := copyS x.f7 (by omega) (fun s hs => by have := h3 s hs; omega)
  refine ⟨K1 + K2, fun k hk => ?_⟩
  simp only [portageref0_CopyIns.f]
  rw [show portageref0_CopyOpnds.f k x.f3 = some x.f3 from e1 k (by omega), Option.bind_some, show portageref0_CopyShapes.f k x.f7 = some x.f7 from e2 k (by omega), Option.bind_some]
theorem copyB_l1 (c0 c1 e0 e1 : Int) (l : List S63) (acc : List S63) (i : Nat) (hi : i < l.length) (hl : l.length ≤ 2513169434843) (ha : acc.length = i) (hb : l[i].f1.length * 96 ≤ 140737488351232) (hx : ∀ x ∈ l[i].f1, SmallX x)
    {R : Int × Int × List S63} (next : Ev (fun k => portageref0_CopyRegs.l0 k ((i + 1 : Nat) : Int) c0 c1 l e0 e1 (acc ++ [l[i]])) R) : ∀ d q : Nat, q + d = l[i].f1.length →
    Ev (fun k => portageref0_CopyRegs.l1 k (i : Int) (q : Int) c0 c1 l e0 e1 acc l[i].f0 (l[i].f1.take q) l[i].f2) R := by
  intro d
  induction d with
  | zero =>
    intro q hq
    obtain rfl : q = l[i].f1.length := by omega
    refine Ev.step (fun k => ?_) next
    simp only [portageref0_CopyRegs.l1]
    rw [if_pos (by omega), if_pos (by omega), rd63 l i hi, if_neg (by omega), List.take_length, if_pos (by omega), wr (i : Int) (by omega)]
    rfl
  | succ d ih =>
    intro q hq
    have hlt : q < l[i].f1.length := by omega
    obtain ⟨K1, h1⟩ := ih (q+1) (by omega)
    obtain ⟨K2, h2⟩ := copyX l[i].f1[q] (hx _ (List.getElem_mem hlt))
    refine ⟨K1 + K2 + 1, fun k hk => ?_⟩
    obtain ⟨k, rfl⟩ : ∃ m, k = m + 1 := ⟨k-1, by omega⟩
    have := h1 k (by omega)
    rw [List.take_succ_eq_append_getElem hlt] at this
    simp only [portageref0_CopyRegs.l1]
    rw [if_pos (by omega), if_pos (by omega), rd63 l i hi, if_pos (by omega), if_pos (by omega), rd65 _ q hlt, show portageref0_CopyIns.f k _ _ _ _ _ _ _ _ = some _ from h2 k (by omega), Option.bind_some, if_pos (by rw [List.length_take]; omega), wr (q : Int) (by omega)]
    exact this
theorem copyB_l0 (c0 c1 e0 e1 : Int) (l : List S63) (hs : SmallB l) : ∀ d i : Nat, i + d = l.length → Ev (fun k => portageref0_CopyRegs.l0 k (i : Int) c0 c1 l e0 e1 (l.take i)) (e0, e1, l) := by
  have hl := hs.1
  intro d
  induction d with
  | zero =>
    intro i hi
    obtain rfl : i = l.length := by omega
    refine ⟨1, fun k hk => ?_⟩
    obtain ⟨k, rfl⟩ : ∃ m, k = m + 1 := ⟨k-1, by omega⟩
    simp only [portageref0_CopyRegs.l0]
    rw [if_neg (by omega), List.take_length]
  | succ d ih =>
    intro i hi
    have hlt : i < l.length := by omega
    have hb := hs.2 l[i] (List.getElem_mem hlt)
    have hn := ih (i+1) (by omega)
    rw [List.take_succ_eq_append_getElem hlt] at hn
    obtain ⟨K1, h1⟩ := copyB_l1 c0 c1 e0 e1 l (l.take i) i hlt (by omega) (by rw [List.length_take]; omega) hb.1.1 hb.1.2 hn l[i].f1.length 0 (by omega)
    obtain ⟨K2, h2⟩ := copyI l[i].f2 (by have := hb.2; omega)
    refine ⟨K1 + K2 + 1, fun k hk => ?_⟩
    obtain ⟨k, rfl⟩ : ∃ m, k = m + 1 := ⟨k-1, by omega⟩
    have := h1 k (by omega)
    rw [List.take_zero] at this
    simp only [portageref0_CopyRegs.l0]
    rw [if_pos (by omega), if_pos (by omega), rd63 l i hlt, show portageref0_CopyInts.f k l[i].f2 = some l[i].f2 from h2 k (by omega), Option.bind_some]
    exact this
theorem copyB (c0 c1 : Int) (l : List S63) (hs : SmallB l) : Ev (fun k => portageref0_CopyRegs.f k c0 c1 l) (c0, c1, l) := by
  have := copyB_l0 c0 c1 c0 c1 l hs l.length 0 (by omega)
  rw [List.take_zero] at this; exact this
theorem copyF (f0 f1 : Int) (l : List S35) (h : l.length ≤ 8796093021952) : Ev (fun k => portageref0_CopyFrame.f k f0 f1 l) (f0, f1, l) := by
  obtain ⟨K, e⟩ := copyV l h
  refine ⟨K, fun k hk => ?_⟩
  simp only [portageref0_CopyFrame.f]
  rw [show portageref0_CopyValues.f k l = some l from e k hk, Option.bind_some]
end Go.Proofs.Ytgbbcjooieggpaa.PureF
