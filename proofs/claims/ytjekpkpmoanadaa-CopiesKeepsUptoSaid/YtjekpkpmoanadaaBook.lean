/- The map of copies.Run, for what a register is known as: what is read of it, forgotten, put. The contracts of ask and written. For every world. -/
import Derived.Test.YtjekpkpmoanadaaPCopx0
import Derived.Test.YtjekpkpmoanadaaLit
import Derived.Test.YtjekpkpmoanadaaOwnCells
import Derived.Maps.OwnSet
import Derived.Maps.RangeWalk
import Derived.LoopTactic
import Derived.BigQuiet
import Derived.Deep.QuietTactic
namespace Go.Proofs.Ytjekpkpmoanadaa.PCop
open Go.RowKit Go.Proofs.Ytjekpkpmoanadaa.Lit Go.Proofs.Ytjekpkpmoanadaa.OwnCells Go.Proofs.YtjekpkpmoanadaaW.PrintWords Go.Proofs.YtjekpkpmoanadaaW.PrintLast Go.Proofs.YtjekpkpmoanadaaW.PrintMore
open Go.Maps
set_option linter.unusedVariables false
set_option linter.unusedSimpArgs false
def enc49 (o : S49) : DataW Unit := .agg [.lit (.int .i64 o.f0), .lit (.int .i64 o.f1)]
theorem enc49_inj {a b : S49} (h : enc49 a = enc49 b) : a = b := by
  cases a; cases b
  simp [enc49] at h
  obtain ⟨rfl, rfl⟩ := h
  rfl
def v49 (o : S49) : Value := .agg #[.int .i64 o.f0, .int .i64 o.f1]
def ropnd : Value → Option (DataW Unit × List MemPlace)
  | .agg cs => match cs.toList with
    | [.int .i64 a, .int .i64 b] => some (.agg [.lit (.int .i64 a), .lit (.int .i64 b)], [])
    | _ => none
  | _ => none
theorem ropnd_mk (o : S49) : ropnd (v49 o) = some (enc49 o, []) := rfl
theorem ropnd_inv {v : Value} {z : DataW Unit × List MemPlace} (h : ropnd v = some z) : ∃ o : S49, v = v49 o ∧ z = (enc49 o, []) := by
  unfold ropnd at h
  split at h
  · rename_i cs
    split at h
    · rename_i a b hc
      cases h
      refine ⟨⟨a, b⟩, ?_, rfl⟩
      show Value.agg cs = Value.agg #[.int .i64 a, .int .i64 b]
      rw [← hc]
    · cases h
  · cases h
theorem law2 : Keyed Try.prog 2 := int_keyed Try.underlying2
theorem zero49 (w : World) : (zeroValue 49).run Try.prog w = .ok (v49 z49) w := by kernel_rfl
def WF (a : Int) : Prop := (Lit.int .i64 a).wf = true
abbrev Map49 := Int → Option S49
/-- the data of the map are those of M -/
def Agrees (D : DataW Unit) (M : Map49) : Prop := ∀ a, WF a → match M a with
  | none => Maps.has D (.int .i64 a) = false
  | some o => Maps.has D (.int .i64 a) = true ∧ ∀ z, D.atKey (.int .i64 a) z = enc49 o
theorem Agrees.none_ {D : DataW Unit} {M : Map49} (h : Agrees D M) {a : Int} (ha : WF a) (hm : M a = none) : Maps.has D (.int .i64 a) = false := by
  have := h a ha; rw [hm] at this; exact this
theorem Agrees.some_ {D : DataW Unit} {M : Map49} (h : Agrees D M) {a : Int} (ha : WF a) {o : S49} (hm : M a = some o) : Maps.has D (.int .i64 a) = true ∧ ∀ z, D.atKey (.int .i64 a) z = enc49 o := by
  have := h a ha; rw [hm] at this; exact this
theorem Agrees.mk' {D : DataW Unit} {M : Map49} (h : ∀ a, WF a → (M a = none → Maps.has D (.int .i64 a) = false) ∧ ∀ o, M a = some o → Maps.has D (.int .i64 a) = true ∧ ∀ z, D.atKey (.int .i64 a) z = enc49 o) : Agrees D M := fun a ha => by
  have := h a ha
  cases hm : M a with
  | none => exact this.1 hm
  | some o => exact this.2 o hm
def Book (w : World) (B n : Nat) (M : Map49) : Prop := ∃ D, w.ownsMap Try.prog 2 ropnd B n D ∧ Agrees D M
theorem Book.kept {w w' : World} {B n : Nat} {M : Map49} (h : Book w B n M) {row : Option Nat} (hg : w.grownBy w' row) (hne : some B ≠ row) : Book w' B n M := let ⟨D, h1, h2⟩ := h; ⟨D, h1.kept hg hne, h2⟩
theorem Book.below {w w' : World} {B n : Nat} {M : Map49} (h : Book w B n M) (hb : Below w.heap.size w w') : Book w' B n M := h.kept (row := none) ⟨hb.os, hb.tape, hb.output, hb.size, fun i hi _ => hb.block i hi⟩ (by simp)
theorem Book.lt {w : World} {B n : Nat} {M : Map49} (h : Book w B n M) : B < w.heap.size := let ⟨D, h1, _⟩ := h; h1.lt
def noMap : Map49 := fun _ => none
theorem Book.made {w : World} : Book (w.alloc (.map #[] 0)) w.heap.size 0 noMap := ⟨_, World.ownsMap_made w _ _ _, fun a _ => rfl⟩
/-- what is asked of an operand -/
def ask (M : Map49) (o : S49) : S49 := if o.f0 = 0 then (M o.f1).getD o else o
theorem wpList_lookup_opnd {P : Program} (hP : P = Try.prog) (w : World) {ops : Array Oper} {rest : List Oper} {o : Oper} {a : Act} {Q : Exit → Act → World → Prop}
    (hg : o.guard = none) (m x : Operand) (hop : o.op = Op.lookup 59 m x true) (B n : Nat) (M : Map49) (hm : a.eval m = .map (some B)) (hbk : Book w B n M) (r : Int) (hx : a.eval x = .int .i64 r) (hr : WF r)
    (hK : ∀ c d, (∀ o', M r = some o' → c = o'.f0 ∧ d = o'.f1) → wpList P ops Q rest (a.put o.dst (.tuple #[.agg #[.int .i64 c, .int .i64 d], .bool (M r).isSome])) w) :
    wpList P ops Q (o :: rest) a w := by
  subst hP
  obtain ⟨D, hown, hag⟩ := hbk
  refine wpList_lookup_own_ok w hg m x 59 hop 2 49 law2 Try.underlying59 ropnd (zero49 w) (enc49 z49) [] (ropnd_mk _) B n D hm hown _ _ hx (keyOf_int_mk Try.underlying2 hr) ?_
  intro v ps hv
  obtain ⟨o', rfl, hz⟩ := ropnd_inv hv
  have hz1 : D.atKey (.int .i64 r) (enc49 z49) = enc49 o' := congrArg Prod.fst hz
  have he : Maps.has D (.int .i64 r) = (M r).isSome := by
    cases hm : M r with
    | none => exact hag.none_ hr hm
    | some o2 => exact (hag.some_ hr hm).1
  rw [he]
  refine hK o'.f0 o'.f1 (fun o2 hm => ?_)
  have := (hag.some_ hr hm).2 (enc49 z49)
  rw [hz1] at this
  rw [enc49_inj this]
  exact ⟨rfl, rfl⟩
set_option maxHeartbeats 1000000 in
set_option maxRecDepth 100000 in
theorem ask_calls (B n : Nat) (M : Map49) (o : S49) (w : World) (hbk : Book w B n M) (ho : WF o.f1) :
    Calls Try.prog 55 #[.map (some B), .agg #[.int .i64 o.f0, .int .i64 o.f1]] w fun e w' => e = .returned (.agg #[.int .i64 (ask M o).f0, .int .i64 (ask M o).f1]) ∧ Below w.heap.size w w' := by
  obtain ⟨p, q⟩ := o
  replace ho : WF q := ho
  show Calls Try.prog 55 #[.map (some B), .agg #[.int .i64 p, .int .i64 q]] w _
  by_cases h0 : p = 0
  · subst h0
    have hbk1 : Book ((w.alloc (.cells #[.int .i64 0, .int .i64 q] 49)).alloc (.cells #[.int .i64 0, .int .i64 0] 49)) B n M := hbk.below (e4 w _ _)
    have HBK := Aside0.mk hbk1
    have HO := Aside0.mk ho
    clear hbk hbk1 ho
    cases hm : M q with
    | none =>
      have ha : ask M ⟨0, q⟩ = ⟨0, q⟩ := by simp [ask, hm]
      rw [ha]
      have HM := Aside0.mk hm
      clear hm ha
      go_enter Try.func55, Try.ntmps55
      go_wp2_with (first | (at_lookup; refine wpList_lookup_opnd rfl _ rfl _ _ rfl B n M rfl HBK.out _ rfl HO.out ?_; intro c d hcd; rw [HM.out]; clear hcd) | go_in)
      refine bodyPost_ret (by simp [results, Try.results55, go_sem]; try rfl) rfl ?_
      exact ⟨rfl, below_alloc (e4 w _ _) _⟩
    | some o' =>
      have ha : ask M ⟨0, q⟩ = o' := by simp [ask, hm]
      rw [ha]
      have HM := Aside0.mk hm
      clear hm ha
      go_enter Try.func55, Try.ntmps55
      go_wp2_with (first | (at_lookup; refine wpList_lookup_opnd rfl _ rfl _ _ rfl B n M rfl HBK.out _ rfl HO.out ?_; intro c d hcd; obtain ⟨e1, e2⟩ := hcd _ HM.out; subst e1; subst e2; rw [HM.out]; clear hcd) | go_in)
      refine bodyPost_ret (by simp [results, Try.results55, go_sem]; try rfl) rfl ?_
      exact ⟨rfl, below_alloc (e4 w _ _) _⟩
  · have ha : ask M ⟨p, q⟩ = ⟨p, q⟩ := by simp [ask, h0]
    rw [ha]
    have c0 : (p == 0) = false := beq_eq_false_iff_ne.mpr h0
    clear ha hbk ho
    go_enter Try.func55, Try.ntmps55
    go_wp2
    refine bodyPost_ret (by simp [results, Try.results55, go_sem]; try rfl) rfl ?_
    exact ⟨rfl, e4 w _ _⟩
/-- a register is forgotten, and what was a copy of it -/
def writ (M : Map49) (r : Int) : Map49 := fun a => if a = r then none else match M a with
  | none => none
  | some o => if o.f0 = 0 ∧ o.f1 = r then none else some o
def sweep (M : Map49) (r : Int) (left : Lit → Bool) : Map49 := fun a => if a = r then none else match M a with
  | none => none
  | some o => if o.f0 = 0 ∧ o.f1 = r ∧ left (.int .i64 a) = false then none else some o
theorem isKey_int (a : Int) : WideAt.IsKeyLit (.int .i64 a) := by trivial
theorem sameKey_int (a b : Int) : (Lit.int .i64 a).sameKey (.int .i64 b) = decide (a = b) := by
  by_cases h : a = b
  · subst h; simp [WideAt.sameKey_self (isKey_int a)]
  · rw [sameKey_ne (fun e => h (by injection e))]; simp [h]
theorem sweep_start {D : DataW Unit} {M : Map49} {r : Int} (h : Agrees D M) : Agrees (D.del (.int .i64 r)) (sweep M r (Maps.has (D.del (.int .i64 r)))) := by
  refine Agrees.mk' fun a ha => ?_
  by_cases har : a = r
  · subst har
    simp only [sweep, has_del_same, if_true]
    exact ⟨fun _ => trivial, fun o ho => by cases ho⟩
  · have hne : Lit.int .i64 a ≠ .int .i64 r := fun e => har (by injection e)
    rw [has_del_other hne]
    unfold sweep
    rw [if_neg har]
    cases hm : M a with
    | none => exact ⟨fun _ => h.none_ ha hm, fun o ho => by cases ho⟩
    | some o =>
      have h1 := h.some_ ha hm
      simp only [has_del_other hne, h1.1, Bool.true_eq_false, and_false, if_false]
      refine ⟨fun hc => (by cases hc), fun o2 ho => ?_⟩
      cases ho
      exact ⟨trivial, fun z => by rw [atKey_del_other hne]; exact h1.2 z⟩
theorem sweep_keep {D : DataW Unit} {M : Map49} {r x : Int} {left : Lit → Bool} (h : Agrees D (sweep M r left)) (hx : ∀ o, M x = some o → ¬ (o.f0 = 0 ∧ o.f1 = r)) : Agrees D (sweep M r (fun z => left z && !z.sameKey (.int .i64 x))) := by
  have e : sweep M r (fun z => left z && !z.sameKey (.int .i64 x)) = sweep M r left := by
    funext a
    unfold sweep
    by_cases hax : a = x
    · subst hax
      cases hm : M a with
      | none => rfl
      | some o =>
        have := hx o hm
        by_cases h1 : o.f0 = 0 <;> simp_all
    · simp [sameKey_int, hax]
  rw [e]; exact h
theorem sweep_strike {D : DataW Unit} {M : Map49} {r x : Int} {left : Lit → Bool} (h : Agrees D (sweep M r left)) {o : S49} (hm : M x = some o) (ho : o.f0 = 0 ∧ o.f1 = r) : Agrees (D.del (.int .i64 x)) (sweep M r (fun z => left z && !z.sameKey (.int .i64 x))) := by
  refine Agrees.mk' fun a ha => ?_
  by_cases hax : a = x
  · subst hax
    have : sweep M r (fun z => left z && !z.sameKey (.int .i64 a)) a = none := by
      unfold sweep
      by_cases har : a = r
      · rw [if_pos har]
      · rw [if_neg har, hm]
        simp [ho.1, ho.2, sameKey_int]
    rw [this]
    exact ⟨fun _ => has_del_same, fun o ho => by cases ho⟩
  · have hne : Lit.int .i64 a ≠ .int .i64 x := fun e => hax (by injection e)
    have e : sweep M r (fun z => left z && !z.sameKey (.int .i64 x)) a = sweep M r left a := by
      unfold sweep
      simp [sameKey_int, hax]
    rw [e, has_del_other hne]
    refine ⟨fun hn => h.none_ ha hn, fun o ho => ?_⟩
    have := h.some_ ha ho
    exact ⟨this.1, fun z => by rw [atKey_del_other hne]; exact this.2 z⟩
theorem sweep_end {M : Map49} {r : Int} {left : Lit → Bool} (h : ∀ kl, left kl = false) : sweep M r left = writ M r := by
  funext a
  unfold sweep writ
  cases M a <;> simp [h]
theorem sweep_of {D : DataW Unit} {M : Map49} {r x : Int} {left : Lit → Bool} (h : Agrees D (sweep M r left)) (hx : WF x) {o : S49} (hat : ∀ z, D.atKey (.int .i64 x) z = enc49 o) : M x = some o := by
  cases hs : sweep M r left x with
  | none =>
    have h1 := atKey_of_not_has (h.none_ hx hs)
    have h2 := (h1 (enc49 ⟨0, 0⟩)).symm.trans ((hat _).trans ((hat (enc49 ⟨1, 0⟩)).symm.trans (h1 _)))
    have := enc49_inj h2
    cases this
  | some o2 =>
    have h1 := (h.some_ hx hs).2 (enc49 o)
    rw [hat] at h1
    rw [enc49_inj h1]
    unfold sweep at hs
    split at hs
    · cases hs
    · cases hm : M x with
      | none => rw [hm] at hs; cases hs
      | some o3 =>
        rw [hm] at hs
        simp only at hs
        split at hs
        · cases hs
        · rw [hs]
set_option maxHeartbeats 1000000 in
set_option maxRecDepth 100000 in
theorem written_calls (B n : Nat) (M : Map49) (r : Int) (w : World) (hbk : Book w B n M) (hr : WF r) :
    Calls Try.prog 29 #[.map (some B), .int .i64 r] w fun e w' => e = .returned (.tuple #[]) ∧ Book w' B n (writ M r) ∧ w.grownBy w' (some B) := by
  obtain ⟨D, hown, hag⟩ := hbk
  have HR := Aside0.mk hr
  have HAG := Aside0.mk hag
  clear hr hag
  go_enter Try.func29, Try.ntmps29
  go_wp2_with (first | (at_delete; refine wpList_delete_own _ rfl _ _ 59 2 rfl 49 law2 Try.underlying59 ropnd B n D rfl hown _ _ rfl (keyOf_int_mk Try.underlying2 HR.out) ?_; intro w1 hown1 hturn1) | (at_range; refine wpList_range_own _ rfl _ 59 rfl 2 49 law2 Try.underlying59 _ B n _ rfl hown1 ?_; intro w0 hrg0 hg0 hs0) | go_in)
  go_frame
  go_loopw [4] (fun _ wr => ∃ (left : Lit → Bool) (cnt : Nat) (D' : DataW Unit), wr.ranges Try.prog 2 ropnd B w1.heap.size n D' left cnt ∧ w1.grownBy wr (some B) ∧ Agrees D' (sweep M r left)) (fun _ wr => wr.rangeLeft B w1.heap.size)
  case atStart => exact ⟨_, _, _, hrg0, hg0.but _, sweep_start HAG.out⟩
  case round =>
    obtain ⟨left, cnt, D', hrg, hgw, hag⟩ := hrel
    have HAG' := Aside0.mk hag
    clear hag
    go_wp2_with (first | (at_next; refine wpList_next_ranges _ rfl _ rfl 2 law2 ropnd (Value.int .i64) (fun o : S49 => .agg #[.int .i64 o.f0, .int .i64 o.f1]) (fun key kl hk => by obtain ⟨x, rfl, _⟩ := Maps.keyOf_int_inv Try.underlying2 hk; exact ⟨x, rfl⟩) (fun v y hv => by obtain ⟨o, rfl, _⟩ := ropnd_inv hv; exact ⟨o, rfl⟩) B w1.heap.size n _ _ _ rfl hrg ?_ ?_) | go_in)
    · intro _ hl0
      go_wp2
      go_end0
      refine ⟨rfl, ⟨D', hrg.owns, ?_⟩, hturn1.grown.trans hgw⟩
      rw [← sweep_end hl0]; exact HAG'.out
    · intro x o kl yd yp w2 cnt1 hkey hlk hv hat hrg1 hlt hg1 hs1 hen
      obtain ⟨x', ex, rfl, hwx⟩ := Maps.keyOf_int_inv Try.underlying2 hkey
      cases ex
      have hyd : enc49 o = yd := congrArg Prod.fst (Option.some.inj hv)
      subst hyd
      have hgw1 := hgw.andThen hg1 (fun j hj => by cases hj; exact Or.inl (Nat.le_refl _))
      have hmx := sweep_of HAG'.out hwx (fun z => hat z)
      clear hs1 hkey hv
      by_cases hcut : o.f0 = 0 ∧ o.f1 = r
      · have hag2 := sweep_strike HAG'.out hmx hcut
        obtain ⟨p, q⟩ := o
        obtain ⟨rfl, rfl⟩ := hcut
        have HC := Aside0.mk hag2
        clear hag2 hmx
        go_wp2_with (first | (at_delete; refine wpList_delete_ranges _ rfl _ _ 59 2 rfl 49 law2 Try.underlying59 _ B w1.heap.size n _ _ _ rfl (hrg1.alloc _) _ _ rfl (keyOf_int_mk Try.underlying2 hwx) ?_; intro w3 cnt2 hrg2 hle hturn; go_frame) | go_in)
        rw [strike_twice] at hrg2
        refine ⟨⟨_, _, _, hrg2, ?_, HC.out⟩, ?_⟩
        · exact (hgw1.andThen (World.grownBy_alloc _ _ none) (by simp)).andThen hturn.grown (fun j hj => by cases hj; exact Or.inr rfl)
        · rw [hrg2.left_eq, hrg.left_eq]; omega
      · have hag2 := sweep_keep HAG'.out (x := x) (fun o' ho' => by rw [hmx] at ho'; cases ho'; exact hcut)
        have HC := Aside0.mk hag2
        clear hag2 hmx
        obtain ⟨p, q⟩ := o
        by_cases hp : p = 0
        · subst hp
          have hq : q ≠ r := fun e => hcut ⟨rfl, e⟩
          have cq : (q == r) = false := beq_eq_false_iff_ne.mpr hq
          have HN := Aside0.mk hcut
          clear hcut hq
          go_wp2
          refine ⟨⟨_, _, _, hrg1.alloc _, hgw1.andThen (World.grownBy_alloc _ _ none) (by simp), HC.out⟩, ?_⟩
          rw [(hrg1.alloc _).left_eq, hrg.left_eq]; omega
        · have cp : (p == 0) = false := beq_eq_false_iff_ne.mpr hp
          have HN := Aside0.mk hcut
          clear hcut hp
          go_wp2
          refine ⟨⟨_, _, _, hrg1.alloc _, hgw1.andThen (World.grownBy_alloc _ _ none) (by simp), HC.out⟩, ?_⟩
          rw [(hrg1.alloc _).left_eq, hrg.left_eq]; omega
theorem mapUpdate_book {P : Program} (hP : P = Try.prog) (w : World) {ops : Array Oper} {rest : List Oper} {o : Oper} {a : Act} {Q : Exit → Act → World → Prop}
    (hg : o.guard = none) (m x y : Operand) (hop : o.op = Op.mapUpdate 59 m x y) (B n : Nat) (M : Map49) (hm : a.eval m = .map (some B)) (hbk : Book w B n M) (hn : n < maxLen) (r : Int) (hx : a.eval x = .int .i64 r) (hr : WF r) (z : S49) (hy : a.eval y = .agg #[.int .i64 z.f0, .int .i64 z.f1])
    (hK : ∀ w', Book w' B (n + 1) (fun a => if a = r then some z else M a) → w.grownBy w' (some B) → wpList P ops Q rest (a.put o.dst undef) w') :
    wpList P ops Q (o :: rest) a w := by
  subst hP
  obtain ⟨D, hown, hag⟩ := hbk
  refine wpList_mapUpdate_in w hg m x y 59 hop 2 49 law2 Try.underlying59 ropnd B n D hm hown hn _ _ _ hx hy (keyOf_int_mk Try.underlying2 hr) (enc49 z) [] (ropnd_mk z) ?_
  intro w1 hown1 hturn
  refine hK w1 ⟨_, hown1, Agrees.mk' fun a ha => ?_⟩ hturn.grown
  by_cases har : a = r
  · subst har
    rw [if_pos rfl]
    refine ⟨fun h => by (cases h), fun o2 ho => ?_⟩
    cases ho
    exact ⟨has_put_same hown.isMap (isKey_int a) _, fun y => atKey_put_same hown.isMap (isKey_int a) _ _⟩
  · have hne : Lit.int .i64 a ≠ .int .i64 r := fun e => har (by injection e)
    rw [if_neg har, has_put_other hne]
    refine ⟨fun h => hag.none_ ha h, fun o2 ho => ?_⟩
    have := hag.some_ ha ho
    exact ⟨this.1, fun y => by rw [atKey_put_other hne]; exact this.2 y⟩
theorem clear_book {P : Program} (hP : P = Try.prog) (w : World) {ops : Array Oper} {rest : List Oper} {o : Oper} {a : Act} {Q : Exit → Act → World → Prop}
    (hg : o.guard = none) (m : Operand) (hop : o.op = Op.call { callee := Callee.builtin Builtin.clear, args := #[m], argTypes := #[59] }) (B n : Nat) (M : Map49) (hm : a.eval m = .map (some B)) (hbk : Book w B n M)
    (hK : ∀ w', Book w' B 0 noMap → w.grownBy w' (some B) → wpList P ops Q rest (a.put o.dst (.tuple #[])) w') :
    wpList P ops Q (o :: rest) a w := by
  subst hP
  obtain ⟨D, ⟨es, clock, hb, F, hs, rfl⟩, hag⟩ := hbk
  refine wpList_plain hg fun K' hK' => ?_
  have hrun : (Builtin.clear_ #[59] o.type #[.map (some B)]).run Try.prog w = .ok (.tuple #[]) (ChangeMaps.setBlock w B (.map #[] clock)) := by
    simp [Builtin.clear_, run_underlying Try.underlying59, MapKept.run_getObj_map hb, MapKept.run_setObj_map _ hb, ChangeMaps.setBlock, Result.andThen]
  unfold Oper.wp
  simp [execOp, hop, resolve, invoke, builtin, hm, hrun, Result.andThen]
  refine hK' _ _ (hK _ ⟨.map [], ⟨#[], clock, ChangeMaps.heap_setBlock_same hb _, ⟨by simp, MapKept.stamped_empty clock, by simp⟩, Nat.le_refl _, rfl⟩, fun a _ => rfl⟩ ⟨rfl, rfl, rfl, by simp [ChangeMaps.setBlock], fun i _ hi => ChangeMaps.heap_setBlock_other hb _ (fun e => hi (by rw [e]))⟩)
end Go.Proofs.Ytjekpkpmoanadaa.PCop
