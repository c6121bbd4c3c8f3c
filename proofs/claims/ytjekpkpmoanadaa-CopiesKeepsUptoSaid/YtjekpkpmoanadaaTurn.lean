/- Slices cloned, operands at their sources, an instruction at its sources: the contracts of slices.Clone, all, turn. For every world. -/
import Derived.Test.YtjekpkpmoanadaaBook
import Derived.WalkSpells
namespace Go.Proofs.Ytjekpkpmoanadaa.PCop
open Go.RowKit Go.Proofs.Ytjekpkpmoanadaa.Lit Go.Proofs.Ytjekpkpmoanadaa.OwnCells Go.Proofs.YtjekpkpmoanadaaW.PrintWords Go.Proofs.YtjekpkpmoanadaaW.PrintLast Go.Proofs.YtjekpkpmoanadaaW.PrintMore
open Go.Maps
set_option linter.unusedVariables false
set_option linter.unusedSimpArgs false
theorem rows_of {α : Type} {d : Kd α} {w : World} {A : Option Addr} {n : Nat} {xs : List α} (h : d.C w A n xs) : ∃ rows : List (List Value), rows.length = xs.length ∧ (∀ (j : Nat) (x : α) (cs : List Value), xs[j]? = some x → rows[j]? = some cs → d.K w x cs) ∧ ReadsRow (fun x c => c = x ∧ c.length = d.sz ∧ ∀ u ∈ c, u.oneCell' = true) d.sz w A n rows := by
  obtain ⟨h1, h2, h3⟩ := h
  rcases Nat.eq_zero_or_pos n with h0 | h0
  · subst h0
    have : xs = [] := List.eq_nil_of_length_eq_zero h1
    subst this
    exact ⟨[], rfl, fun j x cs h => by simp at h, rfl, h2, fun h => absurd h (by decide)⟩
  · obtain ⟨ad, rfl, hc⟩ := h3 h0
    have hf : ∀ j : Nat, ∃ c : List Value, ∀ x, xs[j]? = some x → c.length = d.sz ∧ d.K w x c ∧ ∀ i u, c[i]? = some u → w.cell? (ad.add (j * d.sz + i)) = some u := fun j => by
      cases hx : xs[j]? with
      | none => exact ⟨[], fun x hx => by cases hx⟩
      | some x => obtain ⟨c, hc⟩ := hc j x hx; exact ⟨c, fun y hy => by cases hy; exact hc⟩
    obtain ⟨f, hf⟩ := Classical.axiomOfChoice hf
    have hat : ∀ (j : Nat) (cs : List Value), ((List.range xs.length).map f)[j]? = some cs → j < xs.length ∧ cs = f j := fun j cs hj => by
      obtain ⟨hl, he⟩ := List.getElem?_eq_some_iff.1 hj
      simp at hl he
      exact ⟨hl, he.symm⟩
    refine ⟨(List.range xs.length).map f, by simp, fun j x cs hx hj => ?_, by simp [h1], h2, fun _ => ⟨ad, rfl, fun j cs hj => ?_⟩⟩
    · obtain ⟨_, rfl⟩ := hat j cs hj
      exact (hf j x hx).2.1
    · obtain ⟨hl, rfl⟩ := hat j cs hj
      obtain ⟨k1, k2, k3⟩ := hf j _ (List.getElem?_eq_getElem hl)
      exact ⟨f j, k1, ⟨rfl, k1, d.K_one k2⟩, k3⟩
/-- an empty row of one's own -/
theorem R_empty {α : Type} (d : Kd α) (e : Nat) (w : World) : d.R e (w.alloc (.cells #[] e)) w.heap.size (fun _ => True) (.slice (some ⟨w.heap.size, 0, none⟩) 0 0) [] :=
  ⟨fun _ _ => trivial, [], ⟨by simp, .inr ⟨w.heap.size, 0, #[], rfl, Nat.le_refl _, heap_alloc_new w _, Nat.le_refl _, by decide, by simp, by simp⟩⟩, Reps.none _ _⟩
set_option maxHeartbeats 1000000 in
set_option maxRecDepth 100000 in
theorem clone_ints (A : Option Addr) (c : Nat) (l : List Int) (w : World) (hA : (Kd.int .i64).C w A l.length l) (hl : l.length * 8 ≤ 140737488355328) :
    Calls Try.prog 27 #[.slice A l.length c] w fun e w' => ∃ v, e = .returned v ∧ (Kd.int .i64).R 3 w' w.heap.size (fun _ => True) v l ∧ Below w.heap.size w w' := by
  cases A with
  | none =>
    have h0 : l = [] := by
      cases l with
      | nil => rfl
      | cons x r => obtain ⟨ad, he, _⟩ := hA.2.2 (by simp); cases he
    subst h0
    have he := fun w => Lib.run_eql_slice_nil (P := Try.prog) w 41 3 none 0 c 0 0 Try.underlying41
    go_enter Try.func27, Try.ntmps27
    go_wp2
    go_ret
    exact ⟨_, rfl, Kd.R_nil _ _ _ _ _, Below.refl _ _⟩
  | some ad =>
    have HA := Aside0.mk hA
    clear hA
    have he := fun w => Lib.run_eql_slice_nil (P := Try.prog) w 41 3 (some ad) l.length c 0 0 Try.underlying41
    go_enter Try.func27, Try.ntmps27
    have HR := Aside0.mk (R_empty (Kd.int .i64) 3 w)
    have HL := Aside0.mk hl
    clear hl
    go_wp2_with (first | (at_builtin; refine Kd.R_append_rows (Kd.int .i64) (Rr := (Kd.int .i64).K w) (w0 := w) w.heap.size rfl _ _ 41 3 (.int .i64 0) 8 rfl Try.underlying41 (by kernel_rfl) rfl (by decide) (by decide) _ [] l (some ad) l.length c (fun _ => True) (fun _ => False) rfl rfl HR.out ?hA (fun x cs h => h) (fun k hk => hk.elim) (fun _ _ => trivial) (below_alloc (Below.refl _ _) _) (by simp) (by have := HL.out; simp; omega) ?_; (case hA => exact Kd.C_below HA.out (below_alloc (Below.refl _ _) _)); intro v1 w1 h1 h2 _ _) | go_in)
    go_ret
    exact ⟨_, rfl, h1, h2⟩
set_option maxHeartbeats 1000000 in
set_option maxRecDepth 100000 in
/-- the new row holds the old cells -/
theorem clone_shapes (A : Option Addr) (c : Nat) (l : List S65) (w0 w : World) (hA : k65.C w0 A l.length l) (h0b : Below w0.heap.size w0 w) (hl : l.length * 40 ≤ 140737488355328) :
    Calls Try.prog 46 #[.slice A l.length c] w fun e w' => ∃ v rows, e = .returned v ∧ (Kd.raw 3).R 65 w' w.heap.size (fun _ => True) v rows ∧ rows.length = l.length ∧ (∀ (j : Nat) (x : S65) (cs : List Value), l[j]? = some x → rows[j]? = some cs → k65.K w0 x cs) ∧ Below w.heap.size w w' := by
  cases A with
  | none =>
    have h0 : l = [] := by
      cases l with
      | nil => rfl
      | cons x r => obtain ⟨ad, he, _⟩ := hA.2.2 (by simp); cases he
    subst h0
    have he := fun w => Lib.run_eql_slice_nil (P := Try.prog) w 45 65 none 0 c 0 0 Try.underlying45
    go_enter Try.func46, Try.ntmps46
    go_wp2
    go_ret
    exact ⟨_, [], rfl, Kd.R_nil _ _ _ _ _, rfl, fun j x cs h => by simp at h, Below.refl _ _⟩
  | some ad =>
    have HA := Aside0.mk hA
    have H0B := Aside0.mk h0b
    clear hA h0b
    have he := fun w => Lib.run_eql_slice_nil (P := Try.prog) w 45 65 (some ad) l.length c 0 0 Try.underlying45
    go_enter Try.func46, Try.ntmps46
    have HR := Aside0.mk (R_empty (Kd.raw 3) 65 w)
    have HL := Aside0.mk hl
    clear hl
    obtain ⟨rows, hrl, hrk, hrr⟩ := rows_of HA.out
    have HX := Aside0.mk (And.intro hrl (And.intro hrk hrr))
    clear hrl hrk hrr
    go_wp2_with (first | (at_builtin; refine Kd.R_append_rows (Kd.raw 3) (Rr := fun x c => c = x ∧ c.length = 3 ∧ ∀ u ∈ c, u.oneCell' = true) (w0 := w) w.heap.size rfl _ _ 45 65 (.agg #[.int .i64 0, .int .i64 0, .slice none 0 0]) 40 rfl Try.underlying45 (by kernel_rfl) rfl (by decide) (by decide) _ [] rows (some ad) l.length c (fun _ => True) (fun _ => False) rfl rfl HR.out ?hA (fun x cs h => h) (fun k hk => hk.elim) (fun _ _ => trivial) (below_alloc (Below.refl _ _) _) (by simp) (by have := HL.out; simp; omega) ?_; (case hA => exact ReadsRow.imp_ HX.out.2.2 (wB H0B.out (below_alloc (Below.refl _ _) _)) (fun _ _ h => h)); intro v1 w1 h1 h2 _ _) | go_in)
    go_ret
    exact ⟨_, rows, rfl, h1, HX.out.1, HX.out.2.1, h2⟩
/-- a row of operands, value by value -/
def cells49 (l : List S49) : List Value := l.flatMap fun o => [.int .i64 o.f0, .int .i64 o.f1]
theorem R49_of {w : World} {base : Nat} {v : Value} {l : List S49} (h : w.ownsRow base 49 2 v l.length (cells49 l)) : k49.R 49 w base (fun _ => True) v l := by
  refine ⟨fun _ _ => trivial, cells49 l, h, ?_⟩
  clear h
  induction l with
  | nil => exact Reps.none _ _
  | cons o r ih => exact Reps.c2 (k49_mkM _ _ _ o) ih
theorem R_form {α : Type} {d : Kd α} {e base : Nat} {ok : Nat → Prop} {w : World} {v : Value} {xs : List α} (h : d.R e w base ok v xs) {b : Nat} (hb : v.ownBlock = some b) : ∃ cap, v = .slice (some ⟨b, 0, none⟩) xs.length cap := by
  obtain ⟨A, c, rfl, _⟩ := Kd.R_reads h
  obtain ⟨_, inner, ho, _⟩ := h
  rcases ho.2 with ⟨h0, _⟩ | ⟨g, cap, cur, h0, _⟩
  · injection h0 with h1 h2 h3
    subst h1
    simp [Value.ownBlock] at hb
  · injection h0 with h1 h2 h3
    subst h1
    simp [Value.ownBlock] at hb
    subst hb
    exact ⟨c, rfl⟩
/-- the first k are f's, the others zeros -/
def part {α β : Type} (f : α → β) (z : β) (l : List α) (k : Nat) : List β := (l.take k).map f ++ List.replicate (l.length - k) z
theorem part_zero {α β : Type} (f : α → β) (z : β) (l : List α) : part f z l 0 = List.replicate l.length z := by simp [part]
theorem part_all {α β : Type} (f : α → β) (z : β) (l : List α) : part f z l l.length = l.map f := by simp [part]
theorem part_set {α β : Type} (f : α → β) (z : β) (l : List α) (k : Nat) (x : α) (hx : l[k]? = some x) : (part f z l k).set k (f x) = part f z l (k + 1) := by
  obtain ⟨hk, rfl⟩ := List.getElem?_eq_some_iff.1 hx
  unfold part
  rw [List.set_append_right _ _ (by simp; omega)]
  have e : k - ((l.take k).map f).length = 0 := by simp; omega
  rw [e, show l.length - k = (l.length - (k + 1)) + 1 by omega, List.replicate_succ, List.set_cons_zero, List.take_succ_eq_append_getElem hk, List.map_append, List.append_assoc]
  rfl
theorem rd_T49_at {l : List S49} {k : Nat} (h : k < l.length) : l[k]? = some (rd_T49 l (k : Int)) := by
  unfold rd_T49
  rw [Int.toNat_natCast, List.getD_eq_getElem?_getD, List.getElem?_eq_getElem h]; rfl
theorem part_get {α β : Type} (f : α → β) (z : β) (l : List α) (k : Nat) (h : k < l.length) : (part f z l k)[k]? = some z := by
  unfold part
  have e : ((l.take k).map f).length = k := by simp; omega
  rw [List.getElem?_append_right (by rw [e]; exact Nat.le_refl _), e, Nat.sub_self, List.getElem?_replicate, if_pos (by omega)]
set_option maxHeartbeats 1000000 in
set_option maxRecDepth 100000 in
theorem all_calls (B n : Nat) (M : Map49) (A : Option Addr) (c : Nat) (l : List S49) (w : World) (hbk : Book w B n M) (hA : k49.C w A l.length l) (hl : l.length * 16 ≤ 140737488355328) (hw : ∀ o ∈ l, WF o.f1) :
    Calls Try.prog 45 #[.map (some B), .slice A l.length c] w fun e w' => ∃ v, e = .returned v ∧ k49.R 49 w' w.heap.size (fun _ => True) v (l.map (ask M)) ∧ Below w.heap.size w w' := by
  have HBK := Aside0.mk hbk
  have HA := Aside0.mk hA
  have HW := Aside0.mk hw
  clear hbk hA hw
  go_enter Try.func45, Try.ntmps45
  have HL := Aside0.mk hl
  have hrep : (List.replicate ((l.length : Int)).toNat z49).length = l.length := by simp
  go_wp2_with (first | ((with_reducible refine gate_dst (N := 10) rfl ?_); refine Kd.R_make k49 (w0 := w) w.heap.size 49 rfl rfl 44 _ _ rfl (l.length : Int) rfl rfl Try.underlying44 (.agg #[.int .i64 0, .int .i64 0]) 16 (by kernel_rfl) rfl (by decide) (by decide) z49 (ok := fun _ => True) (okp := fun _ => True) (k49_mkM _ _ _ z49) (fun _ h => h) trivial (by omega) (by have := HL.out; simp; omega) (Below.refl _ _) (Nat.le_refl _) ?_; intro v1 w1 hr1 hb1 hg1 hn1; obtain ⟨b, hv, hle⟩ := hn1; obtain ⟨cap, rfl⟩ := R_form hr1 hv; rw [hrep] at hr1 ⊢) | go_in)
  rw [Int.toNat_natCast, ← part_zero (ask M) z49 l] at hr1
  have HLE := Aside0.mk hle
  clear hle hv hg1 hrep
  go_loopw [13] (fun t wr => ∃ k : Nat, k ≤ l.length ∧ t = .int .i64 k ∧ k49.R 49 wr w.heap.size (fun _ => True) (.slice (some ⟨b, 0, none⟩) l.length cap) (part (ask M) z49 l k) ∧ Below w.heap.size w wr) (fun t _ => l.length - (intOf t).toNat)
  case atStart => exact ⟨0, Nat.zero_le _, rfl, hr1, hb1⟩
  case round =>
    obtain ⟨k, hk, rfl, hr, hb⟩ := hrel
    by_cases hlt : k < l.length
    · obtain ⟨ad, rfl, q0, q1⟩ := at_T49 (Kd.C_below HA.out hb) (k : Int) (by omega) (by omega)
      have hm := rd_T49_at hlt
      have hwf := HW.out _ (List.mem_of_getElem? hm)
      rw [Int.toNat_natCast] at q0 q1
      generalize rd_T49 l (k : Int) = x at q0 q1 hm hwf
      obtain ⟨x0, x1⟩ := x
      have HWF := Aside0.mk hwf
      have HM := Aside0.mk hm
      have HR := Aside0.mk hr
      have HB := Aside0.mk hb
      clear hwf hm hr hb hr1 hb1
      go_wp2_with (fail)
      have hb0 := below_alloc (Below.refl _ wr) (.cells #[.int .i64 x0, .int .i64 x1] 49)
      have HB1 := Aside0.mk (wB HB.out hb0)
      have HR1 := Aside0.mk (Kd.R_below HR.out hb0)
      clear hb0
      refine (ask_calls B n M ⟨x0, x1⟩ _ (HBK.out.below HB1.out) HWF.out).mono ?_
      rintro e w2 ⟨rfl, hb2⟩
      replace HB1 := Aside0.mk (wB HB1.out hb2)
      replace HR1 := Aside0.mk (Kd.R_below HR1.out hb2)
      clear hb2 q0 q1
      have hps := part_set (ask M) z49 l k _ HM.out
      have HPS := Aside0.mk hps
      have hpg := part_get (ask M) z49 l k hlt
      clear hps
      obtain ⟨ad', c', hcE, hcl, hcK, hcc⟩ := Kd.C_get (Kd.R_reads' HR1.out).2.2 z49 (k : Int) (by omega) (by simp [part]; omega)
      have HC := Aside0.mk (And.intro hcl hcc)
      obtain rfl : (⟨b, 0, none⟩ : Addr) = ad' := Option.some.inj hcE
      clear hcE hcl hcK hcc hpg
      generalize ask M ⟨x0, x1⟩ = y at *
      go_wp2_with (first | ((with_reducible refine gate_store (t := 49) (p := 23) rfl ?_); refine Classical.byContradiction (fun hcon => ?hst)) | go_in)
      refine hcon ?_
      clear hcon
      refine Kd.R_store k49 (w0 := w) w.heap.size rfl rfl 49 _ _ rfl 49 (k : Int) 0 (part (ask M) z49 l k) y (.agg #[.int .i64 y.f0, .int .i64 y.f1]) [.int .i64 y.f0, .int .i64 y.f1] c' (fun _ => True) (fun _ => False) rfl ?ho rfl rfl (by kernel_rfl) (by simp; exact ⟨rfl, rfl⟩) HR1.out (by omega) (by omega) HC.out.1 ?hcc (Nat.le_refl 2) ?hM (fun k hk => hk.elim) HB1.out ?_
      case ho => show k * 2 = _; rw [Int.toNat_natCast]; rfl
      case hcc => intro j u hu; have := HC.out.2 j u hu; rwa [add_plain] at this
      case hM =>
        have e : c'.drop (0 + [Value.int .i64 y.f0, Value.int .i64 y.f1].length) = [] := List.drop_eq_nil_of_le (by rw [HC.out.1]; exact Nat.le_refl 2)
        rw [e]
        exact k49_mkM _ _ _ y
      intro w3 hr3 hb3 _
      rw [Int.toNat_natCast, HPS.out] at hr3
      go_wp2
      go_roundw
      case rel => exact ⟨k + 1, by omega, by go_num, hr3, hb3⟩
      case measure => simp [intOf]; omega
    · obtain rfl : k = l.length := by omega
      rw [part_all] at hr
      go_wp2
      go_ret
      exact ⟨_, rfl, hr, hb⟩
end Go.Proofs.Ytjekpkpmoanadaa.PCop
