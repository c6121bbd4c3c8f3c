/- lentShapes: the same shapes, marks behind their operands; and the full lists. For every world. -/
import Derived.Test.YtgbbcjooieggpaaPFrx3
import Derived.Test.YtgbbcjooieggpaaRegLast3
import Derived.Test.YtgbbcjooieggpaaLit
import Derived.Test.YtgbbcjooieggpaaOwnCells
namespace Go.Proofs.Ytgbbcjooieggpaa.PFr
open Go.RowKit Go.Proofs.Ytgbbcjooieggpaa.Lit Go.Proofs.Ytgbbcjooieggpaa.OwnCells Go.Proofs.YtgbbcjooieggpaaW.PrintWords Go.Proofs.YtgbbcjooieggpaaW.PrintLast Go.Proofs.YtgbbcjooieggpaaW.PrintMore
set_option linter.unusedVariables false
set_option linter.unusedSimpArgs false
def mkO (i : Nat) : S44 := ⟨-9, (i : Int)⟩
def full (l : List S44) : List S44 := l ++ (List.range' 0 16).map mkO
theorem full_len (l : List S44) : (full l).length = l.length + 16 := by simp [full]
theorem full_take (l : List S44) : (full l).take l.length = l := by unfold full; rw [List.take_left']; rfl
theorem full_snoc (l : List S44) (k : Nat) : l ++ (List.range' 0 (k + 1)).map mkO = l ++ (List.range' 0 k).map mkO ++ [mkO k] := by
 rw [show List.range' 0 (k + 1) = List.range' 0 k ++ [k] by rw [List.range'_concat]; simp, List.map_append, List.append_assoc]; rfl
theorem rd67_at {l : List S67} {p : Nat} (h : p < l.length) : rd_T67 l (p : Int) = l[p] := by
 unfold rd_T67; rw [Int.toNat_natCast, List.getD_eq_getElem?_getD, List.getElem?_eq_getElem h]; rfl
theorem rd44_at {l : List S44} {p : Nat} (h : p < l.length) : rd_T44 l (p : Int) = l[p] := by
 unfold rd_T44; rw [Int.toNat_natCast, List.getD_eq_getElem?_getD, List.getElem?_eq_getElem h]; rfl
/-! copies of operands -/
theorem wr1 (i : Int) (h : -9223372036854775808 ≤ i ∧ i < 9223372036854775807) : wrap64 (i + 1) = i + 1 := by unfold wrap64; omega
theorem copyO_l0 (r : List S44) (hr : r.length ≤ 8796093021952) : ∀ d i : Nat, i + d = r.length → Ev (fun k => portageref0_CopyOpnds.l0 k r (r.take i) (i : Int)) r := by
 intro d
 induction d with
 | zero =>
  intro i hi; obtain rfl : i = r.length := by omega
  refine ⟨1, fun k hk => ?_⟩; obtain ⟨k, rfl⟩ : ∃ m, k = m + 1 := ⟨k-1, by omega⟩; simp only [portageref0_CopyOpnds.l0]; rw [if_neg (by omega), List.take_length]
 | succ d ih =>
  intro i hi; have hlt : i < r.length := by omega
  refine Ev.step (fun k => ?_) (ih (i+1) (by omega)); simp only [portageref0_CopyOpnds.l0]; rw [if_pos (by omega), if_pos (by omega), if_pos (by rw [List.length_take]; omega), wr1 (i : Int) (by omega)]; have : (⟨(rd_T44 r (i : Int)).f0, (rd_T44 r (i : Int)).f1⟩ : S44) = r[i] := rd44_at hlt; rw [this, List.take_succ_eq_append_getElem hlt]
  rfl
theorem copyO (r : List S44) (hr : r.length ≤ 8796093021952) : Ev (fun k => portageref0_CopyOpnds.f k r) r := by
 have := copyO_l0 r hr r.length 0 (by omega); rw [List.take_zero] at this; exact this
theorem copy_opnds (A : Option Addr) (c : Nat) (l : List S44) (w : World) (hA : k44.C w A l.length l) (hc : l.length ≤ c) (hl : l.length ≤ 8796093021952) :
    Calls Try.prog 44 #[.slice A l.length c] w fun e w' => ∃ B d, e = .returned (.slice B l.length d) ∧ k44.R 44 w' w.heap.size (fun _ => True) (.slice B l.length d) l ∧ Below w.heap.size w w' := by
 obtain ⟨k, hk⟩ := copyO l hl; refine (portageref0_CopyOpnds.calls k A c l l w hA hc (hk k (Nat.le_refl _))).mono ?_
 rintro e w' ⟨v, rfl, hR, hb⟩; obtain ⟨B, d, rfl, _⟩ := Kd.R_reads hR; exact ⟨B, d, rfl, hR, hb⟩
theorem cut_cap {P : Program} (t e : TypeId) (kh : IntKind) {i : TypeInfo} (ht : P.underlying t = some (.slice e)) (hi : P.info? e = some i) (A : Option Addr) (n c : Nat) (j : Int) (h0 : 0 ≤ j) (hm : j ≤ c) :
    ∀ W : World, (Instr.slice t (.slice A n c) none (some (.int kh j)) none).run P W = .ok (.slice A j.toNat c) W := by
 intro W; have hel : P.elem t = e := by simp [Program.elem, ht]
 have hu : P.underlying t = some (.slice (P.elem t)) := by rw [hel]; exact ht
 have ha : (A.map fun x => x.add 0) = A := by cases A <;> simp [Addr.add]
 rw [run_slice_h W t A n c hu kh j h0 (by omega), hel]; simp [sizeOf, typeInfo, hi, sliced, Result.andThen, ha]
theorem bodies (w : World) (o : Obj) : Below w.heap.size w (w.alloc o) := below_alloc (Below.refl _ _) o
theorem M_apart {α β : Type} {d : Kd α} {d' : Kd β} {e base base' : Nat} {ok ok' : Nat → Prop} {w : World} {v : Value} {ys : List β} {x : α} {cs : List Value} (h : d.M w base ok x cs) (hv : d'.R e w base' ok' v ys) (ht : ∀ q, q ∈ d.E → q ≠ e) : d.M w base (fun k => ok k ∧ some k ≠ v.ownBlock) x cs := by
 obtain ⟨_, inner, ho, _⟩ := hv
 cases hob : v.ownBlock with
 | none => exact d.M_mono (fun k hk => ⟨hk, by simp⟩) h
 | some g =>
  obtain ⟨cells, hc⟩ := own_typed ho g hob; exact d.M_mono (fun k hk => ⟨hk.1, fun he => hk.2 (by injection he)⟩) (Kd.M_types h hc ht)
theorem R_ge {n d : Nat} {w : World} {base : Nat} {α : Type} {dd : Kd α} {e : Nat} {ok : Nat → Prop} {B : Option Addr} {xs : List α} (h : dd.R e w base ok (.slice B n d) xs) : n ≤ d := (Kd.R_reads' h).2.1
/-- what holds of the world while a list is made (20) and appended (21) -/
def InvA (wS : World) (o : Obj) (G : World → Prop) (D : Nat → Prop) (w : World) : Prop := (¬ D 20 ∧ ¬ D 21 ∧ w = wS) ∨ (D 20 ∧ ¬ D 21 ∧ w = wS.alloc o) ∨ (D 20 ∧ D 21 ∧ G w)
section
variable {wS w w1 : World} {o : Obj} {G : World → Prop} {D : Nat → Prop} {row : Option Nat}
theorem InvA_pure {i : Nat} (h : InvA wS o G D w) (h6 : 20 ≠ i) (h7 : 21 ≠ i) : InvA wS o G (fun j => D j ∨ j = i) w := by
 rcases h with ⟨a, b, c⟩ | ⟨a, b, c⟩ | ⟨a, b, c⟩
 ·exact .inl ⟨fun h => h.elim a h6, fun h => h.elim b h7, c⟩
 ·exact .inr (.inl ⟨.inl a, fun h => h.elim b h7, c⟩)
 ·exact .inr (.inr ⟨.inl a, .inl b, c⟩)
theorem InvA_start (h : InvA wS o G D w) (h6 : ¬ D 20) : wS = w := by
 rcases h with ⟨a, b, c⟩ | ⟨a, b, c⟩ | ⟨a, b, c⟩
 ·exact c.symm
 ·exact absurd a h6
 ·exact absurd a h6
theorem InvA_made (h : InvA wS o G D w) (h6 : ¬ D 20) : InvA wS o G (fun j => D j ∨ j = 20) (wS.alloc o) := by
 rcases h with ⟨a, b, c⟩ | ⟨a, b, c⟩ | ⟨a, b, c⟩
 ·exact .inr (.inl ⟨.inr rfl, fun h => h.elim b (by decide), rfl⟩)
 ·exact absurd a h6
 ·exact absurd a h6
theorem InvA_mid (h : InvA wS o G D w) (h6 : D 20) (h7 : ¬ D 21) : wS.alloc o = w := by
 rcases h with ⟨a, b, c⟩ | ⟨a, b, c⟩ | ⟨a, b, c⟩
 ·exact absurd h6 a
 ·exact c.symm
 ·exact absurd b h7
theorem InvA_done (h : InvA wS o G D w) (h6 : D 20) (hG : G w1) : InvA wS o G (fun j => D j ∨ j = 21) w1 := .inr (.inr ⟨.inl h6, .inr rfl, hG⟩)
theorem InvA_grown (h : InvA wS o (fun w => wS.grownBy w row) D w) : wS.grownBy w row := by
 rcases h with ⟨a, b, c⟩ | ⟨a, b, c⟩ | ⟨a, b, c⟩
 ·rw [c]; exact World.grownBy.refl _ _
 ·rw [c]; exact World.grownBy_alloc _ _ _
 ·exact c
theorem InvA_end (h : InvA wS o G D w) (h7 : D 21) : G w := by
 rcases h with ⟨a, b, c⟩ | ⟨a, b, c⟩ | ⟨a, b, c⟩
 ·exact absurd h7 b
 ·exact absurd h7 b
 ·exact c
end
def SLS (j : Nat) (w w1 : World) : Prop := if j = 20 then ∃ o, w1 = w.alloc o else if j = 21 then True else w1 = w
def dLS : Nat → Option Tmp
  | 0 => some 34
  | 1 => some 35
  | 2 => some 36
  | 3 => some 37
  | 4 => some 38
  | 5 => some 39
  | 6 => some 40
  | 7 => some 41
  | 8 => some 42
  | 9 => some 43
  | 10 => some 44
  | 11 => some 45
  | 12 => some 46
  | 13 => some 47
  | 14 => some 48
  | 15 => some 49
  | 16 => some 50
  | 17 => some 51
  | 18 => some 52
  | 19 => some 53
  | 20 => some 54
  | 21 => some 55
  | _ => none
def FLS (AV P7 A2 : Option Addr) (ad : Addr) (nl cL mV cV d8 c2 k sz base : Nat) (x : S67) (B : List S67) : Nat → World → Value → Prop
  | 0, _, v => v = .slice AV mV cV
  | 1, _, v => v = .slice (some ad) nl cL
  | 2, _, v => v = .int .i64 (k : Int)
  | 3, _, v => v = .pointer (some (ad.add (k * 3)))
  | 4, _, v => v = .pointer (some (ad.add (k * 3)))
  | 5, _, v => v = .int .i64 x.f0
  | 6, _, v => v = .slice (some ad) nl cL
  | 7, _, v => v = .int .i64 (k : Int)
  | 8, _, v => v = .pointer (some (ad.add (k * 3)))
  | 9, _, v => v = .pointer (some ⟨(ad.add (k * 3)).block, (ad.add (k * 3)).off + 1, none⟩)
  | 10, _, v => v = .int .i64 x.f1
  | 11, _, v => v = .slice P7 (x.f2.length + 16) d8
  | 12, _, v => v = .slice (some ad) nl cL
  | 13, _, v => v = .int .i64 (k : Int)
  | 14, _, v => v = .pointer (some (ad.add (k * 3)))
  | 15, _, v => v = .pointer (some ⟨(ad.add (k * 3)).block, (ad.add (k * 3)).off + 2, none⟩)
  | 16, _, v => v = .slice A2 x.f2.length c2
  | 17, _, v => v = .int .i64 (x.f2.length : Int)
  | 18, _, v => v = .slice P7 x.f2.length d8
  | 19, _, v => v = .agg #[.int .i64 x.f0, .int .i64 x.f1, .slice P7 x.f2.length d8]
  | 20, _, v => v = .slice (some ⟨sz, 0, none⟩) 1 1
  | 21, w, v => k67.R 67 w base (fun _ => True) v (B ++ [x])
  | _, _, _ => True
theorem FLS_keep (AV A7 A2 : Option Addr) (ad : Addr) (nl cL mV cV d7 c2 k sz base : Nat) (x : S67) (B : List S67) (i j : Nat) (w w1 : World) (v : Value) (hij : i ≠ j) (h : FLS AV A7 A2 ad nl cL mV cV d7 c2 k sz base x B i w v) (hs : SLS j w w1) : FLS AV A7 A2 ad nl cL mV cV d7 c2 k sz base x B i w1 v := by
 match i with
 | 0 | 1 | 2 | 3 | 4 | 5 | 6 | 7 | 8 | 9 | 10 | 11 | 12 | 13 | 14 | 15 | 16 | 17 | 18 | 19 | 20 => exact h
 | 21 =>
  unfold SLS at hs
  by_cases h6 : j = 20
  ·rw [if_pos h6] at hs; obtain ⟨o, rfl⟩ := hs; exact Kd.R_alloc h o
  ·rw [if_neg h6, if_neg (fun e => hij e.symm)] at hs; rw [hs]; exact h
 | (n + 22) => exact h
structure SmallS (l : List S67) : Prop where
  len : l.length ≤ 1048576
  each : ∀ s ∈ l, s.f2.length ≤ 1048576
def fulls (l : List S67) : List (List S44) := l.map fun s => full s.f2
theorem inf44 : (Try.prog.info? 44).map (fun i => (i.zero, i.size, i.bytes)) = some (some (.agg #[(.int .i64 0), (.int .i64 0)]), 2, 16) := by kernel_rfl
set_option maxHeartbeats 8000000 in
set_option maxRecDepth 100000 in
theorem lent_shapes (AL : Option Addr) (cL : Nat) (l : List S67) (w : World) (hl : k67.C w AL l.length l) (hcl : l.length ≤ cL) (hs : SmallS l) :
    Calls Try.prog 21 #[.slice AL l.length cL] w fun e w' => ∃ v u, e = .returned (.tuple #[v, u]) ∧ k67.R 67 w' w.heap.size (fun _ => True) v l ∧ (Kd.slice 44 k44).R 39 w' w.heap.size (fun _ => True) u (fulls l) ∧ Below w.heap.size w w' := by
 have HL := Aside0.mk hl; have HSM := Aside0.mk hs; have hlen := hs.len; obtain ⟨i44, hi44, _⟩ := Option.map_eq_some_iff.1 inf44; have HI44 := Aside0.mk hi44; clear hl hs hi44; go_enter Try.func21, Try.ntmps21; go_wp2_with (fail)
 go_loopw [4, 5, 6, 7, 8] (fun v u t _ _ wr => ∃ k : Nat, k ≤ l.length ∧ t = .int .i64 k ∧ k67.R 67 wr w.heap.size (fun _ => True) v (l.take k) ∧ (Kd.slice 44 k44).R 39 wr w.heap.size (fun _ => True) u (fulls (l.take k)) ∧ Below w.heap.size w wr) (fun _ _ t _ _ _ => l.length - (intOf t).toNat)
 case atStart => exact ⟨0, Nat.zero_le _, rfl, Kd.R_nil _ _ _ _ _, Kd.R_nil _ _ _ _ _, Below.refl _ _⟩
 case round =>
  obtain ⟨k, hk, rfl, hO, hU, hb⟩ := hrel; have HO := Aside0.mk hO; have HU := Aside0.mk hU; have HBB := Aside0.mk hb; clear hO hU hb; obtain ⟨AV, mV, cV, rfl⟩ : ∃ P m d, u4 = .slice P m d := let ⟨A, c, h, _⟩ := Kd.R_reads HO.out; ⟨_, _, _, h⟩
  obtain ⟨AU, mU, cU, rfl⟩ : ∃ P m d, u5 = .slice P m d := let ⟨A, c, h, _⟩ := Kd.R_reads HU.out; ⟨_, _, _, h⟩
  have hmV : k = mV := by rw [(Kd.R_reads' HO.out).1, List.length_take]; omega
  subst hmV
  by_cases hlt : k < l.length
  ·obtain ⟨ad, A2, c2, rfl, x0, x1, x2, hA2, hC2⟩ := at_T67 HL.out (k : Int) (by omega) (by omega); rw [Int.toNat_natCast] at x0 x1 x2; have hx2 : (rd_T67 l (k : Int)).f2.length ≤ 1048576 := by rw [rd67_at hlt]; exact HSM.out.each _ (List.getElem_mem _)
   have hxe : l.take k ++ [rd_T67 l (k : Int)] = l.take (k + 1) := by rw [List.take_succ_eq_append_getElem hlt, rd67_at hlt]
   generalize rd_T67 l (k : Int) = x at *
   have HX2 := Aside0.mk hx2; have HXE := Aside0.mk hxe; have HKL := Aside0.mk hlt; have XC := Aside0.mk (fun W (b : Below w.heap.size w W) => And.intro (pw_cell_below b x0) (And.intro (pw_cell_below b x1) (pw_cell_below b x2))); have HCA := Aside0.mk hA2; have HCC := Aside0.mk hC2; clear x0 x1 x2 hA2 hC2 hx2 hxe; obtain ⟨x0, x1, x2⟩ := XC.out wr HBB.out; go_wp2_with (fail)
   clear x0 x1 x2; refine (copy_opnds A2 c2 x.f2 wr (Kd.C_below HCC.out HBB.out) HCA.out (by have := HX2.out; omega)).mono ?_
   rintro e w3 ⟨B7, d7, rfl, hR7, hb3⟩; have HR7 := Aside0.mk hR7; replace HO := Aside0.mk (Kd.R_old HO.out hb3); replace HU := Aside0.mk (Kd.R_old HU.out hb3); have HSW := Aside0.mk HBB.out.size; replace HBB := Aside0.mk (HBB.out.trans (hb3.mono HBB.out.size)); have HS3 := Aside0.mk hb3.size; clear hR7 hb3
   generalize wr.heap.size = sz at *
   go_wp2_with (fail)
   go_loopw [7, 8] (fun v t wr => ∃ j : Nat, j ≤ 16 ∧ t = .int .i64 j ∧ k67.R 67 wr w.heap.size (fun k_ => True ∧ k_ < sz) (.slice AV k cV) (l.take k) ∧ (Kd.slice 44 k44).R 39 wr w.heap.size (fun k_ => True ∧ k_ < sz) (.slice AU mU cU) (fulls (l.take k)) ∧ k44.R 44 wr sz (fun _ => True) v (x.f2 ++ (List.range' 0 j).map mkO) ∧ Below w.heap.size w wr ∧ sz ≤ wr.heap.size) (fun _ t _ => 16 - (intOf t).toNat)
   case atStart => exact ⟨0, by omega, rfl, HO.out, HU.out, by simpa using HR7.out, HBB.out, HS3.out⟩
   case round =>
    clear HO HU HR7 HBB HS3; obtain ⟨j, hj, rfl, hO, hU, hR, hb, hs3⟩ := hrel; have HO := Aside0.mk hO; have HU := Aside0.mk hU; have HR := Aside0.mk hR; have HBB := Aside0.mk hb; have HS3 := Aside0.mk hs3; clear hO hU hR hb hs3; obtain ⟨P7, m7, d8, rfl⟩ : ∃ P m d, u7 = .slice P m d := let ⟨A, c, h, _⟩ := Kd.R_reads HR.out; ⟨_, _, _, h⟩
    by_cases hjl : j < 16
    ·go_wp2_with (first | ((with_reducible refine gate_builtin (b := .append) rfl ?_); refine Classical.byContradiction (fun hcon => ?hstA)) | go_in)
     refine hcon ?_; clear hcon; refine Kd.R_append k44 (w0 := wr) sz rfl _ _ 39 44 (.agg #[(.int .i64 0), (.int .i64 0)]) 16 rfl Try.underlying39 (by kernel_rfl) rfl (by decide) (by decide) (.slice P7 m7 d8) (x.f2 ++ (List.range' 0 j).map mkO) (mkO j) [.int .i64 (-9), .int .i64 (j : Int)] (fun _ => True) (fun _ => False) rfl rfl (k44_mkM _ _ _ _) (fun _ h => h.elim) (fun _ _ => trivial) HR.out (Below.refl _ _) HS3.out (by have := HX2.out; simp; omega) ?_
     intro v1 w4 hR1 _ hg1 _; rw [← full_snoc] at hR1; have HG := Aside0.mk hg1; have HR1 := Aside0.mk hR1; clear hg1 hR1; go_wp2_with (fail)
     go_roundw
     case rel =>
      refine ⟨j + 1, by omega, by go_num, ?_, ?_, HR1.out, HBB.out.grown HG.out HBB.out.size (fun q hq => Nat.le_trans HSW.out (Kd.R_base HR.out q hq)), Nat.le_trans HS3.out HG.out.size⟩
      ·exact Kd.R_grown HO.out HG.out (fun q hq he => by have := Kd.R_base HR.out q he.symm; have := hq.2; omega)
      ·exact Kd.R_grown HU.out HG.out (fun q hq he => by have := Kd.R_base HR.out q he.symm; have := hq.2; omega)
     case measure => simp [intOf]; omega
    ·obtain rfl : j = 16 := by omega
     obtain rfl : m7 = x.f2.length + 16 := by rw [(Kd.R_reads' HR.out).1, List.length_append, List.length_map, List.length_range']
     have HR8 : Aside0 (k44.R 44 wr sz (fun _ => True) (.slice P7 (x.f2.length + 16) d8) (full x.f2)) := HR; clear HR; go_wp2_with (first | ((with_reducible refine gate_builtin (b := .append) rfl ?_); refine Classical.byContradiction (fun hcon => ?hstB)) | go_in)
     refine hcon ?_; clear hcon; refine Kd.R_append (Kd.slice 44 k44) (w0 := wr) w.heap.size rfl _ _ 47 39 (.slice none 0 0) 24 rfl Try.underlying47 (by kernel_rfl) rfl (by decide) (by decide) (.slice AU mU cU) (fulls (l.take k)) (full x.f2) [.slice P7 (x.f2.length + 16) d8] (fun _ => True) _ rfl rfl (M_apart (d := Kd.slice 44 k44) ⟨_, rfl, Kd.R_lower HR8.out HSW.out⟩ HU.out (by decide)) (fun _ h => h) (fun _ _ => trivial) (Kd.R_mono HU.out (fun _ h => trivial)) (Below.refl _ _) HBB.out.size (by have := HKL.out; unfold fulls; rw [List.length_map, List.length_take]; omega) ?_
     intro v1 w4 hU1 _ hg1 _; have HR9 := Aside0.mk (Kd.R_over HR8.out HU.out (by decide) hg1); have HO9 := Aside0.mk (Kd.R_mono (ok' := fun _ => True) (Kd.R_over HO.out HU.out (by decide) hg1) (fun _ _ => trivial)); have HB9 := Aside0.mk (HBB.out.grown hg1 HBB.out.size (Kd.R_base HU.out)); have HSZ4 := Aside0.mk (Nat.le_trans HS3.out hg1.size); have HU9 := Aside0.mk hU1; clear hg1 hU1 HR8 HO HU HBB HS3; obtain ⟨PU, mU', cU', rfl⟩ : ∃ P m d, v1 = .slice P m d := let ⟨A, c, h, _⟩ := Kd.R_reads HU9.out; ⟨_, _, _, h⟩
     have HCUT := Aside0.mk (cut_cap (P := Try.prog) 39 44 .i64 Try.underlying39 HI44.out P7 (x.f2.length + 16) d8 (x.f2.length : Int) (by omega) (by have := R_ge HR9.out; omega)); rw [Int.toNat_natCast] at HCUT; obtain ⟨wS, hwS⟩ : ∃ wS : World, wS = { w4 with drawn := w4.drawn + 1 } := ⟨_, rfl⟩; have bS : Below w4.heap.size w4 wS := by rw [hwS]; exact below_drew1 (Below.refl _ _)
     replace HO9 := Aside0.mk (Kd.R_below HO9.out bS); replace HU9 := Aside0.mk (Kd.R_below HU9.out bS); replace HR9 := Aside0.mk (Kd.R_below HR9.out bS); replace HB9 := Aside0.mk (HB9.out.trans (bS.mono HB9.out.size)); have HWS := Aside0.mk hwS; clear bS hwS; have HRO := HO9; have hcut8 := Kd.R_take (m := x.f2.length) HR9.out (by rw [full_len]; omega); rw [full_take] at hcut8; have HMX := Aside0.mk (M_apart (d := k67) (k67_mkM _ _ _ x (Kd.R_lower hcut8 HSW.out)) HO9.out (by decide)); have HSZ := Aside0.mk HB9.out.size; have HBW := Aside0.mk (fun W (hg : wS.grownBy W (Value.slice AV k cV).ownBlock) => HB9.out.grown hg HB9.out.size (Kd.R_base HO9.out)); clear hcut8; go_wp2_with (fail)
     refine RegInv.region_last3 (by kernel_rfl) (by kernel_rfl) dLS 22 (by kernel_rfl) (by kernel_rfl) (by kernel_rfl) (by kernel_rfl) (FLS AV P7 A2 ad l.length cL k cV d8 c2 k wS.heap.size w.heap.size x (l.take k)) SLS (InvA wS (.cells #[.int .i64 x.f0, .int .i64 x.f1, .slice P7 x.f2.length d8] 67) (fun w => wS.grownBy w (Value.slice AV k cV).ownBlock)) ?hi0 (FLS_keep AV P7 A2 ad l.length cL k cV d8 c2 k wS.heap.size w.heap.size x (l.take k)) ?hsLS ?heLS
     case hi0 => exact .inl ⟨fun h => h, fun h => h, HWS.out.symm⟩
     case hsLS =>
      intro D i o a w8 hlt hi hnD hwD hInv hM
      rcases i with _ | _ | _ | _ | _ | _ | _ | _ | _ | _ | _ | _ | _ | _ | _ | _ | _ | _ | _ | _ | _ | _ | i
      ·cases hi; have h0 := gdq _ _ _ (show a.tmps.getD 4 undef = .slice AV k cV from hM.off 4 (by kernel_rfl)); refine RegInv.op_value (by rfl) rfl (v := .slice AV k cV) (w' := w8) ?_ ⟨_, rfl, rfl, rfl, InvA_pure hInv (by decide) (by decide)⟩; unfold execOp; go_simp
      ·cases hi; have h0 := gdq _ _ _ (show a.tmps.getD 0 undef = .slice (some ad) l.length cL from hM.off 0 (by kernel_rfl)); refine RegInv.op_value (by rfl) rfl (v := .slice (some ad) l.length cL) (w' := w8) ?_ ⟨_, rfl, rfl, rfl, InvA_pure hInv (by decide) (by decide)⟩; unfold execOp; go_simp
      ·cases hi; have h0 := gdq _ _ _ (show a.tmps.getD 6 undef = .int .i64 (k : Int) from hM.off 6 (by kernel_rfl)); refine RegInv.op_value (by rfl) rfl (v := .int .i64 (k : Int)) (w' := w8) ?_ ⟨_, rfl, rfl, rfl, InvA_pure hInv (by decide) (by decide)⟩; unfold execOp; go_simp
      ·cases hi; have h0 := gdq _ _ _ (show a.tmps.getD 35 undef = .slice (some ad) l.length cL from hM.at_ 1 (by decide) (by kernel_rfl)); have h1 := gdq _ _ _ (show a.tmps.getD 36 undef = .int .i64 (k : Int) from hM.at_ 2 (by decide) (by kernel_rfl)); have hkl := HKL.out; refine RegInv.op_value (by rfl) rfl (v := .pointer (some (ad.add (k * 3)))) (w' := w8) ?_ ⟨_, rfl, rfl, rfl, InvA_pure hInv (by decide) (by decide)⟩; unfold execOp; go_simp
      ·cases hi; have h0 := gdq _ _ _ (show a.tmps.getD 37 undef = .pointer (some (ad.add (k * 3))) from hM.at_ 3 (by decide) (by kernel_rfl)); refine RegInv.op_value (by rfl) rfl (v := .pointer (some (ad.add (k * 3)))) (w' := w8) ?_ ⟨_, rfl, rfl, rfl, InvA_pure hInv (by decide) (by decide)⟩; unfold execOp; go_simp
      ·cases hi; have h0 := gdq _ _ _ (show a.tmps.getD 38 undef = .pointer (some (ad.add (k * 3))) from hM.at_ 4 (by decide) (by kernel_rfl)); have y := (XC.out w8 (HBW.out w8 (InvA_grown hInv))).1; refine RegInv.op_value (by rfl) rfl (v := .int .i64 x.f0) (w' := w8) ?_ ⟨_, rfl, rfl, rfl, InvA_pure hInv (by decide) (by decide)⟩; unfold execOp; go_simp
      ·cases hi; have h0 := gdq _ _ _ (show a.tmps.getD 0 undef = .slice (some ad) l.length cL from hM.off 0 (by kernel_rfl)); refine RegInv.op_value (by rfl) rfl (v := .slice (some ad) l.length cL) (w' := w8) ?_ ⟨_, rfl, rfl, rfl, InvA_pure hInv (by decide) (by decide)⟩; unfold execOp; go_simp
      ·cases hi; have h0 := gdq _ _ _ (show a.tmps.getD 6 undef = .int .i64 (k : Int) from hM.off 6 (by kernel_rfl)); refine RegInv.op_value (by rfl) rfl (v := .int .i64 (k : Int)) (w' := w8) ?_ ⟨_, rfl, rfl, rfl, InvA_pure hInv (by decide) (by decide)⟩; unfold execOp; go_simp
      ·cases hi; have h0 := gdq _ _ _ (show a.tmps.getD 40 undef = .slice (some ad) l.length cL from hM.at_ 6 (by decide) (by kernel_rfl)); have h1 := gdq _ _ _ (show a.tmps.getD 41 undef = .int .i64 (k : Int) from hM.at_ 7 (by decide) (by kernel_rfl)); have hkl := HKL.out; refine RegInv.op_value (by rfl) rfl (v := .pointer (some (ad.add (k * 3)))) (w' := w8) ?_ ⟨_, rfl, rfl, rfl, InvA_pure hInv (by decide) (by decide)⟩; unfold execOp; go_simp
      ·cases hi; have h0 := gdq _ _ _ (show a.tmps.getD 42 undef = .pointer (some (ad.add (k * 3))) from hM.at_ 8 (by decide) (by kernel_rfl)); refine RegInv.op_value (by rfl) rfl (v := .pointer (some ⟨(ad.add (k * 3)).block, (ad.add (k * 3)).off + 1, none⟩)) (w' := w8) ?_ ⟨_, rfl, rfl, rfl, InvA_pure hInv (by decide) (by decide)⟩; unfold execOp; go_simp
      ·cases hi; have h0 := gdq _ _ _ (show a.tmps.getD 43 undef = .pointer (some ⟨(ad.add (k * 3)).block, (ad.add (k * 3)).off + 1, none⟩) from hM.at_ 9 (by decide) (by kernel_rfl)); have y := (XC.out w8 (HBW.out w8 (InvA_grown hInv))).2.1; refine RegInv.op_value (by rfl) rfl (v := .int .i64 x.f1) (w' := w8) ?_ ⟨_, rfl, rfl, rfl, InvA_pure hInv (by decide) (by decide)⟩; unfold execOp; go_simp
      ·cases hi; have h0 := gdq _ _ _ (show a.tmps.getD 7 undef = .slice P7 (x.f2.length + 16) d8 from hM.off 7 (by kernel_rfl)); refine RegInv.op_value (by rfl) rfl (v := .slice P7 (x.f2.length + 16) d8) (w' := w8) ?_ ⟨_, rfl, rfl, rfl, InvA_pure hInv (by decide) (by decide)⟩; unfold execOp; go_simp
      ·cases hi; have h0 := gdq _ _ _ (show a.tmps.getD 0 undef = .slice (some ad) l.length cL from hM.off 0 (by kernel_rfl)); refine RegInv.op_value (by rfl) rfl (v := .slice (some ad) l.length cL) (w' := w8) ?_ ⟨_, rfl, rfl, rfl, InvA_pure hInv (by decide) (by decide)⟩; unfold execOp; go_simp
      ·cases hi; have h0 := gdq _ _ _ (show a.tmps.getD 6 undef = .int .i64 (k : Int) from hM.off 6 (by kernel_rfl)); refine RegInv.op_value (by rfl) rfl (v := .int .i64 (k : Int)) (w' := w8) ?_ ⟨_, rfl, rfl, rfl, InvA_pure hInv (by decide) (by decide)⟩; unfold execOp; go_simp
      ·cases hi; have h0 := gdq _ _ _ (show a.tmps.getD 46 undef = .slice (some ad) l.length cL from hM.at_ 12 (by decide) (by kernel_rfl)); have h1 := gdq _ _ _ (show a.tmps.getD 47 undef = .int .i64 (k : Int) from hM.at_ 13 (by decide) (by kernel_rfl)); have hkl := HKL.out; refine RegInv.op_value (by rfl) rfl (v := .pointer (some (ad.add (k * 3)))) (w' := w8) ?_ ⟨_, rfl, rfl, rfl, InvA_pure hInv (by decide) (by decide)⟩; unfold execOp; go_simp
      ·cases hi; have h0 := gdq _ _ _ (show a.tmps.getD 48 undef = .pointer (some (ad.add (k * 3))) from hM.at_ 14 (by decide) (by kernel_rfl)); refine RegInv.op_value (by rfl) rfl (v := .pointer (some ⟨(ad.add (k * 3)).block, (ad.add (k * 3)).off + 2, none⟩)) (w' := w8) ?_ ⟨_, rfl, rfl, rfl, InvA_pure hInv (by decide) (by decide)⟩; unfold execOp; go_simp
      ·cases hi; have h0 := gdq _ _ _ (show a.tmps.getD 49 undef = .pointer (some ⟨(ad.add (k * 3)).block, (ad.add (k * 3)).off + 2, none⟩) from hM.at_ 15 (by decide) (by kernel_rfl)); have y := (XC.out w8 (HBW.out w8 (InvA_grown hInv))).2.2; refine RegInv.op_value (by rfl) rfl (v := .slice A2 x.f2.length c2) (w' := w8) ?_ ⟨_, rfl, rfl, rfl, InvA_pure hInv (by decide) (by decide)⟩; unfold execOp; go_simp
      ·cases hi; have h0 := gdq _ _ _ (show a.tmps.getD 50 undef = .slice A2 x.f2.length c2 from hM.at_ 16 (by decide) (by kernel_rfl)); refine RegInv.op_value (by rfl) rfl (v := .int .i64 (x.f2.length : Int)) (w' := w8) ?_ ⟨_, rfl, rfl, rfl, InvA_pure hInv (by decide) (by decide)⟩; unfold execOp; go_simp
      ·cases hi; have h0 := gdq _ _ _ (show a.tmps.getD 45 undef = .slice P7 (x.f2.length + 16) d8 from hM.at_ 11 (by decide) (by kernel_rfl)); have h1 := gdq _ _ _ (show a.tmps.getD 51 undef = .int .i64 (x.f2.length : Int) from hM.at_ 17 (by decide) (by kernel_rfl)); have hcut := HCUT.out w8; refine RegInv.op_value (by rfl) rfl (v := .slice P7 x.f2.length d8) (w' := w8) ?_ ⟨_, rfl, rfl, rfl, InvA_pure hInv (by decide) (by decide)⟩; unfold execOp; go_simp
      ·cases hi; have h0 := gdq _ _ _ (show a.tmps.getD 39 undef = .int .i64 x.f0 from hM.at_ 5 (by decide) (by kernel_rfl)); have h1 := gdq _ _ _ (show a.tmps.getD 44 undef = .int .i64 x.f1 from hM.at_ 10 (by decide) (by kernel_rfl)); have h2 := gdq _ _ _ (show a.tmps.getD 52 undef = .slice P7 x.f2.length d8 from hM.at_ 18 (by decide) (by kernel_rfl)); refine RegInv.op_value (by rfl) rfl (v := .agg #[.int .i64 x.f0, .int .i64 x.f1, .slice P7 x.f2.length d8]) (w' := w8) ?_ ⟨_, rfl, rfl, rfl, InvA_pure hInv (by decide) (by decide)⟩; unfold execOp; go_simp
      ·cases hi; have h0 := gdq _ _ _ (show a.tmps.getD 53 undef = .agg #[.int .i64 x.f0, .int .i64 x.f1, .slice P7 x.f2.length d8] from hM.at_ 19 (by decide) (by kernel_rfl)); obtain rfl := InvA_start hInv hnD; refine RegInv.op_value (by rfl) rfl (v := .slice (some ⟨wS.heap.size, 0, none⟩) 1 1) (w' := wS.alloc (.cells #[.int .i64 x.f0, .int .i64 x.f1, .slice P7 x.f2.length d8] 67)) ?_ ⟨_, rfl, rfl, ⟨_, rfl⟩, InvA_made hInv hnD⟩; unfold execOp; go_simp
      ·cases hi; have h4 := gdq _ _ _ (show a.tmps.getD 34 undef = .slice AV k cV from hM.at_ 0 (by decide) (by kernel_rfl)); have h6 := gdq _ _ _ (show a.tmps.getD 54 undef = .slice (some ⟨wS.heap.size, 0, none⟩) 1 1 from hM.at_ 20 (by decide) (by kernel_rfl)); obtain rfl := InvA_mid hInv (hwD 20 (by kernel_rfl)) hnD; refine RegInv.op_of_list (by rfl) ?_; refine Kd.R_append k67 (w0 := wS) w.heap.size rfl _ _ 46 67 (.agg #[(.int .i64 0), (.int .i64 0), (.slice none 0 0)]) 40 rfl Try.underlying46 (by kernel_rfl) rfl (by decide) (by decide) (.slice AV k cV) (l.take k) x [.int .i64 x.f0, .int .i64 x.f1, .slice P7 x.f2.length d8] (fun _ => True) _ (by simp [Act.eval, h4]) (by simp [Act.eval, h6]) HMX.out (fun _ h => h) (fun _ _ => trivial) HRO.out (Below.refl _ _) HSZ.out (by have := HKL.out; rw [List.length_take]; omega) ?_
       intro v1 w9 hR1 _ hg1 _; exact ⟨_, rfl, hR1, trivial, InvA_done hInv (hwD 20 (by kernel_rfl)) hg1⟩
      ·exact absurd hlt (by omega)
     intro vs w8 D hD hInv hF; have hR1 : k67.R 67 w8 w.heap.size (fun _ => True) (vs 21) (l.take k ++ [x]) := hF 21 (by omega); clear hF; have hg1 := InvA_end hInv (hD 21 (by omega)); rw [HXE.out] at hR1; simp only [RegInv.puts, dLS, Act.put, List.range, List.range.loop, List.setIfInBounds_toArray, List.set_cons_zero, List.set_cons_succ]; obtain ⟨P1, m1, d1, e1⟩ : ∃ P m d, vs 21 = .slice P m d := let ⟨A, c, h, _⟩ := Kd.R_reads hR1; ⟨_, _, _, h⟩
     rw [e1] at hR1 ⊢; clear e1; have HR1 := Aside0.mk hR1; have HUE := Aside0.mk (Kd.R_over HU9.out HO9.out (by decide) hg1); have HBE := Aside0.mk (HBW.out _ hg1); clear hR1 hg1 hInv hD HU9 HO9 HR9 HRO HMX HB9 HBW HSZ HCUT
     generalize vs 0 = t0
     generalize vs 1 = t1
     generalize vs 2 = t2
     generalize vs 3 = t3
     generalize vs 4 = t4
     generalize vs 5 = t5
     generalize vs 6 = t6
     generalize vs 7 = t7
     generalize vs 8 = t8
     generalize vs 9 = t9
     generalize vs 10 = t10
     generalize vs 11 = t11
     generalize vs 12 = t12
     generalize vs 13 = t13
     generalize vs 14 = t14
     generalize vs 15 = t15
     generalize vs 16 = t16
     generalize vs 17 = t17
     generalize vs 18 = t18
     generalize vs 19 = t19
     generalize vs 20 = t20
     refine RegInv.op_value (by rfl) rfl (v := .slice P1 m1 d1) (w' := w8) ?run ?_
     case run =>
      unfold execOp; go_simp
     go_wp2_with (fail)
     go_roundw
     case rel => exact ⟨k + 1, by omega, by go_num, HR1.out, by rw [← HXE.out]; unfold fulls; rw [List.map_append]; exact HUE.out, HBE.out⟩
     case measure => simp [intOf]; omega
  ·obtain rfl : k = l.length := by omega
   go_wp2_with (fail)
   go_ret2; have hO : k67.R 67 wr w.heap.size (fun _ => True) (.slice AV l.length cV) l := by
    have := HO.out; rw [show l.take l.length = l from List.take_length] at this; exact this
   have hU : (Kd.slice 44 k44).R 39 wr w.heap.size (fun _ => True) (.slice AU mU cU) (fulls l) := by
    have := HU.out; rw [show l.take l.length = l from List.take_length] at this; exact this
   exact ⟨_, _, rfl, hO, hU, HBB.out⟩
end Go.Proofs.Ytgbbcjooieggpaa.PFr
