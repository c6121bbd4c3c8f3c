/- HandCode: the same code, with marks; what it leaves. For every world. -/
import Derived.Test.YtdjpamgjmpibnaaBlock
import Derived.Test.YtdjpamgjmpibnaaRegLast3
namespace Go.Proofs.Ytdjpamgjmpibnaa.PHc
open Go.RowKit Go.Proofs.Ytdjpamgjmpibnaa.Lit Go.Proofs.Ytdjpamgjmpibnaa.OwnCells Go.Proofs.YtdjpamgjmpibnaaW.PrintWords Go.Proofs.YtdjpamgjmpibnaaW.PrintLast Go.Proofs.YtdjpamgjmpibnaaW.PrintMore
set_option linter.unusedVariables false
set_option linter.unusedSimpArgs false
theorem inf25 : (Try.prog.info? 25).map (fun i => (i.zero, i.size, i.bytes)) = some (some (.agg #[(.int .i64 0), (.slice none 0 0), (.slice none 0 0)]), 3, 56) := by kernel_rfl
/-- what holds of the world while a list is made (6) and appended (7) -/
def InvA (wS : World) (o : Obj) (G : World → Prop) (D : Nat → Prop) (w : World) : Prop := (¬ D 6 ∧ ¬ D 7 ∧ w = wS) ∨ (D 6 ∧ ¬ D 7 ∧ w = wS.alloc o) ∨ (D 6 ∧ D 7 ∧ G w)
section
variable {wS w w1 : World} {o : Obj} {G : World → Prop} {D : Nat → Prop} {row : Option Nat}
theorem InvA_pure {i : Nat} (h : InvA wS o G D w) (h6 : 6 ≠ i) (h7 : 7 ≠ i) : InvA wS o G (fun j => D j ∨ j = i) w := by
  rcases h with ⟨a, b, c⟩ | ⟨a, b, c⟩ | ⟨a, b, c⟩
  · exact .inl ⟨fun h => h.elim a h6, fun h => h.elim b h7, c⟩
  · exact .inr (.inl ⟨.inl a, fun h => h.elim b h7, c⟩)
  · exact .inr (.inr ⟨.inl a, .inl b, c⟩)
theorem InvA_start (h : InvA wS o G D w) (h6 : ¬ D 6) : wS = w := by
  rcases h with ⟨a, b, c⟩ | ⟨a, b, c⟩ | ⟨a, b, c⟩
  · exact c.symm
  · exact absurd a h6
  · exact absurd a h6
theorem InvA_made (h : InvA wS o G D w) (h6 : ¬ D 6) : InvA wS o G (fun j => D j ∨ j = 6) (wS.alloc o) := by
  rcases h with ⟨a, b, c⟩ | ⟨a, b, c⟩ | ⟨a, b, c⟩
  · exact .inr (.inl ⟨.inr rfl, fun h => h.elim b (by decide), rfl⟩)
  · exact absurd a h6
  · exact absurd a h6
theorem InvA_mid (h : InvA wS o G D w) (h6 : D 6) (h7 : ¬ D 7) : wS.alloc o = w := by
  rcases h with ⟨a, b, c⟩ | ⟨a, b, c⟩ | ⟨a, b, c⟩
  · exact absurd h6 a
  · exact c.symm
  · exact absurd b h7
theorem InvA_done (h : InvA wS o G D w) (h6 : D 6) (hG : G w1) : InvA wS o G (fun j => D j ∨ j = 7) w1 := .inr (.inr ⟨.inl h6, .inr rfl, hG⟩)
theorem InvA_grown (h : InvA wS o (fun w => wS.grownBy w row) D w) : wS.grownBy w row := by
  rcases h with ⟨a, b, c⟩ | ⟨a, b, c⟩ | ⟨a, b, c⟩
  · rw [c]; exact World.grownBy.refl _ _
  · rw [c]; exact World.grownBy_alloc _ _ _
  · exact c
theorem InvA_end (h : InvA wS o G D w) (h7 : D 7) : G w := by
  rcases h with ⟨a, b, c⟩ | ⟨a, b, c⟩ | ⟨a, b, c⟩
  · exact absurd h7 b
  · exact absurd h7 b
  · exact c
end
def SC6 (j : Nat) (w w1 : World) : Prop := if j = 6 then ∃ o, w1 = w.alloc o else if j = 7 then True else w1 = w
theorem H.rb' {b g : Nat} {pO pS pN pI pB : Nat → Prop} {w : World} {vO vS vN vI vB : Value} {O : List (List S70)} {S : List (List S72)} {NX : List (List Int)} {I : List (List S52)} {B : List S25} (h : H b g pO pS pN pI pB w vO vS vN vI vB O S NX I B) : k25.R 25 w b pB vB B := h.rb
theorem H.size {b g : Nat} {pO pS pN pI pB : Nat → Prop} {w : World} {vO vS vN vI vB : Value} {O : List (List S70)} {S : List (List S72)} {NX : List (List Int)} {I : List (List S52)} {B : List S25} (h : H b g pO pS pN pI pB w vO vS vN vI vB O S NX I B) : b ≤ w.heap.size := Nat.le_trans h.hg (Nat.le_of_lt (blk_lt h.blk))
def dC6 : Nat → Option Tmp
  | 0 => some 23
  | 1 => some 24
  | 2 => some 25
  | 3 => some 26
  | 4 => some 27
  | 5 => some 28
  | 6 => some 29
  | 7 => some 30
  | 8 => some 31
  | 9 => some 32
  | _ => none
def FC6 (g g5 : Nat) (PB : Option Addr) (mB dB : Nat) (PI PN : Option Addr) (nI dI nN dN sz base : Nat) (pc : Int) (B : List S25) (x : S25) : Nat → World → Value → Prop
  | 0, _, v => v = .pointer (some ⟨g, 0, none⟩)
  | 1, _, v => v = .pointer (some ⟨g, 0, none⟩)
  | 2, _, v => v = .pointer (some ⟨g, 0, none⟩)
  | 3, _, v => v = .pointer (some ⟨g, 7, none⟩)
  | 4, _, v => v = .slice PB mB dB
  | 5, _, v => v = .agg #[.int .i64 pc, .slice PI nI dI, .slice PN nN dN]
  | 6, _, v => v = .slice (some ⟨sz, 0, none⟩) 1 1
  | 7, w, v => k25.R 25 w base (fun _ => True) v (B ++ [x])
  | 8, _, v => v = .pointer (some ⟨g, 0, none⟩)
  | 9, _, v => v = .pointer (some ⟨g, 7, none⟩)
  | _, _, _ => True
theorem FC6_keep (g g5 : Nat) (PB : Option Addr) (mB dB : Nat) (PI PN : Option Addr) (nI dI nN dN sz base : Nat) (pc : Int) (B : List S25) (x : S25) (i j : Nat) (w w1 : World) (v : Value) (hij : i ≠ j) (h : FC6 g g5 PB mB dB PI PN nI dI nN dN sz base pc B x i w v) (hs : SC6 j w w1) : FC6 g g5 PB mB dB PI PN nI dI nN dN sz base pc B x i w1 v := by
  match i with
  | 0 | 1 | 2 | 3 | 4 | 5 | 6 | 8 | 9 => exact h
  | 7 =>
    unfold SC6 at hs
    by_cases h6 : j = 6
    · rw [if_pos h6] at hs
      obtain ⟨o, rfl⟩ := hs
      exact Kd.R_alloc h o
    · rw [if_neg h6, if_neg (fun e => hij e.symm)] at hs
      rw [hs]; exact h
  | (n + 10) => exact h
def dC11 : Nat → Option Tmp
  | 0 => some 49
  | 1 => some 50
  | 2 => some 51
  | 3 => some 52
  | 4 => some 53
  | 5 => some 54
  | 6 => some 55
  | 7 => some 56
  | 8 => some 57
  | 9 => some 58
  | 10 => some 59
  | 11 => some 60
  | 12 => some 61
  | 13 => some 62
  | 14 => some 63
  | 15 => some 64
  | _ => none
def FC11 (g g1 : Nat) (PB AB : Option Addr) (n nf dB cB : Nat) (fn regs : Int) : Nat → World → Value → Prop
  | 0, _, v => v = .pointer (some ⟨g, 0, none⟩)
  | 1, _, v => v = .pointer (some ⟨g1, 0, none⟩)
  | 2, _, v => v = .int .i64 fn
  | 3, _, v => v = .pointer (some ⟨g1, 1, none⟩)
  | 4, _, v => v = .int .i64 regs
  | 5, _, v => v = .pointer (some ⟨g, 0, none⟩)
  | 6, _, v => v = .pointer (some ⟨g, 0, none⟩)
  | 7, _, v => v = .pointer (some ⟨g, 7, none⟩)
  | 8, _, v => v = .slice PB nf dB
  | 9, _, v => v = .pointer (some ⟨g1, 2, none⟩)
  | 10, _, v => v = .slice AB n cB
  | 11, _, v => v = .int .i64 (n : Int)
  | 12, _, v => v = .slice PB n dB
  | 13, _, v => v = .agg #[.int .i64 fn, .int .i64 regs, .slice PB n dB]
  | 14, _, v => v = .pointer (some ⟨g, 0, none⟩)
  | 15, _, v => v = .pointer (some ⟨g, 0, none⟩)
  | _, _, _ => True
theorem FC11_below (g g1 : Nat) (PB AB : Option Addr) (n nf dB cB : Nat) (fn regs : Int) (i : Nat) (w w1 : World) (v : Value) (h : FC11 g g1  PB AB  n nf dB cB  fn regs  i w v) (hb : Below w.heap.size w w1) : FC11 g g1  PB AB  n nf dB cB  fn regs  i w1 v := by
  match i with
  | 0 | 1 | 2 | 3 | 4 | 5 | 6 | 7 | 8 | 9 | 10 | 11 | 12 | 13 | 14 | 15 => exact h
  | (n + 16) => exact h
/-- what HandCode hands out -/
structure Made (b g : Nat) (w : World) (fn regs : Int) (PB : Option Addr) (dB : Nat) (vO vS vN vI : Value) (O : List (List S70)) (S : List (List S72)) (NX : List (List Int)) (I : List (List S52)) (l : List S25) : Prop where
  blk : w.heap[g]? = some (.cells #[.int .i64 fn, .int .i64 regs, .slice PB l.length dB, vO, vS, vN, vI, .slice PB (full mkB l).length dB] 37 (0, 0))
  hg : b ≤ g
  ro : (Kd.slice 70 k70).R 49 w b (fun _ => True) vO O
  rs : (Kd.slice 72 k72).R 50 w b (fun _ => True) vS S
  rn : (Kd.slice 3 (Kd.int .i64)).R 23 w b (fun _ => True) vN NX
  ri : (Kd.slice 52 k52).R 22 w b (fun _ => True) vI I
  rb : k25.R 25 w b (fun _ => True) (.slice PB (full mkB l).length dB) (full mkB l)
  mo : ∀ x ∈ O, ∃ p : List S70, p.length ≤ 1048576 ∧ x = full mkO p
  ms : ∀ x ∈ S, ∃ p : List S72, p.length ≤ 1048576 ∧ x = full mkS p
  mn : ∀ x ∈ NX, ∃ p : List Int, p.length ≤ 1048576 ∧ x = full mkN p
  mi : ∀ x ∈ I, ∃ p : List S52, p.length ≤ 1048576 ∧ x = full mkI p
  ln : NX.length = l.length
  li : I.length = l.length
def costB (l : List S25) : Nat := (l.map fun b => costI b.f1).sum
def insB (l : List S25) : Nat := (l.map fun b => b.f1.length).sum
theorem costB_succ {l : List S25} {k : Nat} (h : k < l.length) : costB (l.take (k + 1)) = costB (l.take k) + costI l[k].f1 := by
  unfold costB
  rw [List.take_succ_eq_append_getElem h, List.map_append, List.sum_append]; simp
theorem insB_succ {l : List S25} {k : Nat} (h : k < l.length) : insB (l.take (k + 1)) = insB (l.take k) + l[k].f1.length := by
  unfold insB
  rw [List.take_succ_eq_append_getElem h, List.map_append, List.sum_append]; simp
theorem costB_le (l : List S25) (k : Nat) : costB (l.take k) ≤ costB l := by
  have e : costB l = costB (l.take k) + costB (l.drop k) := by
    unfold costB
    rw [← List.sum_append, ← List.map_append, List.take_append_drop]
  omega
theorem insB_le (l : List S25) (k : Nat) : insB (l.take k) ≤ insB l := by
  have e : insB l = insB (l.take k) + insB (l.drop k) := by
    unfold insB
    rw [← List.sum_append, ← List.map_append, List.take_append_drop]
  omega
structure SmallC (l : List S25) : Prop where
  len : l.length ≤ 1048576
  each : ∀ b ∈ l, SmallB b
  cost : costB l ≤ 2199023255552
  ins : insB l ≤ 2199023255552
set_option maxHeartbeats 16000000 in
set_option maxRecDepth 100000 in
theorem hand_code (AB : Option Addr) (cB : Nat) (l : List S25) (fn regs : Int) (wz : World) (hl : k25.C wz AB l.length l) (hcl : l.length ≤ cB) (hs : SmallC l) :
    Calls Try.prog 5 #[.agg #[.int .i64 fn, .int .i64 regs, .slice AB l.length cB]] wz fun e w' => ∃ g PB dB vO vS vN vI O S NX I, e = .returned (.pointer (some ⟨g, 0, none⟩)) ∧ Made wz.heap.size g w' fn regs PB dB vO vS vN vI O S NX I l ∧ Below wz.heap.size wz w' := by
  have HL := Aside0.mk hl
  have HCL := Aside0.mk hcl
  have HSM := Aside0.mk hs
  have hlen := hs.len
  obtain ⟨i25, hi25, _⟩ := Option.map_eq_some_iff.1 inf25
  have HI25 := Aside0.mk hi25
  clear hl hcl hs hi25
  go_enter Try.func5, Try.ntmps5
  go_upto_region 2 with (fail)
  have hb2 := bodies wz (.cells #[.int .i64 fn, .int .i64 regs, .slice AB l.length cB] 28)
  have hb3 := bodies (wz.alloc (.cells #[.int .i64 fn, .int .i64 regs, .slice AB l.length cB] 28)) (.cells #[.int .i64 0, .int .i64 0, .slice none 0 0, .slice none 0 0, .slice none 0 0, .slice none 0 0, .slice none 0 0, .slice none 0 0] 37)
  have K1 := blk_new wz (.cells #[.int .i64 fn, .int .i64 regs, .slice AB l.length cB] 28)
  have K := blk_new (wz.alloc (.cells #[.int .i64 fn, .int .i64 regs, .slice AB l.length cB] 28)) (.cells #[.int .i64 0, .int .i64 0, .slice none 0 0, .slice none 0 0, .slice none 0 0, .slice none 0 0, .slice none 0 0, .slice none 0 0] 37)
  have hsz : (wz.alloc (.cells #[.int .i64 fn, .int .i64 regs, .slice AB l.length cB] 28)).heap.size = wz.heap.size + 1 := World.size_alloc _ _
  rw [← hsz]
  generalize (wz.alloc (.cells #[.int .i64 fn, .int .i64 regs, .slice AB l.length cB] 28)) = w0 at *
  replace HL := Aside0.mk (Kd.C_below HL.out hb2)
  have HBZ := Aside0.mk hb2
  have HSZ := Aside0.mk hsz
  clear hb2 hsz
  generalize w0.alloc (.cells #[.int .i64 0, .int .i64 0, .slice none 0 0, .slice none 0 0, .slice none 0 0, .slice none 0 0, .slice none 0 0, .slice none 0 0] 37) = w1 at *
  obtain ⟨g, hg⟩ : ∃ q, q = w0.heap.size := ⟨_, rfl⟩
  obtain ⟨g1, hg1⟩ : ∃ q, q = wz.heap.size := ⟨_, rfl⟩
  rw [← hg1] at K1 ⊢
  have HG := Aside0.mk (show w0.heap.size ≤ g by omega)
  rw [← hg] at K ⊢
  have HST0 : Aside0 (H w0.heap.size g (fun _ => True) (fun _ => True) (fun _ => True) (fun _ => True) (fun _ => True) w1 (.slice none 0 0) (.slice none 0 0) (.slice none 0 0) (.slice none 0 0) (.slice none 0 0) [] [] [] [] []) := ⟨⟨K, HG.out, Kd.R_nil _ _ _ _ _, Kd.R_nil _ _ _ _ _, Kd.R_nil _ _ _ _ _, Kd.R_nil _ _ _ _ _, Kd.R_nil _ _ _ _ _, (fun _ h => by cases h), (fun _ h => by cases h), (fun _ h => by cases h), (fun _ h => by cases h)⟩⟩
  have HBB := Aside0.mk hb3
  have HKK := Aside0.mk K1
  clear K K1 hb3 hg hg1
  go_wp2_with (fail)
  go_loopw [4, 5] (fun t _ wr => ∃ k : Nat, k ≤ l.length ∧ t = .int .i64 k ∧ ∃ vO vS vN vI vB O S NX I, H w0.heap.size g (fun _ => True) (fun _ => True) (fun _ => True) (fun _ => True) (fun _ => True) wr vO vS vN vI vB O S NX I (l.take k) ∧ (O.length = costB (l.take k) ∧ S.length = insB (l.take k) ∧ NX.length = k ∧ I.length = k) ∧ Below w0.heap.size w0 wr) (fun t _ _ => l.length - (intOf t).toNat)
  case atStart => exact ⟨0, Nat.zero_le _, rfl, _, _, _, _, _, _, _, _, _, HST0.out, ⟨rfl, rfl, rfl, rfl⟩, HBB.out⟩
  case round =>
    clear HST0 HBB
    obtain ⟨k, hk, rfl, vO, vS, vN, vI, vB, O, S, NX, I, hH, hln, hb⟩ := hrel
    have HST := Aside0.mk hH
    have HLN := Aside0.mk hln
    have HBB := Aside0.mk hb
    clear hH hln hb
    have q2 : wr.cell? ⟨g1, 2, none⟩ = some (.slice AB l.length cB) := blk_cell (blk_below HKK.out HBB.out) 2
    by_cases hlt : k < l.length
    · obtain ⟨ad, A1, c1, A2, c2, rfl, x0, x1, x2, hA1, hC1, hA2, hC2⟩ := at_T25 HL.out (k : Int) (by omega) (by omega)
      rw [Int.toNat_natCast] at x0 x1 x2
      have hxs : SmallB (rd_T25 l (k : Int)) := by rw [rd25_at hlt]; exact HSM.out.each _ (List.getElem_mem _)
      have hxe : l.take k ++ [rd_T25 l (k : Int)] = l.take (k + 1) := by rw [List.take_succ_eq_append_getElem hlt, rd25_at hlt]
      have hco : costB (l.take (k + 1)) = costB (l.take k) + costI (rd_T25 l (k : Int)).f1 := by rw [costB_succ hlt, rd25_at hlt]
      have hin : insB (l.take (k + 1)) = insB (l.take k) + (rd_T25 l (k : Int)).f1.length := by rw [insB_succ hlt, rd25_at hlt]
      generalize rd_T25 l (k : Int) = x at *
      have HXS := Aside0.mk hxs
      have HXE := Aside0.mk hxe
      have HCO := Aside0.mk (And.intro hco (And.intro hin (And.intro (costB_le l (k + 1)) (insB_le l (k + 1)))))
      have HC1 := Aside0.mk (And.intro hA1 hC1)
      have HC2 := Aside0.mk (And.intro hA2 hC2)
      replace x0 := pw_cell_below HBB.out x0
      replace x1 := pw_cell_below HBB.out x1
      replace x2 := pw_cell_below HBB.out x2
      have HKL := Aside0.mk (show k ≤ 1048576 by omega)
      clear hxs hxe hco hin hA1 hC1 hA2 hC2
      go_wp2_with (fail)
      refine (hand_block w0 g x A1 A2 c1 c2 wr _ _ _ _ _ _ _ _ _ _ HC1.out.2 HC1.out.1 HC2.out.2 HC2.out.1 HXS.out HBB.out HST.out (by have := HLN.out.1; have := HCO.out; have := HSM.out.cost; omega) (by have := HLN.out.2.1; have := HCO.out; have := HSM.out.ins; omega) (by have := HLN.out.2.2.1; have := HKL.out; omega) (by have := HLN.out.2.2.2; have := HKL.out; omega)).mono ?_
      rintro e w3 ⟨PI, dI, PN, dN, vO3, vS3, vN3, vI3, O3, S3, NX3, I3, rfl, hR52, hR3, hH3, hO3, hS3, hN3, hI3, hb3⟩
      replace HST := Aside0.mk hH3
      have HLN3 : Aside0 (O3.length = costB (l.take (k + 1)) ∧ S3.length = insB (l.take (k + 1)) ∧ NX3.length = k + 1 ∧ I3.length = k + 1) := ⟨⟨by rw [hO3, HLN.out.1, HCO.out.1], by rw [hS3, HLN.out.2.1, HCO.out.2.1], by rw [hN3, HLN.out.2.2.1], by rw [hI3, HLN.out.2.2.2]⟩⟩
      have HSW := Aside0.mk HBB.out.size
      have HR52 := Aside0.mk (Kd.R_lower hR52 HSW.out)
      have HR3 := Aside0.mk (Kd.R_lower hR3 HSW.out)
      replace HBB := Aside0.mk hb3
      clear hR52 hR3 hH3 hO3 hS3 hN3 hI3 hb3 HLN HSW x0 x1 x2 q2
      go_upto_region 6 with (fail)
      have hb4 := bodies w3 (.cells #[.int .i64 x.f0, .slice PI x.f1.length dI, .slice PN x.f2.length dN] 25)
      have K5 := blk_new w3 (.cells #[.int .i64 x.f0, .slice PI x.f1.length dI, .slice PN x.f2.length dN] 25)
      have HNE := Aside0.mk (show some w3.heap.size ≠ vB.ownBlock from fun e => by have := Kd.R_lt HST.out.rb _ e.symm; omega)
      replace HST := Aside0.mk (HST.out.below hb4)
      replace HR52 := Aside0.mk (Kd.R_below HR52.out hb4)
      replace HR3 := Aside0.mk (Kd.R_below HR3.out hb4)
      replace HBB := Aside0.mk (HBB.out.trans (hb4.mono HBB.out.size))
      clear hb4
      generalize w3.alloc (.cells #[.int .i64 x.f0, .slice PI x.f1.length dI, .slice PN x.f2.length dN] 25) = w4 at *
      generalize w3.heap.size = g5 at *
      have HK5 := Aside0.mk K5
      clear K5
      have hbd := below_drew1 (Below.refl w4.heap.size w4)
      replace HST := Aside0.mk (HST.out.below hbd)
      replace HR52 := Aside0.mk (Kd.R_below HR52.out hbd)
      replace HR3 := Aside0.mk (Kd.R_below HR3.out hbd)
      replace HBB := Aside0.mk (HBB.out.trans (hbd.mono HBB.out.size))
      replace HK5 := Aside0.mk (blk_below HK5.out hbd)
      clear hbd
      obtain ⟨PB, mB, dB, rfl⟩ : ∃ P m d, vB = .slice P m d := let ⟨A, c, h, _⟩ := Kd.R_reads HST.out.rb; ⟨_, _, _, h⟩
      obtain ⟨wS, hwS⟩ : ∃ q : World, q = { w4 with drawn := w4.drawn + 1 } := ⟨_, rfl⟩
      replace HST : Aside0 (H w0.heap.size g (fun _ => True) (fun _ => True) (fun _ => True) (fun _ => True) (fun _ => True) wS vO3 vS3 vN3 vI3 (.slice PB mB dB) O3 S3 NX3 I3 (l.take k)) := hwS ▸ HST
      replace HR52 : Aside0 (k52.R 52 wS w0.heap.size (fun _ => True) (.slice PI x.f1.length dI) x.f1) := hwS ▸ HR52
      replace HR3 : Aside0 ((Kd.int .i64).R 3 wS w0.heap.size (fun _ => True) (.slice PN x.f2.length dN) x.f2) := hwS ▸ HR3
      replace HBB : Aside0 (Below w0.heap.size w0 wS) := hwS ▸ HBB
      replace HK5 : Aside0 (wS.heap[g5]? = some (.cells #[.int .i64 x.f0, .slice PI x.f1.length dI, .slice PN x.f2.length dN] 25 (0, 0))) := hwS ▸ HK5
      have HMX := Aside0.mk (M_apart (d := k25) (k25_mkM wS w0.heap.size (fun _ => True) x HR52.out HR3.out) HST.out.rb (by decide))
      rename_i hK
      refine RegInv.region_last3 (by kernel_rfl) (by kernel_rfl) dC6 10 (by kernel_rfl) (by kernel_rfl) (by kernel_rfl) (by kernel_rfl) (FC6 g g5 PB mB dB PI PN x.f1.length dI x.f2.length dN wS.heap.size w0.heap.size x.f0 (l.take k) x) SC6 (InvA wS (.cells #[.int .i64 x.f0, .slice PI x.f1.length dI, .slice PN x.f2.length dN] 25) (fun w => wS.grownBy w (Value.slice PB mB dB).ownBlock)) ?hi0 (FC6_keep g g5 PB mB dB PI PN x.f1.length dI x.f2.length dN wS.heap.size w0.heap.size x.f0 (l.take k) x) ?hsC6 ?heC6
      case hi0 => exact .inl ⟨fun h => h, fun h => h, hwS.symm⟩
      case hsC6 =>
        clear hK
        intro D i o a w8 hlt hi hnD hwD hInv hM
        rcases i with _ | _ | _ | _ | _ | _ | _ | _ | _ | _ | i
        · cases hi
          have h0 := gdq _ _ _ (show a.tmps.getD 3 undef = .pointer (some ⟨g, 0, none⟩) from hM.off 3 (by kernel_rfl))
          refine RegInv.op_value (by rfl) rfl (v := .pointer (some ⟨g, 0, none⟩)) (w' := w8) ?_ ⟨_, rfl, rfl, rfl, InvA_pure hInv (by decide) (by decide)⟩
          unfold execOp
          go_simp
        · cases hi
          have h0 := gdq _ _ _ (show a.tmps.getD 3 undef = .pointer (some ⟨g, 0, none⟩) from hM.off 3 (by kernel_rfl))
          refine RegInv.op_value (by rfl) rfl (v := .pointer (some ⟨g, 0, none⟩)) (w' := w8) ?_ ⟨_, rfl, rfl, rfl, InvA_pure hInv (by decide) (by decide)⟩
          unfold execOp
          go_simp
        · cases hi
          have h0 := gdq _ _ _ (show a.tmps.getD 24 undef = .pointer (some ⟨g, 0, none⟩) from hM.at_ 1 (by decide) (by kernel_rfl))
          refine RegInv.op_value (by rfl) rfl (v := .pointer (some ⟨g, 0, none⟩)) (w' := w8) ?_ ⟨_, rfl, rfl, rfl, InvA_pure hInv (by decide) (by decide)⟩
          unfold execOp
          go_simp
        · cases hi
          have h0 := gdq _ _ _ (show a.tmps.getD 25 undef = .pointer (some ⟨g, 0, none⟩) from hM.at_ 2 (by decide) (by kernel_rfl))
          refine RegInv.op_value (by rfl) rfl (v := .pointer (some ⟨g, 7, none⟩)) (w' := w8) ?_ ⟨_, rfl, rfl, rfl, InvA_pure hInv (by decide) (by decide)⟩
          unfold execOp
          go_simp
        · cases hi
          have h0 := gdq _ _ _ (show a.tmps.getD 26 undef = .pointer (some ⟨g, 7, none⟩) from hM.at_ 3 (by decide) (by kernel_rfl))
          have y : w8.cell? ⟨g, 7, none⟩ = some (.slice PB mB dB) := blk_cell (blk_grown HST.out.blk (InvA_grown hInv) (Kd.R_ne HST.out.rb' HST.out.blk (by decide))) 7
          refine RegInv.op_value (by rfl) rfl (v := .slice PB mB dB) (w' := w8) ?_ ⟨_, rfl, rfl, rfl, InvA_pure hInv (by decide) (by decide)⟩
          unfold execOp
          go_simp
        · cases hi
          have h0 := gdq _ _ _ (show a.tmps.getD 5 undef = .pointer (some ⟨g5, 0, none⟩) from hM.off 5 (by kernel_rfl))
          have y0 : w8.cell? ⟨g5, 0, none⟩ = some (.int .i64 x.f0) := blk_cell (blk_grown HK5.out (InvA_grown hInv) HNE.out) 0
          have y1 : w8.cell? ⟨g5, 1, none⟩ = some (.slice PI x.f1.length dI) := blk_cell (blk_grown HK5.out (InvA_grown hInv) HNE.out) 1
          have y2 : w8.cell? ⟨g5, 2, none⟩ = some (.slice PN x.f2.length dN) := blk_cell (blk_grown HK5.out (InvA_grown hInv) HNE.out) 2
          refine RegInv.op_value (by rfl) rfl (v := .agg #[.int .i64 x.f0, .slice PI x.f1.length dI, .slice PN x.f2.length dN]) (w' := w8) ?_ ⟨_, rfl, rfl, rfl, InvA_pure hInv (by decide) (by decide)⟩
          unfold execOp
          go_simp
        · cases hi
          have h0 := gdq _ _ _ (show a.tmps.getD 28 undef = .agg #[.int .i64 x.f0, .slice PI x.f1.length dI, .slice PN x.f2.length dN] from hM.at_ 5 (by decide) (by kernel_rfl))
          obtain rfl := InvA_start hInv hnD
          refine RegInv.op_value (by rfl) rfl (v := .slice (some ⟨wS.heap.size, 0, none⟩) 1 1) (w' := wS.alloc (.cells #[.int .i64 x.f0, .slice PI x.f1.length dI, .slice PN x.f2.length dN] 25)) ?_ ⟨_, rfl, rfl, ⟨_, rfl⟩, InvA_made hInv hnD⟩
          unfold execOp
          go_simp
        · cases hi
          have h4 := gdq _ _ _ (show a.tmps.getD 27 undef = .slice PB mB dB from hM.at_ 4 (by decide) (by kernel_rfl))
          have h6 := gdq _ _ _ (show a.tmps.getD 29 undef = .slice (some ⟨wS.heap.size, 0, none⟩) 1 1 from hM.at_ 6 (by decide) (by kernel_rfl))
          obtain rfl := InvA_mid hInv (hwD 6 (by kernel_rfl)) hnD
          refine RegInv.op_of_list (by rfl) ?_
          refine Kd.R_append k25 (w0 := wS) w0.heap.size rfl _ _ 26 25 (.agg #[(.int .i64 0), (.slice none 0 0), (.slice none 0 0)]) 56 rfl Try.underlying26 (by kernel_rfl) rfl (by decide) (by decide) (.slice PB mB dB) (l.take k) x [.int .i64 x.f0, .slice PI x.f1.length dI, .slice PN x.f2.length dN] (fun _ => True) _ (by simp [Act.eval, h4]) (by simp [Act.eval, h6]) HMX.out (fun _ h => h) (fun _ _ => trivial) HST.out.rb (Below.refl _ _) HST.out.size (by have := HKL.out; rw [List.length_take]; omega) ?_
          intro v1 w9 hR1 _ hg1 _
          exact ⟨_, rfl, hR1, trivial, InvA_done hInv (hwD 6 (by kernel_rfl)) hg1⟩
        · cases hi
          have h0 := gdq _ _ _ (show a.tmps.getD 23 undef = .pointer (some ⟨g, 0, none⟩) from hM.at_ 0 (by decide) (by kernel_rfl))
          refine RegInv.op_value (by rfl) rfl (v := .pointer (some ⟨g, 0, none⟩)) (w' := w8) ?_ ⟨_, rfl, rfl, rfl, InvA_pure hInv (by decide) (by decide)⟩
          unfold execOp
          go_simp
        · cases hi
          have h0 := gdq _ _ _ (show a.tmps.getD 31 undef = .pointer (some ⟨g, 0, none⟩) from hM.at_ 8 (by decide) (by kernel_rfl))
          refine RegInv.op_value (by rfl) rfl (v := .pointer (some ⟨g, 7, none⟩)) (w' := w8) ?_ ⟨_, rfl, rfl, rfl, InvA_pure hInv (by decide) (by decide)⟩
          unfold execOp
          go_simp
        · exact absurd hlt (by omega)
      intro vs w9 D hD hInv hF
      have h7 : k25.R 25 w9 w0.heap.size (fun _ => True) (vs 7) (l.take k ++ [x]) := hF 7 (by omega)
      have e9 : vs 9 = .pointer (some ⟨g, 7, none⟩) := hF 9 (by omega)
      have hg9 : wS.grownBy w9 (Value.slice PB mB dB).ownBlock := InvA_end hInv (hD 7 (by omega))
      clear hF hInv hD
      obtain ⟨P1, m1, d1, e7⟩ : ∃ P m d, vs 7 = .slice P m d := let ⟨A, c, h, _⟩ := Kd.R_reads h7; ⟨_, _, _, h⟩
      rw [e7] at h7
      simp only [RegInv.puts, dC6, Act.put, List.range, List.range.loop, List.setIfInBounds_toArray, List.set_cons_zero, List.set_cons_succ]
      rw [e9, e7]
      clear e9 e7
      have hkg := blk_grown HST.out.blk hg9 (Kd.R_ne HST.out.rb HST.out.blk (by decide))
      have p7 : w9.cell? ⟨g, 7, none⟩ = some (.slice PB mB dB) := blk_cell hkg 7
      have f7 := blk_frozen hkg 7
      refine RegInv.op_skip (by rfl) rfl (w' := w9.setCell ⟨g, 7, none⟩ (.slice P1 m1 d1)) ?run ?_
      case run =>
        unfold execOp
        go_simp
      clear p7 f7
      rw [HXE.out] at h7
      have HH9 := Aside0.mk (HST.out.putB (x := x) (HXE.out.symm ▸ h7) hg9)
      rw [HXE.out] at HH9
      have HB9 := Aside0.mk (below_set (j := 7) (v := .slice P1 m1 d1) (HBB.out.grown hg9 HST.out.size (Kd.R_base HST.out.rb)) HST.out.hg)
      clear h7 hg9 hkg HST HR52 HR3 HBB HK5 HMX HNE hwS
      generalize w9.setCell ⟨g, 7, none⟩ (.slice P1 m1 d1) = w10 at *
      generalize vs 0 = t0
      generalize vs 1 = t1
      generalize vs 2 = t2
      generalize vs 3 = t3
      generalize vs 4 = t4
      generalize vs 5 = t5
      generalize vs 6 = t6
      generalize vs 7 = t7
      generalize vs 8 = t8
      generalize vs 9 = t9
      refine hK _ _ ?_
      clear hK
      go_wp2
      go_roundw
      case rel => exact ⟨k + 1, by omega, by go_num, _, _, _, _, _, _, _, _, _, HH9.out, HLN3.out, HB9.out⟩
      case measure => simp [intOf]; omega
    · obtain rfl : k = l.length := by omega
      rw [List.take_length] at HST
      go_wp2_with (fail)
      clear hlt hk q2
      generalize wr = wM at *
      go_loopw [6] (fun t wr => ∃ k : Nat, k ≤ 16 ∧ t = .int .i64 k ∧ ∃ vB, H w0.heap.size g (fun _ => True) (fun _ => True) (fun _ => True) (fun _ => True) (fun _ => True) wr vO vS vN vI vB O S NX I (l ++ (List.range' 0 k).map mkB) ∧ Below w0.heap.size w0 wr) (fun t _ => 16 - (intOf t).toNat)
      case atStart => exact ⟨0, by omega, rfl, _, by simpa using HST.out, HBB.out⟩
      case round =>
        clear HST HBB
        obtain ⟨i, hi, rfl, vB, hH, hb⟩ := hrel
        have HST := Aside0.mk hH
        have HBB := Aside0.mk hb
        clear hH hb
        obtain ⟨PB, mB, dB, rfl⟩ : ∃ P m d, vB = .slice P m d := let ⟨A, c, h, _⟩ := Kd.R_reads HST.out.rb; ⟨_, _, _, h⟩
        by_cases hlt : i < 16
        · have p7 : wr.cell? ⟨g, 7, none⟩ = some (.slice PB mB dB) := blk_cell HST.out.blk 7
          go_wp2_with (first | ((with_reducible refine gate_builtin (b := .append) rfl ?_); refine Classical.byContradiction (fun hcon => ?hstB)) | go_in)
          refine hcon ?_
          clear hcon p7
          refine Kd.R_append k25 (w0 := wr) w0.heap.size rfl _ _ 26 25 (.agg #[(.int .i64 0), (.slice none 0 0), (.slice none 0 0)]) 56 rfl Try.underlying26 (by kernel_rfl) rfl (by decide) (by decide) (.slice PB mB dB) (l ++ (List.range' 0 i).map mkB) (mkB i) [.int .i64 (-7 - (i : Int)), .slice none 0 0, .slice none 0 0] (fun _ => True) _ rfl rfl (M_apart (d := k25) (k25_mkM wr w0.heap.size (fun _ => True) (mkB i) (Kd.R_nil _ _ _ _ _) (Kd.R_nil _ _ _ _ _)) HST.out.rb (by decide)) (fun _ h => h) (fun _ _ => trivial) HST.out.rb (Below.refl _ _) HST.out.size (by simp; omega) ?_
          intro v1 w7 hR1 _ hg1 _
          obtain ⟨P1, m1, d1, rfl⟩ : ∃ P m d, v1 = .slice P m d := let ⟨A, c, h, _⟩ := Kd.R_reads hR1; ⟨_, _, _, h⟩
          have hkg := blk_grown HST.out.blk hg1 (Kd.R_ne HST.out.rb HST.out.blk (by decide))
          have p7 : w7.cell? ⟨g, 7, none⟩ = some (.slice PB mB dB) := blk_cell hkg 7
          have f7 := blk_frozen hkg 7
          have hb7 : Below w0.heap.size w0 w7 := HBB.out.grown hg1 HST.out.size (Kd.R_base HST.out.rb)
          go_wp2
          have HB8 := Aside0.mk (below_set (j := 7) (v := .slice P1 m1 d1) hb7 HST.out.hg)
          have HH8 := Aside0.mk (HST.out.putB hR1 hg1)
          rw [← full_snoc] at HH8
          clear p7 f7 hb7 hR1 hg1 hkg HST HBB
          generalize w7.setCell ⟨g, 7, none⟩ (.slice P1 m1 d1) = w8 at *
          go_roundw
          case rel => exact ⟨i + 1, by omega, by go_num, _, HH8.out, HB8.out⟩
          case measure => simp [intOf]; omega
        · obtain rfl : i = 16 := by omega
          have HST' : Aside0 (H w0.heap.size g (fun _ => True) (fun _ => True) (fun _ => True) (fun _ => True) (fun _ => True) wr vO vS vN vI (.slice PB mB dB) O S NX I (full mkB l)) := ⟨HST.out⟩
          clear HST
          obtain rfl : mB = (full mkB l).length := (Kd.R_reads' HST'.out.rb).1
          have hcut := cut_cap (P := Try.prog) 26 25 .i64 Try.underlying26 HI25.out PB (full mkB l).length dB (l.length : Int) (by omega) (by have := ge49 HST'.out.rb; rw [full_len] at this; omega)
          rw [Int.toNat_natCast] at hcut
          have HCB := Aside0.mk hcut
          clear hcut
          go_upto_region 11 with (fail)
          have HK := Aside0.mk HST'.out.blk
          have HK1 := Aside0.mk (blk_below HKK.out HBB.out)
          rename_i hK
          refine RegInv.region_last2 (by kernel_rfl) (by kernel_rfl) (fun a b => Below a.heap.size a b) (fun a b c h k => wB h k) (below_drew1 (Below.refl _ _)) dC11 16 (by kernel_rfl) (by kernel_rfl) (by kernel_rfl) (by kernel_rfl) (FC11 g g1 PB AB l.length (full mkB l).length dB cB fn regs) (FC11_below g g1 PB AB l.length (full mkB l).length dB cB fn regs) ?hsC11 ?heC11
          case hsC11 =>
            clear hK
            intro i o a w8 hlt hi hM
            have K' := blk_below HK.out hM.ext
            have K1' := blk_below HK1.out hM.ext
            rcases i with _ | _ | _ | _ | _ | _ | _ | _ | _ | _ | _ | _ | _ | _ | _ | _ | i
            · cases hi
              have h0 := gdq _ _ _ (show a.tmps.getD 3 undef = .pointer (some ⟨g, 0, none⟩) from hM.off 3 (by kernel_rfl))
              refine RegInv.op_value (by rfl) rfl (v := .pointer (some ⟨g, 0, none⟩)) (w' := w8) ?_ ⟨_, rfl, rfl, Below.refl _ _⟩
              unfold execOp
              go_simp
            · cases hi
              have h0 := gdq _ _ _ (show a.tmps.getD 1 undef = .pointer (some ⟨g1, 0, none⟩) from hM.off 1 (by kernel_rfl))
              refine RegInv.op_value (by rfl) rfl (v := .pointer (some ⟨g1, 0, none⟩)) (w' := w8) ?_ ⟨_, rfl, rfl, Below.refl _ _⟩
              unfold execOp
              go_simp
            · cases hi
              have h0 := gdq _ _ _ (show a.tmps.getD 50 undef = .pointer (some ⟨g1, 0, none⟩) from hM.at_ 1 (by decide) (by kernel_rfl))
              have y : w8.cell? ⟨g1, 0, none⟩ = some (.int .i64 fn) := blk_cell K1' 0
              refine RegInv.op_value (by rfl) rfl (v := .int .i64 fn) (w' := w8) ?_ ⟨_, rfl, rfl, Below.refl _ _⟩
              unfold execOp
              go_simp
            · cases hi
              have h0 := gdq _ _ _ (show a.tmps.getD 1 undef = .pointer (some ⟨g1, 0, none⟩) from hM.off 1 (by kernel_rfl))
              refine RegInv.op_value (by rfl) rfl (v := .pointer (some ⟨g1, 1, none⟩)) (w' := w8) ?_ ⟨_, rfl, rfl, Below.refl _ _⟩
              unfold execOp
              go_simp
            · cases hi
              have h0 := gdq _ _ _ (show a.tmps.getD 52 undef = .pointer (some ⟨g1, 1, none⟩) from hM.at_ 3 (by decide) (by kernel_rfl))
              have y : w8.cell? ⟨g1, 1, none⟩ = some (.int .i64 regs) := blk_cell K1' 1
              refine RegInv.op_value (by rfl) rfl (v := .int .i64 regs) (w' := w8) ?_ ⟨_, rfl, rfl, Below.refl _ _⟩
              unfold execOp
              go_simp
            · cases hi
              have h0 := gdq _ _ _ (show a.tmps.getD 3 undef = .pointer (some ⟨g, 0, none⟩) from hM.off 3 (by kernel_rfl))
              refine RegInv.op_value (by rfl) rfl (v := .pointer (some ⟨g, 0, none⟩)) (w' := w8) ?_ ⟨_, rfl, rfl, Below.refl _ _⟩
              unfold execOp
              go_simp
            · cases hi
              have h0 := gdq _ _ _ (show a.tmps.getD 54 undef = .pointer (some ⟨g, 0, none⟩) from hM.at_ 5 (by decide) (by kernel_rfl))
              refine RegInv.op_value (by rfl) rfl (v := .pointer (some ⟨g, 0, none⟩)) (w' := w8) ?_ ⟨_, rfl, rfl, Below.refl _ _⟩
              unfold execOp
              go_simp
            · cases hi
              have h0 := gdq _ _ _ (show a.tmps.getD 55 undef = .pointer (some ⟨g, 0, none⟩) from hM.at_ 6 (by decide) (by kernel_rfl))
              refine RegInv.op_value (by rfl) rfl (v := .pointer (some ⟨g, 7, none⟩)) (w' := w8) ?_ ⟨_, rfl, rfl, Below.refl _ _⟩
              unfold execOp
              go_simp
            · cases hi
              have h0 := gdq _ _ _ (show a.tmps.getD 56 undef = .pointer (some ⟨g, 7, none⟩) from hM.at_ 7 (by decide) (by kernel_rfl))
              have y : w8.cell? ⟨g, 7, none⟩ = some (.slice PB (full mkB l).length dB) := blk_cell K' 7
              refine RegInv.op_value (by rfl) rfl (v := .slice PB (full mkB l).length dB) (w' := w8) ?_ ⟨_, rfl, rfl, Below.refl _ _⟩
              unfold execOp
              go_simp
            · cases hi
              have h0 := gdq _ _ _ (show a.tmps.getD 1 undef = .pointer (some ⟨g1, 0, none⟩) from hM.off 1 (by kernel_rfl))
              refine RegInv.op_value (by rfl) rfl (v := .pointer (some ⟨g1, 2, none⟩)) (w' := w8) ?_ ⟨_, rfl, rfl, Below.refl _ _⟩
              unfold execOp
              go_simp
            · cases hi
              have h0 := gdq _ _ _ (show a.tmps.getD 58 undef = .pointer (some ⟨g1, 2, none⟩) from hM.at_ 9 (by decide) (by kernel_rfl))
              have y : w8.cell? ⟨g1, 2, none⟩ = some (.slice AB l.length cB) := blk_cell K1' 2
              refine RegInv.op_value (by rfl) rfl (v := .slice AB l.length cB) (w' := w8) ?_ ⟨_, rfl, rfl, Below.refl _ _⟩
              unfold execOp
              go_simp
            · cases hi
              have h0 := gdq _ _ _ (show a.tmps.getD 59 undef = .slice AB l.length cB from hM.at_ 10 (by decide) (by kernel_rfl))
              refine RegInv.op_value (by rfl) rfl (v := .int .i64 (l.length : Int)) (w' := w8) ?_ ⟨_, rfl, rfl, Below.refl _ _⟩
              unfold execOp
              go_simp
            · cases hi
              have h0 := gdq _ _ _ (show a.tmps.getD 57 undef = .slice PB (full mkB l).length dB from hM.at_ 8 (by decide) (by kernel_rfl))
              have h1 := gdq _ _ _ (show a.tmps.getD 60 undef = .int .i64 (l.length : Int) from hM.at_ 11 (by decide) (by kernel_rfl))
              have hcB := HCB.out
              refine RegInv.op_value (by rfl) rfl (v := .slice PB l.length dB) (w' := w8) ?_ ⟨_, rfl, rfl, Below.refl _ _⟩
              unfold execOp
              go_simp
            · cases hi
              have h0 := gdq _ _ _ (show a.tmps.getD 51 undef = .int .i64 fn from hM.at_ 2 (by decide) (by kernel_rfl))
              have h1 := gdq _ _ _ (show a.tmps.getD 53 undef = .int .i64 regs from hM.at_ 4 (by decide) (by kernel_rfl))
              have h2 := gdq _ _ _ (show a.tmps.getD 61 undef = .slice PB l.length dB from hM.at_ 12 (by decide) (by kernel_rfl))
              refine RegInv.op_value (by rfl) rfl (v := .agg #[.int .i64 fn, .int .i64 regs, .slice PB l.length dB]) (w' := w8) ?_ ⟨_, rfl, rfl, Below.refl _ _⟩
              unfold execOp
              go_simp
            · cases hi
              have h0 := gdq _ _ _ (show a.tmps.getD 49 undef = .pointer (some ⟨g, 0, none⟩) from hM.at_ 0 (by decide) (by kernel_rfl))
              refine RegInv.op_value (by rfl) rfl (v := .pointer (some ⟨g, 0, none⟩)) (w' := w8) ?_ ⟨_, rfl, rfl, Below.refl _ _⟩
              unfold execOp
              go_simp
            · cases hi
              have h0 := gdq _ _ _ (show a.tmps.getD 63 undef = .pointer (some ⟨g, 0, none⟩) from hM.at_ 14 (by decide) (by kernel_rfl))
              refine RegInv.op_value (by rfl) rfl (v := .pointer (some ⟨g, 0, none⟩)) (w' := w8) ?_ ⟨_, rfl, rfl, Below.refl _ _⟩
              unfold execOp
              go_simp
            · exact absurd hlt (by omega)
          intro vs w9 bF hF
          have e13 : vs 13 = .agg #[.int .i64 fn, .int .i64 regs, .slice PB l.length dB] := hF 13 (by omega)
          have e15 : vs 15 = .pointer (some ⟨g, 0, none⟩) := hF 15 (by omega)
          clear hF
          simp only [RegInv.puts, dC11, Act.put, List.range, List.range.loop, List.setIfInBounds_toArray, List.set_cons_zero, List.set_cons_succ]
          rw [e13, e15]
          clear e13 e15
          have hkg := blk_below HK.out bF
          have c0' : w9.cell? ⟨g, 0, none⟩ = some (.int .i64 0) := blk_cell hkg 0
          have c1' : w9.cell? ⟨g, 1, none⟩ = some (.int .i64 0) := blk_cell hkg 1
          have c2' : w9.cell? ⟨g, 2, none⟩ = some (.slice none 0 0) := blk_cell hkg 2
          have f0' : w9.frozen? ⟨g, 0, none⟩ = false := blk_frozen hkg 0
          have f1' : w9.frozen? ⟨g, 1, none⟩ = false := blk_frozen hkg 1
          have f2' : w9.frozen? ⟨g, 2, none⟩ = false := blk_frozen hkg 2
          refine RegInv.op_skip (by rfl) rfl (w' := set3 w9 g (.int .i64 fn) (.int .i64 regs) (.slice PB l.length dB)) ?run ?_
          case run =>
            unfold execOp set3
            go_simp
          clear c0' c1' c2' f0' f1' f2'
          have hH9 := HST'.out.below bF
          have HM : Aside0 (Made w0.heap.size g (set3 w9 g (.int .i64 fn) (.int .i64 regs) (.slice PB l.length dB)) fn regs PB dB vO vS vN vI O S NX I l) :=
            ⟨⟨blk_put (blk_put (blk_put hkg 0 (.int .i64 fn) rfl) 1 (.int .i64 regs) rfl) 2 (.slice PB l.length dB) rfl, hH9.hg, set3_R hH9.ro hkg (by decide) _ _ _, set3_R hH9.rs hkg (by decide) _ _ _, set3_R hH9.rn hkg (by decide) _ _ _, set3_R hH9.ri hkg (by decide) _ _ _, set3_R hH9.rb hkg (by decide) _ _ _, hH9.mo, hH9.ms, hH9.mn, hH9.mi, HLN.out.2.2.1, HLN.out.2.2.2⟩⟩
          have HB9 := Aside0.mk ((HBB.out.trans (bF.mono HBB.out.size)).grown (set3_grown w9 g (.int .i64 fn) (.int .i64 regs) (.slice PB l.length dB)) (Nat.le_trans HBB.out.size bF.size) (fun q hq => by injection hq with hq; rw [← hq]; exact HST'.out.hg))
          clear hkg hH9 bF HST' HBB HK HK1
          generalize set3 w9 g (.int .i64 fn) (.int .i64 regs) (.slice PB l.length dB) = w10 at *
          generalize vs 0 = t0
          generalize vs 1 = t1
          generalize vs 2 = t2
          generalize vs 3 = t3
          generalize vs 4 = t4
          generalize vs 5 = t5
          generalize vs 6 = t6
          generalize vs 7 = t7
          generalize vs 8 = t8
          generalize vs 9 = t9
          generalize vs 10 = t10
          generalize vs 11 = t11
          generalize vs 12 = t12
          generalize vs 13 = t13
          generalize vs 14 = t14
          generalize vs 15 = t15
          refine hK _ _ ?_
          clear hK
          go_wp2
          go_ret
          have hsz := HSZ.out
          have hm := HM.out
          have hlo : wz.heap.size ≤ w0.heap.size := by omega
          exact ⟨g, PB, dB, vO, vS, vN, vI, O, S, NX, I, rfl, ⟨hm.blk, Nat.le_trans hlo hm.hg, Kd.R_lower hm.ro hlo, Kd.R_lower hm.rs hlo, Kd.R_lower hm.rn hlo, Kd.R_lower hm.ri hlo, Kd.R_lower hm.rb hlo, hm.mo, hm.ms, hm.mn, hm.mi, hm.ln, hm.li⟩, HBZ.out.trans (HB9.out.mono hlo)⟩
end Go.Proofs.Ytdjpamgjmpibnaa.PHc
