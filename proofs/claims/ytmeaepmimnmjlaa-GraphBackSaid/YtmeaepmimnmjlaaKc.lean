/- Post Dom2 Grid DomW -/
import Derived.Test.YtmeaepmimnmjlaaKb
import Derived.Scope
import Derived.WalkMore
import Derived.WalkSmall
import Derived.OwnWalk
import Derived.Deep.LoopGhost
import Derived.BigQuiet
import Derived.Deep.QuietTactic
import Derived.Maps.AppendAt
import Derived.Test.YtmeaepmimnmjlaaKa
/- graph.postorder: for every world. -/
namespace Go.Proofs.Ytmeaepmimnmjlaa.Ask
open Go.Proofs.Ytmeaepmimnmjlaa.Dfs Go.RowKit Go.Shelf Go.Proofs.Ytmeaepmimnmjlaa.PGb Go.Proofs.Ytmeaepmimnmjlaa.Lit Go.Proofs.Ytmeaepmimnmjlaa.OwnCells Go.Proofs.YtmeaepmimnmjlaaW.PrintWords Go.Proofs.YtmeaepmimnmjlaaW.PrintLast Go.Proofs.YtmeaepmimnmjlaaW.PrintMore
attribute [local go_sem] Oper.semAt_some
attribute [local go_sem] run_store_fn
attribute [local go_sem] run_eql_fn
set_option linter.unusedVariables false
set_option linter.unusedSimpArgs false
theorem info4 : (Try.prog.info? 4).map (fun i => (i.zero, i.size, i.bytes)) = some (some (.bool false), 1, 1) := by kernel_rfl
theorem info86 : (Try.prog.info? 86).map (fun i => (i.zero, i.size, i.bytes)) = some (some (.agg #[.int .i64 0, .int .i64 0]), 2, 16) := by kernel_rfl
def flat (l : List (Int × Nat)) : List Value := l.flatMap fun p => [.int .i64 p.1, .int .i64 p.2]
theorem flat_length : ∀ l, (flat l).length = l.length * 2
  | [] => rfl
  | p :: l => by
    have := flat_length l
    unfold flat at *
    rw [List.flatMap_cons, List.length_append, this, List.length_cons]; simp; omega
theorem flat_snoc (l : List (Int × Nat)) (b : Int) (d : Nat) : flat (l ++ [(b, d)]) = flat l ++ [.int .i64 b, .int .i64 d] := by simp [flat]
theorem own_ne {w : World} {b b' n n' : Nat} {e e' s s' : Nat} {v v' : Value} {xs xs' : List Value} (h : w.ownsRow b e s v n xs) (h' : w.ownsRow b' e' s' v' n' xs') (he : e ≠ e') : v.ownBlock = none ∨ v.ownBlock ≠ v'.ownBlock := by
  rcases h.2 with ⟨rfl, _⟩ | ⟨g, cap, cur, rfl, _, hg, _⟩
  · left; simp [Value.ownBlock]
  · right
    intro e1
    rcases h'.2 with ⟨rfl, _⟩ | ⟨g', cap', cur', rfl, _, hg', _⟩
    · simp [Value.ownBlock] at e1
    · obtain rfl : g = g' := by simpa [Value.ownBlock] using e1
      rw [hg] at hg'
      cases hg'
      exact he rfl
theorem cells2_new (W : World) (x y : Value) (e : Nat) : ∀ j u, [x, y][j]? = some u → (W.alloc (.cells #[x, y] e)).cell? ((⟨W.heap.size, 0, none⟩ : Addr).add j) = some u := by
  intro j u h
  rw [add_plain, cell_of_row _ _ _ _ e (0, 0) (World.alloc_heap_new W _)]
  simpa using h
theorem mark_cell {W : World} {base g n : Nat} {l : List Bool} (h : W.ownsRow base 4 1 (.slice (some ⟨g, 0, none⟩) n n) n (l.map Value.bool)) (hl : l.length = n) (i : Nat) (hi : i < n) : W.cell? ⟨g, i, none⟩ = some (.bool (l.getD i false)) := by
  rw [h.cellAt i (by omega), List.getElem?_map, List.getD_eq_getElem?_getD, List.getElem?_eq_getElem (by omega)]
  rfl
structure PSm (w W : World) (nx : List (List Int)) (vo vw : Value) (out : List Int) (mks : List Bool) (st : List (Int × Nat)) : Prop where
  out : W.ownsRow w.heap.size 3 1 vo out.length (out.map (Value.int .i64))
  mks : W.ownsRow w.heap.size 4 1 (.slice (some ⟨w.heap.size, 0, none⟩) nx.length nx.length) nx.length (mks.map Value.bool)
  st : W.ownsRow w.heap.size 86 2 vw st.length (flat st.reverse)
  below : Below w.heap.size w W
/-- what lies in memory -/
structure PS (w W : World) (nx : List (List Int)) (vo vw : Value) (s : DS) : Prop where
  out : W.ownsRow w.heap.size 3 1 vo s.out.length (s.out.map (Value.int .i64))
  mks : W.ownsRow w.heap.size 4 1 (.slice (some ⟨w.heap.size, 0, none⟩) nx.length nx.length) nx.length (s.mks.map Value.bool)
  st : W.ownsRow w.heap.size 86 2 vw s.st.length (flat s.st.reverse)
  inv : Inv nx s
  tgt : Tgt nx s
  below : Below w.heap.size w W
set_option maxRecDepth 100000 in
set_option maxHeartbeats 8000000 in
theorem postorder_calls (A : Option Addr) (c : Nat) (nx : List (List Int)) (w : World) (hA : (Kd.slice 3 (Kd.int .i64)).C w A nx.length nx) (hw : Wf nx) (hl : nx.length ≤ 8796093022208) :
    Calls Try.prog 48 #[.slice A nx.length c] w fun e w' => ∃ v, e = .returned v ∧ (Kd.int .i64).R 3 w' w.heap.size (fun _ => True) v (post nx) ∧ Below w.heap.size w w' := by
  have HA := Aside0.mk hA
  have hpos := hw.pos
  clear hA
  obtain ⟨i4, hi4, hz40, hz41, hz42⟩ := info_parts info4
  go_enter Try.func48, Try.ntmps48
  go_wp2_with (fail)
  refine wp_scope_straight ?_
  go_upto_region 3 with (first | (at_make; refine wpList_make_full _ rfl _ _ 53 rfl w.heap.size 4 i4 (.bool false) 1 Try.underlying53 hi4 hz40 hz41 _ _ _ _ nx.length rfl rfl rfl rfl (by rw [hz42]; omega) (by simp [maxLen]; omega) (Nat.le_refl _) ?_; intro w1 hown hgrow) | go_in)
  have hm0 : (madeCells (Value.bool false).cells (nx.length * 1)).toList = (List.replicate nx.length false).map Value.bool := by
    rw [Nat.mul_one, show (Value.bool false).cells = #[.bool false] from rfl, toList_madeCells_one]; simp
  rw [hm0] at hown
  have hc0 := hown.cellAt 0 (by omega)
  have hf0 := hown.frozenAt 0
  have hc0' : w1.cell? ⟨w.heap.size, 0, none⟩ = some (.bool false) := by rw [hc0]; simp [hpos]
  clear hc0
  go_wp2_with (fail)
  refine wp_label ?_
  obtain ⟨hown2, hgrow2⟩ := hown.stored 0 (.bool true)
  have hrow : (w1.setCell ⟨w.heap.size, 0, none⟩ (.bool true)).ownsRow w.heap.size 4 1 (.slice (some ⟨w.heap.size, 0, none⟩) nx.length nx.length) nx.length ((dinit nx.length).mks.map Value.bool) := by
    have e : ((List.replicate nx.length false).map Value.bool).set 0 (.bool true) = (dinit nx.length).mks.map Value.bool := by
      simp only [dinit]; rw [List.map_set]
    rw [← e]; exact hown2
  have hP0 : PS w ((w1.setCell ⟨w.heap.size, 0, none⟩ (.bool true)).alloc (.cells #[.int .i64 0, .int .i64 0] 86)) nx (.slice none 0 0) (.slice (some ⟨w1.heap.size, 0, none⟩) 1 1) (dinit nx.length) := by
    have hb1 : Below w.heap.size w w1 := (Below.refl _ w).grown hgrow (Nat.le_refl _) (fun j e => by cases e)
    refine ⟨World.ownsRow_nil _ _ _ _, hrow.alloc _, ?_, inv_init nx hw, tgt_init nx hw, below_alloc (hb1.setCell (p := ⟨w.heap.size, 0, none⟩) (Nat.le_refl _) _) _⟩
    have := World.ownsRow_lit (base := w.heap.size) (e := 86) (size := 2) (w1.setCell ⟨w.heap.size, 0, none⟩ (.bool true)) #[.int .i64 0, .int .i64 0] 1 (by have := hb1.size; simpa using this) (by decide) rfl
    rw [World.size_setCell] at this
    exact this
  clear hown hown2 hgrow hgrow2 hrow hf0 hc0' hm0 hi4 hz40 hz41 hz42
  revert hP0
  generalize (w1.setCell ⟨w.heap.size, 0, none⟩ (.bool true)).alloc (.cells #[.int .i64 0, .int .i64 0] 86) = W0
  generalize w1.heap.size = g0
  intro hP0
  go_wp2_with (fail)
  go_loopg [3, 5] (meas nx (dinit nx.length)) (fun m vo vw wr => ∃ s, PS w wr nx vo vw s ∧ meas nx s ≤ m)
  case atStart => exact ⟨dinit nx.length, hP0, Nat.le_refl _⟩
  case round =>
    obtain ⟨s, hP, hm⟩ := hrel
    have HP := Aside0.mk hP
    have HM := Aside0.mk hm
    have hst := hP.st
    clear hP hm hP0
    cases hs : s.st with
    | nil =>
      rw [hs] at hst
      obtain ⟨Aw, cw, rfl⟩ := row_slice hst
      have HS := Aside0.mk hs
      clear hst hs
      go_wp2_with (fail)
      rw [Exit.noGoto_ret]
      go_ret
      refine ⟨_, rfl, ?_, HP.out.below⟩
      rw [← tgt_end nx HP.out.tgt HS.out]
      exact Kd.R_of_own HP.out.out (fun _ _ => trivial)
    | cons t r =>
      obtain ⟨b, d⟩ := t
      rw [hs, List.length_cons, List.reverse_cons, flat_snoc] at hst
      obtain ⟨gw, capw, rfl⟩ := ownsRow_succ hst
      have HS := Aside0.mk hs
      have HST := Aside0.mk hst
      have hrl : r.length + 1 ≤ nx.length := by
        have := inv_len HP.out.inv
        rw [HS.out, List.length_cons] at this
        omega
      clear hst hs
      go_wp2_with (fail)
      obtain ⟨gkO, hgkO⟩ : ∃ g, g = gk := ⟨_, rfl⟩
      have hsg : meas nx s ≤ gkO := by have := HM.out; omega
      go_loopg [5, 7] gkO (fun m v5 _ wr => v5 = .slice (some ⟨gw, 0, none⟩) (r.length + 1) capw ∧ ∃ s' d', s'.st = (b, d') :: r ∧ PS w wr nx u3 (.slice (some ⟨gw, 0, none⟩) (r.length + 1) capw) s' ∧ meas nx s' ≤ m ∧ m ≤ gkO)
      case atStart => exact ⟨rfl, s, d, HS.out, HP.out, hsg, Nat.le_refl _⟩
      case round =>
        clear HP HS HST HM hsg
        obtain ⟨rfl, s', d', hs', hP', hm', hgk⟩ := hrel
        have hst' := hP'.st
        rw [hs', List.length_cons, List.reverse_cons, flat_snoc] at hst'
        have hfl : (flat r.reverse).length = r.length * 2 := by rw [flat_length, List.length_reverse]
        have cb : wr.cell? ⟨gw, r.length * 2, none⟩ = some (.int .i64 b) := by
          rw [hst'.cellAt _ (by omega), List.getElem?_append_right (by omega), hfl, Nat.sub_self]; rfl
        have cd : wr.cell? ⟨gw, r.length * 2 + 1, none⟩ = some (.int .i64 d') := by
          rw [hst'.cellAt _ (by omega), List.getElem?_append_right (by omega), hfl, Nat.add_sub_cancel_left]; rfl
        have fd := hst'.frozenAt (r.length * 2 + 1)
        have hbd := hP'.inv.bound b (.inr ⟨d', by rw [hs']; exact List.mem_cons_self⟩)
        have hCw := Kd.C_below HA.out hP'.below
        obtain ⟨ad, cc, rfl, hcl, hK, hcell⟩ := Kd.C_get hCw [] b hbd.1 hbd.2
        obtain ⟨Ab, cb', rfl, hlb, hCb⟩ := hK
        have hn := hcell 0 _ rfl
        have hnb : nx.getD b.toNat [] = nb nx b := rfl
        rw [hnb] at hn hlb hCb
        have esz : b.toNat * (Kd.slice 3 (Kd.int .i64)).sz + 0 = b.toNat := by show b.toNat * 1 + 0 = _; omega
        rw [esz] at hn
        clear esz hcl hcell hnb hfl
        obtain ⟨hb0, hb1⟩ := hbd
        have HP := Aside0.mk hP'
        have HST := Aside0.mk hst'
        have HS := Aside0.mk hs'
        have HCB := Aside0.mk hCb
        clear hP' hst' hs' hCw hCb
        by_cases hd : d' < (nb nx b).length
        · have hdi : (d' : Int) < ((nb nx b).length : Int) := by omega
          obtain ⟨ad2, rfl, hc2⟩ := Kd.at_int HCB.out (d' : Int) (by omega) hdi
          rw [Int.toNat_natCast] at hc2
          obtain ⟨t, ht⟩ : ∃ t, rd (nb nx b) (d' : Int) = t := ⟨_, rfl⟩
          rw [ht] at hc2
          have hget : (nb nx b)[d']? = some t := by rw [← ht, List.getElem?_eq_getElem hd]; simp [rd, hd]
          have htb := hw.in_ b t (List.mem_of_getElem? hget)
          obtain ⟨ht0, ht1⟩ := htb
          have hd0 : (0 : Int) ≤ (d' : Int) := by omega
          have hdm : d' < 9223372036854775807 := by have := Kd.C_max HCB.out; omega
          have HG := Aside0.mk hget
          clear ht hget
          go_wp2_with (fail)
          go_quiet (fail)
          rename Nat => q1
          go_wp2_with (fail)
          go_quiet (fail)
          go_upto_region 10 with (fail)
          have hcast : ((d' : Int) + 1) = ((d' + 1 : Nat) : Int) := rfl
          rw [hcast]
          have hkey : ∀ k : Nat, PSm w ((wr.drewN k).setCell ⟨gw, r.length * 2 + 1, none⟩ (.int .i64 ((d' + 1 : Nat) : Int))) nx u3 (.slice (some ⟨gw, 0, none⟩) (r.length + 1) capw) s'.out s'.mks ((b, d' + 1) :: r) := fun k => by
            have hst : (wr.drewN k).ownsRow w.heap.size 86 2 (.slice (some ⟨gw, 0, none⟩) (r.length + 1) capw) (r.length + 1) (flat r.reverse ++ [.int .i64 b, .int .i64 (d' : Int)]) := HST.out
            obtain ⟨h1, hg⟩ := hst.stored (r.length * 2 + 1) (.int .i64 ((d' + 1 : Nat) : Int))
            have hout : (wr.drewN k).ownsRow w.heap.size 3 1 u3 s'.out.length (s'.out.map (Value.int .i64)) := HP.out.out
            have hmks : (wr.drewN k).ownsRow w.heap.size 4 1 (.slice (some ⟨w.heap.size, 0, none⟩) nx.length nx.length) nx.length (s'.mks.map Value.bool) := HP.out.mks
            refine ⟨World.ownsRow.kept hout hg (own_ne hout hst (by decide)), World.ownsRow.kept hmks hg (own_ne hmks hst (by decide)), ?_, (pw_below_drewN HP.out.below k).setCell (p := ⟨gw, r.length * 2 + 1, none⟩) (World.ownsRow.lt hst gw rfl).1 _⟩
            have hfl : (flat r.reverse).length = r.length * 2 := by rw [flat_length, List.length_reverse]
            rw [List.set_append_right _ _ (by omega), hfl, Nat.add_sub_cancel_left] at h1
            rw [List.reverse_cons, flat_snoc]
            exact h1
          have hinv := HP.out.inv
          have htgt := HP.out.tgt
          obtain ⟨w5, hw5⟩ : ∃ w5, w5 = (wr.drewN (q1 + nq)).setCell ⟨gw, r.length * 2 + 1, none⟩ (.int .i64 ((d' + 1 : Nat) : Int)) := ⟨_, rfl⟩
          rw [← hw5]
          have hP5 := hkey (q1 + nq)
          rw [← hw5] at hP5
          clear hkey hw5 hcast
          have hml : s'.mks.length = nx.length := hinv.len
          have cm := mark_cell hP5.mks hml t.toNat (by omega)
          have fm := hP5.mks.frozenAt t.toNat
          have HP5 := Aside0.mk hP5
          have HMS := Aside0.mk hm'
          have HML := Aside0.mk hml
          have HINV := Aside0.mk hinv
          have HTGT := Aside0.mk htgt
          clear cb cd fd hn hc2 hP5 HST hdm hm' hml hinv htgt
          by_cases hmk : s'.mks.getD t.toNat false = true
          · have HE := Aside0.mk (dstep_seen HS.out HG.out hmk)
            rw [hmk] at cm
            clear hmk
            go_wp2_with (fail)
            go_roundg (meas nx (dstep nx s'))
            case measure =>
              have := meas_step nx hw s' HINV.out (by rw [HS.out]; simp)
              have := HMS.out
              omega
            case rel =>
              have hi := inv_step nx hw s' HINV.out
              have ht := tgt_step nx hw HINV.out HTGT.out
              have hms := meas_step nx hw s' HINV.out (by rw [HS.out]; simp)
              refine ⟨rfl, dstep nx s', d' + 1, by rw [HE.out], ?_, Nat.le_refl _, by have := HMS.out; omega⟩
              refine ⟨?_, ?_, ?_, hi, ht, HP5.out.below⟩
              · rw [HE.out]; exact HP5.out.out
              · rw [HE.out]; exact HP5.out.mks
              · rw [HE.out]; exact HP5.out.st
          · have HE := Aside0.mk (dstep_new HS.out HG.out hmk)
            have hmf : s'.mks.getD t.toNat false = false := by simpa using hmk
            rw [hmf] at cm
            clear hmk hmf
            obtain ⟨hm6, hg6⟩ := HP5.out.mks.stored t.toNat (.bool true)
            have ho6 := World.ownsRow.kept HP5.out.out hg6 (own_ne HP5.out.out HP5.out.mks (by decide))
            have hs6 := World.ownsRow.kept HP5.out.st hg6 (own_ne HP5.out.st HP5.out.mks (by decide))
            have hb6 := HP5.out.below.setCell (p := ⟨w.heap.size, t.toNat, none⟩) (Nat.le_refl _) (.bool true)
            have HM6 := Aside0.mk hm6
            have HO6 := Aside0.mk ho6
            have HS6 := Aside0.mk hs6
            have HB6 := Aside0.mk hb6
            clear hm6 hg6 ho6 hs6 hb6
            go_upto_region 12 with (fail)
            clear cm fm
            revert HM6 HO6 HS6 HB6
            generalize w5.setCell ⟨w.heap.size, t.toNat, none⟩ (.bool true) = w6
            intro HM6 HO6 HS6 HB6
            obtain ⟨i86, hi86, hz860, hz861, hz862⟩ := info_parts info86
            have HI := Aside0.mk hi86
            have HZ0 := Aside0.mk hz860
            have HZ1 := Aside0.mk hz861
            have HZ2 := Aside0.mk hz862
            clear hi86 hz860 hz861 hz862
            go_wp2_with (first | ((with_reducible refine gate_builtin (b := .append) rfl ?_); refine Classical.byContradiction (fun hcon => ?hst)) | go_in)
            refine hcon ?_
            have hrl2 : r.length + 2 ≤ nx.length := by
              have := inv_len (inv_step nx hw s' HINV.out)
              rw [HE.out] at this
              simp only [List.length_cons] at this
              omega
            refine wpList_append_own _ rfl _ _ 87 rfl w.heap.size 86 i86 (.agg #[.int .i64 0, .int .i64 0]) 2 16 Try.underlying87 HI.out HZ0.out HZ1.out HZ2.out rfl (by decide) _ _ _ rfl (World.ownsRow.alloc HS6.out _) ⟨w6.heap.size, 0, none⟩ 1 1 [.int .i64 t, .int .i64 0] rfl rfl (cells2_new _ _ _ _) (by simp [Value.oneCell']) (by simp [maxLen]; omega) (by simp; omega) (by have := HB6.out.size; simp; omega) ?_
            intro v7 w7 hown7 hgrow7 _
            obtain ⟨g7, cap7, rfl⟩ := ownsRow_succ hown7
            have ho7 := World.ownsRow.kept (World.ownsRow.alloc HO6.out _) hgrow7 (own_ne HO6.out HS6.out (by decide))
            have hm7 := World.ownsRow.kept (World.ownsRow.alloc HM6.out _) hgrow7 (own_ne HM6.out HS6.out (by decide))
            have hb7 : Below w.heap.size w w7 := (below_alloc HB6.out _).grown hgrow7 (by have := HB6.out.size; simp; omega) (fun k e => (World.ownsRow.lt HS6.out k e).1)
            have HO7 := Aside0.mk ho7
            have HM7 := Aside0.mk hm7
            have HB7 := Aside0.mk hb7
            have HS7 := Aside0.mk hown7
            clear ho7 hm7 hb7 hown7 hgrow7
            go_wp2_with (fail)
            go_roundg (meas nx (dstep nx s'))
            case measure =>
              have := meas_step nx hw s' HINV.out (by rw [HS.out]; simp)
              have := HMS.out
              omega
            case rel =>
              have hi := inv_step nx hw s' HINV.out
              have ht := tgt_step nx hw HINV.out HTGT.out
              refine ⟨dstep nx s', ⟨?_, ?_, ?_, hi, ht, HB7.out⟩, Nat.le_refl _⟩
              · rw [HE.out]; exact HO7.out
              · rw [HE.out]
                have := HM7.out
                rw [List.map_set]
                exact this
              · rw [HE.out]
                have := HS7.out
                rw [List.reverse_cons, flat_snoc]
                exact this
        · have hdi : ((nb nx b).length : Int) ≤ (d' : Int) := by omega
          have HINV := Aside0.mk HP.out.inv
          have HMS := Aside0.mk hm'
          have hgn : (nb nx b)[d']? = none := List.getElem?_eq_none_iff.2 (by omega)
          have HE := Aside0.mk (dstep_none HS.out hgn)
          clear hgn
          clear hm'
          go_wp2_with (fail)
          go_quiet (fail)
          go_upto_region 13 with (fail)
          have ho8 : (wr.drewN nq).ownsRow w.heap.size 3 1 u3 s'.out.length (s'.out.map (Value.int .i64)) := HP.out.out
          have hm8 : (wr.drewN nq).ownsRow w.heap.size 4 1 (.slice (some ⟨w.heap.size, 0, none⟩) nx.length nx.length) nx.length (s'.mks.map Value.bool) := HP.out.mks
          have hs8 : (wr.drewN nq).ownsRow w.heap.size 86 2 (.slice (some ⟨gw, 0, none⟩) (r.length + 1) capw) (r.length + 1) (flat r.reverse ++ [.int .i64 b, .int .i64 (d' : Int)]) := HST.out
          have hb8 := pw_below_drewN HP.out.below nq
          have ht8 := HP.out.tgt
          have hol := inv_len HP.out.inv
          rw [HS.out, List.length_cons] at hol
          clear cb cd fd hn HP HST HCB
          revert ho8 hm8 hs8 hb8
          generalize wr.drewN nq = w8
          intro ho8 hm8 hs8 hb8
          have hfl : (flat r.reverse).length = r.length * 2 := by rw [flat_length, List.length_reverse]
          have cb : w8.cell? ⟨gw, r.length * 2, none⟩ = some (.int .i64 b) := by
            rw [hs8.cellAt _ (by omega), List.getElem?_append_right (by omega), hfl, Nat.sub_self]; rfl
          obtain ⟨Ao, co, rfl⟩ := row_slice ho8
          have HO8 := Aside0.mk ho8
          have HM8 := Aside0.mk hm8
          have HS8 := Aside0.mk hs8
          have HB8 := Aside0.mk hb8
          have HT8 := Aside0.mk ht8
          have HFL := Aside0.mk hfl
          clear ho8 hm8 hs8 hb8 ht8 hfl
          obtain ⟨i3, hi3, hz30, hz31, hz32⟩ := info_parts info3
          have HI := Aside0.mk hi3
          have HZ0 := Aside0.mk hz30
          have HZ1 := Aside0.mk hz31
          have HZ2 := Aside0.mk hz32
          clear hi3 hz30 hz31 hz32
          go_wp2_with (first | (at_builtin; refine wpList_append_own _ rfl _ _ 26 rfl w.heap.size 3 i3 (.int .i64 0) 1 8 Try.underlying26 HI.out HZ0.out HZ1.out HZ2.out rfl (by decide) _ _ _ rfl (World.ownsRow.alloc HO8.out _) ⟨w8.heap.size, 0, none⟩ 1 1 [.int .i64 b] rfl rfl (cell_one_new _ _ _) (by simp [Value.oneCell']) (by simp [maxLen]; omega) (by omega) (by have := HB8.out.size; simp; omega) ?_; intro v9 w9 hown9 hgrow9 _; refine Classical.byContradiction (fun hcon => ?hst2)) | go_in)
          refine hcon ?_
          obtain ⟨g9, cap9, rfl⟩ := ownsRow_succ hown9
          have hm9 := World.ownsRow.kept (World.ownsRow.alloc HM8.out _) hgrow9 (own_ne HM8.out HO8.out (by decide))
          have hs9 := World.ownsRow.kept (World.ownsRow.alloc HS8.out _) hgrow9 (own_ne HS8.out HO8.out (by decide))
          have hb9 : Below w.heap.size w w9 := (below_alloc HB8.out _).grown hgrow9 (by have := HB8.out.size; simp; omega) (fun k e => (World.ownsRow.lt HO8.out k e).1)
          have hp9 := ownsRow_pop (by rw [HFL.out]) hs9
          have HM9 := Aside0.mk hm9
          have HP9 := Aside0.mk hp9
          have HB9 := Aside0.mk hb9
          have HO9 := Aside0.mk hown9
          have hcapw : r.length + 1 ≤ capw := by
            rcases hs9.2 with ⟨h0, _⟩ | ⟨_, _, _, h0, _, _, h1, _⟩
            · cases h0
            · cases h0; exact h1
          clear hm9 hs9 hb9 hp9 hown9 hgrow9 cb
          go_wp2_with (fail)
          go_roundg (meas nx (dstep nx s'))
          case measure =>
            have := meas_step nx hw s' HINV.out (by rw [HS.out]; simp)
            have := HMS.out
            omega
          case rel =>
            have hi := inv_step nx hw s' HINV.out
            have ht := tgt_step nx hw HINV.out HT8.out
            refine ⟨dstep nx s', ⟨?_, ?_, ?_, hi, ht, HB9.out⟩, Nat.le_refl _⟩
            · rw [HE.out]
              have := HO9.out
              simpa using this
            · rw [HE.out]; exact HM9.out
            · rw [HE.out]; exact HP9.out
end Go.Proofs.Ytmeaepmimnmjlaa.Ask
/- graph.dominators, plainly: rounds over the blocks in reverse postorder; each round that changes something leaves less to be done; what it ends with. -/
namespace Go.Proofs.Ytmeaepmimnmjlaa.Dom
open Go.RowKit Go.Proofs.Ytmeaepmimnmjlaa.PGb Go.Proofs.Ytmeaepmimnmjlaa.Ask Go.Proofs.Ytmeaepmimnmjlaa.Dfs Go.Proofs.Ytmeaepmimnmjlaa.DomT Go.Proofs.YtmeaepmimnmjlaaW.PrintWords
set_option linter.unusedVariables false
def atOf (l : List Int) : List Int → Int → Int
  | [], at_ => at_
  | a :: r, at_ => atOf l r (if a ≠ 0 ∧ rd l a < 0 then at_ else if at_ < 0 then a else meetOf l at_ a)
def procB (ah : List (List Int)) (s : List Int × Bool) (b : Int) : List Int × Bool :=
  if b = 0 then s else if rd s.1 b ≠ atOf s.1 (ah.getD b.toNat []) (-1) then (s.1.set b.toNat (atOf s.1 (ah.getD b.toNat []) (-1)), true) else s
/-- what may come ahead of each block -/
structure Ahd (nx ah : List (List Int)) : Prop where
  len : ah.length = nx.length
  mem : ∀ c : Int, 0 ≤ c → c < nx.length → ∀ a, a ∈ ah.getD c.toNat [] ↔ (a ∈ post nx ∧ c ∈ nb nx a)
def Sx (nx : List (List Int)) (b : Int) : Prop := b ∈ post nx
def posx (nx : List (List Int)) (b : Int) : Nat := (post nx).reverse.idxOf b
def Ex (nx : List (List Int)) (a b : Int) : Prop := a ∈ post nx ∧ b ∈ nb nx a
section
variable {nx : List (List Int)}
theorem idx_split {pre r : List Int} {b : Int} (hn : (pre ++ b :: r).Nodup) : (pre ++ b :: r).reverse.idxOf b = r.length := by
  have e : (pre ++ b :: r).reverse = r.reverse ++ b :: pre.reverse := by simp
  have hb : b ∉ r.reverse := by
    intro h
    rw [List.nodup_append] at hn
    have := (List.nodup_cons.1 hn.2.1).1
    exact this (List.mem_reverse.1 h)
  rw [e, List.idxOf_append, if_neg hb]
  simp
theorem gr (hw : Wf nx) : Gr (Sx nx) (posx nx) (Ex nx) := by
  have hn := post_nodup nx hw
  obtain ⟨l, hl⟩ := post_last nx hw
  refine ⟨post_zero nx hw, ?_, fun a b ha hb h => ?_, fun a b h _ => h.1, fun b hb => (post_bound nx hw hb).1, fun b hb hb0 => ?_⟩
  · unfold posx; rw [hl]; simp
  · unfold posx at h
    have h1 : (post nx).reverse.idxOf a < (post nx).reverse.length := List.idxOf_lt_length_iff.2 (List.mem_reverse.2 ha)
    have h2 : (post nx).reverse.idxOf b < (post nx).reverse.length := List.idxOf_lt_length_iff.2 (List.mem_reverse.2 hb)
    have e1 := List.getElem_idxOf h1
    have e2 := List.getElem_idxOf h2
    rw [← e1, ← e2]
    congr 1
  · obtain ⟨pre, r, he⟩ := List.append_of_mem hb
    obtain ⟨a, ha, har⟩ := post_par nx hw he hb0
    refine ⟨a, ⟨by rw [he]; simp [har], ha⟩, ?_⟩
    obtain ⟨p2, r2, hr⟩ := List.append_of_mem har
    have e2 : post nx = (pre ++ b :: p2) ++ a :: r2 := by rw [he, hr]; simp
    have h1 : posx nx b = r.length := by unfold posx; rw [he]; exact idx_split (he ▸ hn)
    have h2 : posx nx a = r2.length := by unfold posx; rw [e2]; exact idx_split (e2 ▸ hn)
    rw [h1, h2, hr]; simp; omega
theorem pos_lt (hw : Wf nx) {b : Int} (h : Sx nx b) : posx nx b < nx.length := by
  have h1 : (post nx).reverse.idxOf b < (post nx).reverse.length := List.idxOf_lt_length_iff.2 (List.mem_reverse.2 h)
  rw [List.length_reverse] at h1
  have := post_length nx hw
  unfold posx
  omega
variable {l : List Int} {i : Nat}
theorem rd_range (hl : l.length = nx.length) {b : Int} (hw : Wf nx) (hs : Sx nx b) : 0 ≤ b ∧ b < (l.length : Int) := by
  have := post_bound nx hw hs
  omega
/-- the list of what lies above is the way up -/
theorem doms_anc (hw : Wf nx) (hl : l.length = nx.length) (h : InP (Sx nx) (posx nx) (Ex nx) i (rd l)) : ∀ (k : Nat) (x : Int), Sx nx x → Proc (rd l) x → posx nx x < k → ∀ y, y ∈ doms l k x ↔ Anc (rd l) x y
  | 0, x, _, _, hk, _ => by omega
  | k + 1, x, hs, hp, hk, y => by
    have hr := rd_range hl hw hs
    unfold doms
    rw [if_pos hr, List.mem_cons]
    by_cases hx : x = 0
    · subst hx
      have hneg : rd l 0 < 0 := h.z
      have hd : doms l k (rd l 0) = [] := by
        cases k with
        | zero => rfl
        | succ k => unfold doms; rw [if_neg (by omega)]
      rw [hd]
      constructor
      · rintro (rfl | h1)
        · exact .refl _
        · cases h1
      · intro h1
        cases h1 with
        | refl => exact .inl rfl
        | step h2 _ => omega
    · have h0 : 0 ≤ rd l x := hp.resolve_left hx
      obtain ⟨a1, a2, a3⟩ := h.a x hs hx h0
      have ih := doms_anc hw hl h k (rd l x) a1 a3 (by omega) y
      rw [ih]
      constructor
      · rintro (rfl | h1)
        · exact .refl _
        · exact .step h0 h1
      · intro h1
        cases h1 with
        | refl => exact .inl rfl
        | step _ h2 => exact .inr h2
theorem firstIn_anc (hw : Wf nx) (hl : l.length = nx.length) (h : InP (Sx nx) (posx nx) (Ex nx) i (rd l)) (D : List Int) : ∀ (k : Nat) (x : Int), Sx nx x → Proc (rd l) x → posx nx x < k → (∃ y, Anc (rd l) x y ∧ y ∈ D) → Anc (rd l) x (firstIn D (doms l k x)) ∧ firstIn D (doms l k x) ∈ D ∧ ∀ y, Anc (rd l) x y → y ∈ D → Anc (rd l) (firstIn D (doms l k x)) y
  | 0, x, _, _, hk, _ => by omega
  | k + 1, x, hs, hp, hk, ⟨y0, hy0, hd0⟩ => by
    have hr := rd_range hl hw hs
    unfold doms
    rw [if_pos hr, firstIn]
    by_cases hxD : x ∈ D
    · rw [if_pos hxD]
      exact ⟨.refl _, hxD, fun y hy _ => hy⟩
    · rw [if_neg hxD]
      cases hy0 with
      | refl => exact absurd hd0 hxD
      | step h0 h1 =>
        have hx : x ≠ 0 := fun e => by rw [e] at h0; have := h.z; omega
        obtain ⟨a1, a2, a3⟩ := h.a x hs hx h0
        obtain ⟨i1, i2, i3⟩ := firstIn_anc hw hl h D k (rd l x) a1 a3 (by omega) ⟨y0, h1, hd0⟩
        refine ⟨.step h0 i1, i2, fun y hy hyD => ?_⟩
        cases hy with
        | refl => exact absurd hyD hxD
        | step _ h2 => exact i3 y h2 hyD
theorem meet_anc (hw : Wf nx) (hl : l.length = nx.length) (h : InP (Sx nx) (posx nx) (Ex nx) i (rd l)) {a b : Int} (ha : Sx nx a) (hpa : Proc (rd l) a) (hb : Sx nx b) (hpb : Proc (rd l) b) :
    Anc (rd l) a (meetOf l a b) ∧ Anc (rd l) b (meetOf l a b) ∧ ∀ y, Anc (rd l) a y → Anc (rd l) b y → Anc (rd l) (meetOf l a b) y := by
  have hD := doms_anc hw hl h l.length b hb hpb (by rw [hl]; exact pos_lt hw hb)
  obtain ⟨h1, h2, h3⟩ := firstIn_anc hw hl h (doms l l.length b) l.length a ha hpa (by rw [hl]; exact pos_lt hw ha) ⟨0, h.zero_up (gr hw) _ a (Nat.le_refl _) ha hpa, (hD 0).2 (h.zero_up (gr hw) _ b (Nat.le_refl _) hb hpb)⟩
  exact ⟨h1, (hD _).1 h2, fun y hy hy' => h3 y hy ((hD y).2 hy')⟩
/-- what is known while the blocks ahead are gone through -/
def Acc (nx : List (List Int)) (u : Int → Int) (done : List Int) (at_ : Int) : Prop :=
  ((∃ a ∈ done, Proc u a) → 0 ≤ at_ ∧ Sx nx at_ ∧ Proc u at_ ∧ IsMeet u (fun a => a ∈ done ∧ Proc u a) at_) ∧ ((∀ a ∈ done, ¬ Proc u a) → at_ = -1)
theorem atOf_acc (hw : Wf nx) (hl : l.length = nx.length) (h : InP (Sx nx) (posx nx) (Ex nx) i (rd l)) : ∀ (r done : List Int) (at_ : Int), (∀ a ∈ done ++ r, Sx nx a) → Acc nx (rd l) done at_ → Acc nx (rd l) (done ++ r) (atOf l r at_)
  | [], done, at_, _, hA => by rw [List.append_nil]; exact hA
  | a :: r, done, at_, hS, hA => by
    have ha : Sx nx a := hS a (by simp)
    have hnn := (post_bound nx hw ha).1
    have e : done ++ a :: r = (done ++ [a]) ++ r := by simp
    rw [e]
    unfold atOf
    refine atOf_acc hw hl h r (done ++ [a]) _ (by rw [← e]; exact hS) ?_
    have hiff : ¬ (a ≠ 0 ∧ rd l a < 0) ↔ Proc (rd l) a := by
      unfold Proc
      constructor
      · intro h1
        by_cases h2 : a = 0
        · exact .inl h2
        · right; exact Int.not_lt.1 (fun h3 => h1 ⟨h2, h3⟩)
      · rintro (h1 | h1) ⟨h2, h3⟩
        · exact h2 h1
        · omega
    by_cases hs : a ≠ 0 ∧ rd l a < 0
    · rw [if_pos hs]
      have hnp : ¬ Proc (rd l) a := fun hp => (hiff.2 hp) hs
      refine ⟨fun ⟨x, hx, hp⟩ => ?_, fun hn => hA.2 (fun x hx => hn x (by simp [hx]))⟩
      have hxd : x ∈ done := by
        rcases List.mem_append.1 hx with h1 | h1
        · exact h1
        · rw [List.mem_singleton.1 h1] at hp; exact absurd hp hnp
      obtain ⟨a1, a2, a3, a4, a5⟩ := hA.1 ⟨x, hxd, hp⟩
      refine ⟨a1, a2, a3, fun y ⟨hy, hpy⟩ => ?_, fun y hy => a5 y (fun z ⟨hz, hpz⟩ => hy z ⟨by simp [hz], hpz⟩)⟩
      rcases List.mem_append.1 hy with h1 | h1
      · exact a4 y ⟨h1, hpy⟩
      · rw [List.mem_singleton.1 h1] at hpy; exact absurd hpy hnp
    · rw [if_neg hs]
      have hp := hiff.1 hs
      refine ⟨fun _ => ?_, fun hn => absurd hp (hn a (by simp))⟩
      by_cases hex : ∃ x ∈ done, Proc (rd l) x
      · obtain ⟨a1, a2, a3, a4, a5⟩ := hA.1 hex
        rw [if_neg (by omega)]
        obtain ⟨m1, m2, m3⟩ := meet_anc hw hl h a2 a3 ha hp
        obtain ⟨sm, pm, _, _⟩ := h.up m2 ha hp
        refine ⟨(post_bound nx hw sm).1, sm, pm, fun y ⟨hy, hpy⟩ => ?_, fun y hy => m3 y (a5 y (fun z ⟨hz, hpz⟩ => hy z ⟨by simp [hz], hpz⟩)) (hy a ⟨by simp, hp⟩)⟩
        rcases List.mem_append.1 hy with h1 | h1
        · exact (a4 y ⟨h1, hpy⟩).trans m1
        · rw [List.mem_singleton.1 h1]; exact m2
      · have hat := hA.2 (fun x hx hpx => hex ⟨x, hx, hpx⟩)
        rw [hat, if_pos (by omega)]
        refine ⟨hnn, ha, hp, fun y ⟨hy, hpy⟩ => ?_, fun y hy => hy a ⟨by simp, hp⟩⟩
        rcases List.mem_append.1 hy with h1 | h1
        · exact absurd ⟨y, h1, hpy⟩ hex
        · rw [List.mem_singleton.1 h1]; exact .refl _
theorem atOf_meet {ah : List (List Int)} (hw : Wf nx) (hah : Ahd nx ah) (hl : l.length = nx.length) (h : InP (Sx nx) (posx nx) (Ex nx) i (rd l)) {b : Int} (hb : Sx nx b) (hb0 : b ≠ 0) (hi : posx nx b = i) : IsMeet (rd l) (fun a => Ex nx a b ∧ Proc (rd l) a) (atOf l (ah.getD b.toNat []) (-1)) := by
  have hbb := post_bound nx hw hb
  have hm := hah.mem b hbb.1 hbb.2
  have hA := atOf_acc hw hl h (ah.getD b.toNat []) [] (-1) (fun a ha => ((hm a).1 (by simpa using ha)).1) ⟨fun ⟨a, ha, _⟩ => absurd ha List.not_mem_nil, fun _ => rfl⟩
  rw [List.nil_append] at hA
  obtain ⟨p, hp1, hp2⟩ := (gr hw).par b hb hb0
  have hpp := h.pr p hp1.1 (by omega)
  obtain ⟨_, _, _, m1, m2⟩ := hA.1 ⟨p, (hm p).2 hp1, hpp⟩
  exact ⟨fun a ⟨ha, hpa⟩ => m1 a ⟨(hm a).2 ha, hpa⟩, fun y hy => m2 y (fun a ⟨ha, hpa⟩ => hy a ⟨(hm a).1 ha, hpa⟩)⟩
theorem rd_set {b m : Int} (hb0 : b ≠ 0) (hb : 0 ≤ b ∧ b < (l.length : Int)) : rd (l.set b.toNat m) = upd (rd l) b m := by
  funext x
  unfold rd upd
  simp only [List.getD_eq_getElem?_getD, List.getElem?_set]
  by_cases hx : x = b
  · subst hx
    rw [if_pos rfl, if_pos rfl, if_pos (by omega)]; rfl
  · rw [if_neg hx]
    by_cases h2 : b.toNat = x.toNat
    · exfalso; omega
    · rw [if_neg h2]
theorem upd_id {u : Int → Int} {b : Int} : upd u b (u b) = u := by
  funext x
  unfold upd
  split
  · rename_i h; rw [h]
  · rfl
/-- how much the blocks of a list are worth -/
def worth (nx : List (List Int)) (l : List Int) : List Int → Nat
  | [] => 0
  | b :: r => (if rd l b < 0 then nx.length + 1 else posx nx (rd l b)) + worth nx l r
theorem worth_other {b m : Int} (hb0 : b ≠ 0) (hb : 0 ≤ b ∧ b < (l.length : Int)) : ∀ (r : List Int), b ∉ r → worth nx (l.set b.toNat m) r = worth nx l r
  | [], _ => rfl
  | x :: r, h => by
    have h1 : x ≠ b := fun e => h (e ▸ List.mem_cons_self)
    unfold worth
    rw [worth_other hb0 hb r (fun e => h (List.mem_cons_of_mem _ e)), rd_set hb0 hb, upd_ne _ _ h1]
theorem worth_less {b m : Int} (hb0 : b ≠ 0) (hb : 0 ≤ b ∧ b < (l.length : Int)) (hm : 0 ≤ m) (hlt : posx nx m < (if rd l b < 0 then nx.length + 1 else posx nx (rd l b))) : ∀ (r : List Int), r.Nodup → b ∈ r → worth nx (l.set b.toNat m) r < worth nx l r
  | [], _, h => by cases h
  | x :: r, hn, h => by
    obtain ⟨h1, h2⟩ := List.nodup_cons.1 hn
    unfold worth
    by_cases hx : x = b
    · subst hx
      rw [worth_other hb0 hb r h1, rd_set hb0 hb, upd_same, if_neg (by omega)]
      omega
    · have := worth_less hb0 hb hm hlt r h2 (by
        rcases List.mem_cons.1 h with h3 | h3
        · exact absurd h3.symm hx
        · exact h3)
      rw [rd_set hb0 hb, upd_ne _ _ hx]
      omega
def ord (nx : List (List Int)) : List Int := (post nx).reverse
/-- what is known in the midst of a round that began with l0 -/
structure Mids (nx ah : List (List Int)) (l0 : List Int) (pre : List Int) (s : List Int × Bool) : Prop where
  len : s.1.length = nx.length
  inp : InP (Sx nx) (posx nx) (Ex nx) (max 1 pre.length) (rd s.1)
  off : ∀ b : Int, 0 ≤ b → b < nx.length → b ∉ post nx → rd s.1 b = -1
  w : worth nx s.1 (ord nx) ≤ worth nx l0 (ord nx)
  ch : s.2 = true → worth nx s.1 (ord nx) < worth nx l0 (ord nx)
  same : s.2 = false → s.1 = l0 ∧ ∀ c ∈ pre, c ≠ 0 → IsMeet (rd l0) (fun a => Ex nx a c ∧ Proc (rd l0) a) (rd l0 c)
theorem mids_step {ah : List (List Int)} (hw : Wf nx) (hah : Ahd nx ah) {l0 pre r : List Int} {b : Int} {s : List Int × Bool} (ho : ord nx = pre ++ b :: r) (h : Mids nx ah l0 pre s) : Mids nx ah l0 (pre ++ [b]) (procB ah s b) := by
  have hn : (ord nx).Nodup := by unfold ord; exact ((post nx).reverse_perm.nodup_iff).2 (post_nodup nx hw)
  have hbm : b ∈ post nx := List.mem_reverse.1 (show b ∈ ord nx by rw [ho]; simp)
  have hpos : posx nx b = pre.length := by
    have hnp : b ∉ pre := by
      rw [ho, List.nodup_append] at hn
      exact fun hx => hn.2.2 b hx b List.mem_cons_self rfl
    show (ord nx).idxOf b = _
    rw [ho, List.idxOf_append, if_neg hnp]
    simp
  unfold procB
  by_cases hb0 : b = 0
  · rw [if_pos hb0]
    have hp0 : pre.length = 0 := by rw [← hpos, hb0]; exact (gr hw).pos0
    refine ⟨h.len, ?_, h.off, h.w, h.ch, fun hf => ⟨(h.same hf).1, fun c hc hc0 => ?_⟩⟩
    · have := h.inp
      rw [List.length_append, hp0] at *
      exact this
    · rcases List.mem_append.1 hc with h1 | h1
      · exact (h.same hf).2 c h1 hc0
      · exact absurd ((List.mem_singleton.1 h1).trans hb0) hc0
  · rw [if_neg hb0]
    have hp1 : 1 ≤ pre.length := by
      refine Nat.one_le_iff_ne_zero.2 (fun e => hb0 ((gr hw).inj b 0 hbm (gr hw).zero ?_))
      rw [hpos, e, (gr hw).pos0]
    have hmx : max 1 pre.length = pre.length := Nat.max_eq_right hp1
    have hinp := h.inp
    rw [hmx] at hinp
    have hmx' : max 1 (pre ++ [b]).length = pre.length + 1 := by rw [List.length_append, List.length_singleton]; exact Nat.max_eq_right (by omega)
    have hbr := rd_range h.len hw hbm
    obtain ⟨m, hm⟩ : ∃ m, atOf s.1 (ah.getD b.toNat []) (-1) = m := ⟨_, rfl⟩
    have hmeet := atOf_meet hw hah h.len hinp hbm hb0 hpos
    rw [hm] at hmeet ⊢
    obtain ⟨n1, n2, n3, n4, n5⟩ := hinp.next (gr hw) hbm hb0 hpos hmeet
    by_cases he : rd s.1 b = m
    · rw [if_neg (fun hne => hne he)]
      rw [← he, upd_id] at n1
      refine ⟨h.len, by rw [hmx']; exact n1, h.off, h.w, h.ch, fun hf => ⟨(h.same hf).1, fun c hc hc0 => ?_⟩⟩
      rcases List.mem_append.1 hc with h1 | h1
      · exact (h.same hf).2 c h1 hc0
      · rw [List.mem_singleton.1 h1, ← (h.same hf).1, he]; exact hmeet
    · rw [if_pos he]
      have hlt : posx nx m < (if rd s.1 b < 0 then nx.length + 1 else posx nx (rd s.1 b)) := by
        have := pos_lt hw n3
        by_cases h0 : rd s.1 b < 0
        · rw [if_pos h0]; omega
        · rw [if_neg h0]
          obtain ⟨q1, q2⟩ := n5 (by omega)
          have : posx nx m ≠ posx nx (rd s.1 b) := fun e => he (q2 e).symm
          omega
      have hwl := worth_less (nx := nx) (l := s.1) hb0 hbr n2 hlt (ord nx) hn (by rw [ho]; simp)
      refine ⟨by simp [h.len], ?_, fun c hc0 hc1 hcp => ?_, ?_, fun _ => ?_, fun hf => by cases hf⟩
      · rw [hmx', rd_set hb0 hbr]; exact n1
      · have hcb : c ≠ b := fun e => hcp (e ▸ hbm)
        rw [rd_set hb0 hbr, upd_ne _ _ hcb]; exact h.off c hc0 hc1 hcp
      · have := h.w; simp only; omega
      · have := h.w; simp only; omega
theorem mids_fold {ah : List (List Int)} (hw : Wf nx) (hah : Ahd nx ah) {l0 : List Int} : ∀ (r pre : List Int) (s : List Int × Bool), ord nx = pre ++ r → Mids nx ah l0 pre s → Mids nx ah l0 (ord nx) (r.foldl (procB ah) s)
  | [], pre, s, ho, h => by rw [List.append_nil] at ho; rw [ho]; exact h
  | b :: r, pre, s, ho, h => by
    rw [List.foldl_cons]
    exact mids_fold hw hah r (pre ++ [b]) _ (by rw [ho]; simp) (mids_step hw hah ho h)
/-- what is known between two rounds -/
structure Good (nx : List (List Int)) (l : List Int) : Prop where
  len : l.length = nx.length
  inp : InP (Sx nx) (posx nx) (Ex nx) 1 (rd l)
  off : ∀ b : Int, 0 ≤ b → b < nx.length → b ∉ post nx → rd l b = -1
theorem good_start (hw : Wf nx) : Good nx (List.replicate nx.length (-1)) := by
  have hrd : ∀ b : Int, 0 ≤ b → b < nx.length → rd (List.replicate nx.length (-1)) b = -1 := fun b h0 h1 => by
    unfold rd
    rw [List.getD_eq_getElem?_getD, List.getElem?_replicate, if_pos (by omega)]; rfl
  refine ⟨List.length_replicate, InP.start (gr hw) (fun b hb => ?_), fun b h0 h1 _ => hrd b h0 h1⟩
  have := post_bound nx hw hb
  rw [hrd b this.1 this.2]; decide
theorem good_mids {ah l0 : List _} (hw : Wf nx) (h : Good nx l0) : Mids nx ah l0 [] (l0, false) :=
  ⟨h.len, h.inp, h.off, Nat.le_refl _, fun hf => (by cases hf), fun _ => ⟨rfl, fun c hc => (by cases hc)⟩⟩
/-- one round -/
def pass (nx ah : List (List Int)) (l : List Int) : List Int × Bool := (ord nx).foldl (procB ah) (l, false)
theorem pass_mids {ah : List (List Int)} (hw : Wf nx) (hah : Ahd nx ah) (h : Good nx l) : Mids nx ah l (ord nx) (pass nx ah l) :=
  mids_fold hw hah (ord nx) [] _ rfl (good_mids hw h)
theorem ord_pos (hw : Wf nx) : 1 ≤ (ord nx).length := by
  have := post_zero nx hw
  unfold ord
  rw [List.length_reverse]
  exact List.length_pos_of_mem this
theorem pass_good {ah : List (List Int)} (hw : Wf nx) (hah : Ahd nx ah) (h : Good nx l) : Good nx (pass nx ah l).1 := by
  have hm := pass_mids hw hah h
  exact ⟨hm.len, hm.inp.again (gr hw) (Nat.le_max_left _ _), hm.off⟩
/-- what it ends with -/
structure IsDom (nx : List (List Int)) (l : List Int) : Prop where
  len : l.length = nx.length
  off : ∀ b : Int, 0 ≤ b → b < nx.length → b ∉ post nx → rd l b = -1
  zero : rd l 0 = -1
  up : ∀ b, b ∈ post nx → b ≠ 0 → rd l b ∈ post nx ∧ posx nx (rd l b) < posx nx b
  anc : ∀ x, x ∈ post nx → ∀ d, Anc (rd l) x d ↔ ¬ AR (Ex nx) d x
  doms : ∀ x, x ∈ post nx → ∀ d, d ∈ doms l l.length x ↔ ¬ AR (Ex nx) d x
theorem pass_end {ah : List (List Int)} (hw : Wf nx) (hah : Ahd nx ah) (h : Good nx l) (hz : rd l 0 = -1) (hf : (pass nx ah l).2 = false) : IsDom nx l := by
  have hm := pass_mids hw hah h
  obtain ⟨h1, h2⟩ := hm.same hf
  have hinp := hm.inp
  rw [h1] at hinp
  have hall : ∀ b, Sx nx b → Proc (rd l) b := fun b hb => hinp.pr b hb (by
    have h3 : (post nx).reverse.idxOf b < (post nx).reverse.length := List.idxOf_lt_length_iff.2 (List.mem_reverse.2 hb)
    have : posx nx b < (ord nx).length := h3
    have := Nat.le_max_right 1 (ord nx).length
    omega)
  have hanc : ∀ x, x ∈ post nx → ∀ d, Anc (rd l) x d ↔ ¬ AR (Ex nx) d x := hinp.final (gr hw) hall (fun c hc hc0 a ea => (h2 c (List.mem_reverse.2 hc) hc0).1 a ⟨ea, hall a ea.1⟩)
  refine ⟨h.len, h.off, hz, fun b hb hb0 => ?_, hanc, fun x hx d => ?_⟩
  · obtain ⟨a1, a2, _⟩ := hinp.a b hb hb0 ((hall b hb).resolve_left hb0)
    exact ⟨a1, a2⟩
  · rw [doms_anc hw h.len hinp l.length x hx (hall x hx) (by rw [h.len]; exact pos_lt hw hx) d]
    exact hanc x hx d
end
end Go.Proofs.Ytmeaepmimnmjlaa.Dom
/- Rows of rows of the function's own; slices.Backward by places; marks left behind; what graph.dominators gathers ahead of each block. -/
namespace Go.Proofs.Ytmeaepmimnmjlaa.Ask
open Go.RowKit Go.Shelf Go.Proofs.Ytmeaepmimnmjlaa.PGb Go.Proofs.Ytmeaepmimnmjlaa.Lit Go.Proofs.Ytmeaepmimnmjlaa.OwnCells Go.Proofs.YtmeaepmimnmjlaaW.PrintWords Go.Proofs.YtmeaepmimnmjlaaW.PrintLast Go.Proofs.YtmeaepmimnmjlaaW.PrintMore
attribute [local go_sem] Oper.semAt_some
set_option linter.unusedVariables false
set_option linter.unusedSimpArgs false
theorem own_held {w w1 : World} {base : Nat} {e : TypeId} {size n : Nat} {v : Value} {xs : List Value} (h : w.ownsRow base e size v n xs) (hm : ∀ k o, base ≤ k → w.heap[k]? = some o → o.isCells = true → w1.heap[k]? = some o) : w1.ownsRow base e size v n xs :=
  own_move h fun k hk => by
    obtain ⟨cells, hc⟩ := own_typed h k hk
    exact (hm k _ (own_base h k hk) hc rfl).trans hc.symm
structure Grid (W : World) (base ga n : Nat) (vs : List Value) (ah : List (List Int)) : Prop where
  row : W.ownsRow base 26 1 (.slice (some ⟨ga, 0, none⟩) n n) n vs
  len : ah.length = n
  each : ∀ i, i < n → W.ownsRow base 3 1 (vs.getD i undef) (ah.getD i []).length ((ah.getD i []).map (Value.int .i64))
  apart : ∀ i j, i < n → j < n → i ≠ j → (vs.getD i undef).ownBlock = none ∨ (vs.getD i undef).ownBlock ≠ (vs.getD j undef).ownBlock
section
variable {W W' : World} {base ga n : Nat} {vs : List Value} {ah : List (List Int)}
theorem Grid.vlen (h : Grid W base ga n vs ah) : vs.length = n := by have := h.row.1; omega
theorem Grid.held (h : Grid W base ga n vs ah) (hm : ∀ k o, base ≤ k → W.heap[k]? = some o → o.isCells = true → W'.heap[k]? = some o) : Grid W' base ga n vs ah :=
  ⟨own_held h.row hm, h.len, fun i hi => own_held (h.each i hi) hm, h.apart⟩
theorem Grid.typed (h : Grid W base ga n vs ah) (hm : ∀ k cs e, base ≤ k → (e = 26 ∨ e = 3) → W.heap[k]? = some (.cells cs e (0, 0)) → W'.heap[k]? = some (.cells cs e (0, 0))) : Grid W' base ga n vs ah := by
  have hx : ∀ {e size n : Nat} {v : Value} {xs : List Value}, (e = 26 ∨ e = 3) → W.ownsRow base e size v n xs → W'.ownsRow base e size v n xs := fun he h => own_move h fun k hk => by
    obtain ⟨cells, hc⟩ := own_typed h k hk
    exact (hm k _ _ (own_base h k hk) he hc).trans hc.symm
  exact ⟨hx (.inl rfl) h.row, h.len, fun i hi => hx (.inr rfl) (h.each i hi), h.apart⟩
theorem Grid.box (h : Grid W base ga n vs ah) {g : Nat} {v : Value} (hg : Boxed W g 4 v) (u : Value) : Grid (W.setCell ⟨g, 0, none⟩ u) base ga n vs ah :=
  h.typed fun k cs e _ he hk => (Below.heap_setCell W ⟨g, 0, none⟩ u k (fun e1 => by
    simp only at e1
    subst e1
    have := hk.symm.trans hg
    simp only [Option.some.injEq, Obj.cells.injEq] at this
    rcases he with rfl | rfl
    · exact absurd this.2.1 (by decide)
    · exact absurd this.2.1 (by decide))).trans hk
theorem Grid.from_ (h : Grid W base ga n vs ah) {m : Nat} (hb : Below m W W') (hm : W.heap.size ≤ m) : Grid W' base ga n vs ah :=
  h.held fun k o _ hk _ => (hb.block k (by have := blk_lt hk; omega)).trans hk
theorem Grid.far (h : Grid W base ga n vs ah) {p : Addr} (hp : p.block < base) (u : Value) : Grid (W.setCell p u) base ga n vs ah :=
  h.held fun k o hk h1 _ => (Below.heap_setCell W p u k (by omega)).trans h1
theorem Grid.alloc (h : Grid W base ga n vs ah) (o : Obj) : Grid (W.alloc o) base ga n vs ah :=
  h.held fun k o' _ h1 _ => by
    have hk := blk_lt h1
    exact ((World.grownBy_alloc W o none).block k hk (by simp)).trans h1
theorem Grid.cellAt (h : Grid W base ga n vs ah) {i : Nat} (hi : i < n) : W.cell? ⟨ga, i, none⟩ = some (vs.getD i undef) := by
  have := h.vlen
  rw [h.row.cellAt i (by omega), List.getD_eq_getElem?_getD, List.getElem?_eq_getElem (by omega)]; rfl
theorem Grid.own (base ga n : Nat) (B : Nat) : OwnFrom (β := Unit) B (fun _ W => Grid W base ga n vs ah) := fun _ X Y row hs hg hr =>
  hs.held fun k o _ hk hc => by
    refine (hg.block k (blk_lt hk) (fun e => ?_)).trans hk
    obtain ⟨o', ho', hc'⟩ := (hr k e.symm).2
    rw [hk] at ho'
    cases ho'
    rw [hc] at hc'
    cases hc'
theorem Grid.ownP {β : Type} (base ga n : Nat) (B : Nat) : OwnFrom (β := β) B (fun _ W => ∃ vs, Grid W base ga n vs ah) := fun _ X Y row ⟨vs, hs⟩ hg hr => ⟨vs, Grid.own base ga n B () X Y row hs hg hr⟩
/-- one row is written anew -/
theorem Grid.put (h : Grid W base ga n vs ah) {i : Nat} (hi : i < n) {v' : Value} {l : List Int} (hv : W'.ownsRow base 3 1 v' l.length (l.map (Value.int .i64))) (hg : W.grownBy W' (vs.getD i undef).ownBlock) (hat : ∀ k, v'.ownBlock = some k → (vs.getD i undef).ownBlock = some k ∨ W.heap.size ≤ k) :
    Grid (W'.setCell ⟨ga, i, none⟩ v') base ga n (vs.set i v') (ah.set i l) := by
  have hvl := h.vlen
  have hrow : W'.ownsRow base 26 1 (.slice (some ⟨ga, 0, none⟩) n n) n vs := h.row.kept hg (own_ne h.row (h.each i hi) (by decide))
  obtain ⟨h1, h2⟩ := hrow.stored i v'
  have hel : ∀ j, j < n → j ≠ i → W'.ownsRow base 3 1 (vs.getD j undef) (ah.getD j []).length ((ah.getD j []).map (Value.int .i64)) := fun j hj hne => (h.each j hj).kept hg (h.apart j i hj hi hne)
  have hset : ∀ j, (vs.set i v').getD j undef = if j = i then v' else vs.getD j undef := fun j => by
    simp only [List.getD_eq_getElem?_getD, List.getElem?_set]
    by_cases hji : j = i
    · subst hji; rw [if_pos rfl, if_pos rfl, if_pos (by omega)]; rfl
    · rw [if_neg hji, if_neg (Ne.symm hji)]
  have hseta : ∀ j, (ah.set i l).getD j [] = if j = i then l else ah.getD j [] := fun j => by
    have := h.len
    simp only [List.getD_eq_getElem?_getD, List.getElem?_set]
    by_cases hji : j = i
    · subst hji; rw [if_pos rfl, if_pos rfl, if_pos (by omega)]; rfl
    · rw [if_neg hji, if_neg (Ne.symm hji)]
  have hnew : ∀ j, j < n → j ≠ i → (vs.getD j undef).ownBlock = none ∨ (vs.getD j undef).ownBlock ≠ v'.ownBlock := fun j hj hne => by
    cases hb : (vs.getD j undef).ownBlock with
    | none => exact .inl rfl
    | some k =>
      right
      intro e2
      rcases hat k e2.symm with e | e
      · rcases h.apart j i hj hi hne with e3 | e3
        · rw [hb] at e3; cases e3
        · exact e3 (hb.trans e.symm)
      · have := own_lt (h.each j hj) k hb
        omega
  refine ⟨h1, by rw [List.length_set]; exact h.len, fun j hj => ?_, fun j k hj hk hne => ?_⟩
  · rw [hset, hseta]
    by_cases hji : j = i
    · rw [if_pos hji, if_pos hji]
      exact hv.kept h2 (own_ne hv hrow (by decide))
    · rw [if_neg hji, if_neg hji]
      have := hel j hj hji
      exact this.kept h2 (own_ne this hrow (by decide))
  · rw [hset, hset]
    by_cases hji : j = i
    · by_cases hki : k = i
      · exact absurd (hji.trans hki.symm) hne
      · rw [if_pos hji, if_neg hki]
        rcases hnew k hk hki with e | e
        · rw [e]
          cases hb : v'.ownBlock with
          | none => exact .inl rfl
          | some q => right; simp
        · exact .inr (fun e2 => e e2.symm)
    · rw [if_neg hji]
      by_cases hki : k = i
      · rw [if_pos hki]; exact hnew j hj hji
      · rw [if_neg hki]; exact h.apart j k hj hk hne
theorem Grid.start (h : W.ownsRow base 26 1 (.slice (some ⟨ga, 0, none⟩) n n) n (List.replicate n (.slice none 0 0))) : Grid W base ga n (List.replicate n (.slice none 0 0)) (List.replicate n []) := by
  have hv : ∀ i, i < n → (List.replicate n (Value.slice none 0 0)).getD i undef = .slice none 0 0 := fun i hi => by
    rw [List.getD_eq_getElem?_getD, List.getElem?_replicate, if_pos hi]; rfl
  have ha : ∀ i, i < n → (List.replicate n ([] : List Int)).getD i [] = [] := fun i hi => by
    rw [List.getD_eq_getElem?_getD, List.getElem?_replicate, if_pos hi]; rfl
  refine ⟨h, List.length_replicate, fun i hi => ?_, fun i j hi hj hne => .inl ?_⟩
  · rw [hv i hi, ha i hi]; exact World.ownsRow_nil _ _ _ _
  · rw [hv i hi]; rfl
end
/-! ### what is kept but for two blocks -/
def K2 (n g g' : Nat) (W W' : World) : Prop := Below 0 W W' ∧ ∀ k, k < n → k ≠ g → k ≠ g' → W'.heap[k]? = W.heap[k]?
theorem K2.refl (n g g' : Nat) (W : World) : K2 n g g' W W := ⟨Below.refl _ _, fun _ _ _ _ => rfl⟩
theorem K2.trans {n g g' : Nat} {A B C : World} (h : K2 n g g' A B) (k : K2 n g g' B C) : K2 n g g' A C := ⟨h.1.trans k.1, fun i hi hg hg' => (k.2 i hi hg hg').trans (h.2 i hi hg hg')⟩
theorem K2.of_below {n g g' : Nat} {A B : World} (h : Below n A B) : K2 n g g' A B := ⟨h.mono (Nat.zero_le _), fun i hi _ _ => h.block i hi⟩
theorem K2.below {n g g' m : Nat} {A B : World} (h : K2 n g g' A B) (hn : m ≤ n) (hg : m ≤ g) (hg' : m ≤ g') : Below m A B := ⟨h.1.os, h.1.tape, h.1.output, h.1.size, fun k hk => h.2 k (by omega) (by omega) (by omega)⟩
theorem K2.set {n g g' : Nat} {A B : World} (h : K2 n g g' A B) (j : Nat) (u : Value) : K2 n g g' A (B.setCell ⟨g, j, none⟩ u) := ⟨h.1.setCell (p := ⟨g, j, none⟩) (Nat.zero_le _) u, fun i hi hg hg' => (Below.heap_setCell B ⟨g, j, none⟩ u i (by simpa using hg)).trans (h.2 i hi hg hg')⟩
theorem K2.set' {n g g' : Nat} {A B : World} (h : K2 n g g' A B) (j : Nat) (u : Value) : K2 n g g' A (B.setCell ⟨g', j, none⟩ u) := ⟨h.1.setCell (p := ⟨g', j, none⟩) (Nat.zero_le _) u, fun i hi hg hg' => (Below.heap_setCell B ⟨g', j, none⟩ u i (by simpa using hg')).trans (h.2 i hi hg hg')⟩
theorem K2.put {n g g' : Nat} {w : World} (hn : n ≤ w.heap.size) (W : World) (l : Nat) (o o' : Obj) (hl : w.heap.size ≤ l) (h : W.heap[l]? = some o) (hc : o.isCells = false) (hw : o.isWalk = false) : K2 n g g' W (W.putObj l o') := K2.of_below (belowK_b hn W l o o' hl h hc hw)
theorem K2.blk {n g g' k : Nat} {W W' : World} {o : Obj} (h : K2 n g g' W W') (hb : W.heap[k]? = some o) (hk : k < n) (hg : k ≠ g) (hg' : k ≠ g') : W'.heap[k]? = some o := (h.2 k hk hg hg').trans hb
theorem K2.own {β : Type} {n g g' B : Nat} {w₀ : World} (hn : n ≤ w₀.heap.size) (hB : n ≤ B) : OwnFrom B (fun (_ : β) W => K2 n g g' w₀ W) := fun _ X Y row hs hg hr => ⟨hs.1.grown hg (Nat.zero_le _) (fun _ _ => Nat.zero_le _), fun k hk hne hne' =>
  (hg.block k (by have := hs.1.size; omega) (fun e => by have := (hr k e.symm).1; omega)).trans (hs.2 k hk hne hne')⟩
/-! ### marks -/
def Marks (base : Nat) (W : World) : List Nat → Prop
  | [] => True
  | D :: r => (base ≤ D ∧ W.heap[D]? = some (.deferred (some [])) ∧ ∀ D' ∈ r, D' ≠ D) ∧ Marks base W r
theorem Marks.kept {base : Nat} {W W' : World} : ∀ {ds : List Nat}, Marks base W ds → (∀ D ∈ ds, base ≤ D → W.heap[D]? = some (.deferred (some [])) → W'.heap[D]? = some (.deferred (some []))) → Marks base W' ds
  | [], _, _ => trivial
  | D :: r, h, hk => ⟨⟨h.1.1, hk D List.mem_cons_self h.1.1 h.1.2.1, h.1.2.2⟩, h.2.kept fun D' hD' => hk D' (List.mem_cons_of_mem _ hD')⟩
theorem Marks.lt {base : Nat} {W : World} : ∀ {ds : List Nat}, Marks base W ds → ∀ D ∈ ds, D < W.heap.size
  | [], _, _, h => by cases h
  | D :: r, h, D', hD' => by
    rcases List.mem_cons.1 hD' with rfl | h1
    · exact blk_lt h.1.2.1
    · exact h.2.lt D' h1
theorem Marks.more {base : Nat} {W : World} {ds : List Nat} {D : Nat} (h : Marks base W ds) (hb : base ≤ D) (hD : W.heap[D]? = some (.deferred (some []))) (hn : ∀ D' ∈ ds, D' ≠ D) : Marks base W (D :: ds) := ⟨⟨hb, hD, hn⟩, h⟩
def markD (D : Nat) : Deferred := { target := .collected D, args := #[] }
theorem leaves_marks {F : Fence} {n : Nat} {P : Program} {fn : Func} {tmps : Array Value} {R : Ending → World → Prop} {base : Nat} : ∀ (ds : List Nat) (W : World), Marks base W ds → (∀ W', Below base W W' → (∀ (k : Nat) (o : Obj), W.heap[k]? = some o → o.isCells = true → W'.heap[k]? = some o) → LeavesIn F n P fn tmps R [] .returning W') → LeavesInM F n P fn tmps R (ds.map markD) .returning W
  | [], W, _, h => h W (Below.refl _ W) (fun _ _ h _ => h)
  | D :: ds, W, hm, h => by
    refine ⟨by simp, .inl ⟨D, _, rfl, run_takeDeferred hm.1.2.1, ?_⟩⟩
    have hne : ∀ k, k ≠ D → (W.putObj D (.deferred none)).heap[k]? = W.heap[k]? := fun k hk => World.putObj_heap_other hk
    refine leaves_marks ds _ (hm.2.kept fun D' hD' _ h' => (hne D' (hm.1.2.2 D' hD')).trans h') fun W' hB hc => h W' ?_ fun k o hk ho => hc k o ?_ ho
    · exact (show Below base W (W.putObj D (.deferred none)) from ⟨rfl, rfl, rfl, by simp, fun k hk => hne k (by have := hm.1.1; omega)⟩).trans hB
    · refine (hne k (?_ : k ≠ D)).trans hk
      intro e
      subst e
      rw [hm.1.2.1] at hk
      cases hk
      cases ho
/-! ### slices.Backward by places -/
def downs : Nat → List Int
  | 0 => []
  | k + 1 => (k : Int) :: downs k
theorem downs_rd (l : List Int) : ∀ k, k ≤ l.length → (downs k).map (rd l) = (l.take k).reverse
  | 0, _ => by simp [downs]
  | k + 1, hk => by
    have hlt : k < l.length := hk
    have e : rd l (k : Int) = l[k] := by simp [rd, hlt]
    have e2 : List.take (k + 1) l = List.take k l ++ [l[k]] := List.take_succ_eq_append_getElem hlt
    rw [downs, List.map_cons, downs_rd l k (by omega), e, e2, List.reverse_append]
    rfl
theorem downs_all (l : List Int) : (downs l.length).map (rd l) = l.reverse := by
  rw [downs_rd l l.length (Nat.le_refl _), List.take_length]
set_option maxRecDepth 100000 in
set_option maxHeartbeats 4000000 in
theorem downs1_in (F : Fence) (n : Nat) (h20 : F.fn 67) (hro : F.round = none) (hn : 1 ≤ n) (lp B : Nat) (Kp : World → World → Prop) (hKt : ∀ {A B C : World}, Kp A B → Kp B C → Kp A C) (A : Option Addr) (c : Nat) (l : List Int) (hl : l.length < 9223372036854775807) (w3 : World) (hS : ∀ W', Kp w3 W' → Boxed W' B 26 (.slice A l.length c) ∧ (Kd.int .i64).C W' A l.length l) (J Jx : List Int → World → Prop)
    (hY : ∀ pre x W, J pre W → pre.length < l.length → YieldAt F (n - 1) Try.prog lp #[.int .i64 x, .int .i64 (rd l x)] W fun e W' =>
      (e = .returned (.bool true) ∧ J (pre ++ [x]) W' ∧ Kp W W') ∨ (e = .returned (.bool false) ∧ Jx (pre ++ [x]) W'))
    (W : World) (hW : Kp w3 W) (h0 : J [] W) :
    CallsIn F n Try.prog 67 #[.func (.yield lp) #[] #[], .pointer (some ⟨B, 0, none⟩)] W fun e W' => (∃ v, e = .returned v) ∧
      ((∃ ys, ys = downs l.length ∧ J ys W') ∨ (∃ pre, pre <+: downs l.length ∧ Jx pre W')) := by
  have c2 := (hS W hW).1.cell
  refine callsIn_of_wp Try.func67 rfl h20 ?_ hro
  simp only [Try.ntmps67, List.size_toArray, List.length_cons, List.length_nil, Nat.reduceAdd, Nat.reduceSub, Array.replicate_succ, Array.replicate_zero, List.push_toArray, List.append_toArray, List.nil_append, List.cons_append]
  gi_wp2
  clear c2
  gi_loopw [3] (fun i wr => ∃ (k : Nat) (pre : List Int), k ≤ l.length ∧ i = .int .i64 ((k : Int) - 1) ∧ pre.length + k = l.length ∧ pre ++ downs k = downs l.length ∧ J pre wr ∧ Kp w3 wr) (fun i _ => (intOf i + 1).toNat)
  case atStart => exact ⟨l.length, [], Nat.le_refl _, rfl, by simp, rfl, h0, hW⟩
  case round =>
    obtain ⟨k, pre, hk, rfl, hpl, hpd, hJ, hB⟩ := hrel
    have c2 := (hS wr hB).1.cell
    cases k with
    | zero =>
      gi_wp2
      rw [downs, List.append_nil] at hpd
      go_end0
      exact ⟨⟨_, rfl⟩, .inl ⟨pre, hpd, hJ⟩⟩
    | succ k =>
      have hk1 : ((k + 1 : Nat) : Int) - 1 = (k : Int) := by omega
      rw [hk1]
      obtain ⟨ad, rfl, hc⟩ := Kd.at_int (hS wr hB).2 (k : Int) (by omega) (by omega)
      rw [Int.toNat_natCast] at hc
      obtain ⟨fn, tmps, assign, body, hy, hR⟩ := hY pre (k : Int) wr hJ (by omega)
      rw [downs] at hpd
      have h0k : (0 : Int) ≤ (k : Int) := by omega
      have hkl : (k : Int) < (l.length : Int) := by omega
      gi_wp2
      refine hR.mono ?_
      rintro e W3 (⟨rfl, hJ3, hk3⟩ | ⟨rfl, hJx3⟩)
      · gi_wp2
        go_roundw
        case rel => exact ⟨k, pre ++ [(k : Int)], by omega, by first | rfl | go_num, by simp; omega, by rw [List.append_assoc]; exact hpd, hJ3, hKt hB hk3⟩
        case measure => simp [intOf]
      · gi_wp2
        refine bodyPost_ret (results_none rfl _ _ _) rfl ?_
        exact ⟨⟨_, rfl⟩, .inr ⟨pre ++ [(k : Int)], ⟨downs k, by rw [List.append_assoc]; exact hpd⟩, hJx3⟩⟩
theorem downs_stops (F : Fence) (n : Nat) (h20 : F.fn 67) (hro : F.round = none) (hn : 1 ≤ n) (B : Nat) (Kp : World → World → Prop) (hKt : ∀ {A B C : World}, Kp A B → Kp B C → Kp A C) (A : Option Addr) (c : Nat) (l : List Int) (hl : l.length < 9223372036854775807) (w3 : World) (hS : ∀ W', Kp w3 W' → Boxed W' B 26 (.slice A l.length c) ∧ (Kd.int .i64).C W' A l.length l) (w : World) (hb : Kp w3 w) (hKb : ∀ {W : World}, Below w.heap.size w W → Kp w W) :
    SeqStopsK F n Try.prog 67 #[.pointer (some ⟨B, 0, none⟩)] (fun x : Int => #[Value.int .i64 x, Value.int .i64 (rd l x)]) Kp (fun ys => ys = downs l.length) (fun pre => pre <+: downs l.length) l.length w := fun lp J Jx W hW _ _ hY h0 =>
  downs1_in F n h20 hro hn lp B Kp hKt A c l hl w3 hS J Jx hY W (hKt hb (hKb hW)) h0
/-- the second of two is the loop's variable -/
theorem assign12_in {F : Fence} {n : Nat} {P : Program} {id p q p' : Nat} {t : TypeId} {pos : String} {ts : Array Value} {v v' : Value} {W : World} {K : Act → World → Prop} (hp : p < ts.size) (hp' : p' < ts.size) (h1 : p ≠ p') (h : K { tmps := ((ts.setIfInBounds p v).setIfInBounds p' v').setIfInBounds q v', defers := [] } W) :
    (Code.region id #[{ dst := some q, op := .assign (.tmp p'), type := t, pos := pos, after := #[], guard := none }] false).wpIn F n P (Exit.then K (fun _ _ _ => False)) { tmps := (#[p, p'].zip #[v, v']).foldl (fun t (p, v) => t.setIfInBounds p v) ts, defers := [] } W := by
  refine wpIn_region_list (wpListIn_plain rfl fun K' hK' => BigFrame.wpIn_assign (.tmp p') rfl (hK' _ _ (wpListIn_nil ?_)))
  have e : (Act.mk ((#[p, p'].zip #[v, v']).foldl (fun t (p, v) => t.setIfInBounds p v) ts) []).eval (.tmp p') = v' := by
    show ((#[p, p'].zip #[v, v']).foldl (fun t (p, v) => t.setIfInBounds p v) ts).getD p' undef = v'
    simp [Array.getD_eq_getD_getElem?, hp']
  rw [e]
  show K _ W
  have e2 : (Act.mk ((#[p, p'].zip #[v, v']).foldl (fun t (p, v) => t.setIfInBounds p v) ts) []).put (some q) v' = { tmps := ((ts.setIfInBounds p v).setIfInBounds p' v').setIfInBounds q v', defers := [] } := by
    simp [Act.put]
  exact e2 ▸ h
theorem range12B {n : Nat} {g : Operand} {p q p' id bid : Nat} {t : TypeId} {pos : String} {body : Code} {Q : Exit → Act → World → Prop} {a : Act} {w : World} (Kp : World → World → Prop) (hKt : ∀ {A B C : World}, Kp A B → Kp B C → Kp A C) (hKr : ∀ W, Kp W W)
    (h1 : 1 ≤ n) {gf : Nat} {lb : Array Value} (hg : a.eval g = .func (.func gf) #[] lb) (eg : ∀ args w, (callFunc gf args).run Try.prog w = .ok (.enter gf args) w) (hp : p < a.tmps.size) (hp' : p' < a.tmps.size) (hpp : p ≠ p') (r : Int → Int)
    {S Sp : List Int → Prop} {N : Nat} {w0 : World} (hseq : SeqStopsK Fence.wide (n - 1) Try.prog gf lb (fun x : Int => #[Value.int .i64 x, Value.int .i64 (r x)]) Kp S Sp N w0)
    (hKb : ∀ (W : World) (l : Nat) (o o' : Obj), w.heap.size ≤ l → W.heap[l]? = some o → o.isCells = false → o.isWalk = false → Kp W (W.putObj l o')) (hb0 : Below w0.heap.size w0 w)
    (I : List Int → World → Prop) (hI : OwnFrom w.heap.size I) (h0 : I [] w)
    (hbody : ∀ (l : Nat) (pre : List Int) (x : Int) (W : World), w.heap.size ≤ l → (∃ r, W.heap[l]? = some (.loop r)) → I pre W → pre.length < N →
      body.wpIn (Fence.wide.inRound l) (n - 1 - 1) Try.prog (ownPostG w.heap.size Kp I (fun c xs W => False) (pre ++ [x]) W) { tmps := ((a.tmps.setIfInBounds p (.int .i64 x)).setIfInBounds p' (.int .i64 (r x))).setIfInBounds q (.int .i64 (r x)), defers := [] } W)
    (hend : ∀ (D : Nat) (xs : List Int) (W : World), w.heap.size ≤ D → S xs → I xs W → W.heap[D]? = some (.deferred (some [])) → Q .normal { a with defers := { target := .collected D, args := #[] } :: a.defers } W) :
    (Code.rangeFunc g #[p, p'] (Code.region id #[{ dst := some q, op := .assign (.tmp p'), type := t, pos := pos, after := #[], guard := none }] false) body).wpIn Fence.wide n Try.prog (Exit.inBlock bid Q) a w :=
  wpIn_rangeFunc_ownH rfl h1 hg trivial eg hseq hKt hKb hb0 (fun _ => rfl) I (fun c xs W => False) hI (fun c s W W' row hs hg hr => hs) h0
    (fun x a' _ => a' = { tmps := ((a.tmps.setIfInBounds p (.int .i64 x)).setIfInBounds p' (.int .i64 (r x))).setIfInBounds q (.int .i64 (r x)), defers := [] }) (fun _ _ _ _ _ _ hs _ _ => hs)
    (fun l pre x W K hi hK => assign12_in hp hp' hpp (hK _ W (KeepsFrom.refl _ _) (hKr _) hi rfl))
    (fun l pre x a' W hl hr hi e hN => by subst e; exact hbody l pre x W hl hr hi hN) (fun D xs W hD hs hi hK => hend D xs W hD hs hi hK) (fun D c pre W hD hs hi hK => hi.elim)
/-! ### what is gathered ahead of each block -/
open Go.Proofs.Ytmeaepmimnmjlaa.Dfs Go.Proofs.Ytmeaepmimnmjlaa.Dom in
structure AhOf (nx : List (List Int)) (pre : List Int) (b : Int) (p : List Int) (ah : List (List Int)) : Prop where
  len : ah.length = nx.length
  at_ : ∀ c : Nat, c < nx.length → ah.getD c [] = pre.filter (fun a => decide ((c : Int) ∈ nb nx a)) ++ (if (c : Int) ∈ p then [b] else [])
section
open Go.Proofs.Ytmeaepmimnmjlaa.Dfs Go.Proofs.Ytmeaepmimnmjlaa.Dom
variable {nx : List (List Int)}
theorem ahof_start (b : Int) : AhOf nx [] b [] (List.replicate nx.length []) := ⟨List.length_replicate, fun c hc => by rw [List.getD_eq_getElem?_getD, List.getElem?_replicate, if_pos hc]; simp⟩
theorem ahof_step {pre p : List Int} {b t : Int} {ah : List (List Int)} (h : AhOf nx pre b p ah) (ht : t ∉ p) (h0 : 0 ≤ t) : AhOf nx pre b (p ++ [t]) (ah.set t.toNat (ah.getD t.toNat [] ++ [b])) := by
  refine ⟨by rw [List.length_set]; exact h.len, fun c hc => ?_⟩
  have hl := h.len
  by_cases hct : c = t.toNat
  · subst hct
    have e : ((t.toNat : Nat) : Int) = t := Int.toNat_of_nonneg h0
    rw [List.getD_eq_getElem?_getD, List.getElem?_set, if_pos rfl, if_pos (by omega)]
    have := h.at_ t.toNat hc
    rw [e] at this ⊢
    simp only [Option.getD_some]
    rw [this, if_neg ht, if_pos (by simp), List.append_nil]
  · rw [List.getD_eq_getElem?_getD, List.getElem?_set, if_neg (fun e => hct e.symm), ← List.getD_eq_getElem?_getD, h.at_ c hc]
    have hne : (c : Int) ≠ t := fun e => hct (by omega)
    simp [hne]
theorem ahof_turn {pre : List Int} {b b' : Int} {ah : List (List Int)} (h : AhOf nx pre b (nb nx b) ah) : AhOf nx (pre ++ [b]) b' [] ah := by
  refine ⟨h.len, fun c hc => ?_⟩
  rw [h.at_ c hc, List.filter_append]
  by_cases hcb : (c : Int) ∈ nb nx b
  · simp [hcb]
  · simp [hcb]
theorem ahof_end {b : Int} {ah : List (List Int)} (h : AhOf nx (post nx) b [] ah) : Ahd nx ah := by
  refine ⟨h.len, fun c h0 h1 a => ?_⟩
  have := h.at_ c.toNat (by omega)
  rw [Int.toNat_of_nonneg h0] at this
  rw [this]
  simp
theorem ahof_short {pre p : List Int} {b : Int} {ah : List (List Int)} (h : AhOf nx pre b p ah) (c : Nat) (hc : c < nx.length) : (ah.getD c []).length ≤ pre.length + 1 := by
  rw [h.at_ c hc, List.length_append]
  have := List.length_filter_le (fun a => decide ((c : Int) ∈ nb nx a)) pre
  split <;> simp <;> omega
end
end Go.Proofs.Ytmeaepmimnmjlaa.Ask
/- graph.dominators: for every world. -/
namespace Go.Proofs.Ytmeaepmimnmjlaa.Ask
open Go.Proofs.Ytmeaepmimnmjlaa.Dfs Go.Proofs.Ytmeaepmimnmjlaa.Dom Go.RowKit Go.Shelf Go.Proofs.Ytmeaepmimnmjlaa.PGb Go.Proofs.Ytmeaepmimnmjlaa.Lit Go.Proofs.Ytmeaepmimnmjlaa.OwnCells Go.Proofs.YtmeaepmimnmjlaaW.PrintWords Go.Proofs.YtmeaepmimnmjlaaW.PrintLast Go.Proofs.YtmeaepmimnmjlaaW.PrintMore
attribute [local go_sem] Oper.semAt_some
attribute [local go_sem] run_store_fn
attribute [local go_sem] run_eql_fn
set_option linter.unusedVariables false
set_option linter.unusedSimpArgs false
/-- what lies in memory while the rows ahead are gathered: the first block holds the row of idoms, ga the rows ahead -/
structure DS1 (w W : World) (nx : List (List Int)) (g5 ga g6 : Nat) (l : List Int) (ah : List (List Int)) : Prop where
  idom : W.ownsRow w.heap.size 3 1 (.slice (some ⟨w.heap.size, 0, none⟩) nx.length nx.length) nx.length (l.map (Value.int .i64))
  box5 : Boxed W g5 26 (.slice (some ⟨w.heap.size, 0, none⟩) nx.length nx.length)
  grid : ∃ vs, Grid W (w.heap.size + 1) ga nx.length vs ah
  box6 : Boxed W g6 27 (.slice (some ⟨ga, 0, none⟩) nx.length nx.length)
  below : Below w.heap.size w W
  lo5 : w.heap.size < g5
  lo6 : w.heap.size < g6
  loa : g5 < ga
theorem grown_refl (w : World) (r : Option Nat) : w.grownBy w r := ⟨rfl, rfl, rfl, Nat.le_refl _, fun _ _ _ => rfl⟩
theorem cell_of_below {w w' : World} (h : Below w.heap.size w w') {a : Addr} {v : Value} (hc : w.cell? a = some v) : w'.cell? a = some v := by
  refine (h.cell ?_).trans hc
  refine Classical.byContradiction fun hn => ?_
  have e : w.heap[a.block]? = none := Array.getElem?_eq_none (by omega)
  simp [World.cell?, e] at hc
theorem op_append_own {P : Program} {ops : Array Oper} {Q : Exit → Act → World → Prop} {i : Nat} {o : Oper} {K : Act → World → Prop} {a : Act} {w : World} (hio : ops[i]? = some o) (hg : o.guard = none) (s x : Operand) (t : TypeId)
    (ho : o.op = .call { callee := .builtin .append, args := #[s, x], argTypes := #[t, t] })
    (base : Nat) (e : TypeId) (inf : TypeInfo) (z : Value) (size bytes : Nat) (ht : P.underlying t = some (.slice e)) (hi : P.info? e = some inf) (hz : inf.zero = some z)
    (hsize : inf.size = size) (hby : inf.bytes = bytes) (hzs : z.cells.size = size) (hsz : 0 < size)
    (v : Value) (n : Nat) (xs : List Value) (hs : a.eval s = v) (hown : w.ownsRow base e size v n xs)
    (ad : Addr) (m c : Nat) (news : List Value) (hx : a.eval x = .slice (some ad) m c) (hl : news.length = m * size) (hnews : ∀ j u, news[j]? = some u → w.cell? (ad.add j) = some u) (h1 : ∀ u ∈ news, u.oneCell' = true)
    (h63 : n + m ≤ maxLen) (hbytes : (n + m) * bytes ≤ 140737488355328) (hbase : base ≤ w.heap.size)
    (h : ∀ v' w', w'.ownsRow base e size v' (n + m) (xs ++ news) → w.grownBy w' v.ownBlock → (v'.ownBlock = v.ownBlock ∨ v'.ownBlock = some w.heap.size) → K (a.put o.dst v') w') : wpOp P ops Q i K a w := by
  obtain ⟨v', w', hr, h2, h3, h4, h5⟩ := run_append_own_at (P := P) w base t o.type e inf z size bytes ht hi hz hsize hby hzs hsz v n xs hown ad m c news hl hnews h1 h63 hbytes hbase
  refine RegInv.op_value hio hg (v := v') (w' := w') ?_ (h v' w' h2 h3 h5)
  unfold execOp
  simp only [ho, resolve, invoke, builtin, Sem.run_bind, Sem.run_pure, Result.andThen_ok, List.map_toArray, List.map_cons, List.map_nil, hs, hx, hr]
def dDA : Nat → Option Tmp
  | 0 => some 48
  | 1 => some 49
  | 2 => some 50
  | 3 => some 51
  | 4 => some 52
  | 5 => some 53
  | 6 => some 54
  | 7 => some 55
  | 8 => some 56
  | 9 => some 57
  | _ => none
def FDA (ga n : Nat) (t b : Int) (ve : Value) (base hs : Nat) (xs : List Value) (m : Nat) : Nat → World → Value → Prop
  | 0, _, v => v = .slice (some ⟨ga, 0, none⟩) n n
  | 1, _, v => v = .int .i64 t
  | 2, _, v => v = .slice (some ⟨ga, 0, none⟩) n n
  | 3, _, v => v = .int .i64 t
  | 4, _, v => v = .pointer (some ⟨ga, t.toNat, none⟩)
  | 5, _, v => v = ve
  | 6, _, v => v = .int .i64 b
  | 7, w, v => ∃ g, v = .slice (some ⟨g, 0, none⟩) 1 1 ∧ w.cell? ⟨g, 0, none⟩ = some (.int .i64 b) ∧ ve.ownBlock ≠ some g
  | 8, w, v => w.ownsRow base 3 1 v (m + 1) (xs ++ [.int .i64 b]) ∧ (v.ownBlock = ve.ownBlock ∨ ∃ k, v.ownBlock = some k ∧ hs ≤ k)
  | 9, _, v => v = .pointer (some ⟨ga, t.toNat, none⟩)
  | _, _, _ => True
theorem FDA_below (ga n : Nat) (t b : Int) (ve : Value) (base hs : Nat) (xs : List Value) (m : Nat) (i : Nat) (w w1 : World) (v : Value) (h : FDA ga n t b ve base hs xs m i w v) (hb : Below w.heap.size w w1) : FDA ga n t b ve base hs xs m i w1 v := by
  match i with
  | 0 | 1 | 2 | 3 | 4 | 5 | 6 | 9 => exact h
  | 7 =>
    obtain ⟨g, h1, h2, h3⟩ := h
    exact ⟨g, h1, cell_of_below hb h2, h3⟩
  | 8 => exact ⟨own_move h.1 fun k hk => hb.block k (own_lt h.1 k hk), h.2⟩
  | (n + 10) => exact h
theorem FDA_grown (ga n : Nat) (t b : Int) (ve : Value) (base hs : Nat) (xs : List Value) (m : Nat) (i : Nat) (w w1 : World) (v : Value) (hi : i ≠ 8) (h : FDA ga n t b ve base hs xs m i w v) (hb : w.grownBy w1 ve.ownBlock) : FDA ga n t b ve base hs xs m i w1 v := by
  match i with
  | 0 | 1 | 2 | 3 | 4 | 5 | 6 | 9 => exact h
  | 7 =>
    obtain ⟨g, h1, h2, h3⟩ := h
    refine ⟨g, h1, ?_, h3⟩
    have hlt : g < w.heap.size := by
      refine Classical.byContradiction fun hn => ?_
      have e : w.heap[g]? = none := Array.getElem?_eq_none (by omega)
      simp [World.cell?, e] at h2
    exact (World.cell?_of_block (hb.block g hlt (fun e => h3 e.symm))).trans h2
  | 8 => exact absurd rfl hi
  | (n + 10) => exact h
section
variable {w W W' : World} {nx : List (List Int)} {g5 ga g6 : Nat} {l : List Int} {ah : List (List Int)}
theorem DS1.llen (h : DS1 w W nx g5 ga g6 l ah) : l.length = nx.length := by have := h.idom.1; simpa using this
theorem DS1.setI (h : DS1 w W nx g5 ga g6 l ah) (i : Nat) (v : Int) : DS1 w (W.setCell ⟨w.heap.size, i, none⟩ (.int .i64 v)) nx g5 ga g6 (l.set i v) ah := by
  obtain ⟨vs, hg⟩ := h.grid
  obtain ⟨h1, h2⟩ := h.idom.stored i (.int .i64 v)
  refine ⟨by rw [List.map_set]; exact h1, h.box5.kept h2 ?_, ⟨vs, hg.far (p := ⟨w.heap.size, i, none⟩) (Nat.lt_succ_self _) _⟩, h.box6.kept h2 ?_, h.below.setCell (p := ⟨w.heap.size, i, none⟩) (Nat.le_refl _) _, h.lo5, h.lo6, h.loa⟩
  · have := h.lo5; simp; omega
  · have := h.lo6; simp; omega
theorem DS1.alloc (h : DS1 w W nx g5 ga g6 l ah) (o : Obj) : DS1 w (W.alloc o) nx g5 ga g6 l ah := by
  obtain ⟨vs, hg⟩ := h.grid
  exact ⟨h.idom.alloc o, h.box5.alloc o, ⟨vs, hg.alloc o⟩, h.box6.alloc o, below_alloc h.below o, h.lo5, h.lo6, h.loa⟩
theorem DS1.from_ (h : DS1 w W nx g5 ga g6 l ah) (hb : Below W.heap.size W W') : DS1 w W' nx g5 ga g6 l ah := by
  obtain ⟨vs, hg⟩ := h.grid
  exact ⟨own_move h.idom fun k hk => hb.block k (own_lt h.idom k hk), blk_below h.box5 hb, ⟨vs, hg.from_ hb (Nat.le_refl _)⟩, blk_below h.box6 hb, h.below.trans (hb.mono h.below.size), h.lo5, h.lo6, h.loa⟩
theorem DS1.box (h : DS1 w W nx g5 ga g6 l ah) {g : Nat} {v : Value} (hb : Boxed W g 4 v) (hg : w.heap.size < g) (u : Value) : DS1 w (W.setCell ⟨g, 0, none⟩ u) nx g5 ga g6 l ah := by
  obtain ⟨vs, hgr⟩ := h.grid
  have hne : ∀ {k : Nat} {t : TypeId} {x : Value}, Boxed W k t x → t ≠ 4 → k ≠ g := fun hk ht e => by
    subst e
    have := Option.some.inj (Eq.trans (Eq.symm hk) hb)
    simp only [Obj.cells.injEq] at this
    exact ht this.2.1
  refine ⟨own_move h.idom fun k hk => Below.heap_setCell W ⟨g, 0, none⟩ u k (fun e => ?_), h.box5.other (hne h.box5 (by decide)) u, ⟨vs, hgr.box hb u⟩, h.box6.other (hne h.box6 (by decide)) u, h.below.setCell (p := ⟨g, 0, none⟩) (by show w.heap.size ≤ g; omega) u, h.lo5, h.lo6, h.loa⟩
  simp only [Value.ownBlock, Option.some.injEq] at hk
  simp only at e
  omega
theorem DS1.ownF {β : Type} {B : Nat} (hB : w.heap.size ≤ B) (f : β → List Int) : OwnFrom B (fun (s : β) W => DS1 w W nx g5 ga g6 (f s) ah) := fun s X Y row h hg hr => by
  have hc : ∀ (k : Nat) (o : Obj), X.heap[k]? = some o → o.isCells = true → Y.heap[k]? = some o := fun k o hk ho => by
    refine (hg.block k (blk_lt hk) (fun e => ?_)).trans hk
    obtain ⟨o', ho', hc'⟩ := (hr k e.symm).2
    rw [hk] at ho'
    cases ho'
    rw [ho] at hc'
    cases hc'
  obtain ⟨vs, hgr⟩ := h.grid
  exact ⟨own_held h.idom fun k o _ hk ho => hc k o hk ho, hc _ _ h.box5 rfl, ⟨vs, hgr.held fun k o _ hk ho => hc k o hk ho⟩, hc _ _ h.box6 rfl, h.below.grown hg h.below.size (fun k e => by have := (hr k e).1; omega), h.lo5, h.lo6, h.loa⟩
theorem DS1.drew (h : DS1 w W nx g5 ga g6 l ah) (k : Nat) : DS1 w (W.drewN k) nx g5 ga g6 l ah := by
  obtain ⟨vs, hg⟩ := h.grid
  exact ⟨h.idom, h.box5, ⟨vs, hg.held fun _ _ _ h _ => h⟩, h.box6, pw_below_drewN h.below k, h.lo5, h.lo6, h.loa⟩
/-- a row ahead has grown -/
theorem DS1.put (h : DS1 w W nx g5 ga g6 l ah) {vs : List Value} (hg : Grid W (w.heap.size + 1) ga nx.length vs ah) {i : Nat} (hi : i < nx.length) {v' : Value} {r : List Int} (hv : W'.ownsRow (w.heap.size + 1) 3 1 v' r.length (r.map (Value.int .i64))) (hgr : W.grownBy W' (vs.getD i undef).ownBlock) (hat : v'.ownBlock = (vs.getD i undef).ownBlock ∨ ∃ k, v'.ownBlock = some k ∧ W.heap.size ≤ k) :
    DS1 w (W'.setCell ⟨ga, i, none⟩ v') nx g5 ga g6 l (ah.set i r) := by
  have hr := hg.row.kept hgr (own_ne hg.row (hg.each i hi) (by decide))
  obtain ⟨h1, h2⟩ := hr.stored i v'
  have hlow : ∀ k, (vs.getD i undef).ownBlock = some k → w.heap.size + 1 ≤ k := fun k hk => own_base (hg.each i hi) k hk
  have hga : w.heap.size + 1 ≤ ga := own_base hg.row ga rfl
  have i1 : W'.ownsRow w.heap.size 3 1 (.slice (some ⟨w.heap.size, 0, none⟩) nx.length nx.length) nx.length (l.map (Value.int .i64)) := h.idom.kept hgr (.inr (fun e => by have := hlow w.heap.size e.symm; omega))
  have b5 : Boxed W' g5 26 _ := h.box5.kept hgr (fun e => Boxed.not_row h.box5 (by decide) (hg.each i hi) e)
  have b6 : Boxed W' g6 27 _ := h.box6.kept hgr (fun e => Boxed.not_row h.box6 (by decide) (hg.each i hi) e)
  have hb : Below w.heap.size w W' := h.below.grown hgr h.below.size (fun k hk => by have := hlow k hk; omega)
  refine ⟨i1.kept h2 (own_ne i1 hr (by decide)), b5.kept h2 ?_, ⟨_, hg.put hi hv hgr (fun k hk => by
    rcases hat with e | ⟨q, e, hq⟩
    · exact .inl (e ▸ hk)
    · rw [e] at hk; cases hk; exact .inr hq)⟩, b6.kept h2 (fun e => Boxed.not_row b6 (by decide) hr e), hb.setCell (p := ⟨ga, i, none⟩) (by show w.heap.size ≤ ga; omega) _, h.lo5, h.lo6, h.loa⟩
  have := h.loa; simp; omega
end
theorem fold_zero {ah : List (List Int)} : ∀ (r : List Int) (s : List Int × Bool), (∀ b ∈ r, 0 ≤ b) → rd (r.foldl (procB ah) s).1 0 = rd s.1 0
  | [], _, _ => rfl
  | b :: r, s, h => by
    rw [List.foldl_cons, fold_zero r _ (fun x hx => h x (List.mem_cons_of_mem _ hx))]
    have hb := h b List.mem_cons_self
    unfold procB
    split
    · rfl
    · split
      · rename_i hb0 _
        unfold rd
        simp only [List.getD_eq_getElem?_getD, List.getElem?_set]
        rw [if_neg (by omega)]
      · rfl
theorem pass_zero {nx ah : List (List Int)} {l : List Int} (hw : Wf nx) : rd (pass nx ah l).1 0 = rd l 0 := by
  unfold pass
  exact fold_zero (ord nx) (l, false) (fun b hb => (post_bound nx hw (List.mem_reverse.1 hb)).1)
theorem procB_len {ah : List (List Int)} (s : List Int × Bool) (b : Int) : (procB ah s b).1.length = s.1.length := by
  unfold procB
  split
  · rfl
  · split
    · simp
    · rfl
set_option maxRecDepth 100000 in
set_option maxHeartbeats 8000000 in
theorem dominators_calls (A A1 : Option Addr) (c c1 : Nat) (nx : List (List Int)) (w : World) (hA : (Kd.slice 3 (Kd.int .i64)).C w A nx.length nx) (hP : (Kd.int .i64).C w A1 (post nx).length (post nx)) (hw : Wf nx) (hnd : ∀ b, (nb nx b).Nodup) (hl : nx.length ≤ 8796093022208) :
    Calls Try.prog 49 #[.slice A nx.length c, .slice A1 (post nx).length c1] w fun e w' => ∃ v l, e = .returned v ∧ (Kd.int .i64).R 3 w' w.heap.size (fun _ => True) v l ∧ IsDom nx l ∧ Below w.heap.size w w' := by
  have HA := Aside0.mk hA
  have HP := Aside0.mk hP
  have HN := Aside0.mk hnd
  have hpos := hw.pos
  have hplen := post_length nx hw
  clear hA hP hnd
  obtain ⟨i3, hi3, hz30, hz31, hz32⟩ := info_parts info3
  obtain ⟨i26, hi26, hz260, hz261, hz262⟩ := info_parts info26
  refine (callsIn_wide (n := 10)).1 ?_
  refine callsIn_of_wp_marks Try.func49 rfl trivial ?_ rfl
  refine wpIn_wide.2 ?_
  simp only [Try.ntmps49, List.size_toArray, List.length_cons, List.length_nil, Nat.reduceAdd, Nat.reduceSub, Array.replicate_succ, Array.replicate_zero, List.push_toArray, List.append_toArray, List.nil_append, List.cons_append]
  go_upto_region 2 with (first | (at_make; refine wpList_make_full _ rfl _ _ 26 rfl w.heap.size 3 i3 (.int .i64 0) 1 Try.underlying26 hi3 hz30 hz31 _ _ _ _ nx.length rfl rfl rfl rfl (by rw [hz32]; omega) (by simp [maxLen]; omega) (Nat.le_refl _) ?_; intro w1 hown hgrow) | go_in)
  have hs1 : w.heap.size < w1.heap.size := own_lt hown _ rfl
  go_upto_region 3 with (first | (at_make; refine wpList_make_full _ rfl _ _ 27 rfl (w.heap.size + 1) 26 i26 (.slice none 0 0) 1 Try.underlying27 hi26 hz260 hz261 _ _ _ _ nx.length rfl rfl rfl rfl (by rw [hz262]; omega) (by simp [maxLen]; omega) (by simp; omega) ?_; intro w2 hown2 hgrow2) | go_in)
  have hm0 : (madeCells (Value.int .i64 0).cells (nx.length * 1)).toList = (List.replicate nx.length (0 : Int)).map (Value.int .i64) := by
    rw [Nat.mul_one, show (Value.int .i64 0).cells = #[.int .i64 0] from rfl, toList_madeCells_one]; simp
  have hm1 : (madeCells (Value.slice none 0 0).cells (nx.length * 1)).toList = List.replicate nx.length (.slice none 0 0) := by
    rw [Nat.mul_one, show (Value.slice none 0 0).cells = #[.slice none 0 0] from rfl, toList_madeCells_one]
  rw [hm0] at hown
  rw [hm1] at hown2
  have hS0 : DS1 w (w2.alloc (.cells #[.slice (some ⟨w1.heap.size + 1, 0, none⟩) nx.length nx.length] 27)) nx w1.heap.size (w1.heap.size + 1) w2.heap.size (List.replicate nx.length 0) (List.replicate nx.length []) := by
    have hb1 : Below w.heap.size w w1 := (Below.refl _ w).grown hgrow (Nat.le_refl _) (fun j e => by cases e)
    have hb2 := hgrow2.size
    rw [World.size_alloc] at hown2 hb2
    refine ⟨((hown.alloc _).kept hgrow2 (.inr (by simp [Value.ownBlock]))).alloc _, ((Boxed.new w1 26 _).kept hgrow2 (by simp)).alloc _, ⟨_, (Grid.start hown2).alloc _⟩, Boxed.new w2 27 _, below_alloc ((below_alloc hb1 _).grown hgrow2 (by have := hb1.size; simp; omega) (fun j e => by cases e)) _, hs1, by omega, by omega⟩
  have HS0 := Aside0.mk hS0
  clear hown hown2 hgrow hgrow2 hm0 hm1 hS0
  revert HS0
  generalize w2.alloc (.cells #[.slice (some ⟨w1.heap.size + 1, 0, none⟩) nx.length nx.length] 27) = W0
  generalize w2.heap.size = g6
  generalize hga : w1.heap.size + 1 = ga
  generalize hg5 : w1.heap.size = g5
  intro HS0
  clear hga hg5 hs1
  have b5 := HS0.out.box5.cell
  clear hi3 hz30 hz31 hz32 hi26 hz260 hz261 hz262 i3 i26
  go_wp2_with (fail)
  clear b5
  go_loopw [26] (fun i wr => ∃ k : Nat, k ≤ nx.length ∧ i = .int .i64 (k : Int) ∧ DS1 w wr nx g5 ga g6 (List.replicate k (-1) ++ List.replicate (nx.length - k) 0) (List.replicate nx.length [])) (fun i _ => ((nx.length : Int) - intOf i).toNat)
  case atStart => exact ⟨0, Nat.zero_le _, rfl, by simpa using HS0.out⟩
  case round =>
    clear HS0
    obtain ⟨k, hk, rfl, hS⟩ := hrel
    have HS := Aside0.mk hS
    have b5 := hS.box5.cell
    by_cases hlt : k < nx.length
    · have ci := hS.idom.cellAt k (by omega)
      have fi := hS.idom.frozenAt k
      have hli : (k : Int) < (nx.length : Int) := by omega
      have h0k : (0 : Int) ≤ (k : Int) := by omega
      have hge : (List.map (Value.int .i64) (List.replicate k (-1) ++ List.replicate (nx.length - k) 0))[k]? = some (.int .i64 0) := by
        rw [List.getElem?_map, List.getElem?_append_right (by simp), List.length_replicate, Nat.sub_self, List.getElem?_replicate, if_pos (by omega)]; rfl
      rw [hge] at ci
      clear hS hge
      go_wp2_with (fail)
      go_roundw
      case measure => simp [intOf]; omega
      case rel =>
        refine ⟨k + 1, hlt, by first | rfl | go_num, ?_⟩
        have := HS.out.setI k (-1)
        have e : (List.replicate k (-1 : Int) ++ List.replicate (nx.length - k) 0).set k (-1) = List.replicate (k + 1) (-1) ++ List.replicate (nx.length - (k + 1)) 0 := by
          rw [List.set_append_right _ _ (by simp), List.length_replicate, Nat.sub_self, show nx.length - k = (nx.length - (k + 1)) + 1 from by omega, List.replicate_succ, List.set_cons_zero, List.replicate_succ', List.append_assoc]; rfl
        rw [e] at this
        simpa using this
    · have hkn : k = nx.length := by omega
      subst hkn
      have hS1 : DS1 w wr nx g5 ga g6 (List.replicate nx.length (-1)) (List.replicate nx.length []) := by simpa using hS
      have HS1 := Aside0.mk hS1
      clear hS hlt hS1 HS
      go_wp2_with (fail)
      clear b5
      revert HS1
      generalize wr = W1
      intro HS1
      go_loopw [35] (fun i wr => ∃ (k : Nat) (ah : List (List Int)), k ≤ (post nx).length ∧ i = .int .i64 (k : Int) ∧ AhOf nx ((post nx).take k) 0 [] ah ∧ DS1 w wr nx g5 ga g6 (List.replicate nx.length (-1)) ah) (fun i _ => (((post nx).length : Int) - intOf i).toNat)
      case atStart => exact ⟨0, _, Nat.zero_le _, rfl, ahof_start 0, HS1.out⟩
      case round =>
        clear HS1
        obtain ⟨k, ah, hk, rfl, hAh, hS⟩ := hrel
        have HS := Aside0.mk hS
        have HAH := Aside0.mk hAh
        by_cases hlt : k < (post nx).length
        · have hCP := Kd.C_below HP.out hS.below
          have hli : (k : Int) < ((post nx).length : Int) := by omega
          have h0k : (0 : Int) ≤ (k : Int) := by omega
          obtain ⟨ad, rfl, hc⟩ := Kd.at_int hCP (k : Int) h0k hli
          rw [Int.toNat_natCast] at hc
          obtain ⟨b, hb⟩ : ∃ b, rd (post nx) (k : Int) = b := ⟨_, rfl⟩
          rw [hb] at hc
          have hbk : (post nx)[k]? = some b := by rw [← hb, List.getElem?_eq_getElem hlt]; simp [rd, hlt]
          have hbd := post_bound nx hw (List.mem_of_getElem? hbk)
          obtain ⟨ad2, cc, rfl, hcl, hK, hcell⟩ := Kd.C_get HA.out [] b hbd.1 hbd.2
          obtain ⟨Ab, cb, rfl, hlb, hCb⟩ := hK
          have hn := hcell 0 _ rfl
          have hnb : nx.getD b.toNat [] = nb nx b := rfl
          rw [hnb] at hn hlb hCb
          have esz : b.toNat * (Kd.slice 3 (Kd.int .i64)).sz + 0 = b.toNat := by show b.toNat * 1 + 0 = _; omega
          rw [esz] at hn
          replace hn := cell_of_below hS.below hn
          obtain ⟨hb0, hb1⟩ := hbd
          have HBK := Aside0.mk hbk
          have HCB := Aside0.mk hCb
          have HB := Aside0.mk hS.below
          have htk : (post nx).take (k + 1) = (post nx).take k ++ [b] := by
            rw [List.take_add_one, hbk]; rfl
          have HTK := Aside0.mk htk
          clear hb hS hAh hCP esz hnb hcl hcell hbk htk hCb hlb
          go_wp2_with (fail)
          clear hc hn
          go_loopw [44] (fun i wr => ∃ (j : Nat) (ah : List (List Int)), j ≤ (nb nx b).length ∧ i = .int .i64 (j : Int) ∧ AhOf nx ((post nx).take k) b ((nb nx b).take j) ah ∧ DS1 w wr nx g5 ga g6 (List.replicate nx.length (-1)) ah) (fun i _ => (((nb nx b).length : Int) - intOf i).toNat)
          case atStart => exact ⟨0, ah, Nat.zero_le _, rfl, ⟨HAH.out.len, HAH.out.at_⟩, HS.out⟩
          case round =>
            clear HS HAH
            obtain ⟨j, ah, hj, rfl, hAh, hS⟩ := hrel
            have HS := Aside0.mk hS
            have HAH := Aside0.mk hAh
            by_cases hlj : j < (nb nx b).length
            · have hCb2 := Kd.C_below HCB.out hS.below
              have hji : (j : Int) < ((nb nx b).length : Int) := by omega
              have h0j : (0 : Int) ≤ (j : Int) := by omega
              have hjm : j < 9223372036854775807 := by have := Kd.C_max HCB.out; omega
              obtain ⟨ad3, rfl, hc3⟩ := Kd.at_int hCb2 (j : Int) h0j hji
              rw [Int.toNat_natCast] at hc3
              obtain ⟨t, ht⟩ : ∃ t, rd (nb nx b) (j : Int) = t := ⟨_, rfl⟩
              rw [ht] at hc3
              have hget : (nb nx b)[j]? = some t := by rw [← ht, List.getElem?_eq_getElem hlj]; simp [rd, hlj]
              obtain ⟨ht0, ht1⟩ := hw.in_ b t (List.mem_of_getElem? hget)
              have htn : t.toNat < nx.length := by omega
              have hnp : t ∉ (nb nx b).take j := by
                intro hm
                obtain ⟨i, hi, he⟩ := List.getElem_of_mem hm
                rw [List.length_take] at hi
                have e1 : (nb nx b)[i]? = some t := by
                  rw [List.getElem_take] at he
                  rw [List.getElem?_eq_getElem (by omega), he]
                have h1 := (List.getElem?_inj (l := nb nx b) (i := i) (j := j) (by omega) (HN.out b)).1 (e1.trans hget.symm)
                omega
              obtain ⟨vs, hg⟩ := hS.grid
              have b6 := hS.box6.cell
              have cg := hg.cellAt htn
              have fg := hg.row.frozenAt t.toNat
              have her := hg.each t.toNat htn
              have hsh := ahof_short hAh t.toNat htn
              rw [List.length_take] at hsh
              obtain ⟨Ae, ce, hve⟩ := row_slice her
              have HG := Aside0.mk hg
              have HER := Aside0.mk her
              have HNP := Aside0.mk hnp
              have HST : (nb nx b).take (j + 1) = (nb nx b).take j ++ [t] := by rw [List.take_add_one, hget]; rfl
              have HSTA := Aside0.mk HST
              have HVE := Aside0.mk hve
              rw [hve] at cg
              clear hS hAh hg her hCb2 ht hget hnp hve HST
              obtain ⟨i3, hi3, hz30, hz31, hz32⟩ := info_parts info3
              have HI := Aside0.mk hi3
              have HZ0 := Aside0.mk hz30
              have HZ1 := Aside0.mk hz31
              have HZ2 := Aside0.mk hz32
              clear hi3 hz30 hz31 hz32
              go_wp2_with (fail)
              have hkeep : ∀ W, wr.grownBy W (Value.slice Ae (ah.getD t.toNat []).length ce).ownBlock → W.cell? ⟨g6, 0, none⟩ = some (.slice (some ⟨ga, 0, none⟩) nx.length nx.length) ∧ W.cell? ⟨ga, t.toNat, none⟩ = some (.slice Ae (ah.getD t.toNat []).length ce) ∧ W.frozen? ⟨ga, t.toNat, none⟩ = false := fun W hgr => by
                have e1 : Boxed W g6 27 _ := HS.out.box6.kept hgr (fun e => Boxed.not_row HS.out.box6 (by decide) (HVE.out ▸ HER.out) e)
                have e2 := HG.out.row.kept hgr (own_ne HG.out.row (HVE.out ▸ HER.out) (by decide))
                refine ⟨e1.cell, ?_, e2.frozenAt _⟩
                rw [e2.cellAt t.toNat (by omega)]
                have hv := HG.out.vlen
                have := HVE.out
                rw [List.getD_eq_getElem?_getD, List.getElem?_eq_getElem (by omega)] at this
                rw [List.getElem?_eq_getElem (by omega)]
                exact congrArg some this
              rename_i hK
              have HKEEP := Aside0.mk hkeep
              clear hkeep
              refine RegInv.region_facts_p (by kernel_rfl) (by kernel_rfl) (fun a b => Below a.heap.size a b) (fun a b => a.grownBy b (Value.slice Ae (ah.getD t.toNat []).length ce).ownBlock) (fun a b c h k => wB h k) (fun a b h => ⟨h.os, h.tape, h.output, h.size, fun k hk _ => h.block k hk⟩) (fun a b c h k => h.trans k) (below_drew1 (Below.refl _ _)) dDA 10 8 (by kernel_rfl) (by kernel_rfl) (by kernel_rfl) (by kernel_rfl) (FDA ga nx.length t b (.slice Ae (ah.getD t.toNat []).length ce) (w.heap.size + 1) wr.heap.size ((ah.getD t.toNat []).map (Value.int .i64)) (ah.getD t.toNat []).length) (FDA_below _ _ _ _ _ _ _ _ _) (FDA_grown _ _ _ _ _ _ _ _ _) ?hsDA ?heDA
              case hsDA =>
                clear hK
                intro i o a w8 hlt hi hM
                obtain ⟨c6, cga, fga⟩ := HKEEP.out w8 hM.ext
                rcases i with _ | _ | _ | _ | _ | _ | _ | _ | _ | _ | i
                · cases hi
                  have h0 := gdq _ _ _ (show a.tmps.getD 6 undef = .pointer (some ⟨g6, 0, none⟩) from hM.off 6 (by kernel_rfl))
                  refine RegInv.op_value (by rfl) rfl (v := .slice (some ⟨ga, 0, none⟩) nx.length nx.length) (w' := w8) ?_ ⟨_, rfl, rfl, grown_refl _ _, fun _ => Below.refl _ _⟩
                  unfold execOp
                  go_simp
                · cases hi
                  have h0 := gdq _ _ _ (show a.tmps.getD 11 undef = .int .i64 t from hM.off 11 (by kernel_rfl))
                  refine RegInv.op_value (by rfl) rfl (v := .int .i64 t) (w' := w8) ?_ ⟨_, rfl, rfl, grown_refl _ _, fun _ => Below.refl _ _⟩
                  unfold execOp
                  go_simp
                · cases hi
                  have h0 := gdq _ _ _ (show a.tmps.getD 6 undef = .pointer (some ⟨g6, 0, none⟩) from hM.off 6 (by kernel_rfl))
                  refine RegInv.op_value (by rfl) rfl (v := .slice (some ⟨ga, 0, none⟩) nx.length nx.length) (w' := w8) ?_ ⟨_, rfl, rfl, grown_refl _ _, fun _ => Below.refl _ _⟩
                  unfold execOp
                  go_simp
                · cases hi
                  have h0 := gdq _ _ _ (show a.tmps.getD 11 undef = .int .i64 t from hM.off 11 (by kernel_rfl))
                  refine RegInv.op_value (by rfl) rfl (v := .int .i64 t) (w' := w8) ?_ ⟨_, rfl, rfl, grown_refl _ _, fun _ => Below.refl _ _⟩
                  unfold execOp
                  go_simp
                · cases hi
                  have h0 := gdq _ _ _ (show a.tmps.getD 50 undef = .slice (some ⟨ga, 0, none⟩) nx.length nx.length from hM.at_ 2 (by decide) (by kernel_rfl))
                  have h1 := gdq _ _ _ (show a.tmps.getD 51 undef = .int .i64 t from hM.at_ 3 (by decide) (by kernel_rfl))
                  refine RegInv.op_value (by rfl) rfl (v := .pointer (some ⟨ga, t.toNat, none⟩)) (w' := w8) ?_ ⟨_, rfl, rfl, grown_refl _ _, fun _ => Below.refl _ _⟩
                  unfold execOp
                  go_simp
                · cases hi
                  have h0 := gdq _ _ _ (show a.tmps.getD 52 undef = .pointer (some ⟨ga, t.toNat, none⟩) from hM.at_ 4 (by decide) (by kernel_rfl))
                  refine RegInv.op_value (by rfl) rfl (v := .slice Ae (ah.getD t.toNat []).length ce) (w' := w8) ?_ ⟨_, rfl, rfl, grown_refl _ _, fun _ => Below.refl _ _⟩
                  unfold execOp
                  go_simp
                · cases hi
                  have h0 := gdq _ _ _ (show a.tmps.getD 9 undef = .int .i64 b from hM.off 9 (by kernel_rfl))
                  refine RegInv.op_value (by rfl) rfl (v := .int .i64 b) (w' := w8) ?_ ⟨_, rfl, rfl, grown_refl _ _, fun _ => Below.refl _ _⟩
                  unfold execOp
                  go_simp
                · cases hi
                  have h0 := gdq _ _ _ (show a.tmps.getD 54 undef = .int .i64 b from hM.at_ 6 (by decide) (by kernel_rfl))
                  have hgv : (Value.slice Ae (ah.getD t.toNat []).length ce).ownBlock ≠ some w8.heap.size := fun e => by
                    have := own_lt (HVE.out ▸ HER.out) _ e
                    have := hM.ext.size
                    omega
                  refine RegInv.op_value (by rfl) rfl (v := .slice (some ⟨w8.heap.size, 0, none⟩) 1 1) (w' := w8.alloc (.cells #[.int .i64 b] 3)) ?_ ⟨_, rfl, ⟨w8.heap.size, rfl, cell_one_new w8 (.int .i64 b) 3 0 _ rfl, hgv⟩, World.grownBy_alloc _ _ _, fun _ => below_alloc (Below.refl _ _) _⟩
                  unfold execOp
                  go_simp
                · cases hi
                  obtain ⟨gN, h7, c7, hgN⟩ := hM.at_ 7 (by decide) (by kernel_rfl)
                  have h5 : a.tmps.getD 53 undef = .slice Ae (ah.getD t.toNat []).length ce := hM.at_ 5 (by decide) (by kernel_rfl)
                  have h7' : a.tmps.getD 55 undef = .slice (some ⟨gN, 0, none⟩) 1 1 := h7
                  have hb8 := hM.exts rfl
                  have hrow : w8.ownsRow (w.heap.size + 1) 3 1 (.slice Ae (ah.getD t.toNat []).length ce) (ah.getD t.toNat []).length ((ah.getD t.toNat []).map (Value.int .i64)) := own_move (HVE.out ▸ HER.out) fun k hk => hb8.block k (own_lt (HVE.out ▸ HER.out) k hk)
                  have hbs : w.heap.size + 1 ≤ wr.heap.size := by have := HS.out.lo5; have := HS.out.box5.lt; omega
                  refine op_append_own (by rfl) rfl (.tmp 53) (.tmp 55) 26 rfl (w.heap.size + 1) 3 i3 (.int .i64 0) 1 8 Try.underlying26 HI.out HZ0.out HZ1.out HZ2.out rfl (by decide) _ _ _ h5 hrow ⟨gN, 0, none⟩ 1 1 [.int .i64 b] h7' rfl (fun j u hj => ?_) (by simp [Value.oneCell']) (by unfold maxLen; omega) (by omega) (by have := hb8.size; omega) ?_
                  · match j, hj with
                    | 0, hj =>
                      simp at hj
                      subst hj
                      exact c7
                  · intro v9 w9 hown9 hgrow9 hat9
                    refine ⟨v9, rfl, ⟨hown9, ?_⟩, hgrow9, fun h => absurd rfl h⟩
                    rcases hat9 with e | e
                    · exact .inl e
                    · exact .inr ⟨_, e, hb8.size⟩
                · cases hi
                  have h0 := gdq _ _ _ (show a.tmps.getD 48 undef = .slice (some ⟨ga, 0, none⟩) nx.length nx.length from hM.at_ 0 (by decide) (by kernel_rfl))
                  have h1 := gdq _ _ _ (show a.tmps.getD 49 undef = .int .i64 t from hM.at_ 1 (by decide) (by kernel_rfl))
                  refine RegInv.op_value (by rfl) rfl (v := .pointer (some ⟨ga, t.toNat, none⟩)) (w' := w8) ?_ ⟨_, rfl, rfl, grown_refl _ _, fun _ => Below.refl _ _⟩
                  unfold execOp
                  go_simp
                · exact absurd hlt (by omega)
              case heDA =>
                intro vs8 w8 hx hf
                have e0 : vs8 0 = .slice (some ⟨ga, 0, none⟩) nx.length nx.length := hf 0 (by decide)
                have e1 : vs8 1 = .int .i64 t := hf 1 (by decide)
                have e2 : vs8 2 = .slice (some ⟨ga, 0, none⟩) nx.length nx.length := hf 2 (by decide)
                have e3 : vs8 3 = .int .i64 t := hf 3 (by decide)
                have e4 : vs8 4 = .pointer (some ⟨ga, t.toNat, none⟩) := hf 4 (by decide)
                have e5 : vs8 5 = .slice Ae (ah.getD t.toNat []).length ce := hf 5 (by decide)
                have e6 : vs8 6 = .int .i64 b := hf 6 (by decide)
                have e8 := hf 8 (by decide)
                have e9 : vs8 9 = .pointer (some ⟨ga, t.toNat, none⟩) := hf 9 (by decide)
                obtain ⟨v8, hv8⟩ : ∃ v, v = vs8 8 := ⟨_, rfl⟩
                simp only [FDA, dDA] at e8
                rw [← hv8] at e8
                obtain ⟨c6, cga, fga⟩ := HKEEP.out w8 hx
                simp only [RegInv.puts, dDA, Act.put, List.range, List.range.loop, List.setIfInBounds_toArray, List.set_cons_zero, List.set_cons_succ]
                rw [e0, e1, e2, e3, e4, e5, e6, e9, ← hv8]
                have HDS := Aside0.mk (HS.out.put HG.out htn (r := ah.getD t.toNat [] ++ [b]) (by rw [List.map_append, List.length_append]; exact e8.1) (HVE.out ▸ hx) (HVE.out ▸ e8.2))
                have HAH2 := Aside0.mk (ahof_step HAH.out HNP.out ht0)
                obtain ⟨gv, cv, rfl⟩ := ownsRow_succ e8.1
                refine RegInv.op_skip (w' := w8.setCell ⟨ga, t.toNat, none⟩ (.slice (some ⟨gv, 0, none⟩) ((ah.getD t.toNat []).length + 1) cv)) (by rfl) rfl ?_ ?_
                · unfold execOp
                  go_simp
                · refine hK _ _ ?_
                  simp only [Act.put, List.getElem_toArray, List.getElem_cons_succ, List.getElem_cons_zero]
                  clear hK hf hx c6 cga fga b6 cg fg hc3 e8 e0 e1 e2 e3 e4 e5 e6 e9 hv8
                  go_wp2_with (fail)
                  go_roundw
                  case measure => simp [intOf]; omega
                  case rel =>
                    refine ⟨j + 1, _, hlj, by first | rfl | go_num, ?_, HDS.out⟩
                    rw [HSTA.out]
                    exact HAH2.out
            · have hjn : j = (nb nx b).length := by omega
              subst hjn
              rw [List.take_length] at hAh
              have HT := Aside0.mk (ahof_turn (b' := 0) hAh)
              clear hAh hS HAH
              go_wp2_with (fail)
              go_roundw
              case measure => simp [intOf]; omega
              case rel =>
                refine ⟨k + 1, _, hlt, by first | rfl | go_num, ?_, HS.out⟩
                rw [HTK.out]
                exact HT.out
        · have hkn : k = (post nx).length := by omega
          subst hkn
          rw [List.take_length] at hAh
          have HAHD := Aside0.mk (ahof_end hAh)
          clear hlt HAH hAh HS
          obtain ⟨g12, hg12⟩ : ∃ g, g = wr.heap.size := ⟨_, rfl⟩
          have HD0 := Aside0.mk (hS.alloc (.cells #[.bool true] 4))
          have HB0 := Aside0.mk (Boxed.new wr 4 (.bool true))
          have HLT := Aside0.mk (show w.heap.size < wr.heap.size by have := hS.lo5; have := hS.box5.lt; omega)
          clear hS
          go_wp2_with (fail)
          revert HD0 HB0 HLT
          rw [← hg12]
          generalize wr.alloc (.cells #[.bool true] 4) = W2
          intro HD0 HB0 HLT
          clear hg12 HA HN
          refine wp_loop_ghost_k (fun m a' W => ∃ (v12 v60 v61 v62 v103 : Value) (ds : List Nat), (∃ (gc : Nat) (l : List Int) (chg : Bool), v12 = .pointer (some ⟨gc, 0, none⟩) ∧ w.heap.size < gc ∧ DS1 w W nx g5 ga g6 l ah ∧ Boxed W gc 4 (.bool chg) ∧ Dom.Good nx l ∧ rd l 0 = -1 ∧ (chg = false → IsDom nx l) ∧ 2 * worth nx l (ord nx) + (if chg = true then 1 else 0) ≤ m ∧ Marks w.heap.size W ds) ∧ a' = { tmps := #[.slice A nx.length c, .slice A1 (post nx).length c1, undef, undef, .slice none 0 0, .pointer (some ⟨g5, 0, none⟩), .pointer (some ⟨g6, 0, none⟩), u7, undef, u9, undef, u11, v12, undef, undef, undef, undef, undef, .slice A nx.length c, .int .i64 (nx.length : Int), .slice (some ⟨w.heap.size, 0, none⟩) nx.length nx.length, .slice A nx.length c, .int .i64 (nx.length : Int), .slice (some ⟨ga, 0, none⟩) nx.length nx.length, .slice (some ⟨w.heap.size, 0, none⟩) nx.length nx.length, .int .i64 (nx.length : Int), .int .i64 (nx.length : Int), .bool false, u28, u29, u30, u31, u32, .slice A1 (post nx).length c1, .int .i64 ((post nx).length : Int), .int .i64 ((post nx).length : Int), .bool false, u37, u38, u39, u40, u41, u42, u43, u44, u45, u46, u47, u48, u49, u50, u51, u52, u53, u54, u55, u56, u57, u58, u59, v60, v61, v62, undef, undef, undef, undef, undef, undef, undef, undef, undef, undef, undef, undef, undef, undef, undef, undef, undef, undef, undef, undef, undef, undef, undef, undef, undef, undef, undef, undef, undef, undef, undef, undef, undef, undef, undef, undef, undef, undef, undef, undef, v103, undef], defers := ds.map markD }) (2 * worth nx (List.replicate nx.length (-1)) (ord nx) + 1) ⟨_, _, _, _, _, [], ⟨g12, _, true, rfl, HLT.out, HD0.out, HB0.out, good_start hw, by simp [rd, List.getElem?_replicate, hpos], fun e => (by cases e), Nat.le_refl _, trivial⟩, rfl⟩ ?_
          clear HD0 HB0 HLT
          rintro m a' W ⟨v12, v60, v61, v62, v103, ds, ⟨gc, l, chg, rfl, hlt, hD, hB, hG, hz, hdom, hm, hM⟩, rfl⟩ J K hJ hK
          have HD := Aside0.mk hD
          have HB := Aside0.mk hB
          have HG := Aside0.mk hG
          have HZ := Aside0.mk hz
          have HDM := Aside0.mk hdom
          have HMM := Aside0.mk hm
          have HM := Aside0.mk hM
          have b12 := hB.cell
          have f12 := hB.frozen
          clear hD hB hG hz hdom hm hM
          cases chg with
          | false =>
            have b5 := HD.out.box5.cell
            go_wp2_with (fail)
            refine leaves_marks ds W HM.out fun W' hB' hc => ?_
            have hown : W'.ownsRow w.heap.size 3 1 (.slice (some ⟨w.heap.size, 0, none⟩) l.length nx.length) l.length (l.map (Value.int .i64)) := by
              rw [HD.out.llen]
              exact own_held HD.out.idom fun k o _ hk ho => hc k o hk ho
            refine ⟨_, results_tmp rfl _ _ _, _, rfl, l, ?_, HDM.out (by trivial), HD.out.below.trans hB'⟩
            have : (Kd.int .i64).R 3 W' w.heap.size (fun _ => True) (.slice (some ⟨w.heap.size, 0, none⟩) l.length nx.length) l := Kd.R_of_own hown (fun _ _ => trivial)
            rw [HD.out.llen] at this
            exact this
          | true =>
            go_wp2_with (fail)
            obtain ⟨W1, hW1⟩ : ∃ X, X = W.setCell ⟨gc, 0, none⟩ (.bool false) := ⟨_, rfl⟩
            have hD1 : DS1 w W1 nx g5 ga g6 l ah := hW1 ▸ HD.out.box HB.out hlt _
            have hB1 : Boxed W1 gc 4 (.bool false) := hW1 ▸ Boxed.set _ HB.out
            have hM1 : Marks w.heap.size W1 ds := hW1 ▸ HM.out.kept fun D _ _ h => by
              have hne : D ≠ gc := fun e => by
                subst e
                have := Option.some.inj (Eq.trans (Eq.symm h) HB.out)
                cases this
              exact (Below.heap_setCell W ⟨gc, 0, none⟩ (.bool false) D hne).trans h
            rw [← hW1]
            clear hW1 b12 f12 HB HM HD
            refine (backward_calls A1 c1 (post nx) W1).mono ?_
            rintro e w9 ⟨rfl, rfl⟩
            have HBX := Aside0.mk (Boxed.new W1 26 (.slice A1 (post nx).length c1))
            have HD := Aside0.mk (hD1.alloc (.cells #[.slice A1 (post nx).length c1] 26))
            have HB := Aside0.mk (hB1.alloc (.cells #[.slice A1 (post nx).length c1] 26))
            have HM := Aside0.mk (hM1.kept fun D _ _ h => ((World.grownBy_alloc W1 (.cells #[.slice A1 (post nx).length c1] 26) none).block D (blk_lt h) (by simp)).trans h)
            have HBK := Aside0.mk (show gc < W1.heap.size ∧ w.heap.size < W1.heap.size from ⟨blk_lt hB1, by have := blk_lt hB1; omega⟩)
            have HSZ := Aside0.mk (show (W1.alloc (.cells #[.slice A1 (post nx).length c1] 26)).heap.size = W1.heap.size + 1 by simp)
            clear hD1 hB1 hM1
            revert HBX HD HB HM HBK HSZ
            generalize W1.alloc (.cells #[.slice A1 (post nx).length c1] 26) = W3
            generalize W1.heap.size = Bk
            intro HBX HD HB HM HBK HSZ
            go_wp2_with (fail)
            obtain ⟨f, hf⟩ : ∃ f : List Int → List Int × Bool, f = fun pre => (pre.map (rd (post nx))).foldl (procB ah) (l, false) := ⟨_, rfl⟩
            have hf0 : f [] = (l, false) := by rw [hf]; rfl
            have hf1 : ∀ pre x, f (pre ++ [x]) = procB ah (f pre) (rd (post nx) x) := fun pre x => by rw [hf]; simp
            have hf2 : f (downs (post nx).length) = pass nx ah l := by rw [hf]; simp only; rw [downs_all]; rfl
            have HF1 := Aside0.mk hf1
            have HF2 := Aside0.mk hf2
            clear hf hf1 hf2
            have hszA := HSZ.out
            have hbkA := HBK.out
            refine (wpIn_wide (n := 10)).1 ?_
            refine range12B (K2 W3.heap.size w.heap.size gc) K2.trans (K2.refl _ _ _) (by decide) rfl (enters_of Try.func67 (by kernel_rfl) rfl) (by simp) (by simp) (by decide) (rd (post nx))
              (downs_stops Fence.wide 9 trivial rfl (by decide) Bk (K2 W3.heap.size w.heap.size gc) K2.trans A1 c1 (post nx) (by omega) W3 (fun W' h => ⟨h.blk HBX.out (by omega) (by omega) (by omega), Kd.C_below HP.out (HD.out.below.trans (h.below (by omega) (Nat.le_refl _) (by omega)))⟩) W3 (K2.refl _ _ _ _) (fun h => K2.of_below h))
              (fun W' l' o o' hl' h hc hw' => K2.put (Nat.le_refl _) W' l' o o' hl' h hc hw') (Below.refl _ _)
              (fun pre W' => DS1 w W' nx g5 ga g6 (f pre).1 ah ∧ (Boxed W' gc 4 (.bool (f pre).2) ∧ K2 W3.heap.size w.heap.size gc W3 W'))
              (OwnFrom.and (DS1.ownF (by omega) (fun pre => (f pre).1)) (OwnFrom.and (Own.from (boxed_own _ _ (fun pre => .bool (f pre).2)) _) (K2.own (Nat.le_refl _) (Nat.le_refl _))))
              ⟨by rw [hf0]; exact HD.out, by rw [hf0]; exact HB.out, K2.refl _ _ _ _⟩ ?body ?done
            case body =>
              rintro lp pre x W hlp ⟨r, hr⟩ ⟨hDW, hBW, hKW⟩ hplt
              simp only [List.setIfInBounds_toArray, List.set_cons_succ, List.set_cons_zero]
              have hfx := HF1.out pre x
              obtain ⟨b, hb⟩ : ∃ b, rd (post nx) x = b := ⟨_, rfl⟩
              rw [hb] at hfx ⊢
              have hbd : 0 ≤ b ∧ b < (nx.length : Int) := by
                rw [← hb]
                unfold rd
                rw [List.getD_eq_getElem?_getD]
                cases hg : (post nx)[x.toNat]? with
                | none => exact ⟨Int.le_refl _, by simp; omega⟩
                | some y => exact post_bound nx hw (List.mem_of_getElem? hg)
              obtain ⟨hb0, hb1⟩ := hbd
              obtain ⟨s, hs⟩ : ∃ s, f pre = s := ⟨_, rfl⟩
              rw [hs] at hDW hBW hfx
              have HFX := Aside0.mk hfx
              clear HF1 HF2 hb hf0 hs hfx
              have HSL := Aside0.mk hDW.llen
              by_cases hbz : b = 0
              · subst hbz
                have HX := Aside0.mk (show procB ah s 0 = s by unfold procB; rw [if_pos rfl])
                have HDW := Aside0.mk hDW
                have HBW := Aside0.mk hBW
                have HKW := Aside0.mk hKW
                clear hDW hBW hKW
                gi_wp2_with (fail)
                exact ⟨KeepsFrom.refl _ _, K2.refl _ _ _ _, by rw [HFX.out, HX.out]; exact HDW.out, by rw [HFX.out, HX.out]; exact HBW.out, HKW.out⟩
              · have HBZ := Aside0.mk hbz
                obtain ⟨vs, hgr⟩ := hDW.grid
                have hbn : b.toNat < nx.length := by omega
                have b6 := hDW.box6.cell
                have cg := hgr.cellAt hbn
                have her := hgr.each b.toNat hbn
                obtain ⟨Ae, ce, hve⟩ := row_slice her
                rw [hve] at cg her
                have hCr := (row_C her).1
                obtain ⟨row, hrow⟩ : ∃ row, ah.getD b.toNat [] = row := ⟨_, rfl⟩
                rw [hrow] at cg hCr her
                have hmem : ∀ a ∈ row, 0 ≤ a ∧ a < (nx.length : Int) := fun a ha => post_bound nx hw ((HAHD.out.mem b hb0 hb1 a).1 (hrow ▸ ha)).1
                have hrl : row.length ≤ 9223372036854775807 := Kd.C_max hCr
                have HDW := Aside0.mk hDW
                have HBW := Aside0.mk hBW
                have HKW := Aside0.mk hKW
                have HCR := Aside0.mk hCr
                have HMEM := Aside0.mk hmem
                have HPB := Aside0.mk (show procB ah s b = if rd s.1 b ≠ atOf s.1 row (-1) then (s.1.set b.toNat (atOf s.1 row (-1)), true) else s by unfold procB; rw [if_neg hbz, hrow])
                clear hDW hBW hKW hCr her hve hgr hmem hrow
                have hWs : W3.heap.size ≤ W.heap.size := HKW.out.1.size
                gi_wp2_with (fail)
                clear b6 cg
                rw [show (b == 0) = false from by simpa using hbz]
                clear hbz
                gi_loopw [15, 72] (fun v15 v72 wr => ∃ (j : Nat) (at_ : Int), j ≤ row.length ∧ v72 = .int .i64 (j : Int) ∧ v15 = .int .i64 at_ ∧ atOf s.1 (row.drop j) at_ = atOf s.1 row (-1) ∧ Below W.heap.size W wr) (fun v15 v72 _ => ((row.length : Int) - intOf v72).toNat)
                case atStart => exact ⟨0, -1, Nat.zero_le _, rfl, rfl, rfl, Below.refl _ _⟩
                case round =>
                  obtain ⟨j, at_, hj, rfl, rfl, hat, hBe⟩ := hrel
                  have HAT := Aside0.mk hat
                  have HBE := Aside0.mk hBe
                  have hDr := HDW.out.from_ hBe
                  have b5 := hDr.box5.cell
                  have HDR := Aside0.mk hDr
                  clear hat
                  by_cases hlj : j < row.length
                  · have hCj := Kd.C_below HCR.out hBe
                    have h0j : (0 : Int) ≤ (j : Int) := by omega
                    have hji : (j : Int) < (row.length : Int) := by omega
                    obtain ⟨ad3, rfl, hc3⟩ := Kd.at_int hCj (j : Int) h0j hji
                    rw [Int.toNat_natCast] at hc3
                    obtain ⟨a, ha⟩ : ∃ a, rd row (j : Int) = a := ⟨_, rfl⟩
                    rw [ha] at hc3
                    have hget : row[j]? = some a := by rw [← ha, List.getElem?_eq_getElem hlj]; simp [rd, hlj]
                    obtain ⟨ha0, ha1⟩ := HMEM.out a (List.mem_of_getElem? hget)
                    have han : a.toNat < nx.length := by omega
                    have hsl := HSL.out
                    have ca := hDr.idom.cellAt a.toNat (by omega)
                    have e1 : ((s.1).map (Value.int .i64))[a.toNat]? = some (.int .i64 (rd s.1 a)) := by
                      rw [List.getElem?_map, List.getElem?_eq_getElem (by omega)]
                      simp [rd, List.getElem?_eq_getElem (show a.toNat < s.1.length by omega)]
                    rw [e1] at ca
                    have hdrop : row.drop j = a :: row.drop (j + 1) := by
                      rw [List.drop_eq_getElem_cons hlj]
                      congr 1
                      have := List.getElem?_eq_getElem hlj
                      rw [hget] at this
                      exact (Option.some.inj this).symm
                    have hstep : atOf s.1 (row.drop (j + 1)) (if a ≠ 0 ∧ rd s.1 a < 0 then at_ else if at_ < 0 then a else meetOf s.1 at_ a) = atOf s.1 row (-1) := by
                      rw [← HAT.out, hdrop]; rfl
                    have HSTEP := Aside0.mk hstep
                    have hjm : (j : Int) < 9223372036854775807 := by omega
                    have HRUN := Aside0.mk (show ∀ at2, (if a ≠ 0 ∧ rd s.1 a < 0 then at_ else if at_ < 0 then a else meetOf s.1 at_ a) = at2 → atOf s.1 (row.drop (j + 1)) at2 = atOf s.1 row (-1) from fun at2 e => e ▸ hstep)
                    have hCl : (Kd.int .i64).C wr (some ⟨w.heap.size, 0, none⟩) s.1.length s.1 := (row_C (w := wr) (base := w.heap.size) (c := nx.length) (by rw [hsl]; exact hDr.idom)).1
                    have hmeet := meet_calls (some ⟨w.heap.size, 0, none⟩) nx.length s.1 at_ a wr hCl (by omega)
                    rw [hsl] at hmeet
                    have HMEET := Aside0.mk hmeet
                    obtain ⟨q, hq⟩ : ∃ q, rd s.1 a = q := ⟨_, rfl⟩
                    rw [hq] at ca
                    have HQ := Aside0.mk hq
                    clear hDr hCj ha hget e1 hdrop hstep HSTEP hCl hmeet hq hBe
                    clear hsl
                    by_cases hz : a = 0
                    · subst hz
                      by_cases hneg : at_ < 0
                      · have HE := Aside0.mk (show atOf s.1 (row.drop (j + 1)) 0 = atOf s.1 row (-1) from HRUN.out 0 (by rw [if_neg (fun h => h.1 rfl), if_pos hneg]))
                        gi_wp2_with (fail)
                        go_roundw
                        case rel => first | exact ⟨j + 1, 0, hlj, by first | rfl | go_num, rfl, HE.out, HBE.out⟩ | ((repeat apply Exists.intro); exact ⟨⟨j + 1, 0, hlj, by first | rfl | go_num, rfl, HE.out, HBE.out⟩, rfl⟩)
                        case measure => simp [intOf]; omega
                      · have HE := Aside0.mk (show atOf s.1 (row.drop (j + 1)) (meetOf s.1 at_ 0) = atOf s.1 row (-1) from HRUN.out _ (by rw [if_neg (fun h => h.1 rfl), if_neg hneg]))
                        have hneg' : 0 ≤ at_ := by omega
                        gi_wp2_with (fail)
                        refine ⟨trivial, ?_⟩
                        refine (CallsIn.inRound lp (callsIn_wide.2 HMEET.out)).mono ?_
                        rintro e W9 ⟨rfl, hb9⟩
                        gi_wp2_with (fail)
                        go_roundw
                        case rel => first | exact ⟨j + 1, _, hlj, by first | rfl | go_num, rfl, HE.out, HBE.out.trans (hb9.mono HBE.out.size)⟩ | ((repeat apply Exists.intro); exact ⟨⟨j + 1, _, hlj, by first | rfl | go_num, rfl, HE.out, HBE.out.trans (hb9.mono HBE.out.size)⟩, rfl⟩)
                        case measure => simp [intOf]; omega
                    · have hne : (a != 0) = true := by simpa using hz
                      have HZ := Aside0.mk hz
                      clear hz
                      by_cases hqn : q < 0
                      · have HE := Aside0.mk (show atOf s.1 (row.drop (j + 1)) at_ = atOf s.1 row (-1) from HRUN.out _ (by rw [if_pos ⟨HZ.out, HQ.out ▸ hqn⟩]))
                        gi_wp2_with (fail)
                        go_roundw
                        case rel => first | exact ⟨j + 1, at_, hlj, by first | rfl | go_num, rfl, HE.out, HBE.out⟩ | ((repeat apply Exists.intro); exact ⟨⟨j + 1, at_, hlj, by first | rfl | go_num, rfl, HE.out, HBE.out⟩, rfl⟩)
                        case measure => simp [intOf]; omega
                      · have hqn' : 0 ≤ q := by omega
                        by_cases hneg : at_ < 0
                        · have HE := Aside0.mk (show atOf s.1 (row.drop (j + 1)) a = atOf s.1 row (-1) from HRUN.out _ (by rw [if_neg (fun h => hqn (HQ.out ▸ h.2)), if_pos hneg]))
                          gi_wp2_with (fail)
                          go_roundw
                          case rel => first | exact ⟨j + 1, a, hlj, by first | rfl | go_num, rfl, HE.out, HBE.out⟩ | ((repeat apply Exists.intro); exact ⟨⟨j + 1, a, hlj, by first | rfl | go_num, rfl, HE.out, HBE.out⟩, rfl⟩)
                          case measure => simp [intOf]; omega
                        · have HE := Aside0.mk (show atOf s.1 (row.drop (j + 1)) (meetOf s.1 at_ a) = atOf s.1 row (-1) from HRUN.out _ (by rw [if_neg (fun h => hqn (HQ.out ▸ h.2)), if_neg hneg]))
                          have hneg' : 0 ≤ at_ := by omega
                          gi_wp2_with (fail)
                          refine ⟨trivial, ?_⟩
                          refine (CallsIn.inRound lp (callsIn_wide.2 HMEET.out)).mono ?_
                          rintro e W9 ⟨rfl, hb9⟩
                          gi_wp2_with (fail)
                          go_roundw
                          case rel => first | exact ⟨j + 1, _, hlj, by first | rfl | go_num, rfl, HE.out, HBE.out.trans (hb9.mono HBE.out.size)⟩ | ((repeat apply Exists.intro); exact ⟨⟨j + 1, _, hlj, by first | rfl | go_num, rfl, HE.out, HBE.out.trans (hb9.mono HBE.out.size)⟩, rfl⟩)
                          case measure => simp [intOf]; omega
                  · have hjn : j = row.length := by omega
                    subst hjn
                    have hfin : at_ = atOf s.1 row (-1) := by
                      have := HAT.out
                      rw [List.drop_length] at this
                      exact this
                    have hpb := HPB.out
                    rw [← hfin] at hpb
                    have hsl := HSL.out
                    have cb := hDr.idom.cellAt b.toNat (by omega)
                    have fb := hDr.idom.frozenAt b.toNat
                    have e1 : ((s.1).map (Value.int .i64))[b.toNat]? = some (.int .i64 (rd s.1 b)) := by
                      rw [List.getElem?_map, List.getElem?_eq_getElem (by omega)]
                      simp [rd, List.getElem?_eq_getElem (show b.toNat < s.1.length by omega)]
                    rw [e1] at cb
                    obtain ⟨q, hq⟩ : ∃ q, rd s.1 b = q := ⟨_, rfl⟩
                    rw [hq] at cb hpb
                    have hBr := blk_below HBW.out hBe
                    have f12 := Boxed.frozen hBr
                    have HBR := Aside0.mk hBr
                    have HKB := Aside0.mk (show K2 W3.heap.size w.heap.size gc W wr from K2.of_below (hBe.mono hWs))
                    have HKF := Aside0.mk (show KeepsFrom W3.heap.size W wr from ⟨hBe.size, fun k o _ hk _ => (hBe.block k (blk_lt hk)).trans hk⟩)
                    clear hDr hsl e1 hq hBr hBe hfin HAT
                    by_cases he : q = at_
                    · subst he
                      have HE := Aside0.mk (show procB ah s b = s by rw [hpb, if_neg (fun h => h rfl)])
                      clear hpb
                      gi_wp2_with (fail)
                      exact ⟨HKF.out, HKB.out, by rw [HFX.out, HE.out]; exact HDR.out, by rw [HFX.out, HE.out]; exact HBR.out, HKW.out.trans HKB.out⟩
                    · have HE := Aside0.mk (show procB ah s b = (s.1.set b.toNat at_, true) by rw [hpb, if_pos he])
                      clear hpb
                      have hB2 : Boxed (wr.setCell ⟨w.heap.size, b.toNat, none⟩ (.int .i64 at_)) gc 4 (.bool s.2) := Boxed.kept (h := HBR.out) (HDR.out.idom.stored b.toNat (.int .i64 at_)).2 (by simp; omega)
                      have f12' := Boxed.frozen hB2
                      have k12' := Boxed.cell hB2
                      gi_wp2_with (fail)
                      exact ⟨(HKF.out.trans ((KeepsOthers.setCell _ _ _).from _)).trans ((KeepsOthers.setCell _ _ _).from _), (HKB.out.set _ _).set' _ _, by rw [HFX.out, HE.out]; exact (HDR.out.setI b.toNat at_).box hB2 (by omega) _, by rw [HFX.out, HE.out]; exact Boxed.set _ hB2, HKW.out.trans ((HKB.out.set _ _).set' _ _)⟩
            case done =>
              rintro D xs W hDd rfl ⟨hDW, hBW, hKW⟩ hK
              have hmk : Marks w.heap.size W ds := HM.out.kept fun D' hD' hb' h' => by
                refine hKW.blk h' (blk_lt h') (fun e => ?_) (fun e => ?_)
                · subst e
                  obtain ⟨cells, hc⟩ := own_typed HD.out.idom _ rfl
                  rw [hc] at h'
                  cases h'
                · subst e
                  have := Option.some.inj (Eq.trans (Eq.symm h') HB.out)
                  cases this
              have hmn : Marks w.heap.size W (D :: ds) := hmk.more (by omega) hK (fun D' hD' e => by
                have := HM.out.lt D' hD'
                omega)
              rw [HF2.out] at hDW hBW
              have b12 := hBW.cell
              have HDW := Aside0.mk hDW
              have HBW := Aside0.mk hBW
              have HMN := Aside0.mk hmn
              have hmark : ({ target := .collected D, args := #[] } : Deferred) :: ds.map markD = (D :: ds).map markD := rfl
              clear hDW hBW hKW hmk hmn hf0
              rw [hmark]
              clear hmark
              go_wp2_with (fail)
              have hpm := pass_mids hw HAHD.out HG.out
              have hmo := HMM.out
              simp only [if_true] at hmo
              refine Handed.intro (2 * worth nx (pass nx ah l).1 (ord nx) + (if (pass nx ah l).2 = true then 1 else 0)) ?_ (hJ _ _ _ ⟨_, _, _, _, _, D :: ds, ⟨W.heap.size, (pass nx ah l).1, (pass nx ah l).2, rfl, ?_, HDW.out.alloc _, Boxed.new W 4 _, pass_good hw HAHD.out HG.out, ?_, fun hf => (by rw [(hpm.same hf).1]; exact pass_end hw HAHD.out HG.out HZ.out hf), Nat.le_refl _, ?_⟩, rfl⟩)
              · have h1 := hpm.w
                by_cases hch : (pass nx ah l).2 = true
                · have h2 := hpm.ch hch
                  rw [if_pos hch]; omega
                · rw [if_neg hch]; omega
              · have := blk_lt HBW.out; omega
              · rw [pass_zero hw]; exact HZ.out
              · exact HMN.out.kept fun D' _ _ h => ((World.grownBy_alloc W (.cells #[.bool (pass nx ah l).2] 4) none).block D' (blk_lt h) (by simp)).trans h
end Go.Proofs.Ytmeaepmimnmjlaa.Ask
