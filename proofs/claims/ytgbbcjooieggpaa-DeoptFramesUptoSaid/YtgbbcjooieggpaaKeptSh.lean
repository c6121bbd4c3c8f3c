/- What is found of the shapes that were lent; how the law's walk takes these functions. For every world. -/
import Derived.Test.YtgbbcjooieggpaaSameF
import Derived.Test.YtgbbcjooieggpaaPFrx2
namespace Go.Proofs.Ytgbbcjooieggpaa.PFr
open Go.RowKit Go.Proofs.Ytgbbcjooieggpaa.Lit Go.Proofs.YtgbbcjooieggpaaW.PrintWords Go.Proofs.YtgbbcjooieggpaaW.PrintLast Go.Proofs.YtgbbcjooieggpaaW.PrintMore
attribute [local go_sem high] eqA44
set_option linter.unusedVariables false
set_option linter.unusedSimpArgs false
theorem rdL_at {l : List (List S44)} {i : Nat} (h : i < l.length) : rd_L3 l (i : Int) = l[i] := by
  unfold rd_L3; rw [Int.toNat_natCast, List.getD_eq_getElem?_getD, List.getElem?_eq_getElem h]; rfl
theorem full_mark0 (s : List S44) (q : Nat) (hq : q < 16) : rd_T44 (full s) ((s.length + q : Nat) : Int) = mkO q := by
  rw [rd44_at (by rw [full_len]; omega)]
  unfold full
  rw [List.getElem_append_right (by omega), List.getElem_map, List.getElem_range']
  congr 1; omega
theorem C_takeF {w : World} {A : Option Addr} {s : List S44} (h : k44.C w A (full s).length (full s)) : k44.C w A s.length s := by
  have := Kd.C_take (m := s.length) h (by rw [full_len]; omega)
  rw [full_take] at this
  exact this
set_option maxHeartbeats 4000000 in
set_option maxRecDepth 100000 in
theorem kept_shapes (AO AF AL : Option Addr) (cO cF cL : Nat) (l : List S67) (w : World) (hO : k67.C w AO l.length l) (hF : (Kd.slice 44 k44).C w AF (fulls l).length (fulls l)) (hL : k67.C w AL l.length l) (hl : l.length ≤ 1048576) (hs : ∀ s ∈ l, s.f2.length ≤ 1048576) :
    Calls Try.prog 25 #[.slice AO l.length cO, .slice AF (fulls l).length cF, .slice AL l.length cL] w fun e w' => e = .returned (.bool true) ∧ ∃ m, w' = w.drewN m := by
  have HO := Aside0.mk hO
  have HF := Aside0.mk hF
  have HL := Aside0.mk hL
  have HS := Aside0.mk hs
  have hfl : (fulls l).length = l.length := by unfold fulls; rw [List.length_map]
  obtain ⟨i44, hi44, _⟩ := Option.map_eq_some_iff.1 inf44
  have HI44 := Aside0.mk hi44
  have HFL := Aside0.mk hfl
  rw [hfl]
  clear hO hF hL hs hi44 hfl
  go_enter Try.func25, Try.ntmps25
  go_wp2_with (fail)
  refine (same_shapes AO AL cO cL l w HO.out HL.out (by omega) (fun s h => Nat.le_trans (HS.out s h) (by decide))).mono ?_
  rintro e w1 ⟨rfl, m0, rfl⟩
  go_wp2_with (fail)
  go_loopw [7, 8, 9] (fun t _ _ wr => ∃ k : Nat, k ≤ l.length ∧ t = .int .i64 k ∧ ∃ m, wr = w.drewN m) (fun t _ _ _ => l.length - (intOf t).toNat)
  case atStart => exact ⟨0, Nat.zero_le _, rfl, m0, rfl⟩
  case round =>
    obtain ⟨k, hk, rfl, m, hm⟩ := hrel
    have HM := Aside0.mk hm
    have HF1 := Aside0.mk (show (Kd.slice 44 k44).C wr AF (fulls l).length (fulls l) from hm ▸ C_drewN' HF.out m)
    have HL1 := Aside0.mk (show k67.C wr AL l.length l from hm ▸ C_drewN' HL.out m)
    clear hm
    by_cases hlt : k < l.length
    · obtain ⟨a, A2, c2, rfl, q0, q1, q2, _, g0⟩ := at_T67 HL1.out (k : Int) (by omega) (by omega)
      obtain ⟨b, B2, d2, rfl, r2, hd2, g1⟩ := at_L3 HF1.out (k : Int) (by omega) (by have := HFL.out; omega)
      have hx : (rd_T67 l (k : Int)).f2.length ≤ 1048576 := by rw [rd67_at hlt]; exact HS.out _ (List.getElem_mem _)
      have hrl : rd_L3 (fulls l) (k : Int) = full (rd_T67 l (k : Int)).f2 := by
        rw [rdL_at (by have := HFL.out; omega), rd67_at hlt]
        unfold fulls
        rw [List.getElem_map]
      rw [hrl] at r2 hd2 g1
      rw [Int.toNat_natCast] at q0 q1 q2 r2
      generalize rd_T67 l (k : Int) = x at *
      rw [full_len] at r2 hd2
      have G0 := Aside0.mk g0
      have G1 := Aside0.mk g1
      have HX := Aside0.mk hx
      have HD2 := Aside0.mk hd2
      have Q2 := Aside0.mk q2
      have R2 := Aside0.mk r2
      have hcut := cut_cap (P := Try.prog) 39 44 .i64 Try.underlying39 HI44.out B2 (x.f2.length + 16) d2 (x.f2.length : Int) (by omega) (by omega)
      rw [Int.toNat_natCast] at hcut
      clear g0 g1 hrl hx hd2 q0 q1
      go_wp2_with (fail)
      go_quiet ((go_at_call 47; exact Calls.quiet_of (same_opnds _ _ _ _ x.f2 _ (C_drewN' (C_takeF G1.out) _) (C_drewN' G0.out _) (Nat.le_trans HX.out (by decide)))))
      clear hcut
      go_wp2_with (fail)
      rename_i nq
      have HMQ := Aside0.mk (show wr.drewN nq = w.drewN (m + nq) by rw [HM.out]; exact World.drewN_drewN _ _ _)
      clear q2 r2
      obtain ⟨wo, hwo⟩ : ∃ wo : World, wo = wr.drewN nq := ⟨_, rfl⟩
      rw [← hwo]
      have HWO := Aside0.mk (hwo.trans HMQ.out)
      have R2' : Aside0 (wo.cell? (b.add k) = some (.slice B2 (x.f2.length + 16) d2)) := ⟨by rw [hwo]; exact pw_cell_below (pw_below_drewN (Below.refl _ _) nq) R2.out⟩
      have G1' : Aside0 (k44.C wo B2 (full x.f2).length (full x.f2)) := ⟨by rw [hwo]; exact C_drewN' G1.out nq⟩
      clear hwo
      go_loopw [9] (fun t wr => ∃ q : Nat, q ≤ 16 ∧ t = .int .i64 q ∧ wr = wo) (fun t _ => 16 - (intOf t).toNat)
      case atStart => exact ⟨0, by omega, rfl, rfl⟩
      case round =>
        obtain ⟨q, hq, rfl, rfl⟩ := hrel
        by_cases hq16 : q < 16
        · obtain ⟨e, rfl, y0, y1⟩ := at_T44 G1'.out ((x.f2.length + q : Nat) : Int) (by omega) (by have := full_len x.f2; omega)
          rw [full_mark0 _ q hq16, Int.toNat_natCast] at y0 y1
          have r2 := R2'.out
          unfold mkO at y0 y1
          have hX := HX.out
          go_wp2_with (fail)
          go_roundw
          case rel => exact ⟨q + 1, by omega, by go_num, by first | trivial | rfl⟩
          case measure => simp [intOf]; omega
        · obtain rfl : q = 16 := by omega
          go_wp2_with (fail)
          go_roundw
          case rel => exact ⟨k + 1, by omega, by go_num, _, HWO.out⟩
          case measure => simp [intOf]; omega
    · go_wp2_with (fail)
      go_ret
      exact ⟨rfl, m, HM.out⟩
/-! as the law's walk takes them -/
instance dec35 : DecidableEq S35 := fun a b => decidable_of_iff (a.f0 = b.f0 ∧ a.f1 = b.f1) ⟨fun h => by cases a; cases b; simp at h; obtain ⟨rfl, rfl⟩ := h; rfl, fun h => by subst h; exact ⟨rfl, rfl⟩⟩
instance dec44 : DecidableEq S44 := fun a b => decidable_of_iff (a.f0 = b.f0 ∧ a.f1 = b.f1) ⟨fun h => by cases a; cases b; simp at h; obtain ⟨rfl, rfl⟩ := h; rfl, fun h => by subst h; exact ⟨rfl, rfl⟩⟩
instance dec27 : DecidableEq S27 := fun a b => decidable_of_iff (a.f0 = b.f0 ∧ a.f1 = b.f1 ∧ a.f2 = b.f2) ⟨fun h => by cases a; cases b; simp at h; obtain ⟨rfl, rfl, rfl⟩ := h; rfl, fun h => by subst h; exact ⟨rfl, rfl, rfl⟩⟩
instance dec67 : DecidableEq S67 := fun a b => decidable_of_iff (a.f0 = b.f0 ∧ a.f1 = b.f1 ∧ a.f2 = b.f2) ⟨fun h => by cases a; cases b; simp at h; obtain ⟨rfl, rfl, rfl⟩ := h; rfl, fun h => by subst h; exact ⟨rfl, rfl, rfl⟩⟩
def portageref0_SameFrames.f (_ : Nat) (a b : List S27) : Option Bool := if a = b ∧ a.length ≤ 17592186044416 ∧ ∀ s ∈ a, s.f2.length ≤ 17592186044416 then some true else none
theorem portageref0_SameFrames.mono : ∀ a0 a1 k, LeO (portageref0_SameFrames.f k a0 a1) (portageref0_SameFrames.f (k + 1) a0 a1) := fun _ _ _ => LeO.refl _
theorem portageref0_SameFrames.calls (k : Nat) (A0 : Option Addr) (c0 : Nat) (l0 : List S27) (A1 : Option Addr) (c1 : Nat) (l1 : List S27) (r : Bool) (w : World) (hr0 : Kd.C k27 w A0 l0.length l0) (hc0 : l0.length ≤ c0) (hr1 : Kd.C k27 w A1 l1.length l1) (hc1 : l1.length ≤ c1) (h : portageref0_SameFrames.f k l0 l1 = some r) :
    Calls Try.prog 24 #[.slice A0 l0.length c0, .slice A1 l1.length c1] w fun e w' => e = .returned (.bool r) ∧ Below w.heap.size w w' := by
  unfold portageref0_SameFrames.f at h
  split at h
  · rename_i hs
    obtain ⟨rfl, h1, h2⟩ := hs
    obtain rfl := Option.some.inj h
    exact same_frames A0 A1 c0 c1 l0 w hr0 hr1 h1 h2
  · cases h
def portageref0_SameValues.f (_ : Nat) (a b : List S35) : Option Bool := if a = b ∧ a.length ≤ 17592186044416 then some true else none
theorem portageref0_SameValues.mono : ∀ a0 a1 k, LeO (portageref0_SameValues.f k a0 a1) (portageref0_SameValues.f (k + 1) a0 a1) := fun _ _ _ => LeO.refl _
theorem portageref0_SameValues.calls (k : Nat) (A0 : Option Addr) (c0 : Nat) (l0 : List S35) (A1 : Option Addr) (c1 : Nat) (l1 : List S35) (r : Bool) (w : World) (hr0 : Kd.C k35 w A0 l0.length l0) (hc0 : l0.length ≤ c0) (hr1 : Kd.C k35 w A1 l1.length l1) (hc1 : l1.length ≤ c1) (h : portageref0_SameValues.f k l0 l1 = some r) :
    Calls Try.prog 14 #[.slice A0 l0.length c0, .slice A1 l1.length c1] w fun e w' => e = .returned (.bool r) ∧ ∃ n, w' = w.drewN n := by
  unfold portageref0_SameValues.f at h
  split at h
  · rename_i hs
    obtain ⟨rfl, h1⟩ := hs
    obtain rfl := Option.some.inj h
    exact same_values A0 A1 c0 c1 l0 w hr0 hr1 h1
  · cases h
def portagelaw26_keptShapes.f (_ : Nat) (o : List S67) (u : List (List S44)) (l : List S67) : Option Bool := if o = l ∧ u = fulls l ∧ l.length ≤ 1048576 ∧ ∀ s ∈ l, s.f2.length ≤ 1048576 then some true else none
theorem portagelaw26_keptShapes.mono : ∀ a0 a1 a2 k, LeO (portagelaw26_keptShapes.f k a0 a1 a2) (portagelaw26_keptShapes.f (k + 1) a0 a1 a2) := fun _ _ _ _ => LeO.refl _
theorem portagelaw26_keptShapes.calls (k : Nat) (A0 : Option Addr) (c0 : Nat) (l0 : List S67) (A1 : Option Addr) (c1 : Nat) (l1 : List (List S44)) (A2 : Option Addr) (c2 : Nat) (l2 : List S67) (r : Bool) (w : World) (hr0 : Kd.C k67 w A0 l0.length l0) (hc0 : l0.length ≤ c0) (hr1 : Kd.C (Kd.slice 44 k44) w A1 l1.length l1) (hc1 : l1.length ≤ c1) (hr2 : Kd.C k67 w A2 l2.length l2) (hc2 : l2.length ≤ c2) (h : portagelaw26_keptShapes.f k l0 l1 l2 = some r) :
    Calls Try.prog 25 #[.slice A0 l0.length c0, .slice A1 l1.length c1, .slice A2 l2.length c2] w fun e w' => e = .returned (.bool r) ∧ Below w.heap.size w w' := by
  unfold portagelaw26_keptShapes.f at h
  split at h
  · rename_i hs
    obtain ⟨rfl, rfl, h1, h2⟩ := hs
    obtain rfl := Option.some.inj h
    exact (kept_shapes A0 A1 A2 c0 c1 c2 l0 w hr0 hr1 hr2 h1 h2).mono fun e w' h => ⟨h.1, let ⟨m, hm⟩ := h.2; hm ▸ pw_below_drewN (Below.refl _ _) m⟩
  · cases h
end Go.Proofs.Ytgbbcjooieggpaa.PFr
