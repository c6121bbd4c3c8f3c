/- CopiesKeeps, plainly: what Run keeps; plain and Steps, as printed, say what they should. -/
import Derived.Test.YtjekpkpmoanadaaAgain
import Derived.Test.YtjekpkpmoanadaaPCopx9
import Derived.Test.YtjekpkpmoanadaaPCopx10
namespace Go.Proofs.Ytjekpkpmoanadaa.PCop
open Go.RowKit Go.Proofs.YtjekpkpmoanadaaW.PrintWords
set_option linter.unusedVariables false
set_option linter.unusedSimpArgs false
def plain65 (s : S65) : S65 := ⟨s.f0, s.f1, List.replicate s.f2.length z49⟩
def plain47 (x : S47) : S47 := ⟨x.f0, x.f1, x.f2, List.replicate x.f3.length z49, x.f4, x.f5, x.f6, x.f7.map plain65⟩
def plainS (l : List S47) : List S47 := (l.filter fun x => !decide (x.f0 = 1)).map plain47
def isPoint (n : Int) : Bool := decide (n = 3 ∨ n = 4 ∨ n = 5 ∨ n = 6 ∨ n = 9)
def stepF (a : Int) (x : S47) : Int := if isPoint x.f0 then wrap64 (a + x.f6) else a
def stepsS (l : List S47) : Int := l.foldl stepF 0
/-! what Run keeps -/
theorem plain_turn (M : Map49) (x : S47) : plain47 (turn47 M x) = plain47 x := by
  unfold plain47 turn47
  simp only [List.length_map, List.map_map]
  congr 1
  apply List.map_congr_left
  intro s _
  simp [plain65, turn65]
theorem plain_one (M : Map49) (x : S47) : plainS [turn47 M x] = plainS [x] := by
  unfold plainS
  have e : (turn47 M x).f0 = x.f0 := rfl
  by_cases h : x.f0 = 1
  · simp [e, h]
  · simp [e, h, plain_turn]
theorem plainS_append (a b : List S47) : plainS (a ++ b) = plainS a ++ plainS b := by simp [plainS]
theorem moves_op {x : S47} {o : S49} (h : movesOf x = some o) : x.f0 = 1 := by
  unfold movesOf at h
  split at h
  · assumption
  · cases h
theorem keep_fold (l : List S47) : ∀ st : Map49 × List S47, plainS (l.foldl stepS st).2 = plainS st.2 ++ plainS l ∧ (l.foldl stepS st).2.foldl stepF 0 = l.foldl stepF (st.2.foldl stepF 0) ∧ (l.foldl stepS st).2.length ≤ st.2.length + l.length := by
  induction l with
  | nil => exact fun st => ⟨by simp [plainS], rfl, Nat.le_refl _⟩
  | cons x r ih =>
    intro st
    obtain ⟨M, out⟩ := st
    obtain ⟨h1, h2, h3⟩ := ih (stepS (M, out) x)
    have hx : plainS (x :: r) = plainS [x] ++ plainS r := plainS_append [x] r
    have key : plainS (stepS (M, out) x).2 = plainS out ++ plainS [x] ∧ (stepS (M, out) x).2.foldl stepF 0 = stepF (out.foldl stepF 0) x ∧ (stepS (M, out) x).2.length ≤ out.length + 1 := by
      have app : plainS (out ++ [turn47 M x]) = plainS out ++ plainS [x] ∧ (out ++ [turn47 M x]).foldl stepF 0 = stepF (out.foldl stepF 0) x ∧ (out ++ [turn47 M x]).length ≤ out.length + 1 := by
        refine ⟨by rw [plainS_append, plain_one], ?_, by simp⟩
        rw [List.foldl_append]
        rfl
      by_cases hd : x.f2 = -1
      · rw [stepS_neg hd]; exact app
      · by_cases hm : movesOf (turn47 M x) = some ⟨0, x.f2⟩
        · rw [stepS_skip (st := (M, out)) hd hm]
          have h0 : x.f0 = 1 := moves_op (x := turn47 M x) hm
          refine ⟨?_, ?_, Nat.le_succ _⟩
          · simp [plainS, h0]
          · unfold stepF; rw [h0]; rfl
        · rw [stepS_put (st := (M, out)) hd hm]; exact app
    obtain ⟨k1, k2, k3⟩ := key
    refine ⟨?_, ?_, ?_⟩
    · rw [List.foldl_cons, h1, k1, hx, List.append_assoc]
    · rw [List.foldl_cons, h2, k2]; rfl
    · rw [List.foldl_cons, List.length_cons]; show _ ≤ out.length + (r.length + 1); omega
theorem block_keeps (b : S43) : plainS (blockS b).f1 = plainS b.f1 ∧ stepsS (blockS b).f1 = stepsS b.f1 ∧ (blockS b).f1.length ≤ b.f1.length := by
  obtain ⟨h1, h2, h3⟩ := keep_fold b.f1 (noMap, [])
  exact ⟨h1.trans (by simp [plainS]), h2, by have h4 : (blockS b).f1.length ≤ 0 + b.f1.length := h3; omega⟩
/-! Steps -/
theorem point_f (n : Int) : lift_Point.f n = some (isPoint n) := by
  unfold lift_Point.f isPoint
  by_cases h3 : n = 3
  · simp [h3]
  by_cases h4 : n = 4
  · simp [h4]
  by_cases h5 : n = 5
  · simp [h5]
  by_cases h6 : n = 6
  · simp [h6]
  by_cases h9 : n = 9
  · simp [h9]
  simp [h3, h4, h5, h6, h9]
theorem wrapS {n : Nat} (h : n < 9223372036854775807) : wrap64 ((n : Int) + 1) = ((n + 1 : Nat) : Int) := by
  unfold wrap64
  omega
theorem rd47_ev {l : List S47} {k : Nat} (h : k < l.length) : l[k]? = some (rd_T47 l (k : Int)) := by
  unfold rd_T47
  rw [Int.toNat_natCast, List.getD_eq_getElem?_getD, List.getElem?_eq_getElem h]; rfl
theorem drop_at {l : List S47} {p : Nat} (h : p < l.length) : l.drop p = rd_T47 l (p : Int) :: l.drop (p + 1) := by
  have : rd_T47 l (p : Int) = l[p] := by
    unfold rd_T47
    rw [Int.toNat_natCast, List.getD_eq_getElem?_getD, List.getElem?_eq_getElem h]; rfl
  rw [this, List.drop_eq_getElem_cons h]
theorem steps_l0 {l : List S47} (hl : l.length < 9223372036854775807) : ∀ (n p : Nat) (acc : Int), p + n = l.length → ∀ k, n + 1 ≤ k → lift_Steps.l0 k acc l (l.length : Int) (p : Int) = some ((l.drop p).foldl stepF acc) := by
  intro n
  induction n with
  | zero =>
    intro p acc hp k hk
    obtain ⟨k, rfl⟩ : ∃ k', k = k' + 1 := ⟨k - 1, by omega⟩
    unfold lift_Steps.l0
    rw [if_neg (by omega), List.drop_eq_nil_of_le (by omega)]; rfl
  | succ n ih =>
    intro p acc hp k hk
    obtain ⟨k, rfl⟩ : ∃ k', k = k' + 1 := ⟨k - 1, by omega⟩
    have hlt : p < l.length := by omega
    unfold lift_Steps.l0
    rw [if_pos (by omega), if_pos (by omega), if_pos (by omega), point_f, drop_at hlt, List.foldl_cons]
    show (if isPoint (rd_T47 l (p : Int)).f0 = true then lift_Steps.l0 k (wrap64 (acc + (rd_T47 l (p : Int)).f6)) l (l.length : Int) (wrap64 ((p : Int) + 1)) else lift_Steps.l0 k acc l (l.length : Int) (wrap64 ((p : Int) + 1))) = _
    rw [wrapS (by omega)]
    unfold stepF
    split
    · exact ih (p + 1) _ (by omega) k (by omega)
    · exact ih (p + 1) _ (by omega) k (by omega)
theorem steps_calls (b : S43) (A : Option Addr) (c : Nat) (E : Option Addr) (e : Nat) (w : World) (hA : k47.C w A b.f1.length b.f1) (hc : b.f1.length ≤ c) (hE : (Kd.int .i64).C w E b.f2.length b.f2) (he : b.f2.length ≤ e) (hl : b.f1.length * 96 ≤ 140737488351232) :
    Calls Try.prog 22 #[.agg #[.int .i64 b.f0, .slice A b.f1.length c, .slice E b.f2.length e]] w fun e w' => e = .returned (.int .i64 (stepsS b.f1)) ∧ Below w.heap.size w w' :=
  lift_Steps.calls (b.f1.length + 1) b.f0 A c b.f1 E e b.f2 (stepsS b.f1) w hA hc hE he (by
    show lift_Steps.l0 (b.f1.length + 1) 0 b.f1 (b.f1.length : Int) 0 = _
    have := steps_l0 (l := b.f1) (by omega) b.f1.length 0 0 (by omega) (b.f1.length + 1) (Nat.le_refl _)
    simpa [stepsS] using this)
/-! plain -/
theorem rd65_of {l : List S65} {p : Nat} (h : p < l.length) : rd_T65 l (p : Int) = l[p] := by
  unfold rd_T65
  rw [Int.toNat_natCast, List.getD_eq_getElem?_getD, List.getElem?_eq_getElem h]; rfl
section
variable {l x3 : List S47} {R : List S47} {q : Nat} {f0 f1 f2 f4 f5 f6 : Int} {f3 : List S49} {f7 : List S65}
theorem plain_l1 {K : Nat} (hq : q < 9223372036854775807) (h3 : f3.length * 16 ≤ 140737488351232) (h7 : f7.length * 40 ≤ 140737488351232) (hs : ∀ s ∈ f7, s.f2.length * 16 ≤ 140737488351232) (hx : x3.length < 1466015503701)
    (hK : ∀ k, K ≤ k → portagelaw22_plain.l0 k l (x3 ++ [⟨f0, f1, f2, List.replicate f3.length z49, f4, f5, f6, f7.map plain65⟩]) ((q + 1 : Nat) : Int) = some R) :
    ∀ n p : Nat, p + n = f7.length → ∀ k, K + n + 1 ≤ k → portagelaw22_plain.l1 k l x3 (q : Int) ((f7.take p).map plain65) (p : Int) f0 f1 f2 f3 f4 f5 f6 f7 = some R := by
  intro n
  induction n with
  | zero =>
    intro p hp k hk
    obtain ⟨k, rfl⟩ : ∃ k', k = k' + 1 := ⟨k - 1, by omega⟩
    unfold portagelaw22_plain.l1
    have e : f7.take p = f7 := List.take_of_length_le (by omega)
    rw [if_neg (by omega), if_pos (by omega), if_pos (by rw [Int.toNat_natCast]; omega), if_pos hx, Int.toNat_natCast, wrapS (by omega), e]
    exact hK k (by omega)
  | succ n ih =>
    intro p hp k hk
    obtain ⟨k, rfl⟩ : ∃ k', k = k' + 1 := ⟨k - 1, by omega⟩
    have hlt : p < f7.length := by omega
    unfold portagelaw22_plain.l1
    rw [rd65_of hlt]
    have hsz := hs f7[p] (List.getElem_mem hlt)
    rw [if_pos (by omega), if_pos (by omega), if_pos (by omega), if_pos (by rw [Int.toNat_natCast]; omega), if_pos (by rw [List.length_map, List.length_take]; omega), Int.toNat_natCast, wrapS (by omega)]
    have e : (f7.take p).map plain65 ++ [⟨f7[p].f0, f7[p].f1, List.replicate f7[p].f2.length z49⟩] = (f7.take (p + 1)).map plain65 := by
      rw [List.take_succ_eq_append_getElem hlt, List.map_append]; rfl
    rw [e]
    exact ih (p + 1) (by omega) k (by omega)
theorem plain_l0 (hl : l.length * 96 ≤ 140737488351232) (hx : ∀ x ∈ l, OkX x) : ∀ (n q : Nat) (acc : List S47), q + n = l.length → acc.length ≤ q → ∃ K, ∀ k, K ≤ k → portagelaw22_plain.l0 k l acc (q : Int) = some (acc ++ plainS (l.drop q)) := by
  intro n
  induction n with
  | zero =>
    intro q acc hq ha
    refine ⟨1, fun k hk => ?_⟩
    obtain ⟨k, rfl⟩ : ∃ k', k = k' + 1 := ⟨k - 1, by omega⟩
    unfold portagelaw22_plain.l0
    rw [if_neg (by omega), List.drop_eq_nil_of_le (by omega)]
    simp [plainS]
  | succ n ih =>
    intro q acc hq ha
    have hlt : q < l.length := by omega
    have hm : rd_T47 l (q : Int) ∈ l := List.mem_of_getElem? (rd47_ev hlt)
    have hd := drop_at hlt
    generalize hxe : rd_T47 l (q : Int) = x at *
    have hok := hx x hm
    have hcons : plainS (l.drop q) = plainS [x] ++ plainS (l.drop (q + 1)) := by rw [hd]; exact plainS_append [x] _
    by_cases h0 : x.f0 = 1
    · obtain ⟨K, hK⟩ := ih (q + 1) acc (by omega) (by omega)
      refine ⟨K + 1, fun k hk => ?_⟩
      obtain ⟨k, rfl⟩ : ∃ k', k = k' + 1 := ⟨k - 1, by omega⟩
      unfold portagelaw22_plain.l0
      rw [hxe, if_pos (by omega), if_pos (by omega), if_pos h0, wrapS (by omega), hcons, show plainS [x] = [] by simp [plainS, h0], List.nil_append]
      exact hK k (by omega)
    · obtain ⟨K, hK⟩ := ih (q + 1) (acc ++ [plain47 x]) (by omega) (by simp; omega)
      refine ⟨K + x.f7.length + 2, fun k hk => ?_⟩
      obtain ⟨k, rfl⟩ : ∃ k', k = k' + 1 := ⟨k - 1, by omega⟩
      unfold portagelaw22_plain.l0
      rw [hxe, if_pos (by omega), if_pos (by omega), if_neg h0, hcons, show plainS [x] = [plain47 x] by simp [plainS, h0], ← List.append_assoc]
      exact plain_l1 (by omega) hok.args hok.exit hok.slots (by omega) hK x.f7.length 0 (by omega) k (by omega)
end
theorem plain_calls (l : List S47) (A : Option Addr) (c : Nat) (w : World) (hA : k47.C w A l.length l) (hc : l.length ≤ c) (hl : l.length * 96 ≤ 140737488351232) (hx : ∀ x ∈ l, OkX x) :
    Calls Try.prog 20 #[.slice A l.length c] w fun e w' => ∃ v, e = .returned v ∧ k47.R 47 w' w.heap.size (fun _ => True) v (plainS l) ∧ Below w.heap.size w w' := by
  obtain ⟨K, hK⟩ := plain_l0 hl hx l.length 0 [] (by omega) (Nat.le_refl _)
  exact portagelaw22_plain.calls K A c l (plainS l) w hA hc (by show portagelaw22_plain.l0 K l [] 0 = _; have := hK K (Nat.le_refl _); simpa using this)
end Go.Proofs.Ytjekpkpmoanadaa.PCop
