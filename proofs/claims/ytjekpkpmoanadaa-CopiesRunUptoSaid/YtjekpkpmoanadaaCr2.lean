/- The texts of a claim, one behind the other: PCopx0 Book Turn RegLast RegLast2 Turn2S FarKd PCopx1 Run1S Grown Lists ApartI ApartO RegsW Tree TreeF TreeN SecMk. -/
import Derived.Test.YtjekpkpmoanadaaCr1
-- written by a program of this session (leafprint.py) over the translation; Lean checks it
namespace Go.Proofs.Ytjekpkpmoanadaa.PCop
open Go.RowKit Go.Proofs.YtjekpkpmoanadaaW.PrintWords Go.Proofs.YtjekpkpmoanadaaW.PrintLast Go.Proofs.YtjekpkpmoanadaaW.PrintMore
attribute [local go_sem] max2_int min2_int max_two min_two max_three min_three max_four min_four   -- for this text's walks alone
set_option linter.unusedVariables false
set_option linter.unusedSimpArgs false



def errW : Option Int → Value
  | none => .nilIface
  | some c => .iface 0 (.int .i64 c)
theorem errW_none : errW none = .nilIface := rfl
theorem errW_some (c : Int) : errW (some c) = .iface 0 (.int .i64 c) := rfl

theorem info3 : (Try.prog.info? 3).map (fun i => (i.zero, i.size, i.bytes)) = some (some (.int .i64 0), 1, 8) := by kernel_rfl
theorem info43 : (Try.prog.info? 43).map (fun i => (i.zero, i.size, i.bytes)) = some (some (.agg #[(.int .i64 0), (.slice none 0 0), (.slice none 0 0)]), 3, 56) := by kernel_rfl
theorem info47 : (Try.prog.info? 47).map (fun i => (i.zero, i.size, i.bytes)) = some (some (.agg #[(.int .i64 0), (.int .i64 0), (.int .i64 0), (.slice none 0 0), (.int .i64 0), (.int .i64 0), (.int .i64 0), (.slice none 0 0)]), 8, 96) := by kernel_rfl
theorem info49 : (Try.prog.info? 49).map (fun i => (i.zero, i.size, i.bytes)) = some (some (.agg #[(.int .i64 0), (.int .i64 0)]), 2, 16) := by kernel_rfl
theorem info65 : (Try.prog.info? 65).map (fun i => (i.zero, i.size, i.bytes)) = some (some (.agg #[(.int .i64 0), (.int .i64 0), (.slice none 0 0)]), 3, 40) := by kernel_rfl
-- the values' own types
/-! #### struct type 49 -/
structure S49 where
  f0 : Int
  f1 : Int
def z49 : S49 := ⟨(0 : Int), (0 : Int)⟩
def k49 : Kd S49 := Kd.iso (Kd.pair (Kd.int .i64) (Kd.int .i64)) (fun x : S49 => (x.f0, x.f1))
theorem k49_open {w : World} {x : S49} {cs : List Value} (h : k49.K w x cs) : cs = [.int .i64 x.f0, .int .i64 x.f1] := by
  obtain ⟨_, _, rfl, rfl, rfl⟩ := h
  exact rfl
theorem k49_mk (w : World) (x : S49)  : k49.K w x [.int .i64 x.f0, .int .i64 x.f1] := ⟨[.int .i64 x.f0], [.int .i64 x.f1], rfl, rfl, rfl⟩
theorem k49_mkM (w : World) (base : Nat) (ok : Nat → Prop) (x : S49)  : k49.M w base ok x [.int .i64 x.f0, .int .i64 x.f1] := ⟨[.int .i64 x.f0], [.int .i64 x.f1], rfl, rfl, rfl⟩
def rd_T49 (xs : List S49) (i : Int) : S49 := xs.getD i.toNat z49
theorem at_T49 {w : World} {A : Option Addr} {n : Nat} {xs : List S49} (h : Kd.C k49 w A n xs) (i : Int) (h0 : 0 ≤ i) (h1 : i < n) : ∃ ad , A = some ad ∧ w.cell? (ad.add (i.toNat * 2)) = some (.int .i64 (rd_T49 xs i).f0) ∧ w.cell? ⟨(ad.add (i.toNat * 2)).block, (ad.add (i.toNat * 2)).off + 1, none⟩ = some (.int .i64 (rd_T49 xs i).f1) := by
  obtain ⟨ad, c, e, _, hK, hc0⟩ := Kd.C_get h z49 i h0 h1
  have hc : ∀ j u, c[j]? = some u → w.cell? (ad.add (i.toNat * 2 + j)) = some u := hc0
  obtain rfl := k49_open hK
  exact ⟨ad, e, hc 0 _ rfl, by rw [← add_field _ _ 1 (by omega)]; exact hc 1 _ rfl⟩

def rd_L2 (xs : List (List S49)) (i : Int) : (List S49) := xs.getD i.toNat ([] : List S49)
theorem at_L2 {w : World} {A : Option Addr} {n : Nat} {xs : List (List S49)} (h : Kd.C (Kd.slice 49 k49) w A n xs) (i : Int) (h0 : 0 ≤ i) (h1 : i < n) : ∃ ad A0 c0, A = some ad ∧ w.cell? (ad.add i.toNat) = some (.slice A0 (rd_L2 xs i).length c0) ∧ (rd_L2 xs i).length ≤ c0 ∧ k49.C w A0 (rd_L2 xs i).length (rd_L2 xs i) := by
  obtain ⟨ad, c, e, _, hK, hc0⟩ := Kd.C_get h ([] : List S49) i h0 h1
  have hc : ∀ j u, c[j]? = some u → w.cell? (ad.add (i.toNat * 1 + j)) = some u := hc0
  obtain ⟨A0, c0, rfl, l0, g0⟩ := hK
  exact ⟨ad, A0, c0, e, by have hq := hc 0 _ rfl; rwa [Nat.mul_one, Nat.add_zero] at hq, l0, g0⟩

/-! #### struct type 65 -/
structure S65 where
  f0 : Int
  f1 : Int
  f2 : (List S49)
def z65 : S65 := ⟨(0 : Int), (0 : Int), ([] : List S49)⟩
def k65 : Kd S65 := Kd.iso (Kd.pair (Kd.int .i64) (Kd.pair (Kd.int .i64) (Kd.slice 49 k49))) (fun x : S65 => (x.f0, x.f1, x.f2))
theorem k65_open {w : World} {x : S65} {cs : List Value} (h : k65.K w x cs) : ∃ A2 c2, cs = [.int .i64 x.f0, .int .i64 x.f1, .slice A2 x.f2.length c2] ∧ x.f2.length ≤ c2 ∧ k49.C w A2 x.f2.length x.f2 := by
  obtain ⟨_, _, rfl, rfl, ⟨_, _, rfl, rfl, ⟨A2, c2, rfl, l2, g2⟩⟩⟩ := h
  exact ⟨A2, c2, rfl, l2, g2⟩
theorem k65_openM {w : World} {base : Nat} {ok : Nat → Prop} {x : S65} {cs : List Value} (h : k65.M w base ok x cs) : ∃ v2, cs = [.int .i64 x.f0, .int .i64 x.f1, v2] ∧ k49.R 49 w base ok v2 x.f2 := by
  obtain ⟨_, _, rfl, rfl, ⟨_, _, rfl, rfl, ⟨v2, rfl, g2⟩⟩⟩ := h
  exact ⟨v2, rfl, g2⟩
theorem k65_mkM (w : World) (base : Nat) (ok : Nat → Prop) (x : S65) {v2 : Value} (g2 : k49.R 49 w base ok v2 x.f2) : k65.M w base ok x [.int .i64 x.f0, .int .i64 x.f1, v2] := ⟨[.int .i64 x.f0], [.int .i64 x.f1, v2], rfl, rfl, ⟨[.int .i64 x.f1], [v2], rfl, rfl, ⟨v2, rfl, g2⟩⟩⟩
def rd_T65 (xs : List S65) (i : Int) : S65 := xs.getD i.toNat z65
theorem at_T65 {w : World} {A : Option Addr} {n : Nat} {xs : List S65} (h : Kd.C k65 w A n xs) (i : Int) (h0 : 0 ≤ i) (h1 : i < n) : ∃ ad A2 c2, A = some ad ∧ w.cell? (ad.add (i.toNat * 3)) = some (.int .i64 (rd_T65 xs i).f0) ∧ w.cell? ⟨(ad.add (i.toNat * 3)).block, (ad.add (i.toNat * 3)).off + 1, none⟩ = some (.int .i64 (rd_T65 xs i).f1) ∧ w.cell? ⟨(ad.add (i.toNat * 3)).block, (ad.add (i.toNat * 3)).off + 2, none⟩ = some (.slice A2 (rd_T65 xs i).f2.length c2) ∧ (rd_T65 xs i).f2.length ≤ c2 ∧ k49.C w A2 (rd_T65 xs i).f2.length (rd_T65 xs i).f2 := by
  obtain ⟨ad, c, e, _, hK, hc0⟩ := Kd.C_get h z65 i h0 h1
  have hc : ∀ j u, c[j]? = some u → w.cell? (ad.add (i.toNat * 3 + j)) = some u := hc0
  obtain ⟨A2, c2, rfl, l2, g2⟩ := k65_open hK
  exact ⟨ad, A2, c2, e, hc 0 _ rfl, by rw [← add_field _ _ 1 (by omega)]; exact hc 1 _ rfl, by rw [← add_field _ _ 2 (by omega)]; exact hc 2 _ rfl, l2, g2⟩

def rd_L4 (xs : List (List S65)) (i : Int) : (List S65) := xs.getD i.toNat ([] : List S65)
theorem at_L4 {w : World} {A : Option Addr} {n : Nat} {xs : List (List S65)} (h : Kd.C (Kd.slice 65 k65) w A n xs) (i : Int) (h0 : 0 ≤ i) (h1 : i < n) : ∃ ad A0 c0, A = some ad ∧ w.cell? (ad.add i.toNat) = some (.slice A0 (rd_L4 xs i).length c0) ∧ (rd_L4 xs i).length ≤ c0 ∧ k65.C w A0 (rd_L4 xs i).length (rd_L4 xs i) := by
  obtain ⟨ad, c, e, _, hK, hc0⟩ := Kd.C_get h ([] : List S65) i h0 h1
  have hc : ∀ j u, c[j]? = some u → w.cell? (ad.add (i.toNat * 1 + j)) = some u := hc0
  obtain ⟨A0, c0, rfl, l0, g0⟩ := hK
  exact ⟨ad, A0, c0, e, by have hq := hc 0 _ rfl; rwa [Nat.mul_one, Nat.add_zero] at hq, l0, g0⟩

/-! #### struct type 47 -/
structure S47 where
  f0 : Int
  f1 : Int
  f2 : Int
  f3 : (List S49)
  f4 : Int
  f5 : Int
  f6 : Int
  f7 : (List S65)
def z47 : S47 := ⟨(0 : Int), (0 : Int), (0 : Int), ([] : List S49), (0 : Int), (0 : Int), (0 : Int), ([] : List S65)⟩
def k47 : Kd S47 := Kd.iso (Kd.pair (Kd.int .i64) (Kd.pair (Kd.int .i64) (Kd.pair (Kd.int .i64) (Kd.pair (Kd.slice 49 k49) (Kd.pair (Kd.int .i64) (Kd.pair (Kd.int .i64) (Kd.pair (Kd.int .i64) (Kd.slice 65 k65)))))))) (fun x : S47 => (x.f0, x.f1, x.f2, x.f3, x.f4, x.f5, x.f6, x.f7))
theorem k47_open {w : World} {x : S47} {cs : List Value} (h : k47.K w x cs) : ∃ A3 c3 A7 c7, cs = [.int .i64 x.f0, .int .i64 x.f1, .int .i64 x.f2, .slice A3 x.f3.length c3, .int .i64 x.f4, .int .i64 x.f5, .int .i64 x.f6, .slice A7 x.f7.length c7] ∧ x.f3.length ≤ c3 ∧ k49.C w A3 x.f3.length x.f3 ∧ x.f7.length ≤ c7 ∧ k65.C w A7 x.f7.length x.f7 := by
  obtain ⟨_, _, rfl, rfl, ⟨_, _, rfl, rfl, ⟨_, _, rfl, rfl, ⟨_, _, rfl, ⟨A3, c3, rfl, l3, g3⟩, ⟨_, _, rfl, rfl, ⟨_, _, rfl, rfl, ⟨_, _, rfl, rfl, ⟨A7, c7, rfl, l7, g7⟩⟩⟩⟩⟩⟩⟩⟩ := h
  exact ⟨A3, c3, A7, c7, rfl, l3, g3, l7, g7⟩
theorem k47_openM {w : World} {base : Nat} {ok : Nat → Prop} {x : S47} {cs : List Value} (h : k47.M w base ok x cs) : ∃ v3 v7, cs = [.int .i64 x.f0, .int .i64 x.f1, .int .i64 x.f2, v3, .int .i64 x.f4, .int .i64 x.f5, .int .i64 x.f6, v7] ∧ k49.R 49 w base ok v3 x.f3 ∧ k65.R 65 w base ok v7 x.f7 := by
  obtain ⟨_, _, rfl, rfl, ⟨_, _, rfl, rfl, ⟨_, _, rfl, rfl, ⟨_, _, rfl, ⟨v3, rfl, g3⟩, ⟨_, _, rfl, rfl, ⟨_, _, rfl, rfl, ⟨_, _, rfl, rfl, ⟨v7, rfl, g7⟩⟩⟩⟩⟩⟩⟩⟩ := h
  exact ⟨v3, v7, rfl, g3, g7⟩
theorem k47_mk (w : World) (x : S47) {A3 : Option Addr} {c3 : Nat} (l3 : x.f3.length ≤ c3) (g3 : k49.C w A3 x.f3.length x.f3) {A7 : Option Addr} {c7 : Nat} (l7 : x.f7.length ≤ c7) (g7 : k65.C w A7 x.f7.length x.f7) : k47.K w x [.int .i64 x.f0, .int .i64 x.f1, .int .i64 x.f2, .slice A3 x.f3.length c3, .int .i64 x.f4, .int .i64 x.f5, .int .i64 x.f6, .slice A7 x.f7.length c7] := ⟨[.int .i64 x.f0], [.int .i64 x.f1, .int .i64 x.f2, .slice A3 x.f3.length c3, .int .i64 x.f4, .int .i64 x.f5, .int .i64 x.f6, .slice A7 x.f7.length c7], rfl, rfl, ⟨[.int .i64 x.f1], [.int .i64 x.f2, .slice A3 x.f3.length c3, .int .i64 x.f4, .int .i64 x.f5, .int .i64 x.f6, .slice A7 x.f7.length c7], rfl, rfl, ⟨[.int .i64 x.f2], [.slice A3 x.f3.length c3, .int .i64 x.f4, .int .i64 x.f5, .int .i64 x.f6, .slice A7 x.f7.length c7], rfl, rfl, ⟨[.slice A3 x.f3.length c3], [.int .i64 x.f4, .int .i64 x.f5, .int .i64 x.f6, .slice A7 x.f7.length c7], rfl, ⟨A3, c3, rfl, l3, g3⟩, ⟨[.int .i64 x.f4], [.int .i64 x.f5, .int .i64 x.f6, .slice A7 x.f7.length c7], rfl, rfl, ⟨[.int .i64 x.f5], [.int .i64 x.f6, .slice A7 x.f7.length c7], rfl, rfl, ⟨[.int .i64 x.f6], [.slice A7 x.f7.length c7], rfl, rfl, ⟨A7, c7, rfl, l7, g7⟩⟩⟩⟩⟩⟩⟩⟩
theorem k47_mkM (w : World) (base : Nat) (ok : Nat → Prop) (x : S47) {v3 : Value} (g3 : k49.R 49 w base ok v3 x.f3) {v7 : Value} (g7 : k65.R 65 w base ok v7 x.f7) : k47.M w base ok x [.int .i64 x.f0, .int .i64 x.f1, .int .i64 x.f2, v3, .int .i64 x.f4, .int .i64 x.f5, .int .i64 x.f6, v7] := ⟨[.int .i64 x.f0], [.int .i64 x.f1, .int .i64 x.f2, v3, .int .i64 x.f4, .int .i64 x.f5, .int .i64 x.f6, v7], rfl, rfl, ⟨[.int .i64 x.f1], [.int .i64 x.f2, v3, .int .i64 x.f4, .int .i64 x.f5, .int .i64 x.f6, v7], rfl, rfl, ⟨[.int .i64 x.f2], [v3, .int .i64 x.f4, .int .i64 x.f5, .int .i64 x.f6, v7], rfl, rfl, ⟨[v3], [.int .i64 x.f4, .int .i64 x.f5, .int .i64 x.f6, v7], rfl, ⟨v3, rfl, g3⟩, ⟨[.int .i64 x.f4], [.int .i64 x.f5, .int .i64 x.f6, v7], rfl, rfl, ⟨[.int .i64 x.f5], [.int .i64 x.f6, v7], rfl, rfl, ⟨[.int .i64 x.f6], [v7], rfl, rfl, ⟨v7, rfl, g7⟩⟩⟩⟩⟩⟩⟩⟩
def rd_T47 (xs : List S47) (i : Int) : S47 := xs.getD i.toNat z47
theorem at_T47 {w : World} {A : Option Addr} {n : Nat} {xs : List S47} (h : Kd.C k47 w A n xs) (i : Int) (h0 : 0 ≤ i) (h1 : i < n) : ∃ ad A3 c3 A7 c7, A = some ad ∧ w.cell? (ad.add (i.toNat * 8)) = some (.int .i64 (rd_T47 xs i).f0) ∧ w.cell? ⟨(ad.add (i.toNat * 8)).block, (ad.add (i.toNat * 8)).off + 1, none⟩ = some (.int .i64 (rd_T47 xs i).f1) ∧ w.cell? ⟨(ad.add (i.toNat * 8)).block, (ad.add (i.toNat * 8)).off + 2, none⟩ = some (.int .i64 (rd_T47 xs i).f2) ∧ w.cell? ⟨(ad.add (i.toNat * 8)).block, (ad.add (i.toNat * 8)).off + 3, none⟩ = some (.slice A3 (rd_T47 xs i).f3.length c3) ∧ w.cell? ⟨(ad.add (i.toNat * 8)).block, (ad.add (i.toNat * 8)).off + 4, none⟩ = some (.int .i64 (rd_T47 xs i).f4) ∧ w.cell? ⟨(ad.add (i.toNat * 8)).block, (ad.add (i.toNat * 8)).off + 5, none⟩ = some (.int .i64 (rd_T47 xs i).f5) ∧ w.cell? ⟨(ad.add (i.toNat * 8)).block, (ad.add (i.toNat * 8)).off + 6, none⟩ = some (.int .i64 (rd_T47 xs i).f6) ∧ w.cell? ⟨(ad.add (i.toNat * 8)).block, (ad.add (i.toNat * 8)).off + 7, none⟩ = some (.slice A7 (rd_T47 xs i).f7.length c7) ∧ (rd_T47 xs i).f3.length ≤ c3 ∧ k49.C w A3 (rd_T47 xs i).f3.length (rd_T47 xs i).f3 ∧ (rd_T47 xs i).f7.length ≤ c7 ∧ k65.C w A7 (rd_T47 xs i).f7.length (rd_T47 xs i).f7 := by
  obtain ⟨ad, c, e, _, hK, hc0⟩ := Kd.C_get h z47 i h0 h1
  have hc : ∀ j u, c[j]? = some u → w.cell? (ad.add (i.toNat * 8 + j)) = some u := hc0
  obtain ⟨A3, c3, A7, c7, rfl, l3, g3, l7, g7⟩ := k47_open hK
  exact ⟨ad, A3, c3, A7, c7, e, hc 0 _ rfl, by rw [← add_field _ _ 1 (by omega)]; exact hc 1 _ rfl, by rw [← add_field _ _ 2 (by omega)]; exact hc 2 _ rfl, by rw [← add_field _ _ 3 (by omega)]; exact hc 3 _ rfl, by rw [← add_field _ _ 4 (by omega)]; exact hc 4 _ rfl, by rw [← add_field _ _ 5 (by omega)]; exact hc 5 _ rfl, by rw [← add_field _ _ 6 (by omega)]; exact hc 6 _ rfl, by rw [← add_field _ _ 7 (by omega)]; exact hc 7 _ rfl, l3, g3, l7, g7⟩

def rd_L6 (xs : List (List S47)) (i : Int) : (List S47) := xs.getD i.toNat ([] : List S47)
theorem at_L6 {w : World} {A : Option Addr} {n : Nat} {xs : List (List S47)} (h : Kd.C (Kd.slice 47 k47) w A n xs) (i : Int) (h0 : 0 ≤ i) (h1 : i < n) : ∃ ad A0 c0, A = some ad ∧ w.cell? (ad.add i.toNat) = some (.slice A0 (rd_L6 xs i).length c0) ∧ (rd_L6 xs i).length ≤ c0 ∧ k47.C w A0 (rd_L6 xs i).length (rd_L6 xs i) := by
  obtain ⟨ad, c, e, _, hK, hc0⟩ := Kd.C_get h ([] : List S47) i h0 h1
  have hc : ∀ j u, c[j]? = some u → w.cell? (ad.add (i.toNat * 1 + j)) = some u := hc0
  obtain ⟨A0, c0, rfl, l0, g0⟩ := hK
  exact ⟨ad, A0, c0, e, by have hq := hc 0 _ rfl; rwa [Nat.mul_one, Nat.add_zero] at hq, l0, g0⟩

def rd_L7 (xs : List (List Int)) (i : Int) : (List Int) := xs.getD i.toNat ([] : List Int)
theorem at_L7 {w : World} {A : Option Addr} {n : Nat} {xs : List (List Int)} (h : Kd.C (Kd.slice 3 (Kd.int .i64)) w A n xs) (i : Int) (h0 : 0 ≤ i) (h1 : i < n) : ∃ ad A0 c0, A = some ad ∧ w.cell? (ad.add i.toNat) = some (.slice A0 (rd_L7 xs i).length c0) ∧ (rd_L7 xs i).length ≤ c0 ∧ (Kd.int .i64).C w A0 (rd_L7 xs i).length (rd_L7 xs i) := by
  obtain ⟨ad, c, e, _, hK, hc0⟩ := Kd.C_get h ([] : List Int) i h0 h1
  have hc : ∀ j u, c[j]? = some u → w.cell? (ad.add (i.toNat * 1 + j)) = some u := hc0
  obtain ⟨A0, c0, rfl, l0, g0⟩ := hK
  exact ⟨ad, A0, c0, e, by have hq := hc 0 _ rfl; rwa [Nat.mul_one, Nat.add_zero] at hq, l0, g0⟩

/-! #### struct type 43 -/
structure S43 where
  f0 : Int
  f1 : (List S47)
  f2 : (List Int)
def z43 : S43 := ⟨(0 : Int), ([] : List S47), ([] : List Int)⟩
def k43 : Kd S43 := Kd.iso (Kd.pair (Kd.int .i64) (Kd.pair (Kd.slice 47 k47) (Kd.slice 3 (Kd.int .i64)))) (fun x : S43 => (x.f0, x.f1, x.f2))
theorem k43_open {w : World} {x : S43} {cs : List Value} (h : k43.K w x cs) : ∃ A1 c1 A2 c2, cs = [.int .i64 x.f0, .slice A1 x.f1.length c1, .slice A2 x.f2.length c2] ∧ x.f1.length ≤ c1 ∧ k47.C w A1 x.f1.length x.f1 ∧ x.f2.length ≤ c2 ∧ (Kd.int .i64).C w A2 x.f2.length x.f2 := by
  obtain ⟨_, _, rfl, rfl, ⟨_, _, rfl, ⟨A1, c1, rfl, l1, g1⟩, ⟨A2, c2, rfl, l2, g2⟩⟩⟩ := h
  exact ⟨A1, c1, A2, c2, rfl, l1, g1, l2, g2⟩
theorem k43_openM {w : World} {base : Nat} {ok : Nat → Prop} {x : S43} {cs : List Value} (h : k43.M w base ok x cs) : ∃ v1 v2, cs = [.int .i64 x.f0, v1, v2] ∧ k47.R 47 w base ok v1 x.f1 ∧ (Kd.int .i64).R 3 w base ok v2 x.f2 := by
  obtain ⟨_, _, rfl, rfl, ⟨_, _, rfl, ⟨v1, rfl, g1⟩, ⟨v2, rfl, g2⟩⟩⟩ := h
  exact ⟨v1, v2, rfl, g1, g2⟩
theorem k43_mk (w : World) (x : S43) {A1 : Option Addr} {c1 : Nat} (l1 : x.f1.length ≤ c1) (g1 : k47.C w A1 x.f1.length x.f1) {A2 : Option Addr} {c2 : Nat} (l2 : x.f2.length ≤ c2) (g2 : (Kd.int .i64).C w A2 x.f2.length x.f2) : k43.K w x [.int .i64 x.f0, .slice A1 x.f1.length c1, .slice A2 x.f2.length c2] := ⟨[.int .i64 x.f0], [.slice A1 x.f1.length c1, .slice A2 x.f2.length c2], rfl, rfl, ⟨[.slice A1 x.f1.length c1], [.slice A2 x.f2.length c2], rfl, ⟨A1, c1, rfl, l1, g1⟩, ⟨A2, c2, rfl, l2, g2⟩⟩⟩
theorem k43_mkM (w : World) (base : Nat) (ok : Nat → Prop) (x : S43) {v1 : Value} (g1 : k47.R 47 w base ok v1 x.f1) {v2 : Value} (g2 : (Kd.int .i64).R 3 w base ok v2 x.f2) : k43.M w base ok x [.int .i64 x.f0, v1, v2] := ⟨[.int .i64 x.f0], [v1, v2], rfl, rfl, ⟨[v1], [v2], rfl, ⟨v1, rfl, g1⟩, ⟨v2, rfl, g2⟩⟩⟩
def rd_T43 (xs : List S43) (i : Int) : S43 := xs.getD i.toNat z43
theorem at_T43 {w : World} {A : Option Addr} {n : Nat} {xs : List S43} (h : Kd.C k43 w A n xs) (i : Int) (h0 : 0 ≤ i) (h1 : i < n) : ∃ ad A1 c1 A2 c2, A = some ad ∧ w.cell? (ad.add (i.toNat * 3)) = some (.int .i64 (rd_T43 xs i).f0) ∧ w.cell? ⟨(ad.add (i.toNat * 3)).block, (ad.add (i.toNat * 3)).off + 1, none⟩ = some (.slice A1 (rd_T43 xs i).f1.length c1) ∧ w.cell? ⟨(ad.add (i.toNat * 3)).block, (ad.add (i.toNat * 3)).off + 2, none⟩ = some (.slice A2 (rd_T43 xs i).f2.length c2) ∧ (rd_T43 xs i).f1.length ≤ c1 ∧ k47.C w A1 (rd_T43 xs i).f1.length (rd_T43 xs i).f1 ∧ (rd_T43 xs i).f2.length ≤ c2 ∧ (Kd.int .i64).C w A2 (rd_T43 xs i).f2.length (rd_T43 xs i).f2 := by
  obtain ⟨ad, c, e, _, hK, hc0⟩ := Kd.C_get h z43 i h0 h1
  have hc : ∀ j u, c[j]? = some u → w.cell? (ad.add (i.toNat * 3 + j)) = some u := hc0
  obtain ⟨A1, c1, A2, c2, rfl, l1, g1, l2, g2⟩ := k43_open hK
  exact ⟨ad, A1, c1, A2, c2, e, hc 0 _ rfl, by rw [← add_field _ _ 1 (by omega)]; exact hc 1 _ rfl, by rw [← add_field _ _ 2 (by omega)]; exact hc 2 _ rfl, l1, g1, l2, g2⟩

def rd_L9 (xs : List (List S43)) (i : Int) : (List S43) := xs.getD i.toNat ([] : List S43)
/-! #### struct type 24 -/
structure S24 where
  f0 : Int
  f1 : Int
  f2 : (List S43)
def z24 : S24 := ⟨(0 : Int), (0 : Int), ([] : List S43)⟩
def k24 : Kd S24 := Kd.iso (Kd.pair (Kd.int .i64) (Kd.pair (Kd.int .i64) (Kd.slice 43 k43))) (fun x : S24 => (x.f0, x.f1, x.f2))
def rd_T24 (xs : List S24) (i : Int) : S24 := xs.getD i.toNat z24
end Go.Proofs.Ytjekpkpmoanadaa.PCop
/- The map of copies.Run, for what a register is known as9: what is read of it, forgotten, put. The contracts of ask and written. For every world. -/
namespace Go.Proofs.Ytjekpkpmoanadaa.PCop
open Go.RowKit Go.Proofs.Ytjekpkpmoanadaa.Lit Go.Proofs.Ytjekpkpmoanadaa.OwnCells Go.Proofs.YtjekpkpmoanadaaW.PrintWords Go.Proofs.YtjekpkpmoanadaaW.PrintLast Go.Proofs.YtjekpkpmoanadaaW.PrintMore
open Go.Maps
set_option linter.unusedVariables false
set_option linter.unusedSimpArgs false
def enc49 (o : S49) : DataW Unit := .agg [.lit (.int .i64 o.f0), .lit (.int .i64 o.f1)]
theorem enc49_inj {a b : S49} (h : enc49 a = enc49 b) : a = b := by
  cases a; cases b
  simp [enc49] at h
  obtain ⟨rfl, rfl⟩ := h
  rfl
def v49 (o : S49) : Value := .agg #[.int .i64 o.f0, .int .i64 o.f1]
def ropnd : Value → Option (DataW Unit × List MemPlace)
  | .agg cs => match cs.toList with
    | [.int .i64 a, .int .i64 b] => some (.agg [.lit (.int .i64 a), .lit (.int .i64 b)], [])
    | _ => none
  | _ => none
theorem ropnd_mk (o : S49) : ropnd (v49 o) = some (enc49 o, []) := rfl
theorem ropnd_inv {v : Value} {z : DataW Unit × List MemPlace} (h : ropnd v = some z) : ∃ o : S49, v = v49 o ∧ z = (enc49 o, []) := by
  unfold ropnd at h
  split at h
  · rename_i cs
    split at h
    · rename_i a b hc
      cases h
      refine ⟨⟨a, b⟩, ?_, rfl⟩
      show Value.agg cs = Value.agg #[.int .i64 a, .int .i64 b]
      rw [← hc]
    · cases h
  · cases h
theorem law2 : Keyed Try.prog 2 := int_keyed Try.underlying2
theorem zero49 (w : World) : (zeroValue 49).run Try.prog w = .ok (v49 z49) w := by kernel_rfl
def WF (a : Int) : Prop := (Lit.int .i64 a).wf = true
abbrev Map49 := Int → Option S49
/-- the data of the map are those of M -/
def Agrees (D : DataW Unit) (M : Map49) : Prop := ∀ a, WF a → match M a with
  | none => Maps.has D (.int .i64 a) = false
  | some o => Maps.has D (.int .i64 a) = true ∧ ∀ z, D.atKey (.int .i64 a) z = enc49 o
theorem Agrees.none_ {D : DataW Unit} {M : Map49} (h : Agrees D M) {a : Int} (ha : WF a) (hm : M a = none) : Maps.has D (.int .i64 a) = false := by
  have := h a ha; rw [hm] at this; exact this
theorem Agrees.some_ {D : DataW Unit} {M : Map49} (h : Agrees D M) {a : Int} (ha : WF a) {o : S49} (hm : M a = some o) : Maps.has D (.int .i64 a) = true ∧ ∀ z, D.atKey (.int .i64 a) z = enc49 o := by
  have := h a ha; rw [hm] at this; exact this
theorem Agrees.mk' {D : DataW Unit} {M : Map49} (h : ∀ a, WF a → (M a = none → Maps.has D (.int .i64 a) = false) ∧ ∀ o, M a = some o → Maps.has D (.int .i64 a) = true ∧ ∀ z, D.atKey (.int .i64 a) z = enc49 o) : Agrees D M := fun a ha => by
  have := h a ha
  cases hm : M a with
  | none => exact this.1 hm
  | some o => exact this.2 o hm
def Book (w : World) (B n : Nat) (M : Map49) : Prop := ∃ D, w.ownsMap Try.prog 2 ropnd B n D ∧ Agrees D M
theorem Book.kept {w w' : World} {B n : Nat} {M : Map49} (h : Book w B n M) {row : Option Nat} (hg : w.grownBy w' row) (hne : some B ≠ row) : Book w' B n M := let ⟨D, h1, h2⟩ := h; ⟨D, h1.kept hg hne, h2⟩
theorem Book.below {w w' : World} {B n : Nat} {M : Map49} (h : Book w B n M) (hb : Below w.heap.size w w') : Book w' B n M := h.kept (row := none) ⟨hb.os, hb.tape, hb.output, hb.size, fun i hi _ => hb.block i hi⟩ (by simp)
def noMap : Map49 := fun _ => none
theorem Book.made {w : World} : Book (w.alloc (.map #[] 0)) w.heap.size 0 noMap := ⟨_, World.ownsMap_made w _ _ _, fun a _ => rfl⟩
/-- what is asked of an operand -/
def ask (M : Map49) (o : S49) : S49 := if o.f0 = 0 then (M o.f1).getD o else o
theorem wpList_lookup_opnd {P : Program} (hP : P = Try.prog) (w : World) {ops : Array Oper} {rest : List Oper} {o : Oper} {a : Act} {Q : Exit → Act → World → Prop}
    (hg : o.guard = none) (m x : Operand) (hop : o.op = Op.lookup 59 m x true) (B n : Nat) (M : Map49) (hm : a.eval m = .map (some B)) (hbk : Book w B n M) (r : Int) (hx : a.eval x = .int .i64 r) (hr : WF r)
    (hK : ∀ c d, (∀ o', M r = some o' → c = o'.f0 ∧ d = o'.f1) → wpList P ops Q rest (a.put o.dst (.tuple #[.agg #[.int .i64 c, .int .i64 d], .bool (M r).isSome])) w) :
    wpList P ops Q (o :: rest) a w := by
  subst hP
  obtain ⟨D, hown, hag⟩ := hbk
  refine wpList_lookup_own_ok w hg m x 59 hop 2 49 law2 Try.underlying59 ropnd (zero49 w) (enc49 z49) [] (ropnd_mk _) B n D hm hown _ _ hx (keyOf_int_mk Try.underlying2 hr) ?_
  intro v ps hv
  obtain ⟨o', rfl, hz⟩ := ropnd_inv hv
  have hz1 : D.atKey (.int .i64 r) (enc49 z49) = enc49 o' := congrArg Prod.fst hz
  have he : Maps.has D (.int .i64 r) = (M r).isSome := by
    cases hm : M r with
    | none => exact hag.none_ hr hm
    | some o2 => exact (hag.some_ hr hm).1
  rw [he]
  refine hK o'.f0 o'.f1 (fun o2 hm => ?_)
  have := (hag.some_ hr hm).2 (enc49 z49)
  rw [hz1] at this
  rw [enc49_inj this]
  exact ⟨rfl, rfl⟩
set_option maxHeartbeats 1000000 in
set_option maxRecDepth 100000 in
theorem ask_calls (B n : Nat) (M : Map49) (o : S49) (w : World) (hbk : Book w B n M) (ho : WF o.f1) :
    Calls Try.prog 55 #[.map (some B), .agg #[.int .i64 o.f0, .int .i64 o.f1]] w fun e w' => e = .returned (.agg #[.int .i64 (ask M o).f0, .int .i64 (ask M o).f1]) ∧ Below w.heap.size w w' := by
  obtain ⟨p, q⟩ := o
  replace ho : WF q := ho
  show Calls Try.prog 55 #[.map (some B), .agg #[.int .i64 p, .int .i64 q]] w _
  by_cases h0 : p = 0
  · subst h0
    have hbk1 : Book ((w.alloc (.cells #[.int .i64 0, .int .i64 q] 49)).alloc (.cells #[.int .i64 0, .int .i64 0] 49)) B n M := hbk.below (e4 w _ _)
    have HBK := Aside0.mk hbk1
    have HO := Aside0.mk ho
    clear hbk hbk1 ho
    cases hm : M q with
    | none =>
      have ha : ask M ⟨0, q⟩ = ⟨0, q⟩ := by simp [ask, hm]
      rw [ha]
      have HM := Aside0.mk hm
      clear hm ha
      go_enter Try.func55, Try.ntmps55
      go_wp2_with (first | (at_lookup; refine wpList_lookup_opnd rfl _ rfl _ _ rfl B n M rfl HBK.out _ rfl HO.out ?_; intro c d hcd; rw [HM.out]; clear hcd) | go_in)
      refine bodyPost_ret (by simp [results, Try.results55, go_sem]; try rfl) rfl ?_
      exact ⟨rfl, below_alloc (e4 w _ _) _⟩
    | some o' =>
      have ha : ask M ⟨0, q⟩ = o' := by simp [ask, hm]
      rw [ha]
      have HM := Aside0.mk hm
      clear hm ha
      go_enter Try.func55, Try.ntmps55
      go_wp2_with (first | (at_lookup; refine wpList_lookup_opnd rfl _ rfl _ _ rfl B n M rfl HBK.out _ rfl HO.out ?_; intro c d hcd; obtain ⟨e1, e2⟩ := hcd _ HM.out; subst e1; subst e2; rw [HM.out]; clear hcd) | go_in)
      refine bodyPost_ret (by simp [results, Try.results55, go_sem]; try rfl) rfl ?_
      exact ⟨rfl, below_alloc (e4 w _ _) _⟩
  · have ha : ask M ⟨p, q⟩ = ⟨p, q⟩ := by simp [ask, h0]
    rw [ha]
    have c0 : (p == 0) = false := beq_eq_false_iff_ne.mpr h0
    clear ha hbk ho
    go_enter Try.func55, Try.ntmps55
    go_wp2
    refine bodyPost_ret (by simp [results, Try.results55, go_sem]; try rfl) rfl ?_
    exact ⟨rfl, e4 w _ _⟩
/-- a register is forgotten, and what was a copy of it -/
def writ (M : Map49) (r : Int) : Map49 := fun a => if a = r then none else match M a with
  | none => none
  | some o => if o.f0 = 0 ∧ o.f1 = r then none else some o
def sweep (M : Map49) (r : Int) (left : Lit → Bool) : Map49 := fun a => if a = r then none else match M a with
  | none => none
  | some o => if o.f0 = 0 ∧ o.f1 = r ∧ left (.int .i64 a) = false then none else some o
theorem isKey_int (a : Int) : WideAt.IsKeyLit (.int .i64 a) := by trivial
theorem sameKey_int (a b : Int) : (Lit.int .i64 a).sameKey (.int .i64 b) = decide (a = b) := by
  by_cases h : a = b
  · subst h; simp [WideAt.sameKey_self (isKey_int a)]
  · rw [sameKey_ne (fun e => h (by injection e))]; simp [h]
theorem sweep_start {D : DataW Unit} {M : Map49} {r : Int} (h : Agrees D M) : Agrees (D.del (.int .i64 r)) (sweep M r (Maps.has (D.del (.int .i64 r)))) := by
  refine Agrees.mk' fun a ha => ?_
  by_cases har : a = r
  · subst har
    simp only [sweep, has_del_same, if_true]
    exact ⟨fun _ => trivial, fun o ho => by cases ho⟩
  · have hne : Lit.int .i64 a ≠ .int .i64 r := fun e => har (by injection e)
    rw [has_del_other hne]
    unfold sweep
    rw [if_neg har]
    cases hm : M a with
    | none => exact ⟨fun _ => h.none_ ha hm, fun o ho => by cases ho⟩
    | some o =>
      have h1 := h.some_ ha hm
      simp only [has_del_other hne, h1.1, Bool.true_eq_false, and_false, if_false]
      refine ⟨fun hc => (by cases hc), fun o2 ho => ?_⟩
      cases ho
      exact ⟨trivial, fun z => by rw [atKey_del_other hne]; exact h1.2 z⟩
theorem sweep_keep {D : DataW Unit} {M : Map49} {r x : Int} {left : Lit → Bool} (h : Agrees D (sweep M r left)) (hx : ∀ o, M x = some o → ¬ (o.f0 = 0 ∧ o.f1 = r)) : Agrees D (sweep M r (fun z => left z && !z.sameKey (.int .i64 x))) := by
  have e : sweep M r (fun z => left z && !z.sameKey (.int .i64 x)) = sweep M r left := by
    funext a
    unfold sweep
    by_cases hax : a = x
    · subst hax
      cases hm : M a with
      | none => rfl
      | some o =>
        have := hx o hm
        by_cases h1 : o.f0 = 0 <;> simp_all
    · simp [sameKey_int, hax]
  rw [e]; exact h
theorem sweep_strike {D : DataW Unit} {M : Map49} {r x : Int} {left : Lit → Bool} (h : Agrees D (sweep M r left)) {o : S49} (hm : M x = some o) (ho : o.f0 = 0 ∧ o.f1 = r) : Agrees (D.del (.int .i64 x)) (sweep M r (fun z => left z && !z.sameKey (.int .i64 x))) := by
  refine Agrees.mk' fun a ha => ?_
  by_cases hax : a = x
  · subst hax
    have : sweep M r (fun z => left z && !z.sameKey (.int .i64 a)) a = none := by
      unfold sweep
      by_cases har : a = r
      · rw [if_pos har]
      · rw [if_neg har, hm]
        simp [ho.1, ho.2, sameKey_int]
    rw [this]
    exact ⟨fun _ => has_del_same, fun o ho => by cases ho⟩
  · have hne : Lit.int .i64 a ≠ .int .i64 x := fun e => hax (by injection e)
    have e : sweep M r (fun z => left z && !z.sameKey (.int .i64 x)) a = sweep M r left a := by
      unfold sweep
      simp [sameKey_int, hax]
    rw [e, has_del_other hne]
    refine ⟨fun hn => h.none_ ha hn, fun o ho => ?_⟩
    have := h.some_ ha ho
    exact ⟨this.1, fun z => by rw [atKey_del_other hne]; exact this.2 z⟩
theorem sweep_end {M : Map49} {r : Int} {left : Lit → Bool} (h : ∀ kl, left kl = false) : sweep M r left = writ M r := by
  funext a
  unfold sweep writ
  cases M a <;> simp [h]
theorem sweep_of {D : DataW Unit} {M : Map49} {r x : Int} {left : Lit → Bool} (h : Agrees D (sweep M r left)) (hx : WF x) {o : S49} (hat : ∀ z, D.atKey (.int .i64 x) z = enc49 o) : M x = some o := by
  cases hs : sweep M r left x with
  | none =>
    have h1 := atKey_of_not_has (h.none_ hx hs)
    have h2 := (h1 (enc49 ⟨0, 0⟩)).symm.trans ((hat _).trans ((hat (enc49 ⟨1, 0⟩)).symm.trans (h1 _)))
    have := enc49_inj h2
    cases this
  | some o2 =>
    have h1 := (h.some_ hx hs).2 (enc49 o)
    rw [hat] at h1
    rw [enc49_inj h1]
    unfold sweep at hs
    split at hs
    · cases hs
    · cases hm : M x with
      | none => rw [hm] at hs; cases hs
      | some o3 =>
        rw [hm] at hs
        simp only at hs
        split at hs
        · cases hs
        · rw [hs]
set_option maxHeartbeats 1000000 in
set_option maxRecDepth 100000 in
theorem written_calls (B n : Nat) (M : Map49) (r : Int) (w : World) (hbk : Book w B n M) (hr : WF r) :
    Calls Try.prog 29 #[.map (some B), .int .i64 r] w fun e w' => e = .returned (.tuple #[]) ∧ Book w' B n (writ M r) ∧ w.grownBy w' (some B) := by
  obtain ⟨D, hown, hag⟩ := hbk
  have HR := Aside0.mk hr
  have HAG := Aside0.mk hag
  clear hr hag
  go_enter Try.func29, Try.ntmps29
  go_wp2_with (first | (at_delete; refine wpList_delete_own _ rfl _ _ 59 2 rfl 49 law2 Try.underlying59 ropnd B n D rfl hown _ _ rfl (keyOf_int_mk Try.underlying2 HR.out) ?_; intro w1 hown1 hturn1) | (at_range; refine wpList_range_own _ rfl _ 59 rfl 2 49 law2 Try.underlying59 _ B n _ rfl hown1 ?_; intro w0 hrg0 hg0 hs0) | go_in)
  go_frame
  go_loopw [4] (fun _ wr => ∃ (left : Lit → Bool) (cnt : Nat) (D' : DataW Unit), wr.ranges Try.prog 2 ropnd B w1.heap.size n D' left cnt ∧ w1.grownBy wr (some B) ∧ Agrees D' (sweep M r left)) (fun _ wr => wr.rangeLeft B w1.heap.size)
  case atStart => exact ⟨_, _, _, hrg0, hg0.but _, sweep_start HAG.out⟩
  case round =>
    obtain ⟨left, cnt, D', hrg, hgw, hag⟩ := hrel
    have HAG' := Aside0.mk hag
    clear hag
    go_wp2_with (first | (at_next; refine wpList_next_ranges _ rfl _ rfl 2 law2 ropnd (Value.int .i64) (fun o : S49 => .agg #[.int .i64 o.f0, .int .i64 o.f1]) (fun key kl hk => by obtain ⟨x, rfl, _⟩ := Maps.keyOf_int_inv Try.underlying2 hk; exact ⟨x, rfl⟩) (fun v y hv => by obtain ⟨o, rfl, _⟩ := ropnd_inv hv; exact ⟨o, rfl⟩) B w1.heap.size n _ _ _ rfl hrg ?_ ?_) | go_in)
    · intro _ hl0
      go_wp2
      go_end0
      refine ⟨rfl, ⟨D', hrg.owns, ?_⟩, hturn1.grown.trans hgw⟩
      rw [← sweep_end hl0]; exact HAG'.out
    · intro x o kl yd yp w2 cnt1 hkey hlk hv hat hrg1 hlt hg1 hs1 hen
      obtain ⟨x', ex, rfl, hwx⟩ := Maps.keyOf_int_inv Try.underlying2 hkey
      cases ex
      have hyd : enc49 o = yd := congrArg Prod.fst (Option.some.inj hv)
      subst hyd
      have hgw1 := hgw.andThen hg1 (fun j hj => by cases hj; exact Or.inl (Nat.le_refl _))
      have hmx := sweep_of HAG'.out hwx (fun z => hat z)
      clear hs1 hkey hv
      by_cases hcut : o.f0 = 0 ∧ o.f1 = r
      · have hag2 := sweep_strike HAG'.out hmx hcut
        obtain ⟨p, q⟩ := o
        obtain ⟨rfl, rfl⟩ := hcut
        have HC := Aside0.mk hag2
        clear hag2 hmx
        go_wp2_with (first | (at_delete; refine wpList_delete_ranges _ rfl _ _ 59 2 rfl 49 law2 Try.underlying59 _ B w1.heap.size n _ _ _ rfl (hrg1.alloc _) _ _ rfl (keyOf_int_mk Try.underlying2 hwx) ?_; intro w3 cnt2 hrg2 hle hturn; go_frame) | go_in)
        rw [strike_twice] at hrg2
        refine ⟨⟨_, _, _, hrg2, ?_, HC.out⟩, ?_⟩
        · exact (hgw1.andThen (World.grownBy_alloc _ _ none) (by simp)).andThen hturn.grown (fun j hj => by cases hj; exact Or.inr rfl)
        · rw [hrg2.left_eq, hrg.left_eq]; omega
      · have hag2 := sweep_keep HAG'.out (x := x) (fun o' ho' => by rw [hmx] at ho'; cases ho'; exact hcut)
        have HC := Aside0.mk hag2
        clear hag2 hmx
        obtain ⟨p, q⟩ := o
        by_cases hp : p = 0
        · subst hp
          have hq : q ≠ r := fun e => hcut ⟨rfl, e⟩
          have cq : (q == r) = false := beq_eq_false_iff_ne.mpr hq
          have HN := Aside0.mk hcut
          clear hcut hq
          go_wp2
          refine ⟨⟨_, _, _, hrg1.alloc _, hgw1.andThen (World.grownBy_alloc _ _ none) (by simp), HC.out⟩, ?_⟩
          rw [(hrg1.alloc _).left_eq, hrg.left_eq]; omega
        · have cp : (p == 0) = false := beq_eq_false_iff_ne.mpr hp
          have HN := Aside0.mk hcut
          clear hcut hp
          go_wp2
          refine ⟨⟨_, _, _, hrg1.alloc _, hgw1.andThen (World.grownBy_alloc _ _ none) (by simp), HC.out⟩, ?_⟩
          rw [(hrg1.alloc _).left_eq, hrg.left_eq]; omega
theorem mapUpdate_book {P : Program} (hP : P = Try.prog) (w : World) {ops : Array Oper} {rest : List Oper} {o : Oper} {a : Act} {Q : Exit → Act → World → Prop}
    (hg : o.guard = none) (m x y : Operand) (hop : o.op = Op.mapUpdate 59 m x y) (B n : Nat) (M : Map49) (hm : a.eval m = .map (some B)) (hbk : Book w B n M) (hn : n < maxLen) (r : Int) (hx : a.eval x = .int .i64 r) (hr : WF r) (z : S49) (hy : a.eval y = .agg #[.int .i64 z.f0, .int .i64 z.f1])
    (hK : ∀ w', Book w' B (n + 1) (fun a => if a = r then some z else M a) → w.grownBy w' (some B) → wpList P ops Q rest (a.put o.dst undef) w') :
    wpList P ops Q (o :: rest) a w := by
  subst hP
  obtain ⟨D, hown, hag⟩ := hbk
  refine wpList_mapUpdate_in w hg m x y 59 hop 2 49 law2 Try.underlying59 ropnd B n D hm hown hn _ _ _ hx hy (keyOf_int_mk Try.underlying2 hr) (enc49 z) [] (ropnd_mk z) ?_
  intro w1 hown1 hturn
  refine hK w1 ⟨_, hown1, Agrees.mk' fun a ha => ?_⟩ hturn.grown
  by_cases har : a = r
  · subst har
    rw [if_pos rfl]
    refine ⟨fun h => by (cases h), fun o2 ho => ?_⟩
    cases ho
    exact ⟨has_put_same hown.isMap (isKey_int a) _, fun y => atKey_put_same hown.isMap (isKey_int a) _ _⟩
  · have hne : Lit.int .i64 a ≠ .int .i64 r := fun e => har (by injection e)
    rw [if_neg har, has_put_other hne]
    refine ⟨fun h => hag.none_ ha h, fun o2 ho => ?_⟩
    have := hag.some_ ha ho
    exact ⟨this.1, fun y => by rw [atKey_put_other hne]; exact this.2 y⟩
theorem clear_book {P : Program} (hP : P = Try.prog) (w : World) {ops : Array Oper} {rest : List Oper} {o : Oper} {a : Act} {Q : Exit → Act → World → Prop}
    (hg : o.guard = none) (m : Operand) (hop : o.op = Op.call { callee := Callee.builtin Builtin.clear, args := #[m], argTypes := #[59] }) (B n : Nat) (M : Map49) (hm : a.eval m = .map (some B)) (hbk : Book w B n M)
    (hK : ∀ w', Book w' B 0 noMap → w.grownBy w' (some B) → wpList P ops Q rest (a.put o.dst (.tuple #[])) w') :
    wpList P ops Q (o :: rest) a w := by
  subst hP
  obtain ⟨D, ⟨es, clock, hb, F, hs, rfl⟩, hag⟩ := hbk
  refine wpList_plain hg fun K' hK' => ?_
  have hrun : (Builtin.clear_ #[59] o.type #[.map (some B)]).run Try.prog w = .ok (.tuple #[]) (ChangeMaps.setBlock w B (.map #[] clock)) := by
    simp [Builtin.clear_, run_underlying Try.underlying59, MapKept.run_getObj_map hb, MapKept.run_setObj_map _ hb, ChangeMaps.setBlock, Result.andThen]
  unfold Oper.wp
  simp [execOp, hop, resolve, invoke, builtin, hm, hrun, Result.andThen]
  refine hK' _ _ (hK _ ⟨.map [], ⟨#[], clock, ChangeMaps.heap_setBlock_same hb _, ⟨by simp, MapKept.stamped_empty clock, by simp⟩, Nat.le_refl _, rfl⟩, fun a _ => rfl⟩ ⟨rfl, rfl, rfl, by simp [ChangeMaps.setBlock], fun i _ hi => ChangeMaps.heap_setBlock_other hb _ (fun e => hi (by rw [e]))⟩)
end Go.Proofs.Ytjekpkpmoanadaa.PCop
/- Slices cloned, operands at their sources, an instruction at its sources: the contracts of slices.Clone, all, turn. For every world. -/
namespace Go.Proofs.Ytjekpkpmoanadaa.PCop
open Go.RowKit Go.Proofs.Ytjekpkpmoanadaa.Lit Go.Proofs.Ytjekpkpmoanadaa.OwnCells Go.Proofs.YtjekpkpmoanadaaW.PrintWords Go.Proofs.YtjekpkpmoanadaaW.PrintLast Go.Proofs.YtjekpkpmoanadaaW.PrintMore
open Go.Maps
set_option linter.unusedVariables false
set_option linter.unusedSimpArgs false
theorem rows_of {α : Type} {d : Kd α} {w : World} {A : Option Addr} {n : Nat} {xs : List α} (h : d.C w A n xs) : ∃ rows : List (List Value), rows.length = xs.length ∧ (∀ (j : Nat) (x : α) (cs : List Value), xs[j]? = some x → rows[j]? = some cs → d.K w x cs) ∧ ReadsRow (fun x c => c = x ∧ c.length = d.sz ∧ ∀ u ∈ c, u.oneCell' = true) d.sz w A n rows := by
  obtain ⟨h1, h2, h3⟩ := h
  rcases Nat.eq_zero_or_pos n with h0 | h0
  · subst h0
    have : xs = [] := List.eq_nil_of_length_eq_zero h1
    subst this
    exact ⟨[], rfl, fun j x cs h => by simp at h, rfl, h2, fun h => absurd h (by decide)⟩
  · obtain ⟨ad, rfl, hc⟩ := h3 h0
    have hf : ∀ j : Nat, ∃ c : List Value, ∀ x, xs[j]? = some x → c.length = d.sz ∧ d.K w x c ∧ ∀ i u, c[i]? = some u → w.cell? (ad.add (j * d.sz + i)) = some u := fun j => by
      cases hx : xs[j]? with
      | none => exact ⟨[], fun x hx => by cases hx⟩
      | some x => obtain ⟨c, hc⟩ := hc j x hx; exact ⟨c, fun y hy => by cases hy; exact hc⟩
    obtain ⟨f, hf⟩ := Classical.axiomOfChoice hf
    have hat : ∀ (j : Nat) (cs : List Value), ((List.range xs.length).map f)[j]? = some cs → j < xs.length ∧ cs = f j := fun j cs hj => by
      obtain ⟨hl, he⟩ := List.getElem?_eq_some_iff.1 hj
      simp at hl he
      exact ⟨hl, he.symm⟩
    refine ⟨(List.range xs.length).map f, by simp, fun j x cs hx hj => ?_, by simp [h1], h2, fun _ => ⟨ad, rfl, fun j cs hj => ?_⟩⟩
    · obtain ⟨_, rfl⟩ := hat j cs hj
      exact (hf j x hx).2.1
    · obtain ⟨hl, rfl⟩ := hat j cs hj
      obtain ⟨k1, k2, k3⟩ := hf j _ (List.getElem?_eq_getElem hl)
      exact ⟨f j, k1, ⟨rfl, k1, d.K_one k2⟩, k3⟩
/-- an empty row of one's own -/
theorem R_empty {α : Type} (d : Kd α) (e : Nat) (w : World) : d.R e (w.alloc (.cells #[] e)) w.heap.size (fun _ => True) (.slice (some ⟨w.heap.size, 0, none⟩) 0 0) [] :=
  ⟨fun _ _ => trivial, [], ⟨by simp, .inr ⟨w.heap.size, 0, #[], rfl, Nat.le_refl _, heap_alloc_new w _, Nat.le_refl _, by decide, by simp, by simp⟩⟩, Reps.none _ _⟩
set_option maxHeartbeats 1000000 in
set_option maxRecDepth 100000 in
theorem clone_ints (A : Option Addr) (c : Nat) (l : List Int) (w : World) (hA : (Kd.int .i64).C w A l.length l) (hl : l.length * 8 ≤ 140737488355328) :
    Calls Try.prog 27 #[.slice A l.length c] w fun e w' => ∃ v, e = .returned v ∧ (Kd.int .i64).R 3 w' w.heap.size (fun _ => True) v l ∧ Below w.heap.size w w' := by
  cases A with
  | none =>
    have h0 : l = [] := by
      cases l with
      | nil => rfl
      | cons x r => obtain ⟨ad, he, _⟩ := hA.2.2 (by simp); cases he
    subst h0
    have he := fun w => Lib.run_eql_slice_nil (P := Try.prog) w 41 3 none 0 c 0 0 Try.underlying41
    go_enter Try.func27, Try.ntmps27
    go_wp2
    go_ret
    exact ⟨_, rfl, Kd.R_nil _ _ _ _ _, Below.refl _ _⟩
  | some ad =>
    have HA := Aside0.mk hA
    clear hA
    have he := fun w => Lib.run_eql_slice_nil (P := Try.prog) w 41 3 (some ad) l.length c 0 0 Try.underlying41
    go_enter Try.func27, Try.ntmps27
    have HR := Aside0.mk (R_empty (Kd.int .i64) 3 w)
    have HL := Aside0.mk hl
    clear hl
    go_wp2_with (first | (at_builtin; refine Kd.R_append_rows (Kd.int .i64) (Rr := (Kd.int .i64).K w) (w0 := w) w.heap.size rfl _ _ 41 3 (.int .i64 0) 8 rfl Try.underlying41 (by kernel_rfl) rfl (by decide) (by decide) _ [] l (some ad) l.length c (fun _ => True) (fun _ => False) rfl rfl HR.out ?hA (fun x cs h => h) (fun k hk => hk.elim) (fun _ _ => trivial) (below_alloc (Below.refl _ _) _) (by simp) (by have := HL.out; simp; omega) ?_; (case hA => exact Kd.C_below HA.out (below_alloc (Below.refl _ _) _)); intro v1 w1 h1 h2 _ _) | go_in)
    go_ret
    exact ⟨_, rfl, h1, h2⟩
set_option maxHeartbeats 1000000 in
set_option maxRecDepth 100000 in
/-- the new row holds the old cells -/
theorem clone_shapes (A : Option Addr) (c : Nat) (l : List S65) (w0 w : World) (hA : k65.C w0 A l.length l) (h0b : Below w0.heap.size w0 w) (hl : l.length * 40 ≤ 140737488355328) :
    Calls Try.prog 46 #[.slice A l.length c] w fun e w' => ∃ v rows, e = .returned v ∧ (Kd.raw 3).R 65 w' w.heap.size (fun _ => True) v rows ∧ rows.length = l.length ∧ (∀ (j : Nat) (x : S65) (cs : List Value), l[j]? = some x → rows[j]? = some cs → k65.K w0 x cs) ∧ Below w.heap.size w w' := by
  cases A with
  | none =>
    have h0 : l = [] := by
      cases l with
      | nil => rfl
      | cons x r => obtain ⟨ad, he, _⟩ := hA.2.2 (by simp); cases he
    subst h0
    have he := fun w => Lib.run_eql_slice_nil (P := Try.prog) w 45 65 none 0 c 0 0 Try.underlying45
    go_enter Try.func46, Try.ntmps46
    go_wp2
    go_ret
    exact ⟨_, [], rfl, Kd.R_nil _ _ _ _ _, rfl, fun j x cs h => by simp at h, Below.refl _ _⟩
  | some ad =>
    have HA := Aside0.mk hA
    have H0B := Aside0.mk h0b
    clear hA h0b
    have he := fun w => Lib.run_eql_slice_nil (P := Try.prog) w 45 65 (some ad) l.length c 0 0 Try.underlying45
    go_enter Try.func46, Try.ntmps46
    have HR := Aside0.mk (R_empty (Kd.raw 3) 65 w)
    have HL := Aside0.mk hl
    clear hl
    obtain ⟨rows, hrl, hrk, hrr⟩ := rows_of HA.out
    have HX := Aside0.mk (And.intro hrl (And.intro hrk hrr))
    clear hrl hrk hrr
    go_wp2_with (first | (at_builtin; refine Kd.R_append_rows (Kd.raw 3) (Rr := fun x c => c = x ∧ c.length = 3 ∧ ∀ u ∈ c, u.oneCell' = true) (w0 := w) w.heap.size rfl _ _ 45 65 (.agg #[.int .i64 0, .int .i64 0, .slice none 0 0]) 40 rfl Try.underlying45 (by kernel_rfl) rfl (by decide) (by decide) _ [] rows (some ad) l.length c (fun _ => True) (fun _ => False) rfl rfl HR.out ?hA (fun x cs h => h) (fun k hk => hk.elim) (fun _ _ => trivial) (below_alloc (Below.refl _ _) _) (by simp) (by have := HL.out; simp; omega) ?_; (case hA => exact ReadsRow.imp_ HX.out.2.2 (wB H0B.out (below_alloc (Below.refl _ _) _)) (fun _ _ h => h)); intro v1 w1 h1 h2 _ _) | go_in)
    go_ret
    exact ⟨_, rows, rfl, h1, HX.out.1, HX.out.2.1, h2⟩
/-- a row of operands, value by value -/
def cells49 (l : List S49) : List Value := l.flatMap fun o => [.int .i64 o.f0, .int .i64 o.f1]
theorem R_form {α : Type} {d : Kd α} {e base : Nat} {ok : Nat → Prop} {w : World} {v : Value} {xs : List α} (h : d.R e w base ok v xs) {b : Nat} (hb : v.ownBlock = some b) : ∃ cap, v = .slice (some ⟨b, 0, none⟩) xs.length cap := by
  obtain ⟨A, c, rfl, _⟩ := Kd.R_reads h
  obtain ⟨_, inner, ho, _⟩ := h
  rcases ho.2 with ⟨h0, _⟩ | ⟨g, cap, cur, h0, _⟩
  · injection h0 with h1 h2 h3
    subst h1
    simp [Value.ownBlock] at hb
  · injection h0 with h1 h2 h3
    subst h1
    simp [Value.ownBlock] at hb
    subst hb
    exact ⟨c, rfl⟩
/-- the first k are f's, the others zeros -/
def part {α β : Type} (f : α → β) (z : β) (l : List α) (k : Nat) : List β := (l.take k).map f ++ List.replicate (l.length - k) z
theorem part_zero {α β : Type} (f : α → β) (z : β) (l : List α) : part f z l 0 = List.replicate l.length z := by simp [part]
theorem part_all {α β : Type} (f : α → β) (z : β) (l : List α) : part f z l l.length = l.map f := by simp [part]
theorem part_set {α β : Type} (f : α → β) (z : β) (l : List α) (k : Nat) (x : α) (hx : l[k]? = some x) : (part f z l k).set k (f x) = part f z l (k + 1) := by
  obtain ⟨hk, rfl⟩ := List.getElem?_eq_some_iff.1 hx
  unfold part
  rw [List.set_append_right _ _ (by simp; omega)]
  have e : k - ((l.take k).map f).length = 0 := by simp; omega
  rw [e, show l.length - k = (l.length - (k + 1)) + 1 by omega, List.replicate_succ, List.set_cons_zero, List.take_succ_eq_append_getElem hk, List.map_append, List.append_assoc]
  rfl
theorem rd_T49_at {l : List S49} {k : Nat} (h : k < l.length) : l[k]? = some (rd_T49 l (k : Int)) := by
  unfold rd_T49
  rw [Int.toNat_natCast, List.getD_eq_getElem?_getD, List.getElem?_eq_getElem h]; rfl
theorem part_get {α β : Type} (f : α → β) (z : β) (l : List α) (k : Nat) (h : k < l.length) : (part f z l k)[k]? = some z := by
  unfold part
  have e : ((l.take k).map f).length = k := by simp; omega
  rw [List.getElem?_append_right (by rw [e]; exact Nat.le_refl _), e, Nat.sub_self, List.getElem?_replicate, if_pos (by omega)]
set_option maxHeartbeats 1000000 in
set_option maxRecDepth 100000 in
theorem all_calls (B n : Nat) (M : Map49) (A : Option Addr) (c : Nat) (l : List S49) (w : World) (hbk : Book w B n M) (hA : k49.C w A l.length l) (hl : l.length * 16 ≤ 140737488355328) (hw : ∀ o ∈ l, WF o.f1) :
    Calls Try.prog 45 #[.map (some B), .slice A l.length c] w fun e w' => ∃ v, e = .returned v ∧ k49.R 49 w' w.heap.size (fun _ => True) v (l.map (ask M)) ∧ Below w.heap.size w w' := by
  have HBK := Aside0.mk hbk
  have HA := Aside0.mk hA
  have HW := Aside0.mk hw
  clear hbk hA hw
  go_enter Try.func45, Try.ntmps45
  have HL := Aside0.mk hl
  have hrep : (List.replicate ((l.length : Int)).toNat z49).length = l.length := by simp
  go_wp2_with (first | ((with_reducible refine gate_dst (N := 10) rfl ?_); refine Kd.R_make k49 (w0 := w) w.heap.size 49 rfl rfl 44 _ _ rfl (l.length : Int) rfl rfl Try.underlying44 (.agg #[.int .i64 0, .int .i64 0]) 16 (by kernel_rfl) rfl (by decide) (by decide) z49 (ok := fun _ => True) (okp := fun _ => True) (k49_mkM _ _ _ z49) (fun _ h => h) trivial (by omega) (by have := HL.out; simp; omega) (Below.refl _ _) (Nat.le_refl _) ?_; intro v1 w1 hr1 hb1 hg1 hn1; obtain ⟨b, hv, hle⟩ := hn1; obtain ⟨cap, rfl⟩ := R_form hr1 hv; rw [hrep] at hr1 ⊢) | go_in)
  rw [Int.toNat_natCast, ← part_zero (ask M) z49 l] at hr1
  have HLE := Aside0.mk hle
  clear hle hv hg1 hrep
  go_loopw [13] (fun t wr => ∃ k : Nat, k ≤ l.length ∧ t = .int .i64 k ∧ k49.R 49 wr w.heap.size (fun _ => True) (.slice (some ⟨b, 0, none⟩) l.length cap) (part (ask M) z49 l k) ∧ Below w.heap.size w wr) (fun t _ => l.length - (intOf t).toNat)
  case atStart => exact ⟨0, Nat.zero_le _, rfl, hr1, hb1⟩
  case round =>
    obtain ⟨k, hk, rfl, hr, hb⟩ := hrel
    by_cases hlt : k < l.length
    · obtain ⟨ad, rfl, q0, q1⟩ := at_T49 (Kd.C_below HA.out hb) (k : Int) (by omega) (by omega)
      have hm := rd_T49_at hlt
      have hwf := HW.out _ (List.mem_of_getElem? hm)
      rw [Int.toNat_natCast] at q0 q1
      generalize rd_T49 l (k : Int) = x at q0 q1 hm hwf
      obtain ⟨x0, x1⟩ := x
      have HWF := Aside0.mk hwf
      have HM := Aside0.mk hm
      have HR := Aside0.mk hr
      have HB := Aside0.mk hb
      clear hwf hm hr hb hr1 hb1
      go_wp2_with (fail)
      have hb0 := below_alloc (Below.refl _ wr) (.cells #[.int .i64 x0, .int .i64 x1] 49)
      have HB1 := Aside0.mk (wB HB.out hb0)
      have HR1 := Aside0.mk (Kd.R_below HR.out hb0)
      clear hb0
      refine (ask_calls B n M ⟨x0, x1⟩ _ (HBK.out.below HB1.out) HWF.out).mono ?_
      rintro e w2 ⟨rfl, hb2⟩
      replace HB1 := Aside0.mk (wB HB1.out hb2)
      replace HR1 := Aside0.mk (Kd.R_below HR1.out hb2)
      clear hb2 q0 q1
      have hps := part_set (ask M) z49 l k _ HM.out
      have HPS := Aside0.mk hps
      have hpg := part_get (ask M) z49 l k hlt
      clear hps
      obtain ⟨ad', c', hcE, hcl, hcK, hcc⟩ := Kd.C_get (Kd.R_reads' HR1.out).2.2 z49 (k : Int) (by omega) (by simp [part]; omega)
      have HC := Aside0.mk (And.intro hcl hcc)
      obtain rfl : (⟨b, 0, none⟩ : Addr) = ad' := Option.some.inj hcE
      clear hcE hcl hcK hcc hpg
      generalize ask M ⟨x0, x1⟩ = y at *
      go_wp2_with (first | ((with_reducible refine gate_store (t := 49) (p := 23) rfl ?_); refine Classical.byContradiction (fun hcon => ?hst)) | go_in)
      refine hcon ?_
      clear hcon
      refine Kd.R_store k49 (w0 := w) w.heap.size rfl rfl 49 _ _ rfl 49 (k : Int) 0 (part (ask M) z49 l k) y (.agg #[.int .i64 y.f0, .int .i64 y.f1]) [.int .i64 y.f0, .int .i64 y.f1] c' (fun _ => True) (fun _ => False) rfl ?ho rfl rfl (by kernel_rfl) (by simp; exact ⟨rfl, rfl⟩) HR1.out (by omega) (by omega) HC.out.1 ?hcc (Nat.le_refl 2) ?hM (fun k hk => hk.elim) HB1.out ?_
      case ho => show k * 2 = _; rw [Int.toNat_natCast]; rfl
      case hcc => intro j u hu; have := HC.out.2 j u hu; rwa [add_plain] at this
      case hM =>
        have e : c'.drop (0 + [Value.int .i64 y.f0, Value.int .i64 y.f1].length) = [] := List.drop_eq_nil_of_le (by rw [HC.out.1]; exact Nat.le_refl 2)
        rw [e]
        exact k49_mkM _ _ _ y
      intro w3 hr3 hb3 _
      rw [Int.toNat_natCast, HPS.out] at hr3
      go_wp2
      go_roundw
      case rel => exact ⟨k + 1, by omega, by go_num, hr3, hb3⟩
      case measure => simp [intOf]; omega
    · obtain rfl : k = l.length := by omega
      rw [part_all] at hr
      go_wp2
      go_ret
      exact ⟨_, rfl, hr, hb⟩
end Go.Proofs.Ytjekpkpmoanadaa.PCop
/- A region that draws its order and ends with one operation that waits for all others (a store into what is made there). -/
namespace Go.Proofs.Ytjekpkpmoanadaa.RegInv
set_option linter.unusedVariables false
theorem slots_ne {dst : Nat → Option Tmp} {n N : Nat} (hsl : slotsOk dst n N = true) : ∀ i t, i < n → dst i = some t → t < N ∧ ∀ j, j < n → j ≠ i → dst j ≠ some t := fun i t hi hd => by
  have h1 := List.all_eq_true.1 hsl i (List.mem_range.2 hi)
  rw [hd] at h1
  simp only [Bool.and_eq_true, decide_eq_true_eq] at h1
  refine ⟨h1.1, fun j hj hji => ?_⟩
  have h2 := List.all_eq_true.1 h1.2 j (List.mem_range.2 hj)
  rw [Bool.or_eq_true, beq_iff_eq] at h2
  rcases h2 with h2 | h2
  · exact absurd h2.symm hji
  · simpa using h2
theorem mid_puts {Ext : World → World → Prop} {dst : Nat → Option Tmp} {n : Nat} {F : Nat → World → Value → Prop} {a0 : Act} {w0 : World} {D : Nat → Prop} {a : Act} {w : World} (hsl : slotsOk dst n a0.tmps.size = true) (hI : Mid Ext dst n F a0 w0 D a w) :
    puts dst (fun i => match dst i with | some t => a.tmps.getD t undef | none => undef) (List.range n) a0 = a := by
  have hne := slots_ne hsl
  obtain ⟨p1, p2, p3⟩ := puts_frame dst (fun i => match dst i with | some t => a.tmps.getD t undef | none => undef) (List.range n) a0
  have ht : (puts dst (fun i => match dst i with | some t => a.tmps.getD t undef | none => undef) (List.range n) a0).tmps = a.tmps := by
    apply Array.ext
    · rw [p1, hI.size]
    · intro t h1 h2
      have hg : ∀ (x : Array Value) (hx : t < x.size), x[t] = x.getD t undef := fun x hx => by simp [Array.getD_eq_getD_getElem?, hx]
      rw [hg _ h1, hg _ h2]
      cases ho : off dst n t with
      | true =>
        rw [hI.off t ho]
        refine p3 t (fun i hi => ?_)
        have := List.all_eq_true.1 ho i hi
        simpa using this
      | false =>
        have : ¬ (∀ i, i ∈ List.range n → (dst i != some t) = true) := fun h => by
          have : off dst n t = true := List.all_eq_true.2 h
          rw [ho] at this; cases this
        have : ∃ i, i < n ∧ dst i = some t := by
          refine Classical.byContradiction fun hc => this (fun i hi => ?_)
          rw [bne_iff_ne]
          exact fun e => hc ⟨i, List.mem_range.1 hi, e⟩
        obtain ⟨i, hi, hd⟩ := this
        rw [puts_at dst _ (List.range n) a0 i t (List.mem_range.2 hi) hd (hne i t hi hd).1 (fun j hj hji => (hne i t hi hd).2 j (List.mem_range.1 hj) hji)]
        rw [hd]
  cases a with | mk at_ ad =>
  cases hp : puts dst (fun i => match dst i with | some t => (Act.mk at_ ad).tmps.getD t undef | none => undef) (List.range n) a0 with | mk bt bd =>
  rw [hp] at ht p2
  have hd := hI.defers
  simp only at ht p2 hd
  rw [ht, p2, ← hd]
end Go.Proofs.Ytjekpkpmoanadaa.RegInv
/- A region that draws its order and ends with one operation that waits for all others, through others or at once (a store of what a call made there). -/
namespace Go.Proofs.Ytjekpkpmoanadaa.RegInv
set_option linter.unusedVariables false
/-- what is done has its own behind it -/
def Dep (ops : Array Oper) (l : Array Bool) : Prop := ∀ (i j : Nat) (o : Oper), ops[i]? = some o → l[i]? = some true → waits o j = true → l[j]? = some true
theorem region_inv_op2 {P : Program} {id : Nat} {ops : Array Oper} {Q : Exit → Act → World → Prop} {a : Act} {w : World} (hm : P.follows .mixedOrders = true) (he : early .any ops = true)
    (Inv : Array Bool → Act → World → Prop) (h0 : Inv (Array.replicate ops.size false) a { w with drawn := w.drawn + 1 })
    (hstep : ∀ l a w i o, l.size = ops.size → Inv l a w → ops[i]? = some o → l[i]? = some false → (o.after.all fun e => !Region.binds .any e || l.getD e.on false) = true → Dep ops l → wpOp P ops Q i (fun a' w' => Inv (l.setIfInBounds i true) a' w') a w)
    (hend : ∀ a w, Inv (Array.replicate ops.size true) a w → Q .normal a w) : (Code.region id ops true).wp P Q a w := by
  refine region_inv_op hm he (fun l a w => Inv l a w ∧ Dep ops l) ⟨h0, fun i j o ho hi _ => ?_⟩ (fun l a w i o hs hI ho hl hr => ?_) (fun a w h => hend a w h.1)
  · have := (Array.getElem?_eq_some_iff.1 ho).1
    rw [Array.getElem?_replicate, if_pos this] at hi
    cases hi
  · refine wpOp_mono (fun a' w' hI' => ⟨hI', fun q j oq hoq hq hw => ?_⟩) (hstep l a w i o hs hI.1 ho hl hr hI.2)
    have hlt : i < l.size := (Array.getElem?_eq_some_iff.1 hl).1
    have up : ∀ j, l[j]? = some true → (l.setIfInBounds i true)[j]? = some true := fun j hj => by
      rw [Array.getElem?_setIfInBounds]
      split
      · rfl
      · exact hj
    by_cases hqi : q = i
    · subst hqi
      rw [ho] at hoq
      cases hoq
      exact up j (dep_of hr hw)
    · rw [Array.getElem?_setIfInBounds, if_neg (fun e => hqi e.symm)] at hq
      exact up j (hI.2 q j oq hoq hq hw)
theorem region_last2 {P : Program} {id : Nat} {ops : Array Oper} {Q : Exit → Act → World → Prop} {a0 : Act} {w0 : World} (hm : P.follows .mixedOrders = true) (he : early .any ops = true)
    (Ext : World → World → Prop) (htr : ∀ a b c, Ext a b → Ext b c → Ext a c) (hdrew : Ext w0 { w0 with drawn := w0.drawn + 1 }) (dst : Nat → Option Tmp) (n : Nat) (hn : ops.size = n + 1) (hsl : slotsOk dst n a0.tmps.size = true)
    (hdst : ((List.range n).all fun i => match ops[i]? with | some o => o.dst == dst i | none => false) = true)
    (hwait : ((List.range n).all fun j => (List.range (n + 1)).any fun i => decide (j < i) && match ops[i]? with | some o => waits o j | none => false) = true)
    (F : Nat → World → Value → Prop) (hF : ∀ i w w1 v, F i w v → Ext w w1 → F i w1 v)
    (hstep : ∀ i o a w, i < n → ops[i]? = some o → Mid Ext dst n F a0 w0 (fun j => waits o j = true) a w → wpOp P ops Q i (fun a' w' => ∃ v, a' = a.put (dst i) v ∧ F i w' (match dst i with | some _ => v | none => undef) ∧ Ext w w') a w)
    (hlast : ∀ (vs : Nat → Value) w, Ext w0 w → (∀ i, i < n → F i w (match dst i with | some _ => vs i | none => undef)) → wpOp P ops Q n (fun a' w' => Q .normal a' w') (puts dst vs (List.range n) a0) w) : (Code.region id ops true).wp P Q a0 w0 := by
  have hdi : ∀ i o, i < n → ops[i]? = some o → o.dst = dst i := fun i o hi ho => by
    have := List.all_eq_true.1 hdst i (List.mem_range.2 hi)
    rw [ho] at this
    exact beq_iff_eq.1 this
  have hne := slots_ne hsl
  refine region_inv_op2 hm he (fun l a w => (l[n]? = some true → Q .normal a w ∧ ∀ i, i < n → l[i]? = some true) ∧ (l[n]? ≠ some true → Mid Ext dst n F a0 w0 (fun j => l[j]? = some true) a w)) ?_ ?_ ?_
  · refine ⟨fun h => ?_, fun _ => ⟨rfl, rfl, fun _ _ => rfl, hdrew, fun i hi h => ?_⟩⟩
    · rw [Array.getElem?_replicate, if_pos (by omega)] at h; cases h
    · rw [Array.getElem?_replicate, if_pos (by omega)] at h; cases h
  · intro l a w i o hs hI ho hl hr hdep
    have hi : i < ops.size := (Array.getElem?_eq_some_iff.1 ho).1
    have hnl : l[n]? ≠ some true := fun h => by
      rcases Nat.lt_or_ge i n with hin | hin
      · rw [(hI.1 h).2 i hin] at hl; cases hl
      · obtain rfl : i = n := by omega
        rw [h] at hl; cases hl
    have hM := hI.2 hnl
    rcases Nat.lt_or_ge i n with hin | hin
    · have hset : (l.setIfInBounds i true)[n]? = l[n]? := by rw [Array.getElem?_setIfInBounds, if_neg (by omega)]
      refine wpOp_mono ?_ (hstep i o a w hin ho ⟨hM.defers, hM.size, hM.off, hM.ext, fun j hj hw => hM.at_ j hj (dep_of hr hw)⟩)
      rintro a' w' ⟨v, rfl, hv, hx⟩
      refine ⟨fun h => absurd (hset ▸ h) hnl, fun _ => ⟨?_, ?_, fun t ht => ?_, htr _ _ _ hM.ext hx, fun j hj hlj => ?_⟩⟩
      · rw [← hM.defers]; cases dst i <;> rfl
      · rw [← hM.size]; cases dst i <;> simp [Act.put]
      · rw [← hM.off t ht]
        have := List.all_eq_true.1 ht i (List.mem_range.2 hin)
        cases hd : dst i with
        | none => rfl
        | some d => rw [hd] at this; exact getD_put (fun e => by rw [e] at this; simp at this)
      · by_cases hji : j = i
        · subst hji
          cases hd : dst j with
          | none => rw [hd] at hv; exact hv
          | some t =>
            rw [hd] at hv
            simp only
            rw [getD_put_self (by rw [hM.size]; exact (hne j t hj hd).1)]
            exact hv
        · have hlj' : l[j]? = some true := by
            rw [Array.getElem?_setIfInBounds, if_neg (fun e => hji e.symm)] at hlj
            exact hlj
          have h1 := hF j _ _ _ (hM.at_ j hj hlj') hx
          cases hd : dst j with
          | none => rw [hd] at h1; exact h1
          | some t =>
            rw [hd] at h1
            simp only at h1 ⊢
            cases hdi' : dst i with
            | none => exact h1
            | some d => rw [getD_put (fun e => (hne j t hj hd).2 i hin (fun e => hji e.symm) (by rw [hdi', e]))]; exact h1
    · obtain rfl : i = n := by omega
      have hall0 : ∀ m j, m + j = i → 0 < m → l[j]? = some true := by
        intro m
        induction m using Nat.strongRecOn with
        | _ m ih =>
          intro j hj hm0
          have h1 := List.all_eq_true.1 hwait j (List.mem_range.2 (by omega))
          rw [List.any_eq_true] at h1
          obtain ⟨q, hq, h2⟩ := h1
          rw [Bool.and_eq_true, decide_eq_true_eq] at h2
          obtain ⟨hjq, h3⟩ := h2
          have hqn : q < i + 1 := List.mem_range.1 hq
          cases hoq : ops[q]? with
          | none => rw [hoq] at h3; cases h3
          | some oq =>
            rw [hoq] at h3
            rcases Nat.lt_or_ge q i with hlt | hge
            · exact hdep q j oq hoq (ih (i - q) (by omega) q (by omega) (by omega)) h3
            · obtain rfl : q = i := by omega
              rw [ho] at hoq
              cases hoq
              exact dep_of hr h3
      have hall : ∀ j, j < i → l[j]? = some true := fun j hj => hall0 (i - j) j (by omega) (by omega)
      have hp : puts dst (fun j => match dst j with | some t => a.tmps.getD t undef | none => undef) (List.range i) a0 = a := mid_puts hsl hM
      have h := hlast (fun j => match dst j with | some t => a.tmps.getD t undef | none => undef) w hM.ext (fun j hj => by
        have := hM.at_ j hj (hall j hj)
        cases hd : dst j with
        | none => rw [hd] at this; exact this
        | some t => rw [hd] at this; simpa [hd] using this)
      rw [hp] at h
      refine wpOp_mono (fun a' w' hq => ⟨fun _ => ⟨hq, fun j hj => ?_⟩, fun hne' => absurd ?_ hne'⟩) h
      · rw [Array.getElem?_setIfInBounds, if_neg (by omega)]; exact hall j hj
      · rw [Array.getElem?_setIfInBounds, if_pos rfl, if_pos (by omega)]
  · intro a w hI
    refine (hI.1 ?_).1
    rw [Array.getElem?_replicate, if_pos (by omega)]
end Go.Proofs.Ytjekpkpmoanadaa.RegInv
/- An instruction at its sources: the contract of turn; its rows lie apart. For every world. -/
namespace Go.Proofs.Ytjekpkpmoanadaa.PCop
open Go.RowKit Go.Proofs.Ytjekpkpmoanadaa.Lit Go.Proofs.Ytjekpkpmoanadaa.OwnCells Go.Proofs.YtjekpkpmoanadaaW.PrintWords Go.Proofs.YtjekpkpmoanadaaW.PrintLast Go.Proofs.YtjekpkpmoanadaaW.PrintMore
open Go.Maps
set_option linter.unusedVariables false
set_option linter.unusedSimpArgs false
def turn65 (M : Map49) (s : S65) : S65 := ⟨s.f0, s.f1, s.f2.map (ask M)⟩
def turn47 (M : Map49) (x : S47) : S47 := ⟨x.f0, x.f1, x.f2, x.f3.map (ask M), x.f4, x.f5, x.f6, x.f7.map (turn65 M)⟩
/-- the first k shapes are at their sources (each one's slots in blocks of its own, elder than N), the others as9 they came -/
def TurnInv (w0 : World) (M : Map49) (l : List S65) (base g cap N k : Nat) (wr : World) : Prop :=
  ∃ (rows : List (List Value)) (f : Nat → Nat), (Kd.raw 3).R 65 wr base (fun _ => True) (.slice (some ⟨g, 0, none⟩) l.length cap) rows ∧ rows.length = l.length ∧
    ∀ (j : Nat) (s : S65) (cs : List Value), l[j]? = some s → rows[j]? = some cs → (j < k → k65.M wr base (fun b => b ≠ g ∧ f b = j ∧ b < N) (turn65 M s) cs) ∧ (k ≤ j → k65.K w0 s cs)
theorem TurnInv.below {w0 : World} {M : Map49} {l : List S65} {base g cap N k : Nat} {w w1 : World} (h : TurnInv w0 M l base g cap N k w) (hb : Below w.heap.size w w1) : TurnInv w0 M l base g cap N k w1 := by
  obtain ⟨rows, f, h1, h2, h3⟩ := h
  exact ⟨rows, f, Kd.R_below h1 hb, h2, fun j s cs hs hc => ⟨fun hj => Kd.M_below ((h3 j s cs hs hc).1 hj) hb, (h3 j s cs hs hc).2⟩⟩
theorem TurnInv.round {w0 : World} {M : Map49} {l : List S65} {base g cap N k : Nat} {w : World} (h : TurnInv w0 M l base g cap N k w) : TurnInv w0 M l base g cap w.heap.size k w := by
  obtain ⟨rows, f, h1, h2, h3⟩ := h
  exact ⟨rows, f, h1, h2, fun j s cs hs hc => ⟨fun hj => k65.M_mono (fun b hb => ⟨hb.1.1, hb.1.2.1, hb.2.2.1⟩) (k65.M_bound ((h3 j s cs hs hc).1 hj)), (h3 j s cs hs hc).2⟩⟩
theorem TurnInv.start {w0 w : World} {M : Map49} {l : List S65} {base g cap N : Nat} {rows : List (List Value)} (h1 : (Kd.raw 3).R 65 w base (fun _ => True) (.slice (some ⟨g, 0, none⟩) l.length cap) rows) (h2 : rows.length = l.length) (h3 : ∀ (j : Nat) (x : S65) (cs : List Value), l[j]? = some x → rows[j]? = some cs → k65.K w0 x cs) : TurnInv w0 M l base g cap N 0 w :=
  ⟨rows, fun _ => 0, h1, h2, fun j s cs hs hc => ⟨fun hj => absurd hj (by omega), fun _ => h3 j s cs hs hc⟩⟩
theorem turn65_open {w : World} {base : Nat} {ok : Nat → Prop} {M : Map49} {s : S65} {v : Value} (h : k49.R 49 w base ok v (s.f2.map (ask M))) : k65.M w base ok (turn65 M s) [.int .i64 s.f0, .int .i64 s.f1, v] := k65_mkM w base ok (turn65 M s) h
/-- element k as9 it came -/
theorem TurnInv.elem {w0 : World} {M : Map49} {l : List S65} {base g cap N k : Nat} {w : World} (h : TurnInv w0 M l base g cap N k w) {s : S65} (hs : l[k]? = some s) :
    ∃ A2 c2, w.cell? ⟨g, k * 3 + 2, none⟩ = some (.slice A2 s.f2.length c2) ∧ s.f2.length ≤ c2 ∧ k49.C w0 A2 s.f2.length s.f2 ∧ w.frozen? ⟨g, k * 3 + 2, none⟩ = false := by
  obtain ⟨rows, f, h1, h2, h3⟩ := h
  have hk : k < l.length := (List.getElem?_eq_some_iff.1 hs).1
  have hr : rows[k]? = some rows[k] := List.getElem?_eq_getElem (by omega)
  obtain ⟨A2, c2, e, hl, hC⟩ := k65_open ((h3 k s _ hs hr).2 (Nat.le_refl _))
  obtain ⟨ad, c', hcE, hcl, hcK, hcc⟩ := Kd.C_get (Kd.R_reads' h1).2.2 [] (k : Int) (by omega) (by omega)
  obtain rfl : (⟨g, 0, none⟩ : Addr) = ad := Option.some.inj hcE
  have hcr : c' = rows[k] := by
    have := hcK.1
    rwa [Int.toNat_natCast, List.getD_eq_getElem?_getD, hr] at this
  rw [hcr, e] at hcc
  have h4 := hcc 2 _ rfl
  rw [add_plain, Int.toNat_natCast] at h4
  refine ⟨A2, c2, h4, hl, hC, ?_⟩
  obtain ⟨_, inner, ho, _⟩ := h1
  obtain ⟨cells, hc⟩ := own_typed ho g (by simp [Value.ownBlock])
  exact blk_frozen hc _
theorem TurnInv.store {w0 : World} {M : Map49} {l : List S65} {base g cap N N' k : Nat} {w : World} (h : TurnInv w0 M l base g cap N k w) (hN : N ≤ N') {s : S65} (hs : l[k]? = some s) {v : Value} (hv : k49.R 49 w base (fun b => b ≠ g ∧ N ≤ b ∧ b < N') v (s.f2.map (ask M))) :
    TurnInv w0 M l base g cap N' (k + 1) (w.setCell ⟨g, k * 3 + 2, none⟩ v) := by
  obtain ⟨rows, f, h1, h2, h3⟩ := h
  have hk : k < l.length := (List.getElem?_eq_some_iff.1 hs).1
  have hr : rows[k]? = some rows[k] := List.getElem?_eq_getElem (by omega)
  obtain ⟨A2, c2, e, hl, hC⟩ := k65_open ((h3 k s _ hs hr).2 (Nat.le_refl _))
  obtain ⟨ad, c', hcE, hcl, hcK, hcc⟩ := Kd.C_get (Kd.R_reads' h1).2.2 [] (k : Int) (by omega) (by omega)
  obtain rfl : (⟨g, 0, none⟩ : Addr) = ad := Option.some.inj hcE
  have hcr : c' = rows[k] := by
    have := hcK.1
    rwa [Int.toNat_natCast, List.getD_eq_getElem?_getD, hr] at this
  rw [hcr, e] at hcc
  obtain ⟨A9, c9, hv9, _⟩ := Kd.R_reads hv
  obtain ⟨r1, r2⟩ := Kd.R_seg (d := Kd.raw 3) h1 (k : Int) (by omega) (by omega) (c := [.int .i64 s.f0, .int .i64 s.f1, .slice A2 s.f2.length c2]) (seg := [v]) (j := 2) rfl (fun j u hu => by have := hcc j u hu; rwa [add_plain] at this) (Nat.le_refl 3) (x' := [.int .i64 s.f0, .int .i64 s.f1, v]) (okp := fun _ => False) ⟨rfl, rfl, by rw [hv9]; simp; exact ⟨rfl, rfl, rfl⟩⟩ (fun _ hk => hk.elim)
  rw [Int.toNat_natCast] at r1 r2
  have e1 : w.setCells g (k * (Kd.raw 3).sz + 2) [v] = w.setCell ⟨g, k * 3 + 2, none⟩ v := rfl
  rw [e1] at r1 r2
  refine ⟨_, fun b => if N ≤ b then k else f b, r1, by rw [List.length_set]; exact h2, fun j s' cs hs' hc => ⟨fun hj => ?_, fun hj => ?_⟩⟩
  · by_cases hjk : j = k
    · subst hjk
      rw [hs] at hs'
      cases hs'
      rw [List.getElem?_set_self (by omega)] at hc
      cases hc
      exact k65.M_mono (fun b hb => ⟨hb.1, if_pos hb.2.1, hb.2.2⟩) (turn65_open (Kd.R_far hv (fun b hb => hb.1) v))
    · rw [List.getElem?_set_ne (fun e => hjk e.symm)] at hc
      exact k65.M_mono (fun b hb => ⟨hb.1, (if_neg (Nat.not_le.2 hb.2.2)).trans hb.2.1, Nat.lt_of_lt_of_le hb.2.2 hN⟩) (Kd.M_far ((h3 j s' cs hs' hc).1 (by omega)) (fun b hb => hb.1) v)
  · rw [List.getElem?_set_ne (by omega)] at hc
    exact (h3 j s' cs hs' hc).2 (by omega)
theorem TurnInv.finish {w0 : World} {M : Map49} {l : List S65} {base g cap N : Nat} {w : World} (h : TurnInv w0 M l base g cap N l.length w) : Kd.S k65 65 w base (fun _ => True) (.slice (some ⟨g, 0, none⟩) l.length cap) (l.map (turn65 M)) := by
  obtain ⟨rows, f, ⟨h0, inner, ho, hr⟩, h2, h3⟩ := h
  refine ⟨f, fun _ _ => trivial, inner, ?_, ?_, fun j p hj => ?_⟩
  · rw [List.length_zipIdx, List.length_map]; rw [h2] at ho; exact ho
  · rw [List.length_zipIdx, List.length_map, ← h2]; exact hr.1
  · rw [List.getElem?_zipIdx, Nat.zero_add, List.getElem?_map] at hj
    obtain ⟨s', hs', rfl⟩ := Option.map_eq_some_iff.1 hj
    obtain ⟨s, hs, rfl⟩ := Option.map_eq_some_iff.1 hs'
    have hjl : j < rows.length := by rw [h2]; exact (List.getElem?_eq_some_iff.1 hs).1
    have hc := List.getElem?_eq_getElem hjl
    have e := (hr.2 j _ hc).1
    have hm := (h3 j s _ hs hc).1 (by rw [← h2]; exact hjl)
    have e' : List.take (Kd.tag f k65).sz (List.drop (j * (Kd.tag f k65).sz) inner) = rows[j] := e
    rw [e']
    exact k65.M_mono (fun b hb => ⟨⟨trivial, fun he => hb.1 (by injection he)⟩, hb.2.1⟩) hm
def set8 (w : World) (g : Nat) (a0 a1 a2 a3 a4 a5 a6 a7 : Value) : World := ((((((((w.setCell ⟨g, 0, none⟩ a0).setCell ⟨g, 1, none⟩ a1).setCell ⟨g, 2, none⟩ a2).setCell ⟨g, 3, none⟩ a3).setCell ⟨g, 4, none⟩ a4).setCell ⟨g, 5, none⟩ a5).setCell ⟨g, 6, none⟩ a6).setCell ⟨g, 7, none⟩ a7)
theorem set8_grown (w : World) (g : Nat) (a0 a1 a2 a3 a4 a5 a6 a7 : Value) : w.grownBy (set8 w g a0 a1 a2 a3 a4 a5 a6 a7) (some g) := by
  unfold set8
  have h : ∀ {a b : World} (hg : a.grownBy b (some g)) (j : Nat) (v : Value), a.grownBy (b.setCell ⟨g, j, none⟩ v) (some g) := fun hg j v => hg.andThen (setCell_grown _ g j v) (fun q hq => Or.inr hq)
  exact h (h (h (h (h (h (h (setCell_grown w g 0 a0) 1 a1) 2 a2) 3 a3) 4 a4) 5 a5) 6 a6) 7 a7
theorem set8_blk {w : World} {g : Nat} {t : TypeId} {x0 x1 x2 x3 x4 x5 x6 x7 : Value} (h : w.heap[g]? = some (.cells #[x0, x1, x2, x3, x4, x5, x6, x7] t (0, 0))) (a0 a1 a2 a3 a4 a5 a6 a7 : Value) : (set8 w g a0 a1 a2 a3 a4 a5 a6 a7).heap[g]? = some (.cells #[a0, a1, a2, a3, a4, a5, a6, a7] t (0, 0)) := by
  have h0 := blk_put h 0 a0 (cs' := #[a0, x1, x2, x3, x4, x5, x6, x7]) rfl
  have h1 := blk_put h0 1 a1 (cs' := #[a0, a1, x2, x3, x4, x5, x6, x7]) rfl
  have h2 := blk_put h1 2 a2 (cs' := #[a0, a1, a2, x3, x4, x5, x6, x7]) rfl
  have h3 := blk_put h2 3 a3 (cs' := #[a0, a1, a2, a3, x4, x5, x6, x7]) rfl
  have h4 := blk_put h3 4 a4 (cs' := #[a0, a1, a2, a3, a4, x5, x6, x7]) rfl
  have h5 := blk_put h4 5 a5 (cs' := #[a0, a1, a2, a3, a4, a5, x6, x7]) rfl
  have h6 := blk_put h5 6 a6 (cs' := #[a0, a1, a2, a3, a4, a5, a6, x7]) rfl
  have h7 := blk_put h6 7 a7 (cs' := #[a0, a1, a2, a3, a4, a5, a6, a7]) rfl
  exact h7
theorem set8_Rk {α : Type} {d : Kd α} {e base : Nat} {ok : Nat → Prop} {w : World} {v : Value} {xs : List α} (h : d.R e w base ok v xs) {g t : Nat} {cells : Array Value} (hb : w.heap[g]? = some (.cells cells t (0, 0))) (ht : ∀ q, q ∈ e :: d.E → q ≠ t) (a0 a1 a2 a3 a4 a5 a6 a7 : Value) : d.R e (set8 w g a0 a1 a2 a3 a4 a5 a6 a7) base ok v xs :=
  Kd.R_mono (Kd.R_grown (Kd.R_types h hb ht) (set8_grown w g a0 a1 a2 a3 a4 a5 a6 a7) (fun k hk he => hk.2 (by injection he))) (fun _ hk => hk.1)
theorem set8_S {α : Type} {d : Kd α} {e base : Nat} {ok : Nat → Prop} {w : World} {v : Value} {xs : List α} (h : Kd.S d e w base ok v xs) {g t : Nat} {cells : Array Value} (hb : w.heap[g]? = some (.cells cells t (0, 0))) (ht : ∀ q, q ∈ e :: d.E → q ≠ t) (a0 a1 a2 a3 a4 a5 a6 a7 : Value) : Kd.S d e (set8 w g a0 a1 a2 a3 a4 a5 a6 a7) base ok v xs :=
  Kd.S_mono (Kd.S_grown (Kd.S_types h hb ht) (set8_grown w g a0 a1 a2 a3 a4 a5 a6 a7) (fun k hk he => hk.2 (by injection he))) (fun _ hk => hk.1)
def TurnV (w0 : World) (M : Map49) (l : List S65) (base : Nat) (V : Value) (N k : Nat) (wr : World) : Prop :=
  (∃ g cap, V = .slice (some ⟨g, 0, none⟩) l.length cap ∧ base ≤ g ∧ (∃ cells, wr.heap[g]? = some (.cells cells 65 (0, 0))) ∧ TurnInv w0 M l base g cap N k wr) ∨ (l = [] ∧ V = .slice none 0 0)
theorem TurnV.form {w0 : World} {M : Map49} {l : List S65} {base : Nat} {V : Value} {N k : Nat} {wr : World} (h : TurnV w0 M l base V N k wr) : ∃ A c, V = .slice A l.length c := by
  rcases h with ⟨g, cap, rfl, _⟩ | ⟨rfl, rfl⟩
  · exact ⟨_, _, rfl⟩
  · exact ⟨_, _, rfl⟩
theorem TurnV.of_raw {w0 w : World} {M : Map49} {l : List S65} {base : Nat} {V : Value} {rows : List (List Value)} (h1 : (Kd.raw 3).R 65 w base (fun _ => True) V rows) (h2 : rows.length = l.length) (h3 : ∀ (j : Nat) (x : S65) (cs : List Value), l[j]? = some x → rows[j]? = some cs → k65.K w0 x cs) : TurnV w0 M l base V w.heap.size 0 w := by
  have h1' := h1
  obtain ⟨_, inner, ho, _⟩ := h1'
  rcases ho.2 with ⟨rfl, hn⟩ | ⟨g, cap, cur, rfl, hb, hg, _⟩
  · exact .inr ⟨List.eq_nil_of_length_eq_zero (by omega), rfl⟩
  · rw [h2] at h1 ⊢
    exact .inl ⟨g, cap, rfl, hb, ⟨cur, hg⟩, TurnInv.start h1 h2 h3⟩
theorem TurnV.finish {w0 w : World} {M : Map49} {l : List S65} {base N : Nat} {V : Value} (h : TurnV w0 M l base V N l.length w) : Kd.S k65 65 w base (fun _ => True) V (l.map (turn65 M)) := by
  rcases h with ⟨g, cap, rfl, _, _, hi⟩ | ⟨rfl, rfl⟩
  · exact hi.finish
  · exact Kd.S_nil _ _ _ _ _
theorem TurnV.below {w0 : World} {M : Map49} {l : List S65} {base : Nat} {V : Value} {N k : Nat} {w w1 : World} (h : TurnV w0 M l base V N k w) (hb : Below w.heap.size w w1) : TurnV w0 M l base V N k w1 := by
  rcases h with ⟨g, cap, rfl, h1, ⟨cells, h2⟩, hi⟩ | h
  · exact .inl ⟨g, cap, rfl, h1, ⟨cells, blk_below h2 hb⟩, hi.below hb⟩
  · exact .inr h
theorem TurnV.round {w0 : World} {M : Map49} {l : List S65} {base : Nat} {V : Value} {N k : Nat} {w : World} (h : TurnV w0 M l base V N k w) : TurnV w0 M l base V w.heap.size k w := by
  rcases h with ⟨g, cap, rfl, h1, h2, hi⟩ | h
  · exact .inl ⟨g, cap, rfl, h1, h2, hi.round⟩
  · exact .inr h
/-- the row of the slots of a shape, anew -/
def AskRow (M : Map49) (s : S65) (base g N : Nat) (w : World) (v : Value) : Prop := k49.R 49 w base (fun b => b ≠ g ∧ N ≤ b) v (s.f2.map (ask M))
theorem AskRow.below {M : Map49} {s : S65} {base g N : Nat} {w w1 : World} {v : Value} (h : AskRow M s base g N w v) (hb : Below w.heap.size w w1) : AskRow M s base g N w1 v := Kd.R_below h hb
def Inv28 (x : S47) (w : World) (M : Map49) (g3 g4 : Nat) (P3 : Option Addr) (m3 d3 : Nat) (P7 : Option Addr) (d7 m N k : Nat) (wr : World) : Prop :=
  TurnV w M x.f7 m (.slice P7 x.f7.length d7) N k wr ∧ k49.R 49 wr w.heap.size (fun b => b < m) (.slice P3 m3 d3) (x.f3.map (ask M)) ∧ Below w.heap.size w wr ∧
    wr.heap[g3]? = some (.cells #[.int .i64 x.f0, .int .i64 x.f1, .int .i64 x.f2, .slice P3 m3 d3, .int .i64 x.f4, .int .i64 x.f5, .int .i64 x.f6, .slice P7 x.f7.length d7] 47 (0, 0)) ∧
    wr.heap[g4]? = some (.cells #[.int .i64 0, .int .i64 0, .int .i64 0, .slice none 0 0, .int .i64 0, .int .i64 0, .int .i64 0, .slice none 0 0] 47 (0, 0))
theorem rd_T65_at {l : List S65} {k : Nat} (h : k < l.length) : l[k]? = some (rd_T65 l (k : Int)) := by
  unfold rd_T65
  rw [Int.toNat_natCast, List.getD_eq_getElem?_getD, List.getElem?_eq_getElem h]; rfl
def dT6 : Nat → Option Tmp
  | 0 => some 21
  | 1 => some 22
  | 2 => some 23
  | 3 => some 24
  | 4 => some 25
  | 5 => some 26
  | 6 => some 27
  | 7 => some 28
  | 8 => some 29
  | 9 => some 30
  | 10 => some 31
  | 11 => some 32
  | 12 => some 33
  | _ => none
def FT6 (B : Nat) (M : Map49) (sh : S65) (base g3 g k n d7 N : Nat) (A2 : Option Addr) (c2 : Nat) : Nat → World → Value → Prop
  | 0, _, v => v = .pointer (some ⟨g3, 7, none⟩)
  | 1, _, v => v = .slice (some ⟨g, 0, none⟩) n d7
  | 2, _, v => v = .int .i64 (k : Int)
  | 3, _, v => v = .map (some B)
  | 4, _, v => v = .pointer (some ⟨g3, 7, none⟩)
  | 5, _, v => v = .slice (some ⟨g, 0, none⟩) n d7
  | 6, _, v => v = .int .i64 (k : Int)
  | 7, _, v => v = .pointer (some ⟨g, k * 3, none⟩)
  | 8, _, v => v = .pointer (some ⟨g, k * 3 + 2, none⟩)
  | 9, _, v => v = .slice A2 sh.f2.length c2
  | 10, w, v => AskRow M sh base g N w v
  | 11, _, v => v = .pointer (some ⟨g, k * 3, none⟩)
  | 12, _, v => v = .pointer (some ⟨g, k * 3 + 2, none⟩)
  | _, _, _ => True
theorem FT6_below (B : Nat) (M : Map49) (sh : S65) (base g3 g k n d7 N : Nat) (A2 : Option Addr) (c2 : Nat) (i : Nat) (w w1 : World) (v : Value) (h : FT6 B  M  sh  base g3 g k n d7 N  A2  c2  i w v) (hb : Below w.heap.size w w1) : FT6 B  M  sh  base g3 g k n d7 N  A2  c2  i w1 v := by
  match i with
  | 0 | 1 | 2 | 3 | 4 | 5 | 6 | 7 | 8 | 9 | 11 | 12 => exact h
  | 10 => exact h.below hb
  | (n + 13) => exact h
set_option maxHeartbeats 4000000 in
set_option maxRecDepth 100000 in
theorem turn_calls (B n : Nat) (M : Map49) (x : S47) (A3 : Option Addr) (c3 : Nat) (A7 : Option Addr) (c7 : Nat) (w : World) (hbk : Book w B n M) (h3 : k49.C w A3 x.f3.length x.f3) (h7 : k65.C w A7 x.f7.length x.f7)
    (l3 : x.f3.length * 16 ≤ 140737488355328) (l7 : x.f7.length * 40 ≤ 140737488355328) (ls : ∀ s ∈ x.f7, s.f2.length * 16 ≤ 140737488355328) (w3 : ∀ o ∈ x.f3, WF o.f1) (ws : ∀ s ∈ x.f7, ∀ o ∈ s.f2, WF o.f1) :
    Calls Try.prog 28 #[.map (some B), .agg #[.int .i64 x.f0, .int .i64 x.f1, .int .i64 x.f2, .slice A3 x.f3.length c3, .int .i64 x.f4, .int .i64 x.f5, .int .i64 x.f6, .slice A7 x.f7.length c7]] w fun e w' =>
      ∃ v3 v7, e = .returned (.agg #[.int .i64 x.f0, .int .i64 x.f1, .int .i64 x.f2, v3, .int .i64 x.f4, .int .i64 x.f5, .int .i64 x.f6, v7]) ∧ (∃ m, w.heap.size ≤ m ∧ k49.R 49 w' w.heap.size (fun b => b < m) v3 (x.f3.map (ask M)) ∧ Kd.S k65 65 w' m (fun _ => True) v7 (x.f7.map (turn65 M))) ∧ Below w.heap.size w w' := by
  have HBK := Aside0.mk hbk
  have H3 := Aside0.mk h3
  have H7 := Aside0.mk h7
  have HL3 := Aside0.mk l3
  have HL7 := Aside0.mk l7
  have HLS := Aside0.mk ls
  have HW3 := Aside0.mk w3
  have HWS := Aside0.mk ws
  clear hbk h3 h7 l3 l7 ls w3 ws
  go_enter Try.func28, Try.ntmps28
  go_upto_region 1 with (fail)
  have hbx := e4 w (.cells #[.int .i64 x.f0, .int .i64 x.f1, .int .i64 x.f2, .slice A3 x.f3.length c3, .int .i64 x.f4, .int .i64 x.f5, .int .i64 x.f6, .slice A7 x.f7.length c7] 47) (.cells #[.int .i64 0, .int .i64 0, .int .i64 0, .slice none 0 0, .int .i64 0, .int .i64 0, .int .i64 0, .slice none 0 0] 47)
  have K3 := blk_alloc (blk_new w (.cells #[.int .i64 x.f0, .int .i64 x.f1, .int .i64 x.f2, .slice A3 x.f3.length c3, .int .i64 x.f4, .int .i64 x.f5, .int .i64 x.f6, .slice A7 x.f7.length c7] 47)) (.cells #[.int .i64 0, .int .i64 0, .int .i64 0, .slice none 0 0, .int .i64 0, .int .i64 0, .int .i64 0, .slice none 0 0] 47)
  have K4 := blk_new (w.alloc (.cells #[.int .i64 x.f0, .int .i64 x.f1, .int .i64 x.f2, .slice A3 x.f3.length c3, .int .i64 x.f4, .int .i64 x.f5, .int .i64 x.f6, .slice A7 x.f7.length c7] 47)) (.cells #[.int .i64 0, .int .i64 0, .int .i64 0, .slice none 0 0, .int .i64 0, .int .i64 0, .int .i64 0, .slice none 0 0] 47)
  rw [World.size_alloc] at K4
  generalize (w.alloc (.cells #[.int .i64 x.f0, .int .i64 x.f1, .int .i64 x.f2, .slice A3 x.f3.length c3, .int .i64 x.f4, .int .i64 x.f5, .int .i64 x.f6, .slice A7 x.f7.length c7] 47)).alloc (.cells #[.int .i64 0, .int .i64 0, .int .i64 0, .slice none 0 0, .int .i64 0, .int .i64 0, .int .i64 0, .slice none 0 0] 47) = w1 at *
  have HG3 := Aside0.mk (Nat.le_refl w.heap.size)
  have HG4 := Aside0.mk (Nat.lt_succ_self w.heap.size)
  rw [Nat.succ_eq_add_one] at HG4
  generalize w.heap.size + 1 = g4 at *
  have HBX := Aside0.mk hbx
  clear hbx
  obtain ⟨g3, hg3⟩ : ∃ g3, g3 = w.heap.size := ⟨_, rfl⟩
  rw [← hg3] at K3 ⊢
  have HE3 := Aside0.mk hg3
  clear hg3
  have q3 : w1.cell? ⟨g3, 3, none⟩ = some (.slice A3 x.f3.length c3) := blk_cell K3 3
  have HK3 := Aside0.mk K3
  have HK4 := Aside0.mk K4
  clear K3 K4
  go_wp2_with (fail)
  refine (all_calls B n M A3 c3 x.f3 w1 (HBK.out.below HBX.out) (Kd.C_below H3.out HBX.out) HL3.out HW3.out).mono ?_
  rintro e w2 ⟨v3, rfl, hr3, hb2⟩
  replace hr3 := Kd.R_lower hr3 HBX.out.size
  obtain ⟨P3, m3, d3, rfl⟩ : ∃ P m d, v3 = .slice P m d := let ⟨A, c, h, _⟩ := Kd.R_reads hr3; ⟨_, _, _, h⟩
  have K3 := blk_below HK3.out hb2
  have K4 := blk_below HK4.out hb2
  clear q3
  have q3 : w2.cell? ⟨g3, 3, none⟩ = some (.slice A3 x.f3.length c3) := blk_cell K3 3
  have f3 := blk_frozen K3 3
  have HB2 := Aside0.mk (below_set (wB HBX.out hb2) (j := 3) (v := .slice P3 m3 d3) (g := g3) (Nat.le_of_eq HE3.out.symm))
  replace hr3 := Kd.R_mono (Kd.R_bound hr3) (fun b hb => show b < w2.heap.size from hb.2.2.1)
  have HR3 := Aside0.mk (Kd.R_set hr3 K3 (by decide) 3 (.slice P3 m3 d3))
  have hsz3 : (w2.setCell ⟨g3, 3, none⟩ (.slice P3 m3 d3)).heap.size = w2.heap.size := by simp [World.setCell]
  rw [← hsz3] at HR3
  clear hsz3
  replace HK3 := Aside0.mk (blk_put K3 3 (.slice P3 m3 d3) rfl)
  replace HK4 := Aside0.mk (blk_far K4 (p := ⟨g3, 3, none⟩) (by have := HE3.out; have := HG4.out; show g4 ≠ g3; omega) (.slice P3 m3 d3))
  clear hb2 hr3 K3 K4 HBX
  go_upto_region 2 with (fail)
  clear q3 f3
  generalize w2.setCell ⟨g3, 3, none⟩ (.slice P3 m3 d3) = w3 at *
  have q7 : w3.cell? ⟨g3, 7, none⟩ = some (.slice A7 x.f7.length c7) := blk_cell HK3.out 7
  go_wp2_with (fail)
  refine (clone_shapes A7 c7 x.f7 w w3 H7.out HB2.out HL7.out).mono ?_
  rintro e w4 ⟨v7, rows, rfl, hr7, hrl, hrk, hb4⟩
  have hV := TurnV.of_raw (M := M) hr7 hrl hrk
  obtain ⟨P7, d7, rfl⟩ := hV.form
  have K3 := blk_below HK3.out hb4
  have K4 := blk_below HK4.out hb4
  clear q7
  have q7 : w4.cell? ⟨g3, 7, none⟩ = some (.slice A7 x.f7.length c7) := blk_cell K3 7
  have f7 := blk_frozen K3 7
  have HB4 := Aside0.mk (below_set (wB HB2.out hb4) (j := 7) (v := .slice P7 x.f7.length d7) (g := g3) (Nat.le_of_eq HE3.out.symm))
  replace HR3 := Aside0.mk (Kd.R_set (Kd.R_below HR3.out hb4) K3 (by decide) 7 (.slice P7 x.f7.length d7))
  have hr7' := Kd.R_set hr7 K3 (by decide) 7 (.slice P7 x.f7.length d7)
  have HV := Aside0.mk (TurnV.of_raw (M := M) hr7' hrl hrk)
  have HSM := Aside0.mk (And.intro HB2.out.size hb4.size)
  have hsz5 : (w4.setCell ⟨g3, 7, none⟩ (.slice P7 x.f7.length d7)).heap.size = w4.heap.size := by simp [World.setCell]
  rw [← hsz5] at HSM
  clear hsz5
  replace HK3 := Aside0.mk (blk_put K3 7 (.slice P7 x.f7.length d7) rfl)
  replace HK4 := Aside0.mk (blk_far K4 (p := ⟨g3, 7, none⟩) (by have := HE3.out; have := HG4.out; show g4 ≠ g3; omega) (.slice P7 x.f7.length d7))
  clear hb4 hr7 K3 K4 HB2 hV hr7' hrl hrk
  go_upto_region 3 with (fail)
  clear q7 f7
  generalize w4.setCell ⟨g3, 7, none⟩ (.slice P7 x.f7.length d7) = w5 at *
  generalize w3.heap.size = m at *
  have q7 : w5.cell? ⟨g3, 7, none⟩ = some (.slice P7 x.f7.length d7) := blk_cell HK3.out 7
  have hl7 := HL7.out
  go_wp2_with (fail)
  clear q7 hl7
  go_loopw [18] (fun t wr => ∃ k : Nat, k ≤ x.f7.length ∧ t = .int .i64 k ∧ m ≤ wr.heap.size ∧ ∃ N, Inv28 x w M g3 g4 P3 m3 d3 P7 d7 m N k wr) (fun t _ => x.f7.length - (intOf t).toNat)
  case atStart => exact ⟨0, Nat.zero_le _, rfl, HSM.out.2, _, HV.out, HR3.out, HB4.out, HK3.out, HK4.out⟩
  case round =>
    clear HV HR3 HB4 HK3 HK4
    obtain ⟨k, hk, rfl, hmw, N0, hi0⟩ := hrel
    have hi : Inv28 x w M g3 g4 P3 m3 d3 P7 d7 m wr.heap.size k wr := ⟨hi0.1.round, hi0.2⟩
    have HMW := Aside0.mk hmw
    clear hi0 hmw
    by_cases hlt : k < x.f7.length
    · have HI := Aside0.mk hi
      obtain ⟨iV, i3, iB, iK3, iK4⟩ := hi
      rcases iV with ⟨g, cap, eV, hgb, ⟨cells, hcl⟩, iT⟩ | ⟨e0, _⟩
      rotate_left 1
      · rw [e0] at hlt; exact absurd hlt (by simp)
      injection eV with e1 e2 e3
      subst e1
      subst e3
      obtain ⟨A2, c2, y0, _, yC, fz⟩ := iT.elem (rd_T65_at hlt)
      have hm := List.mem_of_getElem? (rd_T65_at hlt)
      have HS := Aside0.mk (rd_T65_at hlt)
      have hls := HLS.out _ hm
      have hws := HWS.out _ hm
      generalize rd_T65 x.f7 (k : Int) = sh at *
      have X0 : ∀ w8, Below wr.heap.size wr w8 → w8.cell? ⟨g3, 7, none⟩ = some (.slice (some ⟨g, 0, none⟩) x.f7.length d7) := fun w8 b => blk_cell (blk_below iK3 b) 7
      have X1 : ∀ w8, Below wr.heap.size wr w8 → w8.cell? ⟨g, k * 3 + 2, none⟩ = some (.slice A2 sh.f2.length c2) := fun w8 b => pw_cell_below b y0
      have XX := Aside0.mk (And.intro X0 (And.intro X1 (And.intro yC (And.intro hls (And.intro hws iB)))))
      have HCL := Aside0.mk hcl
      have HGB := Aside0.mk hgb
      have GL : Aside0 (g < wr.heap.size) := ⟨blk_lt hcl⟩
      clear X0 X1 yC hls hws iB y0 fz hm i3 iK3 iK4 iT hcl hgb
      go_wp2_with (fail)
      rename_i hK
      refine RegInv.region_last2 (by kernel_rfl) (by kernel_rfl) (fun a b => Below a.heap.size a b) (fun a b c h k => wB h k) (below_drew1 (Below.refl _ _)) dT6 13 (by kernel_rfl) (by kernel_rfl) (by kernel_rfl) (by kernel_rfl) (FT6 B M sh m g3 g k x.f7.length d7 wr.heap.size A2 c2) (FT6_below B M sh m g3 g k x.f7.length d7 wr.heap.size A2 c2) ?hsT6 ?heT6
      case hsT6 =>
        clear hK
        intro i o a w8 hlt hi hM
        obtain ⟨X0, X1, _⟩ := XX.out
        rcases i with _ | _ | _ | _ | _ | _ | _ | _ | _ | _ | _ | _ | _ | i
        · cases hi
          have h0 := gdq _ _ _ (show a.tmps.getD 3 undef = .pointer (some ⟨g3, 0, none⟩) from hM.off 3 (by kernel_rfl))
          refine RegInv.op_value (by rfl) rfl (v := .pointer (some ⟨g3, 7, none⟩)) (w' := w8) ?_ ⟨_, rfl, rfl, Below.refl _ _⟩
          unfold execOp
          go_simp
        · cases hi
          have h0 := gdq _ _ _ (show a.tmps.getD 21 undef = .pointer (some ⟨g3, 7, none⟩) from hM.at_ 0 (by decide) (by kernel_rfl))
          have y := X0 w8 hM.ext
          refine RegInv.op_value (by rfl) rfl (v := .slice (some ⟨g, 0, none⟩) x.f7.length d7) (w' := w8) ?_ ⟨_, rfl, rfl, Below.refl _ _⟩
          unfold execOp
          go_simp
        · cases hi
          have h0 := gdq _ _ _ (show a.tmps.getD 5 undef = .int .i64 (k : Int) from hM.off 5 (by kernel_rfl))
          refine RegInv.op_value (by rfl) rfl (v := .int .i64 (k : Int)) (w' := w8) ?_ ⟨_, rfl, rfl, Below.refl _ _⟩
          unfold execOp
          go_simp
        · cases hi
          have h0 := gdq _ _ _ (show a.tmps.getD 0 undef = .map (some B) from hM.off 0 (by kernel_rfl))
          refine RegInv.op_value (by rfl) rfl (v := .map (some B)) (w' := w8) ?_ ⟨_, rfl, rfl, Below.refl _ _⟩
          unfold execOp
          go_simp
        · cases hi
          have h0 := gdq _ _ _ (show a.tmps.getD 3 undef = .pointer (some ⟨g3, 0, none⟩) from hM.off 3 (by kernel_rfl))
          refine RegInv.op_value (by rfl) rfl (v := .pointer (some ⟨g3, 7, none⟩)) (w' := w8) ?_ ⟨_, rfl, rfl, Below.refl _ _⟩
          unfold execOp
          go_simp
        · cases hi
          have h0 := gdq _ _ _ (show a.tmps.getD 25 undef = .pointer (some ⟨g3, 7, none⟩) from hM.at_ 4 (by decide) (by kernel_rfl))
          have y := X0 w8 hM.ext
          refine RegInv.op_value (by rfl) rfl (v := .slice (some ⟨g, 0, none⟩) x.f7.length d7) (w' := w8) ?_ ⟨_, rfl, rfl, Below.refl _ _⟩
          unfold execOp
          go_simp
        · cases hi
          have h0 := gdq _ _ _ (show a.tmps.getD 5 undef = .int .i64 (k : Int) from hM.off 5 (by kernel_rfl))
          refine RegInv.op_value (by rfl) rfl (v := .int .i64 (k : Int)) (w' := w8) ?_ ⟨_, rfl, rfl, Below.refl _ _⟩
          unfold execOp
          go_simp
        · cases hi
          have h0 := gdq _ _ _ (show a.tmps.getD 26 undef = .slice (some ⟨g, 0, none⟩) x.f7.length d7 from hM.at_ 5 (by decide) (by kernel_rfl))
          have h1 := gdq _ _ _ (show a.tmps.getD 27 undef = .int .i64 (k : Int) from hM.at_ 6 (by decide) (by kernel_rfl))
          refine RegInv.op_value (by rfl) rfl (v := .pointer (some ⟨g, k * 3, none⟩)) (w' := w8) ?_ ⟨_, rfl, rfl, Below.refl _ _⟩
          unfold execOp
          go_simp
        · cases hi
          have h0 := gdq _ _ _ (show a.tmps.getD 28 undef = .pointer (some ⟨g, k * 3, none⟩) from hM.at_ 7 (by decide) (by kernel_rfl))
          refine RegInv.op_value (by rfl) rfl (v := .pointer (some ⟨g, k * 3 + 2, none⟩)) (w' := w8) ?_ ⟨_, rfl, rfl, Below.refl _ _⟩
          unfold execOp
          go_simp
        · cases hi
          have h0 := gdq _ _ _ (show a.tmps.getD 29 undef = .pointer (some ⟨g, k * 3 + 2, none⟩) from hM.at_ 8 (by decide) (by kernel_rfl))
          have y := X1 w8 hM.ext
          refine RegInv.op_value (by rfl) rfl (v := .slice A2 sh.f2.length c2) (w' := w8) ?_ ⟨_, rfl, rfl, Below.refl _ _⟩
          unfold execOp
          go_simp
        · cases hi
          have h0 := gdq _ _ _ (show a.tmps.getD 24 undef = .map (some B) from hM.at_ 3 (by decide) (by kernel_rfl))
          have h1 := gdq _ _ _ (show a.tmps.getD 30 undef = .slice A2 sh.f2.length c2 from hM.at_ 9 (by decide) (by kernel_rfl))
          refine RegInv.op_call (by rfl) rfl Try.func45 (by kernel_rfl) rfl rfl #[.map (some B), .slice A2 sh.f2.length c2] (by simp [Act.eval, h0, h1]) ?_
          refine (all_calls B n M A2 c2 sh.f2 w8 (HBK.out.below (wB XX.out.2.2.2.2.2 hM.ext)) (Kd.C_below XX.out.2.2.1 (wB XX.out.2.2.2.2.2 hM.ext)) XX.out.2.2.2.1 XX.out.2.2.2.2.1).mono ?_
          rintro e w9 ⟨v, rfl, hr, b⟩
          exact ⟨_, rfl, _, rfl, (Kd.R_lower (Kd.R_mono (Kd.R_bound hr) (fun q hq => by have h1 := hq.2.1; have h2 := GL.out; have h3 := hM.ext.size; show q ≠ g ∧ wr.heap.size ≤ q; omega)) (Nat.le_trans HMW.out hM.ext.size)), b⟩
        · cases hi
          have h0 := gdq _ _ _ (show a.tmps.getD 22 undef = .slice (some ⟨g, 0, none⟩) x.f7.length d7 from hM.at_ 1 (by decide) (by kernel_rfl))
          have h1 := gdq _ _ _ (show a.tmps.getD 23 undef = .int .i64 (k : Int) from hM.at_ 2 (by decide) (by kernel_rfl))
          refine RegInv.op_value (by rfl) rfl (v := .pointer (some ⟨g, k * 3, none⟩)) (w' := w8) ?_ ⟨_, rfl, rfl, Below.refl _ _⟩
          unfold execOp
          go_simp
        · cases hi
          have h0 := gdq _ _ _ (show a.tmps.getD 32 undef = .pointer (some ⟨g, k * 3, none⟩) from hM.at_ 11 (by decide) (by kernel_rfl))
          refine RegInv.op_value (by rfl) rfl (v := .pointer (some ⟨g, k * 3 + 2, none⟩)) (w' := w8) ?_ ⟨_, rfl, rfl, Below.refl _ _⟩
          unfold execOp
          go_simp
        · exact absurd hlt (by omega)
      intro vs w5 b hF
      have e12 : vs 12 = .pointer (some ⟨g, k * 3 + 2, none⟩) := hF 12 (by omega)
      have e10 : AskRow M sh m g wr.heap.size w5 (vs 10) := hF 10 (by omega)
      clear hF
      simp only [RegInv.puts, dT6, Act.put, List.range, List.range.loop, List.setIfInBounds_toArray, List.set_cons_zero, List.set_cons_succ]
      rw [e12]
      clear e12
      obtain ⟨P9, m9, d9, e9⟩ : ∃ P m d, vs 10 = .slice P m d := let ⟨A, c, h, _⟩ := Kd.R_reads e10; ⟨_, _, _, h⟩
      have HI5 : Inv28 x w M g3 g4 P3 m3 d3 (some ⟨g, 0, none⟩) d7 m wr.heap.size k w5 := let ⟨i1, i2, i3, i4, i5⟩ := HI.out; ⟨i1.below b, Kd.R_below i2 b, wB i3 b, blk_below i4 b, blk_below i5 b⟩
      obtain ⟨iV, i3, iB, iK3, iK4⟩ := HI5
      rcases iV with ⟨g', cap', eV, _, _, iT⟩ | ⟨e0, _⟩
      rotate_left 1
      · rw [e0] at hlt; exact absurd hlt (by simp)
      injection eV with e1 _ e3
      injection e1 with e1
      injection e1 with e1
      subst e1
      subst e3
      obtain ⟨A8, c8, y0, _, _, fz⟩ := iT.elem HS.out
      have hcl := blk_below HCL.out b
      rw [e9]
      have g3ne : g3 ≠ g := blk_ne iK3 hcl (by decide)
      have g4ne : g4 ≠ g := blk_ne iK4 hcl (by decide)
      have hgb := HGB.out
      rw [e9] at e10
      have iT' := iT.store (N' := w5.heap.size) b.size HS.out (Kd.R_mono (Kd.R_bound e10) (fun q hq => ⟨hq.1.1, hq.1.2, hq.2.2.1⟩))
      have HMW6 := Aside0.mk (Nat.le_trans HMW.out b.size)
      have hsz6 : (w5.setCell ⟨g, k * 3 + 2, none⟩ (.slice P9 m9 d9)).heap.size = w5.heap.size := by simp [World.setCell]
      have hN6 := (rfl : w5.heap.size = w5.heap.size)
      rw [← hsz6] at HMW6
      clear hsz6 hN6
      refine RegInv.op_skip (by rfl) rfl (w' := w5.setCell ⟨g, k * 3 + 2, none⟩ (.slice P9 m9 d9)) ?run ?_
      case run =>
        clear HI HBK iK3 iK4 hcl iT iT' i3
        unfold execOp
        go_simp
      have HI6 : Inv28 x w M g3 g4 P3 m3 d3 (some ⟨g, 0, none⟩) d7 m w5.heap.size (k + 1) (w5.setCell ⟨g, k * 3 + 2, none⟩ (.slice P9 m9 d9)) :=
        ⟨.inl ⟨g, d7, rfl, hgb, ⟨_, blk_set hcl _ _⟩, iT'⟩, Kd.R_set i3 hcl (by decide) _ _, below_set iB (Nat.le_trans HSM.out.1 hgb), blk_far iK3 (p := ⟨g, k * 3 + 2, none⟩) g3ne _, blk_far iK4 (p := ⟨g, k * 3 + 2, none⟩) g4ne _⟩
      clear y0 fz i3 iB iK3 iK4 iT iT' e10 e9 hcl
      generalize w5.setCell ⟨g, k * 3 + 2, none⟩ (.slice P9 m9 d9) = w6 at *
      replace HI6 := Aside0.mk HI6
      generalize vs 0 = t0
      generalize vs 1 = t1
      generalize vs 2 = t2
      generalize vs 3 = t3
      generalize vs 4 = t4
      generalize vs 5 = t5
      generalize vs 6 = t6
      generalize vs 7 = t7
      generalize vs 8 = t8
      generalize vs 9 = t9
      generalize vs 11 = t11
      have hl7 := HL7.out
      refine hK _ _ ?_
      clear hK
      go_wp2
      go_roundw
      case rel => exact ⟨k + 1, by omega, by go_num, HMW6.out, _, HI6.out⟩
      case measure => simp [intOf]; omega
    · obtain rfl : k = x.f7.length := by omega
      obtain ⟨iV, i3, iB, iK3, iK4⟩ := hi
      have r3 := i3
      have r7 := iV.finish
      have HR3 := Aside0.mk r3
      have HR7 := Aside0.mk r7
      have HBB := Aside0.mk iB
      clear i3 iV r3 r7 iB
      have q0 : wr.cell? ⟨g3, 0, none⟩ = some (.int .i64 x.f0) := blk_cell iK3 0
      have q1 : wr.cell? ⟨g3, 1, none⟩ = some (.int .i64 x.f1) := blk_cell iK3 1
      have q2 : wr.cell? ⟨g3, 2, none⟩ = some (.int .i64 x.f2) := blk_cell iK3 2
      have q3 : wr.cell? ⟨g3, 3, none⟩ = some (.slice P3 m3 d3) := blk_cell iK3 3
      have q4 : wr.cell? ⟨g3, 4, none⟩ = some (.int .i64 x.f4) := blk_cell iK3 4
      have q5 : wr.cell? ⟨g3, 5, none⟩ = some (.int .i64 x.f5) := blk_cell iK3 5
      have q6 : wr.cell? ⟨g3, 6, none⟩ = some (.int .i64 x.f6) := blk_cell iK3 6
      have q7 : wr.cell? ⟨g3, 7, none⟩ = some (.slice P7 x.f7.length d7) := blk_cell iK3 7
      have p0 : wr.cell? ⟨g4, 0, none⟩ = some (.int .i64 0) := blk_cell iK4 0
      have f0 := blk_frozen iK4 0
      have p1 : wr.cell? ⟨g4, 1, none⟩ = some (.int .i64 0) := blk_cell iK4 1
      have f1 := blk_frozen iK4 1
      have p2 : wr.cell? ⟨g4, 2, none⟩ = some (.int .i64 0) := blk_cell iK4 2
      have f2 := blk_frozen iK4 2
      have p3 : wr.cell? ⟨g4, 3, none⟩ = some (.slice none 0 0) := blk_cell iK4 3
      have f3 := blk_frozen iK4 3
      have p4 : wr.cell? ⟨g4, 4, none⟩ = some (.int .i64 0) := blk_cell iK4 4
      have f4 := blk_frozen iK4 4
      have p5 : wr.cell? ⟨g4, 5, none⟩ = some (.int .i64 0) := blk_cell iK4 5
      have f5 := blk_frozen iK4 5
      have p6 : wr.cell? ⟨g4, 6, none⟩ = some (.int .i64 0) := blk_cell iK4 6
      have f6 := blk_frozen iK4 6
      have p7 : wr.cell? ⟨g4, 7, none⟩ = some (.slice none 0 0) := blk_cell iK4 7
      have f7 := blk_frozen iK4 7
      have IK4 := Aside0.mk iK4
      clear iK3 iK4
      go_wp2
      have hE : ∀ a0 a1 a2 a3 a4 a5 a6 a7, ((((((((wr.setCell ⟨g4, 0, none⟩ a0).setCell ⟨g4, 1, none⟩ a1).setCell ⟨g4, 2, none⟩ a2).setCell ⟨g4, 3, none⟩ a3).setCell ⟨g4, 4, none⟩ a4).setCell ⟨g4, 5, none⟩ a5).setCell ⟨g4, 6, none⟩ a6).setCell ⟨g4, 7, none⟩ a7) = set8 wr g4 a0 a1 a2 a3 a4 a5 a6 a7 := fun _ _ _ _ _ _ _ _ => rfl
      rw [hE]
      clear hE
      refine bodyPost_ret (results_single (fn := Try.f28) (r := .cell 4 47) rfl (.cell g4 47 #[.int .i64 x.f0, .int .i64 x.f1, .int .i64 x.f2, .slice P3 m3 d3, .int .i64 x.f4, .int .i64 x.f5, .int .i64 x.f6, .slice P7 x.f7.length d7] (0, 0) _ rfl (set8_blk IK4.out _ _ _ _ _ _ _ _) Try.underlying47 rfl (by kernel_rfl) .nil)) rfl ?_
      exact ⟨_, _, rfl, ⟨m, HSM.out.1, set8_Rk HR3.out IK4.out (by decide) _ _ _ _ _ _ _ _, set8_S HR7.out IK4.out (by decide) _ _ _ _ _ _ _ _⟩, HBB.out.grown (set8_grown _ _ _ _ _ _ _ _ _ _) HBB.out.size (fun k hk => by injection hk with hk; have := HG4.out; omega)⟩
end Go.Proofs.Ytjekpkpmoanadaa.PCop
/- Kinds whose parts lie apart: a list of which no two elements lead to one block (sl), two parts that lead to no common block (two). -/
namespace Go.Proofs.Ytjekpkpmoanadaa.FarKd
open Go.RowKit Go.Proofs.Ytjekpkpmoanadaa.Lit Go.Proofs.Ytjekpkpmoanadaa.OwnCells Go.Proofs.YtjekpkpmoanadaaW.PrintWords
set_option linter.unusedVariables false
/-- a list no two of whose elements lead to one block -/
def sl {α : Type} (e : Nat) (d : Kd α) : Kd (List α) where
  sz := 1
  E := e :: d.E
  K := fun w xs cs => ∃ A c, cs = [.slice A xs.length c] ∧ xs.length ≤ c ∧ d.C w A xs.length xs
  M := fun w base ok xs cs => ∃ v, cs = [v] ∧ Kd.S d e w base ok v xs
  K_len := (Kd.slice e d).K_len
  K_one := (Kd.slice e d).K_one
  K_below := (Kd.slice e d).K_below
  K_of_M := by
    rintro w base ok x cs ⟨v, rfl, h⟩
    obtain ⟨A, c, rfl, hl, hr⟩ := Kd.S_reads h
    exact ⟨A, c, rfl, hl, hr⟩
  M_mono := by
    rintro w base ok ok' x cs hok ⟨v, rfl, h⟩
    exact ⟨v, rfl, Kd.S_mono h hok⟩
  M_bound := by
    rintro w base ok x cs ⟨v, rfl, h⟩
    exact ⟨v, rfl, Kd.S_bound h⟩
  M_move := by
    rintro w w1 base ok x cs hm ⟨v, rfl, h⟩
    exact ⟨v, rfl, Kd.S_move h hm⟩
  M_lower := by
    rintro w base base' ok x cs hb ⟨v, rfl, h⟩
    exact ⟨v, rfl, Kd.S_lower h hb⟩
/-- two parts that lead to no common block -/
def two {α β : Type} (a : Kd α) (b : Kd β) : Kd (α × β) where
  sz := a.sz + b.sz
  E := a.E ++ b.E
  K := (Kd.pair a b).K
  M := fun w base ok x cs => ∃ (p : Nat → Prop) (c0 c1 : List Value), cs = c0 ++ c1 ∧ a.M w base (fun k => ok k ∧ p k) x.1 c0 ∧ b.M w base (fun k => ok k ∧ ¬ p k) x.2 c1
  K_len := (Kd.pair a b).K_len
  K_one := (Kd.pair a b).K_one
  K_below := (Kd.pair a b).K_below
  K_of_M := by
    rintro w base ok x cs ⟨p, c0, c1, rfl, h0, h1⟩
    exact ⟨c0, c1, rfl, a.K_of_M h0, b.K_of_M h1⟩
  M_mono := by
    rintro w base ok ok' x cs hok ⟨p, c0, c1, rfl, h0, h1⟩
    exact ⟨p, c0, c1, rfl, a.M_mono (fun k hk => ⟨hok k hk.1, hk.2⟩) h0, b.M_mono (fun k hk => ⟨hok k hk.1, hk.2⟩) h1⟩
  M_bound := by
    rintro w base ok x cs ⟨p, c0, c1, rfl, h0, h1⟩
    refine ⟨p, c0, c1, rfl, a.M_mono ?_ (a.M_bound h0), b.M_mono ?_ (b.M_bound h1)⟩
    · rintro k ⟨⟨h1, h2⟩, h3, h4, q, hq, hc⟩
      exact ⟨⟨h1, h3, h4, q, List.mem_append_left _ hq, hc⟩, h2⟩
    · rintro k ⟨⟨h1, h2⟩, h3, h4, q, hq, hc⟩
      exact ⟨⟨h1, h3, h4, q, List.mem_append_right _ hq, hc⟩, h2⟩
  M_move := by
    rintro w w1 base ok x cs hm ⟨p, c0, c1, rfl, h0, h1⟩
    exact ⟨p, c0, c1, rfl, a.M_move (fun k hk => hm k hk.1) h0, b.M_move (fun k hk => hm k hk.1) h1⟩
  M_lower := by
    rintro w base base' ok x cs hb ⟨p, c0, c1, rfl, h0, h1⟩
    exact ⟨p, c0, c1, rfl, a.M_lower hb h0, b.M_lower hb h1⟩
section
variable {α β : Type} {d : Kd α} {e base : Nat} {ok : Nat → Prop} {w w1 : World} {v : Value} {xs : List α} {S : Nat → Prop}
theorem S_but (h : Kd.S d e w base ok v xs) (hb : But S w w1) (hS : ∀ k, ok k → ¬ S k) : Kd.S d e w1 base ok v xs := Kd.S_step h (fun k hk hlt => hb.block k hlt (hS k hk))
/-- rows are no maps -/
theorem S_nomap (h : Kd.S d e w base ok v xs) {B : Nat} {es : Array MapEntry} {clock : Nat} (hB : w.heap[B]? = some (.map es clock)) : Kd.S d e w base (fun k => ok k ∧ k < w.heap.size ∧ k ≠ B) v xs :=
  Kd.S_mono (Kd.S_bound h) (fun k hk => ⟨hk.1, hk.2.2.1, fun he => by
    obtain ⟨_, _, _, q, hq, cells, hc⟩ := hk
    subst he
    rw [hB] at hc
    cases hc⟩)
end
end Go.Proofs.Ytjekpkpmoanadaa.FarKd
-- written by a program of this session (leafprint.py) over the translation; Lean checks it
namespace Go.Proofs.Ytjekpkpmoanadaa.PCop
open Go.RowKit Go.Proofs.YtjekpkpmoanadaaW.PrintWords Go.Proofs.YtjekpkpmoanadaaW.PrintLast Go.Proofs.YtjekpkpmoanadaaW.PrintMore
attribute [local go_sem] max2_int min2_int max_two min_two max_three min_three max_four min_four   -- for this text's walks alone
set_option linter.unusedVariables false
set_option linter.unusedSimpArgs false

theorem eqA49 (d : Nat) (w : World) (x0 y0 : Int) (x1 y1 : Int) :
    (Op.equalIn (d + 2) 49 (.agg #[.int .i64 x0, .int .i64 x1]) (.agg #[.int .i64 y0, .int .i64 y1])).run Try.prog w = .ok (x0 == y0 && (x1 == y1)) w := by
  refine eqA_of Try.underlying49 (by kernel_rfl) ?_
  refine eqf_cons (by rfl) (by go_simp; rfl) (by go_simp; rfl) (by go_simp) ?_
  exact eqf_last (by rfl) (by go_simp; rfl) (by go_simp; rfl) (by go_simp)
end Go.Proofs.Ytjekpkpmoanadaa.PCop
/- copies.Run, plainly; what the walk of Run carries from round to round. -/
namespace Go.Proofs.Ytjekpkpmoanadaa.PCop
open Go.RowKit Go.Proofs.Ytjekpkpmoanadaa.FarKd Go.Proofs.Ytjekpkpmoanadaa.Lit Go.Proofs.Ytjekpkpmoanadaa.OwnCells Go.Proofs.YtjekpkpmoanadaaW.PrintWords Go.Proofs.YtjekpkpmoanadaaW.PrintLast Go.Proofs.YtjekpkpmoanadaaW.PrintMore
open Go.Maps
set_option linter.unusedVariables false
set_option linter.unusedSimpArgs false
instance eq49 : DecidableEq S49 := fun a b => decidable_of_iff (a.f0 = b.f0 ∧ a.f1 = b.f1) ⟨fun h => by cases a; cases b; simp at h; obtain ⟨rfl, rfl⟩ := h; rfl, fun h => by subst h; exact ⟨rfl, rfl⟩⟩
/-- what an instruction moves -/
def movesOf (x : S47) : Option S49 := if x.f0 = 1 then (match x.f3 with | [o] => some o | _ => none) else none
def putM (M : Map49) (r : Int) : Option S49 → Map49
  | some o => fun a => if a = r then some o else M a
  | none => M
def stepS (st : Map49 × List S47) (old : S47) : Map49 × List S47 :=
  if old.f2 = -1 then (st.1, st.2 ++ [turn47 st.1 old])
  else if movesOf (turn47 st.1 old) = some ⟨0, old.f2⟩ then st
  else (putM (writ st.1 old.f2) old.f2 (movesOf (turn47 st.1 old)), st.2 ++ [turn47 st.1 old])
def blockS (b : S43) : S43 := ⟨b.f0, (b.f1.foldl stepS (noMap, [])).2, b.f2⟩
def runS (l : List S43) : List S43 := l.map blockS
/-! sizes and key bounds of what is handed in -/
structure OkX (x : S47) : Prop where
  dst : WF x.f2
  args : x.f3.length * 16 ≤ 140737488351232
  exit : x.f7.length * 40 ≤ 140737488351232
  slots : ∀ s ∈ x.f7, s.f2.length * 16 ≤ 140737488351232
  wfa : ∀ o ∈ x.f3, WF o.f1
  wfs : ∀ s ∈ x.f7, ∀ o ∈ s.f2, WF o.f1
structure OkL (l : List S43) : Prop where
  len : l.length * 56 ≤ 140737488351232
  ins : ∀ b ∈ l, b.f1.length * 96 ≤ 140737488351232
  next : ∀ b ∈ l, b.f2.length * 8 ≤ 140737488351232
  each : ∀ b ∈ l, ∀ x ∈ b.f1, OkX x
theorem eql49 (w : World) (x0 y0 x1 y1 : Int) : (binOp .eql 49 (.agg #[.int .i64 x0, .int .i64 x1]) (.agg #[.int .i64 y0, .int .i64 y1])).run Try.prog w = .ok (.bool (x0 == y0 && (x1 == y1))) w := by
  simp [binOp, Op.equal, Op.maxDepth, eqA49 9998 w x0 y0 x1 y1]
/-! what other writes leave -/
theorem R_but {α : Type} {d : Kd α} {e base : Nat} {ok : Nat → Prop} {w w1 : World} {v : Value} {xs : List α} {S : Nat → Prop} (h : d.R e w base ok v xs) (hb : But S w w1) (hS : ∀ k, ok k → ¬ S k) : d.R e w1 base ok v xs := Kd.R_step h (fun k hk hlt => hb.block k hlt (hS k hk))
theorem blk_but {w w1 : World} {g : Nat} {o : Obj} {S : Nat → Prop} (h : w.heap[g]? = some o) (hb : But S w w1) (hS : ¬ S g) : w1.heap[g]? = some o := (hb.block g (blk_lt h) hS).trans h
theorem Book.blk {w : World} {B n : Nat} {M : Map49} (h : Book w B n M) : ∃ es clock, w.heap[B]? = some (.map es clock) := let ⟨D, ⟨es, clock, hb, _⟩, _⟩ := h; ⟨es, clock, hb⟩
/-- rows are no maps -/
theorem R_nomap {α : Type} {d : Kd α} {e base : Nat} {ok : Nat → Prop} {w : World} {v : Value} {xs : List α} (h : d.R e w base ok v xs) {B : Nat} {es : Array MapEntry} {clock : Nat} (hB : w.heap[B]? = some (.map es clock)) : d.R e w base (fun k => ok k ∧ k < w.heap.size ∧ k ≠ B) v xs :=
  Kd.R_mono (Kd.R_bound h) (fun k hk => ⟨hk.1, hk.2.2.1, fun he => by
    obtain ⟨_, _, _, q, hq, cells, hc⟩ := hk
    subst he
    rw [hB] at hc
    cases hc⟩)
/-- .. nor of another type -/
theorem M_apart {α β : Type} {d : Kd α} {d' : Kd β} {e base base' : Nat} {ok ok' : Nat → Prop} {w : World} {v : Value} {ys : List β} {x : α} {cs : List Value} (h : d.M w base ok x cs) (hv : d'.R e w base' ok' v ys) (ht : ∀ q, q ∈ d.E → q ≠ e) : d.M w base (fun k => ok k ∧ some k ≠ v.ownBlock) x cs := by
  obtain ⟨_, inner, ho, _⟩ := hv
  cases hob : v.ownBlock with
  | none => exact d.M_mono (fun k hk => ⟨hk, by simp⟩) h
  | some g =>
    obtain ⟨cells, hc⟩ := own_typed ho g hob
    exact d.M_mono (fun k hk => ⟨hk.1, fun he => hk.2 (by injection he)⟩) (Kd.M_types h hc ht)
theorem R_apart {α β : Type} {d : Kd α} {d' : Kd β} {t e base base' : Nat} {ok ok' : Nat → Prop} {w : World} {u v : Value} {xs : List α} {ys : List β} (h : d.R t w base ok u xs) (hv : d'.R e w base' ok' v ys) (ht : ∀ q, q ∈ t :: d.E → q ≠ e) : d.R t w base (fun k => ok k ∧ some k ≠ v.ownBlock) u xs := by
  obtain ⟨_, inner, ho, _⟩ := hv
  cases hob : v.ownBlock with
  | none => exact Kd.R_mono h (fun k hk => ⟨hk, by simp⟩)
  | some g =>
    obtain ⟨cells, hc⟩ := own_typed ho g hob
    exact Kd.R_mono (Kd.R_types h hc ht) (fun k hk => ⟨hk.1, fun he => hk.2 (by injection he)⟩)
theorem own_ne {β : Type} {d' : Kd β} {e base' t : Nat} {ok' : Nat → Prop} {w : World} {v : Value} {ys : List β} (hv : d'.R e w base' ok' v ys) {g : Nat} {cs : Array Value} (hg : w.heap[g]? = some (.cells cs t (0, 0))) (ht : t ≠ e) : some g ≠ v.ownBlock := fun he => by
  obtain ⟨_, inner, ho, _⟩ := hv
  obtain ⟨cells, hc⟩ := own_typed ho g he.symm
  exact blk_ne hg hc ht rfl
theorem own_no_map {β : Type} {d' : Kd β} {e base' : Nat} {ok' : Nat → Prop} {w : World} {v : Value} {ys : List β} (hv : d'.R e w base' ok' v ys) {B : Nat} {es : Array MapEntry} {clock : Nat} (hB : w.heap[B]? = some (.map es clock)) : some B ≠ v.ownBlock := fun he => by
  obtain ⟨_, inner, ho, _⟩ := hv
  obtain ⟨cells, hc⟩ := own_typed ho B he.symm
  rw [hB] at hc
  cases hc
/-- kinds whose parts lie apart -/
def kA47 : Kd S47 := Kd.iso (Kd.pair (Kd.int .i64) (Kd.pair (Kd.int .i64) (Kd.pair (Kd.int .i64) (two (Kd.slice 49 k49) (Kd.pair (Kd.int .i64) (Kd.pair (Kd.int .i64) (Kd.pair (Kd.int .i64) (sl 65 k65)))))))) (fun x : S47 => (x.f0, x.f1, x.f2, x.f3, x.f4, x.f5, x.f6, x.f7))
theorem kA47_mkM (w : World) (base : Nat) (ok p : Nat → Prop) (x : S47) {v3 v7 : Value} (g3 : k49.R 49 w base (fun k => ok k ∧ p k) v3 x.f3) (g7 : Kd.S k65 65 w base (fun k => ok k ∧ ¬ p k) v7 x.f7) : kA47.M w base ok x [.int .i64 x.f0, .int .i64 x.f1, .int .i64 x.f2, v3, .int .i64 x.f4, .int .i64 x.f5, .int .i64 x.f6, v7] :=
  ⟨[.int .i64 x.f0], [.int .i64 x.f1, .int .i64 x.f2, v3, .int .i64 x.f4, .int .i64 x.f5, .int .i64 x.f6, v7], rfl, rfl, [.int .i64 x.f1], [.int .i64 x.f2, v3, .int .i64 x.f4, .int .i64 x.f5, .int .i64 x.f6, v7], rfl, rfl, [.int .i64 x.f2], [v3, .int .i64 x.f4, .int .i64 x.f5, .int .i64 x.f6, v7], rfl, rfl, p, [v3], [.int .i64 x.f4, .int .i64 x.f5, .int .i64 x.f6, v7], rfl, ⟨v3, rfl, g3⟩,
    [.int .i64 x.f4], [.int .i64 x.f5, .int .i64 x.f6, v7], rfl, rfl, [.int .i64 x.f5], [.int .i64 x.f6, v7], rfl, rfl, [.int .i64 x.f6], [v7], rfl, rfl, ⟨v7, rfl, g7⟩⟩
theorem kA47_openM {w : World} {base : Nat} {ok : Nat → Prop} {x : S47} {cs : List Value} (h : kA47.M w base ok x cs) : ∃ (p : Nat → Prop) (v3 v7 : Value), cs = [.int .i64 x.f0, .int .i64 x.f1, .int .i64 x.f2, v3, .int .i64 x.f4, .int .i64 x.f5, .int .i64 x.f6, v7] ∧ k49.R 49 w base (fun k => ok k ∧ p k) v3 x.f3 ∧ Kd.S k65 65 w base (fun k => ok k ∧ ¬ p k) v7 x.f7 := by
  obtain ⟨_, _, rfl, rfl, _, _, rfl, rfl, _, _, rfl, rfl, p, _, _, rfl, ⟨v3, rfl, g3⟩, _, _, rfl, rfl, _, _, rfl, rfl, _, _, rfl, rfl, ⟨v7, rfl, g7⟩⟩ := h
  exact ⟨p, v3, v7, rfl, g3, g7⟩
def kA43 : Kd S43 := Kd.iso (Kd.pair (Kd.int .i64) (Kd.pair (sl 47 kA47) (Kd.slice 3 (Kd.int .i64)))) (fun x : S43 => (x.f0, x.f1, x.f2))
theorem kA43_mkM (w : World) (base : Nat) (ok : Nat → Prop) (x : S43) {v1 v2 : Value} (g1 : Kd.S kA47 47 w base ok v1 x.f1) (g2 : (Kd.int .i64).R 3 w base ok v2 x.f2) : kA43.M w base ok x [.int .i64 x.f0, v1, v2] := ⟨[.int .i64 x.f0], [v1, v2], rfl, rfl, [v1], [v2], rfl, ⟨v1, rfl, g1⟩, ⟨v2, rfl, g2⟩⟩
theorem kA43_openM {w : World} {base : Nat} {ok : Nat → Prop} {x : S43} {cs : List Value} (h : kA43.M w base ok x cs) : ∃ v1 v2, cs = [.int .i64 x.f0, v1, v2] ∧ Kd.S kA47 47 w base ok v1 x.f1 ∧ (Kd.int .i64).R 3 w base ok v2 x.f2 := by
  obtain ⟨_, _, rfl, rfl, _, _, rfl, ⟨v1, rfl, g1⟩, ⟨v2, rfl, g2⟩⟩ := h
  exact ⟨v1, v2, rfl, g1, g2⟩
/-- the outer loop: the blocks that are done, the two boxes -/
structure Outer (a b : Int) (done : List S43) (w0 : World) (B g1 g2 N : Nat) (VO : Value) (w : World) : Prop where
  row : Kd.S kA43 43 w w0.heap.size (fun q => q < N ∧ q ≠ B) VO done
  res : w.heap[g1]? = some (.cells #[.int .i64 0, .int .i64 0, .slice none 0 0] 24 (0, 0))
  out : w.heap[g2]? = some (.cells #[.int .i64 a, .int .i64 b, VO] 24 (0, 0))
  bel : Below w0.heap.size w0 w
  n1 : g1 < N ∧ g1 ≠ B ∧ w0.heap.size ≤ g1
  n2 : g2 < N ∧ g2 ≠ B ∧ w0.heap.size ≤ g2
  nB : w0.heap.size ≤ B
  nN : w0.heap.size ≤ N
  ne : g1 ≠ g2
theorem Outer.but {a b : Int} {done : List S43} {w0 : World} {B g1 g2 N : Nat} {VO : Value} {w w1 : World} (h : Outer a b done w0 B g1 g2 N VO w) (hb : But (fun k => N ≤ k ∨ k = B) w w1) : Outer a b done w0 B g1 g2 N VO w1 :=
  ⟨S_but h.row hb (fun k hk hs => hs.elim (fun hle => absurd hk.1 (by omega)) hk.2), blk_but h.res hb (fun hs => hs.elim (fun hle => absurd h.n1.1 (by omega)) h.n1.2.1), blk_but h.out hb (fun hs => hs.elim (fun hle => absurd h.n2.1 (by omega)) h.n2.2.1),
    ⟨hb.os.trans h.bel.os, hb.tape.trans h.bel.tape, hb.output.trans h.bel.output, Nat.le_trans h.bel.size hb.size, fun k hk => (hb.block k (Nat.lt_of_lt_of_le hk h.bel.size) (fun hs => hs.elim (fun hle => by have := h.nN; omega) (fun he => by have := h.nB; omega))).trans (h.bel.block k hk)⟩, h.n1, h.n2, h.nB, h.nN, h.ne⟩
theorem Outer.below {a b : Int} {done : List S43} {w0 : World} {B g1 g2 N : Nat} {VO : Value} {w w1 : World} (h : Outer a b done w0 B g1 g2 N VO w) (hb : Below w.heap.size w w1) : Outer a b done w0 B g1 g2 N VO w1 := h.but ((But.of_below hb).mono (fun _ hf => hf.elim))
/-- a new round: whatever there is is older than what it makes -/
theorem Outer.round {a b : Int} {done : List S43} {w0 : World} {B g1 g2 N : Nat} {VO : Value} {w : World} (h : Outer a b done w0 B g1 g2 N VO w) {es : Array MapEntry} {clock : Nat} (hB : w.heap[B]? = some (.map es clock)) : Outer a b done w0 B g1 g2 w.heap.size VO w :=
  ⟨Kd.S_mono (S_nomap h.row hB) (fun k hk => ⟨hk.2.1, hk.2.2⟩), h.res, h.out, h.bel, ⟨blk_lt h.res, h.n1.2⟩, ⟨blk_lt h.out, h.n2.2⟩, h.nB, h.bel.size, h.ne⟩
/-- the inner loop: the instructions that are done, the block that is made -/
structure Inner (pc : Int) (next : List Int) (M : Map49) (out : List S47) (j B N K g7 : Nat) (VI VN : Value) (w : World) : Prop where
  book : Book w B j M
  row : Kd.S kA47 47 w N (fun k => k < K) VI out
  nxt : (Kd.int .i64).R 3 w N (fun _ => True) VN next
  box : w.heap[g7]? = some (.cells #[.int .i64 pc, VI, VN] 43 (0, 0))
  n7 : N ≤ g7
theorem Inner.below {pc : Int} {next : List Int} {M : Map49} {out : List S47} {j B N K g7 : Nat} {VI VN : Value} {w w1 : World} (h : Inner pc next M out j B N K g7 VI VN w) (hb : Below w.heap.size w w1) : Inner pc next M out j B N K g7 VI VN w1 :=
  ⟨h.book.below hb, Kd.S_below h.row hb, Kd.R_below h.nxt hb, blk_below h.box hb, h.n7⟩
theorem Book.mono {w : World} {B n n' : Nat} {M : Map49} (h : Book w B n M) (hn : n ≤ n') : Book w B n' M := let ⟨D, h1, h2⟩ := h; ⟨D, h1.mono hn, h2⟩
theorem Inner.mono {pc : Int} {next : List Int} {M : Map49} {out : List S47} {j j' B N K g7 : Nat} {VI VN : Value} {w : World} (h : Inner pc next M out j B N K g7 VI VN w) (hj : j ≤ j') : Inner pc next M out j' B N K g7 VI VN w := ⟨h.book.mono hj, h.row, h.nxt, h.box, h.n7⟩
/-- a new round: whatever there is is older than what it makes -/
theorem Inner.round {pc : Int} {next : List Int} {M : Map49} {out : List S47} {j B N K g7 : Nat} {VI VN : Value} {w : World} (h : Inner pc next M out j B N K g7 VI VN w) : Inner pc next M out j B N w.heap.size g7 VI VN w := ⟨h.book, Kd.S_mono (Kd.S_bound h.row) (fun k hk => hk.2.2.1), h.nxt, h.box, h.n7⟩
/-- the map is written -/
theorem Inner.turned {pc : Int} {next : List Int} {M M' : Map49} {out : List S47} {j j' B N K g7 : Nat} {VI VN : Value} {w w1 : World} (h : Inner pc next M out j B N K g7 VI VN w) (hb : Book w1 B j' M') (hg : w.grownBy w1 (some B)) : Inner pc next M' out j' B N K g7 VI VN w1 := by
  obtain ⟨es, clock, hB⟩ := h.book.blk
  exact ⟨hb, Kd.S_mono (Kd.S_grown (S_nomap h.row hB) hg (fun k hk he => hk.2.2 (by injection he))) (fun _ hk => hk.1), Kd.R_mono (Kd.R_grown (R_nomap h.nxt hB) hg (fun k hk he => hk.2.2 (by injection he))) (fun _ _ => trivial),
    blk_grown h.box hg (fun he => by injection he with he; have h1 := h.box; rw [he, hB] at h1; cases h1), h.n7⟩
end Go.Proofs.Ytjekpkpmoanadaa.PCop
/- apartGrown's contract: codes of which all lists lie apart: each list is grown, and nothing is found changed. For every world. -/
namespace Go.Proofs.Ytjekpkpmoanadaa.PCop
open Go.RowKit Go.Proofs.Ytjekpkpmoanadaa.Lit Go.Proofs.Ytjekpkpmoanadaa.OwnCells Go.Proofs.Ytjekpkpmoanadaa.Grow3 Go.Proofs.Ytjekpkpmoanadaa.Flat Go.Proofs.YtjekpkpmoanadaaW.PrintWords Go.Proofs.YtjekpkpmoanadaaW.PrintLast Go.Proofs.YtjekpkpmoanadaaW.PrintMore
open Go.Proofs.Ytjekpkpmoanadaa.Grow (cat cat_len cat_get cat_take cat_congr own_type_ne2 OwnOf cells_new but_alloc)
set_option linter.unusedVariables false
set_option linter.unusedSimpArgs false
theorem info22 : (Try.prog.info? 22).map (fun i => (i.zero, i.size, i.bytes)) = some (some (.slice none 0 0), 1, 24) := by kernel_rfl
theorem info40 : (Try.prog.info? 40).map (fun i => (i.zero, i.size, i.bytes)) = some (some (.slice none 0 0), 1, 24) := by kernel_rfl
theorem info45 : (Try.prog.info? 45).map (fun i => (i.zero, i.size, i.bytes)) = some (some (.slice none 0 0), 1, 24) := by kernel_rfl
theorem cut_low {P : Program} (t e sz : Nat) {i : TypeInfo} (ht : P.underlying t = some (.slice e)) (hi : P.info? e = some i) (hs : i.size = sz) (g L R c : Nat) (hR : 0 < R) (hc : L + R ≤ c) :
    ∀ W : World, (Instr.slice t (.slice (some ⟨g, 0, none⟩) (L + R) c) (some (.int .i64 (L : Int))) none none).run P W = .ok (.slice (some ⟨g, L * sz, none⟩) R (c - L)) W := by
  intro W
  have hel : P.elem t = e := by simp [Program.elem, ht]
  have hu : P.underlying t = some (.slice (P.elem t)) := by rw [hel]; exact ht
  rw [run_slice_l W t (some ⟨g, 0, none⟩) (L + R) c hu .i64 (L : Int) (by omega) (by omega), hel]
  have e1 : ¬ c = L := by omega
  subst hs
  simp [sizeOf, typeInfo, hi, sliced, Result.andThen, e1, Addr.add]
  exact fun h => h.symm
theorem cutV_at (sz L R g c : Nat) : cutV sz L (.slice (some ⟨g, 0, none⟩) (L + R) c) = .slice (some ⟨g, L * sz, none⟩) R (c - L) := by
  show Value.slice (some ⟨g, 0 + L * sz, none⟩) (L + R - L) (c - L) = _
  rw [Nat.zero_add, Nat.add_sub_cancel_left]
/-- the places of the three counts, and what is grown there -/
structure Gr (F : Fl) (g0 base : Nat) (w0 w : World) (PB ND FN PC : Nat → Int) (vb vi ve : Value) (P Q R : Nat) (Gb Gi Ge : List Value) : Prop where
  gs : Gs F g0 base w0 w PB ND FN PC vb vi ve Gb Gi Ge
  lb : Gb.length = P
  li : Gi.length = Q
  le : Ge.length = R
section
variable {F : Fl} {g0 base P Q R : Nat} {w0 w : World} {PB ND FN PC : Nat → Int} {vb vi ve : Value} {Gb Gi Ge : List Value}
theorem Gr.ob (h : Gr F g0 base w0 w PB ND FN PC vb vi ve P Q R Gb Gi Ge) : w.ownsRow w0.heap.size 22 1 vb P (cuts 3 F.nB Gb) := by have := h.gs.tb; rw [h.lb] at this; exact this
theorem Gr.oi (h : Gr F g0 base w0 w PB ND FN PC vb vi ve P Q R Gb Gi Ge) : w.ownsRow w0.heap.size 40 1 vi Q (cuts 8 F.nI Gi) := by have := h.gs.ti; rw [h.li] at this; exact this
theorem Gr.oe (h : Gr F g0 base w0 w PB ND FN PC vb vi ve P Q R Gb Gi Ge) : w.ownsRow w0.heap.size 45 1 ve R (cuts 3 F.nE Ge) := by have := h.gs.te; rw [h.le] at this; exact this
end
set_option maxHeartbeats 16000000 in
set_option maxRecDepth 100000 in
theorem grown_calls (F : Fl) (g0 base c nK : Nat) (w : World) (PB ND FN PC : Nat → Int) (hnK : nK = F.nK) (H : Ok F base w) (h : Fs F g0 base w w PB ND FN PC) :
    Calls Try.prog 49 #[.slice (some ⟨g0, 0, none⟩) nK c] w fun e w' => e = .returned (.bool true) ∧ Fs F g0 base w w' PB ND FN PC := by
  have HY := Aside0.mk H
  have HS := Aside0.mk (Gs.start h)
  have hn : nK ≤ 2 := by rw [hnK]; exact H.lk
  have HK := Aside0.mk hnK
  have hLB := H.lb
  have hLI := H.li
  have hLE := H.le
  clear H h hnK
  go_enter Try.func49, Try.ntmps49
  go_wp2
  go_loopw [3, 4, 5, 6, 7, 8, 9, 10, 11, 12, 13, 14, 15] (fun vb vi ve t _ _ _ _ _ _ _ _ _ wr => ∃ k : Nat, k ≤ nK ∧ t = .int .i64 k ∧ ∃ Gb Gi Ge, Gr F g0 base w wr PB ND FN PC vb vi ve k (off F.nB k) (off F.nI (off F.nB k)) Gb Gi Ge) (fun _ _ _ t _ _ _ _ _ _ _ _ _ _ => nK - (intOf t).toNat)
  case atStart => exact ⟨0, Nat.zero_le _, rfl, [], [], [], ⟨HS.out, rfl, rfl, rfl⟩⟩
  case round =>
    obtain ⟨k, hk, rfl, Gb, Gi, Ge, hG⟩ := hrel
    have HG := Aside0.mk hG
    obtain ⟨Ab, cb, hub, _⟩ := own_form hG.gs.tb
    obtain ⟨Ai, ci, hui, _⟩ := own_form hG.gs.ti
    obtain ⟨Ae, ce, hue, _⟩ := own_form hG.gs.te
    rw [hG.lb] at hub
    rw [hG.li] at hui
    rw [hG.le] at hue
    subst hub hui hue
    clear hG
    by_cases hlt : k < nK
    · have HKF := Aside0.mk (show k < F.nK from HK.out ▸ hlt)
      have hNB : off F.nB k + F.nB k ≤ F.NB := HY.out.nB HKF.out
      obtain ⟨A, cA, hVA, hA⟩ := HG.out.gs.fs.frmB HKF.out
      have HVA := Aside0.mk (And.intro hVA hA)
      have x0 := HG.out.gs.fs.code HY.out HKF.out
      rw [HVA.out.1] at x0
      clear hVA hA
      go_wp2_with (fail)
      clear x0
      obtain ⟨wo1, rfl⟩ : ∃ wo : World, wo = wr := ⟨_, rfl⟩
      go_loopw [7, 8] (fun u t wr => ∃ i : Nat, i ≤ 16 ∧ t = .int .i64 i ∧ Gr F g0 base w wr PB ND FN PC (.slice Ab k cb) (.slice Ai (off F.nB k) ci) (.slice Ae (off F.nI (off F.nB k)) ce) k (off F.nB k) (off F.nI (off F.nB k)) Gb Gi Ge ∧ Cur 43 3 (cB F PB) F.VB F.nB F.nK base w wr Gb k i u) (fun _ t _ => 16 - (intOf t).toNat)
      case atStart => exact ⟨0, by omega, rfl, HG.out, HVA.out.1 ▸ Cur.start HY.out.hb HG.out.gs.sb HKF.out (by have := HG.out.lb; omega)⟩
      case round =>
        obtain ⟨i, hi, rfl, hG2, hC⟩ := hrel
        have HG2 := Aside0.mk hG2
        have HC := Aside0.mk hC
        obtain ⟨A7, c7, hu7, _⟩ := own_form hC.own
        subst hu7
        clear hG2 hC
        by_cases hil : i < 16
        · obtain ⟨i0, hi0, hz⟩ := Option.map_eq_some_iff.1 info43
          simp only [Prod.mk.injEq] at hz
          have HI := Aside0.mk hi0
          have HZ := Aside0.mk hz
          clear hi0 hz
          go_wp2_with (first | ((with_reducible refine gate_builtin (b := .append) (xs := #[.tmp 37, .tmp 42]) rfl ?_); at_builtin; refine wpList_append_two rfl (.tmp 37) (.tmp 42) 22 rfl base 43 i0 (.agg #[(.int .i64 0), (.slice none 0 0), (.slice none 0 0)]) 3 56 Try.underlying22 HI.out HZ.out.1 HZ.out.2.1 HZ.out.2.2 rfl (by decide) (.slice A7 (F.nB k + i) c7) (F.nB k + i) (cB F PB k (F.nB k + i)) rfl ?aO ⟨wr.heap.size, 0, none⟩ 1 1 (mkb k) rfl rfl (cells_new wr _ 43) ?aU (by decide) ?aL ?aB ?aH ?_; (case aO => exact (HC.out.but_ (but_alloc wr _) (fun _ _ h => h)).own); (case aU => simp [Value.oneCell', mkb, mki, mke]); (case aL => unfold maxLen; omega); (case aB => omega); (case aH => have := HY.out.hb.base; have := HG2.out.gs.sb.but.size; simp; omega); intro g cap w9 q1 q2 q3; have Q := Aside0.mk (And.intro q1 (And.intro q2 q3)); clear q1 q2 q3))
          go_roundw
          case rel =>
            obtain ⟨q1, q2, q3⟩ := Q.out
            have ba := but_alloc wr (.cells (mkb k).toArray 43)
            obtain ⟨S2, C2⟩ := (HG2.out.gs.far ba).growB HY.out HKF.out (HC.out.but_ ba (fun _ _ h => h)) q1 q2 q3
            exact ⟨i + 1, by omega, by go_num, ⟨S2, HG2.out.lb, HG2.out.li, HG2.out.le⟩, C2⟩
          case measure => simp [intOf]; omega
        · obtain rfl : i = 16 := by omega
          have x0 := HG2.out.gs.fs.code HY.out HKF.out
          rw [HVA.out.1] at x0
          obtain ⟨g7, cap7, hh, _, _⟩ := HC.out.own.form (by omega)
          cases hh
          obtain ⟨i0, hi0, hz⟩ := Option.map_eq_some_iff.1 info22
          simp only [Prod.mk.injEq] at hz
          have HI := Aside0.mk hi0
          have HZ := Aside0.mk hz
          clear hi0 hz
          obtain ⟨i1, hi1, hz1⟩ := Option.map_eq_some_iff.1 info43
          simp only [Prod.mk.injEq] at hz1
          have hcut := cut_low (P := Try.prog) 22 43 3 Try.underlying22 hi1 hz1.2.1 g7 (F.nB k) 16 c7 (by decide) (by assumption)
          clear hi1 hz1
          go_wp2_with (first | ((with_reducible refine gate_builtin (b := .append) (xs := #[.tmp 44, .tmp 53]) rfl ?_); at_builtin; refine wpList_append_two rfl (.tmp 44) (.tmp 53) 81 rfl w.heap.size 22 i0 (.slice none 0 0) 1 24 Try.underlying81 HI.out HZ.out.1 HZ.out.2.1 HZ.out.2.2 rfl (by decide) (.slice Ab k cb) (k) (cuts 3 F.nB Gb) rfl ?aO ⟨wr.heap.size, 0, none⟩ 1 1 ([.slice (some ⟨g7, F.nB k * 3, none⟩) 16 (c7 - F.nB k)]) rfl rfl (cells_new wr _ 22) ?aU (by decide) ?aL ?aB ?aH ?_; (case aO => exact ((but_alloc wr _).own HG2.out.ob (fun _ _ h => h))); (case aU => simp [Value.oneCell', mkb, mki, mke]); (case aL => unfold maxLen; omega); (case aB => omega); (case aH => have := HG2.out.gs.sb.but.size; simp; omega); intro gb capb wb q1 q2 q3; have Q := Aside0.mk (And.intro q1 (And.intro q2 q3)); clear q1 q2 q3))
          clear hcut x0
          obtain ⟨q1, q2, q3⟩ := Q.out
          have ba := but_alloc wr (.cells #[.slice (some ⟨g7, F.nB k * 3, none⟩) 16 (c7 - F.nB k)] 22)
          have HG3 := Aside0.mk (Gr.mk (w0 := w) (P := k + 1) ((HG2.out.gs.far ba).snocB HKF.out HG2.out.lb (HC.out.but_ ba (fun _ _ h => h)) ((cutV_at 3 (F.nB k) 16 g7 c7).symm ▸ q1) q3) (by rw [List.length_append, HG2.out.lb]; rfl) HG2.out.li HG2.out.le)
          clear q1 q2 q3 ba Q HC
          generalize Gb ++ [_] = GB at HG3
          clear HG2 HG
          go_wp2_with (fail)
          obtain ⟨wo2, rfl⟩ : ∃ wo : World, wo = wb := ⟨_, rfl⟩
          go_loopw [4, 5, 9, 10, 11, 12, 13, 14, 15] (fun vi ve t _ _ _ _ _ _ wr => ∃ b : Nat, b ≤ F.nB k ∧ t = .int .i64 b ∧ ∃ Gi Ge, Gr F g0 base w wr PB ND FN PC (.slice (some ⟨gb, 0, none⟩) (k + 1) capb) vi ve (k + 1) (off F.nB k + b) (off F.nI (off F.nB k + b)) GB Gi Ge) (fun _ _ t _ _ _ _ _ _ _ => F.nB k - (intOf t).toNat)
          case atStart => exact ⟨0, Nat.zero_le _, rfl, Gi, Ge, HG3.out⟩
          case round =>
            obtain ⟨b, hb, rfl, Gi, Ge, hG⟩ := hrel
            have HG4 := Aside0.mk hG
            obtain ⟨Ai, ci, hui, _⟩ := own_form hG.oi
            obtain ⟨Ae, ce, hue, _⟩ := own_form hG.oe
            subst hui hue
            have x0 := hG.gs.fs.code HY.out HKF.out
            rw [HVA.out.1] at x0
            clear hG
            by_cases hltb : b < F.nB k
            · obtain ⟨gB, rfl⟩ := HVA.out.2 (by omega)
              obtain ⟨p, hp⟩ : ∃ p, p = off F.nB k + b := ⟨_, rfl⟩
              have HPF := Aside0.mk (show p < F.NB from hp ▸ off_lt HKF.out hltb)
              have hp4 : p < 4194304 := Nat.lt_of_lt_of_le HPF.out hLB
              have HP := Aside0.mk hp
              rw [← hp] at HG4 ⊢
              obtain ⟨B, cI', hVI, hB⟩ := HG4.out.gs.fs.frmI HPF.out
              have HVI := Aside0.mk (And.intro hVI hB)
              have hNI : off F.nI p + F.nI p ≤ F.NI := HY.out.nI HPF.out
              have y1 := (HG4.out.gs.fs.rdB HP.out HKF.out hltb HVA.out.1).2.2
              rw [HVI.out.1] at y1
              clear hVI hB hp
              go_wp2_with (fail)
              clear x0 y1
              obtain ⟨wo3, rfl⟩ : ∃ wo : World, wo = wr := ⟨_, rfl⟩
              go_loopw [11, 12] (fun u t wr => ∃ i : Nat, i ≤ 16 ∧ t = .int .i64 i ∧ Gr F g0 base w wr PB ND FN PC (.slice (some ⟨gb, 0, none⟩) (k + 1) capb) (.slice Ai p ci) (.slice Ae (off F.nI p) ce) (k + 1) p (off F.nI p) GB Gi Ge ∧ Cur 47 8 (cI F ND) F.VI F.nI F.NB base w wr Gi p i u) (fun _ t _ => 16 - (intOf t).toNat)
              case atStart => exact ⟨0, by omega, rfl, HG4.out, HVI.out.1 ▸ Cur.start HY.out.hi HG4.out.gs.si HPF.out (by have := HG4.out.li; omega)⟩
              case round =>
                obtain ⟨i, hi, rfl, hG2, hC⟩ := hrel
                have HG5 := Aside0.mk hG2
                have HC := Aside0.mk hC
                obtain ⟨A7, c7, hu7, _⟩ := own_form hC.own
                subst hu7
                clear hG2 hC
                by_cases hil : i < 16
                · obtain ⟨i0, hi0, hz⟩ := Option.map_eq_some_iff.1 info47
                  simp only [Prod.mk.injEq] at hz
                  have HI := Aside0.mk hi0
                  have HZ := Aside0.mk hz
                  clear hi0 hz
                  go_wp2_with (first | ((with_reducible refine gate_builtin (b := .append) (xs := #[.tmp 79, .tmp 84]) rfl ?_); at_builtin; refine wpList_append_two rfl (.tmp 79) (.tmp 84) 40 rfl base 47 i0 (.agg #[(.int .i64 0), (.int .i64 0), (.int .i64 0), (.slice none 0 0), (.int .i64 0), (.int .i64 0), (.int .i64 0), (.slice none 0 0)]) 8 96 Try.underlying40 HI.out HZ.out.1 HZ.out.2.1 HZ.out.2.2 rfl (by decide) (.slice A7 (F.nI p + i) c7) (F.nI p + i) (cI F ND p (F.nI p + i)) rfl ?aO ⟨wr.heap.size, 0, none⟩ 1 1 (mki p) rfl rfl (cells_new wr _ 47) ?aU (by decide) ?aL ?aB ?aH ?_; (case aO => exact (HC.out.but_ (but_alloc wr _) (fun _ _ h => h)).own); (case aU => simp [Value.oneCell', mkb, mki, mke]); (case aL => unfold maxLen; omega); (case aB => omega); (case aH => have := HY.out.hi.base; have := HG5.out.gs.si.but.size; simp; omega); intro g cap w9 q1 q2 q3; have Q := Aside0.mk (And.intro q1 (And.intro q2 q3)); clear q1 q2 q3))
                  go_roundw
                  case rel =>
                    obtain ⟨q1, q2, q3⟩ := Q.out
                    have ba := but_alloc wr (.cells (mki p).toArray 47)
                    obtain ⟨S2, C2⟩ := (HG5.out.gs.far ba).growI HY.out HPF.out (HC.out.but_ ba (fun _ _ h => h)) q1 q2 q3
                    exact ⟨i + 1, by omega, by go_num, ⟨S2, HG5.out.lb, HG5.out.li, HG5.out.le⟩, C2⟩
                  case measure => simp [intOf]; omega
                · obtain rfl : i = 16 := by omega
                  obtain ⟨g7, cap7, hh, _, _⟩ := HC.out.own.form (by omega)
                  cases hh
                  obtain ⟨i0, hi0, hz⟩ := Option.map_eq_some_iff.1 info40
                  simp only [Prod.mk.injEq] at hz
                  have HI := Aside0.mk hi0
                  have HZ := Aside0.mk hz
                  clear hi0 hz
                  obtain ⟨i1, hi1, hz1⟩ := Option.map_eq_some_iff.1 info47
                  simp only [Prod.mk.injEq] at hz1
                  have hcut := cut_low (P := Try.prog) 40 47 8 Try.underlying40 hi1 hz1.2.1 g7 (F.nI p) 16 c7 (by decide) (by assumption)
                  clear hi1 hz1
                  go_wp2_with (first | ((with_reducible refine gate_builtin (b := .append) (xs := #[.tmp 86, .tmp 91]) rfl ?_); at_builtin; refine wpList_append_two rfl (.tmp 86) (.tmp 91) 32 rfl w.heap.size 40 i0 (.slice none 0 0) 1 24 Try.underlying32 HI.out HZ.out.1 HZ.out.2.1 HZ.out.2.2 rfl (by decide) (.slice Ai p ci) (p) (cuts 8 F.nI Gi) rfl ?aO ⟨wr.heap.size, 0, none⟩ 1 1 ([.slice (some ⟨g7, F.nI p * 8, none⟩) 16 (c7 - F.nI p)]) rfl rfl (cells_new wr _ 40) ?aU (by decide) ?aL ?aB ?aH ?_; (case aO => exact ((but_alloc wr _).own HG5.out.oi (fun _ _ h => h))); (case aU => simp [Value.oneCell', mkb, mki, mke]); (case aL => unfold maxLen; omega); (case aB => omega); (case aH => have := HG5.out.gs.sb.but.size; simp; omega); intro gi capi wi q1 q2 q3; have Q := Aside0.mk (And.intro q1 (And.intro q2 q3)); clear q1 q2 q3))
                  clear hcut
                  obtain ⟨q1, q2, q3⟩ := Q.out
                  have ba := but_alloc wr (.cells #[.slice (some ⟨g7, F.nI p * 8, none⟩) 16 (c7 - F.nI p)] 40)
                  have HG6 := Aside0.mk (Gr.mk (w0 := w) (Q := p + 1) ((HG5.out.gs.far ba).snocI HPF.out HG5.out.li (HC.out.but_ ba (fun _ _ h => h)) ((cutV_at 8 (F.nI p) 16 g7 c7).symm ▸ q1) q3) HG5.out.lb (by rw [List.length_append, HG5.out.li]; rfl) HG5.out.le)
                  clear q1 q2 q3 ba Q HC HG5 HG4
                  generalize Gi ++ [_] = GI at HG6
                  go_wp2_with (fail)
                  obtain ⟨wo4, rfl⟩ : ∃ wo : World, wo = wi := ⟨_, rfl⟩
                  go_loopw [5, 13, 14, 15] (fun ve t _ _ wr => ∃ i : Nat, i ≤ F.nI p ∧ t = .int .i64 i ∧ ∃ Ge, Gr F g0 base w wr PB ND FN PC (.slice (some ⟨gb, 0, none⟩) (k + 1) capb) (.slice (some ⟨gi, 0, none⟩) (p + 1) capi) ve (k + 1) (p + 1) (off F.nI p + i) GB GI Ge) (fun _ t _ _ _ => F.nI p - (intOf t).toNat)
                  case atStart => exact ⟨0, Nat.zero_le _, rfl, Ge, HG6.out⟩
                  case round =>
                    obtain ⟨i, hi, rfl, Ge, hG⟩ := hrel
                    have HG7 := Aside0.mk hG
                    obtain ⟨Ae, ce, hue, _⟩ := own_form hG.oe
                    subst hue
                    clear hG HG6
                    by_cases hlti : i < F.nI p
                    · obtain ⟨gI, rfl⟩ := HVI.out.2 (by omega)
                      obtain ⟨q, hq⟩ : ∃ q, q = off F.nI p + i := ⟨_, rfl⟩
                      have HQF := Aside0.mk (show q < F.NI from hq ▸ off_lt HPF.out hlti)
                      have hq4 : q < 4194304 := Nat.lt_of_lt_of_le HQF.out hLI
                      have HQ := Aside0.mk hq
                      rw [← hq] at HG7 ⊢
                      obtain ⟨C, cE', hVE, hC⟩ := HG7.out.gs.fs.frmE HQF.out
                      have HVE := Aside0.mk (And.intro hVE hC)
                      have hNE : off F.nE q + F.nE q ≤ F.NE := HY.out.nE HQF.out
                      have z7 := (HG7.out.gs.fs.rdI HQ.out HPF.out hlti HVI.out.1).2.2
                      rw [HVE.out.1] at z7
                      clear hVE hC hq
                      go_wp2_with (fail)
                      clear z7
                      obtain ⟨wo5, rfl⟩ : ∃ wo : World, wo = wr := ⟨_, rfl⟩
                      go_loopw [14, 15] (fun u t wr => ∃ n : Nat, n ≤ 4 ∧ t = .int .i64 n ∧ Gr F g0 base w wr PB ND FN PC (.slice (some ⟨gb, 0, none⟩) (k + 1) capb) (.slice (some ⟨gi, 0, none⟩) (p + 1) capi) (.slice Ae q ce) (k + 1) (p + 1) q GB GI Ge ∧ Cur 65 3 (cE F FN PC) F.VE F.nE F.NI base w wr Ge q n u) (fun _ t _ => 4 - (intOf t).toNat)
                      case atStart => exact ⟨0, by omega, rfl, HG7.out, HVE.out.1 ▸ Cur.start HY.out.he HG7.out.gs.se HQF.out (by have := HG7.out.le; omega)⟩
                      case round =>
                        obtain ⟨n, hn4, rfl, hG2, hC⟩ := hrel
                        have HG8 := Aside0.mk hG2
                        have HC := Aside0.mk hC
                        obtain ⟨A7, c7, hu7, _⟩ := own_form hC.own
                        subst hu7
                        clear hG2 hC
                        by_cases hil : n < 4
                        · obtain ⟨i0, hi0, hz⟩ := Option.map_eq_some_iff.1 info65
                          simp only [Prod.mk.injEq] at hz
                          have HI := Aside0.mk hi0
                          have HZ := Aside0.mk hz
                          clear hi0 hz
                          go_wp2_with (first | ((with_reducible refine gate_builtin (b := .append) (xs := #[.tmp 108, .tmp 113]) rfl ?_); at_builtin; refine wpList_append_two rfl (.tmp 108) (.tmp 113) 45 rfl base 65 i0 (.agg #[(.int .i64 0), (.int .i64 0), (.slice none 0 0)]) 3 40 Try.underlying45 HI.out HZ.out.1 HZ.out.2.1 HZ.out.2.2 rfl (by decide) (.slice A7 (F.nE q + n) c7) (F.nE q + n) (cE F FN PC q (F.nE q + n)) rfl ?aO ⟨wr.heap.size, 0, none⟩ 1 1 (mke q) rfl rfl (cells_new wr _ 65) ?aU (by decide) ?aL ?aB ?aH ?_; (case aO => exact (HC.out.but_ (but_alloc wr _) (fun _ _ h => h)).own); (case aU => simp [Value.oneCell', mkb, mki, mke]); (case aL => unfold maxLen; omega); (case aB => omega); (case aH => have := HY.out.he.base; have := HG8.out.gs.se.but.size; simp; omega); intro g cap w9 q1 q2 q3; have Q := Aside0.mk (And.intro q1 (And.intro q2 q3)); clear q1 q2 q3))
                          go_roundw
                          case rel =>
                            obtain ⟨q1, q2, q3⟩ := Q.out
                            have ba := but_alloc wr (.cells (mke q).toArray 65)
                            obtain ⟨S2, C2⟩ := (HG8.out.gs.far ba).growE HY.out HQF.out (HC.out.but_ ba (fun _ _ h => h)) q1 q2 q3
                            exact ⟨n + 1, by omega, by go_num, ⟨S2, HG8.out.lb, HG8.out.li, HG8.out.le⟩, C2⟩
                          case measure => simp [intOf]; omega
                        · obtain rfl : n = 4 := by omega
                          obtain ⟨g7, cap7, hh, _, _⟩ := HC.out.own.form (by omega)
                          cases hh
                          have z7 := (HG8.out.gs.fs.rdI HQ.out HPF.out hlti HVI.out.1).2.2
                          rw [HVE.out.1] at z7
                          obtain ⟨i0, hi0, hz⟩ := Option.map_eq_some_iff.1 info45
                          simp only [Prod.mk.injEq] at hz
                          have HI := Aside0.mk hi0
                          have HZ := Aside0.mk hz
                          clear hi0 hz
                          obtain ⟨i1, hi1, hz1⟩ := Option.map_eq_some_iff.1 info65
                          simp only [Prod.mk.injEq] at hz1
                          have hcut := cut_low (P := Try.prog) 45 65 3 Try.underlying45 hi1 hz1.2.1 g7 (F.nE q) 4 c7 (by decide) (by assumption)
                          clear hi1 hz1
                          go_wp2_with (first | ((with_reducible refine gate_builtin (b := .append) (xs := #[.tmp 115, .tmp 124]) rfl ?_); at_builtin; refine wpList_append_two rfl (.tmp 115) (.tmp 124) 30 rfl w.heap.size 45 i0 (.slice none 0 0) 1 24 Try.underlying30 HI.out HZ.out.1 HZ.out.2.1 HZ.out.2.2 rfl (by decide) (.slice Ae q ce) (q) (cuts 3 F.nE Ge) rfl ?aO ⟨wr.heap.size, 0, none⟩ 1 1 ([.slice (some ⟨g7, F.nE q * 3, none⟩) 4 (c7 - F.nE q)]) rfl rfl (cells_new wr _ 45) ?aU (by decide) ?aL ?aB ?aH ?_; (case aO => exact ((but_alloc wr _).own HG8.out.oe (fun _ _ h => h))); (case aU => simp [Value.oneCell', mkb, mki, mke]); (case aL => unfold maxLen; omega); (case aB => omega); (case aH => have := HG8.out.gs.sb.but.size; simp; omega); intro g cap w9 q1 q2 q3; have Q := Aside0.mk (And.intro q1 (And.intro q2 q3)); clear q1 q2 q3))
                          clear hcut z7
                          go_roundw
                          case rel =>
                            obtain ⟨q1, q2, q3⟩ := Q.out
                            have ba := but_alloc wr (.cells #[.slice (some ⟨g7, F.nE q * 3, none⟩) 4 (c7 - F.nE q)] 45)
                            have SS := (HG8.out.gs.far ba).snocE HQF.out HG8.out.le (HC.out.but_ ba (fun _ _ h => h)) ((cutV_at 3 (F.nE q) 4 g7 c7).symm ▸ q1) q3
                            have e : off F.nI p + (i + 1) = q + 1 := by rw [HQ.out]; rfl
                            refine ⟨i + 1, by omega, by go_num, Ge ++ [.slice (some ⟨g7, 0, none⟩) (F.nE q + 4) c7], ?_⟩
                            rw [e]
                            exact Gr.mk SS HG8.out.lb HG8.out.li (by rw [List.length_append, HG8.out.le]; rfl)
                          case measure => simp [intOf]; omega
                    · obtain rfl : i = F.nI p := by omega
                      go_wp2_with (fail)
                      go_roundw
                      case rel =>
                        have e : off F.nB k + (b + 1) = p + 1 := by rw [HP.out]; rfl
                        refine ⟨b + 1, by omega, by go_num, GI, Ge, ?_⟩
                        rw [e]
                        exact HG7.out
                      case measure => simp [intOf]; omega
            · obtain rfl : b = F.nB k := by omega
              go_wp2_with (fail)
              go_roundw
              case rel => exact ⟨k + 1, by omega, by go_num, GB, Gi, Ge, HG4.out⟩
              case measure => simp [intOf]; omega
    · obtain rfl : k = nK := by omega
      have e1 : off F.nB k = F.NB := by rw [HK.out]; rfl
      have e2 : off F.nI F.NB = F.NI := rfl
      rw [e1, e2] at HG
      go_wp2_with (fail)
      go_loopw [16, 17] (fun t _ wr => ∃ j : Nat, j ≤ k ∧ t = .int .i64 j ∧ Gr F g0 base w wr PB ND FN PC (.slice Ab k cb) (.slice Ai F.NB ci) (.slice Ae F.NI ce) k F.NB F.NI Gb Gi Ge) (fun t _ _ => k - (intOf t).toNat)
      case atStart => exact ⟨0, Nat.zero_le _, rfl, HG.out⟩
      case round =>
        obtain ⟨j, hj, rfl, hG⟩ := hrel
        have HG1 := Aside0.mk hG
        clear hG HG
        by_cases hjl : j < k
        · obtain ⟨A5, cv5, g5, c5, hV5, x0, hx⟩ := HG1.out.gs.rdB (j := j) (by rw [HG1.out.lb]; exact hjl)
          rw [HG1.out.lb] at hV5
          injection hV5 with hA5 _ hc5
          cases hA5
          cases hc5
          clear hx
          go_wp2_with (fail)
          clear x0
          obtain ⟨wz, rfl⟩ : ∃ wz : World, wz = wr := ⟨_, rfl⟩
          go_loopw [17] (fun t wr => ∃ q : Nat, q ≤ 16 ∧ t = .int .i64 q ∧ Gr F g0 base w wr PB ND FN PC (.slice (some ⟨A5, 0, none⟩) k cb) (.slice Ai F.NB ci) (.slice Ae F.NI ce) k F.NB F.NI Gb Gi Ge) (fun t _ => 16 - (intOf t).toNat)
          case atStart => exact ⟨0, by omega, rfl, HG1.out⟩
          case round =>
            obtain ⟨q, hq, rfl, hG⟩ := hrel
            replace HG1 := Aside0.mk hG
            clear hG
            obtain ⟨A5, cv5, g5, c5, hV5, x0, hx⟩ := HG1.out.gs.rdB (j := j) (by rw [HG1.out.lb]; exact hjl)
            rw [HG1.out.lb] at hV5
            injection hV5 with hA5 _ hc5
            cases hA5
            cases hc5
            by_cases hql : q < 16
            · have y0 := hx q hql 0 _ rfl
              rw [Nat.add_mul] at y0
              replace y0 : wr.cell? ⟨g5, F.nB j * 3 + q * 3, none⟩ = some (.int .i64 (-1 - (j : Int))) := y0
              have hE : ((-1 - (j : Int)) != (-1 - (j : Int))) = false := by simp
              clear hx
              go_wp2_with (fail)
              go_roundw
              case rel => exact ⟨q + 1, by omega, by go_num, HG1.out⟩
              case measure => simp [intOf]; omega
            · obtain rfl : q = 16 := by omega
              clear hx
              go_wp2_with (fail)
              go_roundw
              case rel => exact ⟨j + 1, by omega, by go_num, HG1.out⟩
              case measure => simp [intOf]; omega
        · have hjn : k = j := by omega
          subst hjn
          have HG := HG1
          clear HG1
          go_wp2_with (fail)
          go_loopw [18, 19] (fun t _ wr => ∃ j : Nat, j ≤ F.NB ∧ t = .int .i64 j ∧ Gr F g0 base w wr PB ND FN PC (.slice Ab k cb) (.slice Ai F.NB ci) (.slice Ae F.NI ce) k F.NB F.NI Gb Gi Ge) (fun t _ _ => F.NB - (intOf t).toNat)
          case atStart => exact ⟨0, Nat.zero_le _, rfl, HG.out⟩
          case round =>
            obtain ⟨j, hj, rfl, hG⟩ := hrel
            have HG1 := Aside0.mk hG
            clear hG HG
            by_cases hjl : j < F.NB
            · obtain ⟨A5, cv5, g5, c5, hV5, x0, hx⟩ := HG1.out.gs.rdI (j := j) (by rw [HG1.out.li]; exact hjl)
              rw [HG1.out.li] at hV5
              injection hV5 with hA5 _ hc5
              cases hA5
              cases hc5
              clear hx
              go_wp2_with (fail)
              clear x0
              obtain ⟨wz, rfl⟩ : ∃ wz : World, wz = wr := ⟨_, rfl⟩
              go_loopw [19] (fun t wr => ∃ q : Nat, q ≤ 16 ∧ t = .int .i64 q ∧ Gr F g0 base w wr PB ND FN PC (.slice Ab k cb) (.slice (some ⟨A5, 0, none⟩) F.NB ci) (.slice Ae F.NI ce) k F.NB F.NI Gb Gi Ge) (fun t _ => 16 - (intOf t).toNat)
              case atStart => exact ⟨0, by omega, rfl, HG1.out⟩
              case round =>
                obtain ⟨q, hq, rfl, hG⟩ := hrel
                replace HG1 := Aside0.mk hG
                clear hG
                obtain ⟨A5, cv5, g5, c5, hV5, x0, hx⟩ := HG1.out.gs.rdI (j := j) (by rw [HG1.out.li]; exact hjl)
                rw [HG1.out.li] at hV5
                injection hV5 with hA5 _ hc5
                cases hA5
                cases hc5
                by_cases hql : q < 16
                · have y0 := hx q hql 6 _ rfl
                  rw [Nat.add_mul] at y0
                  replace y0 : wr.cell? ⟨g5, F.nI j * 8 + q * 8 + 6, none⟩ = some (.int .i64 (-1 - (j : Int))) := y0
                  have hE : ((-1 - (j : Int)) != (-1 - (j : Int))) = false := by simp
                  clear hx
                  go_wp2_with (fail)
                  go_roundw
                  case rel => exact ⟨q + 1, by omega, by go_num, HG1.out⟩
                  case measure => simp [intOf]; omega
                · obtain rfl : q = 16 := by omega
                  clear hx
                  go_wp2_with (fail)
                  go_roundw
                  case rel => exact ⟨j + 1, by omega, by go_num, HG1.out⟩
                  case measure => simp [intOf]; omega
            · have hjn : j = F.NB := by omega
              subst hjn
              have HG := HG1
              clear HG1
              go_wp2_with (fail)
              go_loopw [20, 21] (fun t _ wr => ∃ j : Nat, j ≤ F.NI ∧ t = .int .i64 j ∧ Gr F g0 base w wr PB ND FN PC (.slice Ab k cb) (.slice Ai F.NB ci) (.slice Ae F.NI ce) k F.NB F.NI Gb Gi Ge) (fun t _ _ => F.NI - (intOf t).toNat)
              case atStart => exact ⟨0, Nat.zero_le _, rfl, HG.out⟩
              case round =>
                obtain ⟨j, hj, rfl, hG⟩ := hrel
                have HG1 := Aside0.mk hG
                clear hG HG
                by_cases hjl : j < F.NI
                · obtain ⟨A5, cv5, g5, c5, hV5, x0, hx⟩ := HG1.out.gs.rdE (j := j) (by rw [HG1.out.le]; exact hjl)
                  rw [HG1.out.le] at hV5
                  injection hV5 with hA5 _ hc5
                  cases hA5
                  cases hc5
                  clear hx
                  go_wp2_with (fail)
                  clear x0
                  obtain ⟨wz, rfl⟩ : ∃ wz : World, wz = wr := ⟨_, rfl⟩
                  go_loopw [21] (fun t wr => ∃ q : Nat, q ≤ 4 ∧ t = .int .i64 q ∧ Gr F g0 base w wr PB ND FN PC (.slice Ab k cb) (.slice Ai F.NB ci) (.slice (some ⟨A5, 0, none⟩) F.NI ce) k F.NB F.NI Gb Gi Ge) (fun t _ => 4 - (intOf t).toNat)
                  case atStart => exact ⟨0, by omega, rfl, HG1.out⟩
                  case round =>
                    obtain ⟨q, hq, rfl, hG⟩ := hrel
                    replace HG1 := Aside0.mk hG
                    clear hG
                    obtain ⟨A5, cv5, g5, c5, hV5, x0, hx⟩ := HG1.out.gs.rdE (j := j) (by rw [HG1.out.le]; exact hjl)
                    rw [HG1.out.le] at hV5
                    injection hV5 with hA5 _ hc5
                    cases hA5
                    cases hc5
                    by_cases hql : q < 4
                    · have y0 := hx q hql 0 _ rfl
                      rw [Nat.add_mul] at y0
                      replace y0 : wr.cell? ⟨g5, F.nE j * 3 + q * 3, none⟩ = some (.int .i64 (-1 - (j : Int))) := y0
                      have hE : ((-1 - (j : Int)) != (-1 - (j : Int))) = false := by simp
                      clear hx
                      go_wp2_with (fail)
                      go_roundw
                      case rel => exact ⟨q + 1, by omega, by go_num, HG1.out⟩
                      case measure => simp [intOf]; omega
                    · obtain rfl : q = 4 := by omega
                      clear hx
                      go_wp2_with (fail)
                      go_roundw
                      case rel => exact ⟨j + 1, by omega, by go_num, HG1.out⟩
                      case measure => simp [intOf]; omega
                · have hjn : j = F.NI := by omega
                  subst hjn
                  have HG := HG1
                  clear HG1
                  go_wp2_with (fail)
                  go_ret
                  exact ⟨rfl, HG.out.gs.fs⟩
end Go.Proofs.Ytjekpkpmoanadaa.PCop
/- apartLists' contract: codes of which all lists lie apart are found so. For every world. -/
namespace Go.Proofs.Ytjekpkpmoanadaa.PCop
open Go.RowKit Go.Proofs.Ytjekpkpmoanadaa.Lit Go.Proofs.Ytjekpkpmoanadaa.OwnCells Go.Proofs.Ytjekpkpmoanadaa.Flat Go.Proofs.YtjekpkpmoanadaaW.PrintWords Go.Proofs.YtjekpkpmoanadaaW.PrintLast Go.Proofs.YtjekpkpmoanadaaW.PrintMore
set_option linter.unusedVariables false
set_option linter.unusedSimpArgs false
def eB (k b : Nat) : Int := (k : Int) * 1048576 + (b : Int)
def eI (k b i : Nat) : Int := (k : Int) * 1099511627776 + (b : Int) * 1048576 + (i : Int)
def eP (b i s : Nat) : Int := (b : Int) * 1073741824 + (i : Int) * 16 + (s : Int)
noncomputable def mB (F : Fl) (p : Nat) : Int := let x := inv F.nB p; eB x.1 x.2
noncomputable def mI (F : Fl) (q : Nat) : Int := let y := inv F.nI q; let x := inv F.nB y.1; eI x.1 x.2 y.2
noncomputable def mF (F : Fl) (r : Nat) : Int := let z := inv F.nE r; let y := inv F.nI z.1; let x := inv F.nB y.1; (x.1 : Int)
noncomputable def mP (F : Fl) (r : Nat) : Int := let z := inv F.nE r; let y := inv F.nI z.1; let x := inv F.nB y.1; eP x.2 y.2 z.2
structure Mk (F : Fl) (P Q R : Nat) (PB ND FN PC : Nat → Int) : Prop where
  b : ∀ p, p < P → PB p = mB F p
  i : ∀ q, q < Q → ND q = mI F q
  f : ∀ r, r < R → FN r = mF F r
  p : ∀ r, r < R → PC r = mP F r
section
variable {F : Fl} {P Q R : Nat} {PB ND FN PC : Nat → Int}
theorem mB_at {k b p : Nat} (hp : p = off F.nB k + b) (hb : b < F.nB k) : mB F p = eB k b := by
  unfold mB; rw [hp, inv_at hb]
theorem mI_at {k b p i q : Nat} (hp : p = off F.nB k + b) (hb : b < F.nB k) (hq : q = off F.nI p + i) (hi : i < F.nI p) : mI F q = eI k b i := by
  unfold mI; rw [hq, inv_at hi]; dsimp only; rw [hp, inv_at hb]
theorem mF_at {k b p i q s : Nat} (hp : p = off F.nB k + b) (hb : b < F.nB k) (hq : q = off F.nI p + i) (hi : i < F.nI p) (hs : s < F.nE q) : mF F (off F.nE q + s) = (k : Int) := by
  unfold mF; rw [inv_at hs]; dsimp only; rw [hq, inv_at hi]; dsimp only; rw [hp, inv_at hb]
theorem mP_at {k b p i q s : Nat} (hp : p = off F.nB k + b) (hb : b < F.nB k) (hq : q = off F.nI p + i) (hi : i < F.nI p) (hs : s < F.nE q) : mP F (off F.nE q + s) = eP b i s := by
  unfold mP; rw [inv_at hs]; dsimp only; rw [hq, inv_at hi]; dsimp only; rw [hp, inv_at hb]
theorem step_one {f g : Nat → Int} {n : Nat} {v : Int} (h : ∀ p, p < n → f p = g p) (hv : v = g n) : ∀ p, p < n + 1 → (fun x => if x = n then v else f x) p = g p := by
  intro p hp
  by_cases e : p = n
  · subst e; simp [hv]
  · show (if p = n then v else f p) = g p
    rw [if_neg e]; exact h p (by omega)
theorem Mk.stepE (h : Mk F P Q R PB ND FN PC) {v v' : Int} (h1 : v = mF F R) (h2 : v' = mP F R) : Mk F P Q (R + 1) PB ND (fun x => if x = R then v else FN x) (fun x => if x = R then v' else PC x) := ⟨h.b, h.i, step_one h.f h1, step_one h.p h2⟩
theorem Mk.stepI (h : Mk F P Q R PB ND FN PC) {v : Int} (h1 : v = mI F Q) : Mk F P (Q + 1) R PB (fun x => if x = Q then v else ND x) FN PC := ⟨h.b, step_one h.i h1, h.f, h.p⟩
theorem Mk.stepB (h : Mk F P Q R PB ND FN PC) {v : Int} (h1 : v = mB F P) : Mk F (P + 1) Q R (fun x => if x = P then v else PB x) ND FN PC := ⟨step_one h.b h1, h.i, h.f, h.p⟩
end
set_option maxHeartbeats 8000000 in
set_option maxRecDepth 100000 in
theorem lists_calls (F : Fl) (g0 base c nK : Nat) (w : World) (PB ND FN PC : Nat → Int) (hnK : nK = F.nK) (H : Ok F base w) (h : Fs F g0 base w w PB ND FN PC) :
    Calls Try.prog 35 #[.slice (some ⟨g0, 0, none⟩) nK c] w fun e w' => e = .returned (.bool true) ∧ But F.Wr w w' := by
  have HY := Aside0.mk H
  have HS := Aside0.mk h
  have hn : nK ≤ 2 := by rw [hnK]; exact H.lk
  have HK := Aside0.mk hnK
  clear H h hnK
  go_enter Try.func35, Try.ntmps35
  go_wp2
  go_loopw [3, 4, 5, 6] (fun t _ _ _ wr => ∃ k : Nat, k ≤ nK ∧ t = .int .i64 k ∧ ∃ PB ND FN PC, Fs F g0 base w wr PB ND FN PC ∧ Mk F (off F.nB k) (off F.nI (off F.nB k)) (off F.nE (off F.nI (off F.nB k))) PB ND FN PC) (fun t _ _ _ _ => nK - (intOf t).toNat)
  case atStart => exact ⟨0, Nat.zero_le _, rfl, PB, ND, FN, PC, HS.out, ⟨fun _ h => absurd h (Nat.not_lt_zero _), fun _ h => absurd h (Nat.not_lt_zero _), fun _ h => absurd h (Nat.not_lt_zero _), fun _ h => absurd h (Nat.not_lt_zero _)⟩⟩
  case round =>
    obtain ⟨k, hk, rfl, PB, ND, FN, PC, hF, hM⟩ := hrel
    have HF := Aside0.mk hF
    have HM := Aside0.mk hM
    clear hF hM
    by_cases hlt : k < nK
    · have HKF := Aside0.mk (show k < F.nK from HK.out ▸ hlt)
      obtain ⟨A, cA, hVA, hA⟩ := HF.out.frmB HKF.out
      have HVA := Aside0.mk (And.intro hVA hA)
      have hNB : F.nB k ≤ 4194304 := by have h1 := HY.out.nB HKF.out; have h2 := HY.out.lb; omega
      have HNB := Aside0.mk (HY.out.nB HKF.out)
      clear hVA hA
      go_wp2
      obtain ⟨wo1, rfl⟩ : ∃ wo : World, wo = wr := ⟨_, rfl⟩
      go_loopw [4, 5, 6] (fun t _ _ wr => ∃ b : Nat, b ≤ F.nB k ∧ t = .int .i64 b ∧ ∃ PB ND FN PC, Fs F g0 base w wr PB ND FN PC ∧ Mk F (off F.nB k + b) (off F.nI (off F.nB k + b)) (off F.nE (off F.nI (off F.nB k + b))) PB ND FN PC) (fun t _ _ _ => F.nB k - (intOf t).toNat)
      case atStart => exact ⟨0, Nat.zero_le _, rfl, PB, ND, FN, PC, HF.out, HM.out⟩
      case round =>
        obtain ⟨b, hb, rfl, PB, ND, FN, PC, hF, hM⟩ := hrel
        have HF2 := Aside0.mk hF
        have HM2 := Aside0.mk hM
        have x0 := hF.code HY.out HKF.out
        rw [HVA.out.1] at x0
        clear hF hM
        by_cases hltb : b < F.nB k
        · obtain ⟨gB, rfl⟩ := HVA.out.2 (by omega)
          obtain ⟨p, hp⟩ : ∃ p, p = off F.nB k + b := ⟨_, rfl⟩
          have HPF := Aside0.mk (show p < F.NB from hp ▸ off_lt HKF.out hltb)
          have HP := Aside0.mk hp
          rw [← hp] at HM2
          obtain ⟨B, cB, hVI, hB⟩ := HF2.out.frmI HPF.out
          have HVI := Aside0.mk (And.intro hVI hB)
          have hNI : F.nI p ≤ 4194304 := by have h1 := HY.out.nI HPF.out; have h2 := HY.out.li; omega
          have y1 := (HF2.out.rdB HP.out HKF.out hltb HVA.out.1).2.2
          rw [HVI.out.1] at y1
          clear hVI hB hp
          go_wp2
          clear x0 y1
          obtain ⟨wo2, rfl⟩ : ∃ wo : World, wo = wr := ⟨_, rfl⟩
          go_loopw [5, 6] (fun t _ wr => ∃ i : Nat, i ≤ F.nI p ∧ t = .int .i64 i ∧ ∃ PB ND FN PC, Fs F g0 base w wr PB ND FN PC ∧ Mk F p (off F.nI p + i) (off F.nE (off F.nI p + i)) PB ND FN PC) (fun t _ _ => F.nI p - (intOf t).toNat)
          case atStart => exact ⟨0, Nat.zero_le _, rfl, PB, ND, FN, PC, HF2.out, HM2.out⟩
          case round =>
            obtain ⟨i, hi, rfl, PB, ND, FN, PC, hF, hM⟩ := hrel
            have HF3 := Aside0.mk hF
            have HM3 := Aside0.mk hM
            have x0 := hF.code HY.out HKF.out
            rw [HVA.out.1] at x0
            obtain ⟨y0, f0, y1⟩ := hF.rdB HP.out HKF.out hltb HVA.out.1
            rw [HVI.out.1] at y1
            clear hF hM
            by_cases hlti : i < F.nI p
            · obtain ⟨gI, rfl⟩ := HVI.out.2 (by omega)
              obtain ⟨q, hq⟩ : ∃ q, q = off F.nI p + i := ⟨_, rfl⟩
              have HQF := Aside0.mk (show q < F.NI from hq ▸ off_lt HPF.out hlti)
              have HQ := Aside0.mk hq
              rw [← hq] at HM3
              obtain ⟨C, cC, hVE, hC⟩ := HF3.out.frmE HQF.out
              have HVE := Aside0.mk (And.intro hVE hC)
              have hNE : F.nE q ≤ 4194304 := by have h1 := HY.out.nE HQF.out; have h2 := HY.out.le; omega
              have z7 := (HF3.out.rdI HQ.out HPF.out hlti HVI.out.1).2.2
              rw [HVE.out.1] at z7
              clear hVE hC hq y0 f0
              go_wp2
              clear x0 y1 z7
              obtain ⟨wo3, rfl⟩ : ∃ wo : World, wo = wr := ⟨_, rfl⟩
              go_loopw [6] (fun t wr => ∃ s : Nat, s ≤ F.nE q ∧ t = .int .i64 s ∧ ∃ PB ND FN PC, Fs F g0 base w wr PB ND FN PC ∧ Mk F p q (off F.nE q + s) PB ND FN PC) (fun t _ => F.nE q - (intOf t).toNat)
              case atStart => exact ⟨0, Nat.zero_le _, rfl, PB, ND, FN, PC, HF3.out, HM3.out⟩
              case round =>
                obtain ⟨s, hs, rfl, PB, ND, FN, PC, hF, hM⟩ := hrel
                have HF4 := Aside0.mk hF
                have HM4 := Aside0.mk hM
                have x0 := hF.code HY.out HKF.out
                rw [HVA.out.1] at x0
                have y1 := (hF.rdB HP.out HKF.out hltb HVA.out.1).2.2
                rw [HVI.out.1] at y1
                obtain ⟨z6, f6, z7⟩ := hF.rdI HQ.out HPF.out hlti HVI.out.1
                rw [HVE.out.1] at z7
                clear hF hM
                by_cases hlts : s < F.nE q
                · obtain ⟨gE, rfl⟩ := HVE.out.2 (by omega)
                  obtain ⟨u0, h0, u1, h1, _⟩ := HF4.out.rdE rfl HQF.out hlts HVE.out.1
                  clear z6 f6
                  go_upto_region 14 with (fail)
                  have HF5 := Aside0.mk (HF4.out.setE0 HY.out HQF.out hlts HVE.out.1 (k : Int))
                  clear x0 y1 z7 u0 h0 u1 h1
                  generalize wr.setCell ⟨gE, s * 3, none⟩ (.int .i64 (k : Int)) = w5 at *
                  have x0 := HF5.out.code HY.out HKF.out
                  rw [HVA.out.1] at x0
                  have y1 := (HF5.out.rdB HP.out HKF.out hltb HVA.out.1).2.2
                  rw [HVI.out.1] at y1
                  obtain ⟨z6, f6, z7⟩ := HF5.out.rdI HQ.out HPF.out hlti HVI.out.1
                  rw [HVE.out.1] at z7
                  obtain ⟨u0, h0, u1, h1, _⟩ := HF5.out.rdE rfl HQF.out hlts HVE.out.1
                  clear z6 f6 u0 h0
                  go_wp2
                  go_roundw
                  case rel => exact ⟨s + 1, by omega, by go_num, PB, ND, _, _, HF5.out.setE1 HY.out HQF.out hlts HVE.out.1 _, HM4.out.stepE (mF_at HP.out hltb HQ.out hlti hlts).symm (mP_at HP.out hltb HQ.out hlti hlts).symm⟩
                  case measure => simp [intOf]; omega
                · obtain rfl : s = F.nE q := by omega
                  go_wp2
                  go_roundw
                  case rel =>
                    have e : off F.nI p + (i + 1) = q + 1 := by rw [HQ.out]; rfl
                    refine ⟨i + 1, by omega, by go_num, PB, _, FN, PC, HF4.out.setI HY.out HPF.out hlti HVI.out.1 _, ?_⟩
                    rw [e, ← HQ.out]
                    exact HM4.out.stepI (mI_at HP.out hltb HQ.out hlti).symm
                  case measure => simp [intOf]; omega
            · obtain rfl : i = F.nI p := by omega
              go_wp2
              go_roundw
              case rel =>
                have e : off F.nB k + (b + 1) = p + 1 := by rw [HP.out]; rfl
                refine ⟨b + 1, by omega, by go_num, _, ND, FN, PC, HF3.out.setB HY.out HKF.out hltb HVA.out.1 _, ?_⟩
                rw [e, ← HP.out]
                exact HM3.out.stepB (mB_at HP.out hltb).symm
              case measure => simp [intOf]; omega
        · obtain rfl : b = F.nB k := by omega
          go_wp2
          go_roundw
          case rel => exact ⟨k + 1, by omega, by go_num, PB, ND, FN, PC, HF2.out, HM2.out⟩
          case measure => simp [intOf]; omega
    · obtain rfl : k = nK := by omega
      have HM2 : Aside0 (Mk F F.NB F.NI F.NE PB ND FN PC) := Aside0.mk (by have h1 := HM.out; rw [HK.out] at h1; exact h1)
      clear HM hk hlt
      go_wp2_with (fail)
      refine (grown_calls F g0 base c k wr PB ND FN PC HK.out (HY.out.at_ HF.out.sb.but.size) HF.out.here).mono ?_
      rintro e w2 ⟨rfl, hF2⟩
      have HG := Aside0.mk (HF.out.trans hF2)
      clear hF2 HF
      go_wp2
      go_loopw [7, 8, 9, 10, 11] (fun t _ _ _ _ wr => ∃ k1 : Nat, k1 ≤ k ∧ t = .int .i64 k1 ∧ Fs F g0 base w wr PB ND FN PC) (fun t _ _ _ _ _ => k - (intOf t).toNat)
      case atStart => exact ⟨0, Nat.zero_le _, rfl, HG.out⟩
      case round =>
        obtain ⟨k1, hk, rfl, hF⟩ := hrel
        have HF := Aside0.mk hF
        clear hF
        by_cases hlt : k1 < k
        · have HKF := Aside0.mk (show k1 < F.nK from HK.out ▸ hlt)
          obtain ⟨A, cA, hVA, hA⟩ := HF.out.frmB HKF.out
          have HVA := Aside0.mk (And.intro hVA hA)
          have hNB : F.nB k1 ≤ 4194304 := by have h1 := HY.out.nB HKF.out; have h2 := HY.out.lb; omega
          have HNB := Aside0.mk (HY.out.nB HKF.out)
          clear hVA hA
          go_wp2
          obtain ⟨wo1, rfl⟩ : ∃ wo : World, wo = wr := ⟨_, rfl⟩
          go_loopw [8, 9, 10, 11] (fun t _ _ _ wr => ∃ b : Nat, b ≤ F.nB k1 ∧ t = .int .i64 b ∧ Fs F g0 base w wr PB ND FN PC) (fun t _ _ _ _ => F.nB k1 - (intOf t).toNat)
          case atStart => exact ⟨0, Nat.zero_le _, rfl, HF.out⟩
          case round =>
            obtain ⟨b, hb, rfl, hF⟩ := hrel
            have HF2 := Aside0.mk hF
            have x0 := hF.code HY.out HKF.out
            rw [HVA.out.1] at x0
            clear hF
            by_cases hltb : b < F.nB k1
            · obtain ⟨gB, rfl⟩ := HVA.out.2 (by omega)
              obtain ⟨p, hp⟩ : ∃ p, p = off F.nB k1 + b := ⟨_, rfl⟩
              have HPF := Aside0.mk (show p < F.NB from hp ▸ off_lt HKF.out hltb)
              have HP := Aside0.mk hp
              obtain ⟨B, cB, hVI, hB⟩ := HF2.out.frmI HPF.out
              have HVI := Aside0.mk (And.intro hVI hB)
              have hNI : F.nI p ≤ 4194304 := by have h1 := HY.out.nI HPF.out; have h2 := HY.out.li; omega
              have y1 := (HF2.out.rdB HP.out HKF.out hltb HVA.out.1).2.2
              rw [HVI.out.1] at y1
              clear hVI hB hp
              go_wp2
              clear x0 y1
              obtain ⟨wo2, rfl⟩ : ∃ wo : World, wo = wr := ⟨_, rfl⟩
              go_loopw [9, 10, 11] (fun t _ _ wr => ∃ i : Nat, i ≤ F.nI p ∧ t = .int .i64 i ∧ Fs F g0 base w wr PB ND FN PC) (fun t _ _ _ => F.nI p - (intOf t).toNat)
              case atStart => exact ⟨0, Nat.zero_le _, rfl, HF2.out⟩
              case round =>
                obtain ⟨i, hi, rfl, hF⟩ := hrel
                have HF3 := Aside0.mk hF
                have x0 := hF.code HY.out HKF.out
                rw [HVA.out.1] at x0
                obtain ⟨y0, _, y1⟩ := hF.rdB HP.out HKF.out hltb HVA.out.1
                rw [HVI.out.1] at y1
                rw [HM2.out.b p HPF.out, mB_at HP.out hltb] at y0
                unfold eB at y0
                clear hF
                by_cases hlti : i < F.nI p
                · obtain ⟨gI, rfl⟩ := HVI.out.2 (by omega)
                  obtain ⟨q, hq⟩ : ∃ q, q = off F.nI p + i := ⟨_, rfl⟩
                  have HQF := Aside0.mk (show q < F.NI from hq ▸ off_lt HPF.out hlti)
                  have HQ := Aside0.mk hq
                  obtain ⟨C, cC, hVE, hC⟩ := HF3.out.frmE HQF.out
                  have HVE := Aside0.mk (And.intro hVE hC)
                  have hNE : F.nE q ≤ 4194304 := by have h1 := HY.out.nE HQF.out; have h2 := HY.out.le; omega
                  have z7 := (HF3.out.rdI HQ.out HPF.out hlti HVI.out.1).2.2
                  rw [HVE.out.1] at z7
                  clear hVE hC hq y0
                  go_wp2
                  clear x0 y1 z7
                  obtain ⟨wo3, rfl⟩ : ∃ wo : World, wo = wr := ⟨_, rfl⟩
                  go_loopw [10, 11] (fun t _ wr => ∃ s : Nat, s ≤ F.nE q ∧ t = .int .i64 s ∧ Fs F g0 base w wr PB ND FN PC) (fun t _ _ => F.nE q - (intOf t).toNat)
                  case atStart => exact ⟨0, Nat.zero_le _, rfl, HF3.out⟩
                  case round =>
                    obtain ⟨s, hs, rfl, hF⟩ := hrel
                    have HF4 := Aside0.mk hF
                    have x0 := hF.code HY.out HKF.out
                    rw [HVA.out.1] at x0
                    have y1 := (hF.rdB HP.out HKF.out hltb HVA.out.1).2.2
                    rw [HVI.out.1] at y1
                    obtain ⟨z6, _, z7⟩ := hF.rdI HQ.out HPF.out hlti HVI.out.1
                    rw [HVE.out.1] at z7
                    rw [HM2.out.i q HQF.out, mI_at HP.out hltb HQ.out hlti] at z6
                    unfold eI at z6
                    clear hF
                    by_cases hlts : s < F.nE q
                    · obtain ⟨gE, rfl⟩ := HVE.out.2 (by omega)
                      obtain ⟨u0, _, u1, _, u2⟩ := HF4.out.rdE rfl HQF.out hlts HVE.out.1
                      rw [HM2.out.f _ (off_lt HQF.out hlts), mF_at HP.out hltb HQ.out hlti hlts] at u0
                      rw [HM2.out.p _ (off_lt HQF.out hlts), mP_at HP.out hltb HQ.out hlti hlts] at u1
                      obtain ⟨P5, n5, d5, hSL⟩ := HY.out.sl _ (off_lt HQF.out hlts)
                      rw [hSL] at u2
                      unfold eP at u1
                      clear z6 hSL
                      go_upto_region 32 with (fail)
                      have hb1 := below_alloc (Below.refl _ wr) (.cells #[.int .i64 (k1 : Int), .int .i64 ((b : Int) * 1073741824 + (i : Int) * 16 + (s : Int)), .slice P5 n5 d5] 65)
                      have K3 := blk_new wr (.cells #[.int .i64 (k1 : Int), .int .i64 ((b : Int) * 1073741824 + (i : Int) * 16 + (s : Int)), .slice P5 n5 d5] 65)
                      have HF5 := Aside0.mk (HF4.out.far (But.of_below hb1))
                      clear hb1 x0 y1 z7 u0 u1 u2 HF4
                      generalize wr.alloc (.cells #[.int .i64 (k1 : Int), .int .i64 ((b : Int) * 1073741824 + (i : Int) * 16 + (s : Int)), .slice P5 n5 d5] 65) = w5 at *
                      generalize wr.heap.size = g5 at *
                      have x0 : w5.cell? ⟨g5, 0, none⟩ = some (.int .i64 (k1 : Int)) := blk_cell K3 0
                      have x1 : w5.cell? ⟨g5, 1, none⟩ = some (.int .i64 ((b : Int) * 1073741824 + (i : Int) * 16 + (s : Int))) := blk_cell K3 1
                      have hE1 : ((k1 : Int) != (k1 : Int)) = false := by simp
                      have hE2 : (((b : Int) * 1073741824 + (i : Int) * 16 + (s : Int)) != ((b : Int) * 1073741824 + (i : Int) * 16 + (s : Int))) = false := by simp
                      clear K3
                      go_wp2
                      go_roundw
                      case rel => exact ⟨s + 1, by omega, by go_num, HF5.out⟩
                      case measure => simp [intOf]; omega
                    · obtain rfl : s = F.nE q := by omega
                      have hEq : (((k1 : Int) * 1099511627776 + (b : Int) * 1048576 + (i : Int)) != ((k1 : Int) * 1099511627776 + (b : Int) * 1048576 + (i : Int))) = false := by simp
                      go_wp2
                      go_roundw
                      case rel => exact ⟨i + 1, by omega, by go_num, HF4.out⟩
                      case measure => simp [intOf]; omega
                · obtain rfl : i = F.nI p := by omega
                  have hEq : (((k1 : Int) * 1048576 + (b : Int)) != ((k1 : Int) * 1048576 + (b : Int))) = false := by simp
                  go_wp2
                  go_roundw
                  case rel => exact ⟨b + 1, by omega, by go_num, HF3.out⟩
                  case measure => simp [intOf]; omega
            · obtain rfl : b = F.nB k1 := by omega
              go_wp2
              go_roundw
              case rel => exact ⟨k1 + 1, by omega, by go_num, HF2.out⟩
              case measure => simp [intOf]; omega
        · obtain rfl : k1 = k := by omega
          go_wp2
          go_ret
          exact ⟨rfl, HF.out.sb.but⟩
end Go.Proofs.Ytjekpkpmoanadaa.PCop
/- ApartInts' contract: lists of numbers that lie apart, each in a block of its own, are found to lie apart; nothing else is written. For every world. -/
namespace Go.Proofs.Ytjekpkpmoanadaa.PCop
open Go.RowKit Go.Proofs.Ytjekpkpmoanadaa.Lit Go.Proofs.Ytjekpkpmoanadaa.OwnCells Go.Proofs.Ytjekpkpmoanadaa.Grow Go.Proofs.YtjekpkpmoanadaaW.PrintWords Go.Proofs.YtjekpkpmoanadaaW.PrintLast Go.Proofs.YtjekpkpmoanadaaW.PrintMore
set_option linter.unusedVariables false
set_option linter.unusedSimpArgs false
def OutA (V : Nat → Value) (n : Nat) (ad : Option Addr) (N : Nat) (w : World) : Prop := ∀ j, j < n → ∃ a, ad = some a ∧ w.cell? (a.add j) = some (V j) ∧ a.block < N
theorem add_block9 (a : Addr) (j : Nat) : (a.add j).block = a.block := by unfold Addr.add; split <;> rfl
theorem outA_but {V : Nat → Value} {n N : Nat} {ad : Option Addr} (far : ∀ a b, ad = some a → OwnOf V n b → a.block ≠ b) : ∀ w w1 (T : Nat → Prop), But T w w1 → (∀ b, T b → OwnOf V n b ∨ N ≤ b) → OutA V n ad N w → OutA V n ad N w1 := by
  intro w w1 T hb hT h j hj
  obtain ⟨a, ha, hc, hl⟩ := h j hj
  refine ⟨a, ha, hb.cell hc (fun ht => ?_), hl⟩
  rcases hT _ ht with h1 | h1
  · rw [add_block9] at h1; exact far a _ ha h1 rfl
  · rw [add_block9] at h1; omega
/-- m marks of the k-th list -/
def mks (k m : Nat) : List Value := (List.range m).map fun (i : Nat) => Value.int .i64 (1000003 * ((k : Int) + 1) + (i : Int))
theorem mks_len (k m : Nat) : (mks k m).length = m := by simp [mks]
theorem mks_get (k m : Nat) {q : Nat} (h : q < m) : (mks k m)[q]? = some (.int .i64 (1000003 * ((k : Int) + 1) + (q : Int))) := by simp [mks, h]
theorem mks_succ (k m : Nat) : mks k (m + 1) = mks k m ++ [.int .i64 (1000003 * ((k : Int) + 1) + (m : Int))] := by simp [mks, List.range_succ]
theorem mks_take (k n m : Nat) : (mks k (n + m)).take (n * 1) = mks k n := by
  unfold mks
  rw [Nat.mul_one, ← List.map_take, List.take_range, Nat.min_eq_left (Nat.le_add_right n m)]
theorem mks_set (k i : Nat) (R : List Value) (h : 1 ≤ R.length) : (mks k i ++ R).set i (.int .i64 (1000003 * ((k : Int) + 1) + (i : Int))) = mks k (i + 1) ++ R.drop 1 := by
  match R, h with
  | x :: r, _ =>
    have hl := mks_len k i
    rw [List.set_append_right _ _ (by omega), hl, Nat.sub_self, mks_succ, List.append_assoc]; rfl
theorem info41 : (Try.prog.info? 41).map (fun i => (i.zero, i.size, i.bytes)) = some (some (.slice none 0 0), 1, 24) := by kernel_rfl
structure AHyp (V : Nat → Value) (L : Nat → Nat) (n base : Nat) (ad : Option Addr) (w0 : World) : Prop where
  hyp : Hyp V n base (OutA V n ad w0.heap.size) w0
  lim : n ≤ 4194304
  lims : ∀ j, j < n → L j ≤ 4194304
set_option maxHeartbeats 4000000 in
set_option maxRecDepth 100000 in
theorem apart_ints (V : Nat → Value) (L : Nat → Nat) (n base : Nat) (ad : Option Addr) (c : Nat) (w : World) (X : Nat → List Value) (hyp : AHyp V L n base ad w) (hst : St1 3 1 V L n base (OutA V n ad w.heap.size) w w X) :
    Calls Try.prog 34 #[.slice ad n c] w fun e w' => e = .returned (.bool true) ∧ But (OwnOf V n) w w' := by
  have HY := Aside0.mk hyp
  have HS := Aside0.mk hst
  have hn := hyp.lim
  clear hyp hst
  go_enter Try.func34, Try.ntmps34
  go_wp2
  go_loopw [3, 4] (fun t _ wr => ∃ k : Nat, k ≤ n ∧ t = .int .i64 k ∧ ∃ X, St1 3 1 V L n base (OutA V n ad w.heap.size) w wr X ∧ ∀ j, j < k → X j = mks j (L j)) (fun t _ _ => n - (intOf t).toNat)
  case atStart => exact ⟨0, Nat.zero_le _, rfl, X, HS.out, fun j hj => absurd hj (by omega)⟩
  case round =>
    obtain ⟨k, hk, rfl, X, hS, hX⟩ := hrel
    have HS1 := Aside0.mk hS
    have HX := Aside0.mk hX
    clear hS hX
    by_cases hlt : k < n
    · go_wp2
      obtain ⟨a, rfl, hcell0, _⟩ := HS1.out.outer k hlt
      have hlk := HY.out.lims k hlt
      obtain ⟨A, cp, hVk, hcp⟩ := own_form (HS1.out.own k hlt)
      have HV := Aside0.mk hVk
      have HC0 := Aside0.mk hcell0
      clear hVk hcell0
      obtain ⟨wo, rfl⟩ : ∃ wo : World, wo = wr := ⟨_, rfl⟩
      go_loopw [4] (fun t wr => ∃ i : Nat, i ≤ L k ∧ t = .int .i64 i ∧ ∃ X, St1 3 1 V L n base (OutA V n (some a) w.heap.size) w wr X ∧ (∀ j, j < k → X j = mks j (L j)) ∧ ∃ R, X k = mks k i ++ R) (fun t _ => L k - (intOf t).toNat)
      case atStart => exact ⟨0, Nat.zero_le _, rfl, X, HS1.out, HX.out, X k, (by simp [mks])⟩
      case round =>
        obtain ⟨i, hi, rfl, X2, hS2, hX2, R, hR⟩ := hrel
        obtain ⟨a', ha', hcell, _⟩ := hS2.outer k hlt
        obtain rfl := Option.some.inj ha'
        clear ha'
        rw [HV.out] at hcell
        have HS2 := Aside0.mk hS2
        have HX2 := Aside0.mk hX2
        have HR := Aside0.mk hR
        clear hS2 hX2 hR
        by_cases hil : i < L k
        · obtain ⟨g, cp', hVg, _, _⟩ := (HS2.out.own k hlt).form (by omega)
          have hVe := HV.out
          rw [hVg] at hVe
          cases hVe
          have hlen : (X2 k).length = L k * 1 := (HS2.out.own k hlt).1
          have ho := HS2.out.own k hlt
          rw [hVg] at ho
          have HVg := Aside0.mk hVg
          obtain ⟨p0, f0⟩ := own_cell ho i _ (List.getElem?_eq_getElem (by omega))
          generalize (X2 k)[i] = x0 at p0
          have hlen' := Aside0.mk hlen
          clear ho hVg hlen
          go_wp2
          go_roundw
          case rel =>
            refine ⟨i + 1, by omega, by go_num, _, HS2.out.set HY.out.hyp hlt HVg.out i _, fun j hj => ?_, R.drop 1, ?_⟩
            · show (if j = k then _ else X2 j) = _
              rw [if_neg (by omega)]
              exact HX2.out j hj
            · show (if k = k then _ else X2 k) = _
              rw [if_pos rfl, HR.out]
              exact mks_set k i R (by have := hlen'.out; rw [HR.out, List.length_append, mks_len] at this; omega)
          case measure => simp [intOf]; omega
        · obtain rfl : i = L k := by omega
          go_wp2
          go_roundw
          case rel =>
            refine ⟨k + 1, by omega, by go_num, X2, HS2.out, fun j hj => ?_⟩
            rcases Nat.lt_or_ge j k with h | h
            · exact HX2.out j h
            · obtain rfl : j = k := by omega
              have h1 := (HS2.out.own j hlt).1
              rw [HR.out, List.length_append, mks_len] at h1
              rw [HR.out, List.eq_nil_of_length_eq_zero (show R.length = 0 by omega), List.append_nil]
          case measure => simp [intOf]; omega
    · obtain rfl : k = n := by omega
      have HS2 := Aside0.mk (St2.of1 (R := 64) (cont := mks) HS1.out HX.out)
      clear HS1 HX HS X hk hlt
      go_wp2
      go_loopw [5, 6, 7, 8] (fun gv t _ _ wr => ∃ j : Nat, j ≤ k ∧ t = .int .i64 j ∧ ∃ Gv, Gv.length = j ∧ St2 3 1 64 mks V L k base (OutA V k ad w.heap.size) w wr Gv ∧ wr.ownsRow w.heap.size 41 1 gv j Gv) (fun _ t _ _ _ => k - (intOf t).toNat)
      case atStart => exact ⟨0, Nat.zero_le _, rfl, [], rfl, HS2.out, World.ownsRow_nil _ _ _ _⟩
      case round =>
        obtain ⟨j, hj, rfl, Gv, hG, hS, hO⟩ := hrel
        have HG := Aside0.mk hG
        have HS3 := Aside0.mk hS
        have HO := Aside0.mk hO
        clear hG hS hO
        by_cases hjk : j < k
        · obtain ⟨a, had, hcell, hal⟩ := HS3.out.outer j hjk
          subst had
          obtain ⟨A, cp, hVj, hcp⟩ := own_form (HS3.out.own j hjk)
          rw [hVj] at hcell
          have HV := Aside0.mk hVj
          have hlj := HY.out.lims j hjk
          clear hVj
          go_wp2
          clear hcell
          obtain ⟨wo, rfl⟩ : ∃ wo : World, wo = wr := ⟨_, rfl⟩
          go_loopw [7, 8] (fun u t wr => ∃ i : Nat, i ≤ 64 ∧ t = .int .i64 i ∧ St2 3 1 64 mks V L k base (OutA V k (some a) w.heap.size) w wr Gv ∧ Cur 3 1 mks V L k base w wr Gv j i u ∧ wr.ownsRow w.heap.size 41 1 u5 j Gv) (fun _ t _ => 64 - (intOf t).toNat)
          case atStart => exact ⟨0, by omega, rfl, HS3.out, HV.out ▸ Cur.start HY.out.hyp HS3.out hjk (by have := HG.out; omega), HO.out⟩
          case round =>
            obtain ⟨i, hi, rfl, hS, hC, hO⟩ := hrel
            have HS4 := Aside0.mk hS
            have HC4 := Aside0.mk hC
            have HO4 := Aside0.mk hO
            obtain ⟨a', ha', hcell, _⟩ := hS.outer j hjk
            obtain rfl := Option.some.inj ha'
            rw [HV.out] at hcell
            clear hS hC hO ha'
            by_cases hil : i < 64
            · obtain ⟨i0, hi0, hz⟩ := Option.map_eq_some_iff.1 info3
              simp only [Prod.mk.injEq] at hz
              have HI := Aside0.mk hi0
              have HZ := Aside0.mk hz
              clear hi0 hz
              go_wp2_with (first | ((with_reducible refine gate_builtin (b := .append) (xs := #[.tmp 52, .tmp 64]) rfl ?_); at_builtin; refine wpList_append_two rfl (.tmp 52) (.tmp 64) 41 rfl base 3 i0 (.int .i64 0) 1 8 Try.underlying41 HI.out HZ.out.1 HZ.out.2.1 HZ.out.2.2 rfl (by decide) u7 (L j + i) (mks j (L j + i)) rfl ?aO ⟨wr.heap.size, 0, none⟩ 1 1 [.int .i64 (1000003 * ((j : Int) + 1) + (L j : Int) + (i : Int))] rfl rfl (cells_new wr _ 3) ?aU (by decide) ?aL ?aB ?aH ?_; (case aO => exact (HC4.out.but_ (but_alloc wr _) (fun _ _ h => h)).own); (case aU => simp [Value.oneCell']); (case aL => unfold maxLen; omega); (case aB => omega); (case aH => have := HY.out.hyp.base; have := HS4.out.but.size; simp; omega); intro g cap w9 q1 q2 q3; have Q := Aside0.mk (And.intro q1 (And.intro q2 q3)); clear q1 q2 q3))
              go_roundw
              case rel =>
                obtain ⟨q1, q2, q3⟩ := Q.out
                have e1 : mks j (L j + i) ++ [.int .i64 (1000003 * ((j : Int) + 1) + (L j : Int) + (i : Int))] = mks j (L j + (i + 1)) := by
                  rw [← Nat.add_assoc, mks_succ, Int.add_assoc, Int.natCast_add]
                rw [e1] at q1
                have ba := but_alloc wr (.cells #[.int .i64 (1000003 * ((j : Int) + 1) + (L j : Int) + (i : Int))] 3)
                have S1 := HS4.out.but_ HY.out.hyp ba (fun _ _ _ _ h => h) (fun _ _ _ _ _ h => h) (fun _ h => h.elim)
                obtain ⟨S2, C2, b2⟩ := grow_step HY.out.hyp (fun k m _ => mks_take k (L k) m) S1 hjk (HC4.out.but_ ba (fun _ _ h => h)) q1 q2 q3
                exact ⟨i + 1, by omega, by go_num, S2, C2, b2.own (ba.own HO4.out (fun _ _ h => h)) (fun b hb hs => own_type_ne2 HO4.out HC4.out.own (by decide) b hb hs)⟩
              case measure => simp [intOf]; omega
            · obtain rfl : i = 64 := by omega
              obtain ⟨A7, c7, rfl, hc7⟩ := own_form HC4.out.own
              obtain ⟨i1, hi1, hz⟩ := Option.map_eq_some_iff.1 info41
              simp only [Prod.mk.injEq] at hz
              have HI := Aside0.mk hi1
              have HZ := Aside0.mk hz
              clear hi1 hz
              go_wp2_with (first | ((with_reducible refine gate_builtin (b := .append) (xs := #[.tmp 66, .tmp 68]) rfl ?_); at_builtin; refine wpList_append_two rfl (.tmp 66) (.tmp 68) 31 rfl w.heap.size 41 i1 (.slice none 0 0) 1 24 Try.underlying31 HI.out HZ.out.1 HZ.out.2.1 HZ.out.2.2 rfl (by decide) u5 j Gv rfl ?bO ⟨wr.heap.size, 0, none⟩ 1 1 [.slice A7 (L j + 64) c7] rfl rfl (cells_new wr _ 41) ?bU (by decide) ?bL ?bB ?bH ?_; (case bO => exact (but_alloc wr _).own HO4.out (fun _ _ h => h)); (case bU => simp [Value.oneCell']); (case bL => unfold maxLen; omega); (case bB => omega); (case bH => have := HS4.out.but.size; simp; omega); intro g cap w9 q1 q2 q3; have Q := Aside0.mk (And.intro q1 (And.intro q2 q3)); clear q1 q2 q3))
              go_roundw
              case rel =>
                obtain ⟨q1, q2, q3⟩ := Q.out
                have ba := but_alloc wr (.cells #[.slice A7 (L j + 64) c7] 41)
                have S1 := HS4.out.but_ HY.out.hyp ba (fun _ _ _ _ h => h) (fun _ _ _ _ _ h => h) (fun _ h => h.elim)
                have C1 := HC4.out.but_ ba (fun _ _ h => h)
                have O1 := ba.own HO4.out (fun _ _ h => h)
                have S2 := S1.snoc hjk HG.out C1
                have b2 : But (fun b => u5.ownBlock = some b) (wr.alloc (.cells #[.slice A7 (L j + 64) c7] 41)) w9 := by
                  rcases q3 with ⟨e, hg⟩ | ⟨_, hg⟩
                  · rw [e]; exact But.of_grown hg
                  · exact (But.of_grown hg).mono (fun q hq => by cases hq)
                refine ⟨j + 1, by omega, by go_num, Gv ++ [.slice A7 (L j + 64) c7], by rw [List.length_append, HG.out]; rfl, S2.but_ HY.out.hyp b2 (fun i hi b hb hs => own_type_ne2 O1 (S2.own i hi) (by decide) b hs hb) (fun i v hv b hb hs => own_type_ne2 O1 (S2.grown i v hv).2.1 (by decide) b hs hb) (fun b hb => own_base O1 b hb), q1⟩
              case measure => simp [intOf]; omega
        · obtain rfl : j = k := by omega
          clear hj hjk
          go_wp2
          go_loopw [9, 10, 11] (fun t _ _ wr => ∃ p : Nat, p ≤ j ∧ t = .int .i64 p ∧ St2 3 1 64 mks V L j base (OutA V j ad w.heap.size) w wr Gv ∧ wr.ownsRow w.heap.size 41 1 u5 j Gv) (fun t _ _ _ => j - (intOf t).toNat)
          case atStart => exact ⟨0, Nat.zero_le _, rfl, HS3.out, HO.out⟩
          case round =>
            obtain ⟨p, hp, rfl, hS, hO⟩ := hrel
            have HS5 := Aside0.mk hS
            have HO5 := Aside0.mk hO
            clear hS hO
            by_cases hpj : p < j
            · have hGl := HG.out
              obtain ⟨g5, cp5, rfl, _, _⟩ := HO5.out.form (by omega)
              obtain ⟨v, hv⟩ : ∃ v, Gv[p]? = some v := ⟨_, List.getElem?_eq_getElem (by omega)⟩
              obtain ⟨b, cb, rfl, _, _⟩ := (HS5.out.grown p v hv).2.1.form (by omega)
              obtain ⟨a, had, hcell0, _⟩ := HS5.out.outer p hpj
              subst had
              obtain ⟨A, cp, hVj, hcp⟩ := own_form (HS5.out.own p hpj)
              have HV := Aside0.mk hVj
              have HVC := Aside0.mk hv
              have hlj := HY.out.lims p hpj
              clear hVj hv hcell0 hGl
              go_wp2
              obtain ⟨wo, rfl⟩ : ∃ wo : World, wo = wr := ⟨_, rfl⟩
              go_loopw [10, 11] (fun t _ wr => ∃ q : Nat, q ≤ L p + 64 ∧ t = .int .i64 q ∧ St2 3 1 64 mks V L j base (OutA V j (some a) w.heap.size) w wr Gv ∧ wr.ownsRow w.heap.size 41 1 (.slice (some ⟨g5, 0, none⟩) j cp5) j Gv) (fun t _ _ => L p + 64 - (intOf t).toNat)
              case atStart => exact ⟨0, by omega, rfl, HS5.out, HO5.out⟩
              case round =>
                obtain ⟨q, hq, rfl, hS, hO⟩ := hrel
                have HS6 := Aside0.mk hS
                have HO6 := Aside0.mk hO
                obtain ⟨a', ha', hcell, _⟩ := hS.outer p hpj
                obtain rfl := Option.some.inj ha'
                rw [HV.out] at hcell
                have hgs := (own_cell hO p _ HVC.out).1
                have hgo := (hS.grown p _ HVC.out).2.1
                have hvo := hS.own p hpj
                rw [HV.out] at hvo
                clear hS hO ha'
                by_cases hql : q < L p + 64
                · have x0 := (own_cell hgo q _ (mks_get _ _ hql)).1
                  clear hgo
                  have hE : ((1000003 * ((p : Int) + 1) + (q : Int)) != (1000003 * ((p : Int) + 1) + (q : Int))) = false := by simp
                  by_cases hqs : q < L p
                  · obtain ⟨gv, cv, hAv, _, _⟩ := hvo.form (by omega)
                    cases hAv
                    have y0 := (own_cell hvo q _ (mks_get _ _ hqs)).1
                    have hd : decide (q < L p) = true := decide_eq_true hqs
                    clear hvo
                    go_wp2
                    go_roundw
                    case rel => exact ⟨q + 1, by omega, by go_num, HS6.out, HO6.out⟩
                    case measure => simp [intOf]; omega
                  · have hd : decide (q < L p) = false := decide_eq_false hqs
                    clear hvo hqs
                    go_wp2
                    go_roundw
                    case rel => exact ⟨q + 1, by omega, by go_num, HS6.out, HO6.out⟩
                    case measure => simp [intOf]; omega
                · obtain rfl : q = L p + 64 := by omega
                  clear hgo hvo
                  go_wp2
                  go_roundw
                  case rel => exact ⟨p + 1, by omega, by go_num, HS6.out, HO6.out⟩
                  case measure => simp [intOf]; omega
            · go_wp2
              go_ret
              exact ⟨rfl, HS5.out.but⟩
end Go.Proofs.Ytjekpkpmoanadaa.PCop
/- ApartValues' contract: lists of values that lie apart, each in a block of its own, are found to lie apart; nothing else is written. For every world. -/
namespace Go.Proofs.Ytjekpkpmoanadaa.ApO
open Go.RowKit Go.Proofs.Ytjekpkpmoanadaa.PCop Go.Proofs.Ytjekpkpmoanadaa.Lit Go.Proofs.Ytjekpkpmoanadaa.OwnCells Go.Proofs.YtjekpkpmoanadaaW.PrintWords Go.Proofs.YtjekpkpmoanadaaW.PrintLast Go.Proofs.YtjekpkpmoanadaaW.PrintMore
set_option linter.unusedVariables false
set_option linter.unusedSimpArgs false
/-- n marks of the k-th list, cell by cell -/
def mk (K : Int) : Nat → List Value
  | 0 => []
  | n + 1 => mk K n ++ [.int .i64 K, .int .i64 (n : Int)]
theorem mk_len (K : Int) : ∀ n, (mk K n).length = n * 2
  | 0 => rfl
  | n + 1 => by simp only [mk, List.length_append, mk_len K n, List.length_cons, List.length_nil]; omega
theorem set_mark (K : Int) (i : Nat) (R : List Value) (m : Int) (h : 2 ≤ R.length) : ((mk K i ++ R).set (i * 2) (.int .i64 K)).set (i * 2 + 1) (.int .i64 (i : Int)) = mk K (i + 1) ++ R.drop 2 := by
  match R, h with
  | x :: y :: r, _ =>
    rw [List.set_append_right _ _ (by rw [mk_len]; omega), mk_len, Nat.sub_self, List.set_append_right _ _ (by rw [mk_len]; omega), mk_len, show i * 2 + 1 - i * 2 = 1 by omega]
    simp [mk]
theorem mk_get0 (K : Int) : ∀ n q, q < n → (mk K n)[q * 2]? = some (.int .i64 K)
  | 0, q, h => absurd h (by omega)
  | n + 1, q, h => by
    simp only [mk]
    rcases Nat.lt_or_ge q n with hq | hq
    · rw [List.getElem?_append_left (by rw [mk_len]; omega)]
      exact mk_get0 K n q hq
    · obtain rfl : q = n := by omega
      rw [List.getElem?_append_right (by rw [mk_len]; omega), mk_len, Nat.sub_self]
      rfl
theorem mk_get1 (K : Int) : ∀ n q, q < n → (mk K n)[q * 2 + 1]? = some (.int .i64 (q : Int))
  | 0, q, h => absurd h (by omega)
  | n + 1, q, h => by
    simp only [mk]
    rcases Nat.lt_or_ge q n with hq | hq
    · rw [List.getElem?_append_left (by rw [mk_len]; omega)]
      exact mk_get1 K n q hq
    · obtain rfl : q = n := by omega
      rw [List.getElem?_append_right (by rw [mk_len]; omega), mk_len, show q * 2 + 1 - q * 2 = 1 by omega]
      rfl
/-- what stands in a row of 49's -/
structure St1 (V : Nat → Value) (L : Nat → Nat) (n base : Nat) (ad : Option Addr) (w0 : World) (w : World) (X : Nat → List Value) : Prop where
  own : ∀ j, j < n → w.ownsRow base 49 2 (V j) (L j) (X j)
  outer : ∀ j, j < n → ∃ a, ad = some a ∧ w.cell? (a.add j) = some (V j)
  but : But (fun b => ∃ j, j < n ∧ (V j).ownBlock = some b) w0 w
structure Hyp (V : Nat → Value) (L : Nat → Nat) (n base : Nat) (ad : Option Addr) (w0 : World) : Prop where
  apart : ∀ i j b, i < n → j < n → i ≠ j → (V i).ownBlock = some b → (V j).ownBlock ≠ some b
  far : ∀ j b a, j < n → ad = some a → (V j).ownBlock = some b → a.block ≠ b
  lim : n * 24 ≤ 140737488351232
  lims : ∀ j, j < n → (L j + 64) * 16 ≤ 140737488355328
  base : base ≤ w0.heap.size
theorem St1.step {V : Nat → Value} {L : Nat → Nat} {n base : Nat} {ad : Option Addr} {w0 w : World} {X : Nat → List Value} (H : Hyp V L n base ad w0) (h : St1 V L n base ad w0 w X) {k g cap : Nat} (hk : k < n) (hV : V k = .slice (some ⟨g, 0, none⟩) (L k) cap) (q : Nat) (u v : Value) :
    St1 V L n base ad w0 ((w.setCell ⟨g, q, none⟩ u).setCell ⟨g, q + 1, none⟩ v) (fun j => if j = k then ((X k).set q u).set (q + 1) v else X j) := by
  have b1 := But.of_grown (setCell_grown w g q u)
  have b2 := But.of_grown (setCell_grown (w.setCell ⟨g, q, none⟩ u) g (q + 1) v)
  have b3 : But (fun b => some g = some b) w ((w.setCell ⟨g, q, none⟩ u).setCell ⟨g, q + 1, none⟩ v) := b1.trans b2 (fun b hb => .inl hb)
  have hVk : (V k).ownBlock = some g := by rw [hV]; rfl
  refine ⟨fun j hj => ?_, fun j hj => ?_, h.but.trans b3 (fun b hb => .inl ⟨k, hk, hVk.trans hb⟩)⟩
  · by_cases e : j = k
    · subst e
      rw [if_pos rfl]
      have := h.own j hj
      rw [hV] at this ⊢
      exact own_set (own_set this q u) (q + 1) v
    · rw [if_neg e]
      refine b3.own (h.own j hj) (fun b hb he => ?_)
      have : some g = some b := he
      exact H.apart j k b hj hk e hb (hVk.trans this)
  · obtain ⟨a, ha, hc⟩ := h.outer j hj
    refine ⟨a, ha, b3.cell hc (fun he => ?_)⟩
    have he' : some g = some (a.add j).block := he
    have hab : (a.add j).block = a.block := by unfold Addr.add; split <;> rfl
    rw [hab] at he'
    exact H.far k g a hk ha hVk (Option.some.inj he').symm
theorem add_block (a : Addr) (j : Nat) : (a.add j).block = a.block := by unfold Addr.add; split <;> rfl
theorem mk_prefix (K : Int) (n : Nat) : ∀ m, (mk K (n + m)).take (n * 2) = mk K n
  | 0 => by rw [Nat.add_zero, ← mk_len K n, List.take_length]
  | m + 1 => by
    rw [← Nat.add_assoc]
    simp only [mk]
    rw [List.take_append_of_le_length (by rw [mk_len]; omega)]
    exact mk_prefix K n m
theorem own_shorter {w : World} {base n m cap : Nat} {b : Addr} {xs ys : List Value} (h : w.ownsRow base 49 2 (.slice (some b) n cap) n xs) (hm : m ≤ n) (hy : ys = xs.take (m * 2)) : w.ownsRow base 49 2 (.slice (some b) m cap) m ys := by
  subst hy
  refine ⟨by rw [List.length_take, h.1]; omega, ?_⟩
  rcases h.2 with ⟨h0, _⟩ | ⟨g, c, cur, he, hb, hg, h1, h2, h3, h4⟩
  · cases h0
  · cases he
    refine .inr ⟨g, cap, cur, rfl, hb, hg, by omega, h2, h3, ?_⟩
    rw [← h4, List.take_take]
    congr 1
    omega
structure St2 (V : Nat → Value) (L : Nat → Nat) (n base : Nat) (ad : Option Addr) (w0 : World) (w : World) (Gv : List Value) : Prop where
  own : ∀ j, j < n → w.ownsRow base 49 2 (V j) (L j) (mk (-10 - (j : Int)) (L j))
  grown : ∀ j v, Gv[j]? = some v → j < n ∧ w.ownsRow base 49 2 v (L j + 64) (mk (-10 - (j : Int)) (L j + 64)) ∧ ∀ i, i < n → i ≠ j → ∀ b, v.ownBlock = some b → (V i).ownBlock ≠ some b
  outer : ∀ j, j < n → ∃ a, ad = some a ∧ w.cell? (a.add j) = some (V j) ∧ a.block < w0.heap.size
  but : But (fun b => ∃ j, j < n ∧ (V j).ownBlock = some b) w0 w
/-- the list that grows -/
structure Cur (V : Nat → Value) (L : Nat → Nat) (n base : Nat) (w0 : World) (w : World) (Gv : List Value) (k i : Nat) (u : Value) : Prop where
  own : w.ownsRow base 49 2 u (L k + i) (mk (-10 - (k : Int)) (L k + i))
  link : u.ownBlock ≠ (V k).ownBlock ∨ (V k).ownBlock = none ∨ ∃ b c, V k = .slice (some b) (L k) c ∧ u = .slice (some b) (L k + i) c
  old : ∀ b, u.ownBlock = some b → (V k).ownBlock = some b ∨ w0.heap.size ≤ b
  others : ∀ i', i' < n → i' ≠ k → ∀ b, u.ownBlock = some b → (V i').ownBlock ≠ some b
  grown : ∀ (j : Nat) v, Gv[j]? = some v → ∀ b, u.ownBlock = some b → v.ownBlock ≠ some b
theorem own_type_ne' {w : World} {b1 b2 : Nat} {v v' : Value} {n n' : Nat} {xs xs' : List Value} (h : w.ownsRow b1 44 1 v n xs) (h' : w.ownsRow b2 49 2 v' n' xs') (b : Nat) (hb : v.ownBlock = some b) : v'.ownBlock ≠ some b := by
  intro hb'
  rcases own_type_ne h h' (by decide) with h0 | h0
  · rw [hb] at h0; cases h0
  · exact h0 (hb.trans hb'.symm)
/-- something else is written, or made -/
theorem St2.but_ {V : Nat → Value} {L : Nat → Nat} {n base : Nat} {ad : Option Addr} {w0 w w1 : World} {Gv : List Value} (H : Hyp V L n base ad w0) (h : St2 V L n base ad w0 w Gv) {T : Nat → Prop} (b : But T w w1)
    (hV : ∀ j, j < n → ∀ b, (V j).ownBlock = some b → ¬ T b) (hG : ∀ (j : Nat) v, Gv[j]? = some v → ∀ b, v.ownBlock = some b → ¬ T b) (hT : ∀ b, T b → w0.heap.size ≤ b) : St2 V L n base ad w0 w1 Gv :=
  ⟨fun j hj => b.own (h.own j hj) (hV j hj), fun j v hv => ⟨(h.grown j v hv).1, b.own (h.grown j v hv).2.1 (hG j v hv), (h.grown j v hv).2.2⟩,
    fun j hj => let ⟨a, ha, hc, hl⟩ := h.outer j hj; ⟨a, ha, b.cell hc (fun ht => by have := hT _ ht; rw [add_block] at this; omega), hl⟩, h.but.trans b (fun q hq => .inr (hT q hq))⟩
/-- an element is appended to the list that grows -/
theorem grow_step {V : Nat → Value} {L : Nat → Nat} {n base : Nat} {ad : Option Addr} {w0 w w1 : World} {Gv : List Value} (H : Hyp V L n base ad w0) (h : St2 V L n base ad w0 w Gv) {k i : Nat} {u : Value} (hk : k < n) (hc : Cur V L n base w0 w Gv k i u) {g cap : Nat}
    (h1 : w1.ownsRow base 49 2 (.slice (some ⟨g, 0, none⟩) (L k + i + 1) cap) (L k + i + 1) (mk (-10 - (k : Int)) (L k + i) ++ [.int .i64 (-10 - (k : Int)), .int .i64 ((L k + i : Nat) : Int)])) (h2 : w1.ownsRow base 49 2 u (L k + i) (mk (-10 - (k : Int)) (L k + i)))
    (h3 : (u = .slice (some ⟨g, 0, none⟩) (L k + i) cap ∧ w.grownBy w1 (some g)) ∨ (w.heap.size ≤ g ∧ w.grownBy w1 none)) :
    St2 V L n base ad w0 w1 Gv ∧ Cur V L n base w0 w1 Gv k (i + 1) (.slice (some ⟨g, 0, none⟩) (L k + i + 1) cap) ∧ But (fun b => u.ownBlock = some b) w w1 := by
  have hsz := h.but.size
  rcases h3 with ⟨rfl, hg⟩ | ⟨hge, hg⟩
  · have b := But.of_grown hg
    have hu : (Value.slice (some ⟨g, 0, none⟩) (L k + i) cap).ownBlock = some g := rfl
    refine ⟨⟨fun j hj => ?_, fun j v hv => ?_, fun j hj => ?_, h.but.trans b (fun q hq => ?_)⟩, ⟨h1, ?_, fun q hq => hc.old q hq, fun j hj hjk q hq => hc.others j hj hjk q hq, fun j v hv q hq => hc.grown j v hv q hq⟩, b⟩
    · by_cases e : j = k
      · subst e
        rcases hc.link with hl | hl | ⟨a, c, e1, e2⟩
        · exact b.own (h.own j hj) (fun q hq hs => hl (hu.trans (Eq.trans hs hq.symm)))
        · exact b.own (h.own j hj) (fun q hq hs => by rw [hl] at hq; cases hq)
        · cases e2
          rw [e1]
          exact own_shorter h2 (by omega) (mk_prefix _ _ _).symm
      · exact b.own (h.own j hj) (fun q hq hs => hc.others j hj e g rfl (hq.trans (Eq.symm hs)))
    · exact ⟨(h.grown j v hv).1, b.own (h.grown j v hv).2.1 (fun q hq hs => hc.grown j v hv g rfl (hq.trans (Eq.symm hs))), (h.grown j v hv).2.2⟩
    · obtain ⟨a, ha, hcell, hl⟩ := h.outer j hj
      refine ⟨a, ha, b.cell hcell (fun hs => ?_), hl⟩
      have hs' : some g = some (a.add j).block := hs
      rw [add_block] at hs'
      rcases hc.old g rfl with ho | ho
      · exact H.far k g a hk ha ho (Option.some.inj hs').symm
      · have := Option.some.inj hs'
        omega
    · have hs' : some g = some q := hq
      rcases hc.old g rfl with ho | ho
      · exact .inl ⟨k, hk, ho.trans hs'⟩
      · exact .inr (by rw [← Option.some.inj hs']; exact ho)
    · rcases hc.link with hl | hl | ⟨a, c, e1, e2⟩
      · exact .inl hl
      · exact .inr (.inl hl)
      · cases e2
        exact .inr (.inr ⟨_, _, e1, rfl⟩)
  · have b : But (fun _ => False) w w1 := (But.of_grown hg).mono (fun q hq => by cases hq)
    refine ⟨h.but_ H b (fun _ _ _ _ h => h) (fun _ _ _ _ _ h => h) (fun _ h => h.elim), ⟨h1, .inl (fun e => ?_), fun q hq => ?_, fun j hj hjk q hq e => ?_, fun j v hv q hq e => ?_⟩, b.mono (fun _ h => h.elim)⟩
    · have hb := own_lt (h.own k hk) g e.symm
      omega
    · have hq' : g = q := Option.some.inj hq
      exact .inr (by omega)
    · cases hq
      have hb := own_lt (h.own j hj) g e
      omega
    · cases hq
      have hb := own_lt (h.grown j v hv).2.1 g e
      omega
theorem Cur.but_ {V : Nat → Value} {L : Nat → Nat} {n base : Nat} {w0 w w1 : World} {Gv : List Value} {k i : Nat} {u : Value} (h : Cur V L n base w0 w Gv k i u) {T : Nat → Prop} (b : But T w w1) (hT : ∀ b, u.ownBlock = some b → ¬ T b) : Cur V L n base w0 w1 Gv k i u :=
  ⟨b.own h.own hT, h.link, h.old, h.others, h.grown⟩
theorem but_alloc (w : World) (o : Obj) : But (fun _ => False) w (w.alloc o) := But.of_below (below_alloc (Below.refl _ _) o)
theorem info49 : (Try.prog.info? 49).map (fun i => (i.zero, i.size, i.bytes)) = some (some (.agg #[.int .i64 0, .int .i64 0]), 2, 16) := by kernel_rfl
theorem info44 : (Try.prog.info? 44).map (fun i => (i.zero, i.size, i.bytes)) = some (some (.slice none 0 0), 1, 24) := by kernel_rfl
theorem Cur.start {V : Nat → Value} {L : Nat → Nat} {n base : Nat} {ad : Option Addr} {w0 w : World} {Gv : List Value} (H : Hyp V L n base ad w0) (h : St2 V L n base ad w0 w Gv) {k : Nat} (hk : k < n) (hl : Gv.length ≤ k) : Cur V L n base w0 w Gv k 0 (V k) := by
  refine ⟨h.own k hk, ?_, fun b hb => .inl hb, fun i hi hik b hb he => H.apart i k b hi hk hik he hb, fun j v hv b hb he => (h.grown j v hv).2.2 k hk (fun e => ?_) b he hb⟩
  · obtain ⟨A, c, hA, _⟩ := own_form (h.own k hk)
    rw [hA]
    cases A with
    | none => exact .inr (.inl rfl)
    | some b => exact .inr (.inr ⟨b, c, rfl, rfl⟩)
  · have := (List.getElem?_eq_some_iff.1 hv).1
    omega
/-- a grown list is laid behind the others -/
theorem St2.snoc {V : Nat → Value} {L : Nat → Nat} {n base : Nat} {ad : Option Addr} {w0 w : World} {Gv : List Value} (h : St2 V L n base ad w0 w Gv) {k : Nat} {u : Value} (hk : k < n) (hl : Gv.length = k) (hc : Cur V L n base w0 w Gv k 64 u) : St2 V L n base ad w0 w (Gv ++ [u]) := by
  refine ⟨h.own, fun j v hv => ?_, h.outer, h.but⟩
  rcases Nat.lt_or_ge j Gv.length with hj | hj
  · rw [List.getElem?_append_left hj] at hv
    exact h.grown j v hv
  · rw [List.getElem?_append_right hj] at hv
    have : j - Gv.length = 0 := by
      have := (List.getElem?_eq_some_iff.1 hv).1
      simp at this
      omega
    rw [this] at hv
    obtain rfl : u = v := by simpa using hv
    obtain rfl : j = k := by omega
    exact ⟨hk, hc.own, fun i hi hij b hb => hc.others i hi hij b hb⟩
theorem cells_new (W : World) (cs : List Value) (e : TypeId) : ∀ j u, cs[j]? = some u → (W.alloc (.cells cs.toArray e)).cell? ((⟨W.heap.size, 0, none⟩ : Addr).add j) = some u := by
  intro j u h
  rw [add_plain]
  unfold World.cell? World.alloc
  simp [h]
set_option maxHeartbeats 2000000 in
set_option maxRecDepth 100000 in
theorem apart_values (V : Nat → Value) (L : Nat → Nat) (n base : Nat) (ad : Option Addr) (c : Nat) (w : World) (X : Nat → List Value) (hyp : Hyp V L n base ad w) (hst : St1 V L n base ad w w X) :
    Calls Try.prog 33 #[.slice ad n c] w fun e w' => e = .returned (.bool true) ∧ But (fun b => ∃ j, j < n ∧ (V j).ownBlock = some b) w w' := by
  have HY := Aside0.mk hyp
  have HS := Aside0.mk hst
  have hn := hyp.lim
  clear hyp hst
  go_enter Try.func33, Try.ntmps33
  go_wp2
  go_loopw [3, 4] (fun t _ wr => ∃ k : Nat, k ≤ n ∧ t = .int .i64 k ∧ ∃ X, St1 V L n base ad w wr X ∧ ∀ j, j < k → X j = mk (-10 - (j : Int)) (L j)) (fun t _ _ => n - (intOf t).toNat)
  case atStart => exact ⟨0, Nat.zero_le _, rfl, X, HS.out, fun j hj => absurd hj (by omega)⟩
  case round =>
    obtain ⟨k, hk, rfl, X, hS, hX⟩ := hrel
    have HS1 := Aside0.mk hS
    have HX := Aside0.mk hX
    clear hS hX
    by_cases hlt : k < n
    · go_wp2
      obtain ⟨a, rfl, hcell0⟩ := HS1.out.outer k hlt
      have hlk := HY.out.lims k hlt
      obtain ⟨A, cp, hVk, hcp⟩ := own_form (HS1.out.own k hlt)
      have HV := Aside0.mk hVk
      have HC0 := Aside0.mk hcell0
      clear hVk hcell0
      obtain ⟨wo, rfl⟩ : ∃ wo : World, wo = wr := ⟨_, rfl⟩
      go_loopw [4] (fun t wr => ∃ i : Nat, i ≤ L k ∧ t = .int .i64 i ∧ ∃ X, St1 V L n base (some a) w wr X ∧ (∀ j, j < k → X j = mk (-10 - (j : Int)) (L j)) ∧ ∃ R, X k = mk (-10 - (k : Int)) i ++ R) (fun t _ => L k - (intOf t).toNat)
      case atStart => exact ⟨0, Nat.zero_le _, rfl, X, HS1.out, HX.out, X k, rfl⟩
      case round =>
        obtain ⟨i, hi, rfl, X2, hS2, hX2, R, hR⟩ := hrel
        obtain ⟨a', ha', hcell⟩ := hS2.outer k hlt
        obtain rfl := Option.some.inj ha'
        clear ha'
        rw [HV.out] at hcell
        have HS2 := Aside0.mk hS2
        have HX2 := Aside0.mk hX2
        have HR := Aside0.mk hR
        clear hS2 hX2 hR
        by_cases hil : i < L k
        · obtain ⟨g, cp', hVg, _, _⟩ := (HS2.out.own k hlt).form (by omega)
          have hVe := HV.out
          rw [hVg] at hVe
          cases hVe
          have hlen : (X2 k).length = L k * 2 := (HS2.out.own k hlt).1
          have ho := HS2.out.own k hlt
          rw [hVg] at ho
          have HVg := Aside0.mk hVg
          obtain ⟨p0, f0⟩ := own_cell ho (i * 2) _ (List.getElem?_eq_getElem (by omega))
          obtain ⟨p1, f1⟩ := own_cell ho (i * 2 + 1) _ (List.getElem?_eq_getElem (by omega))
          generalize (X2 k)[i * 2] = x0 at p0
          generalize (X2 k)[i * 2 + 1] = x1 at p1
          have hlen' := Aside0.mk hlen
          clear ho hVg hlen
          go_wp2
          go_roundw
          case rel =>
            refine ⟨i + 1, by omega, by go_num, _, HS2.out.step HY.out hlt HVg.out (i * 2) _ _, fun j hj => ?_, R.drop 2, ?_⟩
            · show (if j = k then _ else X2 j) = _
              rw [if_neg (by omega)]
              exact HX2.out j hj
            · show (if k = k then _ else X2 k) = _
              rw [if_pos rfl, HR.out]
              exact set_mark _ i R 0 (by have := hlen'.out; rw [HR.out, List.length_append, mk_len] at this; omega)
          case measure => simp [intOf]; omega
        · obtain rfl : i = L k := by omega
          go_wp2
          go_roundw
          case rel =>
            refine ⟨k + 1, by omega, by go_num, X2, HS2.out, fun j hj => ?_⟩
            rcases Nat.lt_or_ge j k with h | h
            · exact HX2.out j h
            · obtain rfl : j = k := by omega
              have h1 := (HS2.out.own j hlt).1
              rw [HR.out, List.length_append, mk_len] at h1
              rw [HR.out, List.eq_nil_of_length_eq_zero (show R.length = 0 by omega), List.append_nil]
          case measure => simp [intOf]; omega
    · obtain rfl : k = n := by omega
      have HS2 := Aside0.mk (show St2 V L k base ad w wr [] from ⟨fun j hj => by rw [← HX.out j hj]; exact HS1.out.own j hj, fun j v hv => by simp at hv, fun j hj => (let ⟨a, ha, hc⟩ := HS1.out.outer j hj; let ⟨a', ha', hc'⟩ := HS.out.outer j hj; ⟨a, ha, hc, by have := World.block_lt_of_cell? w _ hc'; rw [add_block] at this; rw [Option.some.inj (ha.symm.trans ha')]; exact this⟩), HS1.out.but⟩)
      clear HS1 HX HS X hk hlt
      go_wp2
      go_loopw [5, 6, 7, 8] (fun gv t _ _ wr => ∃ j : Nat, j ≤ k ∧ t = .int .i64 j ∧ ∃ Gv, Gv.length = j ∧ St2 V L k base ad w wr Gv ∧ wr.ownsRow w.heap.size 44 1 gv j Gv) (fun _ t _ _ _ => k - (intOf t).toNat)
      case atStart => exact ⟨0, Nat.zero_le _, rfl, [], rfl, HS2.out, World.ownsRow_nil _ _ _ _⟩
      case round =>
        obtain ⟨j, hj, rfl, Gv, hG, hS, hO⟩ := hrel
        have HG := Aside0.mk hG
        have HS3 := Aside0.mk hS
        have HO := Aside0.mk hO
        clear hG hS hO
        by_cases hjk : j < k
        · obtain ⟨a, had, hcell, hal⟩ := HS3.out.outer j hjk
          subst had
          obtain ⟨A, cp, hVj, hcp⟩ := own_form (HS3.out.own j hjk)
          rw [hVj] at hcell
          have HV := Aside0.mk hVj
          have hlj := HY.out.lims j hjk
          clear hVj
          go_wp2
          clear hcell
          obtain ⟨wo, rfl⟩ : ∃ wo : World, wo = wr := ⟨_, rfl⟩
          go_loopw [7, 8] (fun u t wr => ∃ i : Nat, i ≤ 64 ∧ t = .int .i64 i ∧ St2 V L k base (some a) w wr Gv ∧ Cur V L k base w wr Gv j i u ∧ wr.ownsRow w.heap.size 44 1 u5 j Gv) (fun _ t _ => 64 - (intOf t).toNat)
          case atStart => exact ⟨0, by omega, rfl, HS3.out, HV.out ▸ Cur.start HY.out HS3.out hjk (by have := HG.out; omega), HO.out⟩
          case round =>
            obtain ⟨i, hi, rfl, hS, hC, hO⟩ := hrel
            have HS4 := Aside0.mk hS
            have HC4 := Aside0.mk hC
            have HO4 := Aside0.mk hO
            obtain ⟨a', ha', hcell, _⟩ := hS.outer j hjk
            obtain rfl := Option.some.inj ha'
            rw [HV.out] at hcell
            clear hS hC hO ha'
            by_cases hil : i < 64
            · obtain ⟨i0, hi0, hz⟩ := Option.map_eq_some_iff.1 info49
              simp only [Prod.mk.injEq] at hz
              have HI := Aside0.mk hi0
              have HZ := Aside0.mk hz
              clear hi0 hz
              go_wp2_with (first | ((with_reducible refine gate_builtin (b := .append) (xs := #[.tmp 51, .tmp 62]) rfl ?_); at_builtin; refine wpList_append_two rfl (.tmp 51) (.tmp 62) 44 rfl base 49 i0 (.agg #[.int .i64 0, .int .i64 0]) 2 16 Try.underlying44 HI.out HZ.out.1 HZ.out.2.1 HZ.out.2.2 rfl (by decide) u7 (L j + i) (mk (-10 - (j : Int)) (L j + i)) rfl ?aO ⟨wr.heap.size, 0, none⟩ 1 1 [.int .i64 (-10 - (j : Int)), .int .i64 ((L j : Int) + (i : Int))] rfl rfl (cells_new wr _ 49) ?aU (by decide) ?aL ?aB ?aH ?_; (case aO => exact (HC4.out.but_ (but_alloc wr _) (fun _ _ h => h)).own); (case aU => simp [Value.oneCell']); (case aL => unfold maxLen; omega); (case aB => omega); (case aH => have := HY.out.base; have := HS4.out.but.size; simp; omega); intro g cap w9 q1 q2 q3; have Q := Aside0.mk (And.intro q1 (And.intro q2 q3)); clear q1 q2 q3))
              go_roundw
              case rel =>
                obtain ⟨q1, q2, q3⟩ := Q.out
                rw [← Int.natCast_add] at q1
                have ba := but_alloc wr (.cells #[.int .i64 (-10 - (j : Int)), .int .i64 ((L j : Int) + (i : Int))] 49)
                have S1 := HS4.out.but_ HY.out ba (fun _ _ _ _ h => h) (fun _ _ _ _ _ h => h) (fun _ h => h.elim)
                obtain ⟨S2, C2, b2⟩ := grow_step HY.out S1 hjk (HC4.out.but_ ba (fun _ _ h => h)) q1 q2 q3
                exact ⟨i + 1, by omega, by go_num, S2, C2, b2.own (ba.own HO4.out (fun _ _ h => h)) (fun b hb hs => own_type_ne' HO4.out HC4.out.own b hb hs)⟩
              case measure => simp [intOf]; omega
            · obtain rfl : i = 64 := by omega
              obtain ⟨A7, c7, rfl, hc7⟩ := own_form HC4.out.own
              obtain ⟨i1, hi1, hz⟩ := Option.map_eq_some_iff.1 info44
              simp only [Prod.mk.injEq] at hz
              have HI := Aside0.mk hi1
              have HZ := Aside0.mk hz
              clear hi1 hz
              go_wp2_with (first | ((with_reducible refine gate_builtin (b := .append) (xs := #[.tmp 64, .tmp 66]) rfl ?_); at_builtin; refine wpList_append_two rfl (.tmp 64) (.tmp 66) 29 rfl w.heap.size 44 i1 (.slice none 0 0) 1 24 Try.underlying29 HI.out HZ.out.1 HZ.out.2.1 HZ.out.2.2 rfl (by decide) u5 j Gv rfl ?bO ⟨wr.heap.size, 0, none⟩ 1 1 [.slice A7 (L j + 64) c7] rfl rfl (cells_new wr _ 44) ?bU (by decide) ?bL ?bB ?bH ?_; (case bO => exact (but_alloc wr _).own HO4.out (fun _ _ h => h)); (case bU => simp [Value.oneCell']); (case bL => unfold maxLen; omega); (case bB => omega); (case bH => have := HS4.out.but.size; simp; omega); intro g cap w9 q1 q2 q3; have Q := Aside0.mk (And.intro q1 (And.intro q2 q3)); clear q1 q2 q3))
              go_roundw
              case rel =>
                obtain ⟨q1, q2, q3⟩ := Q.out
                have ba := but_alloc wr (.cells #[.slice A7 (L j + 64) c7] 44)
                have S1 := HS4.out.but_ HY.out ba (fun _ _ _ _ h => h) (fun _ _ _ _ _ h => h) (fun _ h => h.elim)
                have C1 := HC4.out.but_ ba (fun _ _ h => h)
                have O1 := ba.own HO4.out (fun _ _ h => h)
                have S2 := S1.snoc hjk HG.out C1
                have b2 : But (fun b => u5.ownBlock = some b) (wr.alloc (.cells #[.slice A7 (L j + 64) c7] 44)) w9 := by
                  rcases q3 with ⟨e, hg⟩ | ⟨_, hg⟩
                  · rw [e]; exact But.of_grown hg
                  · exact (But.of_grown hg).mono (fun q hq => by cases hq)
                refine ⟨j + 1, by omega, by go_num, Gv ++ [.slice A7 (L j + 64) c7], by rw [List.length_append, HG.out]; rfl, S2.but_ HY.out b2 (fun i hi b hb hs => own_type_ne' O1 (S2.own i hi) b hs hb) (fun i v hv b hb hs => own_type_ne' O1 (S2.grown i v hv).2.1 b hs hb) (fun b hb => own_base O1 b hb), q1⟩
              case measure => simp [intOf]; omega
        · obtain rfl : j = k := by omega
          clear hj hjk
          go_wp2
          go_loopw [9, 10, 11] (fun t _ _ wr => ∃ p : Nat, p ≤ j ∧ t = .int .i64 p ∧ St2 V L j base ad w wr Gv ∧ wr.ownsRow w.heap.size 44 1 u5 j Gv) (fun t _ _ _ => j - (intOf t).toNat)
          case atStart => exact ⟨0, Nat.zero_le _, rfl, HS3.out, HO.out⟩
          case round =>
            obtain ⟨p, hp, rfl, hS, hO⟩ := hrel
            have HS5 := Aside0.mk hS
            have HO5 := Aside0.mk hO
            clear hS hO
            by_cases hpj : p < j
            · have hGl := HG.out
              obtain ⟨g5, cp5, rfl, _, _⟩ := HO5.out.form (by omega)
              obtain ⟨v, hv⟩ : ∃ v, Gv[p]? = some v := ⟨_, List.getElem?_eq_getElem (by omega)⟩
              obtain ⟨b, cb, rfl, _, _⟩ := (HS5.out.grown p v hv).2.1.form (by omega)
              obtain ⟨a, had, hcell0, _⟩ := HS5.out.outer p hpj
              subst had
              obtain ⟨A, cp, hVj, hcp⟩ := own_form (HS5.out.own p hpj)
              have HV := Aside0.mk hVj
              have HVC := Aside0.mk hv
              have hlj := HY.out.lims p hpj
              clear hVj hv hcell0 hGl
              go_wp2
              obtain ⟨wo, rfl⟩ : ∃ wo : World, wo = wr := ⟨_, rfl⟩
              go_loopw [10, 11] (fun t _ wr => ∃ q : Nat, q ≤ L p + 64 ∧ t = .int .i64 q ∧ St2 V L j base (some a) w wr Gv ∧ wr.ownsRow w.heap.size 44 1 (.slice (some ⟨g5, 0, none⟩) j cp5) j Gv) (fun t _ _ => L p + 64 - (intOf t).toNat)
              case atStart => exact ⟨0, by omega, rfl, HS5.out, HO5.out⟩
              case round =>
                obtain ⟨q, hq, rfl, hS, hO⟩ := hrel
                have HS6 := Aside0.mk hS
                have HO6 := Aside0.mk hO
                obtain ⟨a', ha', hcell, _⟩ := hS.outer p hpj
                obtain rfl := Option.some.inj ha'
                rw [HV.out] at hcell
                have hgs := (own_cell hO p _ HVC.out).1
                have hgo := (hS.grown p _ HVC.out).2.1
                have hvo := hS.own p hpj
                rw [HV.out] at hvo
                clear hS hO ha'
                by_cases hql : q < L p + 64
                · have x0 := (own_cell hgo (q * 2) _ (mk_get0 _ _ q hql)).1
                  have x1 := (own_cell hgo (q * 2 + 1) _ (mk_get1 _ _ q hql)).1
                  clear hgo
                  by_cases hqs : q < L p
                  · obtain ⟨gv, cv, hAv, _, _⟩ := hvo.form (by omega)
                    cases hAv
                    have y0 := (own_cell hvo (q * 2) _ (mk_get0 _ _ q hqs)).1
                    have y1 := (own_cell hvo (q * 2 + 1) _ (mk_get1 _ _ q hqs)).1
                    clear hvo
                    go_upto_region 25 with (fail)
                    have b3 := below_alloc (Below.refl _ wr) (.cells #[.int .i64 (-10 - (p : Int)), .int .i64 (q : Int)] 49)
                    have K1 := blk_new wr (.cells #[.int .i64 (-10 - (p : Int)), .int .i64 (q : Int)] 49)
                    have HS7 := Aside0.mk (HS6.out.but_ HY.out (but_alloc wr (.cells #[.int .i64 (-10 - (p : Int)), .int .i64 (q : Int)] 49)) (fun _ _ _ _ h => h) (fun _ _ _ _ _ h => h) (fun _ h => h.elim))
                    have HO7 := Aside0.mk ((but_alloc wr (.cells #[.int .i64 (-10 - (p : Int)), .int .i64 (q : Int)] 49)).own HO6.out (fun _ _ h => h))
                    replace hcell := pw_cell_below b3 hcell
                    replace hgs := pw_cell_below b3 hgs
                    replace x0 := pw_cell_below b3 x0
                    replace x1 := pw_cell_below b3 x1
                    replace y0 := pw_cell_below b3 y0
                    replace y1 := pw_cell_below b3 y1
                    clear b3
                    generalize wr.alloc (.cells #[.int .i64 (-10 - (p : Int)), .int .i64 (q : Int)] 49) = wz at *
                    generalize wr.heap.size = gz at *
                    have z0 : wz.cell? ⟨gz, 0, none⟩ = some (.int .i64 (-10 - (p : Int))) := blk_cell K1 0
                    have z1 : wz.cell? ⟨gz, 1, none⟩ = some (.int .i64 (q : Int)) := blk_cell K1 1
                    clear K1
                    go_quiet (fail)
                    go_wp2
                    rename_i nq
                    have bn : But (fun _ => False) wz (wz.drewN nq) := But.of_below (pw_below_drewN (Below.refl _ _) nq)
                    go_roundw
                    case rel => exact ⟨q + 1, by omega, by go_num, HS7.out.but_ HY.out bn (fun _ _ _ _ h => h) (fun _ _ _ _ _ h => h) (fun _ h => h.elim), bn.own HO7.out (fun _ _ h => h)⟩
                    case measure => simp [intOf]; omega
                  · have hd : decide (q < L p) = false := decide_eq_false hqs
                    clear hvo hqs
                    go_upto_region 25 with (fail)
                    have b3 := below_alloc (Below.refl _ wr) (.cells #[.int .i64 (-10 - (p : Int)), .int .i64 (q : Int)] 49)
                    have K1 := blk_new wr (.cells #[.int .i64 (-10 - (p : Int)), .int .i64 (q : Int)] 49)
                    have HS7 := Aside0.mk (HS6.out.but_ HY.out (but_alloc wr (.cells #[.int .i64 (-10 - (p : Int)), .int .i64 (q : Int)] 49)) (fun _ _ _ _ h => h) (fun _ _ _ _ _ h => h) (fun _ h => h.elim))
                    have HO7 := Aside0.mk ((but_alloc wr (.cells #[.int .i64 (-10 - (p : Int)), .int .i64 (q : Int)] 49)).own HO6.out (fun _ _ h => h))
                    replace hcell := pw_cell_below b3 hcell
                    replace hgs := pw_cell_below b3 hgs
                    replace x0 := pw_cell_below b3 x0
                    replace x1 := pw_cell_below b3 x1
                    clear b3
                    generalize wr.alloc (.cells #[.int .i64 (-10 - (p : Int)), .int .i64 (q : Int)] 49) = wz at *
                    generalize wr.heap.size = gz at *
                    have z0 : wz.cell? ⟨gz, 0, none⟩ = some (.int .i64 (-10 - (p : Int))) := blk_cell K1 0
                    have z1 : wz.cell? ⟨gz, 1, none⟩ = some (.int .i64 (q : Int)) := blk_cell K1 1
                    clear K1
                    go_quiet (fail)
                    go_wp2
                    rename_i nq
                    have bn : But (fun _ => False) wz (wz.drewN nq) := But.of_below (pw_below_drewN (Below.refl _ _) nq)
                    go_roundw
                    case rel => exact ⟨q + 1, by omega, by go_num, HS7.out.but_ HY.out bn (fun _ _ _ _ h => h) (fun _ _ _ _ _ h => h) (fun _ h => h.elim), bn.own HO7.out (fun _ _ h => h)⟩
                    case measure => simp [intOf]; omega
                · obtain rfl : q = L p + 64 := by omega
                  clear hgo hvo
                  go_wp2
                  go_roundw
                  case rel => exact ⟨p + 1, by omega, by go_num, HS6.out, HO6.out⟩
                  case measure => simp [intOf]; omega
            · go_wp2
              go_ret
              exact ⟨rfl, HS5.out.but⟩
end Go.Proofs.Ytjekpkpmoanadaa.ApO
/- ApartRegs' contract: codes of which all lists lie apart are found so. For every world. -/
namespace Go.Proofs.Ytjekpkpmoanadaa.PCop
open Go.RowKit Go.Proofs.Ytjekpkpmoanadaa.Lit Go.Proofs.Ytjekpkpmoanadaa.OwnCells Go.Proofs.Ytjekpkpmoanadaa.Flat Go.Proofs.YtjekpkpmoanadaaW.PrintWords Go.Proofs.YtjekpkpmoanadaaW.PrintLast Go.Proofs.YtjekpkpmoanadaaW.PrintMore
open Go.Proofs.Ytjekpkpmoanadaa.Grow (cat cat_len cat_get cat_take cat_congr own_type_ne2 OwnOf cells_new but_alloc)
set_option linter.unusedVariables false
set_option linter.unusedSimpArgs false
theorem info44 : (Try.prog.info? 44).map (fun i => (i.zero, i.size, i.bytes)) = some (some (.slice none 0 0), 1, 24) := by kernel_rfl
def nOp (F : Fl) (q : Nat) : Nat := 1 + F.nE q
/-- the rows of operands and of numbers that the codes lead to -/
structure Rg (F : Fl) (base : Nat) (w0 w : World) (OV : Nat → Value) (OL NL : Nat → Nat) (OX NX : Nat → List Value) : Prop where
  o0 : ∀ q, q < F.NI → OV (off (nOp F) q) = F.AR q
  o1 : ∀ q s, q < F.NI → s < F.nE q → OV (off (nOp F) q + (1 + s)) = F.SL (off F.nE q + s)
  own : ∀ j, j < off (nOp F) F.NI → w.ownsRow base 49 2 (OV j) (OL j) (OX j)
  far : ∀ i j b, i < off (nOp F) F.NI → j < off (nOp F) F.NI → i ≠ j → (OV i).ownBlock = some b → (OV j).ownBlock ≠ some b
  lo : off (nOp F) F.NI ≤ 8388608
  lso : ∀ j, j < off (nOp F) F.NI → (OL j + 64) * 16 ≤ 140737488355328
  nown : ∀ p, p < F.NB → w.ownsRow base 3 1 (F.NX p) (NL p) (NX p)
  nfar : ∀ i j b, i < F.NB → j < F.NB → i ≠ j → (F.NX i).ownBlock = some b → (F.NX j).ownBlock ≠ some b
  lsn : ∀ p, p < F.NB → NL p ≤ 4194304
  bs : base ≤ w0.heap.size
def vals (V : Nat → Value) (n : Nat) : List Value := (List.range n).map V
theorem vals_succ (V : Nat → Value) (n : Nat) : vals V (n + 1) = vals V n ++ [V n] := by simp [vals, List.range_succ]
theorem vals_get (V : Nat → Value) {n j : Nat} (h : j < n) : (vals V n)[j]? = some (V j) := by simp [vals, h]
/-- what is collected so far -/
structure Cl (F : Fl) (g0 base : Nat) (w0 w : World) (PB ND FN PC : Nat → Int) (OV : Nat → Value) (vo vn : Value) (m p : Nat) : Prop where
  fs : Fs F g0 base w0 w PB ND FN PC
  ro : w.ownsRow w0.heap.size 44 1 vo m (vals OV m)
  rn : w.ownsRow w0.heap.size 41 1 vn p (vals F.NX p)
  be : Below w0.heap.size w0 w
section
variable {F : Fl} {g0 base m p : Nat} {w0 w w1 : World} {PB ND FN PC : Nat → Int} {OV : Nat → Value} {vo vn v1 : Value}
theorem fs_below (h : Fs F g0 base w0 w0 PB ND FN PC) (hb : Below w0.heap.size w0 w) : Fs F g0 base w0 w PB ND FN PC := h.far (But.of_below hb)
theorem Cl.alloc (h : Cl F g0 base w0 w PB ND FN PC OV vo vn m p) (o : Obj) : Cl F g0 base w0 (w.alloc o) PB ND FN PC OV vo vn m p :=
  ⟨h.fs.far (but_alloc w o), (but_alloc w o).own h.ro (fun _ _ h => h), (but_alloc w o).own h.rn (fun _ _ h => h), wB h.be (below_alloc (Below.refl _ _) o)⟩
theorem but_two {g cap n : Nat} {v : Value} (h3 : (v = .slice (some ⟨g, 0, none⟩) n cap ∧ w.grownBy w1 (some g)) ∨ (w.heap.size ≤ g ∧ w.grownBy w1 none)) : But (fun b => v.ownBlock = some b) w w1 := by
  rcases h3 with ⟨e, hg⟩ | ⟨_, hg⟩
  · rw [e]; exact But.of_grown hg
  · exact (But.of_grown hg).mono (fun q hq => by cases hq)
theorem blk_two {g8 b e n sz : Nat} {v : Value} {xs : List Value} {cs : Array Value} (hr : w.ownsRow b e sz v n xs) (h : w.heap[g8]? = some (.cells cs 47 (0, 0))) (hb : But (fun b => v.ownBlock = some b) w w1) (he : 47 ≠ e := by decide) : w1.heap[g8]? = some (.cells cs 47 (0, 0)) := blk_type h hb hr he (fun _ hq => hq)
theorem Cl.pushO (h : Cl F g0 base w0 w PB ND FN PC OV vo vn m p) (hfs : Fs F g0 base w0 w0 PB ND FN PC) (ho : w1.ownsRow w0.heap.size 44 1 v1 (m + 1) (vals OV m ++ [OV m])) (b : But (fun b => vo.ownBlock = some b) w w1) : Cl F g0 base w0 w1 PB ND FN PC OV v1 vn (m + 1) p := by
  have hbe : Below w0.heap.size w0 w1 := (But.of_below h.be |>.trans b (fun q hq => .inr (own_base h.ro q hq))).to_below (Nat.le_refl _) (fun _ hq => hq.elim)
  exact ⟨fs_below hfs hbe, by rw [vals_succ]; exact ho, Go.Proofs.Ytjekpkpmoanadaa.Grow3.own_type h.rn b h.ro (by decide) (fun _ hq => hq), hbe⟩
theorem Cl.pushN (h : Cl F g0 base w0 w PB ND FN PC OV vo vn m p) (hfs : Fs F g0 base w0 w0 PB ND FN PC) (ho : w1.ownsRow w0.heap.size 41 1 v1 (p + 1) (vals F.NX p ++ [F.NX p])) (b : But (fun b => vn.ownBlock = some b) w w1) : Cl F g0 base w0 w1 PB ND FN PC OV vo v1 m (p + 1) := by
  have hbe : Below w0.heap.size w0 w1 := (But.of_below h.be |>.trans b (fun q hq => .inr (own_base h.rn q hq))).to_below (Nat.le_refl _) (fun _ hq => hq.elim)
  exact ⟨fs_below hfs hbe, Go.Proofs.Ytjekpkpmoanadaa.Grow3.own_type h.ro b h.rn (by decide) (fun _ hq => hq), by rw [vals_succ]; exact ho, hbe⟩
theorem row_addr {n b e c : Nat} {A : Option Addr} {V : Nat → Value} (h : w.ownsRow b e 1 (.slice A n c) n (vals V n)) {j : Nat} (hj : j < n) : ∃ a, A = some a ∧ w.cell? (a.add j) = some (V j) := by
  obtain ⟨g, cap, hh, _, _⟩ := h.form (by omega)
  injection hh with h1 h2 h3
  subst h1 h3
  refine ⟨_, rfl, ?_⟩
  rw [add_plain]
  exact (own_cell h j _ (vals_get V hj)).1
theorem fs_but {T : Nat → Prop} (h : Fs F g0 base w0 w PB ND FN PC) (b : But T w w1) (hT : ∀ q, T q → ∃ (b' e sz n : Nat) (u : Value) (xs : List Value), w.ownsRow b' e sz u n xs ∧ u.ownBlock = some q ∧ 24 ≠ e ∧ 43 ≠ e ∧ 47 ≠ e ∧ 65 ≠ e) : Fs F g0 base w1 w1 PB ND FN PC := by
  refine ⟨?_, ⟨fun j hj => b.own (h.sb.own j hj) (fun q hq ht => ?_), But.refl _ _⟩, ⟨fun j hj => b.own (h.si.own j hj) (fun q hq ht => ?_), But.refl _ _⟩, ⟨fun j hj => b.own (h.se.own j hj) (fun q hq ht => ?_), But.refl _ _⟩⟩
  · have hlt : g0 < w.heap.size := by
      rcases Nat.lt_or_ge g0 w.heap.size with h1 | h1
      · exact h1
      · have := h.k24; rw [Array.getElem?_eq_none h1] at this; cases this
    refine (b.block g0 hlt (fun ht => ?_)).trans h.k24
    obtain ⟨b', e, sz, n, u, xs, h1, h2, h3, _⟩ := hT g0 ht
    obtain ⟨c, hc⟩ := own_typed h1 g0 h2
    rw [h.k24] at hc
    injection hc with hc
    injection hc with _ hc
    exact h3 hc
  · obtain ⟨b', e, sz, n, u, xs, h1, h2, _, h4, _⟩ := hT q ht
    exact own_type_ne2 (h.sb.own j hj) h1 h4 q hq h2
  · obtain ⟨b', e, sz, n, u, xs, h1, h2, _, _, h5, _⟩ := hT q ht
    exact own_type_ne2 (h.si.own j hj) h1 h5 q hq h2
  · obtain ⟨b', e, sz, n, u, xs, h1, h2, _, _, _, h6⟩ := hT q ht
    exact own_type_ne2 (h.se.own j hj) h1 h6 q hq h2
/-- all of an instruction -/
theorem fs_rdX (h : Fs F g0 base w0 w PB ND FN PC) {p i c g q : Nat} (hq : q = off F.nI p + i) (hp : p < F.NB) (hi : i < F.nI p) (hV : F.VI p = .slice (some ⟨g, 0, none⟩) (F.nI p) c) : ∀ j u, (F.ci ND q)[j]? = some u → w.cell? ⟨g, i * 8 + j, none⟩ = some u := by
  subst hq
  exact fun j u hu => (row_at (h.si.own p hp) hV (fun _ => rfl) hi j u hu).1
theorem fs_rdN (h : Fs F g0 base w0 w PB ND FN PC) {k b c g p : Nat} (hp : p = off F.nB k + b) (hk : k < F.nK) (hb : b < F.nB k) (hV : F.VB k = .slice (some ⟨g, 0, none⟩) (F.nB k) c) : w.cell? ⟨g, b * 3 + 2, none⟩ = some (F.NX p) := by
  subst hp
  exact (row_at (h.sb.own k hk) hV (fun _ => rfl) hb 2 _ rfl).1
end
set_option maxHeartbeats 16000000 in
set_option maxRecDepth 100000 in
theorem apartregs_calls (F : Fl) (g0 base c nK : Nat) (w : World) (PB ND FN PC : Nat → Int) (OV : Nat → Value) (OL NL : Nat → Nat) (OX NX : Nat → List Value) (hnK : nK = F.nK) (H : Ok F base w) (h : Fs F g0 base w w PB ND FN PC) (hr : Rg F base w w OV OL NL OX NX) :
    Calls Try.prog 15 #[.slice (some ⟨g0, 0, none⟩) nK c] w fun e w' => e = .returned (.bool true) ∧ Below base w w' := by
  have HY := Aside0.mk H
  have HS := Aside0.mk h
  have HRG := Aside0.mk hr
  have hn : nK ≤ 2 := by rw [hnK]; exact H.lk
  have HK := Aside0.mk hnK
  have hLB := H.lb
  have hLI := H.li
  have hLE := H.le
  have hLO := hr.lo
  clear H h hnK hr
  go_enter Try.func15, Try.ntmps15
  go_wp2
  go_loopw [3, 4, 5, 6, 7, 8, 9] (fun vo vn t _ _ _ _ wr => ∃ k : Nat, k ≤ nK ∧ t = .int .i64 k ∧ Cl F g0 base w wr PB ND FN PC OV vo vn (off (nOp F) (off F.nI (off F.nB k))) (off F.nB k)) (fun _ _ t _ _ _ _ _ => nK - (intOf t).toNat)
  case atStart => exact ⟨0, Nat.zero_le _, rfl, HS.out, World.ownsRow_nil _ _ _ _, World.ownsRow_nil _ _ _ _, Below.refl _ _⟩
  case round =>
    obtain ⟨k, hk, rfl, hC⟩ := hrel
    have HC := Aside0.mk hC
    obtain ⟨Ao, co, huo, _⟩ := own_form hC.ro
    obtain ⟨An, cn, hun, _⟩ := own_form hC.rn
    subst huo hun
    clear hC
    by_cases hlt : k < nK
    · have HKF := Aside0.mk (show k < F.nK from HK.out ▸ hlt)
      have hNB : off F.nB k + F.nB k ≤ F.NB := HY.out.nB HKF.out
      obtain ⟨A, cA, hVA, hA⟩ := HC.out.fs.frmB HKF.out
      have HVA := Aside0.mk (And.intro hVA hA)
      clear hVA hA
      go_wp2
      obtain ⟨wo1, rfl⟩ : ∃ wo : World, wo = wr := ⟨_, rfl⟩
      go_loopw [3, 4, 6, 7, 8, 9] (fun vo vn t _ _ _ wr => ∃ b : Nat, b ≤ F.nB k ∧ t = .int .i64 b ∧ Cl F g0 base w wr PB ND FN PC OV vo vn (off (nOp F) (off F.nI (off F.nB k + b))) (off F.nB k + b)) (fun _ _ t _ _ _ _ => F.nB k - (intOf t).toNat)
      case atStart => exact ⟨0, Nat.zero_le _, rfl, HC.out⟩
      case round =>
        obtain ⟨b, hb, rfl, hC⟩ := hrel
        have HC2 := Aside0.mk hC
        obtain ⟨Ao, co, huo, _⟩ := own_form hC.ro
        obtain ⟨An, cn, hun, _⟩ := own_form hC.rn
        subst huo hun
        have x0 := hC.fs.code HY.out HKF.out
        rw [HVA.out.1] at x0
        clear hC HC
        by_cases hltb : b < F.nB k
        · obtain ⟨gB, rfl⟩ := HVA.out.2 (by omega)
          obtain ⟨p, hp⟩ : ∃ p, p = off F.nB k + b := ⟨_, rfl⟩
          have HPF := Aside0.mk (show p < F.NB from hp ▸ off_lt HKF.out hltb)
          have hp4 : p < 4194304 := Nat.lt_of_lt_of_le HPF.out hLB
          have HP := Aside0.mk hp
          rw [← hp] at HC2 ⊢
          obtain ⟨B, cB', hVI, hB⟩ := HC2.out.fs.frmI HPF.out
          have HVI := Aside0.mk (And.intro hVI hB)
          have hNI : off F.nI p + F.nI p ≤ F.NI := HY.out.nI HPF.out
          obtain ⟨A9, c9, hNX, _⟩ := own_form (HRG.out.nown p HPF.out)
          have HNX := Aside0.mk hNX
          have y2 := fs_rdN HC2.out.fs HP.out HKF.out hltb HVA.out.1
          rw [HNX.out] at y2
          clear hVI hB hp hNX
          obtain ⟨i0, hi0, hz⟩ := Option.map_eq_some_iff.1 info41
          simp only [Prod.mk.injEq] at hz
          have HI := Aside0.mk hi0
          have HZ := Aside0.mk hz
          clear hi0 hz
          go_wp2_with (first | ((with_reducible refine gate_builtin (b := .append) (xs := #[.tmp 28, .tmp 38]) rfl ?_); at_builtin; refine wpList_append_two rfl (.tmp 28) (.tmp 38) 31 rfl w.heap.size 41 i0 (.slice none 0 0) 1 24 Try.underlying31 HI.out HZ.out.1 HZ.out.2.1 HZ.out.2.2 rfl (by decide) (.slice An p cn) (p) (vals F.NX p) rfl ?aO ⟨wr.heap.size, 0, none⟩ 1 1 [.slice A9 (NL p) c9] rfl rfl (cells_new wr _ 41) ?aU (by decide) ?aL ?aB ?aH ?_; (case aO => exact ((HC2.out.alloc _).rn)); (case aU => simp [Value.oneCell']); (case aL => unfold maxLen; omega); (case aB => omega); (case aH => have := HC2.out.be.size; simp; omega); intro gn capgn w9 q1 q2 q3; have Q := Aside0.mk (And.intro q1 (And.intro q2 q3)); clear q1 q2 q3))
          obtain ⟨q1, q2, q3⟩ := Q.out
          rw [← HNX.out] at q1 q3
          have HC3 := Aside0.mk ((HC2.out.alloc (.cells #[F.NX p] 41)).pushN HS.out q1 (but_two q3))
          clear q1 q2 q3 Q HC2 x0 y2
          have x0 := HC3.out.fs.code HY.out HKF.out
          rw [HVA.out.1] at x0
          have y1 := (HC3.out.fs.rdB HP.out HKF.out hltb HVA.out.1).2.2
          rw [HVI.out.1] at y1
          go_wp2_with (fail)
          clear x0 y1
          obtain ⟨wo2, rfl⟩ : ∃ wo : World, wo = w9 := ⟨_, rfl⟩
          go_loopw [3, 7, 8, 9] (fun vo t _ _ wr => ∃ i : Nat, i ≤ F.nI p ∧ t = .int .i64 i ∧ Cl F g0 base w wr PB ND FN PC OV vo (.slice (some ⟨gn, 0, none⟩) (p + 1) capgn) (off (nOp F) (off F.nI p + i)) (p + 1)) (fun _ t _ _ _ => F.nI p - (intOf t).toNat)
          case atStart => exact ⟨0, Nat.zero_le _, rfl, HC3.out⟩
          case round =>
            obtain ⟨i, hi, rfl, hC⟩ := hrel
            have HC4 := Aside0.mk hC
            obtain ⟨Ao, co, huo, _⟩ := own_form hC.ro
            subst huo
            have x0 := hC.fs.code HY.out HKF.out
            rw [HVA.out.1] at x0
            have y1 := (hC.fs.rdB HP.out HKF.out hltb HVA.out.1).2.2
            rw [HVI.out.1] at y1
            clear hC HC3
            by_cases hlti : i < F.nI p
            · obtain ⟨gI, rfl⟩ := HVI.out.2 (by omega)
              obtain ⟨q, hq⟩ : ∃ q, q = off F.nI p + i := ⟨_, rfl⟩
              have HQF := Aside0.mk (show q < F.NI from hq ▸ off_lt HPF.out hlti)
              have hq4 : q < 4194304 := Nat.lt_of_lt_of_le HQF.out hLI
              have HQ := Aside0.mk hq
              rw [← hq] at HC4 ⊢
              have hqo : off (nOp F) q + nOp F q ≤ off (nOp F) F.NI := off_le (n := nOp F) (k := q + 1) HQF.out
              have hnop : nOp F q = 1 + F.nE q := rfl
              rw [hnop] at hqo
              clear hnop
              obtain ⟨C, cE', hVE, hC⟩ := HC4.out.fs.frmE HQF.out
              have HVE := Aside0.mk (And.intro hVE hC)
              obtain ⟨A8, c8, hAR, _⟩ := own_form (HRG.out.own (off (nOp F) q) (by omega))
              have HAR := Aside0.mk hAR
              have hX := fs_rdX HC4.out.fs HQ.out HPF.out hlti HVI.out.1
              have z0 : wr.cell? ⟨gI, i * 8, none⟩ = some _ := hX 0 _ rfl
              have z1 : wr.cell? ⟨gI, i * 8 + 1, none⟩ = some _ := hX 1 _ rfl
              have z2 : wr.cell? ⟨gI, i * 8 + 2, none⟩ = some _ := hX 2 _ rfl
              have z3 : wr.cell? ⟨gI, i * 8 + 3, none⟩ = some _ := hX 3 _ rfl
              have z4 : wr.cell? ⟨gI, i * 8 + 4, none⟩ = some _ := hX 4 _ rfl
              have z5 : wr.cell? ⟨gI, i * 8 + 5, none⟩ = some _ := hX 5 _ rfl
              have z6 : wr.cell? ⟨gI, i * 8 + 6, none⟩ = some _ := hX 6 _ rfl
              have z7 : wr.cell? ⟨gI, i * 8 + 7, none⟩ = some _ := hX 7 _ rfl
              rw [← HRG.out.o0 q HQF.out, HAR.out] at z3
              rw [HVE.out.1] at z7
              clear hX hVE hC hq hAR
              go_upto_region 14 with (fail)
              clear x0 y1 z0 z1 z2 z3 z4 z5 z6 z7
              have K8 := blk_new wr (.cells #[.int .i64 (F.I0 q), .int .i64 (F.I1 q), .int .i64 (F.I2 q), .slice A8 (OL (off (nOp F) q)) c8, .int .i64 (F.I4 q), .int .i64 (F.I5 q), .int .i64 (ND q), .slice C (F.nE q) cE'] 47)
              have HC5 := Aside0.mk (HC4.out.alloc (.cells #[.int .i64 (F.I0 q), .int .i64 (F.I1 q), .int .i64 (F.I2 q), .slice A8 (OL (off (nOp F) q)) c8, .int .i64 (F.I4 q), .int .i64 (F.I5 q), .int .i64 (ND q), .slice C (F.nE q) cE'] 47))
              generalize wr.alloc (.cells #[.int .i64 (F.I0 q), .int .i64 (F.I1 q), .int .i64 (F.I2 q), .slice A8 (OL (off (nOp F) q)) c8, .int .i64 (F.I4 q), .int .i64 (F.I5 q), .int .i64 (ND q), .slice C (F.nE q) cE'] 47) = w8 at *
              generalize wr.heap.size = g8 at *
              have y3 : w8.cell? ⟨g8, 3, none⟩ = some (.slice A8 (OL (off (nOp F) q)) c8) := blk_cell K8 3
              have HK8 := Aside0.mk K8
              clear K8 HC4
              obtain ⟨i0, hi0, hz⟩ := Option.map_eq_some_iff.1 info44
              simp only [Prod.mk.injEq] at hz
              have HI := Aside0.mk hi0
              have HZ := Aside0.mk hz
              clear hi0 hz
              go_wp2_with (first | ((with_reducible refine gate_builtin (b := .append) (xs := #[.tmp 66, .tmp 69]) rfl ?_); at_builtin; refine wpList_append_two rfl (.tmp 66) (.tmp 69) 29 rfl w.heap.size 44 i0 (.slice none 0 0) 1 24 Try.underlying29 HI.out HZ.out.1 HZ.out.2.1 HZ.out.2.2 rfl (by decide) (.slice Ao (off (nOp F) q) co) (off (nOp F) q) (vals OV (off (nOp F) q)) rfl ?aO ⟨w8.heap.size, 0, none⟩ 1 1 [.slice A8 (OL (off (nOp F) q)) c8] rfl rfl (cells_new w8 _ 44) ?aU (by decide) ?aL ?aB ?aH ?_; (case aO => exact ((HC5.out.alloc _).ro)); (case aU => simp [Value.oneCell']); (case aL => unfold maxLen; omega); (case aB => omega); (case aH => have := HC5.out.be.size; simp; omega); intro go capgo w9 q1 q2 q3; have Q := Aside0.mk (And.intro q1 (And.intro q2 q3)); clear q1 q2 q3))
              obtain ⟨q1, q2, q3⟩ := Q.out
              rw [← HAR.out] at q1 q3
              have HC6 := Aside0.mk ((HC5.out.alloc (.cells #[OV (off (nOp F) q)] 44)).pushO HS.out q1 (but_two q3))
              have HK9 := Aside0.mk (blk_two (HC5.out.alloc (.cells #[OV (off (nOp F) q)] 44)).ro (blk_alloc HK8.out (.cells #[OV (off (nOp F) q)] 44)) (but_two q3))
              clear q1 q2 q3 Q HC5 HK8 y3
              have y7 : w9.cell? ⟨g8, 7, none⟩ = some (.slice C (F.nE q) cE') := blk_cell HK9.out 7
              have hNE : off F.nE q + F.nE q ≤ F.NE := HY.out.nE HQF.out
              go_wp2_with (fail)
              clear y7
              obtain ⟨wo3, rfl⟩ : ∃ wo : World, wo = w9 := ⟨_, rfl⟩
              go_loopw [3, 9] (fun vo t wr => ∃ s : Nat, s ≤ F.nE q ∧ t = .int .i64 s ∧ Cl F g0 base w wr PB ND FN PC OV vo (.slice (some ⟨gn, 0, none⟩) (p + 1) capgn) (off (nOp F) q + (1 + s)) (p + 1) ∧ wr.heap[g8]? = some (.cells #[.int .i64 (F.I0 q), .int .i64 (F.I1 q), .int .i64 (F.I2 q), .slice A8 (OL (off (nOp F) q)) c8, .int .i64 (F.I4 q), .int .i64 (F.I5 q), .int .i64 (ND q), .slice C (F.nE q) cE'] 47 (0, 0))) (fun _ t _ => F.nE q - (intOf t).toNat)
              case atStart => exact ⟨0, Nat.zero_le _, rfl, HC6.out, HK9.out⟩
              case round =>
                obtain ⟨s, hs, rfl, hC, hk8⟩ := hrel
                obtain ⟨m, hm⟩ : ∃ m, m = off (nOp F) q + (1 + s) := ⟨_, rfl⟩
                rw [← hm] at hC
                have HM := Aside0.mk hm
                have HC7 := Aside0.mk hC
                have HK7 := Aside0.mk hk8
                obtain ⟨Ao, co, huo, _⟩ := own_form hC.ro
                subst huo
                have y7 : wr.cell? ⟨g8, 7, none⟩ = some (.slice C (F.nE q) cE') := blk_cell hk8 7
                have hm8 : m ≤ 8388608 := by omega
                clear hC hk8 HC6 HK9
                by_cases hlts : s < F.nE q
                · obtain ⟨gE, rfl⟩ := HVE.out.2 (by omega)
                  have hmm : m < off (nOp F) F.NI := by omega
                  have HMM := Aside0.mk hmm
                  obtain ⟨A5, c5, hSL, _⟩ := own_form (HRG.out.own m hmm)
                  have HSL := Aside0.mk hSL
                  have e2 := (HC7.out.fs.rdE rfl HQF.out hlts HVE.out.1).2.2.2.2
                  rw [← HRG.out.o1 q s HQF.out hlts, ← HM.out, HSL.out] at e2
                  clear hSL hm hmm
                  obtain ⟨i0, hi0, hz⟩ := Option.map_eq_some_iff.1 info44
                  simp only [Prod.mk.injEq] at hz
                  have HI := Aside0.mk hi0
                  have HZ := Aside0.mk hz
                  clear hi0 hz
                  go_wp2_with (first | ((with_reducible refine gate_builtin (b := .append) (xs := #[.tmp 78, .tmp 85]) rfl ?_); at_builtin; refine wpList_append_two rfl (.tmp 78) (.tmp 85) 29 rfl w.heap.size 44 i0 (.slice none 0 0) 1 24 Try.underlying29 HI.out HZ.out.1 HZ.out.2.1 HZ.out.2.2 rfl (by decide) (.slice Ao m co) (m) (vals OV m) rfl ?aO ⟨wr.heap.size, 0, none⟩ 1 1 [.slice A5 (OL m) c5] rfl rfl (cells_new wr _ 44) ?aU (by decide) ?aL ?aB ?aH ?_; (case aO => exact ((HC7.out.alloc _).ro)); (case aU => simp [Value.oneCell']); (case aL => unfold maxLen; omega); (case aB => omega); (case aH => have := HC7.out.be.size; simp; omega); intro gs capgs w9 q1 q2 q3; have Q := Aside0.mk (And.intro q1 (And.intro q2 q3)); clear q1 q2 q3))
                  obtain ⟨q1, q2, q3⟩ := Q.out
                  rw [← HSL.out] at q1 q3
                  have HC8 := Aside0.mk ((HC7.out.alloc (.cells #[OV m] 44)).pushO HS.out q1 (but_two q3))
                  have HK8 := Aside0.mk (blk_two (HC7.out.alloc (.cells #[OV m] 44)).ro (blk_alloc HK7.out (.cells #[OV m] 44)) (but_two q3))
                  clear q1 q2 q3 Q HC7 HK7 y7 e2
                  go_roundw
                  case rel =>
                    have e : off (nOp F) q + (1 + (s + 1)) = m + 1 := by rw [HM.out]; rfl
                    exact ⟨s + 1, by omega, by go_num, by rw [e]; exact HC8.out, HK8.out⟩
                  case measure => simp [intOf]; omega
                · obtain rfl : s = F.nE q := by omega
                  clear hm
                  go_wp2_with (fail)
                  go_roundw
                  case rel =>
                    have e : off F.nI p + (i + 1) = q + 1 := by rw [HQ.out]; rfl
                    refine ⟨i + 1, by omega, by go_num, ?_⟩
                    rw [e]
                    rw [show off (nOp F) (q + 1) = m from HM.out.symm]
                    exact HC7.out
                  case measure => simp [intOf]; omega
            · obtain rfl : i = F.nI p := by omega
              go_wp2_with (fail)
              go_roundw
              case rel =>
                have e : off F.nB k + (b + 1) = p + 1 := by rw [HP.out]; rfl
                refine ⟨b + 1, by omega, by go_num, ?_⟩
                rw [e]
                exact HC4.out
              case measure => simp [intOf]; omega
        · obtain rfl : b = F.nB k := by omega
          go_wp2_with (fail)
          go_roundw
          case rel => exact ⟨k + 1, by omega, by go_num, HC2.out⟩
          case measure => simp [intOf]; omega
    · obtain rfl : k = nK := by omega
      have e1 : off F.nB k = F.NB := by rw [HK.out]; rfl
      have e2 : off F.nI F.NB = F.NI := rfl
      rw [e1, e2] at HC
      go_wp2_with (fail)
      refine (ApO.apart_values OV OL (off (nOp F) F.NI) base Ao co wr OX ?hy ?st).mono ?_
      case hy =>
        have hbe := But.of_below HC.out.be
        refine ⟨HRG.out.far, fun j b a hj ha hb => ?_, by omega, HRG.out.lso, Nat.le_trans HRG.out.bs HC.out.be.size⟩
        intro he
        refine own_type_ne2 (hbe.own (HRG.out.own j hj) (fun _ _ h => h)) HC.out.ro (by decide) b hb ?_
        rw [ha, ← he]; rfl
      case st =>
        have hbe := But.of_below HC.out.be
        exact ⟨fun j hj => hbe.own (HRG.out.own j hj) (fun _ _ h => h), fun j hj => row_addr HC.out.ro hj, But.refl _ _⟩
      rintro e w2 ⟨rfl, hb2⟩
      have HB2 := Aside0.mk hb2
      clear hb2
      go_wp2_with (fail)
      have hno : Aside0 (∀ p, p < F.NB → w2.ownsRow base 3 1 (F.NX p) (NL p) (NX p)) := ⟨fun p hp => by
        have hbe := But.of_below HC.out.be
        exact HB2.out.own (hbe.own (HRG.out.nown p hp) (fun _ _ h => h)) (fun q hq ⟨j, hj, hj'⟩ => own_type_ne2 (hbe.own (HRG.out.nown p hp) (fun _ _ h => h)) (hbe.own (HRG.out.own j hj) (fun _ _ h => h)) (by decide) q hq hj')⟩
      have hro : Aside0 (w2.ownsRow w.heap.size 41 1 (.slice An F.NB cn) F.NB (vals F.NX F.NB)) := ⟨HB2.out.own HC.out.rn (fun q hq ⟨j, hj, hj'⟩ => own_type_ne2 HC.out.rn ((But.of_below HC.out.be).own (HRG.out.own j hj) (fun _ _ h => h)) (by decide) q hq hj')⟩
      refine (apart_ints F.NX NL F.NB base An cn w2 NX ?hy2 ?st2).mono ?_
      case hy2 =>
        refine ⟨⟨HRG.out.nfar, outA_but (fun a b ha ⟨j, hj, hj'⟩ => ?_), Nat.le_trans HRG.out.bs (Nat.le_trans HC.out.be.size HB2.out.size)⟩, hLB, HRG.out.lsn⟩
        intro he
        refine own_type_ne2 (hno.out j hj) hro.out (by decide) b hj' ?_
        rw [ha, ← he]; rfl
      case st2 =>
        refine ⟨hno.out, fun j hj => ?_, But.refl _ _⟩
        obtain ⟨a, ha, hc⟩ := row_addr hro.out hj
        refine ⟨a, ha, hc, ?_⟩
        have := own_lt hro.out a.block (by rw [ha]; rfl)
        exact this
      rintro e w3 ⟨rfl, hb3⟩
      have HB3 := Aside0.mk hb3
      clear hb3
      go_wp2_with (fail)
      have HF2 := Aside0.mk (fs_but HC.out.fs HB2.out (fun q ⟨j, hj, hj'⟩ => ⟨_, _, _, _, _, _, (But.of_below HC.out.be).own (HRG.out.own j hj) (fun _ _ h => h), hj', by decide, by decide, by decide, by decide⟩))
      have HF3 := Aside0.mk (fs_but HF2.out HB3.out (fun q ⟨j, hj, hj'⟩ => ⟨_, _, _, _, _, _, hno.out j hj, hj', by decide, by decide, by decide, by decide⟩))
      refine (lists_calls F g0 base c k w3 PB ND FN PC HK.out (HY.out.at_ (Nat.le_trans HC.out.be.size (Nat.le_trans HB2.out.size HB3.out.size))) HF3.out).mono ?_
      rintro e w4 ⟨rfl, hb4⟩
      have HB4 := Aside0.mk hb4
      clear hb4
      go_wp2
      go_ret
      refine ⟨rfl, ?_⟩
      have hbe := But.of_below HC.out.be
      have t1 : But (fun b => base ≤ b) w w2 := (hbe.mono (fun _ h => h.elim)).trans HB2.out (fun q ⟨j, hj, hj'⟩ => .inl (own_base (HRG.out.own j hj) q hj'))
      have t2 := t1.trans HB3.out (fun q ⟨j, hj, hj'⟩ => .inl (own_base (HRG.out.nown j hj) q hj'))
      have t3 := t2.trans HB4.out (fun q hq => .inl (by
        rcases hq with ⟨j, hj, h⟩ | ⟨j, hj, h⟩ | ⟨j, hj, h⟩
        · exact own_base (HS.out.sb.own j hj) q h
        · exact own_base (HS.out.si.own j hj) q h
        · exact own_base (HS.out.se.own j hj) q h))
      exact t3.to_below HRG.out.bs (fun _ h => h)
end Go.Proofs.Ytjekpkpmoanadaa.PCop
/- Codes of which all lists lie apart, as9 trees of rows; the trees, flat (Flat's Fl). -/
namespace Go.Proofs.Ytjekpkpmoanadaa.Tree
open Go.RowKit Go.Proofs.Ytjekpkpmoanadaa.PCop Go.Proofs.Ytjekpkpmoanadaa.Lit Go.Proofs.Ytjekpkpmoanadaa.OwnCells Go.Proofs.Ytjekpkpmoanadaa.Flat Go.Proofs.YtjekpkpmoanadaaW.PrintWords Go.Proofs.YtjekpkpmoanadaaW.PrintLast Go.Proofs.YtjekpkpmoanadaaW.PrintMore
open Go.Proofs.Ytjekpkpmoanadaa.Grow (cat cat_len cat_get cat_take cat_congr cat_of own_type_ne2 OwnOf)
open Go.Proofs.Ytjekpkpmoanadaa.Grow3 (Hyp St1)
set_option linter.unusedVariables false
set_option linter.unusedSimpArgs false
structure Lf where
  v : Value
  n : Nat
  xs : List Value
structure Ex where
  f0 : Int
  f1 : Int
  s : Lf
structure In where
  i0 : Int
  i1 : Int
  i2 : Int
  a : Lf
  i4 : Int
  i5 : Int
  i6 : Int
  ev : Value
  es : List Ex
structure Bl where
  pc : Int
  iv : Value
  is : List In
  nx : Lf
structure Co where
  bv : Value
  bs : List Bl
def lf0 : Lf := ⟨.slice none 0 0, 0, []⟩
def ex0 : Ex := ⟨0, 0, lf0⟩
def in0 : In := ⟨0, 0, 0, lf0, 0, 0, 0, .slice none 0 0, []⟩
def bl0 : Bl := ⟨0, .slice none 0 0, [], lf0⟩
def co0 : Co := ⟨.slice none 0 0, []⟩
def Ex.cells (e : Ex) : List Value := [.int .i64 e.f0, .int .i64 e.f1, e.s.v]
def In.cells (x : In) : List Value := [.int .i64 x.i0, .int .i64 x.i1, .int .i64 x.i2, x.a.v, .int .i64 x.i4, .int .i64 x.i5, .int .i64 x.i6, x.ev]
def Bl.cells (b : Bl) : List Value := [.int .i64 b.pc, b.iv, b.nx.v]
/-- its rows of operands -/
def Ex.o (e : Ex) : List Lf := [e.s]
def In.o (x : In) : List Lf := x.a :: x.es.flatMap Ex.o
def Bl.o (b : Bl) : List Lf := b.is.flatMap In.o
def Co.o (c : Co) : List Lf := c.bs.flatMap Bl.o
/-! shapes: how long the rows are -/
def In.sh (x : In) : Nat × List Nat := (x.a.n, x.es.map fun e => e.s.n)
def Bl.sh (b : Bl) : Nat × List (Nat × List Nat) := (b.nx.n, b.is.map In.sh)
def shI (x : S47) : Nat × List Nat := (x.f3.length, x.f7.map fun s => s.f2.length)
def shB (b : S43) : Nat × List (Nat × List Nat) := (b.f2.length, b.f1.map shI)
/-! rows that lie apart -/
def Apt (a b : Value) : Prop := ∀ k, a.ownBlock = some k → b.ownBlock ≠ some k
def Far (l : List Value) : Prop := l.Pairwise Apt
def InOk (ok : Nat → Prop) (l : List Value) : Prop := ∀ v ∈ l, ∀ k, v.ownBlock = some k → ok k
theorem InOk.mono {ok ok' : Nat → Prop} {l : List Value} (h : InOk ok l) (hok : ∀ k, ok k → ok' k) : InOk ok' l := fun v hv k hk => hok k (h v hv k hk)
theorem far_flat {T : Type} {g : T → List Value} {f : Nat → Nat} : ∀ {ts : List T} {m : Nat}, (∀ j t, ts[j]? = some t → Far (g t) ∧ InOk (fun k => f k = m + j) (g t)) → Far (ts.flatMap g)
  | [], _, _ => List.Pairwise.nil
  | t :: ts, m, h => by
    rw [List.flatMap_cons]
    have h0 := h 0 t rfl
    have ht : ∀ j t', ts[j]? = some t' → Far (g t') ∧ InOk (fun k => f k = m + 1 + j) (g t') := fun j t' hj => by
      have := h (j + 1) t' (by simpa using hj)
      refine ⟨this.1, this.2.mono (fun k hk => by omega)⟩
    refine List.pairwise_append.2 ⟨h0.1, far_flat ht, fun a ha b hb k hka hkb => ?_⟩
    obtain ⟨t', ht', hb'⟩ := List.mem_flatMap.1 hb
    obtain ⟨j, hj, rfl⟩ := List.getElem_of_mem ht'
    have h1 := h0.2 a ha k hka
    have h2 := (ht j _ (List.getElem?_eq_getElem hj)).2 b hb' k hkb
    have h1' : f k = m + 0 := h1
    have h2' : f k = m + 1 + j := h2
    omega
theorem inOk_flat {T : Type} {g : T → List Value} {ok : Nat → Prop} {ts : List T} (h : ∀ t ∈ ts, InOk ok (g t)) : InOk ok (ts.flatMap g) := fun v hv k hk => by
  obtain ⟨t, ht, hv'⟩ := List.mem_flatMap.1 hv
  exact h t ht v hv' k hk
theorem far_at {l : List Value} (h : Far l) {i j : Nat} {a b : Value} (hi : l[i]? = some a) (hj : l[j]? = some b) (hne : i ≠ j) : Apt a b := by
  obtain ⟨hil, rfl⟩ := List.getElem?_eq_some_iff.1 hi
  obtain ⟨hjl, rfl⟩ := List.getElem?_eq_some_iff.1 hj
  rcases Nat.lt_or_ge i j with h1 | h1
  · exact List.pairwise_iff_getElem.1 h i j hil hjl h1
  · intro k hk hk'
    exact List.pairwise_iff_getElem.1 h j i hjl hil (by omega) k hk' hk
/-- a row of elements that lie apart, element by element -/
theorem S_cat {α : Type} {d : Kd α} {e base : Nat} {ok : Nat → Prop} {w : World} {v : Value} {xs : List α} (h : Kd.S d e w base ok v xs) :
    ∃ (f : Nat → Nat) (ch : Nat → List Value), InOk ok [v] ∧ w.ownsRow base e d.sz v xs.length (cat ch xs.length) ∧ ∀ j p, xs[j]? = some p → d.M w base (fun k => (ok k ∧ some k ≠ v.ownBlock) ∧ f k = j) p (ch j) := by
  obtain ⟨f, h0, inner, ho, hr⟩ := h
  rw [List.length_zipIdx] at ho
  have hl : inner.length = xs.length * d.sz := by have := hr.1; rw [List.length_zipIdx] at this; exact this
  refine ⟨f, fun j => (inner.drop (j * d.sz)).take d.sz, fun u hu k hk => by rw [List.mem_singleton.1 hu] at hk; exact h0 k hk, by rw [← cat_of inner xs.length hl]; exact ho, fun j p hj => hr.2 j (p, j) (Kd.zip_at hj)⟩
theorem R_lf {α : Type} {d : Kd α} {e base : Nat} {ok : Nat → Prop} {w : World} {v : Value} {xs : List α} (h : d.R e w base ok v xs) : ∃ l : Lf, l.v = v ∧ l.n = xs.length ∧ w.ownsRow base e d.sz l.v l.n l.xs ∧ InOk ok [l.v] := by
  obtain ⟨h0, inner, ho, _⟩ := h
  exact ⟨⟨v, xs.length, inner⟩, rfl, rfl, ho, fun u hu k hk => by rw [List.mem_singleton.1 hu] at hk; exact h0 k hk⟩
/-- choose a tree for each element -/
theorem pick {α T : Type} (t0 : T) {P : Nat → α → T → Prop} : ∀ (xs : List α), (∀ j p, xs[j]? = some p → ∃ t, P j p t) → ∃ ts : List T, ts.length = xs.length ∧ ∀ j p t, xs[j]? = some p → ts[j]? = some t → P j p t := by
  intro xs h
  have hc : ∀ j : Fin xs.length, ∃ t, P j.1 xs[j.1] t := fun j => h j.1 _ (List.getElem?_eq_getElem j.2)
  refine ⟨(List.finRange xs.length).map fun j => (hc j).choose, by simp, fun j p t hp ht => ?_⟩
  obtain ⟨hj, rfl⟩ := List.getElem?_eq_some_iff.1 hp
  rw [List.getElem?_map] at ht
  obtain ⟨j', hj', rfl⟩ := Option.map_eq_some_iff.1 ht
  have : j' = ⟨j, hj⟩ := by
    obtain ⟨_, h2⟩ := List.getElem?_eq_some_iff.1 hj'
    rw [List.getElem_finRange] at h2
    exact (Fin.ext (by have := congrArg Fin.val h2; simpa using this)).symm
  subst this
  exact (hc ⟨j, hj⟩).choose_spec
structure ExH (w : World) (base : Nat) (ok : Nat → Prop) (v : Value) (es : List Ex) : Prop where
  row : w.ownsRow base 65 3 v es.length (cat (fun j => (es.getD j ex0).cells) es.length)
  os : ∀ l ∈ es.flatMap Ex.o, w.ownsRow base 49 2 l.v l.n l.xs
  far : Far ((es.flatMap Ex.o).map Lf.v)
  io : InOk ok ((es.flatMap Ex.o).map Lf.v)
  iv : InOk ok [v]
theorem map_flat {A B C : Type} (f : B → C) (g : A → List B) (l : List A) : (l.flatMap g).map f = l.flatMap (fun x => (g x).map f) := by
  rw [List.map_flatMap]
theorem getD_at {T : Type} {l : List T} {j : Nat} (d : T) (h : j < l.length) : l[j]? = some (l.getD j d) := by
  rw [List.getD_eq_getElem?_getD, List.getElem?_eq_getElem h]; rfl
theorem ex_of {w : World} {base : Nat} {ok : Nat → Prop} {v : Value} {xs : List S65} (h : Kd.S k65 65 w base ok v xs) : ∃ es : List Ex, ExH w base ok v es ∧ (es.map fun e => e.s.n) = xs.map fun s => s.f2.length := by
  obtain ⟨f, ch, hv, ho, hM⟩ := S_cat h
  obtain ⟨es, hl, hP⟩ := pick (P := fun j p t => (t : Ex).cells = ch j ∧ t.s.n = (p : S65).f2.length ∧ w.ownsRow base 49 2 t.s.v t.s.n t.s.xs ∧ InOk (fun k => (ok k ∧ some k ≠ v.ownBlock) ∧ f k = j) [t.s.v]) ex0 xs (fun j p hp => by
    obtain ⟨v2, hc, hR⟩ := k65_openM (hM j p hp)
    obtain ⟨l, h1, h2, h3, h4⟩ := R_lf hR
    exact ⟨⟨p.f0, p.f1, l⟩, by rw [hc, ← h1]; rfl, h2, h3, h4⟩)
  have hx : ∀ j t, es[j]? = some t → ∃ p, xs[j]? = some p := fun j t ht => ⟨xs[j]'(by have := (List.getElem?_eq_some_iff.1 ht).1; omega), List.getElem?_eq_getElem _⟩
  refine ⟨es, ⟨?_, ?_, ?_, ?_, hv⟩, ?_⟩
  · rw [hl]
    rw [cat_congr (f' := ch) xs.length (fun i hi => (hP i _ _ (List.getElem?_eq_getElem hi) (getD_at ex0 (by omega))).1)]
    exact ho
  · intro l hl'
    obtain ⟨t, ht, hm⟩ := List.mem_flatMap.1 hl'
    obtain ⟨j, hj, rfl⟩ := List.getElem_of_mem ht
    rw [List.mem_singleton.1 hm]
    obtain ⟨p, hp⟩ := hx j _ (List.getElem?_eq_getElem hj)
    exact (hP j p _ hp (List.getElem?_eq_getElem hj)).2.2.1
  · rw [map_flat]
    refine far_flat (f := f) (m := 0) (fun j t ht => ?_)
    obtain ⟨p, hp⟩ := hx j t ht
    refine ⟨List.pairwise_singleton _ _, ((hP j p t hp ht).2.2.2).mono (fun k hk => by rw [Nat.zero_add]; exact hk.2)⟩
  · rw [map_flat]
    refine inOk_flat (fun t ht => ?_)
    obtain ⟨j, hj, rfl⟩ := List.getElem_of_mem ht
    obtain ⟨p, hp⟩ := hx j _ (List.getElem?_eq_getElem hj)
    exact ((hP j p _ hp (List.getElem?_eq_getElem hj)).2.2.2).mono (fun k hk => hk.1.1)
  · apply List.ext_getElem?
    intro j
    rw [List.getElem?_map, List.getElem?_map]
    cases he : es[j]? with
    | none =>
      have : xs[j]? = none := by rw [List.getElem?_eq_none_iff] at he ⊢; omega
      rw [this]; rfl
    | some t =>
      obtain ⟨p, hp⟩ := hx j t he
      rw [hp]
      show some t.s.n = some p.f2.length
      rw [(hP j p t hp he).2.1]
structure InH (w : World) (base : Nat) (ok : Nat → Prop) (x : In) : Prop where
  ex : w.ownsRow base 65 3 x.ev x.es.length (cat (fun j => (x.es.getD j ex0).cells) x.es.length)
  os : ∀ l ∈ x.o, w.ownsRow base 49 2 l.v l.n l.xs
  far : Far (x.o.map Lf.v)
  io : InOk ok (x.o.map Lf.v)
  iv : InOk ok [x.ev]
theorem in_of {w : World} {base : Nat} {ok : Nat → Prop} {x : S47} {cs : List Value} (h : kA47.M w base ok x cs) : ∃ t : In, t.cells = cs ∧ InH w base ok t ∧ t.sh = shI x := by
  obtain ⟨p, v3, v7, rfl, h3, h7⟩ := kA47_openM h
  obtain ⟨l, h1, h2, h3', h4⟩ := R_lf h3
  obtain ⟨es, hE, hs⟩ := ex_of h7
  refine ⟨⟨x.f0, x.f1, x.f2, l, x.f4, x.f5, x.f6, v7, es⟩, by rw [← h1]; rfl, ⟨hE.row, ?_, ?_, ?_, hE.iv.mono (fun k hk => hk.1)⟩, ?_⟩
  · intro l' hl'
    rcases List.mem_cons.1 hl' with rfl | hm
    · exact h3'
    · exact hE.os l' hm
  · show Far (l.v :: (es.flatMap Ex.o).map Lf.v)
    refine List.pairwise_cons.2 ⟨fun b hb k hk hk' => ?_, hE.far⟩
    exact (hE.io b hb k hk').2 (h4 l.v (List.mem_singleton.2 rfl) k hk).2
  · show InOk ok (l.v :: (es.flatMap Ex.o).map Lf.v)
    intro b hb k hk
    rcases List.mem_cons.1 hb with rfl | hm
    · exact (h4 _ (List.mem_singleton.2 rfl) k hk).1
    · exact (hE.io b hm k hk).1
  · show (l.n, es.map fun e => e.s.n) = _
    rw [h2, hs]; rfl
structure BlH (w : World) (base : Nat) (ok : Nat → Prop) (b : Bl) : Prop where
  ins : w.ownsRow base 47 8 b.iv b.is.length (cat (fun j => (b.is.getD j in0).cells) b.is.length)
  exs : ∀ x ∈ b.is, w.ownsRow base 65 3 x.ev x.es.length (cat (fun j => (x.es.getD j ex0).cells) x.es.length)
  os : ∀ l ∈ b.o, w.ownsRow base 49 2 l.v l.n l.xs
  nx : w.ownsRow base 3 1 b.nx.v b.nx.n b.nx.xs
  faro : Far (b.o.map Lf.v)
  fare : Far (b.is.map In.ev)
  io : InOk ok (b.o.map Lf.v)
  ie : InOk ok (b.is.map In.ev)
  iv : InOk ok [b.iv]
  inx : InOk ok [b.nx.v]
/-- a list of elements, whatever they are, each of its own -/
theorem mem_idx {A T : Type} {xs : List A} {ts : List T} (hl : ts.length = xs.length) {t : T} (ht : t ∈ ts) : ∃ (j : Nat) (p : A), xs[j]? = some p ∧ ts[j]? = some t := by
  obtain ⟨j, hj, rfl⟩ := List.getElem_of_mem ht
  exact ⟨j, xs[j]'(by omega), List.getElem?_eq_getElem _, List.getElem?_eq_getElem _⟩
theorem map_single {T : Type} (f : T → Value) (l : List T) : l.map f = l.flatMap (fun x => [f x]) := by
  induction l with
  | nil => rfl
  | cons x r ih => rw [List.map_cons, List.flatMap_cons, ih]; rfl
theorem sh_eq {A T S : Type} {f : T → S} {g : A → S} {xs : List A} {ts : List T} (hl : ts.length = xs.length) (h : ∀ (j : Nat) (p : A) (t : T), xs[j]? = some p → ts[j]? = some t → f t = g p) : ts.map f = xs.map g := by
  apply List.ext_getElem?
  intro j
  rw [List.getElem?_map, List.getElem?_map]
  cases he : ts[j]? with
  | none =>
    have : xs[j]? = none := by rw [List.getElem?_eq_none_iff] at he ⊢; omega
    rw [this]; rfl
  | some t =>
    have hj := (List.getElem?_eq_some_iff.1 he).1
    have hp : xs[j]? = some (xs[j]'(by omega)) := List.getElem?_eq_getElem _
    rw [hp]
    show some (f t) = some (g _)
    rw [h j _ t hp he]
theorem bl_of {w : World} {base : Nat} {ok : Nat → Prop} {x : S43} {cs : List Value} (h : kA43.M w base ok x cs) : ∃ t : Bl, t.cells = cs ∧ BlH w base ok t ∧ t.sh = shB x := by
  obtain ⟨v1, v2, rfl, h1, h2⟩ := kA43_openM h
  obtain ⟨l, e1, e2, e3, e4⟩ := R_lf h2
  obtain ⟨f, ch, hv, ho, hM⟩ := S_cat h1
  obtain ⟨ts, hl, hP⟩ := pick (P := fun j p t => (t : In).cells = ch j ∧ InH w base (fun k => (ok k ∧ some k ≠ v1.ownBlock) ∧ f k = j) t ∧ t.sh = shI p) in0 x.f1 (fun j p hp => in_of (hM j p hp))
  refine ⟨⟨x.f0, v1, ts, l⟩, by rw [← e1]; rfl, ⟨?_, ?_, ?_, e3, ?_, ?_, ?_, ?_, hv, e4⟩, ?_⟩
  · show w.ownsRow base 47 8 v1 ts.length _
    rw [hl]
    rw [cat_congr (f' := ch) x.f1.length (fun i hi => (hP i _ _ (List.getElem?_eq_getElem hi) (getD_at in0 (by omega))).1)]
    exact ho
  · intro t ht
    obtain ⟨j, p, hp, hj⟩ := mem_idx hl ht
    exact (hP j p t hp hj).2.1.ex
  · intro l' hl'
    obtain ⟨t, ht, hm⟩ := List.mem_flatMap.1 hl'
    obtain ⟨j, p, hp, hj⟩ := mem_idx hl ht
    exact (hP j p t hp hj).2.1.os l' hm
  · show Far ((ts.flatMap In.o).map Lf.v)
    rw [map_flat]
    refine far_flat (f := f) (m := 0) (fun j t ht => ?_)
    have hj := (List.getElem?_eq_some_iff.1 ht).1
    have := (hP j _ t (List.getElem?_eq_getElem (by omega)) ht).2.1
    exact ⟨this.far, this.io.mono (fun k hk => by rw [Nat.zero_add]; exact hk.2)⟩
  · show Far (ts.map In.ev)
    rw [map_single]
    refine far_flat (f := f) (m := 0) (fun j t ht => ?_)
    have hj := (List.getElem?_eq_some_iff.1 ht).1
    have := (hP j _ t (List.getElem?_eq_getElem (by omega)) ht).2.1
    exact ⟨List.pairwise_singleton _ _, this.iv.mono (fun k hk => by rw [Nat.zero_add]; exact hk.2)⟩
  · show InOk ok ((ts.flatMap In.o).map Lf.v)
    rw [map_flat]
    refine inOk_flat (fun t ht => ?_)
    obtain ⟨j, p, hp, hj⟩ := mem_idx hl ht
    exact (hP j p t hp hj).2.1.io.mono (fun k hk => hk.1.1)
  · show InOk ok (ts.map In.ev)
    rw [map_single]
    refine inOk_flat (fun t ht => ?_)
    obtain ⟨j, p, hp, hj⟩ := mem_idx hl ht
    exact (hP j p t hp hj).2.1.iv.mono (fun k hk => hk.1.1)
  · show (l.n, ts.map In.sh) = _
    rw [e2, sh_eq hl (fun j p t hp ht => (hP j p t hp ht).2.2)]; rfl
structure CoH (w : World) (base : Nat) (ok : Nat → Prop) (c : Co) : Prop where
  bls : w.ownsRow base 43 3 c.bv c.bs.length (cat (fun j => (c.bs.getD j bl0).cells) c.bs.length)
  each : ∀ b ∈ c.bs, BlH w base ok b
  faro : Far (c.o.map Lf.v)
  fare : Far ((c.bs.flatMap Bl.is).map In.ev)
  fari : Far (c.bs.map Bl.iv)
  farn : Far (c.bs.map fun b => b.nx.v)
  iv : InOk ok [c.bv]
theorem BlH.mono {w : World} {base : Nat} {ok ok' : Nat → Prop} {b : Bl} (h : BlH w base ok b) (hok : ∀ k, ok k → ok' k) : BlH w base ok' b := ⟨h.ins, h.exs, h.os, h.nx, h.faro, h.fare, h.io.mono hok, h.ie.mono hok, h.iv.mono hok, h.inx.mono hok⟩
theorem co_of {w : World} {base : Nat} {ok : Nat → Prop} {v : Value} {xs : List S43} (h : Kd.S kA43 43 w base ok v xs) : ∃ t : Co, t.bv = v ∧ CoH w base ok t ∧ t.bs.map Bl.sh = xs.map shB := by
  obtain ⟨f, ch, hv, ho, hM⟩ := S_cat h
  obtain ⟨ts, hl, hP⟩ := pick (P := fun j p t => (t : Bl).cells = ch j ∧ BlH w base (fun k => (ok k ∧ some k ≠ v.ownBlock) ∧ f k = j) t ∧ t.sh = shB p) bl0 xs (fun j p hp => bl_of (hM j p hp))
  have hf : ∀ (g : Bl → List Value), (∀ j p t, xs[j]? = some p → ts[j]? = some t → Far (g t) ∧ InOk (fun k => f k = j) (g t)) → Far (ts.flatMap g) := fun g hg => far_flat (f := f) (m := 0) (fun j t ht => by
    have hj := (List.getElem?_eq_some_iff.1 ht).1
    have := hg j _ t (List.getElem?_eq_getElem (by omega)) ht
    exact ⟨this.1, this.2.mono (fun k hk => by rw [Nat.zero_add]; exact hk)⟩)
  refine ⟨⟨v, ts⟩, rfl, ⟨?_, ?_, ?_, ?_, ?_, ?_, hv⟩, sh_eq hl (fun j p t hp ht => (hP j p t hp ht).2.2)⟩
  · show w.ownsRow base 43 3 v ts.length _
    rw [hl]
    rw [cat_congr (f' := ch) xs.length (fun i hi => (hP i _ _ (List.getElem?_eq_getElem hi) (getD_at bl0 (by omega))).1)]
    exact ho
  · intro t ht
    obtain ⟨j, p, hp, hj⟩ := mem_idx hl ht
    exact (hP j p t hp hj).2.1.mono (fun k hk => hk.1.1)
  · show Far ((ts.flatMap Bl.o).map Lf.v)
    rw [map_flat]
    exact hf _ (fun j p t hp ht => ⟨(hP j p t hp ht).2.1.faro, (hP j p t hp ht).2.1.io.mono (fun k hk => hk.2)⟩)
  · show Far ((ts.flatMap Bl.is).map In.ev)
    rw [map_flat]
    exact hf _ (fun j p t hp ht => ⟨(hP j p t hp ht).2.1.fare, (hP j p t hp ht).2.1.ie.mono (fun k hk => hk.2)⟩)
  · show Far (ts.map Bl.iv)
    rw [map_single]
    exact hf _ (fun j p t hp ht => ⟨List.pairwise_singleton _ _, (hP j p t hp ht).2.1.iv.mono (fun k hk => hk.2)⟩)
  · show Far (ts.map fun b => b.nx.v)
    rw [map_single]
    exact hf _ (fun j p t hp ht => ⟨List.pairwise_singleton _ _, (hP j p t hp ht).2.1.inx.mono (fun k hk => hk.2)⟩)
end Go.Proofs.Ytjekpkpmoanadaa.Tree
/- Trees of rows that lie apart, flat: what ApartRegs is handed. -/
namespace Go.Proofs.Ytjekpkpmoanadaa.Tree
open Go.RowKit Go.Proofs.Ytjekpkpmoanadaa.PCop Go.Proofs.Ytjekpkpmoanadaa.Lit Go.Proofs.Ytjekpkpmoanadaa.OwnCells Go.Proofs.Ytjekpkpmoanadaa.Flat Go.Proofs.YtjekpkpmoanadaaW.PrintWords Go.Proofs.YtjekpkpmoanadaaW.PrintLast Go.Proofs.YtjekpkpmoanadaaW.PrintMore
open Go.Proofs.Ytjekpkpmoanadaa.Grow (cat cat_len cat_get cat_take cat_congr cat_of own_type_ne2 OwnOf)
open Go.Proofs.Ytjekpkpmoanadaa.Grow3 (Hyp St1)
set_option linter.unusedVariables false
set_option linter.unusedSimpArgs false
def LB (T : List Co) : List Bl := T.flatMap Co.bs
def LI (T : List Co) : List In := (LB T).flatMap Bl.is
def LE (T : List Co) : List Ex := (LI T).flatMap In.es
def LO (T : List Co) : List Lf := (LI T).flatMap In.o
theorem off_flat {A B : Type} (g : A → List B) (d : A) (l : List A) : ∀ (k : Nat), k ≤ l.length → off (fun k => (g (l.getD k d)).length) k = ((l.take k).flatMap g).length
  | 0, _ => rfl
  | k + 1, h => by
    have hk : k < l.length := by omega
    rw [off, off_flat g d l k (by omega), List.take_succ_eq_append_getElem hk, List.flatMap_append, List.length_append]
    congr 1
    rw [List.getD_eq_getElem?_getD, List.getElem?_eq_getElem hk]
    simp
theorem off_all {A B : Type} (g : A → List B) (d : A) (l : List A) : off (fun k => (g (l.getD k d)).length) l.length = (l.flatMap g).length := by
  rw [off_flat g d l l.length (Nat.le_refl _), List.take_length]
theorem flat_getD {A B : Type} (g : A → List B) (d : A) (d' : B) (l : List A) {k b : Nat} (hk : k < l.length) (hb : b < (g (l.getD k d)).length) : (l.flatMap g).getD (off (fun k => (g (l.getD k d)).length) k + b) d' = (g (l.getD k d)).getD b d' := by
  have e : l.flatMap g = (l.take k).flatMap g ++ (g (l.getD k d) ++ (l.drop (k + 1)).flatMap g) := by
    have h1 : l = l.take k ++ (l.getD k d :: l.drop (k + 1)) := by
      rw [List.getD_eq_getElem?_getD, List.getElem?_eq_getElem hk]
      show l = l.take k ++ (l[k] :: l.drop (k + 1))
      rw [← List.drop_eq_getElem_cons hk, List.take_append_drop]
    calc l.flatMap g = (l.take k ++ (l.getD k d :: l.drop (k + 1))).flatMap g := by rw [← h1]
      _ = _ := by rw [List.flatMap_append, List.flatMap_cons]
  rw [e, off_flat g d l k (by omega), List.getD_eq_getElem?_getD, List.getElem?_append_right (by omega), Nat.add_sub_cancel_left, List.getElem?_append_left hb, ← List.getD_eq_getElem?_getD]
theorem getD_mem {A : Type} {l : List A} {k : Nat} (d : A) (h : k < l.length) : l.getD k d ∈ l := by
  rw [List.getD_eq_getElem?_getD, List.getElem?_eq_getElem h]; exact List.getElem_mem h
def fl (T : List Co) (C0 : Array Value) : Fl where
  nK := T.length
  nB := fun k => ((T.getD k co0).bs).length
  nI := fun p => (((LB T).getD p bl0).is).length
  nE := fun q => (((LI T).getD q in0).es).length
  VB := fun k => (T.getD k co0).bv
  VI := fun p => ((LB T).getD p bl0).iv
  VE := fun q => ((LI T).getD q in0).ev
  NX := fun p => ((LB T).getD p bl0).nx.v
  AR := fun q => ((LI T).getD q in0).a.v
  SL := fun r => ((LE T).getD r ex0).s.v
  I0 := fun q => ((LI T).getD q in0).i0
  I1 := fun q => ((LI T).getD q in0).i1
  I2 := fun q => ((LI T).getD q in0).i2
  I4 := fun q => ((LI T).getD q in0).i4
  I5 := fun q => ((LI T).getD q in0).i5
  C0 := C0
section
variable {T : List Co} {C0 : Array Value}
theorem fl_NB : (fl T C0).NB = (LB T).length := off_all Co.bs co0 T
theorem fl_NI : (fl T C0).NI = (LI T).length := by
  show off (fl T C0).nI (fl T C0).NB = _
  rw [fl_NB]; exact off_all Bl.is bl0 (LB T)
theorem fl_NE : (fl T C0).NE = (LE T).length := by
  show off (fl T C0).nE (fl T C0).NI = _
  rw [fl_NI]; exact off_all In.es in0 (LI T)
structure TH (w : World) (base : Nat) (T : List Co) : Prop where
  each : ∀ c ∈ T, CoH w base (fun _ => True) c
  faro : Far ((LO T).map Lf.v)
  fare : Far ((LI T).map In.ev)
  fari : Far ((LB T).map Bl.iv)
  farb : Far (T.map Co.bv)
  farn : Far ((LB T).map fun b => b.nx.v)
theorem TH.bl {w : World} {base : Nat} (h : TH w base T) {b : Bl} (hb : b ∈ LB T) : BlH w base (fun _ => True) b := by
  obtain ⟨c, hc, hm⟩ := List.mem_flatMap.1 hb
  exact (h.each c hc).each b hm
theorem TH.ex {w : World} {base : Nat} (h : TH w base T) {x : In} (hx : x ∈ LI T) : w.ownsRow base 65 3 x.ev x.es.length (cat (fun j => (x.es.getD j ex0).cells) x.es.length) := by
  obtain ⟨b, hb, hm⟩ := List.mem_flatMap.1 hx
  exact (h.bl hb).exs x hm
theorem TH.os {w : World} {base : Nat} (h : TH w base T) {l : Lf} (hl : l ∈ LO T) : w.ownsRow base 49 2 l.v l.n l.xs := by
  obtain ⟨x, hx, hm⟩ := List.mem_flatMap.1 hl
  obtain ⟨b, hb, hm'⟩ := List.mem_flatMap.1 hx
  exact (h.bl hb).os l (List.mem_flatMap.2 ⟨x, hm', hm⟩)
theorem far_idx {A : Type} {g : A → Value} {l : List A} (d : A) (h : Far (l.map g)) : ∀ i j b, i < l.length → j < l.length → i ≠ j → (g (l.getD i d)).ownBlock = some b → (g (l.getD j d)).ownBlock ≠ some b := fun i j b hi hj hne hb => by
  refine far_at h (i := i) (j := j) (a := g (l.getD i d)) (b := g (l.getD j d)) ?_ ?_ hne b hb
  · rw [List.getElem?_map, getD_at d hi]; rfl
  · rw [List.getElem?_map, getD_at d hj]; rfl
theorem fl_ok {w : World} {base : Nat} (h : TH w base T) (hb : base ≤ w.heap.size) (hc : ∀ k, k < T.length → C0[k * 3 + 2]? = some (T.getD k co0).bv) (hk : T.length ≤ 2) (lb : (LB T).length ≤ 4194304) (li : (LI T).length ≤ 4194304) (le : (LE T).length ≤ 4194304) : Ok (fl T C0) base w where
  hb := ⟨far_idx co0 h.farb, fun b hb => .inl hb, hb⟩
  hi := ⟨fun i j b hi hj => far_idx bl0 h.fari i j b (by rw [← fl_NB (C0 := C0)]; exact hi) (by rw [← fl_NB (C0 := C0)]; exact hj), fun b hb => .inr (.inl hb), hb⟩
  he := ⟨fun i j b hi hj => far_idx in0 h.fare i j b (by rw [← fl_NI (C0 := C0)]; exact hi) (by rw [← fl_NI (C0 := C0)]; exact hj), fun b hb => .inr (.inr hb), hb⟩
  c0 := hc
  lk := hk
  lb := by rw [fl_NB]; exact lb
  li := by rw [fl_NI]; exact li
  le := by rw [fl_NE]; exact le
  sl := fun r hr => by
    rw [fl_NE] at hr
    obtain ⟨x, hx, hm⟩ := List.mem_flatMap.1 (getD_mem ex0 hr)
    obtain ⟨A, c, hA, _⟩ := own_form (h.os (l := ((LE T).getD r ex0).s) (List.mem_flatMap.2 ⟨x, hx, List.mem_cons_of_mem _ (List.mem_flatMap.2 ⟨_, hm, List.mem_singleton.2 rfl⟩)⟩))
    exact ⟨A, _, c, hA⟩
theorem fl_fs {w : World} {base g0 : Nat} (h : TH w base T) (hg : w.heap[g0]? = some (.cells C0 24 (0, 0))) : Fs (fl T C0) g0 base w w (fun p => ((LB T).getD p bl0).pc) (fun q => ((LI T).getD q in0).i6) (fun r => ((LE T).getD r ex0).f0) (fun r => ((LE T).getD r ex0).f1) where
  k24 := hg
  sb := ⟨fun k hk => by
    have h1 := (h.each _ (getD_mem co0 hk)).bls
    rw [cat_congr (f' := fun b => (fl T C0).cb (fun p => ((LB T).getD p bl0).pc) (off (fl T C0).nB k + b)) _ (fun i hi => ?_)] at h1
    · exact h1
    · have := flat_getD Co.bs co0 bl0 T hk hi
      show ((T.getD k co0).bs.getD i bl0).cells = ((LB T).getD (off (fl T C0).nB k + i) bl0).cells
      rw [← this]; rfl, But.refl _ _⟩
  si := ⟨fun k hk => by
    rw [fl_NB] at hk
    have h1 := (h.bl (getD_mem bl0 hk)).ins
    rw [cat_congr (f' := fun b => (fl T C0).ci (fun q => ((LI T).getD q in0).i6) (off (fl T C0).nI k + b)) _ (fun i hi => ?_)] at h1
    · exact h1
    · have := flat_getD Bl.is bl0 in0 (LB T) hk hi
      show (((LB T).getD k bl0).is.getD i in0).cells = ((LI T).getD (off (fl T C0).nI k + i) in0).cells
      rw [← this]; rfl, But.refl _ _⟩
  se := ⟨fun k hk => by
    rw [fl_NI] at hk
    have h1 := h.ex (getD_mem in0 hk)
    rw [cat_congr (f' := fun b => (fl T C0).ce (fun r => ((LE T).getD r ex0).f0) (fun r => ((LE T).getD r ex0).f1) (off (fl T C0).nE k + b)) _ (fun i hi => ?_)] at h1
    · exact h1
    · have := flat_getD In.es in0 ex0 (LI T) hk hi
      show (((LI T).getD k in0).es.getD i ex0).cells = ((LE T).getD (off (fl T C0).nE k + i) ex0).cells
      rw [← this]; rfl, But.refl _ _⟩
/-! the operands' rows, one behind the other -/
def nO (F : Fl) (q : Nat) : Nat := 1 + F.nE q
theorem o_len (x : In) : x.o.length = 1 + x.es.length := by
  have : (x.es.flatMap Ex.o).length = x.es.length := by
    induction x.es with
    | nil => rfl
    | cons e r ih => rw [List.flatMap_cons, List.length_append, ih]; show 1 + r.length = r.length + 1; omega
  show (x.es.flatMap Ex.o).length + 1 = _
  omega
theorem o_get (es : List Ex) : ∀ s, s < es.length → ((es.flatMap Ex.o).getD s lf0) = (es.getD s ex0).s := by
  induction es with
  | nil => intro s hs; cases hs
  | cons e r ih =>
    intro s hs
    cases s with
    | zero => rfl
    | succ s =>
      have := ih s (by simpa using hs)
      simpa [Ex.o] using this
theorem off_congr {n m : Nat → Nat} : ∀ {k : Nat}, (∀ i, i < k → n i = m i) → off n k = off m k
  | 0, _ => rfl
  | k + 1, h => by rw [off, off, off_congr (fun i hi => h i (by omega)), h k (by omega)]
theorem nO_eq (q : Nat) : nO (fl T C0) q = (((LI T).getD q in0).o).length := by rw [o_len]; rfl
theorem off_nO (q : Nat) : off (nO (fl T C0)) q = off (fun q => (((LI T).getD q in0).o).length) q := off_congr (fun i _ => nO_eq i)
theorem ov_all : off (nO (fl T C0)) (fl T C0).NI = (LO T).length := by rw [off_nO, fl_NI]; exact off_all In.o in0 (LI T)
theorem ov0 {q : Nat} (hq : q < (fl T C0).NI) : ((LO T).getD (off (nO (fl T C0)) q) lf0).v = (fl T C0).AR q := by
  rw [fl_NI] at hq
  have := flat_getD In.o in0 lf0 (LI T) hq (b := 0) (by rw [o_len]; omega)
  rw [Nat.add_zero, ← off_nO (C0 := C0)] at this
  show ((List.flatMap In.o (LI T)).getD _ lf0).v = _
  rw [this]; rfl
theorem ov1 {q s : Nat} (hq : q < (fl T C0).NI) (hs : s < (fl T C0).nE q) : ((LO T).getD (off (nO (fl T C0)) q + (1 + s)) lf0).v = (fl T C0).SL (off (fl T C0).nE q + s) := by
  rw [fl_NI] at hq
  have h1 := flat_getD In.o in0 lf0 (LI T) hq (b := 1 + s) (by rw [o_len]; have : s < ((LI T).getD q in0).es.length := hs; omega)
  rw [← off_nO (C0 := C0)] at h1
  have h2 := flat_getD In.es in0 ex0 (LI T) hq hs
  show ((List.flatMap In.o (LI T)).getD _ lf0).v = ((List.flatMap In.es (LI T)).getD _ ex0).s.v
  rw [h1]
  have h3 : ((LI T).getD q in0).o.getD (1 + s) lf0 = (((LI T).getD q in0).es.getD s ex0).s := by
    rw [Nat.add_comm]
    show (((LI T).getD q in0).es.flatMap Ex.o).getD s lf0 = _
    exact o_get _ s hs
  rw [h3, ← h2]; rfl
end
/-- two codes -/
theorem far_append {a b : List Value} {ok1 ok2 : Nat → Prop} (ha : Far a) (hb : Far b) (h1 : InOk ok1 a) (h2 : InOk ok2 b) (hne : ∀ k, ok1 k → ¬ ok2 k) : Far (a ++ b) :=
  List.pairwise_append.2 ⟨ha, hb, fun x hx y hy k hk hk' => hne k (h1 x hx k hk) (h2 y hy k hk')⟩
theorem co_oks {w : World} {base : Nat} {ok : Nat → Prop} {c : Co} (h : CoH w base ok c) : InOk ok (c.o.map Lf.v) ∧ InOk ok ((c.bs.flatMap Bl.is).map In.ev) ∧ InOk ok (c.bs.map Bl.iv) ∧ InOk ok (c.bs.map fun b => b.nx.v) := by
  refine ⟨?_, ?_, ?_, ?_⟩
  · show InOk ok ((c.bs.flatMap Bl.o).map Lf.v)
    rw [map_flat]
    exact inOk_flat (fun b hb => (h.each b hb).io)
  · rw [map_flat]
    exact inOk_flat (fun b hb => (h.each b hb).ie)
  · rw [map_single]
    exact inOk_flat (fun b hb => (h.each b hb).iv)
  · rw [map_single]
    exact inOk_flat (fun b hb => (h.each b hb).inx)
theorem CoH.mono {w : World} {base : Nat} {ok ok' : Nat → Prop} {c : Co} (h : CoH w base ok c) (hok : ∀ k, ok k → ok' k) : CoH w base ok' c := ⟨h.bls, fun b hb => (h.each b hb).mono hok, h.faro, h.fare, h.fari, h.farn, h.iv.mono hok⟩
theorem th_two {w : World} {base : Nat} {ok1 ok2 : Nat → Prop} {c1 c2 : Co} (h1 : CoH w base ok1 c1) (h2 : CoH w base ok2 c2) (hne : ∀ k, ok1 k → ¬ ok2 k) : TH w base [c1, c2] := by
  have a1 := co_oks h1
  have a2 := co_oks h2
  have eB : LB [c1, c2] = c1.bs ++ c2.bs := by simp [LB]
  have eI : LI [c1, c2] = c1.bs.flatMap Bl.is ++ c2.bs.flatMap Bl.is := by rw [LI, eB, List.flatMap_append]
  have eO : LO [c1, c2] = c1.o ++ c2.o := by
    rw [LO, eI, List.flatMap_append, List.flatMap_assoc, List.flatMap_assoc]; rfl
  refine ⟨fun c hc => ?_, ?_, ?_, ?_, ?_, ?_⟩
  · rcases List.mem_cons.1 hc with rfl | hc
    · exact h1.mono (fun _ _ => trivial)
    · rw [List.mem_singleton.1 hc]; exact h2.mono (fun _ _ => trivial)
  · rw [eO, List.map_append]; exact far_append h1.faro h2.faro a1.1 a2.1 hne
  · rw [eI, List.map_append]; exact far_append h1.fare h2.fare a1.2.1 a2.2.1 hne
  · rw [eB, List.map_append]; exact far_append h1.fari h2.fari a1.2.2.1 a2.2.2.1 hne
  · exact far_append (a := [c1.bv]) (b := [c2.bv]) (List.pairwise_singleton _ _) (List.pairwise_singleton _ _) h1.iv h2.iv hne
  · rw [eB, List.map_append]; exact far_append h1.farn h2.farn a1.2.2.2 a2.2.2.2 hne
end Go.Proofs.Ytjekpkpmoanadaa.Tree
/- How many rows the trees hold, and how long they are. -/
namespace Go.Proofs.Ytjekpkpmoanadaa.Tree
open Go.RowKit Go.Proofs.Ytjekpkpmoanadaa.PCop Go.Proofs.Ytjekpkpmoanadaa.Lit Go.Proofs.Ytjekpkpmoanadaa.OwnCells Go.Proofs.Ytjekpkpmoanadaa.Flat Go.Proofs.YtjekpkpmoanadaaW.PrintWords Go.Proofs.YtjekpkpmoanadaaW.PrintLast Go.Proofs.YtjekpkpmoanadaaW.PrintMore
set_option linter.unusedVariables false
set_option linter.unusedSimpArgs false
def insT (l : List S43) : Nat := (l.map fun b => b.f1.length).sum
def exT (l : List S43) : Nat := (l.map fun b => (b.f1.map fun x => x.f7.length).sum).sum
structure Fit (l : List S43) : Prop where
  len : l.length ≤ 1048576
  ins : insT l ≤ 1048576
  ex : exT l ≤ 1048576
  next : ∀ b ∈ l, b.f2.length ≤ 1048576
  args : ∀ b ∈ l, ∀ x ∈ b.f1, x.f3.length ≤ 1048576
  slots : ∀ b ∈ l, ∀ x ∈ b.f1, ∀ s ∈ x.f7, s.f2.length ≤ 1048576
theorem flat_len {A B : Type} (g : A → List B) (l : List A) : (l.flatMap g).length = (l.map fun x => (g x).length).sum := by
  induction l with
  | nil => rfl
  | cons x r ih => rw [List.flatMap_cons, List.length_append, ih]; rfl
section
variable {bs : List Bl} {l : List S43}
theorem sh_len (h : bs.map Bl.sh = l.map shB) : bs.length = l.length := by have := congrArg List.length h; simpa using this
theorem sh_ins (h : bs.map Bl.sh = l.map shB) : (bs.flatMap Bl.is).length = insT l := by
  rw [flat_len]
  have e1 : (bs.map fun b => b.is.length) = (bs.map Bl.sh).map (fun p => p.2.length) := by rw [List.map_map]; congr 1; funext b; simp [Bl.sh]
  have e2 : (l.map fun b => b.f1.length) = (l.map shB).map (fun p => p.2.length) := by rw [List.map_map]; congr 1; funext b; simp [shB]
  rw [e1, h, ← e2]; rfl
theorem sh_ex (h : bs.map Bl.sh = l.map shB) : ((bs.flatMap Bl.is).flatMap In.es).length = exT l := by
  rw [List.flatMap_assoc, flat_len]
  have e1 : (bs.map fun b => (b.is.flatMap In.es).length) = (bs.map Bl.sh).map (fun p => (p.2.map fun q => q.2.length).sum) := by
    rw [List.map_map]; congr 1; funext b
    rw [flat_len]
    show _ = ((b.is.map In.sh).map fun q => q.2.length).sum
    rw [List.map_map]; congr 2; funext x; simp [In.sh]
  have e2 : (l.map fun b => (b.f1.map fun x => x.f7.length).sum) = (l.map shB).map (fun p => (p.2.map fun q => q.2.length).sum) := by
    rw [List.map_map]; congr 1; funext b
    show _ = ((b.f1.map shI).map fun q => q.2.length).sum
    rw [List.map_map]; congr 2; funext x; simp [shI]
  rw [e1, h, ← e2]; rfl
theorem o_all (is : List In) : (is.flatMap In.o).length = is.length + (is.flatMap In.es).length := by
  induction is with
  | nil => rfl
  | cons x r ih => rw [List.flatMap_cons, List.flatMap_cons, List.length_append, List.length_append, ih, o_len, List.length_cons]; omega
theorem sh_mem (h : bs.map Bl.sh = l.map shB) {b : Bl} (hb : b ∈ bs) : ∃ y ∈ l, b.sh = shB y := by
  have : b.sh ∈ bs.map Bl.sh := List.mem_map_of_mem hb
  rw [h] at this
  obtain ⟨y, hy, e⟩ := List.mem_map.1 this
  exact ⟨y, hy, e.symm⟩
theorem sh_next (h : bs.map Bl.sh = l.map shB) (hf : Fit l) {b : Bl} (hb : b ∈ bs) : b.nx.n ≤ 1048576 := by
  obtain ⟨y, hy, e⟩ := sh_mem h hb
  have : b.nx.n = y.f2.length := congrArg Prod.fst e
  rw [this]; exact hf.next y hy
theorem sh_o (h : bs.map Bl.sh = l.map shB) (hf : Fit l) {b : Bl} (hb : b ∈ bs) {x : In} (hx : x ∈ b.is) {o : Lf} (ho : o ∈ x.o) : o.n ≤ 1048576 := by
  obtain ⟨y, hy, e⟩ := sh_mem h hb
  have e2 : b.is.map In.sh = y.f1.map shI := congrArg Prod.snd e
  have h3 : x.sh ∈ b.is.map In.sh := List.mem_map_of_mem hx
  rw [e2] at h3
  obtain ⟨z, hz, e3⟩ := List.mem_map.1 h3
  rcases List.mem_cons.1 ho with rfl | hm
  · have : z.f3.length = x.a.n := congrArg Prod.fst e3
    rw [← this]; exact hf.args y hy z hz
  · obtain ⟨t, ht, hm2⟩ := List.mem_flatMap.1 hm
    rw [List.mem_singleton.1 hm2]
    have e4 : (z.f7.map fun s => s.f2.length) = x.es.map fun e => e.s.n := congrArg Prod.snd e3
    have h5 : t.s.n ∈ x.es.map fun e => e.s.n := List.mem_map_of_mem (f := fun e : Ex => e.s.n) ht
    rw [← e4] at h5
    obtain ⟨s, hs, e6⟩ := List.mem_map.1 h5
    rw [← e6]; exact hf.slots y hy z hz s hs
end
/-- two answers of one shape -/
structure Two (T : List Co) : Prop where
  lb : (LB T).length ≤ 2097152
  li : (LI T).length ≤ 2097152
  le : (LE T).length ≤ 2097152
  lo : (LO T).length ≤ 4194304
  on : ∀ o ∈ LO T, o.n ≤ 1048576
  nn : ∀ b ∈ LB T, b.nx.n ≤ 1048576
theorem two_of {c1 c2 : Co} {l : List S43} (h1 : c1.bs.map Bl.sh = l.map shB) (h2 : c2.bs.map Bl.sh = l.map shB) (hf : Fit l) : Two [c1, c2] := by
  have h : (c1.bs ++ c2.bs).map Bl.sh = (l ++ l).map shB := by rw [List.map_append, List.map_append, h1, h2]
  have eB : LB [c1, c2] = c1.bs ++ c2.bs := by simp [LB]
  have f1 := hf.len
  have f2 := hf.ins
  have f3 := hf.ex
  have i1 := sh_ins h1
  have i2 := sh_ins h2
  have x1 := sh_ex h1
  have x2 := sh_ex h2
  have n1 := sh_len h1
  have n2 := sh_len h2
  have eI : LI [c1, c2] = c1.bs.flatMap Bl.is ++ c2.bs.flatMap Bl.is := by rw [LI, eB, List.flatMap_append]
  have hli : (LI [c1, c2]).length ≤ 2097152 := by rw [eI, List.length_append]; omega
  have hle : (LE [c1, c2]).length ≤ 2097152 := by rw [LE, eI, List.flatMap_append, List.length_append]; omega
  refine ⟨by rw [eB, List.length_append]; omega, hli, hle, ?_, ?_, ?_⟩
  · rw [LO, o_all]
    have : ((LI [c1, c2]).flatMap In.es).length ≤ 2097152 := hle
    omega
  · intro o ho
    obtain ⟨x, hx, hm⟩ := List.mem_flatMap.1 ho
    obtain ⟨b, hb, hm'⟩ := List.mem_flatMap.1 hx
    rw [eB] at hb
    rcases List.mem_append.1 hb with hb | hb
    · exact sh_o h1 hf hb hm' hm
    · exact sh_o h2 hf hb hm' hm
  · intro b hb
    rw [eB] at hb
    rcases List.mem_append.1 hb with hb | hb
    · exact sh_next h1 hf hb
    · exact sh_next h2 hf hb
end Go.Proofs.Ytjekpkpmoanadaa.Tree
-- written by a program of this session (leafprint.py, cutsec.py) over the translation; Lean checks it
namespace Go.Proofs.Ytjekpkpmoanadaa.PCop
open Go.RowKit Go.Proofs.YtjekpkpmoanadaaW.PrintWords Go.Proofs.YtjekpkpmoanadaaW.PrintLast Go.Proofs.YtjekpkpmoanadaaW.PrintMore
attribute [local go_sem] max2_int min2_int max_two min_two max_three min_three max_four min_four   -- for this text's walks alone
set_option linter.unusedVariables false
set_option linter.unusedSimpArgs false

attribute [local go_sem high] eqA49
/-! ### portagekit_markedOpnds: function 43 -/
mutual
def portagekit_markedOpnds.l0 : Nat → List (S49) → List (S49) → Int → Option ((List (S49)))
  | 0, _, _, _ => none
  | k + 1, x0, x3, x4 => if x4 < (x0.length : Int) then (if 0 ≤ x4 then (if x3.length < 8796093022208 then (portagekit_markedOpnds.l0 k x0 (x3 ++ [(⟨(rd_T49 x0 x4).f0, (rd_T49 x0 x4).f1⟩ : S49)]) (wrap64 (x4 + 1))) else (none)) else (none)) else (portagekit_markedOpnds.l1 k x3 0)
def portagekit_markedOpnds.l1 : Nat → List (S49) → Int → Option ((List (S49)))
  | 0, _, _ => none
  | k + 1, x3, x5 => if x5 < 16 then (if x3.length < 8796093022208 then (portagekit_markedOpnds.l1 k (x3 ++ [(⟨(-7), x5⟩ : S49)]) (wrap64 (x5 + 1))) else (none)) else (some x3)
end
def portagekit_markedOpnds.f (k : Nat) (l0 : List (S49)) : Option ((List (S49))) := portagekit_markedOpnds.l0 k l0 ([] : List (S49)) 0
theorem portagekit_markedOpnds.mono_l : ∀ k, (∀ y0 y1 y2, LeO (portagekit_markedOpnds.l0 k y0 y1 y2) (portagekit_markedOpnds.l0 (k + 1) y0 y1 y2)) ∧ (∀ y0 y1, LeO (portagekit_markedOpnds.l1 k y0 y1) (portagekit_markedOpnds.l1 (k + 1) y0 y1))
  | 0 => ⟨fun _ _ _ r h => by simp [portagekit_markedOpnds.l0] at h, fun _ _ r h => by simp [portagekit_markedOpnds.l1] at h⟩
  | k + 1 => by
    obtain ⟨ih0, ih1⟩ := portagekit_markedOpnds.mono_l k
    refine ⟨?_, ?_⟩
    · intro y0 y1 y2
      unfold portagekit_markedOpnds.l0
      repeat' first
      | (with_reducible exact ih0 _ _ _)
      | (with_reducible exact ih1 _ _)
      | (with_reducible exact LeO.refl _)
      | (with_reducible exact LeO.none _)
      | (with_reducible refine LeO.ite ?_ ?_)
      | (with_reducible refine LeO.bind ?_ (fun _ => ?_))
      | exact ih0 _ _ _
      | exact ih1 _ _
      | exact LeO.none _
      | refine LeO.ite ?_ ?_
      | refine LeO.bind ?_ (fun _ => ?_)
    · intro y0 y1
      unfold portagekit_markedOpnds.l1
      repeat' first
      | (with_reducible exact ih0 _ _ _)
      | (with_reducible exact ih1 _ _)
      | (with_reducible exact LeO.refl _)
      | (with_reducible exact LeO.none _)
      | (with_reducible refine LeO.ite ?_ ?_)
      | (with_reducible refine LeO.bind ?_ (fun _ => ?_))
      | exact ih0 _ _ _
      | exact ih1 _ _
      | exact LeO.none _
      | refine LeO.ite ?_ ?_
      | refine LeO.bind ?_ (fun _ => ?_)
theorem portagekit_markedOpnds.mono : ∀ a0 k, LeO (portagekit_markedOpnds.f k a0) (portagekit_markedOpnds.f (k + 1) a0) := by
  intro a0 k
  obtain ⟨ih0, ih1⟩ := portagekit_markedOpnds.mono_l k
  unfold portagekit_markedOpnds.f
  repeat' first
      | (with_reducible exact ih0 _ _ _)
      | (with_reducible exact ih1 _ _)
      | (with_reducible exact LeO.refl _)
      | (with_reducible exact LeO.none _)
      | (with_reducible refine LeO.ite ?_ ?_)
      | (with_reducible refine LeO.bind ?_ (fun _ => ?_))
      | exact ih0 _ _ _
      | exact ih1 _ _
      | exact LeO.none _
      | refine LeO.ite ?_ ?_
      | refine LeO.bind ?_ (fun _ => ?_)
set_option maxHeartbeats 8000000 in
set_option maxRecDepth 100000 in
theorem portagekit_markedOpnds.calls (k : Nat) (A0 : Option Addr) (c0 : Nat) (l0 : List (S49)) (r : List (S49)) (w : World) (hr0 : Kd.C k49 w A0 l0.length l0) (hc0 : l0.length ≤ c0) (h : portagekit_markedOpnds.f k l0 = some r) :
    Calls Try.prog 43 #[.slice A0 l0.length c0] w fun e w' => ∃ v0_ : Value, e = .returned (v0_) ∧ Kd.R k49 49 w' w.heap.size (fun _ => True) v0_ r ∧ Below w.heap.size w w' := by
  have hu49 := Try.underlying49
  have HR0 := Aside0.mk hr0
  have HC0 := Aside0.mk hc0
  clear hr0 hc0
  have HB := Aside0.mk (Below.refl w.heap.size w)
  have H : (portagekit_markedOpnds.l0 k l0 ([] : List (S49)) 0) = some r := h
  clear h
  have H' := Aside0.mk H
  clear H
  go_enter Try.func43, Try.ntmps43
  go_wp2
  go_loopg [3, 4] k (fun kq v3 v4 w' => ∃ (x3_1 : List (S49)) (x4_1 : Int), v4 = .int .i64 x4_1 ∧ Aside0 (portagekit_markedOpnds.l0 kq l0 x3_1 x4_1 = some r) ∧ Aside0 (kq ≤ k) ∧ Aside0 (Kd.R k49 49 w' w.heap.size (fun _ => True) v3 x3_1) ∧ Aside0 (Below w.heap.size w w'))
  case atStart => exact ⟨(([] : List (S49))), (0), (by first | rfl | (simp; done) | (simp [*]; done)), H', ⟨Nat.le_refl _⟩, ⟨by first | exact Kd.R_nil _ _ _ _ _ | exact Kd.N_nil _ _ _ _ _ | exact Kd.V_nil _ _ _ _ _ | exact Kd.Q_nil _ _ _ _ _ | exact Kd.S_nil _ _ _ _ _⟩, ⟨by repeat (first | (with_reducible first | exact HB.out | apply below_alloc | apply pw_below_drewN | apply below_drew1) | exact HB.out)⟩⟩
  case round =>
    clear H'
    obtain ⟨x3_1, x4_1, rfl, HA, HK1, HO_3, HB⟩ := hrel
    cases gk with
    | zero => exact absurd HA.out (by simp [portagekit_markedOpnds.l0])
    | succ k1 =>
      have H := HA.out
      clear HA
      simp only [portagekit_markedOpnds.l0] at H
      by_cases c2 : x4_1 < (l0.length : Int)
      · rw [if_pos c2] at H
        have c2b0 : decide (x4_1 < (l0.length : Int)) = true := decide_eq_true c2
        clear c2
        by_cases c3 : 0 ≤ x4_1
        · rw [if_pos c3] at H
          have c3b0 : decide (0 ≤ x4_1) = true := decide_eq_true c3
          clear c3
          by_cases c4 : x3_1.length < 8796093022208
          · rw [if_pos c4] at H
            have LMc4 := Aside0.mk c4
            clear c4
            obtain ⟨y205, hy205⟩ : ∃ y_ : List (S49), y_ = (x3_1 ++ [(⟨(rd_T49 l0 x4_1).f0, (rd_T49 l0 x4_1).f1⟩ : S49)]) := ⟨_, rfl⟩
            replace H : (portagekit_markedOpnds.l0 k1 l0 y205 (wrap64 (x4_1 + 1))) = some r := by first | (rw [hy205]; with_reducible exact H) | (have H2_ := (Option.bind_some _ _).symm.trans H; rw [hy205]; with_reducible exact H2_) | (have H2_ := (Option.bind_some _ _).symm.trans H; with_reducible exact H2_) | with_reducible exact H | (rw [hy205]; exact H) | exact H
            have Ny205 := Aside0.mk hy205
            clear hy205
            have H' := Aside0.mk H
            clear H
            have p204 : 0 ≤ (x4_1 : Int) := of_decide_eq_true (by first | (with_reducible assumption) | assumption)
            have q204 : x4_1 < (l0.length : Int) := of_decide_eq_true (by first | (with_reducible assumption) | assumption)
            obtain ⟨ad204, e204, hx204_0, hx204_1⟩ := at_T49 HR0.out x4_1 p204 q204
            cases e204
            replace hx204_0 := (HB.out.cell (World.block_lt_of_cell? w _ hx204_0)).trans hx204_0
            replace hx204_1 := (HB.out.cell (World.block_lt_of_cell? w _ hx204_1)).trans hx204_1
            replace p204 := eq_true p204
            replace q204 := eq_true q204
            go_wp2_with (first | ((with_reducible refine gate_builtin (b := .append) (xs := #[.tmp 12, .tmp 17]) rfl ?_); at_builtin; refine Kd.R_append k49 (w0 := w) w.heap.size rfl (.tmp 12) (.tmp 17) 44 49 (.agg #[(.int .i64 0), (.int .i64 0)]) 16 rfl Try.underlying44 info49 rfl (by decide) (by omega) u3 x3_1 (⟨(rd_T49 l0 x4_1).f0, (rd_T49 l0 x4_1).f1⟩ : S49) [.int .i64 ((rd_T49 l0 x4_1).f0), .int .i64 ((rd_T49 l0 x4_1).f1)] (fun _ => True) (fun _ => False) rfl rfl ?aP (fun _ hk => hk.elim) ?aF ?aO ?aB ?aS ?aL ?_; (case aP => exact k49_mkM _ _ _ (⟨(rd_T49 l0 x4_1).f0, (rd_T49 l0 x4_1).f1⟩ : S49)); (case aB => exact (by repeat (first | (with_reducible first | exact HB.out | apply below_alloc | apply pw_below_drewN | apply below_drew1) | exact HB.out))); (case aF => exact (fun _ _ => trivial)); (case aO => exact (by (with_reducible repeat (first | apply Kd.R_alloc | apply Kd.R_drewN | apply Kd.R_drew)); exact HO_3.out)); (case aS => exact (below_size (by repeat (first | (with_reducible first | exact HB.out | apply below_alloc | apply pw_below_drewN | apply below_drew1) | exact HB.out)))); (case aL => have := LMc4.out; omega); intro v206 w5 ho hb hg hat; rw [← Ny205.out] at ho; have n0_ := Aside0.mk (hb); have n1_ := Aside0.mk (ho); clear HB; clear HO_3; have HB := n0_; have HO207 := n1_; clear n0_ n1_; clear ho hb hg hat))
            go_roundg k1
            case measure => have := HK1.out; omega
            case rel => exact ⟨(y205), (wrap64 (x4_1 + 1)), (by first | rfl | (simp; done) | (simp [*]; done)), H', ⟨by have := HK1.out; omega⟩, ⟨by (with_reducible repeat (first | apply Kd.R_alloc | apply Kd.R_drewN | apply Kd.R_drew)); exact HO207.out⟩, ⟨by repeat (first | (with_reducible first | exact HB.out | apply below_alloc | apply pw_below_drewN | apply below_drew1) | exact HB.out)⟩⟩
          · rw [if_neg c4] at H
            exact absurd H (by simp)
        · rw [if_neg c3] at H
          exact absurd H (by simp)
      · rw [if_neg c2] at H
        have c2b0 : decide (x4_1 < (l0.length : Int)) = false := decide_eq_false c2
        clear c2
        have H' := Aside0.mk H
        clear H
        go_wp2
        go_loopg [3, 5] k1 (fun kq v3 v5 w' => ∃ (x3_2 : List (S49)) (x5_2 : Int), v5 = .int .i64 x5_2 ∧ Aside0 (portagekit_markedOpnds.l1 kq x3_2 x5_2 = some r) ∧ Aside0 (kq ≤ k1) ∧ Aside0 (Kd.R k49 49 w' w.heap.size (fun _ => True) v3 x3_2) ∧ Aside0 (Below w.heap.size w w'))
        case atStart => exact ⟨(x3_1), (0), (by first | rfl | (simp; done) | (simp [*]; done)), H', ⟨Nat.le_refl _⟩, ⟨by (with_reducible repeat (first | apply Kd.R_alloc | apply Kd.R_drewN | apply Kd.R_drew)); exact HO_3.out⟩, ⟨by repeat (first | (with_reducible first | exact HB.out | apply below_alloc | apply pw_below_drewN | apply below_drew1) | exact HB.out)⟩⟩
        case round =>
          clear H'
          try clear c2
          try clear c2b0
          try clear p2
          try clear q2
          try clear hx2
          try clear c3
          try clear c3b0
          try clear c4
          try clear hx204_0
          try clear hx204_1
          try clear p204
          try clear q204
          obtain ⟨x3_2, x5_2, rfl, HA, HK2, HO_3, HB⟩ := hrel
          cases gk with
          | zero => exact absurd HA.out (by simp [portagekit_markedOpnds.l1])
          | succ k2 =>
            have H := HA.out
            clear HA
            simp only [portagekit_markedOpnds.l1] at H
            by_cases c6 : x5_2 < 16
            · rw [if_pos c6] at H
              have c6b0 : decide (x5_2 < 16) = true := decide_eq_true c6
              clear c6
              by_cases c7 : x3_2.length < 8796093022208
              · rw [if_pos c7] at H
                have LMc7 := Aside0.mk c7
                clear c7
                obtain ⟨y208, hy208⟩ : ∃ y_ : List (S49), y_ = (x3_2 ++ [(⟨(-7), x5_2⟩ : S49)]) := ⟨_, rfl⟩
                replace H : (portagekit_markedOpnds.l1 k2 y208 (wrap64 (x5_2 + 1))) = some r := by first | (rw [hy208]; with_reducible exact H) | (have H2_ := (Option.bind_some _ _).symm.trans H; rw [hy208]; with_reducible exact H2_) | (have H2_ := (Option.bind_some _ _).symm.trans H; with_reducible exact H2_) | with_reducible exact H | (rw [hy208]; exact H) | exact H
                have Ny208 := Aside0.mk hy208
                clear hy208
                have H' := Aside0.mk H
                clear H
                go_wp2_with (first | ((with_reducible refine gate_builtin (b := .append) (xs := #[.tmp 23, .tmp 26]) rfl ?_); at_builtin; refine Kd.R_append k49 (w0 := w) w.heap.size rfl (.tmp 23) (.tmp 26) 44 49 (.agg #[(.int .i64 0), (.int .i64 0)]) 16 rfl Try.underlying44 info49 rfl (by decide) (by omega) u3 x3_2 (⟨(-7), x5_2⟩ : S49) [.int .i64 (-7), .int .i64 x5_2] (fun _ => True) (fun _ => False) rfl rfl ?aP (fun _ hk => hk.elim) ?aF ?aO ?aB ?aS ?aL ?_; (case aP => exact k49_mkM _ _ _ (⟨(-7), x5_2⟩ : S49)); (case aB => exact (by repeat (first | (with_reducible first | exact HB.out | apply below_alloc | apply pw_below_drewN | apply below_drew1) | exact HB.out))); (case aF => exact (fun _ _ => trivial)); (case aO => exact (by (with_reducible repeat (first | apply Kd.R_alloc | apply Kd.R_drewN | apply Kd.R_drew)); exact HO_3.out)); (case aS => exact (below_size (by repeat (first | (with_reducible first | exact HB.out | apply below_alloc | apply pw_below_drewN | apply below_drew1) | exact HB.out)))); (case aL => have := LMc7.out; omega); intro v209 w8 ho hb hg hat; rw [← Ny208.out] at ho; have n0_ := Aside0.mk (hb); have n1_ := Aside0.mk (ho); clear HB; clear HO_3; have HB := n0_; have HO210 := n1_; clear n0_ n1_; clear ho hb hg hat))
                go_roundg k2
                case measure => have := HK1.out; have := HK2.out; omega
                case rel => exact ⟨(y208), (wrap64 (x5_2 + 1)), (by first | rfl | (simp; done) | (simp [*]; done)), H', ⟨by have := HK1.out; have := HK2.out; omega⟩, ⟨by (with_reducible repeat (first | apply Kd.R_alloc | apply Kd.R_drewN | apply Kd.R_drew)); exact HO210.out⟩, ⟨by repeat (first | (with_reducible first | exact HB.out | apply below_alloc | apply pw_below_drewN | apply below_drew1) | exact HB.out)⟩⟩
              · rw [if_neg c7] at H
                exact absurd H (by simp)
            · rw [if_neg c6] at H
              have c6b0 : decide (x5_2 < 16) = false := decide_eq_false c6
              clear c6
              obtain rfl := Option.some.inj H
              go_wp2
              go_ret
              exact ⟨_, by first | rfl | (simp [errW_none, errW_some] <;> rfl) | (simp [*, errW_none, errW_some] <;> rfl), by (with_reducible repeat (first | apply Kd.R_alloc | apply Kd.R_drewN | apply Kd.R_drew)); exact HO_3.out, by repeat (first | (with_reducible first | exact HB.out | apply below_alloc | apply pw_below_drewN | apply below_drew1) | exact HB.out)⟩

-- NOT PRINTED: function 44 (portagekit_Handed_handShapes)

-- NOT PRINTED: function 26 (portagekit_Handed_handBlock)

end Go.Proofs.Ytjekpkpmoanadaa.PCop
