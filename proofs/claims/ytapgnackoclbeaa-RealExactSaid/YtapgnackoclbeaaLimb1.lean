import Derived.Test.YtapgnackoclbeaaPRealx5
import Derived.Test.YtapgnackoclbeaaFlE
set_option linter.unusedSimpArgs false
set_option linter.unusedVariables false
namespace Go.Proofs.Ytapgnackoclbeaa.PReal
open Go.RowKit Go.Proofs.Ytapgnackoclbeaa.Fl Go.Proofs.YtapgnackoclbeaaW.PrintWords Go.Proofs.YtapgnackoclbeaaW.PrintLast Go.Proofs.YtapgnackoclbeaaW.PrintMore

/-- the number of a list of limbs -/
def lv : List Int → Nat
  | [] => 0
  | x :: t => x.toNat + 4294967296 * lv t
def Ok (l : List Int) : Prop := ∀ x ∈ l, 0 ≤ x ∧ x < 4294967296
/-- a number's list -/
def big (n : Nat) : List Int := if h : n = 0 then [] else ((n % 4294967296 : Nat) : Int) :: big (n / 4294967296)
termination_by n
decreasing_by omega

theorem big_zero : big 0 = [] := by unfold big; rfl
theorem big_pos {n : Nat} (h : n ≠ 0) : big n = ((n % 4294967296 : Nat) : Int) :: big (n / 4294967296) := by
  rw [big, dif_neg h]
theorem big_ok (n : Nat) : Ok (big n) := by
  induction n using Nat.strongRecOn with
  | ind n ih =>
    by_cases h : n = 0
    · subst h; rw [big_zero]; intro x hx; cases hx
    · rw [big_pos h]
      intro x hx
      rcases List.mem_cons.mp hx with rfl | hx
      · omega
      · exact ih _ (by omega) x hx
theorem lv_big (n : Nat) : lv (big n) = n := by
  induction n using Nat.strongRecOn with
  | ind n ih =>
    by_cases h : n = 0
    · subst h; rw [big_zero]; rfl
    · rw [big_pos h, lv, ih _ (by omega), Int.toNat_natCast]; omega
theorem Ok.tail {x : Int} {t : List Int} (h : Ok (x :: t)) : Ok t := fun y hy => h y (List.mem_cons_of_mem _ hy)
theorem Ok.head {x : Int} {t : List Int} (h : Ok (x :: t)) : 0 ≤ x ∧ x < 4294967296 := h x (List.mem_cons_self ..)
theorem Ok.append {l : List Int} {x : Int} (h : Ok l) (h0 : 0 ≤ x) (h1 : x < 4294967296) : Ok (l ++ [x]) := by
  intro y hy
  rcases List.mem_append.mp hy with hy | hy
  · exact h y hy
  · rw [List.mem_singleton] at hy; subst hy; exact ⟨h0, h1⟩
theorem Ok.nil : Ok [] := fun x hx => by cases hx
/-- a list whose last is not 0 is its number's -/
theorem big_of {l : List Int} (h : Ok l) (hl : l = [] ∨ ∃ t x, l = t ++ [x] ∧ x ≠ 0) : big (lv l) = l := by
  induction l with
  | nil => rw [lv, big_zero]
  | cons x t ih =>
    have hx := h.head
    have ht : big (lv t) = t := by
      apply ih h.tail
      by_cases he : t = []
      · left; exact he
      · right
        rcases hl with hl | ⟨t', y, hl, hy⟩
        · cases hl
        · cases t' with
          | nil => simp at hl; exact absurd hl.2 he
          | cons z t'' => simp at hl; exact ⟨t'', y, hl.2, hy⟩
    have hn : lv (x :: t) ≠ 0 := by
      intro h0
      rw [lv] at h0
      have h1 : x.toNat = 0 := by omega
      have h2 : lv t = 0 := by omega
      rw [h2, big_zero] at ht
      subst ht
      rcases hl with hl | ⟨t', y, hl, hy⟩
      · cases hl
      · cases t' with
        | nil => simp at hl; omega
        | cons z t'' => simp at hl
    rw [big_pos hn, lv]
    have e1 : (x.toNat + 4294967296 * lv t) % 4294967296 = x.toNat := by omega
    have e2 : (x.toNat + 4294967296 * lv t) / 4294967296 = lv t := by omega
    rw [e1, e2, ht, Int.toNat_of_nonneg hx.1]
theorem lv_append (l : List Int) (x : Int) : lv (l ++ [x]) = lv l + 2^(32 * l.length) * x.toNat := by
  induction l with
  | nil => simp [lv]
  | cons y t ih =>
    rw [List.cons_append, lv, lv, ih, List.length_cons, show 32 * (t.length + 1) = 32 * t.length + 32 by omega, Nat.pow_add]
    rw [Nat.mul_add, Nat.add_assoc]
    congr 2
    rw [show (2:Nat)^32 = 4294967296 from rfl]
    simp only [Nat.mul_assoc, Nat.mul_comm, Nat.mul_left_comm]
theorem lv_lt {l : List Int} (h : Ok l) : lv l < 2^(32 * l.length) := by
  induction l with
  | nil => simp [lv]
  | cons x t ih =>
    have hx := h.head
    have := ih h.tail
    rw [lv, List.length_cons, show 32 * (t.length + 1) = 32 * t.length + 32 by omega, Nat.pow_add, show (2:Nat)^32 = 4294967296 from rfl]
    omega
/-- a limb -/
def limb (n i : Nat) : Nat := n / 2^(32 * i) % 4294967296
theorem limb_lt (n i : Nat) : limb n i < 4294967296 := Nat.mod_lt _ (by omega)
theorem getD_lv {l : List Int} (h : Ok l) (i : Nat) : l.getD i 0 = (limb (lv l) i : Nat) := by
  induction l generalizing i with
  | nil => simp [lv, limb]
  | cons x t ih =>
    have hx := h.head
    cases i with
    | zero =>
      simp only [List.getD_cons_zero, lv, limb, Nat.mul_zero, Nat.pow_zero, Nat.div_one]
      omega
    | succ i =>
      rw [List.getD_cons_succ, ih h.tail i, lv]
      unfold limb
      congr 2
      rw [show 32 * (i+1) = 32 + 32 * i by omega, Nat.pow_add, ← Nat.div_div_eq_div_mul, show (2:Nat)^32 = 4294967296 from rfl]
      congr 1; omega
theorem rd_big (n : Nat) (i : Nat) : rd (big n) (i : Int) = (limb n i : Nat) := by
  unfold rd
  rw [Int.toNat_natCast, getD_lv (big_ok n), lv_big]
theorem len_lt (n : Nat) : n < 2^(32 * (big n).length) := by
  have := lv_lt (big_ok n); rwa [lv_big] at this
theorem len_le {n L : Nat} (h : n < 2^(32*L)) : (big n).length ≤ L := by
  induction L generalizing n with
  | zero =>
    have : n = 0 := by simpa using h
    subst this; rw [big_zero]; simp
  | succ L ih =>
    by_cases h0 : n = 0
    · subst h0; rw [big_zero]; simp
    · rw [big_pos h0, List.length_cons]
      have := @ih (n / 4294967296) (by
        rw [Nat.div_lt_iff_lt_mul (by omega)]
        rw [show 32 * (L+1) = 32 * L + 32 by omega, Nat.pow_add] at h
        exact h)
      omega
theorem len_pos {n : Nat} : (big n).length = 0 ↔ n = 0 := by
  constructor
  · intro h
    have := len_lt n
    rw [h] at this; simpa using this
  · rintro rfl; rw [big_zero]; rfl
theorem len_mono {a b : Nat} (h : a ≤ b) : (big a).length ≤ (big b).length := len_le (Nat.lt_of_le_of_lt h (len_lt b))
theorem mod_limb (n i : Nat) : n % 2^(32*(i+1)) = n % 2^(32*i) + 2^(32*i) * limb n i := by
  rw [show 32 * (i+1) = 32*i + 32 by omega, Nat.pow_add, Nat.mod_mul]; rfl
theorem limb_big {n i : Nat} (h : (big n).length ≤ i) : limb n i = 0 := by
  unfold limb
  rw [Nat.div_eq_of_lt]
  exact Nat.lt_of_lt_of_le (len_lt n) (Nat.pow_le_pow_right (by omega) (by omega))
theorem mod_big {n i : Nat} (h : (big n).length ≤ i) : n % 2^(32*i) = n :=
  Nat.mod_eq_of_lt (Nat.lt_of_lt_of_le (len_lt n) (Nat.pow_le_pow_right (by omega) (by omega)))

/-! the kinds' wraps -/
theorem u64_w {x : Int} (h0 : 0 ≤ x) (h1 : x < 18446744073709551616) : IntKind.u64.wrap x = x := by
  simp only [IntKind.wrap, IntKind.signed, IntKind.bits]
  simp
  omega
theorem w64 {x : Int} (h0 : -9223372036854775808 ≤ x) (h1 : x < 9223372036854775808) : wrap64 x = x := by
  unfold wrap64; omega
theorem and32 (n : Nat) (h : n < 2^64) : Go.bits .and .u64 (n : Int) 4294967295 = (n % 4294967296 : Nat) := by
  have := bits_and_u64_nat n 4294967295 (by omega) (by omega)
  rw [show ((4294967295 : Nat) : Int) = 4294967295 from rfl] at this
  rw [this]
  have h2 : n &&& 4294967295 = n % 2^32 := Nat.and_two_pow_sub_one_eq_mod n 32
  rw [h2]

/-! Trim, List -/
theorem trim_l0 {l : List Int} (hok : Ok l) (hlen : l.length < 9223372036854775807) : ∀ (j : Nat), j ≤ l.length → lv (l.take j) = lv l → ∀ k, j < k →
    portageref03_Trim.l0 k l (j : Int) = some (big (lv l)) := by
  intro j
  induction j with
  | zero =>
    intro _ hv k hk
    obtain ⟨k, rfl⟩ : ∃ m, k = m + 1 := ⟨k-1, by omega⟩
    simp only [portageref03_Trim.l0]
    rw [if_neg (by omega), if_pos (by omega), if_pos (by omega)]
    rw [← hv]; simp [lv, big_zero]
  | succ j ih =>
    intro hj hv k hk
    obtain ⟨k, rfl⟩ : ∃ m, k = m + 1 := ⟨k-1, by omega⟩
    simp only [portageref03_Trim.l0]
    rw [w64 (by omega) (by omega), show ((j+1 : Nat) : Int) - 1 = (j : Nat) by omega]
    rw [if_pos (by omega), if_pos (by omega), if_pos (by omega)]
    have hrd : rd l (j : Int) = l[j] := by
      unfold rd; rw [Int.toNat_natCast, List.getD_eq_getElem?_getD, List.getElem?_eq_getElem (by omega)]; rfl
    have htk : l.take (j+1) = l.take j ++ [l[j]] := by
      rw [List.take_succ_eq_append_getElem (by omega)]
    rw [hrd]
    by_cases h0 : l[j] = 0
    · rw [if_pos h0]
      apply ih (by omega) _ k (by omega)
      rw [← hv, htk, lv_append, h0]; simp
    · rw [if_neg h0, if_pos (by omega), if_pos (by omega), Int.toNat_natCast, ← hv]
      rw [big_of]
      · intro x hx; exact hok x (List.mem_of_mem_take hx)
      · right; exact ⟨_, _, htk, h0⟩
theorem trim_ev {l : List Int} (hok : Ok l) (hlen : l.length < 9223372036854775807) : Ev (fun k => portageref03_Trim.f k l) (big (lv l)) := by
  refine ⟨l.length + 1, fun k hk => ?_⟩
  unfold portageref03_Trim.f
  exact trim_l0 hok hlen l.length (Nat.le_refl _) (by rw [List.take_length]) k (by omega)
theorem list_ev (a : Nat) (h : a < 2^64) : Ev (fun k => portageref03_List.f k (a : Int)) (big a) := by
  have h1 : Go.bits .and .u64 (a : Int) 4294967295 = (a % 4294967296 : Nat) := and32 a h
  have h2 : (a : Int) / 4294967296 = ((a / 4294967296 : Nat) : Int) := by omega
  have hok : Ok [((a % 4294967296 : Nat) : Int), ((a / 4294967296 : Nat) : Int)] := by
    intro x hx
    simp at hx
    rcases hx with rfl | rfl <;> omega
  have hv : lv [((a % 4294967296 : Nat) : Int), ((a / 4294967296 : Nat) : Int)] = a := by simp [lv]; omega
  have := trim_ev hok (by simp)
  rw [hv] at this
  refine Ev.congr (fun k => ?_) this
  unfold portageref03_List.f
  rw [h1, h2]
  cases portageref03_Trim.f k _ <;> rfl
end Go.Proofs.Ytapgnackoclbeaa.PReal
