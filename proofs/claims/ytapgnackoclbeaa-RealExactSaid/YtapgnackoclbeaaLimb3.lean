import Derived.Test.YtapgnackoclbeaaLimb2
set_option linter.unusedSimpArgs false
set_option linter.unusedVariables false
namespace Go.Proofs.Ytapgnackoclbeaa.PReal
open Go.RowKit Go.Proofs.Ytapgnackoclbeaa.Fl Go.Proofs.YtapgnackoclbeaaW.PrintWords Go.Proofs.YtapgnackoclbeaaW.PrintLast Go.Proofs.YtapgnackoclbeaaW.PrintMore

theorem shr_nat (x t : Nat) (ht : t < 32) : shr .u64 (x : Int) ((t : Nat) : Int) = ((x / 2^t : Nat) : Int) := by
  unfold shr
  rw [Int.toNat_natCast, show min t IntKind.u64.bits = t from Nat.min_eq_left (by simp [IntKind.bits]; omega)]
  push_cast; rfl
theorem and1 (n : Nat) (h : n < 2^64) : Go.bits .and .u64 (n : Int) 1 = (n % 2 : Nat) := by
  have := bits_and_u64_nat n 1 (by omega) (by omega)
  rw [show ((1 : Nat) : Int) = 1 from rfl] at this
  rw [this]
  have h2 : n &&& 1 = n % 2^1 := Nat.and_two_pow_sub_one_eq_mod n 1
  rw [h2]

/-! Down -/
theorem limb_shift (a q t j : Nat) (ht : t < 32) : (limb a (q+j) + limb a (q+j+1) * 4294967296) / 2^t % 4294967296 = limb (a / 2^(32*q+t)) j := by
  have hP : 2^t * 2^(32-t) = 4294967296 := by
    rw [← Nat.pow_add, show t + (32 - t) = 32 by omega]
  have hPp := Nat.two_pow_pos t
  have e1 : limb a (q+j) + limb a (q+j+1) * 4294967296 = a / 2^(32*(q+j)) % (4294967296 * 4294967296) := by
    unfold limb
    rw [Nat.mod_mul, show 32*(q+j+1) = 32*(q+j)+32 by omega, Nat.pow_add, ← Nat.div_div_eq_div_mul, show (2:Nat)^32 = 4294967296 from rfl, Nat.mul_comm 4294967296]
  rw [e1]
  unfold limb
  rw [Nat.div_div_eq_div_mul, ← Nat.pow_add, show 32*q+t+32*j = 32*(q+j)+t by omega, Nat.pow_add, ← Nat.div_div_eq_div_mul]
  generalize a / 2^(32*(q+j)) = z
  -- (z % (W*W)) / P % W = z / P % W
  have e2 : z = z % (4294967296 * 4294967296) + 2^t * (2^(32-t) * 4294967296 * (z / (4294967296 * 4294967296))) := by
    have := Nat.mod_add_div z (4294967296 * 4294967296)
    rw [← Nat.mul_assoc, ← Nat.mul_assoc, hP]
    omega
  conv => rhs; rw [e2, Nat.add_mul_div_left _ _ hPp]
  rw [Nat.mul_assoc, Nat.mul_left_comm, Nat.add_mul_mod_self_left]
theorem down_l0 (a q t : Nat) (s : Int) (ht : t < 32) (hs : Int.tmod s 32 = t) (ha : Sh a) :
    ∀ (d j : Nat), q + j + d = max (big a).length q → ∀ (x5 : List Int), Ok x5 → x5.length = j → lv x5 = a / 2^(32*q+t) % 2^(32*j) → q ≤ 1000000 →
    Ev (fun k => portageref03_Down.l0 k (big a) s x5 ((q + j : Nat) : Int)) (big (a / 2^(32*q+t))) := by
  have hL : (big a).length ≤ 1000000 := ha
  have hu : IntKind.u64.wrap (t : Int) = (t : Nat) := u64_w (by omega) (by omega)
  intro d
  induction d with
  | zero =>
    intro j hj x5 hok hlen hv hq
    have htr := trim_ev hok (by omega)
    have hval : lv x5 = a / 2^(32*q+t) := by
      rw [hv, Nat.mod_eq_of_lt]
      have hal := len_lt a
      rw [Nat.div_lt_iff_lt_mul (Nat.two_pow_pos _), ← Nat.pow_add]
      exact Nat.lt_of_lt_of_le hal (Nat.pow_le_pow_right (by omega) (by omega))
    rw [hval] at htr
    refine ev_next (fun k => ?_) htr
    simp only [portageref03_Down.l0]
    rw [if_neg (by omega)]
    cases portageref03_Trim.f k _ <;> rfl
  | succ d ih =>
    intro j hj x5 hok hlen hv hq
    have hl1 := limb_lt a (q+j)
    have hl2 := limb_lt a (q+j+1)
    obtain ⟨S, hS⟩ : ∃ S, S = limb a (q+j) + limb a (q+j+1) * 4294967296 := ⟨_, rfl⟩
    have hS64 : S < 2^64 := by omega
    have hsh := limb_shift a q t j ht
    rw [← hS] at hsh
    have hdiv : S / 2^t ≤ S := Nat.div_le_self _ _
    have := ih (j+1) (by omega) (x5 ++ [((S / 2^t % 4294967296 : Nat) : Int)]) (hok.append (by omega) (by omega)) (by rw [List.length_append, hlen]; rfl) (by
      rw [lv_append, hlen, Int.toNat_natCast, hsh, mod_limb, hv]) hq
    refine ev_next (fun k => ?_) this
    simp only [portageref03_Down.l0]
    rw [if_pos (by omega), if_pos (by omega), w64 (by omega) (by omega), hs, hu]
    by_cases h1 : q + j + 1 < (big a).length
    · rw [if_pos (by omega), if_pos (by omega), if_pos (by omega), if_pos (by omega), rd_big, show ((q + j : Nat) : Int) + 1 = ((q + j + 1 : Nat) : Int) by omega, rd_big, u64_w (x := (limb a (q+j+1) : Int) * 4294967296) (by omega) (by omega), u64_w (by omega) (by omega)]
      rw [show (limb a (q+j) : Int) + (limb a (q+j+1) : Nat) * 4294967296 = (S : Nat) by omega, shr_nat S t ht, and32 _ (by omega)]; rfl
    · have hz := limb_big (n := a) (i := q+j+1) (by omega)
      rw [if_neg (by omega), if_pos (by omega), if_pos (by omega), rd_big]
      rw [show (limb a (q+j) : Int) = (S : Nat) by omega, shr_nat S t ht, and32 _ (by omega), show ((q + j : Nat) : Int) + 1 = ((q + j + 1 : Nat) : Int) by omega]; rfl
theorem down_ev (a n : Nat) (ha : Sh a) (hn : n ≤ 1000000) : Ev (fun k => portageref03_Down.f k (big a) (n : Int)) (big (a / 2^n)) := by
  have h1 : Int.tdiv (n : Int) 32 = ((n / 32 : Nat) : Int) := rfl
  have h2 : Int.tmod (n : Int) 32 = ((n % 32 : Nat) : Int) := rfl
  have := down_l0 a (n/32) (n%32) n (by omega) h2 ha (max (big a).length (n/32) - n/32) 0 (by omega) [] Ok.nil rfl (by simp [lv, Nat.mod_one]) (by omega)
  rw [show 32 * (n/32) + n % 32 = n by omega] at this
  refine Ev.congr (fun k => ?_) this
  unfold portageref03_Down.f
  rw [h1, w64 (by omega) (by omega)]; rfl

/-! Bits -/
def bl (n : Nat) : Nat := if n = 0 then 0 else n.log2 + 1
theorem bl_half {n : Nat} (h : n ≠ 0) : bl n = bl (n/2) + 1 := by
  unfold bl
  rw [if_neg h]
  by_cases h1 : n / 2 = 0
  · rw [if_pos h1]
    have : n = 1 := by omega
    subst this; rfl
  · rw [if_neg h1, Nat.log2_def, if_pos (by omega)]
theorem bits_l0 (x : Nat) : ∀ (n : Nat), n + bl x < 1000000000 → Ev (fun k => portageref03_Bits.l0 k (n : Int) (x : Int)) ((n + bl x : Nat) : Int) := by
  induction x using Nat.strongRecOn with
  | ind x ih =>
    intro n hn
    by_cases h : x = 0
    · subst h
      refine ⟨1, fun k hk => ?_⟩
      obtain ⟨k, rfl⟩ : ∃ m, k = m + 1 := ⟨k-1, by omega⟩
      simp only [portageref03_Bits.l0]
      rw [if_neg (by omega)]; rfl
    · have hb := bl_half h
      have := ih (x/2) (by omega) (n+1) (by omega)
      rw [show n + 1 + bl (x/2) = n + bl x by omega] at this
      refine ev_next (fun k => ?_) this
      simp only [portageref03_Bits.l0]
      rw [if_pos (by omega), w64 (by omega) (by omega)]; rfl
theorem bl_lt {n k : Nat} (h : n < 2^k) : bl n ≤ k := by
  unfold bl; split
  · omega
  · rename_i h0
    have := (Nat.log2_lt h0).mpr h; omega
theorem lt_bl (n : Nat) : n < 2^(bl n) := by
  unfold bl; split
  · rename_i h; subst h; simp
  · exact Nat.lt_log2_self
theorem bl_ge {n : Nat} (h : n ≠ 0) : 2^(bl n - 1) ≤ n := by
  unfold bl; rw [if_neg h]; exact Nat.log2_self_le h
theorem bl_top {a p : Nat} (h : a / 2^p ≠ 0) : bl a = p + bl (a / 2^p) := by
  have h0 : a ≠ 0 := by intro h1; rw [h1] at h; simp at h
  have l1 := lt_bl (a / 2^p)
  have l2 := bl_ge h
  have hb : bl (a/2^p) ≠ 0 := by unfold bl; rw [if_neg h]; omega
  have u1 : a < 2^(p + bl (a/2^p)) := by
    rw [Nat.div_lt_iff_lt_mul (Nat.two_pow_pos p), ← Nat.pow_add] at l1
    rw [Nat.add_comm p]; exact l1
  have u2 : 2^(p + bl (a/2^p) - 1) ≤ a := by
    rw [Nat.le_div_iff_mul_le (Nat.two_pow_pos p), ← Nat.pow_add] at l2
    rw [show p + bl (a/2^p) - 1 = bl (a/2^p) - 1 + p by omega]; exact l2
  have v1 := bl_lt u1
  have v2 := Nat.lt_of_le_of_lt u2 (lt_bl a)
  have := (Nat.pow_lt_pow_iff_right (a := 2) (by omega)).mp v2
  omega
theorem bits_ev (a : Nat) (ha : Sh a) : Ev (fun k => portageref03_Bits.f k (big a)) ((bl a : Nat) : Int) := by
  have hL : (big a).length ≤ 1000000 := ha
  by_cases h0 : a = 0
  · subst h0
    refine ⟨0, fun k _ => ?_⟩
    unfold portageref03_Bits.f
    simp only
    rw [big_zero, if_pos (by simp)]; rfl
  · have hl : (big a).length ≠ 0 := fun h => h0 (len_pos.mp h)
    obtain ⟨L, hL2⟩ : ∃ L, (big a).length = L + 1 := ⟨(big a).length - 1, by omega⟩
    have htop : a / 2^(32*L) ≠ 0 := by
      intro h
      have : a < 2^(32*L) := by
        by_cases hh : a < 2^(32*L)
        · exact hh
        · have := Nat.div_pos (show 2^(32*L) ≤ a by omega) (Nat.two_pow_pos _); omega
      have := len_le this; omega
    have htl : a / 2^(32*L) < 4294967296 := by
      rw [Nat.div_lt_iff_lt_mul (Nat.two_pow_pos _)]
      have := len_lt a
      rw [hL2, show 32 * (L+1) = 32 + 32*L by omega, Nat.pow_add] at this
      exact this
    have hlimb : limb a L = a / 2^(32*L) := by unfold limb; exact Nat.mod_eq_of_lt htl
    have hb32 : bl (a/2^(32*L)) ≤ 32 := bl_lt htl
    have hbt := bl_top htop
    have := bits_l0 (a / 2^(32*L)) (32*L) (by omega)
    rw [← hbt] at this
    refine Ev.congr (fun k => ?_) this
    unfold portageref03_Bits.f
    rw [if_neg (by omega), w64 (by omega) (by omega), show ((big a).length : Int) - 1 = (L : Nat) by omega, if_pos (by omega), if_pos (by omega), rd_big, hlimb, w64 (by omega) (by omega)]
    rfl

/-! Small, Bit, Beneath -/
theorem small_eq (a : Nat) (h : a < 2^64) : portageref03_Small.f (big a) = some (a : Int) := by
  have hl2 : (big a).length ≤ 2 := len_le h
  unfold portageref03_Small.f
  have hr0 : rd (big a) 0 = (limb a 0 : Nat) := rd_big a 0
  have hr1 : rd (big a) 1 = (limb a 1 : Nat) := rd_big a 1
  have h0 : limb a 0 = a % 4294967296 := by unfold limb; simp
  have h1 : limb a 1 = a / 4294967296 := by unfold limb; rw [show 2^(32*1) = 4294967296 from rfl]; omega
  by_cases c0 : (big a).length = 0
  · have := len_pos.mp c0
    subst this
    rw [if_neg (by omega), if_neg (by omega)]; rfl
  · by_cases c1 : (big a).length = 1
    · have hlt : a < 2^(32*1) := by rw [← c1]; exact len_lt a
      rw [if_pos (by omega), if_pos (by omega), if_neg (by omega), hr0, h0]
      congr 1; omega
    · rw [if_pos (by omega), if_pos (by omega), if_pos (by omega), if_pos (by omega), hr0, hr1, h0, h1]
      congr 1
      rw [u64_w (x := ((a / 4294967296 : Nat) : Int) * 4294967296) (by omega) (by omega), u64_w (by omega) (by omega)]; omega
theorem bit_div (a n : Nat) : limb a (n/32) / 2^(n%32) % 2 = a / 2^n % 2 := by
  have h := Nat.testBit_eq_decide_div_mod_eq (x := a) (i := n)
  have h2 := Nat.testBit_eq_decide_div_mod_eq (x := limb a (n/32)) (i := n%32)
  have h3 : (limb a (n/32)).testBit (n%32) = a.testBit n := by
    unfold limb
    rw [show (4294967296 : Nat) = 2^32 from rfl, Nat.testBit_mod_two_pow, Nat.testBit_div_two_pow]
    rw [show decide (n % 32 < 32) = true by simp; omega, Bool.true_and]
    congr 1; omega
  rw [h3, h] at h2
  have := decide_eq_decide.mp h2
  omega
theorem bit_eq (a n : Nat) (ha : Sh a) (hn : n ≤ 100000000) : portageref03_Bit.f (big a) (n : Int) = some ((a / 2^n % 2 : Nat) : Int) := by
  have hL : (big a).length ≤ 1000000 := ha
  have h1 : Int.tdiv (n : Int) 32 = ((n / 32 : Nat) : Int) := rfl
  have h2 : Int.tmod (n : Int) 32 = ((n % 32 : Nat) : Int) := rfl
  unfold portageref03_Bit.f
  rw [h1, h2, w64 (by omega) (by omega)]
  by_cases c : (big a).length ≤ n / 32
  · rw [if_pos (by omega), Nat.div_eq_of_lt]
    · rfl
    · exact Nat.lt_of_lt_of_le (len_lt a) (Nat.pow_le_pow_right (by omega) (by omega))
  · have hl := limb_lt a (n/32)
    have hd : limb a (n/32) / 2^(n%32) ≤ limb a (n/32) := Nat.div_le_self _ _
    rw [if_neg (by omega), if_pos (by omega), if_pos (by omega), u64_w (by omega) (by omega), if_pos (by omega), rd_big, shr_nat _ _ (by omega), and1 _ (by omega), bit_div]
theorem mod_bit (a i : Nat) : a % 2^(i+1) = a % 2^i + 2^i * (a / 2^i % 2) := by
  rw [Nat.pow_succ, Nat.mod_mul]
theorem beneath_l0 (a n : Nat) (ha : Sh a) (hn : n ≤ 10000000) : ∀ (d i : Nat), i + d = min n (32 * (big a).length) → a % 2^i = 0 →
    Ev (fun k => portageref03_Beneath.l0 k (big a) (n : Int) (i : Int)) (a % 2^n != 0) := by
  have hL : (big a).length ≤ 1000000 := ha
  intro d
  induction d with
  | zero =>
    intro i hi h0
    have hz : a % 2^n = 0 := by
      by_cases c : i = n
      · rw [← c]; exact h0
      · have : i = 32 * (big a).length := by omega
        rw [this, Nat.mod_eq_of_lt (len_lt a)] at h0
        rw [h0, Nat.zero_mod]
    have hf : (a % 2^n != 0) = false := by simp [hz]
    rw [hf]
    have h2 : Ev (fun k => portageref03_Beneath.j1 k (big a) (n : Int) (i : Int) false) false := by
      refine ⟨1, fun k hk => ?_⟩
      obtain ⟨k, rfl⟩ : ∃ m, k = m + 1 := ⟨k-1, by omega⟩
      simp only [portageref03_Beneath.j1, Bool.false_eq_true, if_false]
    refine ev_next (fun k => ?_) h2
    simp only [portageref03_Beneath.l0]
    rw [w64 (x := 32 * ((big a).length : Int)) (by omega) (by omega)]
    by_cases c : i < n
    · rw [if_pos (by omega), decide_eq_false (by omega)]
    · rw [if_neg (by omega)]
  | succ d ih =>
    intro i hi h0
    have hmb := mod_bit a i
    have h2 : Ev (fun k => portageref03_Beneath.j1 k (big a) (n : Int) (i : Int) true) (a % 2^n != 0) := by
      by_cases hb : a / 2^i % 2 = 1
      · have hne : (a % 2^n != 0) = true := by
          simp only [bne_iff_ne, ne_eq]
          intro hz
          have h3 : 2^(i+1) ∣ 2^n := Nat.pow_dvd_pow 2 (by omega)
          have h4 : a % 2^(i+1) = 0 := Nat.mod_eq_zero_of_dvd (Nat.dvd_trans h3 (Nat.dvd_of_mod_eq_zero hz))
          have := Nat.two_pow_pos i
          rw [hmb, h0, hb] at h4; omega
        rw [hne]
        refine ⟨1, fun k hk => ?_⟩
        obtain ⟨k, rfl⟩ : ∃ m, k = m + 1 := ⟨k-1, by omega⟩
        simp only [portageref03_Beneath.j1, if_true]
        rw [bit_eq a i ha (by omega), hb]; rfl
      · have hb0 : a / 2^i % 2 = 0 := by omega
        have := ih (i+1) (by omega) (by rw [hmb, h0, hb0]; simp)
        refine ev_next (fun k => ?_) this
        simp only [portageref03_Beneath.j1, if_true]
        rw [bit_eq a i ha (by omega), hb0, w64 (by omega) (by omega)]; rfl
    refine ev_next (fun k => ?_) h2
    simp only [portageref03_Beneath.l0]
    rw [w64 (x := 32 * ((big a).length : Int)) (by omega) (by omega), if_pos (by omega), decide_eq_true (by omega)]
theorem beneath_ev (a n : Nat) (ha : Sh a) (hn : n ≤ 10000000) : Ev (fun k => portageref03_Beneath.f k (big a) (n : Int)) (a % 2^n != 0) :=
  beneath_l0 a n ha hn (min n (32 * (big a).length)) 0 (by omega) (Nat.mod_one a)
end Go.Proofs.Ytapgnackoclbeaa.PReal
