import Derived.Test.YtapgnackoclbeaaPRealx7
import Derived.Test.YtapgnackoclbeaaLimb6
set_option linter.unusedSimpArgs false
set_option linter.unusedVariables false
namespace Go.Proofs.Ytapgnackoclbeaa.PReal
open Go.RowKit Go.Proofs.Ytapgnackoclbeaa.Fl Go.Proofs.YtapgnackoclbeaaW.PrintWords Go.Proofs.YtapgnackoclbeaaW.PrintLast Go.Proofs.YtapgnackoclbeaaW.PrintMore

/-! Times -/
theorem Ok.set {l : List Int} (h : Ok l) (i : Nat) {x : Int} (h0 : 0 ≤ x) (h1 : x < 4294967296) : Ok (l.set i x) := by
  intro y hy
  rcases List.mem_or_eq_of_mem_set hy with hy | hy
  · exact h y hy
  · subst hy; exact ⟨h0, h1⟩
theorem lv_set {l : List Int} (h : Ok l) (i : Nat) (hi : i < l.length) (x : Int) : lv (l.set i x) + 2^(32*i) * limb (lv l) i = lv l + 2^(32*i) * x.toNat := by
  induction l generalizing i with
  | nil => simp at hi
  | cons y t ih =>
    have hy := h.head
    cases i with
    | zero =>
      rw [List.set_cons_zero, lv, lv]
      have : limb (y.toNat + 4294967296 * lv t) 0 = y.toNat := by
        unfold limb
        rw [Nat.mul_zero, Nat.pow_zero, Nat.div_one]; omega
      rw [this, Nat.mul_zero, Nat.pow_zero]; omega
    | succ i =>
      rw [List.set_cons_succ, lv, lv]
      have := ih h.tail i (by simpa using hi)
      have hl : limb (y.toNat + 4294967296 * lv t) (i+1) = limb (lv t) i := by
        unfold limb
        rw [show 32 * (i+1) = 32 + 32 * i by omega, Nat.pow_add, ← Nat.div_div_eq_div_mul, show (2:Nat)^32 = 4294967296 from rfl]
        congr 2; omega
      rw [hl, show 32 * (i+1) = 32 + 32 * i by omega, Nat.pow_add, show (2:Nat)^32 = 4294967296 from rfl, Nat.mul_assoc, Nat.mul_assoc]
      omega
theorem rd_ok {l : List Int} (h : Ok l) (i : Nat) : rd l (i : Int) = (limb (lv l) i : Nat) := by
  unfold rd; rw [Int.toNat_natCast, getD_lv h]

/-- the inner loop: digit i of a, by b -/
theorem times_l2 (a b : Nat) (ha : Sh a) (hb : Sh b) (i : Nat) (hi : i < (big a).length) (A0 : Nat) (R : List Int)
    (hR : ∀ x5' : List Int, Ok x5' → x5'.length = (big a).length + (big b).length → lv x5' = A0 + 2^(32*i) * limb a i * b → Ev (fun k => portageref03_Times.l1 k (big a) (big b) x5' ((i+1 : Nat) : Int)) R) :
    ∀ (d j : Nat), j + d = (big b).length → ∀ (x5 : List Int) (c : Nat), Ok x5 → x5.length = (big a).length + (big b).length → c < 4294967296 →
      lv x5 + 2^(32*(i+j)) * c = A0 + 2^(32*i) * limb a i * (b % 2^(32*j)) → x5.getD (i + (big b).length) 0 = 0 →
    Ev (fun k => portageref03_Times.l2 k (big a) (big b) x5 (i : Int) (c : Int) (j : Int)) R := by
  have hLa : (big a).length ≤ 1000000 := ha
  have hLb : (big b).length ≤ 1000000 := hb
  intro d
  induction d with
  | zero =>
    intro j hj x5 c hok hlen hc hv hz
    have hlimb : limb (lv x5) (i + j) = 0 := by
      have := getD_lv hok (i + (big b).length)
      rw [hz] at this
      rw [show i + j = i + (big b).length by omega]; omega
    have hset := lv_set hok (i+j) (by omega) (c : Int)
    rw [hlimb, Nat.mul_zero, Nat.add_zero, Int.toNat_natCast, hv, mod_big (n := b) (i := j) (by omega)] at hset
    have := hR (x5.set (i+j) (c : Int)) (hok.set _ (by omega) (by omega)) (by rw [List.length_set]; exact hlen) hset
    refine ev_next (fun k => ?_) this
    simp only [portageref03_Times.l2]
    rw [if_neg (by omega), w64 (x := (i : Int) + ((big b).length : Int)) (by omega) (by omega), if_pos (by omega), if_pos (by omega), w64 (by omega) (by omega)]
    rw [show ((i : Int) + ((big b).length : Int)).toNat = i + j by omega]; rfl
  | succ d ih =>
    intro j hj x5 c hok hlen hc hv hz
    have hda := limb_lt a i
    have hdb := limb_lt b j
    have hdx := limb_lt (lv x5) (i+j)
    have hprod : limb a i * limb b j ≤ 4294967295 * 4294967295 := Nat.mul_le_mul (by omega) (by omega)
    obtain ⟨S, hS⟩ : ∃ S, S = limb a i * limb b j + limb (lv x5) (i+j) + c := ⟨_, rfl⟩
    have hS64 : S < 2^64 := by omega
    have hcarry : S / 4294967296 < 4294967296 := by omega
    have hset := lv_set hok (i+j) (by omega) ((S % 4294967296 : Nat) : Int)
    rw [Int.toNat_natCast] at hset
    have hnew : lv (x5.set (i+j) ((S % 4294967296 : Nat) : Int)) + 2^(32*(i+(j+1))) * (S / 4294967296) = A0 + 2^(32*i) * limb a i * (b % 2^(32*(j+1))) := by
      rw [mod_limb, show 32*(i+(j+1)) = 32*(i+j) + 32 by omega, Nat.pow_add, show (2:Nat)^32 = 4294967296 from rfl]
      have e1 : 2^(32*(i+j)) * (S % 4294967296) + 2^(32*(i+j)) * 4294967296 * (S / 4294967296) = 2^(32*(i+j)) * S := by
        rw [Nat.mul_assoc, ← Nat.mul_add]; congr 1; omega
      have e2 : 2^(32*(i+j)) * S = 2^(32*(i+j)) * (limb a i * limb b j) + 2^(32*(i+j)) * limb (lv x5) (i+j) + 2^(32*(i+j)) * c := by
        rw [hS, Nat.mul_add, Nat.mul_add]
      have e3 : 2^(32*i) * limb a i * (b % 2^(32*j) + 2^(32*j) * limb b j) = 2^(32*i) * limb a i * (b % 2^(32*j)) + 2^(32*(i+j)) * (limb a i * limb b j) := by
        rw [Nat.mul_add]
        congr 1
        rw [show 32*(i+j) = 32*i + 32*j by omega, Nat.pow_add]
        simp only [Nat.mul_assoc, Nat.mul_comm, Nat.mul_left_comm]
      rw [e3]
      omega
    have := ih (j+1) (by omega) (x5.set (i+j) ((S % 4294967296 : Nat) : Int)) (S / 4294967296) (hok.set _ (by omega) (by omega)) (by rw [List.length_set]; exact hlen) hcarry hnew (by
      rw [List.getD_eq_getElem?_getD, List.getElem?_set_ne (by omega), ← List.getD_eq_getElem?_getD]; exact hz)
    refine ev_next (fun k => ?_) this
    simp only [portageref03_Times.l2]
    have hru : IntKind.u64.wrap ((limb a i : Int) * (limb b j : Int)) = ((limb a i * limb b j : Nat) : Int) := by
      rw [show (limb a i : Int) * (limb b j : Int) = ((limb a i * limb b j : Nat) : Int) by push_cast; rfl]
      exact u64_w (by omega) (by omega)
    rw [if_pos (by omega), if_pos (by omega), if_pos (by omega), if_pos (by omega), w64 (x := (i : Int) + (j : Int)) (by omega) (by omega), if_pos (by omega), if_pos (by omega), rd_big, rd_big, show (i : Int) + (j : Int) = ((i + j : Nat) : Int) by omega, rd_ok hok, hru]
    rw [u64_w (x := ((limb a i * limb b j : Nat) : Int) + (limb (lv x5) (i+j) : Int)) (by omega) (by omega), show ((limb a i * limb b j : Nat) : Int) + (limb (lv x5) (i+j) : Int) + (c : Int) = (S : Int) by omega, u64_w (x := (S : Int)) (by omega) (by omega), and32 S hS64, w64 (by omega) (by omega)]
    rw [show (S : Int) / 4294967296 = ((S / 4294967296 : Nat) : Int) by omega, Int.toNat_natCast]; rfl
theorem times_l1 (a b : Nat) (ha : Sh a) (hb : Sh b) : ∀ (d i : Nat), i + d = (big a).length → ∀ (x5 : List Int), Ok x5 → x5.length = (big a).length + (big b).length → lv x5 = (a % 2^(32*i)) * b →
    Ev (fun k => portageref03_Times.l1 k (big a) (big b) x5 (i : Int)) (big (a * b)) := by
  have hLa : (big a).length ≤ 1000000 := ha
  have hLb : (big b).length ≤ 1000000 := hb
  intro d
  induction d with
  | zero =>
    intro i hi x5 hok hlen hv
    have htr := trim_ev hok (by omega)
    rw [hv, mod_big (n := a) (i := i) (by omega)] at htr
    refine ev_next (fun k => ?_) htr
    simp only [portageref03_Times.l1]
    rw [if_neg (by omega)]
    cases portageref03_Trim.f k _ <;> rfl
  | succ d ih =>
    intro i hi x5 hok hlen hv
    have hAlt : lv x5 < 2^(32*(i + (big b).length)) := by
      rw [hv, Nat.mul_add, Nat.pow_add]
      exact Nat.mul_lt_mul'' (Nat.mod_lt _ (Nat.two_pow_pos _)) (len_lt b)
    have hz : x5.getD (i + (big b).length) 0 = 0 := by
      rw [getD_lv hok]
      unfold limb
      rw [Nat.div_eq_of_lt hAlt]; rfl
    have h2 := times_l2 a b ha hb i (by omega) (lv x5) (big (a * b)) (fun x5' hok' hlen' hv' => ih (i+1) (by omega) x5' hok' hlen' (by
      rw [hv', hv, mod_limb, Nat.add_mul])) (big b).length 0 (by omega) x5 0 hok hlen (by omega) (by simp [Nat.mod_one]) hz
    refine ev_next (fun k => ?_) h2
    simp only [portageref03_Times.l1]
    rw [if_pos (by omega)]; rfl
theorem times_l0 (a b : Nat) (ha : Sh a) (hb : Sh b) : ∀ (d i : Nat), i + d = (big a).length + (big b).length → ∀ (x5 : List Int), Ok x5 → x5.length = i → lv x5 = 0 →
    Ev (fun k => portageref03_Times.l0 k (big a) (big b) x5 (i : Int)) (big (a * b)) := by
  have hLa : (big a).length ≤ 1000000 := ha
  have hLb : (big b).length ≤ 1000000 := hb
  intro d
  induction d with
  | zero =>
    intro i hi x5 hok hlen hv
    have := times_l1 a b ha hb (big a).length 0 (by omega) x5 hok (by omega) (by rw [hv]; simp [Nat.mod_one])
    refine ev_next (fun k => ?_) this
    simp only [portageref03_Times.l0]
    rw [w64 (x := ((big a).length : Int) + ((big b).length : Int)) (by omega) (by omega), if_neg (by omega)]; rfl
  | succ d ih =>
    intro i hi x5 hok hlen hv
    have := ih (i+1) (by omega) (x5 ++ [0]) (hok.append (by omega) (by omega)) (by rw [List.length_append, hlen]; rfl) (by rw [lv_append, hv]; simp)
    refine ev_next (fun k => ?_) this
    simp only [portageref03_Times.l0]
    rw [w64 (x := ((big a).length : Int) + ((big b).length : Int)) (by omega) (by omega), if_pos (by omega), if_pos (by omega), w64 (by omega) (by omega)]; rfl
theorem times_ev (a b : Nat) (ha : Sh a) (hb : Sh b) : Ev (fun k => portageref03_Times.f k (big a) (big b)) (big (a * b)) :=
  times_l0 a b ha hb ((big a).length + (big b).length) 0 (by omega) [] Ok.nil rfl rfl

/-! Over -/
theorem big_one : big 1 = [1] := by rw [big_pos (by omega), show 1 / 4294967296 = 0 from rfl, big_zero]; rfl
theorem over_step (a b n : Nat) (hb : b ≠ 0) : 2 * (a / 2^(n+1) % b) + a / 2^n % 2 < 2 * b ∧
    (a / 2^n) / b = 2 * ((a / 2^(n+1)) / b) + (if b ≤ 2 * (a / 2^(n+1) % b) + a / 2^n % 2 then 1 else 0) ∧
    (a / 2^n) % b = 2 * (a / 2^(n+1) % b) + a / 2^n % 2 - (if b ≤ 2 * (a / 2^(n+1) % b) + a / 2^n % 2 then b else 0) := by
  have e : a / 2^(n+1) = a / 2^n / 2 := by rw [Nat.pow_succ, Nat.div_div_eq_div_mul]
  rw [e]
  generalize a / 2^n = z
  have h0 := Nat.div_add_mod (z/2) b
  have h1 := Nat.mod_lt (z/2) (show b > 0 by omega)
  generalize z / 2 / b = q at *
  generalize z / 2 % b = r at *
  have hz : z = b * (2 * q) + (2 * r + z % 2) := by
    have : b * (2 * q) = 2 * (b * q) := Nat.mul_left_comm _ _ _
    omega
  refine ⟨by omega, ?_⟩
  by_cases c : b ≤ 2 * r + z % 2
  · rw [if_pos c, if_pos c]
    have hz2 : z = (2 * r + z % 2 - b) + b * (2 * q + 1) := by rw [Nat.mul_add, Nat.mul_one]; omega
    constructor
    · conv => lhs; rw [hz2]
      rw [Nat.add_mul_div_left _ _ (by omega), Nat.div_eq_of_lt (by omega)]; omega
    · conv => lhs; rw [hz2]
      rw [Nat.add_mul_mod_self_left, Nat.mod_eq_of_lt (by omega)]
  · rw [if_neg c, if_neg c]
    have hz2 : z = (2 * r + z % 2) + b * (2 * q) := by omega
    constructor
    · conv => lhs; rw [hz2]
      rw [Nat.add_mul_div_left _ _ (by omega), Nat.div_eq_of_lt (by omega)]; omega
    · conv => lhs; rw [hz2]
      rw [Nat.add_mul_mod_self_left, Nat.mod_eq_of_lt (by omega)]; omega
theorem over_l0 (a b : Nat) (ha : Sh (4 * a + 4)) (hb : b ≠ 0) (hbs : Sh (4 * b)) : ∀ (n : Nat), n ≤ 30000000 → Ev (fun k => portageref03_Over.l0 k (big a) (big b) (big (a / 2^n / b)) (big (a / 2^n % b)) ((n : Int) - 1)) (big (a / b), big (a % b)) := by
  intro n
  induction n with
  | zero =>
    intro _
    refine ⟨1, fun k hk => ?_⟩
    obtain ⟨k, rfl⟩ : ∃ m, k = m + 1 := ⟨k-1, by omega⟩
    simp only [portageref03_Over.l0]
    rw [if_neg (by omega), Nat.pow_zero, Nat.div_one]
  | succ n ih =>
    intro hn
    obtain ⟨s1, s2, s3⟩ := over_step a b n hb
    have hdle : ∀ m, a / 2^m ≤ a := fun m => Nat.div_le_self _ _
    have hq := Nat.div_le_self (a / 2^(n+1)) b
    have hq2 := hdle (n+1)
    have hrb := Nat.mod_lt (a / 2^(n+1)) (show b > 0 by omega)
    obtain ⟨t, ht⟩ : ∃ t, t = a / 2^n % 2 := ⟨_, rfl⟩
    have hsa : Sh a := ha.le (by omega)
    rw [← ht] at s1 s2 s3
    generalize a / 2^(n+1) / b = q at *
    generalize a / 2^(n+1) % b = r at *
    have ih2 := ih (by omega)
    -- j1
    have hj : Ev (fun k => portageref03_Over.j1 k (big a) (big b) (big q) (big (2 * r + t)) ((n : Nat) : Int)) (big (a / b), big (a % b)) := by
      obtain ⟨K1, h1⟩ := up_ev q 1 (ha.le (by omega)) (by omega)
      obtain ⟨K2, h2⟩ := cmp_ev (2 * r + t) b (hbs.le (by omega)) (hbs.le (by omega))
      obtain ⟨K5, h5⟩ := ih2
      by_cases c : b ≤ 2 * r + t
      · rw [if_pos c] at s2 s3
        obtain ⟨K3, h3⟩ := minus_ev (2 * r + t) b (hbs.le (by omega)) c
        obtain ⟨K4, h4⟩ := plus_ev (q * 2^1) 1 (ha.le (by omega)) (ha.le (by omega))
        refine ⟨max (max K1 K2) (max (max K3 K4) K5) + 1, fun k hk => ?_⟩
        obtain ⟨k, rfl⟩ : ∃ m, k = m + 1 := ⟨k-1, by omega⟩
        simp only [portageref03_Over.j1]
        rw [show portageref03_Up.f k (big q) 1 = some (big (q * 2^1)) from h1 k (by omega), Option.bind_some, show portageref03_Cmp.f k (big (2*r+t)) (big b) = some _ from h2 k (by omega), Option.bind_some, if_pos (by unfold cmpI; split <;> (try split) <;> omega), show portageref03_Minus.f k (big (2*r+t)) (big b) = some _ from h3 k (by omega), Option.bind_some, ← big_one, show portageref03_Plus.f k (big (q * 2^1)) (big 1) = some _ from h4 k (by omega), Option.bind_some, w64 (by omega) (by omega)]
        have := h5 k (by omega)
        rw [s2, s3] at this
        rw [show q * 2^1 + 1 = 2 * q + 1 by omega]; exact this
      · rw [if_neg c] at s2 s3
        refine ⟨max (max K1 K2) K5 + 1, fun k hk => ?_⟩
        obtain ⟨k, rfl⟩ : ∃ m, k = m + 1 := ⟨k-1, by omega⟩
        simp only [portageref03_Over.j1]
        rw [show portageref03_Up.f k (big q) 1 = some (big (q * 2^1)) from h1 k (by omega), Option.bind_some, show portageref03_Cmp.f k (big (2*r+t)) (big b) = some _ from h2 k (by omega), Option.bind_some, if_neg (by unfold cmpI; rw [if_pos (by omega)]; omega), w64 (by omega) (by omega)]
        have := h5 k (by omega)
        rw [s2, s3] at this
        rw [show q * 2^1 = 2 * q + 0 by omega]; exact this
    obtain ⟨K1, h1⟩ := up_ev r 1 (hbs.le (by omega)) (by omega)
    obtain ⟨K2, h2⟩ := plus_ev (r * 2^1) 1 (hbs.le (by omega)) (ha.le (by omega))
    obtain ⟨K3, h3⟩ := hj
    have hbit := bit_eq a n hsa (by omega)
    rw [← ht] at hbit
    refine ⟨max K1 (max K2 K3) + 1, fun k hk => ?_⟩
    obtain ⟨k, rfl⟩ : ∃ m, k = m + 1 := ⟨k-1, by omega⟩
    have h3' := h3 k (by omega)
    simp only at h3'
    simp only [portageref03_Over.l0]
    rw [show ((n+1 : Nat) : Int) - 1 = (n : Int) by omega, if_pos (by omega), show portageref03_Up.f k (big r) 1 = some (big (r * 2^1)) from h1 k (by omega), Option.bind_some, hbit, Option.bind_some]
    by_cases c : t = 1
    · rw [if_pos (by omega), ← big_one, show portageref03_Plus.f k (big (r * 2^1)) (big 1) = some _ from h2 k (by omega), Option.bind_some, show r * 2^1 + 1 = 2 * r + t by omega]; exact h3'
    · rw [if_neg (by omega), show r * 2^1 = 2 * r + t by omega]; exact h3'
theorem over_ev (a b : Nat) (ha : Sh (4 * a + 4)) (hb : b ≠ 0) (hbs : Sh (4 * b)) (hbl : bl a ≤ 30000000) : Ev (fun k => portageref03_Over.f k (big a) (big b)) (big (a / b), big (a % b)) := by
  obtain ⟨K1, h1⟩ := bits_ev a (ha.le (by omega))
  have h2 := over_l0 a b ha hb hbs (bl a) hbl
  rw [Nat.div_eq_of_lt (lt_bl a), Nat.zero_div, Nat.zero_mod, big_zero] at h2
  obtain ⟨K2, h2⟩ := h2
  refine ⟨max K1 K2, fun k hk => ?_⟩
  have h2' := h2 k (by omega)
  simp only at h2'
  simp only [portageref03_Over.f]
  rw [show portageref03_Bits.f k (big a) = some _ from h1 k (by omega), Option.bind_some, w64 (by omega) (by omega)]
  exact h2'
end Go.Proofs.Ytapgnackoclbeaa.PReal
