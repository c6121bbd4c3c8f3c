import Derived.Test.YtapgnackoclbeaaLimb1
set_option linter.unusedSimpArgs false
set_option linter.unusedVariables false
namespace Go.Proofs.Ytapgnackoclbeaa.PReal
open Go.RowKit Go.Proofs.Ytapgnackoclbeaa.Fl Go.Proofs.YtapgnackoclbeaaW.PrintWords Go.Proofs.YtapgnackoclbeaaW.PrintLast Go.Proofs.YtapgnackoclbeaaW.PrintMore

/-- lists that are short enough -/
def Sh (n : Nat) : Prop := (big n).length ≤ 1000000
theorem Sh.le {a b : Nat} (h : Sh b) (hle : a ≤ b) : Sh a := Nat.le_trans (len_mono hle) h

theorem ev_next {α : Type} {g : Nat → Option α} {f : Nat → Option α} {r : α} (hs : ∀ k, g (k + 1) = f k) (h : Ev f r) : Ev g r := Ev.step hs h

/-! Up -/
theorem up_l1 (a t : Nat) (s : Int) (ht : t < 32) (hs : Int.tmod s 32 = t) (ha : Sh a) (q : Nat) (hq : q ≤ 1000000) (A : Nat) (hA : A = a * 2^(32*q+t)) :
    ∀ (d i : Nat), i + d = (big a).length → ∀ (x5 : List Int) (c : Nat), Ok x5 → x5.length = q + i → c < 4294967296 → lv x5 + 2^(32*(q+i)) * c = (a % 2^(32*i)) * 2^(32*q+t) → c < 2^t →
    Ev (fun k => portageref03_Up.l1 k (big a) s x5 (c : Int) (i : Int)) (big A) := by
  have hu : IntKind.u64.wrap (t : Int) = (t : Nat) := u64_w (by omega) (by omega)
  have hL : (big a).length ≤ 1000000 := ha
  intro d
  induction d with
  | zero =>
    intro i hi x5 c hok hlen hc hv hct
    have hok2 : Ok (x5 ++ [(c : Int)]) := hok.append (by omega) (by omega)
    have htr := trim_ev hok2 (by rw [List.length_append, hlen]; simp; omega)
    have hval : lv (x5 ++ [(c : Int)]) = A := by
      rw [lv_append, hlen, Int.toNat_natCast, hv, hA, mod_big (by omega)]
    rw [hval] at htr
    refine ev_next (fun k => ?_) htr
    simp only [portageref03_Up.l1]
    rw [if_neg (by omega), if_pos (by omega)]
    cases portageref03_Trim.f k _ <;> rfl
  | succ d ih =>
    intro i hi x5 c hok hlen hc hv hct
    have hdl := limb_lt a i
    have hP : 2^t ≤ 2^31 := Nat.pow_le_pow_right (by omega) (by omega)
    have hPp := Nat.two_pow_pos t
    -- the sum
    have hshl : shl .u64 (limb a i : Nat) (t : Nat) = ((limb a i * 2^t : Nat) : Int) := by
      unfold shl
      rw [Int.toNat_natCast, show min t IntKind.u64.bits = t from Nat.min_eq_left (by simp [IntKind.bits]; omega)]
      have hlt : limb a i * 2^t < 4294967296 * 2^31 := Nat.mul_lt_mul_of_lt_of_le hdl hP (by omega)
      rw [u64_w]
      · push_cast; rfl
      · exact Int.mul_nonneg (by omega) (Int.pow_nonneg (by omega))
      · have : ((limb a i : Nat) : Int) * 2^t = ((limb a i * 2^t : Nat) : Int) := by push_cast; rfl
        rw [this]; omega
    have hlt : limb a i * 2^t + c < 2^64 := by
      have : limb a i * 2^t < 4294967296 * 2^31 := Nat.mul_lt_mul_of_lt_of_le hdl hP (by omega)
      omega
    obtain ⟨S, hS⟩ : ∃ S, S = limb a i * 2^t + c := ⟨_, rfl⟩
    have hsum : IntKind.u64.wrap (((limb a i * 2^t : Nat) : Int) + (c : Int)) = (S : Nat) := by
      rw [u64_w (by omega) (by omega)]; omega
    have hok2 : Ok (x5 ++ [((S % 4294967296 : Nat) : Int)]) := hok.append (by omega) (by omega)
    have hct2 : S / 4294967296 < 2^t := by
      rw [Nat.div_lt_iff_lt_mul (by omega)]
      have : limb a i * 2^t ≤ 4294967295 * 2^t := Nat.mul_le_mul_right _ (by omega)
      omega
    have := ih (i+1) (by omega) (x5 ++ [((S % 4294967296 : Nat) : Int)]) (S / 4294967296) hok2 (by rw [List.length_append, hlen]; simp; omega) (by omega) (by
      rw [lv_append, hlen, Int.toNat_natCast, mod_limb, Nat.add_mul, ← hv]
      rw [show 32 * (q + (i+1)) = 32 * (q+i) + 32 by omega, Nat.pow_add, show (2:Nat)^32 = 4294967296 from rfl]
      have e1 : 2^(32*(q+i)) * (S % 4294967296) + 2^(32*(q+i)) * 4294967296 * (S / 4294967296) = 2^(32*(q+i)) * S := by
        rw [Nat.mul_assoc, ← Nat.mul_add]; congr 1; omega
      rw [Nat.add_assoc, e1, hS, Nat.mul_add]
      have e2 : 2^(32*i) * limb a i * 2^(32*q+t) = 2^(32*(q+i)) * (limb a i * 2^t) := by
        rw [show 32*(q+i) = 32*i + 32*q by omega, Nat.pow_add, Nat.pow_add]
        simp only [Nat.mul_assoc, Nat.mul_comm, Nat.mul_left_comm]
      rw [e2]; omega) hct2
    refine ev_next (fun k => ?_) this
    simp only [portageref03_Up.l1]
    rw [if_pos (by omega), if_pos (by omega), hs, hu, if_pos (by omega), if_pos (by omega), rd_big, hshl, hsum, and32 S (by omega), w64 (by omega) (by omega)]
    rw [show ((S : Nat) : Int) / 4294967296 = ((S / 4294967296 : Nat) : Int) by omega, show ((i : Nat) : Int) + 1 = ((i+1 : Nat) : Int) by omega]
theorem up_l0 (a q t : Nat) (s : Int) (ht : t < 32) (hs : Int.tmod s 32 = t) (hsq : Int.tdiv s 32 = q) (ha : Sh a) (hq : q ≤ 1000000) (A : Nat) (hA : A = a * 2^(32*q+t)) :
    ∀ (d i : Nat), i + d = q → ∀ (x5 : List Int), Ok x5 → x5.length = i → lv x5 = 0 → Ev (fun k => portageref03_Up.l0 k (big a) s x5 (i : Int)) (big A) := by
  intro d
  induction d with
  | zero =>
    intro i hi x5 hok hlen hv
    have := up_l1 a t s ht hs ha q hq A hA (big a).length 0 (by omega) x5 0 hok (by omega) (by omega) (by rw [hv]; simp [Nat.mod_one]) (Nat.two_pow_pos t)
    refine ev_next (fun k => ?_) this
    simp only [portageref03_Up.l0]
    rw [hsq, w64 (by omega) (by omega), if_neg (by omega)]; rfl
  | succ d ih =>
    intro i hi x5 hok hlen hv
    have := ih (i+1) (by omega) (x5 ++ [0]) (hok.append (by omega) (by omega)) (by rw [List.length_append, hlen]; rfl) (by rw [lv_append, hv]; simp)
    refine ev_next (fun k => ?_) this
    simp only [portageref03_Up.l0]
    rw [hsq, w64 (by omega) (by omega), if_pos (by omega), if_pos (by omega), w64 (by omega) (by omega)]; rfl
theorem up_ev (a n : Nat) (ha : Sh a) (hn : n ≤ 1000000) : Ev (fun k => portageref03_Up.f k (big a) (n : Int)) (big (a * 2^n)) := by
  have h1 : Int.tdiv (n : Int) 32 = ((n / 32 : Nat) : Int) := rfl
  have h2 : Int.tmod (n : Int) 32 = ((n % 32 : Nat) : Int) := rfl
  exact up_l0 a (n/32) (n%32) n (by omega) h2 h1 ha (by omega) _ (by congr 2; omega) (n/32) 0 (by omega) [] Ok.nil rfl rfl

/-! Cmp -/
def cmpI (a b : Nat) : Int := if a < b then -1 else if a > b then 1 else 0
theorem div_eq_of_top {a b i : Nat} (h : a / 2^(32*(i+1)) = b / 2^(32*(i+1))) : (limb a i < limb b i → a < b) ∧ (limb b i < limb a i → b < a) ∧ (limb a i = limb b i → a / 2^(32*i) = b / 2^(32*i)) := by
  have e : ∀ z : Nat, z / 2^(32*i) = z / 2^(32*(i+1)) * 4294967296 + limb z i := by
    intro z
    unfold limb
    rw [show 32*(i+1) = 32*i + 32 by omega, Nat.pow_add, ← Nat.div_div_eq_div_mul, show (2:Nat)^32 = 4294967296 from rfl]
    omega
  have ea := e a
  have eb := e b
  rw [← h] at eb
  refine ⟨fun hl => ?_, fun hl => ?_, fun hl => by omega⟩
  · have : a / 2^(32*i) < b / 2^(32*i) := by omega
    by_cases hh : a < b
    · exact hh
    · have := Nat.div_le_div_right (c := 2^(32*i)) (show b ≤ a by omega); omega
  · have : b / 2^(32*i) < a / 2^(32*i) := by omega
    by_cases hh : b < a
    · exact hh
    · have := Nat.div_le_div_right (c := 2^(32*i)) (show a ≤ b by omega); omega
theorem cmp_l0 (a b : Nat) (ha : Sh a) (hl : (big a).length = (big b).length) : ∀ (i : Nat), i ≤ (big a).length → a / 2^(32*i) = b / 2^(32*i) →
    Ev (fun k => portageref03_Cmp.l0 k (big a) (big b) ((i : Int) - 1)) (cmpI a b) := by
  have hL : (big a).length ≤ 1000000 := ha
  intro i
  induction i with
  | zero =>
    intro _ he
    have hab : a = b := by simpa using he
    subst hab
    refine ⟨1, fun k hk => ?_⟩
    obtain ⟨k, rfl⟩ : ∃ m, k = m + 1 := ⟨k-1, by omega⟩
    simp only [portageref03_Cmp.l0]
    rw [if_neg (by omega)]; simp [cmpI]
  | succ i ih =>
    intro hi he
    obtain ⟨h1, h2, h3⟩ := div_eq_of_top he
    have hrec : ∀ k, portageref03_Cmp.l0 (k+1) (big a) (big b) (((i+1 : Nat) : Int) - 1) = if (limb a i : Int) < (limb b i : Int) then some (-1) else if (limb a i : Int) > (limb b i : Int) then some 1 else portageref03_Cmp.l0 k (big a) (big b) ((i : Int) - 1) := by
      intro k
      rw [show ((i+1 : Nat) : Int) - 1 = (i : Nat) by omega]
      simp only [portageref03_Cmp.l0]
      rw [if_pos (by omega), if_pos (by omega), if_pos (by omega), if_pos (by omega), rd_big, rd_big, w64 (by omega) (by omega)]
    by_cases hlt : limb a i < limb b i
    · refine ⟨1, fun k hk => ?_⟩
      obtain ⟨k, rfl⟩ : ∃ m, k = m + 1 := ⟨k-1, by omega⟩
      simp only [hrec]
      rw [if_pos (by omega)]; unfold cmpI; rw [if_pos (h1 hlt)]
    · by_cases hgt : limb b i < limb a i
      · refine ⟨1, fun k hk => ?_⟩
        obtain ⟨k, rfl⟩ : ∃ m, k = m + 1 := ⟨k-1, by omega⟩
        simp only [hrec]
        have := h2 hgt
        rw [if_neg (by omega), if_pos (by omega)]; unfold cmpI; rw [if_neg (by omega), if_pos this]
      · have := ih (by omega) (h3 (by omega))
        refine ev_next (fun k => ?_) this
        rw [hrec, if_neg (by omega), if_neg (by omega)]
theorem cmp_ev (a b : Nat) (ha : Sh a) (hb : Sh b) : Ev (fun k => portageref03_Cmp.f k (big a) (big b)) (cmpI a b) := by
  have hLa : (big a).length ≤ 1000000 := ha
  have hLb : (big b).length ≤ 1000000 := hb
  by_cases h1 : (big a).length < (big b).length
  · have hlt : a < b := by
      by_cases hh : a < b
      · exact hh
      · have := len_mono (show b ≤ a by omega); omega
    refine ⟨0, fun k _ => ?_⟩
    unfold portageref03_Cmp.f
    simp only
    rw [if_pos (by omega)]; unfold cmpI; rw [if_pos hlt]
  · by_cases h2 : (big b).length < (big a).length
    · have hlt : b < a := by
        by_cases hh : b < a
        · exact hh
        · have := len_mono (show a ≤ b by omega); omega
      refine ⟨0, fun k _ => ?_⟩
      unfold portageref03_Cmp.f
      simp only
      rw [if_neg (by omega), if_pos (by omega)]; unfold cmpI; rw [if_neg (by omega), if_pos hlt]
    · have hl : (big a).length = (big b).length := by omega
      have := cmp_l0 a b ha hl (big a).length (Nat.le_refl _) (by
        rw [Nat.div_eq_of_lt (len_lt a), hl, Nat.div_eq_of_lt (len_lt b)])
      refine Ev.congr (fun k => ?_) this
      unfold portageref03_Cmp.f
      rw [if_neg (by omega), if_neg (by omega), w64 (by omega) (by omega)]

/-! Plus -/
theorem plus_l0 (a b : Nat) (ha : Sh a) (hb : Sh b) (M : Nat) (hM : M = max (big a).length (big b).length) :
    ∀ (d i : Nat), i + d = M → ∀ (x5 : List Int) (c : Nat), Ok x5 → x5.length = i → c < 4294967296 → lv x5 + 2^(32*i) * c = a % 2^(32*i) + b % 2^(32*i) →
    Ev (fun k => portageref03_Plus.l0 k (big a) (big b) x5 (c : Int) (i : Int)) (big (a + b)) := by
  have hLa : (big a).length ≤ 1000000 := ha
  have hLb : (big b).length ≤ 1000000 := hb
  intro d
  induction d with
  | zero =>
    intro i hi x5 c hok hlen hc hv
    have hok2 : Ok (x5 ++ [(c : Int)]) := hok.append (by omega) (by omega)
    have htr := trim_ev hok2 (by rw [List.length_append, hlen]; simp; omega)
    have hval : lv (x5 ++ [(c : Int)]) = a + b := by
      rw [lv_append, hlen, Int.toNat_natCast, hv, mod_big (n := a) (i := i) (by omega), mod_big (n := b) (i := i) (by omega)]
    rw [hval] at htr
    have h2 : Ev (fun k => portageref03_Plus.j1 k (big a) (big b) x5 (c : Int) (i : Int) false) (big (a + b)) := by
      refine ev_next (fun k => ?_) htr
      simp only [portageref03_Plus.j1, Bool.false_eq_true, if_false]
      rw [if_pos (by omega)]
      cases portageref03_Trim.f k _ <;> rfl
    refine ev_next (fun k => ?_) h2
    simp only [portageref03_Plus.l0]
    rw [if_neg (by omega), decide_eq_false (by omega)]
  | succ d ih =>
    intro i hi x5 c hok hlen hc hv
    have hla := limb_lt a i
    have hlb := limb_lt b i
    obtain ⟨S, hS⟩ : ∃ S, S = c + limb a i + limb b i := ⟨_, rfl⟩
    have hok2 : Ok (x5 ++ [((S % 4294967296 : Nat) : Int)]) := hok.append (by omega) (by omega)
    have := ih (i+1) (by omega) (x5 ++ [((S % 4294967296 : Nat) : Int)]) (S / 4294967296) hok2 (by rw [List.length_append, hlen]; rfl) (by omega) (by
      rw [lv_append, hlen, Int.toNat_natCast, mod_limb, mod_limb]
      rw [show 32 * (i+1) = 32 * i + 32 by omega, Nat.pow_add, show (2:Nat)^32 = 4294967296 from rfl]
      have e1 : 2^(32*i) * (S % 4294967296) + 2^(32*i) * 4294967296 * (S / 4294967296) = 2^(32*i) * S := by
        rw [Nat.mul_assoc, ← Nat.mul_add]; congr 1; omega
      rw [Nat.add_assoc, e1, hS, Nat.mul_add, Nat.mul_add]; omega)
    have h2 : Ev (fun k => portageref03_Plus.j1 k (big a) (big b) x5 (c : Int) (i : Int) true) (big (a + b)) := by
      refine ev_next (fun k => ?_) this
      simp only [portageref03_Plus.j1, if_true]
      by_cases h3 : i < (big a).length
      · by_cases h4 : i < (big b).length
        · rw [if_pos (by omega), if_pos (by omega), if_pos (by omega), if_pos (by omega), rd_big, rd_big, u64_w (x := (c : Int) + (limb a i : Nat)) (by omega) (by omega), u64_w (by omega) (by omega)]
          rw [show (c : Int) + (limb a i : Nat) + (limb b i : Nat) = (S : Nat) by omega, and32 S (by omega), w64 (by omega) (by omega)]
          rw [show ((S : Nat) : Int) / 4294967296 = ((S / 4294967296 : Nat) : Int) by omega]; rfl
        · have hz := limb_big (n := b) (i := i) (by omega)
          rw [if_pos (by omega), if_pos (by omega), if_neg (by omega), if_pos (by omega), rd_big, u64_w (x := (c : Int) + (limb a i : Nat)) (by omega) (by omega)]
          rw [show (c : Int) + (limb a i : Nat) = (S : Nat) by omega, and32 S (by omega), w64 (by omega) (by omega)]
          rw [show ((S : Nat) : Int) / 4294967296 = ((S / 4294967296 : Nat) : Int) by omega]; rfl
      · have hz := limb_big (n := a) (i := i) (by omega)
        rw [if_neg (by omega), if_pos (by omega), if_pos (by omega), if_pos (by omega), rd_big, u64_w (x := (c : Int) + (limb b i : Nat)) (by omega) (by omega)]
        rw [show (c : Int) + (limb b i : Nat) = (S : Nat) by omega, and32 S (by omega), w64 (by omega) (by omega)]
        rw [show ((S : Nat) : Int) / 4294967296 = ((S / 4294967296 : Nat) : Int) by omega]; rfl
    refine ev_next (fun k => ?_) h2
    simp only [portageref03_Plus.l0]
    by_cases h3 : i < (big a).length
    · rw [if_pos (by omega)]
    · rw [if_neg (by omega), decide_eq_true (by omega)]
theorem plus_ev (a b : Nat) (ha : Sh a) (hb : Sh b) : Ev (fun k => portageref03_Plus.f k (big a) (big b)) (big (a + b)) :=
  plus_l0 a b ha hb _ rfl (max (big a).length (big b).length) 0 (by omega) [] 0 Ok.nil rfl (by omega) (by simp [lv, Nat.mod_one])

/-! Minus -/
theorem minus_l0 (a b : Nat) (ha : Sh a) (hab : b ≤ a) :
    ∀ (d i : Nat), i + d = (big a).length → ∀ (x5 : List Int) (c : Nat), Ok x5 → x5.length = i → c ≤ 1 → lv x5 + b % 2^(32*i) = a % 2^(32*i) + 2^(32*i) * c →
    Ev (fun k => portageref03_Minus.l0 k (big a) (big b) x5 (c : Int) (i : Int)) (big (a - b)) := by
  have hLa : (big a).length ≤ 1000000 := ha
  have hLb : (big b).length ≤ (big a).length := len_mono hab
  intro d
  induction d with
  | zero =>
    intro i hi x5 c hok hlen hc hv
    have htr := trim_ev hok (by omega)
    have hval : lv x5 = a - b := by
      rw [mod_big (n := a) (i := i) (by omega), mod_big (n := b) (i := i) (by omega)] at hv
      have hlv := lv_lt hok
      have hal := len_lt a
      rw [hlen, show i = (big a).length by omega] at hlv
      by_cases h0 : c = 0
      · subst h0; omega
      · have : c = 1 := by omega
        subst this
        rw [show i = (big a).length by omega, Nat.mul_one] at hv
        omega
    rw [hval] at htr
    refine ev_next (fun k => ?_) htr
    simp only [portageref03_Minus.l0]
    rw [if_neg (by omega)]
    cases portageref03_Trim.f k _ <;> rfl
  | succ d ih =>
    intro i hi x5 c hok hlen hc hv
    have hla := limb_lt a i
    have hlb := limb_lt b i
    have hstep : ∀ (y c2 : Nat), y < 4294967296 → c2 ≤ 1 → y + (c + limb b i) = limb a i + 4294967296 * c2 → Ev (fun k => portageref03_Minus.l0 k (big a) (big b) (x5 ++ [(y : Int)]) (c2 : Int) ((i+1 : Nat) : Int)) (big (a - b)) := by
      intro y c2 hy hc2 he
      apply ih (i+1) (by omega) _ _ (hok.append (by omega) (by omega)) (by rw [List.length_append, hlen]; rfl) hc2
      rw [lv_append, hlen, Int.toNat_natCast, mod_limb, mod_limb]
      rw [show 32 * (i+1) = 32 * i + 32 by omega, Nat.pow_add, show (2:Nat)^32 = 4294967296 from rfl, Nat.mul_assoc]
      have e1 : 2^(32*i) * y + 2^(32*i) * (c + limb b i) = 2^(32*i) * limb a i + 2^(32*i) * (4294967296 * c2) := by
        rw [← Nat.mul_add, he, Nat.mul_add]
      rw [Nat.mul_add] at e1
      omega
    by_cases h4 : i < (big b).length
    · by_cases h5 : limb a i < c + limb b i
      · have := hstep (limb a i + 4294967296 - (c + limb b i)) 1 (by omega) (by omega) (by omega)
        refine ev_next (fun k => ?_) this
        simp only [portageref03_Minus.l0]
        rw [if_pos (by omega), if_pos (by omega), if_pos (by omega), rd_big, rd_big, u64_w (x := (c : Int) + (limb b i : Nat)) (by omega) (by omega), if_pos (by omega), if_pos (by omega), u64_w (x := (limb a i : Int) + 4294967296) (by omega) (by omega), u64_w (by omega) (by omega), w64 (by omega) (by omega)]
        rw [show (limb a i : Int) + 4294967296 - ((c : Int) + (limb b i : Nat)) = ((limb a i + 4294967296 - (c + limb b i) : Nat) : Int) by omega]; rfl
      · have := hstep (limb a i - (c + limb b i)) 0 (by omega) (by omega) (by omega)
        refine ev_next (fun k => ?_) this
        simp only [portageref03_Minus.l0]
        rw [if_pos (by omega), if_pos (by omega), if_pos (by omega), rd_big, rd_big, u64_w (x := (c : Int) + (limb b i : Nat)) (by omega) (by omega), if_neg (by omega), if_pos (by omega), u64_w (by omega) (by omega), w64 (by omega) (by omega)]
        rw [show (limb a i : Int) - ((c : Int) + (limb b i : Nat)) = ((limb a i - (c + limb b i) : Nat) : Int) by omega]; rfl
    · have hz := limb_big (n := b) (i := i) (by omega)
      by_cases h5 : limb a i < c + limb b i
      · have := hstep (limb a i + 4294967296 - (c + limb b i)) 1 (by omega) (by omega) (by omega)
        refine ev_next (fun k => ?_) this
        simp only [portageref03_Minus.l0]
        rw [if_pos (by omega), if_neg (by omega), if_pos (by omega), rd_big, if_pos (by omega), if_pos (by omega), u64_w (x := (limb a i : Int) + 4294967296) (by omega) (by omega), u64_w (by omega) (by omega), w64 (by omega) (by omega)]
        rw [show (limb a i : Int) + 4294967296 - (c : Int) = ((limb a i + 4294967296 - (c + limb b i) : Nat) : Int) by omega]; rfl
      · have := hstep (limb a i - (c + limb b i)) 0 (by omega) (by omega) (by omega)
        refine ev_next (fun k => ?_) this
        simp only [portageref03_Minus.l0]
        rw [if_pos (by omega), if_neg (by omega), if_pos (by omega), rd_big, if_neg (by omega), if_pos (by omega), u64_w (by omega) (by omega), w64 (by omega) (by omega)]
        rw [show (limb a i : Int) - (c : Int) = ((limb a i - (c + limb b i) : Nat) : Int) by omega]; rfl
theorem minus_ev (a b : Nat) (ha : Sh a) (hab : b ≤ a) : Ev (fun k => portageref03_Minus.f k (big a) (big b)) (big (a - b)) :=
  minus_l0 a b ha hab (big a).length 0 (by omega) [] 0 Ok.nil rfl (by omega) (by simp [lv, Nat.mod_one])
end Go.Proofs.Ytapgnackoclbeaa.PReal
