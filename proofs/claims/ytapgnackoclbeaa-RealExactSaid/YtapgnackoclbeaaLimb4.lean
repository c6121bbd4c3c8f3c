import Derived.Test.YtapgnackoclbeaaLimb3
set_option linter.unusedSimpArgs false
set_option linter.unusedVariables false
namespace Go.Proofs.Ytapgnackoclbeaa.PReal
open Go.RowKit Go.Proofs.Ytapgnackoclbeaa.Fl Go.Proofs.YtapgnackoclbeaaW.PrintWords Go.Proofs.YtapgnackoclbeaaW.PrintLast Go.Proofs.YtapgnackoclbeaaW.PrintMore

theorem Ev.val {α : Type} {g : Nat → Option α} {r : α} (h : ∀ k, g k = some r) : Ev g r := ⟨0, fun k _ => h k⟩
theorem ev_if {α : Type} {g : Nat → Option α} {c : Prop} [Decidable c] {f1 f2 : Nat → Option α} {r : α} (h : ∀ k, g k = if c then f1 k else f2 k) (h1 : c → Ev f1 r) (h2 : ¬c → Ev f2 r) : Ev g r := by
  by_cases hc : c
  · exact Ev.congr (fun k => by rw [h k, if_pos hc]) (h1 hc)
  · exact Ev.congr (fun k => by rw [h k, if_neg hc]) (h2 hc)

/-- how a whole number and its place are laid as a pair -/
def pairOf (m : Nat) (q : Int) : Int × Int := if m = 2^53 then (4503599627370496, q + 1) else ((m : Int), q)

theorem near_j2 (m : Nat) (q : Int) (up : Bool) (hm : m + up.toNat ≤ 2^53) (hq : -100000000 ≤ q ∧ q ≤ 100000000) (k : Nat) :
    portageref03_near.j2 (k + 1) 53 q (m : Int) up = some (pairOf (m + up.toNat) q) := by
  have h53 : shl .u64 1 (53 : Int) = 9007199254740992 := by decide
  have hw : IntKind.u64.wrap (53 : Int) = 53 := u64_w (by omega) (by omega)
  simp only [portageref03_near.j2]
  rw [hw, h53]
  unfold pairOf
  cases up
  · simp only [Bool.false_eq_true, if_false, Bool.toNat_false, Nat.add_zero] at *
    rw [if_pos (by omega)]
    by_cases c : m = 2^53
    · rw [if_pos (by omega), if_pos c]
      subst c
      have : Int.tdiv ((2^53 : Nat) : Int) 2 = 4503599627370496 := by decide
      rw [this, u64_w (by omega) (by omega), w64 (by omega) (by omega)]
    · rw [if_neg (by omega), if_neg c]
  · simp only [if_true, Bool.toNat_true] at *
    rw [if_pos (by omega), u64_w (x := (m : Int) + 1) (by omega) (by omega)]
    by_cases c : m + 1 = 2^53
    · rw [if_pos (by omega), if_pos c]
      have : Int.tdiv ((m : Int) + 1) 2 = 4503599627370496 := by
        rw [show (m : Int) + 1 = 9007199254740992 by omega]; decide
      rw [this, u64_w (by omega) (by omega), w64 (by omega) (by omega)]
    · rw [if_neg (by omega), if_neg c]; rfl

/-- E: the place of the last digit that is kept, from the least on; d: how much lies beneath it -/
theorem near_ev (n : Nat) (e : Int) (more : Bool) (hn : n ≠ 0) (hsh : Sh n) (he : -100000 ≤ e ∧ e ≤ 100000) (hbl : bl n ≤ 100000) (E : Nat) (hE : E = (e + 1074 + n.log2 - 52).toNat) (d g : Nat) (hdg : (d : Int) - g = E - (e + 1074)) (hg0 : g = 0 ∨ d = 0) (hmore : more = true → 0 < d)
    (m : Nat) (hm : m = if d = 0 then n * 2^g else rneH (n / 2^(d-1)) (!more && n % 2^(d-1) == 0)) (hm53 : m ≤ 2^53) :
    Ev (fun k => portageref03_near.f k (big n) e more 53 (-1074)) (pairOf m ((E : Int) - 1074)) := by
  have hlog : (bl n : Int) = n.log2 + 1 := by unfold bl; rw [if_neg hn]; omega
  have hbits := bits_ev n hsh
  -- the rest
  have hrest : Ev (fun k => portageref03_near.j0 k (big n) e more 53 ((E : Int) - 1074)) (pairOf m ((E : Int) - 1074)) := by
    by_cases hd : d = 0
    · rw [if_pos hd] at hm
      have hup := up_ev n g hsh (by omega)
      have hlt : m < 2^64 := by omega
      rw [← hm] at hup
      have hmlt : m < 2^53 := by
        have h1 := lt_bl n
        have h2 : n * 2^g < 2^(bl n + g) := by rw [Nat.pow_add]; exact Nat.mul_lt_mul_of_pos_right h1 (Nat.two_pow_pos g)
        have h3 : (2:Nat)^(bl n + g) ≤ 2^53 := Nat.pow_le_pow_right (by omega) (by omega)
        omega
      have hp : pairOf m ((E : Int) - 1074) = ((m : Int), (E : Int) - 1074) := by unfold pairOf; rw [if_neg (by omega)]
      rw [hp]
      obtain ⟨K1, h1⟩ := hup
      refine ⟨K1 + 1, fun k hk => ?_⟩
      obtain ⟨k, rfl⟩ : ∃ m, k = m + 1 := ⟨k-1, by omega⟩
      simp only [portageref03_near.j0]
      rw [w64 (x := (E : Int) - 1074 - e) (by omega) (by omega), if_pos (by omega), w64 (by omega) (by omega), show -((E : Int) - 1074 - e) = (g : Int) by omega]
      rw [show portageref03_Up.f k (big n) (g : Int) = some (big m) from h1 k (by omega)]
      simp only [Option.bind_some]
      rw [small_eq m hlt]; rfl
    · rw [if_neg hd] at hm
      have hdown := down_ev n d hsh (by omega)
      have hP := Nat.two_pow_pos (d-1)
      have hq2 : n / 2^d = n / 2^(d-1) / 2 := by
        rw [Nat.div_div_eq_div_mul, ← Nat.pow_succ, show (d-1).succ = d by omega]
      have hms : n / 2^d ≤ m := by rw [hm, hq2]; unfold rneH; split <;> omega
      have hlt : n / 2^d < 2^64 := by omega
      have hbit := bit_eq n (d-1) hsh (by omega)
      have hben := beneath_ev n (d-1) hsh (by omega)
      obtain ⟨half, hhalf⟩ : ∃ half, half = (((n / 2^(d-1) % 2 : Nat) : Int) == 1) := ⟨_, rfl⟩
      obtain ⟨rest, hr⟩ : ∃ rest, rest = (more || n % 2^(d-1) != 0) := ⟨_, rfl⟩
      have hup : m = n / 2^d + (half && (rest || (n / 2^d % 2 == 1))).toNat := by
        rw [hm, hhalf, hr, hq2]
        generalize n / 2^(d-1) = h
        unfold rneH
        by_cases c1 : h % 2 = 1
        · have e1 : (((h % 2 : Nat) : Int) == 1) = true := by rw [c1]; rfl
          rw [e1, Bool.true_and]
          by_cases c2 : (!more && n % 2^(d-1) == 0) = false
          · rw [if_pos ⟨c1, Or.inl c2⟩]
            have : (more || n % 2^(d-1) != 0) = true := by
              cases more
              · simpa using c2
              · rfl
            rw [this]; rfl
          · have c3 : (!more && n % 2^(d-1) == 0) = true := by simpa using c2
            have : (more || n % 2^(d-1) != 0) = false := by
              cases more
              · simpa using c3
              · simp at c3
            rw [this, Bool.false_or]
            by_cases c4 : h / 2 % 2 = 1
            · rw [if_pos ⟨c1, Or.inr c4⟩, show (h / 2 % 2 == 1) = true by simpa using c4]; rfl
            · rw [if_neg (by rintro ⟨_, h5 | h5⟩; exact c2 h5; exact c4 h5), show (h / 2 % 2 == 1) = false by simpa using c4]; rfl
        · have e1 : (((h % 2 : Nat) : Int) == 1) = false := by simp; omega
          rw [e1, if_neg (fun h => c1 h.1)]; rfl
      -- j1
      have hj1 : Ev (fun k => portageref03_near.j1 k 53 ((E : Int) - 1074) ((n / 2^d : Nat) : Int) half rest) (pairOf m ((E : Int) - 1074)) := by
        have hj2 : ∀ up : Bool, m = n / 2^d + up.toNat → Ev (fun k => portageref03_near.j2 k 53 ((E : Int) - 1074) ((n / 2^d : Nat) : Int) up) (pairOf m ((E : Int) - 1074)) := by
          intro up hmu
          refine ⟨1, fun k hk => ?_⟩
          obtain ⟨k, rfl⟩ : ∃ m, k = m + 1 := ⟨k-1, by omega⟩
          rw [hmu]
          exact near_j2 _ _ _ (by omega) ⟨by omega, by omega⟩ k
        have := hj2 _ hup
        refine ev_next (fun k => ?_) this
        simp only [portageref03_near.j1]
        have htm : (Int.tmod ((n / 2^d : Nat) : Int) 2 == 1) = (n / 2^d % 2 == 1) := by
          have : Int.tmod ((n / 2^d : Nat) : Int) 2 = ((n / 2^d % 2 : Nat) : Int) := rfl
          rw [this]
          have h2 : n / 2^d % 2 = 0 ∨ n / 2^d % 2 = 1 := by omega
          rcases h2 with h2 | h2 <;> rw [h2] <;> rfl
        cases half
        · simp
        · cases rest
          · simp only [if_true, Bool.false_eq_true, if_false, Bool.true_and, Bool.false_or, htm]
          · simp
      have hrestE : Ev (fun k => if more = true then portageref03_near.j1 k 53 ((E : Int) - 1074) ((n / 2^d : Nat) : Int) half true else (portageref03_Beneath.f k (big n) (((d-1 : Nat)) : Int)).bind fun t => portageref03_near.j1 k 53 ((E : Int) - 1074) ((n / 2^d : Nat) : Int) half t) (pairOf m ((E : Int) - 1074)) := by
        cases more
        · simp only [Bool.false_eq_true, if_false]
          rw [Bool.false_or] at hr
          rw [← hr] at hben
          exact Ev.bind hben hj1
        · simp only [if_true]
          rw [Bool.true_or] at hr
          rw [hr] at hj1; exact hj1
      obtain ⟨K1, h1⟩ := hdown
      obtain ⟨K2, h2⟩ := hrestE
      refine ⟨max K1 K2 + 1, fun k hk => ?_⟩
      obtain ⟨k, rfl⟩ : ∃ m, k = m + 1 := ⟨k-1, by omega⟩
      simp only [portageref03_near.j0]
      rw [w64 (x := (E : Int) - 1074 - e) (by omega) (by omega), if_neg (by omega), w64 (by omega) (by omega), show (E : Int) - 1074 - e = (d : Int) by omega, show (d : Int) - 1 = ((d - 1 : Nat) : Int) by omega]
      rw [show portageref03_Down.f k (big n) (d : Int) = some _ from h1 k (by omega)]
      simp only [Option.bind_some]
      rw [small_eq _ hlt, hbit]
      simp only [Option.bind_some]
      rw [← hhalf]
      exact h2 k (by omega)
  obtain ⟨K1, h1⟩ := hbits
  obtain ⟨K2, h2⟩ := hrest
  refine ⟨max K1 K2 + 1, fun k hk => ?_⟩
  simp only [portageref03_near.f]
  rw [show portageref03_Bits.f k (big n) = some _ from h1 k (by omega)]
  simp only [Option.bind_some]
  rw [w64 (x := ((bl n : Nat) : Int) - 53) (by omega) (by omega), w64 (by omega) (by omega)]
  by_cases c : ((bl n : Nat) : Int) - 53 + e < -1074
  · rw [if_pos c]
    have := h2 k (by omega)
    rw [show (E : Int) - 1074 = -1074 by omega] at this ⊢
    exact this
  · rw [if_neg c, show ((bl n : Nat) : Int) - 53 + e = (E : Int) - 1074 by omega]
    exact h2 k (by omega)
end Go.Proofs.Ytapgnackoclbeaa.PReal
