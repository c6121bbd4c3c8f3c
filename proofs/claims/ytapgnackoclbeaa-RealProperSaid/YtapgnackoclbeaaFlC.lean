import Derived.Test.YtapgnackoclbeaaFlB
namespace Go.Proofs.Ytapgnackoclbeaa.Fl
open Ieee

theorem two63 : (2:Nat)^63 = 9223372036854775808 := rfl
def infR : Nat := 9218868437227405312
theorem infR_is : double.infRung = infR := by decide
theorem signWeight_is : double.signWeight = 2^63 := by decide
theorem binade_is : double.binade = 2^52 := by decide
theorem lp_is : double.leastPlace = -1074 := by decide

/-- the sign of a word, its rung -/
def sgn (w : Nat) : Bool := w / 2^63 % 2 == 1
def rung (w : Nat) : Nat := w % 2^63
/-- what a word stands for, in units of 2^-1074; an infinity stands for the value behind the greatest -/
def val (w : Nat) : Int := if sgn w then -(rv (rung w) : Int) else (rv (rung w) : Int)
/-- the word of a sign and a rung -/
def word (neg : Bool) (k : Nat) : Nat := if neg then 2^63 + k else k
theorem word_is (neg : Bool) (k : Nat) : double.word neg k = word neg k := by
  unfold Format.word word; rw [signWeight_is]

theorem word_lt {neg : Bool} {k : Nat} (h : k < 2^63) : word neg k < 2^64 := by unfold word; split <;> omega
theorem sgn_word {neg : Bool} {k : Nat} (h : k < 2^63) : sgn (word neg k) = neg := by
  unfold sgn word
  cases neg
  · have : k / 2^63 % 2 = 0 := by omega
    simp [this]
  · have : (2^63 + k) / 2^63 % 2 = 1 := by omega
    simp only [if_true]; rw [this]; rfl
theorem rung_word {neg : Bool} {k : Nat} (h : k < 2^63) : rung (word neg k) = k := by
  unfold rung word; split <;> omega
theorem word_of (w : Nat) (h : w < 2^64) : word (sgn w) (rung w) = w := by
  unfold word sgn rung
  by_cases h1 : w / 2^63 % 2 = 1
  · rw [h1]; simp; omega
  · have : (w / 2^63 % 2 == 1) = false := by simpa using h1
    rw [this]; simp; omega
theorem rung_lt (w : Nat) : rung w < 2^63 := Nat.mod_lt _ (by omega)

theorem read_def (w : Nat) : double.read w = if rung w < 2^52 then Datum.number (sgn w) (rung w) (-1074) else if rung w < infR then Datum.number (sgn w) (2^52 + rung w % 2^52) (-1074 + (rung w / 2^52 - 1 : Nat)) else if rung w = infR then Datum.infinity (sgn w) else Datum.nan (sgn w) (rung w - infR) := by
  unfold Format.read
  rw [signWeight_is, binade_is, infR_is, lp_is]
  rfl

/-- the classes -/
theorem read_finite {w : Nat} (h : rung w < infR) : ∃ m pl, double.read w = .number (sgn w) m pl ∧ -1074 ≤ pl ∧ m * 2^(pl+1074).toNat = rv (rung w) ∧ m < 2^53 ∧ (m = 0 → rung w = 0) := by
  rw [read_def]
  by_cases h1 : rung w < 2^52
  · rw [if_pos h1]
    refine ⟨_, _, rfl, by omega, ?_, by omega, id⟩
    rw [rv_small (by omega)]; simp
  · rw [if_neg h1, if_pos h]
    refine ⟨_, _, rfl, by omega, ?_, by omega, by omega⟩
    unfold rv
    rw [if_neg h1]
    congr 2
    omega
theorem infR_ge : (2^52 : Nat) ≤ infR := by decide
theorem read_inf {w : Nat} (h : rung w = infR) : double.read w = .infinity (sgn w) := by
  have := infR_ge
  rw [read_def, if_neg (by omega), if_neg (by omega), if_pos h]
theorem read_nan {w : Nat} (h : infR < rung w) : double.read w = .nan (sgn w) (rung w - infR) := by
  have := infR_ge
  rw [read_def, if_neg (by omega), if_neg (by omega), if_neg (by omega)]

/-- the word of a number that is A/B in units of 2^-1074 -/
def rndW (neg : Bool) (A B : Nat) : Nat := word neg (min (rndQ A B) infR)

theorem rndQ_zero (B : Nat) : rndQ 0 B = 0 := by
  unfold rndQ
  rw [Nat.mul_zero, Nat.zero_div, Nat.zero_mod]
  exact rndT_of_near (k := 0) ⟨Or.inl (by unfold mid; have := rv_lt_succ 0; omega), Or.inl rfl⟩

theorem nearest_W (neg : Bool) (mag : Nat) (place : Int) (A B : Nat) (hB : 0 < B) (hAB : A * 2^(-(place+1074)).toNat = mag * 2^(place+1074).toNat * B) :
    double.nearest neg mag place = rndW neg A B := by
  by_cases hm : mag = 0
  · subst hm
    have hA : A = 0 := by
      rw [Nat.zero_mul, Nat.zero_mul] at hAB
      rcases Nat.mul_eq_zero.mp hAB with h | h
      · exact h
      · have := Nat.two_pow_pos (-(place+1074)).toNat; omega
    subst hA
    unfold Format.nearest rndW
    rw [if_pos rfl, rndQ_zero, word_is]; rfl
  · rw [nearest_eq neg mag place A B (by omega) hB hAB, word_is, infR_is]; rfl

theorem signed_val (neg : Bool) (m : Nat) (u : Nat) : signed neg m u = if neg then -((m * 2^u : Nat) : Int) else ((m * 2^u : Nat) : Int) := by
  unfold signed; rw [Nat.shiftLeft_eq]

/-- the sum of two finite words -/
def addW (a b : Nat) : Nat :=
  if val a + val b = 0 then word (sgn a && sgn b) 0 else rndW (val a + val b < 0) (val a + val b).natAbs 1

theorem add_finite {a b : Nat} (ha : rung a < infR) (hb : rung b < infR) : double.add a b = some (addW a b) := by
  obtain ⟨m, i, hra, hi, hma, _⟩ := read_finite ha
  obtain ⟨n, j, hrb, hj, hnb, _⟩ := read_finite hb
  unfold Format.add
  rw [hra, hrb]
  simp only [Datum.sum, Option.map_some]
  congr 1
  obtain ⟨base, hbase⟩ : ∃ base, base = min i j := ⟨_, rfl⟩
  rw [← hbase]
  -- the total
  have key : ∀ (s : Bool) (x : Nat) (p : Int) (v : Nat), base ≤ p → x * 2^(p+1074).toNat = v → signed s x (p - base).toNat * (2:Int)^(base+1074).toNat = if s then -(v:Int) else (v:Int) := by
    intro s x p v hp hv
    rw [signed_val]
    have : x * 2^(p-base).toNat * 2^(base+1074).toNat = v := by
      rw [Nat.mul_assoc, ← Nat.pow_add, ← hv]; congr 2; omega
    have h2 : ((x * 2^(p-base).toNat : Nat) : Int) * (2:Int)^(base+1074).toNat = (v:Int) := by
      rw [← this]; push_cast; rfl
    split
    · rw [Int.neg_mul, h2]
    · exact h2
  have k1 := key (sgn a) m i _ (by omega) hma
  have k2 := key (sgn b) n j _ (by omega) hnb
  generalize ht1 : signed (sgn a) m (i - base).toNat = t1 at *
  generalize ht2 : signed (sgn b) n (j - base).toNat = t2 at *
  have hsum : (t1 + t2) * (2:Int)^(base+1074).toNat = val a + val b := by
    rw [Int.add_mul, k1, k2]; rfl
  have hP : (0:Int) < (2:Int)^(base+1074).toNat := Int.pow_pos (by omega)
  unfold Format.write addW
  simp only
  by_cases h0 : t1 + t2 = 0
  · have hv : val a + val b = 0 := by rw [← hsum, h0, Int.zero_mul]
    rw [if_pos h0, if_pos hv, h0]
    show double.nearest _ 0 base = _
    rw [nearest_W _ 0 base 0 1 (by omega) (by simp)]
    unfold rndW
    rw [rndQ_zero]; rfl
  · have hv : val a + val b ≠ 0 := by
      rw [← hsum]; intro h
      rcases Int.mul_eq_zero.mp h with h | h
      · exact h0 h
      · omega
    rw [if_neg h0, if_neg hv]
    have hneg : (decide (t1 + t2 < 0)) = decide (val a + val b < 0) := by
      rw [← hsum, decide_eq_decide]
      constructor
      · intro h; exact Int.mul_neg_of_neg_of_pos h hP
      · intro h
        by_cases hh : t1 + t2 < 0
        · exact hh
        · have := Int.mul_nonneg (by omega : 0 ≤ t1 + t2) (Int.le_of_lt hP); omega
    rw [hneg]
    apply nearest_W _ _ _ _ _ (by omega)
    rw [show (-(base+1074)).toNat = 0 by omega, Nat.pow_zero, Nat.mul_one, Nat.mul_one, ← hsum, Int.natAbs_mul, Int.natAbs_pow]; rfl

/-- a word with the other sign -/
def negW (b : Nat) : Nat := word (!sgn b) (rung b)
theorem sgn_neg (b : Nat) : sgn (negW b) = !sgn b := sgn_word (rung_lt b)
theorem rung_neg (b : Nat) : rung (negW b) = rung b := rung_word (rung_lt b)
theorem val_neg (b : Nat) : val (negW b) = - val b := by
  unfold val; rw [sgn_neg, rung_neg]; cases sgn b <;> simp
theorem read_neg (b : Nat) : double.read (negW b) = (double.read b).opposite := by
  rw [read_def, read_def, sgn_neg, rung_neg]
  split
  · rfl
  · split
    · rfl
    · split <;> rfl
theorem neg_neg (b : Nat) (h : b < 2^64) : negW (negW b) = b := by
  unfold negW
  rw [sgn_word (rung_lt b), rung_word (rung_lt b), Bool.not_not]
  exact word_of b h

theorem sub_add (a b : Nat) : double.sub a b = double.add a (negW b) := by
  unfold Format.sub Format.add; rw [read_neg]

theorem add_nan {a b : Nat} (h : infR < rung a ∨ infR < rung b) : double.add a b = none := by
  unfold Format.add
  rcases h with h | h <;> rw [read_nan h]
  · rfl
  · cases double.read a <;> rfl
theorem add_inf_inf {a b : Nat} (ha : rung a = infR) (hb : rung b = infR) : double.add a b = if sgn a = sgn b then some (word (sgn a) infR) else none := by
  unfold Format.add
  rw [read_inf ha, read_inf hb]
  simp only [Datum.sum]
  split
  · simp only [Option.map_some, Format.write, word_is, infR_is]
  · rfl
theorem add_inf_left {a b : Nat} (ha : rung a = infR) (hb : rung b < infR) : double.add a b = some (word (sgn a) infR) := by
  obtain ⟨m, i, hr, _⟩ := read_finite hb
  unfold Format.add
  rw [read_inf ha, hr]
  simp only [Datum.sum, Option.map_some, Format.write, word_is, infR_is]
theorem add_inf_right {a b : Nat} (ha : rung a < infR) (hb : rung b = infR) : double.add a b = some (word (sgn b) infR) := by
  obtain ⟨m, i, hr, _⟩ := read_finite ha
  unfold Format.add
  rw [read_inf hb, hr]
  simp only [Datum.sum, Option.map_some, Format.write, word_is, infR_is]

/-- 2^1074, by a name -/
def uE : Nat := 1074
theorem uE_is : uE = 1074 := rfl
def U : Nat := 2^uE
theorem U_pos : 0 < U := Nat.two_pow_pos _

/-- the product of two finite words -/
def mulW (a b : Nat) : Nat := rndW (sgn a ^^ sgn b) (rv (rung a) * rv (rung b)) U
theorem mul_finite {a b : Nat} (ha : rung a < infR) (hb : rung b < infR) : double.mul a b = some (mulW a b) := by
  obtain ⟨m, i, hra, hi, hma, _⟩ := read_finite ha
  obtain ⟨n, j, hrb, hj, hnb, _⟩ := read_finite hb
  unfold Format.mul mulW
  rw [hra, hrb]
  simp only [Datum.product, Option.map_some, Format.write]
  congr 1
  apply nearest_W _ _ _ _ _ U_pos
  rw [← hma, ← hnb]
  have e1 : 2^(i+1074).toNat * 2^(j+1074).toNat * 2^(-(i+j+1074)).toNat = 2^(i+j+1074).toNat * U := by
    unfold U
    rw [← Nat.pow_add, ← Nat.pow_add, ← Nat.pow_add]; congr 1; rw [uE_is]; omega
  calc m * 2^(i+1074).toNat * (n * 2^(j+1074).toNat) * 2^(-(i+j+1074)).toNat
      = m * n * (2^(i+1074).toNat * 2^(j+1074).toNat * 2^(-(i+j+1074)).toNat) := by simp only [Nat.mul_assoc, Nat.mul_left_comm]
    _ = _ := by rw [e1, ← Nat.mul_assoc]
theorem mul_nan {a b : Nat} (h : infR < rung a ∨ infR < rung b) : double.mul a b = none := by
  unfold Format.mul
  rcases h with h | h <;> rw [read_nan h]
  · rfl
  · cases double.read a <;> rfl
theorem mul_inf_left {a b : Nat} (ha : rung a = infR) (hb : rung b < infR) : double.mul a b = if rung b = 0 then none else some (word (sgn a ^^ sgn b) infR) := by
  obtain ⟨n, i, hr, _, hv, _, h0⟩ := read_finite hb
  unfold Format.mul
  rw [read_inf ha, hr]
  simp only [Datum.product]
  by_cases hn : n = 0
  · rw [if_pos hn, if_pos (h0 hn)]; rfl
  · rw [if_neg hn, if_neg]
    · simp only [Option.map_some, Format.write, word_is, infR_is]
    · intro h; rw [h] at hv
      have : n * 2^(i+1074).toNat = 0 := by rw [hv]; rfl
      rcases Nat.mul_eq_zero.mp this with h | h
      · exact hn h
      · have := Nat.two_pow_pos (i+1074).toNat; omega
theorem mul_inf_right {a b : Nat} (ha : rung a < infR) (hb : rung b = infR) : double.mul a b = if rung a = 0 then none else some (word (sgn a ^^ sgn b) infR) := by
  obtain ⟨n, i, hr, _, hv, _, h0⟩ := read_finite ha
  unfold Format.mul
  rw [read_inf hb, hr]
  simp only [Datum.product]
  by_cases hn : n = 0
  · rw [if_pos hn, if_pos (h0 hn)]; rfl
  · rw [if_neg hn, if_neg]
    · simp only [Option.map_some, Format.write, word_is, infR_is, Bool.xor_comm]
    · intro h; rw [h] at hv
      have : n * 2^(i+1074).toNat = 0 := by rw [hv]; rfl
      rcases Nat.mul_eq_zero.mp this with h | h
      · exact hn h
      · have := Nat.two_pow_pos (i+1074).toNat; omega
theorem mul_inf_inf {a b : Nat} (ha : rung a = infR) (hb : rung b = infR) : double.mul a b = some (word (sgn a ^^ sgn b) infR) := by
  unfold Format.mul
  rw [read_inf ha, read_inf hb]
  simp only [Datum.product, Option.map_some, Format.write, word_is, infR_is]

/-- order -/
def topE : Nat := 2046
theorem topE_is : topE = 2046 := rfl
theorem rv_inf : rv infR = 2^52 * 2^topE := by
  have := rv_norm topE (2^52) (by omega) (by omega)
  rw [show topE * 2^52 + 2^52 = infR by decide] at this
  exact this
theorem cmp_def (x y : Int) : compare x y = if x < y then .lt else if x = y then .eq else .gt := by
  show compareOfLessAndEq x y = _
  rfl
theorem order_finite {a b : Nat} (ha : rung a < infR) (hb : rung b < infR) : double.order a b = some (compare (val a) (val b)) := by
  obtain ⟨m, i, hra, hi, hma, _⟩ := read_finite ha
  obtain ⟨n, j, hrb, hj, hnb, _⟩ := read_finite hb
  unfold Format.order
  rw [hra, hrb]
  simp only [Datum.order]
  congr 1
  obtain ⟨base, hbase⟩ : ∃ base, base = min i j := ⟨_, rfl⟩
  rw [← hbase]
  have key : ∀ (s : Bool) (x : Nat) (p : Int) (v : Nat), base ≤ p → x * 2^(p+1074).toNat = v → signed s x (p - base).toNat * (2:Int)^(base+1074).toNat = if s then -(v:Int) else (v:Int) := by
    intro s x p v hp hv
    rw [signed_val]
    have : x * 2^(p-base).toNat * 2^(base+1074).toNat = v := by
      rw [Nat.mul_assoc, ← Nat.pow_add, ← hv]; congr 2; omega
    have h2 : ((x * 2^(p-base).toNat : Nat) : Int) * (2:Int)^(base+1074).toNat = (v:Int) := by
      rw [← this]; push_cast; rfl
    split
    · rw [Int.neg_mul, h2]
    · exact h2
  have k1 : _ = val a := key (sgn a) m i _ (by omega) hma
  have k2 : _ = val b := key (sgn b) n j _ (by omega) hnb
  rw [← k1, ← k2]
  have hP : (0:Int) < (2:Int)^(base+1074).toNat := Int.pow_pos (by omega)
  generalize (2:Int)^(base+1074).toNat = P at *
  generalize signed (sgn a) m (i - base).toNat = t1 at *
  generalize signed (sgn b) n (j - base).toNat = t2 at *
  rcases Int.lt_trichotomy t1 t2 with h | h | h
  · rw [cmp_def, cmp_def, if_pos h, if_pos (Int.mul_lt_mul_of_pos_right h hP)]
  · rw [h, cmp_def, cmp_def, if_neg (by omega), if_pos rfl, if_neg (by omega), if_pos rfl]
  · have h2 := Int.mul_lt_mul_of_pos_right h hP
    rw [cmp_def, cmp_def, if_neg (by omega), if_neg (by omega), if_neg (by omega), if_neg (by omega)]

/-- order, of all that are no NaN -/
theorem val_pos {a : Nat} (h : sgn a = false) : val a = rv (rung a) := by unfold val; rw [h]; rfl
theorem val_negv {a : Nat} (h : sgn a = true) : val a = -(rv (rung a) : Int) := by unfold val; rw [h]; rfl
theorem order_real {a b : Nat} (ha : rung a ≤ infR) (hb : rung b ≤ infR) : double.order a b = some (compare (val a) (val b)) := by
  have hinf : (0:Int) < rv infR := by
    have := rv_lt (show 0 < infR by decide); omega
  rcases Nat.lt_or_eq_of_le ha with ha | ha <;> rcases Nat.lt_or_eq_of_le hb with hb | hb
  · exact order_finite ha hb
  · obtain ⟨m, i, hra, _⟩ := read_finite ha
    have h1 := rv_lt ha
    unfold Format.order
    rw [read_inf hb, hra]
    simp only [Datum.order]
    congr 1
    cases hs : sgn b
    · show Ordering.lt = _
      rw [val_pos hs, hb, cmp_def, if_pos]
      unfold val; split <;> omega
    · show Ordering.gt = _
      rw [val_negv hs, hb, cmp_def, if_neg, if_neg]
      all_goals (unfold val; split <;> omega)
  · obtain ⟨m, i, hra, _⟩ := read_finite hb
    have h1 := rv_lt hb
    unfold Format.order
    rw [read_inf ha, hra]
    simp only [Datum.order]
    congr 1
    cases hs : sgn a
    · show Ordering.gt = _
      rw [val_pos hs, ha, cmp_def, if_neg, if_neg]
      all_goals (unfold val; split <;> omega)
    · show Ordering.lt = _
      rw [val_negv hs, ha, cmp_def, if_pos]
      unfold val; split <;> omega
  · unfold Format.order
    rw [read_inf ha, read_inf hb]
    simp only [Datum.order]
    congr 1
    cases hs : sgn a <;> cases ht : sgn b
    · rw [val_pos hs, val_pos ht, ha, hb, cmp_def, if_neg (by omega), if_pos rfl]; rfl
    · rw [val_pos hs, val_negv ht, ha, hb, cmp_def, if_neg (by omega), if_neg (by omega)]; rfl
    · rw [val_negv hs, val_pos ht, ha, hb, cmp_def, if_pos (by omega)]; rfl
    · rw [val_negv hs, val_negv ht, ha, hb, cmp_def, if_neg (by omega), if_pos rfl]; rfl
theorem order_nan {a b : Nat} (h : infR < rung a ∨ infR < rung b) : double.order a b = none := by
  unfold Format.order
  rcases h with h | h <;> rw [read_nan h]
  · rfl
  · cases double.read a <;> rfl

/-- the key of a word: its place in the order -/
def key (a : Nat) : Int := if sgn a then -(rung a : Int) else (rung a : Int)
theorem val_lt_iff (a b : Nat) : val a < val b ↔ key a < key b := by
  have h1 : ∀ x y : Nat, rv x < rv y ↔ x < y := fun x y => by
    constructor
    · intro h
      by_cases hh : x < y
      · exact hh
      · have := rv_le (show y ≤ x by omega); omega
    · exact rv_lt
  have h2 : ∀ x : Nat, rv x = 0 ↔ x = 0 := fun x => by
    constructor
    · intro h
      by_cases hx : x = 0
      · exact hx
      · have := rv_lt (show 0 < x by omega); omega
    · intro h; rw [h]; rfl
  have a1 := h1 (rung a) (rung b)
  have a2 := h1 (rung b) (rung a)
  have a3 := h2 (rung a)
  have a4 := h2 (rung b)
  unfold val key
  split <;> split <;> omega
theorem val_eq_iff (a b : Nat) : val a = val b ↔ key a = key b := by
  have h1 := val_lt_iff a b
  have h2 := val_lt_iff b a
  constructor <;> intro h <;> omega
end Go.Proofs.Ytapgnackoclbeaa.Fl
