/-
  Plain arithmetic of numbers that are told by digits of 32 bits: sums, differences, rows of products, long division, rounds of Euclid.
  No condition: plain lemmas over natural numbers and integers; no program.
-/
namespace Go.Proofs.Ytkabmpbfabgkfaa.Big

/-- Digit i (32 bits) of a natural number. -/
def dg (n i : Nat) : Int := ((n / 2 ^ (32 * i) % 4294967296 : Nat) : Int)

theorem dg_lo (n i : Nat) : 0 ≤ dg n i := by unfold dg; omega
theorem dg_hi (n i : Nat) : dg n i ≤ 4294967295 := by unfold dg; omega
theorem dg0 (n : Nat) : dg n 0 = ((n % 4294967296 : Nat) : Int) := by simp [dg]
theorem dg1 (n : Nat) : dg n 1 = ((n / 4294967296 % 4294967296 : Nat) : Int) := by simp [dg]
theorem dg2 (n : Nat) : dg n 2 = ((n / 18446744073709551616 % 4294967296 : Nat) : Int) := by simp [dg]
theorem dg3 (n : Nat) : dg n 3 = ((n / 79228162514264337593543950336 % 4294967296 : Nat) : Int) := by simp [dg]

/-- Carry of a sum out of the digits below k. -/
def cy (a b k : Nat) : Int := (((a % 2 ^ (32 * k) + b % 2 ^ (32 * k)) / 2 ^ (32 * k) : Nat) : Int)
theorem cy0 (a b : Nat) : cy a b 0 = 0 := by simp [cy, Nat.mod_one]
theorem cy_lo (a b k : Nat) : 0 ≤ cy a b k := Int.natCast_nonneg _
theorem pow_split (k : Nat) : 2 ^ (32 * (k + 1)) = 2 ^ (32 * k) * 4294967296 := by
  rw [show 32 * (k + 1) = 32 * k + 32 by omega, Nat.pow_add]
theorem cy_hi (a b k : Nat) : cy a b k ≤ 1 := by
  unfold cy
  have hp : 0 < 2 ^ (32 * k) := Nat.two_pow_pos _
  have h1 := Nat.mod_lt a hp
  have h2 := Nat.mod_lt b hp
  have : (a % 2 ^ (32 * k) + b % 2 ^ (32 * k)) / 2 ^ (32 * k) < 2 := Nat.div_lt_of_lt_mul (by omega)
  omega
/-- n % p*q = n % p + p * (n / p % q) -/
theorem mod_split (n k : Nat) : n % 2 ^ (32 * (k + 1)) = n % 2 ^ (32 * k) + 2 ^ (32 * k) * (n / 2 ^ (32 * k) % 4294967296) := by
  rw [pow_split, Nat.mod_mul]
theorem add_step (a b k : Nat) :
    (dg a k + dg b k + cy a b k) % 4294967296 = dg (a + b) k ∧ (dg a k + dg b k + cy a b k) / 4294967296 = cy a b (k + 1) := by
  unfold dg cy
  rw [mod_split a, mod_split b, pow_split]
  have hp : 0 < 2 ^ (32 * k) := Nat.two_pow_pos _
  generalize 2 ^ (32 * k) = p at *
  have ha := Nat.div_add_mod a p
  have hb := Nat.div_add_mod b p
  have hla := Nat.mod_lt a hp
  have hlb := Nat.mod_lt b hp
  generalize a / p = qa at *
  generalize a % p = ra at *
  generalize b / p = qb at *
  generalize b % p = rb at *
  have e1 : (a + b) / p = qa + qb + (ra + rb) / p := by
    rw [← ha, ← hb, show p * qa + ra + (p * qb + rb) = (ra + rb) + p * (qa + qb) by grind, Nat.add_mul_div_left _ _ hp]
    omega
  have e2 : (ra + p * (qa % 4294967296) + (rb + p * (qb % 4294967296))) / (p * 4294967296) = (qa % 4294967296 + qb % 4294967296 + (ra + rb) / p) / 4294967296 := by
    rw [← Nat.div_div_eq_div_mul, show ra + p * (qa % 4294967296) + (rb + p * (qb % 4294967296)) = (ra + rb) + p * (qa % 4294967296 + qb % 4294967296) by grind, Nat.add_mul_div_left _ _ hp]
    congr 1; omega
  rw [e1, e2]
  generalize (ra + rb) / p = c
  omega

/-- Borrow of a difference out of the digits below k. -/
def bw (a b k : Nat) : Int := if a % 2 ^ (32 * k) < b % 2 ^ (32 * k) then 1 else 0
theorem bw0 (a b : Nat) : bw a b 0 = 0 := by simp [bw, Nat.mod_one]
theorem bw_lo (a b k : Nat) : 0 ≤ bw a b k := by unfold bw; split <;> omega
theorem bw_hi (a b k : Nat) : bw a b k ≤ 1 := by unfold bw; split <;> omega
theorem sub_step (a b k : Nat) (h : b ≤ a) :
    (4294967296 + dg a k - dg b k - bw a b k) % 4294967296 = dg (a - b) k ∧ 1 - (4294967296 + dg a k - dg b k - bw a b k) / 4294967296 = bw a b (k + 1) := by
  unfold dg bw
  rw [mod_split a, mod_split b]
  have hp : 0 < 2 ^ (32 * k) := Nat.two_pow_pos _
  generalize 2 ^ (32 * k) = p at *
  have ha := Nat.div_add_mod a p
  have hb := Nat.div_add_mod b p
  have hla := Nat.mod_lt a hp
  have hlb := Nat.mod_lt b hp
  generalize a / p = qa at *
  generalize a % p = ra at *
  generalize b / p = qb at *
  generalize b % p = rb at *
  have hq : qb ≤ qa := by
    by_cases hh : qb ≤ qa
    · exact hh
    · exfalso
      have : p * (qa + 1) ≤ p * qb := Nat.mul_le_mul_left _ (by omega)
      have : p * qa + p ≤ p * qb := by rw [Nat.mul_add, Nat.mul_one] at this; exact this
      omega
  have e1 : (a - b) / p = qa - qb - (if ra < rb then 1 else 0) := by
    split
    · rename_i hr
      have hq' : qb < qa := by
        by_cases hh : qb < qa
        · exact hh
        · have : qa = qb := by omega
          subst this; omega
      obtain ⟨d, rfl⟩ : ∃ d, qa = qb + 1 + d := ⟨qa - qb - 1, by omega⟩
      rw [show a - b = (ra + p - rb) + p * d by
        rw [← ha, ← hb]
        have : p * (qb + 1 + d) = p * qb + p + p * d := by grind
        omega, Nat.add_mul_div_left _ _ hp, Nat.div_eq_of_lt (by omega)]
      omega
    · rename_i hr
      obtain ⟨d, rfl⟩ : ∃ d, qa = qb + d := ⟨qa - qb, by omega⟩
      rw [show a - b = (ra - rb) + p * d by
        rw [← ha, ← hb]
        have : p * (qb + d) = p * qb + p * d := by grind
        omega, Nat.add_mul_div_left _ _ hp, Nat.div_eq_of_lt (by omega)]
      omega
  have e2 : (ra + p * (qa % 4294967296) < rb + p * (qb % 4294967296)) ↔ (qa % 4294967296 < qb % 4294967296 ∨ (qa % 4294967296 = qb % 4294967296 ∧ ra < rb)) := by
    generalize qa % 4294967296 = x
    generalize qb % 4294967296 = y
    constructor
    · intro hlt
      by_cases hxy : x < y
      · exact .inl hxy
      · right
        have : y ≤ x := by omega
        by_cases hxe : x = y
        · subst hxe; exact ⟨rfl, by omega⟩
        · exfalso
          have : p * (y + 1) ≤ p * x := Nat.mul_le_mul_left _ (by omega)
          rw [Nat.mul_add, Nat.mul_one] at this
          omega
    · rintro (hxy | ⟨hxy, hr⟩)
      · have : p * (x + 1) ≤ p * y := Nat.mul_le_mul_left _ (by omega)
        rw [Nat.mul_add, Nat.mul_one] at this
        omega
      · subst hxy; omega
  simp only [e2]
  rw [e1]
  have hq' : ra < rb → qb < qa := by
    intro hr
    by_cases hh : qb < qa
    · exact hh
    · have : qa = qb := by omega
      subst this; omega
  split <;> split <;> omega

/-- The value of a number that is told by its digits: numbers below 2^128 are alike where their digits are. -/
theorem val_dg (n : Nat) (h : n < 340282366920938463463374607431768211456) : (n : Int) = dg n 0 + 4294967296 * dg n 1 + 18446744073709551616 * dg n 2 + 79228162514264337593543950336 * dg n 3 := by
  rw [dg0, dg1, dg2, dg3]; omega

theorem lt_of_dg3 {a b : Nat} (ha : a < 340282366920938463463374607431768211456) (hb : b < 340282366920938463463374607431768211456) (h : dg a 3 < dg b 3) : a < b := by
  rw [dg3, dg3] at h; omega
/-- Comparison digit by digit, from the highest on. -/
theorem less_3 {a b : Nat} (ha : a < 340282366920938463463374607431768211456) (hb : b < 340282366920938463463374607431768211456) (h : dg a 3 ≠ dg b 3) : (dg a 3 < dg b 3) ↔ a < b := by
  rw [dg3, dg3] at *; omega
theorem less_2 {a b : Nat} (ha : a < 340282366920938463463374607431768211456) (hb : b < 340282366920938463463374607431768211456) (h3 : dg a 3 = dg b 3) (h : dg a 2 ≠ dg b 2) : (dg a 2 < dg b 2) ↔ a < b := by
  rw [dg3, dg3] at *; rw [dg2, dg2] at *; omega
theorem less_1 {a b : Nat} (ha : a < 340282366920938463463374607431768211456) (hb : b < 340282366920938463463374607431768211456) (h3 : dg a 3 = dg b 3) (h2 : dg a 2 = dg b 2) (h : dg a 1 ≠ dg b 1) : (dg a 1 < dg b 1) ↔ a < b := by
  rw [dg3, dg3] at *; rw [dg2, dg2] at *; rw [dg1, dg1] at *; omega
theorem less_0 {a b : Nat} (ha : a < 340282366920938463463374607431768211456) (hb : b < 340282366920938463463374607431768211456) (h3 : dg a 3 = dg b 3) (h2 : dg a 2 = dg b 2) (h1 : dg a 1 = dg b 1) : (dg a 0 < dg b 0) ↔ a < b := by
  rw [dg3, dg3] at *; rw [dg2, dg2] at *; rw [dg1, dg1] at *; rw [dg0, dg0] at *; omega
theorem less_eq {a b : Nat} (ha : a < 340282366920938463463374607431768211456) (hb : b < 340282366920938463463374607431768211456) (h3 : dg a 3 = dg b 3) (h2 : dg a 2 = dg b 2) (h1 : dg a 1 = dg b 1) (h : dg a 0 = dg b 0) : a = b := by
  rw [dg3, dg3] at *; rw [dg2, dg2] at *; rw [dg1, dg1] at *; rw [dg0, dg0] at *; omega
theorem zero_iff (a : Nat) (ha : a < 340282366920938463463374607431768211456) : (dg a 0 = 0 ∧ dg a 1 = 0 ∧ dg a 2 = 0 ∧ dg a 3 = 0) ↔ a = 0 := by
  rw [dg3, dg2, dg1, dg0]; omega

/-- What a row of a product has come to, the digits of b below k being done: the number t, with the k digits of (a's digit) * b added at i. -/
def mS (t a b i k : Nat) : Nat := t % 2 ^ (32 * (i + k)) + (a / 2 ^ (32 * i) % 4294967296) * (b % 2 ^ (32 * k)) * 2 ^ (32 * i)
/-- Its carry. -/
def mC (t a b i k : Nat) : Int := ((mS t a b i k / 2 ^ (32 * (i + k)) : Nat) : Int)
theorem mS0 (t a b i : Nat) : mS t a b i 0 = t % 2 ^ (32 * i) := by simp [mS, Nat.mod_one]
theorem mC0 (t a b i : Nat) : mC t a b i 0 = 0 := by
  unfold mC; rw [mS0, Nat.add_zero, Nat.div_eq_of_lt (Nat.mod_lt _ (Nat.two_pow_pos _))]; rfl
theorem mS_succ (t a b i k : Nat) : mS t a b i (k + 1) = mS t a b i k + 2 ^ (32 * (i + k)) * (t / 2 ^ (32 * (i + k)) % 4294967296 + (a / 2 ^ (32 * i) % 4294967296) * (b / 2 ^ (32 * k) % 4294967296)) := by
  unfold mS
  rw [show i + (k + 1) = (i + k) + 1 by omega, mod_split t, mod_split b]
  rw [show 32 * (i + k) = 32 * i + 32 * k by omega, Nat.pow_add]
  generalize 2 ^ (32 * i) = p
  generalize 2 ^ (32 * k) = q
  grind
theorem mC_lo (t a b i k : Nat) : 0 ≤ mC t a b i k := Int.natCast_nonneg _
theorem mC_hi (t a b i k : Nat) : mC t a b i k ≤ 4294967295 := by
  unfold mC mS
  rw [show 32 * (i + k) = 32 * i + 32 * k by omega, Nat.pow_add]
  have hp : 0 < 2 ^ (32 * i) := Nat.two_pow_pos _
  have hq : 0 < 2 ^ (32 * k) := Nat.two_pow_pos _
  generalize 2 ^ (32 * i) = p at *
  generalize 2 ^ (32 * k) = q at *
  have h1 : t % (p * q) < p * q := Nat.mod_lt _ (Nat.mul_pos hp hq)
  have h2 : a / p % 4294967296 ≤ 4294967295 := by omega
  have h3 : b % q + 1 ≤ q := Nat.mod_lt _ hq
  generalize t % (p * q) = u at *
  generalize a / p % 4294967296 = x at *
  generalize b % q = y at *
  have h4 : x * y ≤ 4294967295 * y := Nat.mul_le_mul_right _ h2
  have h5 : x * y * p ≤ 4294967295 * y * p := Nat.mul_le_mul_right _ h4
  have h6 : (y + 1) * p ≤ q * p := Nat.mul_le_mul_right _ h3
  have h7 : 4294967295 * y * p + 4294967295 * p ≤ 4294967295 * (q * p) := by
    have := Nat.mul_le_mul_left 4294967295 h6
    grind
  have : (u + x * y * p) / (p * q) < 4294967296 := by
    apply Nat.div_lt_of_lt_mul
    have e : p * q * 4294967296 = 4294967295 * (q * p) + p * q := by grind
    omega
  omega
theorem mul_step (t a b i k : Nat) :
    (dg t (i + k) + dg a i * dg b k + mC t a b i k) % 4294967296 = dg (mS t a b i (k + 1)) (i + k) ∧
    (dg t (i + k) + dg a i * dg b k + mC t a b i k) / 4294967296 = mC t a b i (k + 1) := by
  have hs := mS_succ t a b i k
  unfold dg mC
  rw [show i + (k + 1) = (i + k) + 1 by omega, pow_split, hs]
  have hp : 0 < 2 ^ (32 * (i + k)) := Nat.two_pow_pos _
  generalize mS t a b i k = s at *
  generalize 2 ^ (32 * (i + k)) = p at *
  generalize t / p % 4294967296 = x at *
  generalize a / 2 ^ (32 * i) % 4294967296 = y at *
  generalize b / 2 ^ (32 * k) % 4294967296 = z at *
  rw [← Nat.div_div_eq_div_mul, Nat.add_mul_div_left _ _ hp]
  rw [← Int.natCast_mul]
  generalize y * z = v
  generalize s / p = c
  omega
/-- Digits below i + k of the row, and those from there on: how they stand in t. -/
theorem dg_low (t a b i k j : Nat) (h : j < i + k) : dg (mS t a b i (k + 1)) j = dg (mS t a b i k) j := by
  rw [mS_succ]
  unfold dg
  obtain ⟨m, hm⟩ : ∃ m, i + k = j + 1 + m := ⟨i + k - j - 1, by omega⟩
  rw [hm, show 32 * (j + 1 + m) = 32 * j + (32 + 32 * m) by omega, Nat.pow_add, Nat.pow_add]
  have hp : 0 < 2 ^ (32 * j) := Nat.two_pow_pos _
  generalize mS t a b i k = s
  generalize (t / (2 ^ (32 * j) * (2 ^ 32 * 2 ^ (32 * m))) % 4294967296 + a / 2 ^ (32 * i) % 4294967296 * (b / 2 ^ (32 * k) % 4294967296)) = y
  generalize 2 ^ (32 * j) = p at *
  generalize 2 ^ (32 * m) = q
  rw [show p * (2 ^ 32 * q) * y = p * (4294967296 * (q * y)) by grind, Nat.add_mul_div_left _ _ hp]
  generalize s / p = c
  generalize q * y = d
  omega
/-- A row that is done: k digits with i + k = 4. -/
theorem mS_done (t a b i k : Nat) (h : i + k = 4) (ht : t = (a % 2 ^ (32 * i)) * b) (j : Nat) (hj : j < 4) : dg (mS t a b i k) j = dg ((a % 2 ^ (32 * (i + 1))) * b) j := by
  unfold mS
  rw [h]
  have e : (a % 2 ^ (32 * (i + 1))) * b = t + (a / 2 ^ (32 * i) % 4294967296) * b * 2 ^ (32 * i) := by
    rw [mod_split a, ht]; grind
  rw [e]
  have eb := Nat.div_add_mod b (2 ^ (32 * k))
  have et := Nat.div_add_mod t (2 ^ (32 * 4))
  generalize a / 2 ^ (32 * i) % 4294967296 = x at *
  have e2 : t + x * b * 2 ^ (32 * i) = (t % 2 ^ (32 * 4) + x * (b % 2 ^ (32 * k)) * 2 ^ (32 * i)) + 2 ^ (32 * 4) * (t / 2 ^ (32 * 4) + x * (b / 2 ^ (32 * k))) := by
    have : 2 ^ (32 * 4) = 2 ^ (32 * i) * 2 ^ (32 * k) := by rw [← Nat.pow_add]; congr 1; omega
    have h1 : x * b = x * (2 ^ (32 * k) * (b / 2 ^ (32 * k)) + b % 2 ^ (32 * k)) := by rw [eb]
    rw [h1]
    generalize t % 2 ^ (32 * 4) = r at *
    generalize t / 2 ^ (32 * 4) = q at *
    generalize b % 2 ^ (32 * k) = rb at *
    generalize b / 2 ^ (32 * k) = qb at *
    generalize 2 ^ (32 * i) = p at *
    generalize 2 ^ (32 * k) = p' at *
    generalize 2 ^ (32 * 4) = p'' at *
    subst this
    grind
  rw [e2]
  generalize t % 2 ^ (32 * 4) + x * (b % 2 ^ (32 * k)) * 2 ^ (32 * i) = u
  generalize t / 2 ^ (32 * 4) + x * (b / 2 ^ (32 * k)) = v
  unfold dg
  obtain ⟨m, hm⟩ : ∃ m, 4 = j + 1 + m := ⟨3 - j, by omega⟩
  rw [hm, show 32 * (j + 1 + m) = 32 * j + (32 + 32 * m) by omega, Nat.pow_add, Nat.pow_add]
  have hp : 0 < 2 ^ (32 * j) := Nat.two_pow_pos _
  generalize 2 ^ (32 * j) = p at *
  generalize 2 ^ (32 * m) = q
  rw [show p * (2 ^ 32 * q) * v = p * (4294967296 * (q * v)) by grind, Nat.add_mul_div_left _ _ hp]
  generalize u / p = c
  generalize q * v = d
  omega

/-- The row of a product when i digits of a are done. -/
def tR (A B i : Nat) : Nat := (A % 2 ^ (32 * i)) * B
def td (A B i j : Nat) : Int := dg (tR A B i) j
def mX (A B i k : Nat) : Int := td A B i (i + k) + dg A i * dg B k + mC (tR A B i) A B i k
theorem td_lo (A B i j : Nat) : 0 ≤ td A B i j := dg_lo _ _
theorem td_hi (A B i j : Nat) : td A B i j ≤ 4294967295 := dg_hi _ _
theorem td_zero (A B j : Nat) : td A B 0 j = 0 := by simp [td, tR, dg, Nat.mod_one]
theorem dg_rest (t a b i k : Nat) : ∀ d j, j < i + (k + 1) → dg (mS t a b i (k + 1 + d)) j = dg (mS t a b i (k + 1)) j := by
  intro d
  induction d with
  | zero => intro j _; rfl
  | succ d ih =>
    intro j h
    rw [show k + 1 + (d + 1) = (k + 1 + d) + 1 by omega, dg_low _ _ _ _ _ _ (by omega), ih j h]
theorem mX_dg (A B i k : Nat) (h : i + k < 4) : mX A B i k % 4294967296 = td A B (i + 1) (i + k) := by
  unfold mX td
  rw [(mul_step (tR A B i) A B i k).1, ← dg_rest _ _ _ _ _ (4 - i - k - 1) _ (by omega), mS_done (tR A B i) A B i _ (by omega) rfl _ h]
  rfl
theorem mX_mC (A B i k : Nat) : mX A B i k / 4294967296 = mC (tR A B i) A B i (k + 1) := (mul_step (tR A B i) A B i k).2
theorem mX_lo (A B i k : Nat) : 0 ≤ mX A B i k := by
  unfold mX; have := td_lo A B i (i + k); have := mC_lo (tR A B i) A B i k; have := Int.mul_nonneg (dg_lo A i) (dg_lo B k); omega
theorem dg_mul_hi (A B i k : Nat) : dg A i * dg B k ≤ 18446744065119617025 := by
  have h1 := Int.mul_le_mul (dg_hi A i) (dg_hi B k) (dg_lo B k) (by omega)
  omega
theorem mX_hi (A B i k : Nat) : mX A B i k < 18446744073709551616 := by
  unfold mX; have := td_hi A B i (i + k); have := mC_hi (tR A B i) A B i k; have := dg_mul_hi A B i k; omega
/-- A digit that later rows leave alone is the product's. -/
theorem td_done (A B j : Nat) : td A B (j + 1) j = dg (A * B) j := by
  unfold td tR dg
  have e := Nat.div_add_mod A (2 ^ (32 * (j + 1)))
  rw [pow_split] at *
  have hp : 0 < 2 ^ (32 * j) := Nat.two_pow_pos _
  generalize 2 ^ (32 * j) = p at *
  generalize A / (p * 4294967296) = q at *
  generalize A % (p * 4294967296) = r at *
  rw [← e, show (p * 4294967296 * q + r) * B = r * B + p * (4294967296 * (q * B)) by grind, Nat.add_mul_div_left _ _ hp]
  generalize r * B / p = c
  generalize q * B = d
  omega

/-- One round of a long division. -/
theorem quo_bit (a i : Nat) : a / 2 ^ i = 2 * (a / 2 ^ (i + 1)) + a / 2 ^ i % 2 := by
  rw [Nat.pow_succ, ← Nat.div_div_eq_div_mul]; omega
theorem quo_less (a b i : Nat) (h : 2 * (a / 2 ^ (i + 1) % b) + a / 2 ^ i % 2 < b) :
    a / 2 ^ i % b = 2 * (a / 2 ^ (i + 1) % b) + a / 2 ^ i % 2 ∧ a / 2 ^ i / b = 2 * (a / 2 ^ (i + 1) / b) := by
  have e := quo_bit a i
  generalize a / 2 ^ i % 2 = c at *
  rw [e]
  generalize a / 2 ^ (i + 1) = x at *
  have hx := Nat.div_add_mod x b
  generalize x / b = q at *
  generalize x % b = r at *
  have hb : 0 < b := by omega
  rw [show 2 * x + c = (2 * r + c) + b * (2 * q) by grind]
  constructor
  · rw [Nat.add_mul_mod_self_left, Nat.mod_eq_of_lt h]
  · rw [Nat.add_mul_div_left _ _ hb, Nat.div_eq_of_lt h]; omega
theorem quo_more (a b i : Nat) (hb : 0 < b) (h : b ≤ 2 * (a / 2 ^ (i + 1) % b) + a / 2 ^ i % 2) :
    a / 2 ^ i % b = 2 * (a / 2 ^ (i + 1) % b) + a / 2 ^ i % 2 - b ∧ a / 2 ^ i / b = 2 * (a / 2 ^ (i + 1) / b) + 1 := by
  have e := quo_bit a i
  have hc : a / 2 ^ i % 2 < 2 := Nat.mod_lt _ (by omega)
  generalize a / 2 ^ i % 2 = c at *
  rw [e]
  generalize a / 2 ^ (i + 1) = x at *
  have hx := Nat.div_add_mod x b
  have hr := Nat.mod_lt x hb
  generalize x / b = q at *
  generalize x % b = r at *
  rw [show 2 * x + c = (2 * r + c - b) + b * (2 * q + 1) by
    have : b * (2 * q + 1) = 2 * (b * q) + b := by grind
    omega]
  constructor
  · rw [Nat.add_mul_mod_self_left, Nat.mod_eq_of_lt (by omega)]
  · rw [Nat.add_mul_div_left _ _ hb, Nat.div_eq_of_lt (by omega)]; omega
/-- The quotient so far, in its place. -/
def qS (a b i : Nat) : Nat := a / 2 ^ i / b * 2 ^ i
theorem qS_less (a b i : Nat) (h : 2 * (a / 2 ^ (i + 1) % b) + a / 2 ^ i % 2 < b) : qS a b i = qS a b (i + 1) := by
  unfold qS; rw [(quo_less a b i h).2, Nat.pow_succ]; grind
theorem qS_more (a b i : Nat) (hb : 0 < b) (h : b ≤ 2 * (a / 2 ^ (i + 1) % b) + a / 2 ^ i % 2) : qS a b i = qS a b (i + 1) + 2 ^ i := by
  unfold qS; rw [(quo_more a b i hb h).2, Nat.pow_succ]; grind
/-- A bit of a number, out of its digit. -/
theorem dg_bit (a i : Nat) : dg a (i / 32) / ((2 ^ (i % 32) : Nat) : Int) % 2 = ((a / 2 ^ i % 2 : Nat) : Int) := by
  unfold dg
  have e : a / 2 ^ i = a / 2 ^ (32 * (i / 32)) / 2 ^ (i % 32) := by
    rw [Nat.div_div_eq_div_mul, ← Nat.pow_add]; congr 2; omega
  rw [e]
  generalize a / 2 ^ (32 * (i / 32)) = x
  have hr : i % 32 < 32 := Nat.mod_lt _ (by omega)
  generalize i % 32 = r at *
  obtain ⟨m, hm⟩ : ∃ m, 32 = r + 1 + m := ⟨31 - r, by omega⟩
  have e2 : x % 4294967296 / 2 ^ r % 2 = x / 2 ^ r % 2 := by
    have : 4294967296 = 2 ^ r * (2 * 2 ^ m) := by
      rw [show (4294967296 : Nat) = 2 ^ 32 by rfl, ← Nat.pow_succ', ← Nat.pow_add]; congr 1; omega
    rw [this, Nat.mod_mul_right_div_self, Nat.mod_mul_right_mod]
  rw [← Int.natCast_ediv, ← e2]; omega
/-- Where a bit is put into a quotient: its digit, and the others. -/
theorem dg_put (a b i j : Nat) : dg (qS a b (i + 1) + 2 ^ i) j = if j = i / 32 then dg (qS a b (i + 1)) j + ((2 ^ (i % 32) : Nat) : Int) else dg (qS a b (i + 1)) j := by
  unfold qS
  generalize a / 2 ^ (i + 1) / b = q
  unfold dg
  have hp : 0 < 2 ^ (32 * j) := Nat.two_pow_pos _
  split
  · rename_i hj
    have hi : i = 32 * j + i % 32 := by omega
    have hr : i % 32 < 32 := Nat.mod_lt _ (by omega)
    generalize i % 32 = r at *
    subst hi
    obtain ⟨m, hm⟩ : ∃ m, 32 = r + 1 + m := ⟨31 - r, by omega⟩
    have e1 : q * 2 ^ (32 * j + r + 1) = 2 ^ (32 * j) * (2 ^ r * (2 * q)) := by
      rw [Nat.pow_succ, Nat.pow_add]; grind
    rw [e1, Nat.pow_add, ← Nat.mul_add, Nat.mul_div_cancel_left _ hp, Nat.mul_div_cancel_left _ hp]
    have e3 : 4294967296 = 2 ^ r * (2 * 2 ^ m) := by
      rw [show (4294967296 : Nat) = 2 ^ 32 by rfl, ← Nat.pow_succ', ← Nat.pow_add]; congr 1; omega
    rw [show 2 ^ r * (2 * q) + 2 ^ r = 2 ^ r * (2 * q + 1) by grind, e3, Nat.mul_mod_mul_left, Nat.mul_mod_mul_left]
    have hm2 : 0 < 2 ^ m := Nat.two_pow_pos _
    have e4 : (2 * q + 1) % (2 * 2 ^ m) = 2 * q % (2 * 2 ^ m) + 1 := by
      rw [Nat.mul_mod_mul_left]
      rw [show 2 * q + 1 = (2 * (q % 2 ^ m) + 1) + (2 * 2 ^ m) * (q / 2 ^ m) by
        have := Nat.div_add_mod q (2 ^ m)
        grind]
      rw [Nat.add_mul_mod_self_left, Nat.mod_eq_of_lt]
      have := Nat.mod_lt q hm2
      omega
    rw [e4]
    push_cast
    grind
  · rename_i hj
    by_cases hlt : j < i / 32
    · obtain ⟨m, hm⟩ : ∃ m, i = 32 * j + (32 + m) := ⟨i - 32 * j - 32, by omega⟩
      rw [hm]
      rw [show q * 2 ^ (32 * j + (32 + m) + 1) + 2 ^ (32 * j + (32 + m)) = 2 ^ (32 * j) * (4294967296 * (2 ^ m * (2 * q + 1))) by
        rw [Nat.pow_succ, Nat.pow_add, Nat.pow_add]; grind]
      rw [show q * 2 ^ (32 * j + (32 + m) + 1) = 2 ^ (32 * j) * (4294967296 * (2 ^ m * (2 * q))) by
        rw [Nat.pow_succ, Nat.pow_add, Nat.pow_add]; grind]
      rw [Nat.mul_div_cancel_left _ hp, Nat.mul_div_cancel_left _ hp, Nat.mul_mod_right, Nat.mul_mod_right]
    · have hgt : i / 32 < j := by omega
      obtain ⟨m, hm⟩ : ∃ m, 32 * j = i + 1 + m := ⟨32 * j - i - 1, by omega⟩
      rw [hm, Nat.pow_add 2 (i + 1) m]
      rw [← Nat.div_div_eq_div_mul, ← Nat.div_div_eq_div_mul]
      have hp1 : 0 < 2 ^ (i + 1) := Nat.two_pow_pos _
      have hlt2 : 2 ^ i < 2 ^ (i + 1) := by rw [Nat.pow_succ]; have := Nat.two_pow_pos i; omega
      have e1 : (q * 2 ^ (i + 1) + 2 ^ i) / 2 ^ (i + 1) = q := by
        rw [show q * 2 ^ (i + 1) + 2 ^ i = 2 ^ i + 2 ^ (i + 1) * q by grind, Nat.add_mul_div_left _ _ hp1, Nat.div_eq_of_lt hlt2]; omega
      have e2 : q * 2 ^ (i + 1) / 2 ^ (i + 1) = q := Nat.mul_div_cancel _ hp1
      rw [e1, e2]
/-- The quotient's digit holds no bit at or below the place that comes next. -/
theorem dg_room (a b i : Nat) : ∃ y : Nat, dg (qS a b (i + 1)) (i / 32) = ((y * 2 ^ (i % 32 + 1) : Nat) : Int) := by
  unfold qS dg
  generalize a / 2 ^ (i + 1) / b = q
  have hr : i % 32 < 32 := Nat.mod_lt _ (by omega)
  obtain ⟨m, hm⟩ : ∃ m, 32 = i % 32 + 1 + m := ⟨31 - i % 32, by omega⟩
  refine ⟨q % 2 ^ m, ?_⟩
  have hp : 0 < 2 ^ (32 * (i / 32)) := Nat.two_pow_pos _
  rw [show q * 2 ^ (i + 1) = 2 ^ (32 * (i / 32)) * (2 ^ (i % 32 + 1) * q) by
    rw [show i + 1 = 32 * (i / 32) + (i % 32 + 1) by omega, Nat.pow_add]; grind]
  rw [Nat.mul_div_cancel_left _ hp]
  rw [show (4294967296 : Nat) = 2 ^ (i % 32 + 1) * 2 ^ m by rw [← Nat.pow_add, ← hm], Nat.mul_mod_mul_left, Nat.mul_comm]

/-- Euclid's rounds: the product of the two halves, each time. -/
theorem eu_step (x y m : Nat) (hy : 0 < y) (hxy : y ≤ x) (h : x * y * m ≤ 2 ^ 200) : y * (x % y) * (2 * m) ≤ 2 ^ 200 := by
  have h1 : 2 * (x % y) ≤ x := by
    have := Nat.div_add_mod x y
    have hl := Nat.mod_lt x hy
    have : 1 ≤ x / y := (Nat.le_div_iff_mul_le hy).2 (by omega)
    have : y * 1 ≤ y * (x / y) := Nat.mul_le_mul_left _ this
    omega
  have h2 : y * (2 * (x % y)) ≤ y * x := Nat.mul_le_mul_left _ h1
  have h3 : y * (2 * (x % y)) * m ≤ y * x * m := Nat.mul_le_mul_right _ h2
  rw [show y * (x % y) * (2 * m) = y * (2 * (x % y)) * m by grind, show x * y * m = y * x * m by grind] at *
  omega
/-- What Euclid's rounds keep. -/
def Eu (A B n x y : Nat) : Prop := x ≤ 9223372036854775808 ∧ y ≤ 9223372036854775808 ∧ Nat.gcd x y = Nat.gcd A B ∧ (n ≠ 0 → y ≤ x ∧ x * y * 2 ^ n ≤ 2 ^ 200)
theorem Eu_start (A B : Nat) (hA : A ≤ 9223372036854775808) (hB : B ≤ 9223372036854775808) : Eu A B 0 A B := ⟨hA, hB, rfl, fun h => absurd rfl h⟩
theorem Eu_step (A B n x y : Nat) (h : Eu A B n x y) (hy : 0 < y) : Eu A B (n + 1) y (x % y) := by
  obtain ⟨h1, h2, h3, h4⟩ := h
  have hm := Nat.mod_lt x hy
  refine ⟨h2, by omega, ?_, fun _ => ⟨by omega, ?_⟩⟩
  · rw [← h3, Nat.gcd_comm x y, Nat.gcd_rec y x, Nat.gcd_comm]
  · by_cases hn : n = 0
    · subst hn
      have : y * (x % y) ≤ 9223372036854775808 * 9223372036854775808 := Nat.mul_le_mul h2 (by omega)
      rw [show (2 : Nat) ^ 200 = 9223372036854775808 * 9223372036854775808 * 2 ^ 74 by decide]
      have : (2 : Nat) ^ 74 = 2 * 2 ^ 73 := by decide
      have h5 : (1 : Nat) ≤ 2 ^ 73 := Nat.one_le_two_pow
      have : y * (x % y) * 2 ^ (0 + 1) ≤ 9223372036854775808 * 9223372036854775808 * 2 ^ (0 + 1) := Nat.mul_le_mul_right _ ‹_›
      omega
    · obtain ⟨h5, h6⟩ := h4 hn
      have := eu_step x y (2 ^ n) hy h5 h6
      rw [Nat.pow_succ, Nat.mul_comm (2 ^ n) 2]
      exact this
theorem Eu_end (A B n x y : Nat) (h : Eu A B n x y) (hn : 201 ≤ n) : y = 0 := by
  obtain ⟨_, _, _, h4⟩ := h
  obtain ⟨h5, h6⟩ := h4 (by omega)
  by_cases hy : y = 0
  · exact hy
  · exfalso
    have h7 : 1 * 1 ≤ x * y := Nat.mul_le_mul (by omega) (by omega)
    have h8 : 1 * 2 ^ n ≤ x * y * 2 ^ n := Nat.mul_le_mul_right _ (by omega)
    have h9 : 2 ^ 201 ≤ 2 ^ n := Nat.pow_le_pow_right (by omega) hn
    have h10 : (2 : Nat) ^ 201 = 2 * 2 ^ 200 := by decide
    have h11 : 0 < (2 : Nat) ^ 200 := Nat.two_pow_pos _
    omega
theorem Eu_done (A B n x : Nat) (h : Eu A B n x 0) : x = Nat.gcd A B := by
  obtain ⟨_, _, h3, _⟩ := h
  rw [← h3, Nat.gcd_zero_right]
end Go.Proofs.Ytkabmpbfabgkfaa.Big
