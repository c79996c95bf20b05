/-
  carillonlaw01.NumLaws: the law returns true at every two int64s: its plain laws, and the walk.
-/
import Derived.Test.YtncohomkggnckaaLc
set_option linter.unusedVariables false
set_option linter.unusedSimpArgs false
namespace Go.Proofs.Ytncohomkggnckaa
open Go.RowKit Big

theorem wrap_add_mul (v j : Int) : wrap64 (v + 18446744073709551616 * j) = wrap64 v := by
  rw [wrap64_of, wrap64_of, show v + 18446744073709551616 * j + 9223372036854775808 = v + 9223372036854775808 + 18446744073709551616 * j by omega, Int.add_mul_emod_self_left]
theorem wrap_is (v : Int) : ∃ j, wrap64 v = v + 18446744073709551616 * j := by
  refine ⟨-((v + 9223372036854775808) / 18446744073709551616), ?_⟩
  rw [wrap64_of]; omega
theorem wrap_small (v : Int) (h1 : -9223372036854775808 ≤ v) (h2 : v ≤ 9223372036854775807) : wrap64 v = v := by rw [wrap64_of]; omega
theorem law_1 (a b : Int) (ha1 : -9223372036854775808 ≤ a) (ha2 : a ≤ 9223372036854775807) : wrap64 (wrap64 (divV a b * b) + modV a b) = a ∨ b = 0 := by
  by_cases h0 : b = 0
  · exact .inr h0
  · left
    unfold divV modV
    rw [if_neg h0, if_neg h0]
    have e := Int.mul_tdiv_add_tmod a b
    obtain ⟨i, hi⟩ := wrap_is (a.tdiv b)
    rw [hi]
    obtain ⟨j, hj⟩ := wrap_is ((a.tdiv b + 18446744073709551616 * i) * b)
    rw [hj, show (a.tdiv b + 18446744073709551616 * i) * b + 18446744073709551616 * j + a.tmod b = (b * a.tdiv b + a.tmod b) + 18446744073709551616 * (i * b + j) by grind, e, wrap_add_mul]
    exact wrap_small a ha1 ha2
theorem fit_out {v : Int} (h : fitB v = true) : fitV v = v ∧ -9223372036854775808 ≤ v ∧ v ≤ 9223372036854775807 := by
  unfold fitB at h; unfold fitV
  have := of_decide_eq_true h
  rw [if_pos this]; exact ⟨rfl, this.1, this.2⟩
theorem law_2 (a b : Int) : fitB ((Nat.gcd a.natAbs b.natAbs : Nat) : Int) = true → fitB (lcmV a b) = true → wrap64 (fitV ((Nat.gcd a.natAbs b.natAbs : Nat) : Int) * fitV (lcmV a b)) = wrap64 (a * b) ∨ wrap64 (fitV ((Nat.gcd a.natAbs b.natAbs : Nat) : Int) * fitV (lcmV a b)) = wrap64 (-wrap64 (a * b)) := by
  intro h1 h2
  rw [(fit_out h1).1, (fit_out h2).1]
  have e : ((Nat.gcd a.natAbs b.natAbs : Nat) : Int) * lcmV a b = ((a * b).natAbs : Int) := by
    unfold lcmV
    rw [← Int.natCast_mul, Int.natAbs_mul, ← Nat.mul_assoc, Nat.mul_div_cancel' (Nat.gcd_dvd_left _ _)]
  rw [e]
  by_cases h : 0 ≤ a * b
  · left; congr 1; omega
  · right
    obtain ⟨j, hj⟩ := wrap_is (a * b)
    rw [hj, show -(a * b + 18446744073709551616 * j) = -(a * b) + 18446744073709551616 * (-j) by omega, wrap_add_mul]
    congr 1; omega
theorem law_3 (a b : Int) : fitB ((Nat.gcd a.natAbs b.natAbs : Nat) : Int) = true → fitV ((Nat.gcd a.natAbs b.natAbs : Nat) : Int) ≠ 0 → a.tmod (fitV ((Nat.gcd a.natAbs b.natAbs : Nat) : Int)) = 0 ∧ b.tmod (fitV ((Nat.gcd a.natAbs b.natAbs : Nat) : Int)) = 0 := by
  intro h1 _
  rw [(fit_out h1).1]
  exact ⟨Int.tmod_eq_zero_of_dvd (Int.ofNat_dvd_left.2 (Nat.gcd_dvd_left _ _)), Int.tmod_eq_zero_of_dvd (Int.ofNat_dvd_left.2 (Nat.gcd_dvd_right _ _))⟩
theorem law_4 (a b : Int) (x y : Bool) : b = 0 → nearB x a b = false ∧ nearB y a b = false := by
  intro h; unfold nearB; rw [if_pos h, if_pos h]; exact ⟨rfl, rfl⟩
theorem near_out {x : Bool} {a b : Int} (h : nearB x a b = true) : b ≠ 0 ∧ nearI x a b = nearV x a b := by
  unfold nearB at h; unfold nearI
  by_cases hb : b = 0
  · rw [if_pos hb] at h; cases h
  · rw [if_neg hb] at h ⊢; exact ⟨hb, (fit_out h).1⟩
theorem tmod_zero (a b : Int) : a.tmod b = 0 ↔ a.natAbs % b.natAbs = 0 := by
  rw [tmod_sg]; unfold sg; split <;> omega
theorem near_two (a b : Int) : (a.natAbs % b.natAbs = 0 → nearV (ngB a b) a b = nearV (!ngB a b) a b) ∧ (a.natAbs % b.natAbs ≠ 0 → nearV (!ngB a b) a b = nearV (ngB a b) a b + 1) := by
  unfold nearV upN
  generalize ngB a b = n
  generalize a.natAbs / b.natAbs = q
  constructor
  · intro h; rw [decide_eq_false (not_not_intro h)]; simp
  · intro h; rw [decide_eq_true h]; unfold sg; cases n <;> simp <;> omega
theorem law_5 (a b : Int) : nearB (ngB a b) a b = true → nearB (!ngB a b) a b = true → (a.tmod b = 0 ↔ nearI (ngB a b) a b = nearI (!ngB a b) a b) := by
  intro h1 h2
  rw [(near_out h1).2, (near_out h2).2, tmod_zero]
  obtain ⟨t1, t2⟩ := near_two a b
  constructor
  · exact t1
  · intro e
    by_cases h : a.natAbs % b.natAbs = 0
    · exact h
    · have := t2 h; omega
theorem law_6 (a b : Int) : nearB (ngB a b) a b = true → nearB (!ngB a b) a b = true → nearI (ngB a b) a b ≠ nearI (!ngB a b) a b → wrap64 (nearI (!ngB a b) a b - nearI (ngB a b) a b) = 1 := by
  intro h1 h2 hne
  rw [(near_out h1).2, (near_out h2).2] at *
  obtain ⟨t1, t2⟩ := near_two a b
  have : a.natAbs % b.natAbs ≠ 0 := fun h => hne (t1 h)
  rw [t2 this, show nearV (ngB a b) a b + 1 - nearV (ngB a b) a b = 1 by omega]
  exact wrap_small 1 (by omega) (by omega)
theorem NumLaws_any (a b : Int) (w : World) (ha1 : -9223372036854775808 ≤ a) (ha2 : a ≤ 9223372036854775807) (hb1 : -9223372036854775808 ≤ b) (hb2 : b ≤ 9223372036854775807) :
    Calls Try.prog 7 #[.int .i64 a, .int .i64 b] w fun e w' => e = .returned (.bool true) ∧ Below w.heap.size w w' := by
  refine (NumLaws_walk a b (divV a b) (modV a b) (fitV ((Nat.gcd a.natAbs b.natAbs : Nat) : Int)) (fitV (lcmV a b)) (nearI (ngB a b) a b) (nearI (!ngB a b) a b) (fitV (a + b))
    (fitB ((Nat.gcd a.natAbs b.natAbs : Nat) : Int)) (fitB (lcmV a b)) (nearB (ngB a b) a b) (nearB (!ngB a b) a b) (fitB (a + b)) w
    (num_div a b w ha1 ha2 hb1 hb2) (num_mod a b w ha1 ha2 hb1 hb2) (num_gcd a b w ha1 ha2 hb1 hb2) (num_lcm a b w ha1 ha2 hb1 hb2) (num_floor a b w ha1 ha2 hb1 hb2) (num_ceil a b w ha1 ha2 hb1 hb2) (num_add a b w ha1 ha2 hb1 hb2)
    (law_1 a b ha1 ha2) (law_2 a b) (law_3 a b) (law_4 a b _ _) (law_5 a b) (law_6 a b) ?_).mono fun e w' ⟨he, hw⟩ => ⟨he, hw ▸ Below.refl _ _⟩
  intro hz
  obtain ⟨e1, e2, e3⟩ := fit_out hz
  rw [e1]
  have h := num_sub (a + b) b w e2 e3 hb1 hb2
  rw [show a + b - b = a by omega] at h
  obtain ⟨g1, g2⟩ := fit_yes (v := a) (x := a) ⟨ha1, ha2⟩ rfl
  rw [← g1, ← g2] at h
  exact h
end Go.Proofs.Ytncohomkggnckaa
