/-
  carillonref01: what its functions over int64 answer: products, divisors, quotients.
  Conditions: the arguments are int64s.
-/
import Derived.Test.YtncohomkggnckaaRe
set_option linter.unusedVariables false
set_option linter.unusedSimpArgs false
namespace Go.Proofs.Ytncohomkggnckaa
open Go.RowKit Big
attribute [local go_sem] setCell_drewN alloc_drewN size_ext ext_ext ext_drewN ext_drew drewN_ext drew_ext cell?_ext frozen?_ext setCell_ext cell?_past1 frozen?_past1 setCell_past1 cell?_past2 frozen?_past2 setCell_past2 cell?_past3 frozen?_past3 setCell_past3 cell?_past4 frozen?_past4 setCell_past4 cell?_past5 frozen?_past5 setCell_past5 cell?_past6 frozen?_past6 setCell_past6 cell?_past7 frozen?_past7 setCell_past7 cell?_past8 frozen?_past8 setCell_past8

theorem mul_bp (a b : Int) (ha1 : -9223372036854775808 ≤ a) (ha2 : a ≤ 9223372036854775807) (hb1 : -9223372036854775808 ≤ b) (hb2 : b ≤ 9223372036854775807) : a.natAbs * b.natAbs < 340282366920938463463374607431768211456 := by
  have := Nat.mul_le_mul (len_nat a ha1 ha2) (len_nat b hb1 hb2)
  omega
set_option maxHeartbeats 400000 in
theorem ref_mul (a b : Int) (w : World) (ha1 : -9223372036854775808 ≤ a) (ha2 : a ≤ 9223372036854775807) (hb1 : -9223372036854775808 ≤ b) (hb2 : b ≤ 9223372036854775807) :
    Calls Try.prog 22 #[.int .i64 a, .int .i64 b] w fun e w' => e = .returned (.tuple #[.int .i64 (fitV (a * b)), .bool (fitB (a * b))]) ∧ Below w.heap.size w w' := by
  have h1 := mul_bp a b ha1 ha2 hb1 hb2
  have h2 : (a * b).natAbs < 340282366920938463463374607431768211456 := by rw [Int.natAbs_mul]; exact h1
  have Hh1 := Lib.hid h1; clear h1
  have Hh2 := Lib.hid h2; clear h2
  have Hha1 := Lib.hid ha1; clear ha1
  have Hha2 := Lib.hid ha2; clear ha2
  have Hhb1 := Lib.hid hb1; clear hb1
  have Hhb2 := Lib.hid hb2; clear hb2
  go_enter Try.func22, Try.ntmps22
  go_wp2_with fail
  refine (of_any a _ Hha1.out Hha2.out).mono ?_
  rintro e w' ⟨rfl, hb⟩
  obtain ⟨X1, d1, rfl⟩ := below_ext hb; clear hb
  go_wp2_with fail
  refine (of_any b _ Hhb1.out Hhb2.out).mono ?_
  rintro e w' ⟨rfl, hb⟩
  obtain ⟨X2, d2, rfl⟩ := below_ext hb; clear hb
  go_wp2_with fail
  refine (mul_of a b _ Hh1.out).mono ?_
  rintro e w' ⟨rfl, hb⟩
  obtain ⟨X3, d3, rfl⟩ := below_ext hb; clear hb
  go_wp2_with fail
  refine (int_of (a * b) _ Hh2.out).mono ?_
  rintro e w' ⟨rfl, hb⟩
  obtain ⟨X4, d4, rfl⟩ := below_ext hb; clear hb
  go_wp2_with fail
  go_ret2
  exact ⟨rfl, by repeat (first | (with_reducible exact Below.refl _ _) | (with_reducible assumption) | (with_reducible refine below_drewN ?_ _) | (with_reducible refine below_ext_of ?_ (by first | exact Nat.le_refl _ | assumption | (simp only [World.size_alloc, World.size_setCell, size_ext, World.heap_drewN]; omega)) _ _) | (with_reducible refine Below.alloc ?_ (by first | exact Nat.le_refl _ | assumption | (simp only [World.size_alloc, World.size_setCell, size_ext, World.heap_drewN]; omega)) _) | (with_reducible refine Below.setCell ?_ (by first | exact Nat.le_refl _ | assumption | (simp only [World.size_alloc, World.size_setCell, size_ext, World.heap_drewN]; omega)) _))⟩

theorem sg_false (n : Nat) : sg false n = (n : Int) := rfl
set_option maxHeartbeats 400000 in
theorem ref_gcd (a b : Int) (w : World) (ha1 : -9223372036854775808 ≤ a) (ha2 : a ≤ 9223372036854775807) (hb1 : -9223372036854775808 ≤ b) (hb2 : b ≤ 9223372036854775807) :
    Calls Try.prog 24 #[.int .i64 a, .int .i64 b] w fun e w' => e = .returned (.tuple #[.int .i64 (fitV (((Nat.gcd a.natAbs b.natAbs : Nat) : Int))), .bool (fitB (((Nat.gcd a.natAbs b.natAbs : Nat) : Int)))]) ∧ Below w.heap.size w w' := by
  have h1 := len_nat a ha1 ha2
  have h2 := len_nat b hb1 hb2
  have h3 : Nat.gcd a.natAbs b.natAbs < 340282366920938463463374607431768211456 := Nat.lt_trans (gcd_lt _ _ (abs_lt a ha1 ha2) (abs_lt b hb1 hb2)) (by omega)
  have Hh1 := Lib.hid h1; clear h1
  have Hh2 := Lib.hid h2; clear h2
  have Hh3 := Lib.hid h3; clear h3
  have Hha1 := Lib.hid ha1; clear ha1
  have Hha2 := Lib.hid ha2; clear ha2
  have Hhb1 := Lib.hid hb1; clear hb1
  have Hhb2 := Lib.hid hb2; clear hb2
  go_enter Try.func24, Try.ntmps24
  go_wp2_with fail
  refine (of_any a _ Hha1.out Hha2.out).mono ?_
  rintro e w' ⟨rfl, hb⟩
  obtain ⟨X1, d1, rfl⟩ := below_ext hb; clear hb
  go_wp2_with fail
  refine (of_any b _ Hhb1.out Hhb2.out).mono ?_
  rintro e w' ⟨rfl, hb⟩
  obtain ⟨X2, d2, rfl⟩ := below_ext hb; clear hb
  go_wp2_with fail
  refine (divisor_any a.natAbs b.natAbs (decide (a < 0)) (decide (b < 0)) _ Hh1.out Hh2.out).mono ?_
  rintro e w' ⟨rfl, hb⟩
  obtain ⟨X3, d3, rfl⟩ := below_ext hb; clear hb
  go_wp2_with fail
  refine (int_any (Nat.gcd a.natAbs b.natAbs) false _ Hh3.out).mono ?_
  rintro e w' ⟨rfl, hb⟩
  obtain ⟨X4, d4, rfl⟩ := below_ext hb; clear hb
  go_wp2_with fail
  go_ret2
  exact ⟨rfl, by repeat (first | (with_reducible exact Below.refl _ _) | (with_reducible assumption) | (with_reducible refine below_drewN ?_ _) | (with_reducible refine below_ext_of ?_ (by first | exact Nat.le_refl _ | assumption | (simp only [World.size_alloc, World.size_setCell, size_ext, World.heap_drewN]; omega)) _ _) | (with_reducible refine Below.alloc ?_ (by first | exact Nat.le_refl _ | assumption | (simp only [World.size_alloc, World.size_setCell, size_ext, World.heap_drewN]; omega)) _) | (with_reducible refine Below.setCell ?_ (by first | exact Nat.le_refl _ | assumption | (simp only [World.size_alloc, World.size_setCell, size_ext, World.heap_drewN]; omega)) _))⟩

theorem lcm_bp (a b : Int) (ha1 : -9223372036854775808 ≤ a) (ha2 : a ≤ 9223372036854775807) (hb1 : -9223372036854775808 ≤ b) (hb2 : b ≤ 9223372036854775807) : a.natAbs / Nat.gcd a.natAbs b.natAbs * b.natAbs < 340282366920938463463374607431768211456 := by
  have := Nat.mul_le_mul (Nat.le_trans (Nat.div_le_self a.natAbs (Nat.gcd a.natAbs b.natAbs)) (len_nat a ha1 ha2)) (len_nat b hb1 hb2)
  omega
set_option maxHeartbeats 1000000 in
theorem ref_lcm (a b : Int) (w : World) (ha1 : -9223372036854775808 ≤ a) (ha2 : a ≤ 9223372036854775807) (hb1 : -9223372036854775808 ≤ b) (hb2 : b ≤ 9223372036854775807) :
    Calls Try.prog 26 #[.int .i64 a, .int .i64 b] w fun e w' => e = .returned (.tuple #[.int .i64 (fitV (lcmV a b)), .bool (fitB (lcmV a b))]) ∧ Below w.heap.size w w' := by
  by_cases h0 : a = 0 ∨ b = 0
  · rw [lcmV_zero a b h0]
    have Hf := Lib.hid (fit_yes (v := 0) (x := 0) (by omega) rfl)
    rcases h0 with rfl | rfl
    · go_enter Try.func26, Try.ntmps26
      go_wp2_with fail
      go_ret2
      exact ⟨ret_ib Hf.out.1 Hf.out.2, Below.refl _ _⟩
    · by_cases ha : (a == 0) = true
      all_goals
        go_enter Try.func26, Try.ntmps26
        go_wp2_with fail
        go_ret2
        exact ⟨ret_ib Hf.out.1 Hf.out.2, Below.refl _ _⟩
  have h1 := len_nat a ha1 ha2
  have h2 := len_nat b hb1 hb2
  have h3 : a.natAbs < 340282366920938463463374607431768211456 := by omega
  have h4 := Nat.gcd_pos_of_pos_left b.natAbs (show 0 < a.natAbs by omega)
  have h5 : Nat.gcd a.natAbs b.natAbs ≤ 170141183460469231731687303715884105728 := by have := gcd_lt _ _ (abs_lt a ha1 ha2) (abs_lt b hb1 hb2); omega
  have h6 := lcm_bp a b ha1 ha2 hb1 hb2
  have h7 : b.natAbs < 340282366920938463463374607431768211456 := by omega
  have hab : (a == 0) = false := by rw [beq_eq_false_iff_ne]; omega
  have hbb : (b == 0) = false := by rw [beq_eq_false_iff_ne]; omega
  have hl : lcmV a b = ((a.natAbs / Nat.gcd a.natAbs b.natAbs * b.natAbs : Nat) : Int) := rfl
  clear h0
  have Hh1 := Lib.hid h1; clear h1
  have Hh2 := Lib.hid h2; clear h2
  have Hh3 := Lib.hid h3; clear h3
  have Hh4 := Lib.hid h4; clear h4
  have Hh5 := Lib.hid h5; clear h5
  have Hh6 := Lib.hid h6; clear h6
  have Hh7 := Lib.hid h7; clear h7
  have Hhl := Lib.hid hl; clear hl
  have Hha1 := Lib.hid ha1; clear ha1
  have Hha2 := Lib.hid ha2; clear ha2
  have Hhb1 := Lib.hid hb1; clear hb1
  have Hhb2 := Lib.hid hb2; clear hb2
  have hB := Below.refl w.heap.size w
  go_enter Try.func26, Try.ntmps26
  go_wp2_with fail
  refine (of_any a _ Hha1.out Hha2.out).mono ?_
  rintro e w1 ⟨rfl, hb⟩
  replace hB := hB.trans (hb.mono hB.size)
  clear hb
  go_wp2_with fail
  refine (of_any a _ Hha1.out Hha2.out).mono ?_
  rintro e w2 ⟨rfl, hb⟩
  replace hB := hB.trans (hb.mono hB.size)
  clear hb
  go_wp2_with fail
  refine (of_any b _ Hhb1.out Hhb2.out).mono ?_
  rintro e w3 ⟨rfl, hb⟩
  replace hB := hB.trans (hb.mono hB.size)
  clear hb
  go_wp2_with fail
  refine (divisor_any a.natAbs b.natAbs (decide (a < 0)) (decide (b < 0)) _ Hh1.out Hh2.out).mono ?_
  rintro e w4 ⟨rfl, hb⟩
  replace hB := hB.trans (hb.mono hB.size)
  clear hb
  go_wp2_with fail
  refine (quo_any a.natAbs (Nat.gcd a.natAbs b.natAbs) (decide (a < 0)) false _ Hh3.out Hh4.out Hh5.out).mono ?_
  rintro e w5 ⟨rfl, hb⟩
  replace hB := hB.trans (hb.mono hB.size)
  clear hb
  have hS := hB.size
  generalize a.natAbs / Nat.gcd a.natAbs b.natAbs = q at *
  generalize a.natAbs % Nat.gcd a.natAbs b.natAbs = r at *
  go_wp2_with fail
  go_region_with (first
    | (go_at_call 27; refine (of_any b _ Hhb1.out Hhb2.out).mono ?_; rintro e w' ⟨rfl, hb⟩; obtain ⟨X5, d5, rfl⟩ := below_ext hb; clear hb)
    | (go_at_call 33; refine (signed_any b.natAbs (decide (b < 0)) false _ Hh7.out).mono ?_; rintro e w' ⟨rfl, hb⟩; obtain ⟨X6, d6, rfl⟩ := below_ext hb; clear hb)
    | (go_at_call 41; refine (mul_any q b.natAbs false false _ Hh6.out).mono ?_; rintro e w' ⟨rfl, hb⟩; obtain ⟨X7, d7, rfl⟩ := below_ext hb; clear hb)
    | (go_at_call 29; refine (int_any (q * b.natAbs) false _ Hh6.out).mono ?_; rintro e w' ⟨rfl, hb⟩; obtain ⟨X8, d8, rfl⟩ := below_ext hb; clear hb))
  all_goals
    go_wp2_with fail
    go_ret2
    exact ⟨ret_ib (by rw [Hhl.out]; rfl) (by rw [Hhl.out]; rfl), by repeat (first | (with_reducible exact Below.refl _ _) | (with_reducible assumption) | (with_reducible refine below_drewN ?_ _) | (with_reducible refine below_ext_of ?_ (by first | exact Nat.le_refl _ | assumption | (simp only [World.size_alloc, World.size_setCell, size_ext, World.heap_drewN]; omega)) _ _) | (with_reducible refine Below.alloc ?_ (by first | exact Nat.le_refl _ | assumption | (simp only [World.size_alloc, World.size_setCell, size_ext, World.heap_drewN]; omega)) _) | (with_reducible refine Below.setCell ?_ (by first | exact Nat.le_refl _ | assumption | (simp only [World.size_alloc, World.size_setCell, size_ext, World.heap_drewN]; omega)) _))⟩
end Go.Proofs.Ytncohomkggnckaa
