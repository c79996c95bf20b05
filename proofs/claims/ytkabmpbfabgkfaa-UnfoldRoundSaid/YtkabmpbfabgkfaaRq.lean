/-
  carillonref01: what its functions over int64 answer: products, divisors, quotients.
  Conditions: the arguments are int64s.
-/
import Derived.Test.YtkabmpbfabgkfaaRe
set_option linter.unusedVariables false
set_option linter.unusedSimpArgs false
namespace Go.Proofs.Ytkabmpbfabgkfaa
open Go.RowKit Big
attribute [local go_sem] setCell_drewN alloc_drewN size_ext ext_ext ext_drewN ext_drew drewN_ext drew_ext cell?_ext frozen?_ext setCell_ext cell?_past1 frozen?_past1 setCell_past1 cell?_past2 frozen?_past2 setCell_past2 cell?_past3 frozen?_past3 setCell_past3 cell?_past4 frozen?_past4 setCell_past4 cell?_past5 frozen?_past5 setCell_past5 cell?_past6 frozen?_past6 setCell_past6 cell?_past7 frozen?_past7 setCell_past7 cell?_past8 frozen?_past8 setCell_past8

theorem mul_bp (a b : Int) (ha1 : -9223372036854775808 ≤ a) (ha2 : a ≤ 9223372036854775807) (hb1 : -9223372036854775808 ≤ b) (hb2 : b ≤ 9223372036854775807) : a.natAbs * b.natAbs < 340282366920938463463374607431768211456 := by
  have := Nat.mul_le_mul (len_nat a ha1 ha2) (len_nat b hb1 hb2)
  omega
set_option maxHeartbeats 400000 in
theorem ref_mul (a b : Int) (w : World) (ha1 : -9223372036854775808 ≤ a) (ha2 : a ≤ 9223372036854775807) (hb1 : -9223372036854775808 ≤ b) (hb2 : b ≤ 9223372036854775807) :
    Calls Try.prog 52 #[.int .i64 a, .int .i64 b] w fun e w' => e = .returned (.tuple #[.int .i64 (fitV (a * b)), .bool (fitB (a * b))]) ∧ Below w.heap.size w w' := by
  have h1 := mul_bp a b ha1 ha2 hb1 hb2
  have h2 : (a * b).natAbs < 340282366920938463463374607431768211456 := by rw [Int.natAbs_mul]; exact h1
  have Hh1 := Lib.hid h1; clear h1
  have Hh2 := Lib.hid h2; clear h2
  have Hha1 := Lib.hid ha1; clear ha1
  have Hha2 := Lib.hid ha2; clear ha2
  have Hhb1 := Lib.hid hb1; clear hb1
  have Hhb2 := Lib.hid hb2; clear hb2
  go_enter Try.func52, Try.ntmps52
  go_wp2_with fail
  refine (of_any a _ Hha1.out Hha2.out).mono ?_
  rintro e w' ⟨rfl, hb⟩
  obtain ⟨X1, d1, rfl⟩ := below_ext hb; clear hb
  go_wp2_with fail
  refine (of_any b _ Hhb1.out Hhb2.out).mono ?_
  rintro e w' ⟨rfl, hb⟩
  obtain ⟨X2, d2, rfl⟩ := below_ext hb; clear hb
  go_wp2_with fail
  refine (mul_of a b _ Hh1.out).mono ?_
  rintro e w' ⟨rfl, hb⟩
  obtain ⟨X3, d3, rfl⟩ := below_ext hb; clear hb
  go_wp2_with fail
  refine (int_of (a * b) _ Hh2.out).mono ?_
  rintro e w' ⟨rfl, hb⟩
  obtain ⟨X4, d4, rfl⟩ := below_ext hb; clear hb
  go_wp2_with fail
  go_ret2
  exact ⟨rfl, by repeat (first | (with_reducible exact Below.refl _ _) | (with_reducible assumption) | (with_reducible refine below_drewN ?_ _) | (with_reducible refine below_ext_of ?_ (by first | exact Nat.le_refl _ | assumption | (simp only [World.size_alloc, World.size_setCell, size_ext, World.heap_drewN]; omega)) _ _) | (with_reducible refine Below.alloc ?_ (by first | exact Nat.le_refl _ | assumption | (simp only [World.size_alloc, World.size_setCell, size_ext, World.heap_drewN]; omega)) _) | (with_reducible refine Below.setCell ?_ (by first | exact Nat.le_refl _ | assumption | (simp only [World.size_alloc, World.size_setCell, size_ext, World.heap_drewN]; omega)) _))⟩

theorem sg_false (n : Nat) : sg false n = (n : Int) := rfl
theorem lcm_bp (a b : Int) (ha1 : -9223372036854775808 ≤ a) (ha2 : a ≤ 9223372036854775807) (hb1 : -9223372036854775808 ≤ b) (hb2 : b ≤ 9223372036854775807) : a.natAbs / Nat.gcd a.natAbs b.natAbs * b.natAbs < 340282366920938463463374607431768211456 := by
  have := Nat.mul_le_mul (Nat.le_trans (Nat.div_le_self a.natAbs (Nat.gcd a.natAbs b.natAbs)) (len_nat a ha1 ha2)) (len_nat b hb1 hb2)
  omega
end Go.Proofs.Ytkabmpbfabgkfaa
