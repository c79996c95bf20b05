/-
  carillonref01: what its functions over int64 answer.
  Conditions: the arguments are int64s.
-/
import Derived.Test.YtkabmpbfabgkfaaDi
import Derived.Test.YtkabmpbfabgkfaaMu
import Derived.Test.YtkabmpbfabgkfaaNu
set_option linter.unusedVariables false
set_option linter.unusedSimpArgs false
namespace Go.Proofs.Ytkabmpbfabgkfaa
open Go.RowKit Big
attribute [local go_sem] setCell_drewN alloc_drewN size_ext ext_ext ext_drewN ext_drew drewN_ext drew_ext cell?_ext frozen?_ext setCell_ext cell?_past1 frozen?_past1 setCell_past1 cell?_past2 frozen?_past2 setCell_past2 cell?_past3 frozen?_past3 setCell_past3 cell?_past4 frozen?_past4 setCell_past4 cell?_past5 frozen?_past5 setCell_past5 cell?_past6 frozen?_past6 setCell_past6 cell?_past7 frozen?_past7 setCell_past7 cell?_past8 frozen?_past8 setCell_past8

theorem sg_abs (v : Int) : sg (decide (v < 0)) v.natAbs = v := by
  unfold sg
  by_cases h : v < 0
  · rw [decide_eq_true h]; simp; omega
  · rw [decide_eq_false h]; simp; omega
theorem abs_small (a : Int) (ha1 : -9223372036854775808 ≤ a) (ha2 : a ≤ 9223372036854775807) : a.natAbs < 170141183460469231731687303715884105728 := by omega
theorem abs_bp (v : Int) (h1 : -170141183460469231731687303715884105728 < v) (h2 : v < 170141183460469231731687303715884105728) : v.natAbs < 340282366920938463463374607431768211456 := by omega
theorem add_of (a b : Int) (w : World) (hA : a.natAbs < 170141183460469231731687303715884105728) (hB : b.natAbs < 170141183460469231731687303715884105728) :
    Calls Try.prog 70 #[.agg #[.int .u64 (dg (a).natAbs 0), .int .u64 (dg (a).natAbs 1), .int .u64 (dg (a).natAbs 2), .int .u64 (dg (a).natAbs 3), .bool (decide (a < 0))], .agg #[.int .u64 (dg (b).natAbs 0), .int .u64 (dg (b).natAbs 1), .int .u64 (dg (b).natAbs 2), .int .u64 (dg (b).natAbs 3), .bool (decide (b < 0))]] w fun e w' => e = .returned (.agg #[.int .u64 (dg ((a + b)).natAbs 0), .int .u64 (dg ((a + b)).natAbs 1), .int .u64 (dg ((a + b)).natAbs 2), .int .u64 (dg ((a + b)).natAbs 3), .bool (decide ((a + b) < 0))]) ∧ Below w.heap.size w w' := by
  have h := add_any a.natAbs b.natAbs (decide (a < 0)) (decide (b < 0)) w hA hB
  rw [sg_abs, sg_abs] at h
  exact h
theorem mul_of (a b : Int) (w : World) (h : a.natAbs * b.natAbs < 340282366920938463463374607431768211456) :
    Calls Try.prog 68 #[.agg #[.int .u64 (dg (a).natAbs 0), .int .u64 (dg (a).natAbs 1), .int .u64 (dg (a).natAbs 2), .int .u64 (dg (a).natAbs 3), .bool (decide (a < 0))], .agg #[.int .u64 (dg (b).natAbs 0), .int .u64 (dg (b).natAbs 1), .int .u64 (dg (b).natAbs 2), .int .u64 (dg (b).natAbs 3), .bool (decide (b < 0))]] w fun e w' => e = .returned (.agg #[.int .u64 (dg ((a * b)).natAbs 0), .int .u64 (dg ((a * b)).natAbs 1), .int .u64 (dg ((a * b)).natAbs 2), .int .u64 (dg ((a * b)).natAbs 3), .bool (decide ((a * b) < 0))]) ∧ Below w.heap.size w w' := by
  refine (mul_any a.natAbs b.natAbs (decide (a < 0)) (decide (b < 0)) w h).mono fun e w' ⟨he, hb⟩ => ⟨he.trans (ret_big (Int.natAbs_mul a b).symm ?_), hb⟩
  have hm := mul_abs a b
  have hn := Int.natAbs_mul a b
  rw [← hn] at hm ⊢
  unfold nz
  generalize a * b = v at *
  generalize (!(decide (a < 0) == decide (b < 0))) = t at *
  unfold sg at hm
  cases t
  · simp at hm ⊢; omega
  · simp at hm ⊢
    by_cases h0 : v = 0
    · subst h0; simp
    · rw [decide_eq_false h0, decide_eq_true (show v < 0 by omega)]; rfl
theorem int_of (v : Int) (w : World) (h : v.natAbs < 340282366920938463463374607431768211456) :
    Calls Try.prog 69 #[.agg #[.int .u64 (dg (v).natAbs 0), .int .u64 (dg (v).natAbs 1), .int .u64 (dg (v).natAbs 2), .int .u64 (dg (v).natAbs 3), .bool (decide (v < 0))]] w fun e w' => e = .returned (.tuple #[.int .i64 (fitV v), .bool (fitB v)]) ∧ Below w.heap.size w w' := by
  have h' := int_any v.natAbs (decide (v < 0)) w h
  rw [sg_abs] at h'
  exact h'
set_option maxHeartbeats 400000 in
theorem ref_add (a b : Int) (w : World) (ha1 : -9223372036854775808 ≤ a) (ha2 : a ≤ 9223372036854775807) (hb1 : -9223372036854775808 ≤ b) (hb2 : b ≤ 9223372036854775807) :
    Calls Try.prog 54 #[.int .i64 a, .int .i64 b] w fun e w' => e = .returned (.tuple #[.int .i64 (fitV (a + b)), .bool (fitB (a + b))]) ∧ Below w.heap.size w w' := by
  have h1 := abs_small a ha1 ha2
  have h2 := abs_small b hb1 hb2
  have h3 := abs_bp (a + b) (by omega) (by omega)
  have Hh1 := Lib.hid h1; clear h1
  have Hh2 := Lib.hid h2; clear h2
  have Hh3 := Lib.hid h3; clear h3
  have Hha1 := Lib.hid ha1; clear ha1
  have Hha2 := Lib.hid ha2; clear ha2
  have Hhb1 := Lib.hid hb1; clear hb1
  have Hhb2 := Lib.hid hb2; clear hb2
  go_enter Try.func54, Try.ntmps54
  go_wp2_with fail
  refine (of_any a _ Hha1.out Hha2.out).mono ?_
  rintro e w' ⟨rfl, hb⟩
  obtain ⟨X1, d1, rfl⟩ := below_ext hb; clear hb
  go_wp2_with fail
  refine (of_any b _ Hhb1.out Hhb2.out).mono ?_
  rintro e w' ⟨rfl, hb⟩
  obtain ⟨X2, d2, rfl⟩ := below_ext hb; clear hb
  go_wp2_with fail
  refine (add_of a b _ Hh1.out Hh2.out).mono ?_
  rintro e w' ⟨rfl, hb⟩
  obtain ⟨X3, d3, rfl⟩ := below_ext hb; clear hb
  go_wp2_with fail
  refine (int_of (a + b) _ Hh3.out).mono ?_
  rintro e w' ⟨rfl, hb⟩
  obtain ⟨X4, d4, rfl⟩ := below_ext hb; clear hb
  go_wp2_with fail
  go_ret2
  exact ⟨rfl, by repeat (first | (with_reducible exact Below.refl _ _) | (with_reducible assumption) | (with_reducible refine below_drewN ?_ _) | (with_reducible refine below_ext_of ?_ (by first | exact Nat.le_refl _ | assumption | (simp only [World.size_alloc, World.size_setCell, size_ext, World.heap_drewN]; omega)) _ _) | (with_reducible refine Below.alloc ?_ (by first | exact Nat.le_refl _ | assumption | (simp only [World.size_alloc, World.size_setCell, size_ext, World.heap_drewN]; omega)) _) | (with_reducible refine Below.setCell ?_ (by first | exact Nat.le_refl _ | assumption | (simp only [World.size_alloc, World.size_setCell, size_ext, World.heap_drewN]; omega)) _))⟩

end Go.Proofs.Ytkabmpbfabgkfaa
