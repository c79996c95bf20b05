/-
  carillonref01: Of, Int, round.
-/
import Derived.Test.YtkabmpbfabgkfaaSm
set_option linter.unusedVariables false
set_option linter.unusedSimpArgs false
namespace Go.Proofs.Ytkabmpbfabgkfaa
open Go.RowKit Big
attribute [local go_sem] setCell_drewN alloc_drewN size_ext ext_ext ext_drewN ext_drew drewN_ext drew_ext cell?_ext frozen?_ext setCell_ext cell?_past1 frozen?_past1 setCell_past1 cell?_past2 frozen?_past2 setCell_past2 cell?_past3 frozen?_past3 setCell_past3 cell?_past4 frozen?_past4 setCell_past4 cell?_past5 frozen?_past5 setCell_past5 cell?_past6 frozen?_past6 setCell_past6 cell?_past7 frozen?_past7 setCell_past7 cell?_past8 frozen?_past8 setCell_past8

set_option maxHeartbeats 400000 in
theorem of_any (x : Int) (w : World) (h1 : -9223372036854775808 ≤ x) (h2 : x ≤ 9223372036854775807) :
    Calls Try.prog 67 #[.int .i64 x] w
      fun e w' => e = .returned (.agg #[.int .u64 (dg x.natAbs 0), .int .u64 (dg x.natAbs 1), .int .u64 (dg x.natAbs 2), .int .u64 (dg x.natAbs 3), .bool (decide (x < 0))]) ∧ Below w.heap.size w w' := by
  have z2 : dg x.natAbs 2 = 0 := by rw [dg2]; omega
  have z3 : dg x.natAbs 3 = 0 := by rw [dg3]; omega
  by_cases h : x < 0
  · have hw : IntKind.u64.wrap (-IntKind.u64.wrap x) = (x.natAbs : Int) := by rw [IntKind.wrap_u64, IntKind.wrap_u64]; omega
    have hd : bits .and .u64 (x.natAbs : Int) 4294967295 = dg x.natAbs 0 := by rw [and_low32 _ (by omega) (by omega), dg0]; omega
    have he : (x.natAbs : Int) / 4294967296 = dg x.natAbs 1 := by rw [dg1]; omega
    have hs : Hid (decide (x < 0) = true) := Lib.hid (decide_eq_true h)
    generalize x.natAbs = A at *
    clear h1 h2
    go_enter Try.func67, Try.ntmps67
    go_wp2_with fail
    rw [hs.out]
    refine bodyPost_ret (v := .agg #[.int .u64 (dg A 0), .int .u64 (dg A 1), .int .u64 (dg A 2), .int .u64 (dg A 3), .bool true]) (by simp [results, z2, z3, Try.results67, go_sem]) rfl ⟨by first | rfl | simp only [z2, z3], ?_⟩
    repeat (first | (with_reducible exact Below.refl _ _) | (with_reducible assumption) | (with_reducible refine below_drewN ?_ _) | (with_reducible refine below_ext_of ?_ (by first | exact Nat.le_refl _ | assumption | (simp only [World.size_alloc, World.size_setCell, size_ext, World.heap_drewN]; omega)) _ _) | (with_reducible refine Below.alloc ?_ (by first | exact Nat.le_refl _ | assumption | (simp only [World.size_alloc, World.size_setCell, size_ext, World.heap_drewN]; omega)) _) | (with_reducible refine Below.setCell ?_ (by first | exact Nat.le_refl _ | assumption | (simp only [World.size_alloc, World.size_setCell, size_ext, World.heap_drewN]; omega)) _))
  · have hd : bits .and .u64 x 4294967295 = dg x.natAbs 0 := by rw [and_low32 _ (by omega) (by omega), dg0]; omega
    have he : x / 4294967296 = dg x.natAbs 1 := by rw [dg1]; omega
    have hs : Hid (decide (x < 0) = false) := Lib.hid (decide_eq_false h)
    generalize x.natAbs = A at *
    go_enter Try.func67, Try.ntmps67
    go_wp2_with fail
    rw [hs.out]
    refine bodyPost_ret (v := .agg #[.int .u64 (dg A 0), .int .u64 (dg A 1), .int .u64 (dg A 2), .int .u64 (dg A 3), .bool false]) (by simp [results, z2, z3, Try.results67, go_sem]) rfl ⟨by first | rfl | simp only [z2, z3], ?_⟩
    repeat (first | (with_reducible exact Below.refl _ _) | (with_reducible assumption) | (with_reducible refine below_drewN ?_ _) | (with_reducible refine below_ext_of ?_ (by first | exact Nat.le_refl _ | assumption | (simp only [World.size_alloc, World.size_setCell, size_ext, World.heap_drewN]; omega)) _ _) | (with_reducible refine Below.alloc ?_ (by first | exact Nat.le_refl _ | assumption | (simp only [World.size_alloc, World.size_setCell, size_ext, World.heap_drewN]; omega)) _) | (with_reducible refine Below.setCell ?_ (by first | exact Nat.le_refl _ | assumption | (simp only [World.size_alloc, World.size_setCell, size_ext, World.heap_drewN]; omega)) _))

theorem int_no (A : Nat) (s : Bool) (_hA : A < 340282366920938463463374607431768211456) (h : 9223372036854775808 < (A : Int) ∨ (A : Int) = 9223372036854775808 ∧ s = false) : 0 = fitV (sg s A) ∧ false = fitB (sg s A) :=
  fit_no (by unfold sg; cases s <;> simp at h ⊢ <;> omega)
theorem int_neg (A : Nat) (h : (A : Int) ≤ 9223372036854775808) : wrap64 (IntKind.u64.wrap (-(A : Int))) = fitV (sg true A) ∧ true = fitB (sg true A) :=
  fit_yes (by unfold sg; simp; omega) (by unfold sg; rw [IntKind.wrap_u64]; unfold wrap64; simp; omega)
theorem int_pos (A : Nat) (h : (A : Int) ≤ 9223372036854775807) : wrap64 (A : Int) = fitV (sg false A) ∧ true = fitB (sg false A) :=
  fit_yes (by unfold sg; simp; omega) (by unfold sg; unfold wrap64; simp; omega)
theorem low_small (A : Nat) (h2 : dg A 2 = 0) (h3 : dg A 3 = 0) (hA : A < 340282366920938463463374607431768211456) : low A = (A : Int) := by
  rw [dg2] at h2; rw [dg3] at h3; unfold low; omega
theorem low_large (A : Nat) (h : dg A 2 ≠ 0 ∨ dg A 3 ≠ 0) : 9223372036854775808 < (A : Int) := by
  rw [dg2, dg3] at h; omega

attribute [local go_sem] low_or
set_option maxHeartbeats 800000 in
theorem int_any (A : Nat) (s : Bool) (w : World) (hA : A < 340282366920938463463374607431768211456) :
    Calls Try.prog 69 #[.agg #[.int .u64 (dg A 0), .int .u64 (dg A 1), .int .u64 (dg A 2), .int .u64 (dg A 3), .bool s]] w
      fun e w' => e = .returned (.tuple #[.int .i64 (fitV (sg s A)), .bool (fitB (sg s A))]) ∧ Below w.heap.size w w' := by
  by_cases h2 : dg A 2 = 0
  · by_cases h3 : dg A 3 = 0
    · have hl := low_small A h2 h3 hA
      have Hl := Lib.hid hl; clear hl
      cases s
      · have Hfin := Lib.hid (int_pos A); have Hno := Lib.hid (int_no A false hA)
        go_enter Try.func69, Try.ntmps69
        go_wp2_with fail
        all_goals
          go_ret2
          first
          | (obtain ⟨q1, q2⟩ := Hno.out (by have := Hl.out; simp only [and_true]; omega); exact ⟨ret_ib q1 q2, by repeat (first | (with_reducible exact Below.refl _ _) | (with_reducible assumption) | (with_reducible refine below_drewN ?_ _) | (with_reducible refine below_ext_of ?_ (by first | exact Nat.le_refl _ | assumption | (simp only [World.size_alloc, World.size_setCell, size_ext, World.heap_drewN]; omega)) _ _) | (with_reducible refine Below.alloc ?_ (by first | exact Nat.le_refl _ | assumption | (simp only [World.size_alloc, World.size_setCell, size_ext, World.heap_drewN]; omega)) _) | (with_reducible refine Below.setCell ?_ (by first | exact Nat.le_refl _ | assumption | (simp only [World.size_alloc, World.size_setCell, size_ext, World.heap_drewN]; omega)) _))⟩)
          | (obtain ⟨q1, q2⟩ := Hfin.out (by have := Hl.out; omega); exact ⟨ret_ib ((congrArg (fun y => wrap64 y) Hl.out).trans q1) q2, by repeat (first | (with_reducible exact Below.refl _ _) | (with_reducible assumption) | (with_reducible refine below_drewN ?_ _) | (with_reducible refine below_ext_of ?_ (by first | exact Nat.le_refl _ | assumption | (simp only [World.size_alloc, World.size_setCell, size_ext, World.heap_drewN]; omega)) _ _) | (with_reducible refine Below.alloc ?_ (by first | exact Nat.le_refl _ | assumption | (simp only [World.size_alloc, World.size_setCell, size_ext, World.heap_drewN]; omega)) _) | (with_reducible refine Below.setCell ?_ (by first | exact Nat.le_refl _ | assumption | (simp only [World.size_alloc, World.size_setCell, size_ext, World.heap_drewN]; omega)) _))⟩)
      · have Hfin := Lib.hid (int_neg A); have Hno := Lib.hid (int_no A true hA)
        go_enter Try.func69, Try.ntmps69
        go_wp2_with fail
        all_goals
          go_ret2
          first
          | (obtain ⟨q1, q2⟩ := Hno.out (by have := Hl.out; simp only [and_false, or_false, reduceCtorEq]; omega); exact ⟨ret_ib q1 q2, by repeat (first | (with_reducible exact Below.refl _ _) | (with_reducible assumption) | (with_reducible refine below_drewN ?_ _) | (with_reducible refine below_ext_of ?_ (by first | exact Nat.le_refl _ | assumption | (simp only [World.size_alloc, World.size_setCell, size_ext, World.heap_drewN]; omega)) _ _) | (with_reducible refine Below.alloc ?_ (by first | exact Nat.le_refl _ | assumption | (simp only [World.size_alloc, World.size_setCell, size_ext, World.heap_drewN]; omega)) _) | (with_reducible refine Below.setCell ?_ (by first | exact Nat.le_refl _ | assumption | (simp only [World.size_alloc, World.size_setCell, size_ext, World.heap_drewN]; omega)) _))⟩)
          | (obtain ⟨q1, q2⟩ := Hfin.out (by have := Hl.out; omega); exact ⟨ret_ib ((congrArg (fun y => wrap64 (IntKind.u64.wrap (-y))) Hl.out).trans q1) q2, by repeat (first | (with_reducible exact Below.refl _ _) | (with_reducible assumption) | (with_reducible refine below_drewN ?_ _) | (with_reducible refine below_ext_of ?_ (by first | exact Nat.le_refl _ | assumption | (simp only [World.size_alloc, World.size_setCell, size_ext, World.heap_drewN]; omega)) _ _) | (with_reducible refine Below.alloc ?_ (by first | exact Nat.le_refl _ | assumption | (simp only [World.size_alloc, World.size_setCell, size_ext, World.heap_drewN]; omega)) _) | (with_reducible refine Below.setCell ?_ (by first | exact Nat.le_refl _ | assumption | (simp only [World.size_alloc, World.size_setCell, size_ext, World.heap_drewN]; omega)) _))⟩)
          | (obtain ⟨q1, q2⟩ := Hfin.out (by have := Hl.out; omega); have e : (9223372036854775808 : Int) = (A : Int) := (by have := Hl.out; omega); exact ⟨ret_ib (by rw [e]; exact q1) q2, by repeat (first | (with_reducible exact Below.refl _ _) | (with_reducible assumption) | (with_reducible refine below_drewN ?_ _) | (with_reducible refine below_ext_of ?_ (by first | exact Nat.le_refl _ | assumption | (simp only [World.size_alloc, World.size_setCell, size_ext, World.heap_drewN]; omega)) _ _) | (with_reducible refine Below.alloc ?_ (by first | exact Nat.le_refl _ | assumption | (simp only [World.size_alloc, World.size_setCell, size_ext, World.heap_drewN]; omega)) _) | (with_reducible refine Below.setCell ?_ (by first | exact Nat.le_refl _ | assumption | (simp only [World.size_alloc, World.size_setCell, size_ext, World.heap_drewN]; omega)) _))⟩)
    · obtain ⟨q1, q2⟩ := int_no A s hA (.inl (low_large A (.inr h3)))
      have Hq1 := Lib.hid q1; have Hq2 := Lib.hid q2; clear q1 q2
      have b3 : (dg A 3 != 0) = true := by simpa using h3
      go_enter Try.func69, Try.ntmps69
      go_wp2_with fail
      go_ret2
      exact ⟨ret_ib Hq1.out Hq2.out, by repeat (first | (with_reducible exact Below.refl _ _) | (with_reducible assumption) | (with_reducible refine below_drewN ?_ _) | (with_reducible refine below_ext_of ?_ (by first | exact Nat.le_refl _ | assumption | (simp only [World.size_alloc, World.size_setCell, size_ext, World.heap_drewN]; omega)) _ _) | (with_reducible refine Below.alloc ?_ (by first | exact Nat.le_refl _ | assumption | (simp only [World.size_alloc, World.size_setCell, size_ext, World.heap_drewN]; omega)) _) | (with_reducible refine Below.setCell ?_ (by first | exact Nat.le_refl _ | assumption | (simp only [World.size_alloc, World.size_setCell, size_ext, World.heap_drewN]; omega)) _))⟩
  · obtain ⟨q1, q2⟩ := int_no A s hA (.inl (low_large A (.inl h2)))
    have Hq1 := Lib.hid q1; have Hq2 := Lib.hid q2; clear q1 q2
    have b2 : (dg A 2 != 0) = true := by simpa using h2
    go_enter Try.func69, Try.ntmps69
    go_wp2_with fail
    go_ret2
    exact ⟨ret_ib Hq1.out Hq2.out, by repeat (first | (with_reducible exact Below.refl _ _) | (with_reducible assumption) | (with_reducible refine below_drewN ?_ _) | (with_reducible refine below_ext_of ?_ (by first | exact Nat.le_refl _ | assumption | (simp only [World.size_alloc, World.size_setCell, size_ext, World.heap_drewN]; omega)) _ _) | (with_reducible refine Below.alloc ?_ (by first | exact Nat.le_refl _ | assumption | (simp only [World.size_alloc, World.size_setCell, size_ext, World.heap_drewN]; omega)) _) | (with_reducible refine Below.setCell ?_ (by first | exact Nat.le_refl _ | assumption | (simp only [World.size_alloc, World.size_setCell, size_ext, World.heap_drewN]; omega)) _))⟩

end Go.Proofs.Ytkabmpbfabgkfaa
