/-
  carillonref01: Add of numbers with a sign.
  Conditions: both sizes are below 2^127.
-/
import Derived.Test.YtkabmpbfabgkfaaIo
import Derived.Deep.RegionWith
import Derived.Deep.RegionHeld3
set_option linter.unusedVariables false
set_option linter.unusedSimpArgs false
namespace Go.Proofs.Ytkabmpbfabgkfaa
open Go.RowKit Big
attribute [local go_sem] setCell_drewN alloc_drewN size_ext ext_ext ext_drewN ext_drew drewN_ext drew_ext cell?_ext frozen?_ext setCell_ext cell?_past1 frozen?_past1 setCell_past1 cell?_past2 frozen?_past2 setCell_past2 cell?_past3 frozen?_past3 setCell_past3 cell?_past4 frozen?_past4 setCell_past4 cell?_past5 frozen?_past5 setCell_past5 cell?_past6 frozen?_past6 setCell_past6 cell?_past7 frozen?_past7 setCell_past7 cell?_past8 frozen?_past8 setCell_past8

set_option maxHeartbeats 800000 in
theorem add_like (A B : Nat) (s t : Bool) (w : World) (hA : A < 170141183460469231731687303715884105728) (hB : B < 170141183460469231731687303715884105728) (ht : (s == t) = true) :
    Calls Try.prog 70 #[.agg #[.int .u64 (dg A 0), .int .u64 (dg A 1), .int .u64 (dg A 2), .int .u64 (dg A 3), .bool s], .agg #[.int .u64 (dg B 0), .int .u64 (dg B 1), .int .u64 (dg B 2), .int .u64 (dg B 3), .bool t]] w
      fun e w' => e = .returned (.agg #[.int .u64 (dg (A + B) 0), .int .u64 (dg (A + B) 1), .int .u64 (dg (A + B) 2), .int .u64 (dg (A + B) 3), .bool (s && nz (A + B))]) ∧ Below w.heap.size w w' := by
  have hAB : A + B < 340282366920938463463374607431768211456 := by omega
  clear hA hB
  go_enter Try.func70, Try.ntmps70
  go_wp2_with fail
  go_region_held3 (fun w' => w'.cell? ⟨w.heap.size, 0, none⟩ = some (.int .u64 (dg A 0)) ∧ w'.cell? ⟨w.heap.size, 1, none⟩ = some (.int .u64 (dg A 1)) ∧ w'.cell? ⟨w.heap.size, 2, none⟩ = some (.int .u64 (dg A 2)) ∧ w'.cell? ⟨w.heap.size, 3, none⟩ = some (.int .u64 (dg A 3)) ∧ w'.cell? ⟨w.heap.size, 4, none⟩ = some (.bool s) ∧ w'.cell? ⟨w.heap.size + 1, 0, none⟩ = some (.int .u64 (dg B 0)) ∧ w'.cell? ⟨w.heap.size + 1, 1, none⟩ = some (.int .u64 (dg B 1)) ∧ w'.cell? ⟨w.heap.size + 1, 2, none⟩ = some (.int .u64 (dg B 2)) ∧ w'.cell? ⟨w.heap.size + 1, 3, none⟩ = some (.int .u64 (dg B 3)) ∧ w'.cell? ⟨w.heap.size + 1, 4, none⟩ = some (.bool t)) (go_simp) (first
      | (go_at_call 85; refine (plus_any A B s t _).mono ?_; rintro e w1 ⟨rfl, hb⟩; obtain ⟨X, d, rfl⟩ := below_ext hb; clear hb)
      | (go_at_call 84; refine (signed_any (A + B) s s _ hAB).mono ?_; rintro e w2 ⟨rfl, hb2⟩; obtain ⟨X2, d2, rfl⟩ := below_ext hb2; clear hb2))
  rename_i hHeld
  clear hHeld
  go_wp2_with fail
  refine bodyPost_ret (v := .agg #[.int .u64 (dg (A + B) 0), .int .u64 (dg (A + B) 1), .int .u64 (dg (A + B) 2), .int .u64 (dg (A + B) 3), .bool (s && nz (A + B))]) (by simp [results, Try.results70, go_sem]) rfl ⟨rfl, ?_⟩
  repeat (first | (with_reducible exact Below.refl _ _) | (with_reducible assumption) | (with_reducible refine below_drewN ?_ _) | (with_reducible refine below_ext_of ?_ (by first | exact Nat.le_refl _ | assumption | (simp only [World.size_alloc, World.size_setCell, size_ext, World.heap_drewN]; omega)) _ _) | (with_reducible refine Below.alloc ?_ (by first | exact Nat.le_refl _ | assumption | (simp only [World.size_alloc, World.size_setCell, size_ext, World.heap_drewN]; omega)) _) | (with_reducible refine Below.setCell ?_ (by first | exact Nat.le_refl _ | assumption | (simp only [World.size_alloc, World.size_setCell, size_ext, World.heap_drewN]; omega)) _))

set_option maxHeartbeats 800000 in
theorem add_less (A B : Nat) (s t : Bool) (w : World) (hA : A < 170141183460469231731687303715884105728) (hB : B < 170141183460469231731687303715884105728) (ht : (s == t) = false) (h : A < B) :
    Calls Try.prog 70 #[.agg #[.int .u64 (dg A 0), .int .u64 (dg A 1), .int .u64 (dg A 2), .int .u64 (dg A 3), .bool s], .agg #[.int .u64 (dg B 0), .int .u64 (dg B 1), .int .u64 (dg B 2), .int .u64 (dg B 3), .bool t]] w
      fun e w' => e = .returned (.agg #[.int .u64 (dg (B - A) 0), .int .u64 (dg (B - A) 1), .int .u64 (dg (B - A) 2), .int .u64 (dg (B - A) 3), .bool (t && nz (B - A))]) ∧ Below w.heap.size w w' := by
  have hAB : B - A < 340282366920938463463374607431768211456 := by omega
  have hA' : A < 340282366920938463463374607431768211456 := by omega
  have hB' : B < 340282366920938463463374607431768211456 := by omega
  have hle : A ≤ B := by omega
  have hd : decide (A < B) = true := decide_eq_true h
  clear hA hB h
  go_enter Try.func70, Try.ntmps70
  go_wp2_with (go_at_call 86; refine (less_any A B s t _ hA' hB').mono ?_; rintro e w3 ⟨rfl, hb3⟩; obtain ⟨X3, d3, rfl⟩ := below_ext hb3; clear hb3)
  go_region_held3 (fun w' => w'.cell? ⟨w.heap.size, 0, none⟩ = some (.int .u64 (dg A 0)) ∧ w'.cell? ⟨w.heap.size, 1, none⟩ = some (.int .u64 (dg A 1)) ∧ w'.cell? ⟨w.heap.size, 2, none⟩ = some (.int .u64 (dg A 2)) ∧ w'.cell? ⟨w.heap.size, 3, none⟩ = some (.int .u64 (dg A 3)) ∧ w'.cell? ⟨w.heap.size, 4, none⟩ = some (.bool s) ∧ w'.cell? ⟨w.heap.size + 1, 0, none⟩ = some (.int .u64 (dg B 0)) ∧ w'.cell? ⟨w.heap.size + 1, 1, none⟩ = some (.int .u64 (dg B 1)) ∧ w'.cell? ⟨w.heap.size + 1, 2, none⟩ = some (.int .u64 (dg B 2)) ∧ w'.cell? ⟨w.heap.size + 1, 3, none⟩ = some (.int .u64 (dg B 3)) ∧ w'.cell? ⟨w.heap.size + 1, 4, none⟩ = some (.bool t)) (go_simp) (first
      | (go_at_call 87; refine (minus_any B A t s _ hle).mono ?_; rintro e w1 ⟨rfl, hb⟩; obtain ⟨X, d, rfl⟩ := below_ext hb; clear hb)
      | (go_at_call 84; refine (signed_any (B - A) t t _ hAB).mono ?_; rintro e w2 ⟨rfl, hb2⟩; obtain ⟨X2, d2, rfl⟩ := below_ext hb2; clear hb2))
  rename_i hHeld
  clear hHeld
  go_wp2_with fail
  refine bodyPost_ret (v := .agg #[.int .u64 (dg (B - A) 0), .int .u64 (dg (B - A) 1), .int .u64 (dg (B - A) 2), .int .u64 (dg (B - A) 3), .bool (t && nz (B - A))]) (by simp [results, Try.results70, go_sem]) rfl ⟨rfl, ?_⟩
  repeat (first | (with_reducible exact Below.refl _ _) | (with_reducible assumption) | (with_reducible refine below_drewN ?_ _) | (with_reducible refine below_ext_of ?_ (by first | exact Nat.le_refl _ | assumption | (simp only [World.size_alloc, World.size_setCell, size_ext, World.heap_drewN]; omega)) _ _) | (with_reducible refine Below.alloc ?_ (by first | exact Nat.le_refl _ | assumption | (simp only [World.size_alloc, World.size_setCell, size_ext, World.heap_drewN]; omega)) _) | (with_reducible refine Below.setCell ?_ (by first | exact Nat.le_refl _ | assumption | (simp only [World.size_alloc, World.size_setCell, size_ext, World.heap_drewN]; omega)) _))

set_option maxHeartbeats 800000 in
theorem add_more (A B : Nat) (s t : Bool) (w : World) (hA : A < 170141183460469231731687303715884105728) (hB : B < 170141183460469231731687303715884105728) (ht : (s == t) = false) (h : ¬ A < B) :
    Calls Try.prog 70 #[.agg #[.int .u64 (dg A 0), .int .u64 (dg A 1), .int .u64 (dg A 2), .int .u64 (dg A 3), .bool s], .agg #[.int .u64 (dg B 0), .int .u64 (dg B 1), .int .u64 (dg B 2), .int .u64 (dg B 3), .bool t]] w
      fun e w' => e = .returned (.agg #[.int .u64 (dg (A - B) 0), .int .u64 (dg (A - B) 1), .int .u64 (dg (A - B) 2), .int .u64 (dg (A - B) 3), .bool (s && nz (A - B))]) ∧ Below w.heap.size w w' := by
  have hAB : A - B < 340282366920938463463374607431768211456 := by omega
  have hA' : A < 340282366920938463463374607431768211456 := by omega
  have hB' : B < 340282366920938463463374607431768211456 := by omega
  have hle : B ≤ A := by omega
  have hd : decide (A < B) = false := decide_eq_false h
  clear hA hB h
  go_enter Try.func70, Try.ntmps70
  go_wp2_with (go_at_call 86; refine (less_any A B s t _ hA' hB').mono ?_; rintro e w3 ⟨rfl, hb3⟩; obtain ⟨X3, d3, rfl⟩ := below_ext hb3; clear hb3)
  go_region_held3 (fun w' => w'.cell? ⟨w.heap.size, 0, none⟩ = some (.int .u64 (dg A 0)) ∧ w'.cell? ⟨w.heap.size, 1, none⟩ = some (.int .u64 (dg A 1)) ∧ w'.cell? ⟨w.heap.size, 2, none⟩ = some (.int .u64 (dg A 2)) ∧ w'.cell? ⟨w.heap.size, 3, none⟩ = some (.int .u64 (dg A 3)) ∧ w'.cell? ⟨w.heap.size, 4, none⟩ = some (.bool s) ∧ w'.cell? ⟨w.heap.size + 1, 0, none⟩ = some (.int .u64 (dg B 0)) ∧ w'.cell? ⟨w.heap.size + 1, 1, none⟩ = some (.int .u64 (dg B 1)) ∧ w'.cell? ⟨w.heap.size + 1, 2, none⟩ = some (.int .u64 (dg B 2)) ∧ w'.cell? ⟨w.heap.size + 1, 3, none⟩ = some (.int .u64 (dg B 3)) ∧ w'.cell? ⟨w.heap.size + 1, 4, none⟩ = some (.bool t)) (go_simp) (first
      | (go_at_call 87; refine (minus_any A B s t _ hle).mono ?_; rintro e w1 ⟨rfl, hb⟩; obtain ⟨X, d, rfl⟩ := below_ext hb; clear hb)
      | (go_at_call 84; refine (signed_any (A - B) s s _ hAB).mono ?_; rintro e w2 ⟨rfl, hb2⟩; obtain ⟨X2, d2, rfl⟩ := below_ext hb2; clear hb2))
  rename_i hHeld
  clear hHeld
  go_wp2_with fail
  refine bodyPost_ret (v := .agg #[.int .u64 (dg (A - B) 0), .int .u64 (dg (A - B) 1), .int .u64 (dg (A - B) 2), .int .u64 (dg (A - B) 3), .bool (s && nz (A - B))]) (by simp [results, Try.results70, go_sem]) rfl ⟨rfl, ?_⟩
  repeat (first | (with_reducible exact Below.refl _ _) | (with_reducible assumption) | (with_reducible refine below_drewN ?_ _) | (with_reducible refine below_ext_of ?_ (by first | exact Nat.le_refl _ | assumption | (simp only [World.size_alloc, World.size_setCell, size_ext, World.heap_drewN]; omega)) _ _) | (with_reducible refine Below.alloc ?_ (by first | exact Nat.le_refl _ | assumption | (simp only [World.size_alloc, World.size_setCell, size_ext, World.heap_drewN]; omega)) _) | (with_reducible refine Below.setCell ?_ (by first | exact Nat.le_refl _ | assumption | (simp only [World.size_alloc, World.size_setCell, size_ext, World.heap_drewN]; omega)) _))

theorem ret_big {A B : Nat} {s t : Bool} (h1 : A = B) (h2 : s = t) : Ending.returned (.agg #[.int .u64 (dg A 0), .int .u64 (dg A 1), .int .u64 (dg A 2), .int .u64 (dg A 3), .bool s]) = Ending.returned (.agg #[.int .u64 (dg B 0), .int .u64 (dg B 1), .int .u64 (dg B 2), .int .u64 (dg B 3), .bool t]) := by rw [h1, h2]

theorem add_any (A B : Nat) (s t : Bool) (w : World) (hA : A < 170141183460469231731687303715884105728) (hB : B < 170141183460469231731687303715884105728) :
    Calls Try.prog 70 #[.agg #[.int .u64 (dg A 0), .int .u64 (dg A 1), .int .u64 (dg A 2), .int .u64 (dg A 3), .bool s], .agg #[.int .u64 (dg B 0), .int .u64 (dg B 1), .int .u64 (dg B 2), .int .u64 (dg B 3), .bool t]] w
      fun e w' => e = .returned (.agg #[.int .u64 (dg (sg s A + sg t B).natAbs 0), .int .u64 (dg (sg s A + sg t B).natAbs 1), .int .u64 (dg (sg s A + sg t B).natAbs 2), .int .u64 (dg (sg s A + sg t B).natAbs 3), .bool (decide (sg s A + sg t B < 0))]) ∧ Below w.heap.size w w' := by
  by_cases ht : (s == t) = true
  · refine (add_like A B s t w hA hB ht).mono fun e w' ⟨he, hb⟩ => ⟨he.trans (ret_big ?_ ?_), hb⟩
    · obtain rfl : s = t := by simpa using ht
      unfold sg; cases s <;> simp <;> omega
    · obtain rfl : s = t := by simpa using ht
      unfold sg nz; rw [Bool.eq_iff_iff]; cases s <;> simp <;> omega
  · have ht' : (s == t) = false := by simpa using ht
    obtain rfl : t = !s := by cases s <;> cases t <;> simp at ht ⊢
    by_cases h : A < B
    · refine (add_less A B s _ w hA hB ht' h).mono fun e w' ⟨he, hb⟩ => ⟨he.trans (ret_big ?_ ?_), hb⟩
      · unfold sg; cases s <;> simp <;> omega
      · unfold sg nz; rw [Bool.eq_iff_iff]; cases s <;> simp <;> omega
    · refine (add_more A B s _ w hA hB ht' h).mono fun e w' ⟨he, hb⟩ => ⟨he.trans (ret_big ?_ ?_), hb⟩
      · unfold sg; cases s <;> simp <;> omega
      · unfold sg nz; rw [Bool.eq_iff_iff]; cases s <;> simp <;> omega
end Go.Proofs.Ytkabmpbfabgkfaa
