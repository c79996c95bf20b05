/-
  carillonref01: Mul of numbers with a sign.
  Conditions: the sizes' product is below 2^128.
-/
import Derived.Test.YtkabmpbfabgkfaaAd
set_option linter.unusedVariables false
set_option linter.unusedSimpArgs false
namespace Go.Proofs.Ytkabmpbfabgkfaa
open Go.RowKit Big
attribute [local go_sem] setCell_drewN alloc_drewN size_ext ext_ext ext_drewN ext_drew drewN_ext drew_ext cell?_ext frozen?_ext setCell_ext cell?_past1 frozen?_past1 setCell_past1 cell?_past2 frozen?_past2 setCell_past2 cell?_past3 frozen?_past3 setCell_past3 cell?_past4 frozen?_past4 setCell_past4 cell?_past5 frozen?_past5 setCell_past5 cell?_past6 frozen?_past6 setCell_past6 cell?_past7 frozen?_past7 setCell_past7 cell?_past8 frozen?_past8 setCell_past8

theorem mX_wrap (A B i k j : Nat) (hj : j = i + k) : IntKind.u64.wrap (IntKind.u64.wrap (td A B i j + IntKind.u64.wrap (dg A i * dg B k)) + mC (tR A B i) A B i k) = mX A B i k := by
  subst hj
  have h1 := td_lo A B i (i + k); have h2 := mC_lo (tR A B i) A B i k; have h3 := Int.mul_nonneg (dg_lo A i) (dg_lo B k); have h4 := mX_hi A B i k; have h5 := dg_mul_hi A B i k
  rw [IntKind.wrap_u64, IntKind.wrap_u64, IntKind.wrap_u64]
  unfold mX at *
  have e : dg A i * dg B k % 18446744073709551616 = dg A i * dg B k := Int.emod_eq_of_lt h3 (by omega)
  rw [e]
  generalize dg A i * dg B k = p at *
  omega
theorem mX_bits (A B i k j : Nat) (h : i + k < 4) (hj : j = i + k) : bits .and .u64 (mX A B i k) 4294967295 = td A B (i + 1) j := by
  subst hj
  rw [and_low32 _ (mX_lo A B i k) (mX_hi A B i k)]; exact mX_dg A B i k h
theorem mw00 (A B : Nat) : IntKind.u64.wrap (IntKind.u64.wrap (IntKind.u64.wrap (dg A 0 * dg B 0))) = mX A B 0 0 := by
  have h := mX_wrap A B 0 0 0 rfl
  rw [mC0, Int.add_zero] at h
  rw [td_zero, Int.zero_add] at h
  exact h
theorem mb00 (A B : Nat) : bits .and .u64 (mX A B 0 0) 4294967295 = td A B 1 0 := mX_bits A B 0 0 0 (by omega) rfl
theorem mc00 (A B : Nat) : mX A B 0 0 / 4294967296 = mC (tR A B 0) A B 0 1 := mX_mC A B 0 0
theorem mw01 (A B : Nat) : IntKind.u64.wrap (IntKind.u64.wrap (IntKind.u64.wrap (dg A 0 * dg B 1)) + mC (tR A B 0) A B 0 1) = mX A B 0 1 := by
  have h := mX_wrap A B 0 1 1 rfl
  rw [td_zero, Int.zero_add] at h
  exact h
theorem mb01 (A B : Nat) : bits .and .u64 (mX A B 0 1) 4294967295 = td A B 1 1 := mX_bits A B 0 1 1 (by omega) rfl
theorem mc01 (A B : Nat) : mX A B 0 1 / 4294967296 = mC (tR A B 0) A B 0 2 := mX_mC A B 0 1
theorem mw02 (A B : Nat) : IntKind.u64.wrap (IntKind.u64.wrap (IntKind.u64.wrap (dg A 0 * dg B 2)) + mC (tR A B 0) A B 0 2) = mX A B 0 2 := by
  have h := mX_wrap A B 0 2 2 rfl
  rw [td_zero, Int.zero_add] at h
  exact h
theorem mb02 (A B : Nat) : bits .and .u64 (mX A B 0 2) 4294967295 = td A B 1 2 := mX_bits A B 0 2 2 (by omega) rfl
theorem mc02 (A B : Nat) : mX A B 0 2 / 4294967296 = mC (tR A B 0) A B 0 3 := mX_mC A B 0 2
theorem mw03 (A B : Nat) : IntKind.u64.wrap (IntKind.u64.wrap (IntKind.u64.wrap (dg A 0 * dg B 3)) + mC (tR A B 0) A B 0 3) = mX A B 0 3 := by
  have h := mX_wrap A B 0 3 3 rfl
  rw [td_zero, Int.zero_add] at h
  exact h
theorem mb03 (A B : Nat) : bits .and .u64 (mX A B 0 3) 4294967295 = td A B 1 3 := mX_bits A B 0 3 3 (by omega) rfl
theorem mc03 (A B : Nat) : mX A B 0 3 / 4294967296 = mC (tR A B 0) A B 0 4 := mX_mC A B 0 3
theorem mw10 (A B : Nat) : IntKind.u64.wrap (IntKind.u64.wrap (td A B 1 1 + IntKind.u64.wrap (dg A 1 * dg B 0))) = mX A B 1 0 := by
  have h := mX_wrap A B 1 0 1 rfl
  rw [mC0, Int.add_zero] at h
  exact h
theorem mb10 (A B : Nat) : bits .and .u64 (mX A B 1 0) 4294967295 = td A B 2 1 := mX_bits A B 1 0 1 (by omega) rfl
theorem mc10 (A B : Nat) : mX A B 1 0 / 4294967296 = mC (tR A B 1) A B 1 1 := mX_mC A B 1 0
theorem mw11 (A B : Nat) : IntKind.u64.wrap (IntKind.u64.wrap (td A B 1 2 + IntKind.u64.wrap (dg A 1 * dg B 1)) + mC (tR A B 1) A B 1 1) = mX A B 1 1 := by
  have h := mX_wrap A B 1 1 2 rfl
  exact h
theorem mb11 (A B : Nat) : bits .and .u64 (mX A B 1 1) 4294967295 = td A B 2 2 := mX_bits A B 1 1 2 (by omega) rfl
theorem mc11 (A B : Nat) : mX A B 1 1 / 4294967296 = mC (tR A B 1) A B 1 2 := mX_mC A B 1 1
theorem mw12 (A B : Nat) : IntKind.u64.wrap (IntKind.u64.wrap (td A B 1 3 + IntKind.u64.wrap (dg A 1 * dg B 2)) + mC (tR A B 1) A B 1 2) = mX A B 1 2 := by
  have h := mX_wrap A B 1 2 3 rfl
  exact h
theorem mb12 (A B : Nat) : bits .and .u64 (mX A B 1 2) 4294967295 = td A B 2 3 := mX_bits A B 1 2 3 (by omega) rfl
theorem mc12 (A B : Nat) : mX A B 1 2 / 4294967296 = mC (tR A B 1) A B 1 3 := mX_mC A B 1 2
theorem mw20 (A B : Nat) : IntKind.u64.wrap (IntKind.u64.wrap (td A B 2 2 + IntKind.u64.wrap (dg A 2 * dg B 0))) = mX A B 2 0 := by
  have h := mX_wrap A B 2 0 2 rfl
  rw [mC0, Int.add_zero] at h
  exact h
theorem mb20 (A B : Nat) : bits .and .u64 (mX A B 2 0) 4294967295 = td A B 3 2 := mX_bits A B 2 0 2 (by omega) rfl
theorem mc20 (A B : Nat) : mX A B 2 0 / 4294967296 = mC (tR A B 2) A B 2 1 := mX_mC A B 2 0
theorem mw21 (A B : Nat) : IntKind.u64.wrap (IntKind.u64.wrap (td A B 2 3 + IntKind.u64.wrap (dg A 2 * dg B 1)) + mC (tR A B 2) A B 2 1) = mX A B 2 1 := by
  have h := mX_wrap A B 2 1 3 rfl
  exact h
theorem mb21 (A B : Nat) : bits .and .u64 (mX A B 2 1) 4294967295 = td A B 3 3 := mX_bits A B 2 1 3 (by omega) rfl
theorem mc21 (A B : Nat) : mX A B 2 1 / 4294967296 = mC (tR A B 2) A B 2 2 := mX_mC A B 2 1
theorem mw30 (A B : Nat) : IntKind.u64.wrap (IntKind.u64.wrap (td A B 3 3 + IntKind.u64.wrap (dg A 3 * dg B 0))) = mX A B 3 0 := by
  have h := mX_wrap A B 3 0 3 rfl
  rw [mC0, Int.add_zero] at h
  exact h
theorem mb30 (A B : Nat) : bits .and .u64 (mX A B 3 0) 4294967295 = td A B 4 3 := mX_bits A B 3 0 3 (by omega) rfl
theorem mc30 (A B : Nat) : mX A B 3 0 / 4294967296 = mC (tR A B 3) A B 3 1 := mX_mC A B 3 0
theorem td0 (A B : Nat) : td A B 1 0 = dg (A * B) 0 := td_done A B 0
theorem td1 (A B : Nat) : td A B 2 1 = dg (A * B) 1 := td_done A B 1
theorem td2 (A B : Nat) : td A B 3 2 = dg (A * B) 2 := td_done A B 2
theorem td3 (A B : Nat) : td A B 4 3 = dg (A * B) 3 := td_done A B 3
attribute [local go_sem] td0 td1 td2 td3 mw00 mb00 mc00 mw01 mb01 mc01 mw02 mb02 mc02 mw03 mb03 mc03 mw10 mb10 mc10 mw11 mb11 mc11 mw12 mb12 mc12 mw20 mb20 mc20 mw21 mb21 mc21 mw30 mb30 mc30
set_option maxHeartbeats 4000000 in
theorem mul_any (A B : Nat) (s t : Bool) (w : World) (hAB : A * B < 340282366920938463463374607431768211456) :
    Calls Try.prog 68 #[.agg #[.int .u64 (dg A 0), .int .u64 (dg A 1), .int .u64 (dg A 2), .int .u64 (dg A 3), .bool s], .agg #[.int .u64 (dg B 0), .int .u64 (dg B 1), .int .u64 (dg B 2), .int .u64 (dg B 3), .bool t]] w
      fun e w' => e = .returned (.agg #[.int .u64 (dg (A * B) 0), .int .u64 (dg (A * B) 1), .int .u64 (dg (A * B) 2), .int .u64 (dg (A * B) 3), .bool (!(s == t) && nz (A * B))]) ∧ Below w.heap.size w w' := by
  go_enter Try.func68, Try.ntmps68
  go_wp2_with fail
  refine wp_loop_rounds 5 ?_
  rw [rounds_succ]
  go_wp2_with fail
  refine wp_loop_rounds 5 ?_
  rw [rounds_succ]
  go_wp2_with fail
  go_quiet (fail)
  go_wp2_with fail
  rw [rounds_succ]
  go_wp2_with fail
  go_quiet (fail)
  go_wp2_with fail
  rw [rounds_succ]
  go_wp2_with fail
  go_quiet (fail)
  go_wp2_with fail
  rw [rounds_succ]
  go_wp2_with fail
  go_quiet (fail)
  go_wp2_with fail
  rw [rounds_succ]
  go_wp2_with fail
  rw [rounds_succ]
  go_wp2_with fail
  refine wp_loop_rounds 5 ?_
  rw [rounds_succ]
  go_wp2_with fail
  go_quiet (fail)
  go_wp2_with fail
  rw [rounds_succ]
  go_wp2_with fail
  go_quiet (fail)
  go_wp2_with fail
  rw [rounds_succ]
  go_wp2_with fail
  go_quiet (fail)
  go_wp2_with fail
  rw [rounds_succ]
  go_wp2_with fail
  rw [rounds_succ]
  go_wp2_with fail
  refine wp_loop_rounds 5 ?_
  rw [rounds_succ]
  go_wp2_with fail
  go_quiet (fail)
  go_wp2_with fail
  rw [rounds_succ]
  go_wp2_with fail
  go_quiet (fail)
  go_wp2_with fail
  rw [rounds_succ]
  go_wp2_with fail
  rw [rounds_succ]
  go_wp2_with fail
  refine wp_loop_rounds 5 ?_
  rw [rounds_succ]
  go_wp2_with fail
  go_quiet (fail)
  go_wp2_with fail
  rw [rounds_succ]
  go_wp2_with fail
  rw [rounds_succ]
  go_wp2_with (go_at_call 84; refine (signed_any (A * B) false _ _ hAB).mono ?_; rintro e w1 ⟨rfl, hb⟩; obtain ⟨X, d, rfl⟩ := below_ext hb; clear hb)
  refine bodyPost_ret (v := .agg #[.int .u64 (dg (A * B) 0), .int .u64 (dg (A * B) 1), .int .u64 (dg (A * B) 2), .int .u64 (dg (A * B) 3), .bool (!(s == t) && nz (A * B))]) (by simp [results, Try.results68, go_sem]) rfl ⟨rfl, ?_⟩
  repeat (first | (with_reducible exact Below.refl _ _) | (with_reducible assumption) | (with_reducible refine below_drewN ?_ _) | (with_reducible refine below_ext_of ?_ (by first | exact Nat.le_refl _ | assumption | (simp only [World.size_alloc, World.size_setCell, size_ext, World.heap_drewN]; omega)) _ _) | (with_reducible refine Below.alloc ?_ (by first | exact Nat.le_refl _ | assumption | (simp only [World.size_alloc, World.size_setCell, size_ext, World.heap_drewN]; omega)) _) | (with_reducible refine Below.setCell ?_ (by first | exact Nat.le_refl _ | assumption | (simp only [World.size_alloc, World.size_setCell, size_ext, World.heap_drewN]; omega)) _))
end Go.Proofs.Ytkabmpbfabgkfaa
