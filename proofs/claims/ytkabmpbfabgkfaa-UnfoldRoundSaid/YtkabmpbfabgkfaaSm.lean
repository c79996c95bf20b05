/-
  carillonref01: less, Zero, plus, minus, signed, Minus: what each answers on numbers that are told by their digits.
  Conditions: the numbers are below 2^128 where they are held against each other.
-/
import Derived.Test.YtkabmpbfabgkfaaAux
set_option linter.unusedVariables false
set_option linter.unusedSimpArgs false
namespace Go.Proofs.Ytkabmpbfabgkfaa
open Go.RowKit Big

attribute [local go_sem] setCell_drewN alloc_drewN size_ext ext_ext ext_drewN ext_drew drewN_ext drew_ext cell?_ext frozen?_ext setCell_ext xs_wrap xs_wrap0 xs_dg xs_cy
set_option maxHeartbeats 400000 in
theorem plus_any (A B : Nat) (s t : Bool) (w : World) :
    Calls Try.prog 85 #[.agg #[.int .u64 (dg A 0), .int .u64 (dg A 1), .int .u64 (dg A 2), .int .u64 (dg A 3), .bool s], .agg #[.int .u64 (dg B 0), .int .u64 (dg B 1), .int .u64 (dg B 2), .int .u64 (dg B 3), .bool t]] w
      fun e w' => e = .returned (.agg #[.int .u64 (dg (A + B) 0), .int .u64 (dg (A + B) 1), .int .u64 (dg (A + B) 2), .int .u64 (dg (A + B) 3), .bool s]) ∧ Below w.heap.size w w' := by
  go_enter Try.func85, Try.ntmps85
  go_wp2
  refine wp_loop_rounds 5 ?_
  iterate 4
    rw [rounds_succ]
    go_wp2_with fail
    go_quiet (fail)
    go_wp2_with fail
  rw [rounds_succ]
  go_wp2_with fail
  refine bodyPost_ret (v := .agg #[.int .u64 (dg (A + B) 0), .int .u64 (dg (A + B) 1), .int .u64 (dg (A + B) 2), .int .u64 (dg (A + B) 3), .bool s]) (by simp [results, Try.results85, go_sem]) rfl ⟨rfl, ?_⟩
  repeat (first | (with_reducible exact Below.refl _ _) | (with_reducible assumption) | (with_reducible refine below_drewN ?_ _) | (with_reducible refine below_ext_of ?_ (by first | exact Nat.le_refl _ | assumption | (simp only [World.size_alloc, World.size_setCell, size_ext, World.heap_drewN]; omega)) _ _) | (with_reducible refine Below.alloc ?_ (by first | exact Nat.le_refl _ | assumption | (simp only [World.size_alloc, World.size_setCell, size_ext, World.heap_drewN]; omega)) _) | (with_reducible refine Below.setCell ?_ (by first | exact Nat.le_refl _ | assumption | (simp only [World.size_alloc, World.size_setCell, size_ext, World.heap_drewN]; omega)) _))

set_option maxHeartbeats 400000 in
theorem minus_any (A B : Nat) (s t : Bool) (w : World) (h : B ≤ A) :
    Calls Try.prog 87 #[.agg #[.int .u64 (dg A 0), .int .u64 (dg A 1), .int .u64 (dg A 2), .int .u64 (dg A 3), .bool s], .agg #[.int .u64 (dg B 0), .int .u64 (dg B 1), .int .u64 (dg B 2), .int .u64 (dg B 3), .bool t]] w
      fun e w' => e = .returned (.agg #[.int .u64 (dg (A - B) 0), .int .u64 (dg (A - B) 1), .int .u64 (dg (A - B) 2), .int .u64 (dg (A - B) 3), .bool s]) ∧ Below w.heap.size w w' := by
  have e1 := fun k => ds_wrap A B k
  have e2 := ds_wrap0 A B
  have e3 := fun k => ds_dg A B k h
  have e4 := fun k => ds_bw A B k h
  clear h
  go_enter Try.func87, Try.ntmps87
  go_wp2
  refine wp_loop_rounds 5 ?_
  iterate 4
    rw [rounds_succ]
    go_wp2_with fail
    go_quiet (fail)
    go_wp2_with fail
  rw [rounds_succ]
  go_wp2_with fail
  refine bodyPost_ret (v := .agg #[.int .u64 (dg (A - B) 0), .int .u64 (dg (A - B) 1), .int .u64 (dg (A - B) 2), .int .u64 (dg (A - B) 3), .bool s]) (by simp [results, Try.results87, go_sem]) rfl ⟨rfl, ?_⟩
  repeat (first | (with_reducible exact Below.refl _ _) | (with_reducible assumption) | (with_reducible refine below_drewN ?_ _) | (with_reducible refine below_ext_of ?_ (by first | exact Nat.le_refl _ | assumption | (simp only [World.size_alloc, World.size_setCell, size_ext, World.heap_drewN]; omega)) _ _) | (with_reducible refine Below.alloc ?_ (by first | exact Nat.le_refl _ | assumption | (simp only [World.size_alloc, World.size_setCell, size_ext, World.heap_drewN]; omega)) _) | (with_reducible refine Below.setCell ?_ (by first | exact Nat.le_refl _ | assumption | (simp only [World.size_alloc, World.size_setCell, size_ext, World.heap_drewN]; omega)) _))

set_option maxHeartbeats 400000 in
theorem less_at3 (A B : Nat) (s t : Bool) (w : World) (hA : A < 340282366920938463463374607431768211456) (hB : B < 340282366920938463463374607431768211456)  (h3 : dg A 3 ≠ dg B 3) :
    Calls Try.prog 86 #[.agg #[.int .u64 (dg A 0), .int .u64 (dg A 1), .int .u64 (dg A 2), .int .u64 (dg A 3), .bool s], .agg #[.int .u64 (dg B 0), .int .u64 (dg B 1), .int .u64 (dg B 2), .int .u64 (dg B 3), .bool t]] w
      fun e w' => e = .returned (.bool (decide (A < B))) ∧ Below w.heap.size w w' := by
  have b3 : (dg A 3 != dg B 3) = true := by simpa using h3
  have hfin : Hid (Ending.returned (.bool (decide (dg A 3 < dg B 3))) = Ending.returned (.bool (decide (A < B)))) := Lib.hid (by rw [decide_eq_decide.2 (less_3 hA hB  h3)])
  clear h3 hA hB
  go_enter Try.func86, Try.ntmps86
  go_wp2
  refine wp_loop_rounds 5 ?_
  rw [rounds_succ]
  go_wp2_with fail
  go_quiet (fail)
  go_wp2_with fail
  go_quiet (fail)
  go_wp2_with fail
  go_ret
  exact ⟨hfin.out, by repeat (first | (with_reducible exact Below.refl _ _) | (with_reducible assumption) | (with_reducible refine below_drewN ?_ _) | (with_reducible refine below_ext_of ?_ (by first | exact Nat.le_refl _ | assumption | (simp only [World.size_alloc, World.size_setCell, size_ext, World.heap_drewN]; omega)) _ _) | (with_reducible refine Below.alloc ?_ (by first | exact Nat.le_refl _ | assumption | (simp only [World.size_alloc, World.size_setCell, size_ext, World.heap_drewN]; omega)) _) | (with_reducible refine Below.setCell ?_ (by first | exact Nat.le_refl _ | assumption | (simp only [World.size_alloc, World.size_setCell, size_ext, World.heap_drewN]; omega)) _))⟩

set_option maxHeartbeats 400000 in
theorem less_at2 (A B : Nat) (s t : Bool) (w : World) (hA : A < 340282366920938463463374607431768211456) (hB : B < 340282366920938463463374607431768211456) (h3 : dg A 3 = dg B 3) (h2 : dg A 2 ≠ dg B 2) :
    Calls Try.prog 86 #[.agg #[.int .u64 (dg A 0), .int .u64 (dg A 1), .int .u64 (dg A 2), .int .u64 (dg A 3), .bool s], .agg #[.int .u64 (dg B 0), .int .u64 (dg B 1), .int .u64 (dg B 2), .int .u64 (dg B 3), .bool t]] w
      fun e w' => e = .returned (.bool (decide (A < B))) ∧ Below w.heap.size w w' := by
  have b3 : (dg A 3 != dg B 3) = false := by simpa using h3
  have b2 : (dg A 2 != dg B 2) = true := by simpa using h2
  have hfin : Hid (Ending.returned (.bool (decide (dg A 2 < dg B 2))) = Ending.returned (.bool (decide (A < B)))) := Lib.hid (by rw [decide_eq_decide.2 (less_2 hA hB h3 h2)])
  clear h3 h2 hA hB
  go_enter Try.func86, Try.ntmps86
  go_wp2
  refine wp_loop_rounds 5 ?_
  rw [rounds_succ]
  go_wp2_with fail
  go_quiet (fail)
  go_wp2_with fail
  rw [rounds_succ]
  go_wp2_with fail
  go_quiet (fail)
  go_wp2_with fail
  go_quiet (fail)
  go_wp2_with fail
  go_ret
  exact ⟨hfin.out, by repeat (first | (with_reducible exact Below.refl _ _) | (with_reducible assumption) | (with_reducible refine below_drewN ?_ _) | (with_reducible refine below_ext_of ?_ (by first | exact Nat.le_refl _ | assumption | (simp only [World.size_alloc, World.size_setCell, size_ext, World.heap_drewN]; omega)) _ _) | (with_reducible refine Below.alloc ?_ (by first | exact Nat.le_refl _ | assumption | (simp only [World.size_alloc, World.size_setCell, size_ext, World.heap_drewN]; omega)) _) | (with_reducible refine Below.setCell ?_ (by first | exact Nat.le_refl _ | assumption | (simp only [World.size_alloc, World.size_setCell, size_ext, World.heap_drewN]; omega)) _))⟩

set_option maxHeartbeats 400000 in
theorem less_at1 (A B : Nat) (s t : Bool) (w : World) (hA : A < 340282366920938463463374607431768211456) (hB : B < 340282366920938463463374607431768211456) (h3 : dg A 3 = dg B 3) (h2 : dg A 2 = dg B 2) (h1 : dg A 1 ≠ dg B 1) :
    Calls Try.prog 86 #[.agg #[.int .u64 (dg A 0), .int .u64 (dg A 1), .int .u64 (dg A 2), .int .u64 (dg A 3), .bool s], .agg #[.int .u64 (dg B 0), .int .u64 (dg B 1), .int .u64 (dg B 2), .int .u64 (dg B 3), .bool t]] w
      fun e w' => e = .returned (.bool (decide (A < B))) ∧ Below w.heap.size w w' := by
  have b3 : (dg A 3 != dg B 3) = false := by simpa using h3
  have b2 : (dg A 2 != dg B 2) = false := by simpa using h2
  have b1 : (dg A 1 != dg B 1) = true := by simpa using h1
  have hfin : Hid (Ending.returned (.bool (decide (dg A 1 < dg B 1))) = Ending.returned (.bool (decide (A < B)))) := Lib.hid (by rw [decide_eq_decide.2 (less_1 hA hB h3 h2 h1)])
  clear h3 h2 h1 hA hB
  go_enter Try.func86, Try.ntmps86
  go_wp2
  refine wp_loop_rounds 5 ?_
  rw [rounds_succ]
  go_wp2_with fail
  go_quiet (fail)
  go_wp2_with fail
  rw [rounds_succ]
  go_wp2_with fail
  go_quiet (fail)
  go_wp2_with fail
  rw [rounds_succ]
  go_wp2_with fail
  go_quiet (fail)
  go_wp2_with fail
  go_quiet (fail)
  go_wp2_with fail
  go_ret
  exact ⟨hfin.out, by repeat (first | (with_reducible exact Below.refl _ _) | (with_reducible assumption) | (with_reducible refine below_drewN ?_ _) | (with_reducible refine below_ext_of ?_ (by first | exact Nat.le_refl _ | assumption | (simp only [World.size_alloc, World.size_setCell, size_ext, World.heap_drewN]; omega)) _ _) | (with_reducible refine Below.alloc ?_ (by first | exact Nat.le_refl _ | assumption | (simp only [World.size_alloc, World.size_setCell, size_ext, World.heap_drewN]; omega)) _) | (with_reducible refine Below.setCell ?_ (by first | exact Nat.le_refl _ | assumption | (simp only [World.size_alloc, World.size_setCell, size_ext, World.heap_drewN]; omega)) _))⟩

set_option maxHeartbeats 400000 in
theorem less_at0 (A B : Nat) (s t : Bool) (w : World) (hA : A < 340282366920938463463374607431768211456) (hB : B < 340282366920938463463374607431768211456) (h3 : dg A 3 = dg B 3) (h2 : dg A 2 = dg B 2) (h1 : dg A 1 = dg B 1) (h0 : dg A 0 ≠ dg B 0) :
    Calls Try.prog 86 #[.agg #[.int .u64 (dg A 0), .int .u64 (dg A 1), .int .u64 (dg A 2), .int .u64 (dg A 3), .bool s], .agg #[.int .u64 (dg B 0), .int .u64 (dg B 1), .int .u64 (dg B 2), .int .u64 (dg B 3), .bool t]] w
      fun e w' => e = .returned (.bool (decide (A < B))) ∧ Below w.heap.size w w' := by
  have b3 : (dg A 3 != dg B 3) = false := by simpa using h3
  have b2 : (dg A 2 != dg B 2) = false := by simpa using h2
  have b1 : (dg A 1 != dg B 1) = false := by simpa using h1
  have b0 : (dg A 0 != dg B 0) = true := by simpa using h0
  have hfin : Hid (Ending.returned (.bool (decide (dg A 0 < dg B 0))) = Ending.returned (.bool (decide (A < B)))) := Lib.hid (by rw [decide_eq_decide.2 (less_0 hA hB h3 h2 h1)])
  clear h3 h2 h1 h0 hA hB
  go_enter Try.func86, Try.ntmps86
  go_wp2
  refine wp_loop_rounds 5 ?_
  rw [rounds_succ]
  go_wp2_with fail
  go_quiet (fail)
  go_wp2_with fail
  rw [rounds_succ]
  go_wp2_with fail
  go_quiet (fail)
  go_wp2_with fail
  rw [rounds_succ]
  go_wp2_with fail
  go_quiet (fail)
  go_wp2_with fail
  rw [rounds_succ]
  go_wp2_with fail
  go_quiet (fail)
  go_wp2_with fail
  go_quiet (fail)
  go_wp2_with fail
  go_ret
  exact ⟨hfin.out, by repeat (first | (with_reducible exact Below.refl _ _) | (with_reducible assumption) | (with_reducible refine below_drewN ?_ _) | (with_reducible refine below_ext_of ?_ (by first | exact Nat.le_refl _ | assumption | (simp only [World.size_alloc, World.size_setCell, size_ext, World.heap_drewN]; omega)) _ _) | (with_reducible refine Below.alloc ?_ (by first | exact Nat.le_refl _ | assumption | (simp only [World.size_alloc, World.size_setCell, size_ext, World.heap_drewN]; omega)) _) | (with_reducible refine Below.setCell ?_ (by first | exact Nat.le_refl _ | assumption | (simp only [World.size_alloc, World.size_setCell, size_ext, World.heap_drewN]; omega)) _))⟩

set_option maxHeartbeats 400000 in
theorem less_atE (A B : Nat) (s t : Bool) (w : World) (hA : A < 340282366920938463463374607431768211456) (hB : B < 340282366920938463463374607431768211456) (h3 : dg A 3 = dg B 3) (h2 : dg A 2 = dg B 2) (h1 : dg A 1 = dg B 1) (h0 : dg A 0 = dg B 0) :
    Calls Try.prog 86 #[.agg #[.int .u64 (dg A 0), .int .u64 (dg A 1), .int .u64 (dg A 2), .int .u64 (dg A 3), .bool s], .agg #[.int .u64 (dg B 0), .int .u64 (dg B 1), .int .u64 (dg B 2), .int .u64 (dg B 3), .bool t]] w
      fun e w' => e = .returned (.bool (decide (A < B))) ∧ Below w.heap.size w w' := by
  have b3 : (dg A 3 != dg B 3) = false := by simpa using h3
  have b2 : (dg A 2 != dg B 2) = false := by simpa using h2
  have b1 : (dg A 1 != dg B 1) = false := by simpa using h1
  have b0 : (dg A 0 != dg B 0) = false := by simpa using h0
  have hfin : Hid (Ending.returned (.bool false) = Ending.returned (.bool (decide (A < B)))) := Lib.hid (by rw [less_eq hA hB h3 h2 h1 h0]; simp)
  clear h3 h2 h1 h0 hA hB
  go_enter Try.func86, Try.ntmps86
  go_wp2
  refine wp_loop_rounds 5 ?_
  rw [rounds_succ]
  go_wp2_with fail
  go_quiet (fail)
  go_wp2_with fail
  rw [rounds_succ]
  go_wp2_with fail
  go_quiet (fail)
  go_wp2_with fail
  rw [rounds_succ]
  go_wp2_with fail
  go_quiet (fail)
  go_wp2_with fail
  rw [rounds_succ]
  go_wp2_with fail
  go_quiet (fail)
  go_wp2_with fail
  rw [rounds_succ]
  go_wp2_with fail
  go_ret
  exact ⟨hfin.out, by repeat (first | (with_reducible exact Below.refl _ _) | (with_reducible assumption) | (with_reducible refine below_drewN ?_ _) | (with_reducible refine below_ext_of ?_ (by first | exact Nat.le_refl _ | assumption | (simp only [World.size_alloc, World.size_setCell, size_ext, World.heap_drewN]; omega)) _ _) | (with_reducible refine Below.alloc ?_ (by first | exact Nat.le_refl _ | assumption | (simp only [World.size_alloc, World.size_setCell, size_ext, World.heap_drewN]; omega)) _) | (with_reducible refine Below.setCell ?_ (by first | exact Nat.le_refl _ | assumption | (simp only [World.size_alloc, World.size_setCell, size_ext, World.heap_drewN]; omega)) _))⟩

theorem less_any (A B : Nat) (s t : Bool) (w : World) (hA : A < 340282366920938463463374607431768211456) (hB : B < 340282366920938463463374607431768211456) :
    Calls Try.prog 86 #[.agg #[.int .u64 (dg A 0), .int .u64 (dg A 1), .int .u64 (dg A 2), .int .u64 (dg A 3), .bool s], .agg #[.int .u64 (dg B 0), .int .u64 (dg B 1), .int .u64 (dg B 2), .int .u64 (dg B 3), .bool t]] w
      fun e w' => e = .returned (.bool (decide (A < B))) ∧ Below w.heap.size w w' := by
  by_cases h3 : dg A 3 = dg B 3
  · by_cases h2 : dg A 2 = dg B 2
    · by_cases h1 : dg A 1 = dg B 1
      · by_cases h0 : dg A 0 = dg B 0
        · exact less_atE A B s t w hA hB h3 h2 h1 h0
        · exact less_at0 A B s t w hA hB h3 h2 h1 h0
      · exact less_at1 A B s t w hA hB h3 h2 h1
    · exact less_at2 A B s t w hA hB h3 h2
  · exact less_at3 A B s t w hA hB h3

theorem cells93 : Try.prog.cellsOf 93 = 1 := by kernel_rfl
theorem plain93 : Try.prog.plainKey 93 = true := by kernel_rfl
theorem info93 : ∃ i, Try.prog.info? 93 = some i := by
  cases h : Try.prog.info? 93 with
  | none => exact absurd (show (Try.prog.info? 93).isSome = true by kernel_rfl) (by rw [h]; simp)
  | some i => exact ⟨i, rfl⟩
/-- Four digits held against four. -/
theorem eq_four (a b c d x y z u : Int) (w : World) : (Op.equalIn 10000 110 (.agg #[.int .u64 a, .int .u64 b, .int .u64 c, .int .u64 d]) (.agg #[.int .u64 x, .int .u64 y, .int .u64 z, .int .u64 u])).run Try.prog w
    = .ok (a == x && (b == y && (c == z && d == u))) w := by
  obtain ⟨i, hi⟩ := info93
  have p0 : ∀ (W : World) (a b c d : Int), (part 93 #[.int .u64 a, .int .u64 b, .int .u64 c, .int .u64 d] 0).run Try.prog W = .ok (.int .u64 a) W := fun W a b c d => run_part_plain W plain93 rfl
  have p1 : ∀ (W : World) (a b c d : Int), (part 93 #[.int .u64 a, .int .u64 b, .int .u64 c, .int .u64 d] 1).run Try.prog W = .ok (.int .u64 b) W := fun W a b c d => run_part_plain W plain93 rfl
  have p2 : ∀ (W : World) (a b c d : Int), (part 93 #[.int .u64 a, .int .u64 b, .int .u64 c, .int .u64 d] 2).run Try.prog W = .ok (.int .u64 c) W := fun W a b c d => run_part_plain W plain93 rfl
  have p3 : ∀ (W : World) (a b c d : Int), (part 93 #[.int .u64 a, .int .u64 b, .int .u64 c, .int .u64 d] 3).run Try.prog W = .ok (.int .u64 d) W := fun W a b c d => run_part_plain W plain93 rfl
  have hq : ∀ (W : World) (a x : Int), (Op.equalIn 9999 93 (.int .u64 a) (.int .u64 x)).run Try.prog W = .ok (a == x) W := fun W a x => run_equalIn_int W 9998 93 .u64 .u64 a x Try.underlying93
  rw [run_equalIn_array (n := 4) (e := 93) w 9999 _ _ Try.underlying110 hi, cells93]
  simp only [show List.range 4 = [0, 1, 2, 3] from rfl, Op.eqItems, Sem.run_bind, Nat.mul_one]
  by_cases h1 : a = x <;> by_cases h2 : b = y <;> by_cases h3 : c = z <;> by_cases h4 : d = u <;> simp [h1, h2, h3, h4, p0, p1, p2, p3, hq]

/-- The walk's own spelling of 'it is not 0'. -/
theorem nz_not (A : Nat) : (!decide (A = 0)) = nz A := rfl
set_option maxHeartbeats 400000 in
theorem zero_any (A : Nat) (s : Bool) (w : World) (hA : A < 340282366920938463463374607431768211456) :
    Calls Try.prog 93 #[.agg #[.int .u64 (dg A 0), .int .u64 (dg A 1), .int .u64 (dg A 2), .int .u64 (dg A 3), .bool s]] w
      fun e w' => e = .returned (.bool (decide (A = 0))) ∧ Below w.heap.size w w' := by
  have hz := zero_iff A hA
  have hfin : Hid (Ending.returned (.bool (dg A 0 == 0 && (dg A 1 == 0 && (dg A 2 == 0 && dg A 3 == 0)))) = Ending.returned (.bool (decide (A = 0)))) := Lib.hid (by
    have e : (dg A 0 == 0 && (dg A 1 == 0 && (dg A 2 == 0 && dg A 3 == 0))) = decide (A = 0) := by
      rw [Bool.eq_iff_iff]; simpa using hz
    rw [e])
  have hrun := fun W => eq_four (dg A 0) (dg A 1) (dg A 2) (dg A 3) 0 0 0 0 W
  clear hz hA
  go_enter Try.func93, Try.ntmps93
  go_wp2
  go_ret
  exact ⟨hfin.out, by repeat (first | (with_reducible exact Below.refl _ _) | (with_reducible assumption) | (with_reducible refine below_drewN ?_ _) | (with_reducible refine below_ext_of ?_ (by first | exact Nat.le_refl _ | assumption | (simp only [World.size_alloc, World.size_setCell, size_ext, World.heap_drewN]; omega)) _ _) | (with_reducible refine Below.alloc ?_ (by first | exact Nat.le_refl _ | assumption | (simp only [World.size_alloc, World.size_setCell, size_ext, World.heap_drewN]; omega)) _) | (with_reducible refine Below.setCell ?_ (by first | exact Nat.le_refl _ | assumption | (simp only [World.size_alloc, World.size_setCell, size_ext, World.heap_drewN]; omega)) _))⟩

attribute [local go_sem] nz_not
set_option maxHeartbeats 400000 in
theorem signed_any (A : Nat) (s n : Bool) (w : World) (hA : A < 340282366920938463463374607431768211456) :
    Calls Try.prog 84 #[.agg #[.int .u64 (dg A 0), .int .u64 (dg A 1), .int .u64 (dg A 2), .int .u64 (dg A 3), .bool s], .bool n] w
      fun e w' => e = .returned (.agg #[.int .u64 (dg A 0), .int .u64 (dg A 1), .int .u64 (dg A 2), .int .u64 (dg A 3), .bool (n && nz A)]) ∧ Below w.heap.size w w' := by
  cases n
  · go_enter Try.func84, Try.ntmps84
    go_wp2
    refine bodyPost_ret (v := .agg #[.int .u64 (dg A 0), .int .u64 (dg A 1), .int .u64 (dg A 2), .int .u64 (dg A 3), .bool false]) (by simp [results, Try.results84, go_sem]) rfl ⟨rfl, ?_⟩
    repeat (first | (with_reducible exact Below.refl _ _) | (with_reducible assumption) | (with_reducible refine below_drewN ?_ _) | (with_reducible refine below_ext_of ?_ (by first | exact Nat.le_refl _ | assumption | (simp only [World.size_alloc, World.size_setCell, size_ext, World.heap_drewN]; omega)) _ _) | (with_reducible refine Below.alloc ?_ (by first | exact Nat.le_refl _ | assumption | (simp only [World.size_alloc, World.size_setCell, size_ext, World.heap_drewN]; omega)) _) | (with_reducible refine Below.setCell ?_ (by first | exact Nat.le_refl _ | assumption | (simp only [World.size_alloc, World.size_setCell, size_ext, World.heap_drewN]; omega)) _))
  · go_enter Try.func84, Try.ntmps84
    go_wp2_with (go_at_call 93; refine (zero_any A s _ hA).mono ?_; rintro e w1 ⟨rfl, hb⟩; obtain ⟨X, d, rfl⟩ := below_ext hb; clear hb)
    refine bodyPost_ret (v := .agg #[.int .u64 (dg A 0), .int .u64 (dg A 1), .int .u64 (dg A 2), .int .u64 (dg A 3), .bool (nz A)]) (by simp [results, Try.results84, go_sem]) rfl ⟨rfl, ?_⟩
    repeat (first | (with_reducible exact Below.refl _ _) | (with_reducible assumption) | (with_reducible refine below_drewN ?_ _) | (with_reducible refine below_ext_of ?_ (by first | exact Nat.le_refl _ | assumption | (simp only [World.size_alloc, World.size_setCell, size_ext, World.heap_drewN]; omega)) _ _) | (with_reducible refine Below.alloc ?_ (by first | exact Nat.le_refl _ | assumption | (simp only [World.size_alloc, World.size_setCell, size_ext, World.heap_drewN]; omega)) _) | (with_reducible refine Below.setCell ?_ (by first | exact Nat.le_refl _ | assumption | (simp only [World.size_alloc, World.size_setCell, size_ext, World.heap_drewN]; omega)) _))

end Go.Proofs.Ytkabmpbfabgkfaa
