/-
  heap.New, Put, Take, Len, First: contracts.
  Conditions: the heap is nil, or one in memory that holds at most 4096 jobs.
-/
import Derived.Test.YtbplaiooipldlaaTk
import Derived.WalkKit
import Derived.WalkSpells
import Derived.WalkLawsBesides
import Derived.Deep.QuietTactic
import Derived.BigQuiet
import Derived.Lib.Hide
import Derived.Handy
import Derived.Deep.RegionHeld3
import Derived.Deep.RegionWith
import Derived.BigRegion
set_option linter.unusedVariables false
set_option linter.unusedSimpArgs false
namespace Go.Proofs.Ytbplaiooipldlaa
open Go.RowKit Hp
attribute [local go_sem] setCell_drewN alloc_drewN size_ext ext_ext ext_drewN ext_drew drewN_ext drew_ext cell?_ext frozen?_ext setCell_ext cell?_past1 frozen?_past1 setCell_past1 cell?_past2 frozen?_past2 setCell_past2 cell?_past3 frozen?_past3 setCell_past3 cell?_past4 frozen?_past4 setCell_past4 cell?_past5 frozen?_past5 setCell_past5 cell?_past6 frozen?_past6 setCell_past6 cell?_past7 frozen?_past7 setCell_past7 cell?_past8 frozen?_past8 setCell_past8

theorem IsHeap.lenForm {w : World} {H : Nat} {v : Value} {most : Int} {xs : List Key} (h : IsHeap w H v most xs) : ∃ p cap, v = .slice p xs.length cap := by
  rcases h.2.2 with ⟨h1, h2⟩ | ⟨g, cap, cur, rfl, _⟩
  · exact ⟨none, 0, by rw [h1, h2]⟩
  · exact ⟨_, cap, rfl⟩
theorem Appended.of {w w0 w' : World} {H : Nat} {v v' : Value} {most : Int} {zs : List Key} (h : Appended w0 w' H v most zs v') (hb : Below w.heap.size w w0) : Appended w w' H v most zs v' :=
  ⟨h.1, fun j hj => (h.2.1 j hj).imp id (fun hh => Nat.le_trans hb.size hh), (Fr.of_below (Fp := foot H v) hb).trans h.2.2 (fun _ _ hh => hh)⟩
theorem len_heap (w : World) (H : Nat) (v : Value) (most : Int) (xs : List Key) (h : IsHeap w H v most xs) : Calls Try.prog 12 #[.pointer (some ⟨H, 0, none⟩)] w fun e w' => e = .returned (.int .i64 (xs.length : Int)) ∧ w = w' := by
  obtain ⟨c0, c1, c2, cf⟩ := h.cells
  obtain ⟨p, cap, rfl⟩ := h.lenForm
  have Hh := Lib.hid h
  clear h
  go_enter Try.func12, Try.ntmps12
  go_wp2
  go_ret
  exact ⟨rfl, rfl⟩
theorem len_nil (w : World) : Calls Try.prog 12 #[.pointer none] w fun e w' => e = .returned (.int .i64 0) ∧ w = w' := by
  go_enter Try.func12, Try.ntmps12
  go_wp2
  go_ret
  exact ⟨rfl, rfl⟩
theorem new_ok (w : World) (most : Int) (h1 : 1 ≤ most) (h2 : most ≤ 4096) : Calls Try.prog 8 #[.int .i64 most] w fun e w' => e = .returned (.tuple #[.pointer (some ⟨w.heap.size, 0, none⟩), .int .i64 0]) ∧ IsHeap w' w.heap.size (.slice none 0 0) most [] ∧ Below w.heap.size w w' := by
  have d1 : decide (most < 1) = false := decide_eq_false (by omega)
  have d2 : decide (most > 4096) = false := decide_eq_false (by omega)
  have d3 : decide (4096 < most) = false := decide_eq_false (by omega)
  clear h1 h2
  go_enter Try.func8, Try.ntmps8
  go_wp2
  refine bodyPost_ret (v := .tuple #[.pointer (some ⟨w.heap.size, 0, none⟩), .int .i64 0]) (by simp [results, Try.results8, go_sem]) rfl ⟨rfl, ⟨?_, ?_, .inl ⟨rfl, rfl⟩⟩, ?_⟩
  · exact heap_alloc_new w _
  · rfl
  · repeat (first | (with_reducible exact Below.refl _ _) | (with_reducible assumption) | (with_reducible refine below_drewN ?_ _) | (with_reducible refine Below.drew ?_) | (with_reducible refine below_ext_of ?_ (by first | exact Nat.le_refl _ | assumption | (simp only [World.size_alloc, World.size_setCell, size_ext, World.heap_drewN]; omega)) _ _) | (with_reducible refine Below.alloc ?_ (by first | exact Nat.le_refl _ | assumption | (simp only [World.size_alloc, World.size_setCell, size_ext, World.heap_drewN]; omega)) _) | (with_reducible refine Below.setCell ?_ (by first | exact Nat.le_refl _ | assumption | (simp only [World.size_alloc, World.size_setCell, size_ext, World.heap_drewN]; omega)) _))
theorem new_bad (w : World) (most : Int) (h : ¬ (1 ≤ most ∧ most ≤ 4096)) : Calls Try.prog 8 #[.int .i64 most] w fun e w' => e = .returned (.tuple #[.pointer none, .int .i64 2]) ∧ w = w' := by
  by_cases h1 : most < 1
  · have d1 := decide_eq_true h1
    clear h h1
    go_enter Try.func8, Try.ntmps8
    go_wp2
    exact bodyPost_ret (v := .tuple #[.pointer none, .int .i64 2]) (by simp [results, Try.results8, go_sem]) rfl ⟨rfl, rfl⟩
  · have d1 := decide_eq_false h1
    have d3 : decide (4096 < most) = true := decide_eq_true (by omega)
    clear h h1
    go_enter Try.func8, Try.ntmps8
    go_wp2
    exact bodyPost_ret (v := .tuple #[.pointer none, .int .i64 2]) (by simp [results, Try.results8, go_sem]) rfl ⟨rfl, rfl⟩
theorem hput_nil (w : World) (k : Key) : Calls Try.prog 9 #[.pointer none, .agg #[.int .i64 k.due, .int .i64 k.task, .int .i64 k.n]] w fun e w' => e = .returned (.int .i64 1) ∧ Below w.heap.size w w' := by
  go_enter Try.func9, Try.ntmps9
  go_wp2
  go_ret
  exact ⟨rfl, by repeat (first | (with_reducible exact Below.refl _ _) | (with_reducible assumption) | (with_reducible refine below_drewN ?_ _) | (with_reducible refine Below.drew ?_) | (with_reducible refine below_ext_of ?_ (by first | exact Nat.le_refl _ | assumption | (simp only [World.size_alloc, World.size_setCell, size_ext, World.heap_drewN]; omega)) _ _) | (with_reducible refine Below.alloc ?_ (by first | exact Nat.le_refl _ | assumption | (simp only [World.size_alloc, World.size_setCell, size_ext, World.heap_drewN]; omega)) _) | (with_reducible refine Below.setCell ?_ (by first | exact Nat.le_refl _ | assumption | (simp only [World.size_alloc, World.size_setCell, size_ext, World.heap_drewN]; omega)) _))⟩
theorem htake_nil (w : World) : Calls Try.prog 10 #[.pointer none] w fun e w' => e = .returned (.tuple #[.agg #[.int .i64 0, .int .i64 0, .int .i64 0], .bool false]) ∧ Below w.heap.size w w' := by
  go_enter Try.func10, Try.ntmps10
  go_wp2_with fail
  refine (len_nil _).mono ?_
  rintro e w' ⟨rfl, rfl⟩
  go_wp2_with fail
  refine bodyPost_ret (v := .tuple #[.agg #[.int .i64 0, .int .i64 0, .int .i64 0], .bool false]) (by simp [results, Try.results10, go_sem]) rfl ⟨rfl, ?_⟩
  repeat (first | (with_reducible exact Below.refl _ _) | (with_reducible assumption) | (with_reducible refine below_drewN ?_ _) | (with_reducible refine Below.drew ?_) | (with_reducible refine below_ext_of ?_ (by first | exact Nat.le_refl _ | assumption | (simp only [World.size_alloc, World.size_setCell, size_ext, World.heap_drewN]; omega)) _ _) | (with_reducible refine Below.alloc ?_ (by first | exact Nat.le_refl _ | assumption | (simp only [World.size_alloc, World.size_setCell, size_ext, World.heap_drewN]; omega)) _) | (with_reducible refine Below.setCell ?_ (by first | exact Nat.le_refl _ | assumption | (simp only [World.size_alloc, World.size_setCell, size_ext, World.heap_drewN]; omega)) _))
theorem hfirst_nil (w : World) : Calls Try.prog 15 #[.pointer none] w fun e w' => e = .returned (.tuple #[.agg #[.int .i64 0, .int .i64 0, .int .i64 0], .bool false]) ∧ Below w.heap.size w w' := by
  go_enter Try.func15, Try.ntmps15
  go_wp2_with fail
  refine (len_nil _).mono ?_
  rintro e w' ⟨rfl, rfl⟩
  go_wp2_with fail
  refine bodyPost_ret (v := .tuple #[.agg #[.int .i64 0, .int .i64 0, .int .i64 0], .bool false]) (by simp [results, Try.results15, go_sem]) rfl ⟨rfl, ?_⟩
  repeat (first | (with_reducible exact Below.refl _ _) | (with_reducible assumption) | (with_reducible refine below_drewN ?_ _) | (with_reducible refine Below.drew ?_) | (with_reducible refine below_ext_of ?_ (by first | exact Nat.le_refl _ | assumption | (simp only [World.size_alloc, World.size_setCell, size_ext, World.heap_drewN]; omega)) _ _) | (with_reducible refine Below.alloc ?_ (by first | exact Nat.le_refl _ | assumption | (simp only [World.size_alloc, World.size_setCell, size_ext, World.heap_drewN]; omega)) _) | (with_reducible refine Below.setCell ?_ (by first | exact Nat.le_refl _ | assumption | (simp only [World.size_alloc, World.size_setCell, size_ext, World.heap_drewN]; omega)) _))
theorem hrows_nil (w : World) : Calls Try.prog 17 #[.pointer none] w fun e w' => e = .returned (.slice none 0 0) ∧ w = w' := by
  go_enter Try.func17, Try.ntmps17
  go_wp2
  go_ret
  exact ⟨rfl, rfl⟩
theorem hput_full (w : World) (k : Key) (H : Nat) (v : Value) (most : Int) (xs : List Key) (h : IsHeap w H v most xs) (hm : most ≤ xs.length) : Calls Try.prog 9 #[.pointer (some ⟨H, 0, none⟩), .agg #[.int .i64 k.due, .int .i64 k.task, .int .i64 k.n]] w fun e w' => e = .returned (.int .i64 6) ∧ Below w.heap.size w w' := by
  obtain ⟨c0, c1, c2, cf⟩ := h.cells
  obtain ⟨p, cap, rfl⟩ := h.lenForm
  have hH := h.lt H (.inl rfl)
  have d1 : decide (most ≤ (xs.length : Int)) = true := decide_eq_true hm
  have d2 : decide ((xs.length : Int) ≥ most) = true := decide_eq_true hm
  have Hh := Lib.hid h
  clear h hm
  go_enter Try.func9, Try.ntmps9
  go_wp2_with fail
  go_region
  all_goals
    go_wp2_with fail
    go_ret
    exact ⟨rfl, by repeat (first | (with_reducible exact Below.refl _ _) | (with_reducible assumption) | (with_reducible refine below_drewN ?_ _) | (with_reducible refine Below.drew ?_) | (with_reducible refine below_ext_of ?_ (by first | exact Nat.le_refl _ | assumption | (simp only [World.size_alloc, World.size_setCell, size_ext, World.heap_drewN]; omega)) _ _) | (with_reducible refine Below.alloc ?_ (by first | exact Nat.le_refl _ | assumption | (simp only [World.size_alloc, World.size_setCell, size_ext, World.heap_drewN]; omega)) _) | (with_reducible refine Below.setCell ?_ (by first | exact Nat.le_refl _ | assumption | (simp only [World.size_alloc, World.size_setCell, size_ext, World.heap_drewN]; omega)) _))⟩
theorem hput_ok (w : World) (k : Key) (H : Nat) (v : Value) (most : Int) (xs : List Key) (h : IsHeap w H v most xs) (hm : (xs.length : Int) < most) (hn : xs.length < 4096) : Calls Try.prog 9 #[.pointer (some ⟨H, 0, none⟩), .agg #[.int .i64 k.due, .int .i64 k.task, .int .i64 k.n]] w fun e w' => e = .returned (.int .i64 0) ∧ ∃ v', Appended w w' H v most (put xs k) v' := by
  obtain ⟨c0, c1, c2, cf⟩ := h.cells
  obtain ⟨p, cap, hv⟩ := h.lenForm
  have hH := h.lt H (.inl rfl)
  have d1 : decide (most ≤ (xs.length : Int)) = false := decide_eq_false (by omega)
  have d2 : decide ((xs.length : Int) ≥ most) = false := decide_eq_false (by omega)
  have Hh := Lib.hid h
  have Hv := Lib.hid hv
  have Hn := Lib.hid hn
  rw [hv] at c0
  clear h hm hv hn
  go_enter Try.func9, Try.ntmps9
  go_wp2_with fail
  go_region
  go_wp2_with fail
  go_region_with (go_at_call 18; refine (put_any k xs H v most _ (Hh.out.kept (Fp := fun _ => False) (by repeat (first | (with_reducible exact Fr.refl _ _) | (with_reducible apply Fr.ext) | (with_reducible apply Fr.drew) | (with_reducible apply Fr.alloc))) (fun _ _ h => h)) Hn.out).mono ?_; rintro e w1 ⟨rfl, v', hA⟩)
  go_wp2_with fail
  go_ret
  refine ⟨rfl, v', Appended.of hA ?_⟩
  repeat (first | (with_reducible exact Below.refl _ _) | (with_reducible assumption) | (with_reducible refine below_drewN ?_ _) | (with_reducible refine Below.drew ?_) | (with_reducible refine below_ext_of ?_ (by first | exact Nat.le_refl _ | assumption | (simp only [World.size_alloc, World.size_setCell, size_ext, World.heap_drewN]; omega)) _ _) | (with_reducible refine Below.alloc ?_ (by first | exact Nat.le_refl _ | assumption | (simp only [World.size_alloc, World.size_setCell, size_ext, World.heap_drewN]; omega)) _) | (with_reducible refine Below.setCell ?_ (by first | exact Nat.le_refl _ | assumption | (simp only [World.size_alloc, World.size_setCell, size_ext, World.heap_drewN]; omega)) _))
theorem htake_none (w : World) (H : Nat) (v : Value) (most : Int) (xs : List Key) (h : IsHeap w H v most xs) (h0 : xs.length = 0) : Calls Try.prog 10 #[.pointer (some ⟨H, 0, none⟩)] w fun e w' => e = .returned (.tuple #[.agg #[.int .i64 0, .int .i64 0, .int .i64 0], .bool false]) ∧ Below w.heap.size w w' := by
  have Hh := Lib.hid h
  have H0 := Lib.hid (show (xs.length : Int) = 0 by omega)
  clear h h0
  go_enter Try.func10, Try.ntmps10
  go_wp2_with fail
  refine (len_heap _ H v most xs (Hh.out.kept (Fp := fun _ => False) (by repeat (first | (with_reducible exact Fr.refl _ _) | (with_reducible apply Fr.ext) | (with_reducible apply Fr.drew) | (with_reducible apply Fr.alloc))) (fun _ _ h => h))).mono ?_
  rintro e w' ⟨rfl, rfl⟩
  rw [H0.out]
  go_wp2_with fail
  refine bodyPost_ret (v := .tuple #[.agg #[.int .i64 0, .int .i64 0, .int .i64 0], .bool false]) (by simp [results, Try.results10, go_sem]) rfl ⟨rfl, ?_⟩
  repeat (first | (with_reducible exact Below.refl _ _) | (with_reducible assumption) | (with_reducible refine below_drewN ?_ _) | (with_reducible refine Below.drew ?_) | (with_reducible refine below_ext_of ?_ (by first | exact Nat.le_refl _ | assumption | (simp only [World.size_alloc, World.size_setCell, size_ext, World.heap_drewN]; omega)) _ _) | (with_reducible refine Below.alloc ?_ (by first | exact Nat.le_refl _ | assumption | (simp only [World.size_alloc, World.size_setCell, size_ext, World.heap_drewN]; omega)) _) | (with_reducible refine Below.setCell ?_ (by first | exact Nat.le_refl _ | assumption | (simp only [World.size_alloc, World.size_setCell, size_ext, World.heap_drewN]; omega)) _))
theorem hfirst_none (w : World) (H : Nat) (v : Value) (most : Int) (xs : List Key) (h : IsHeap w H v most xs) (h0 : xs.length = 0) : Calls Try.prog 15 #[.pointer (some ⟨H, 0, none⟩)] w fun e w' => e = .returned (.tuple #[.agg #[.int .i64 0, .int .i64 0, .int .i64 0], .bool false]) ∧ Below w.heap.size w w' := by
  have Hh := Lib.hid h
  have H0 := Lib.hid (show (xs.length : Int) = 0 by omega)
  clear h h0
  go_enter Try.func15, Try.ntmps15
  go_wp2_with fail
  refine (len_heap _ H v most xs (Hh.out.kept (Fp := fun _ => False) (by repeat (first | (with_reducible exact Fr.refl _ _) | (with_reducible apply Fr.ext) | (with_reducible apply Fr.drew) | (with_reducible apply Fr.alloc))) (fun _ _ h => h))).mono ?_
  rintro e w' ⟨rfl, rfl⟩
  rw [H0.out]
  go_wp2_with fail
  refine bodyPost_ret (v := .tuple #[.agg #[.int .i64 0, .int .i64 0, .int .i64 0], .bool false]) (by simp [results, Try.results15, go_sem]) rfl ⟨rfl, ?_⟩
  repeat (first | (with_reducible exact Below.refl _ _) | (with_reducible assumption) | (with_reducible refine below_drewN ?_ _) | (with_reducible refine Below.drew ?_) | (with_reducible refine below_ext_of ?_ (by first | exact Nat.le_refl _ | assumption | (simp only [World.size_alloc, World.size_setCell, size_ext, World.heap_drewN]; omega)) _ _) | (with_reducible refine Below.alloc ?_ (by first | exact Nat.le_refl _ | assumption | (simp only [World.size_alloc, World.size_setCell, size_ext, World.heap_drewN]; omega)) _) | (with_reducible refine Below.setCell ?_ (by first | exact Nat.le_refl _ | assumption | (simp only [World.size_alloc, World.size_setCell, size_ext, World.heap_drewN]; omega)) _))
theorem hfirst_ok (w : World) (H : Nat) (v : Value) (most : Int) (xs : List Key) (h : IsHeap w H v most xs) (h0 : 0 < xs.length) : Calls Try.prog 15 #[.pointer (some ⟨H, 0, none⟩)] w fun e w' => e = .returned (.tuple #[.agg #[.int .i64 (at_ xs 0).due, .int .i64 (at_ xs 0).task, .int .i64 (at_ xs 0).n], .bool true]) ∧ Below w.heap.size w w' := by
  have H0 := Lib.hid (show ((xs.length : Int) == 0) = false from beq_false_of_ne (by omega))
  obtain ⟨g1, cap1, rfl, hg, hgH, hcap, hcm⟩ := h.form h0
  obtain ⟨c0, c1, c2, cf⟩ := h.cells
  have hH := h.lt H (.inl rfl)
  obtain ⟨f1, f2, f3⟩ := h.rowE rfl 0 h0
  rw [Nat.zero_mul] at f1 f2 f3
  rw [Nat.zero_add] at f2 f3
  have b3 : (0 : Int) < ↑xs.length := by omega
  have Hh := Lib.hid h
  clear h
  generalize at_ xs 0 = a at *
  go_enter Try.func15, Try.ntmps15
  go_wp2_with fail
  refine (len_heap _ H _ most xs (Hh.out.kept (Fp := fun _ => False) (by repeat (first | (with_reducible exact Fr.refl _ _) | (with_reducible apply Fr.ext) | (with_reducible apply Fr.drew) | (with_reducible apply Fr.alloc))) (fun _ _ h => h))).mono ?_
  rintro e w' ⟨rfl, rfl⟩
  have h1 := H0.out
  go_wp2_with fail
  refine bodyPost_ret (v := .tuple #[.agg #[.int .i64 a.due, .int .i64 a.task, .int .i64 a.n], .bool true]) (by simp [results, Try.results15, go_sem]) rfl ⟨rfl, ?_⟩
  repeat (first | (with_reducible exact Below.refl _ _) | (with_reducible assumption) | (with_reducible refine below_drewN ?_ _) | (with_reducible refine Below.drew ?_) | (with_reducible refine below_ext_of ?_ (by first | exact Nat.le_refl _ | assumption | (simp only [World.size_alloc, World.size_setCell, size_ext, World.heap_drewN]; omega)) _ _) | (with_reducible refine Below.alloc ?_ (by first | exact Nat.le_refl _ | assumption | (simp only [World.size_alloc, World.size_setCell, size_ext, World.heap_drewN]; omega)) _) | (with_reducible refine Below.setCell ?_ (by first | exact Nat.le_refl _ | assumption | (simp only [World.size_alloc, World.size_setCell, size_ext, World.heap_drewN]; omega)) _))
theorem htake_ok (w : World) (H : Nat) (v : Value) (most : Int) (xs : List Key) (h : IsHeap w H v most xs) (h0 : 0 < xs.length) (hn : xs.length ≤ 4096) : Calls Try.prog 10 #[.pointer (some ⟨H, 0, none⟩)] w fun e w' => e = .returned (.tuple #[.agg #[.int .i64 (at_ xs 0).due, .int .i64 (at_ xs 0).task, .int .i64 (at_ xs 0).n], .bool true]) ∧ ∃ v', Appended w w' H v most (rest xs) v' := by
  have H0 := Lib.hid (show ((xs.length : Int) == 0) = false from beq_false_of_ne (by omega))
  have hH := h.lt H (.inl rfl)
  have HF := Lib.hid h.lt
  have Hh := Lib.hid h
  clear h
  generalize ha : at_ xs 0 = a at *
  have Ha := Lib.hid ha
  clear ha
  go_enter Try.func10, Try.ntmps10
  go_wp2_with fail
  refine (len_heap _ H _ most xs (Hh.out.kept (Fp := fun _ => False) (by repeat (first | (with_reducible exact Fr.refl _ _) | (with_reducible apply Fr.ext) | (with_reducible apply Fr.drew) | (with_reducible apply Fr.alloc))) (fun _ _ h => h))).mono ?_
  rintro e w' ⟨rfl, rfl⟩
  have h1 := H0.out
  go_wp2_with fail
  refine (take_any xs H v most _ (Hh.out.kept (Fp := fun _ => False) (by repeat (first | (with_reducible exact Fr.refl _ _) | (with_reducible apply Fr.ext) | (with_reducible apply Fr.drew) | (with_reducible apply Fr.alloc))) (fun _ _ h => h)) h0 hn).mono ?_
  rintro e w' ⟨rfl, v', hA⟩
  rw [Ha.out]
  have hnf : ¬ foot H v w.heap.size := fun hf => by have := HF.out _ hf; omega
  have hlt : w.heap.size < w'.heap.size := Nat.lt_of_lt_of_le (by simp [go_sem]) hA.2.2.size
  have y0 : w'.cell? ⟨w.heap.size, 0, none⟩ = some (.int .i64 0) := (hA.2.2.cell _ _ (by simp [go_sem]) hnf).trans (by simp [go_sem])
  have y1 : w'.cell? ⟨w.heap.size, 1, none⟩ = some (.int .i64 0) := (hA.2.2.cell _ _ (by simp [go_sem]) hnf).trans (by simp [go_sem])
  have y2 : w'.cell? ⟨w.heap.size, 2, none⟩ = some (.int .i64 0) := (hA.2.2.cell _ _ (by simp [go_sem]) hnf).trans (by simp [go_sem])
  have yf : ∀ o, w'.frozen? ⟨w.heap.size, o, none⟩ = false := fun o => (hA.2.2.frozen _ _ (by simp [go_sem]) hnf).trans (by simp [go_sem])
  have HA := Lib.hid (Appended.of (w := w) hA (by repeat (first | (with_reducible exact Below.refl _ _) | (with_reducible assumption) | (with_reducible refine below_drewN ?_ _) | (with_reducible refine Below.drew ?_) | (with_reducible refine below_ext_of ?_ (by first | exact Nat.le_refl _ | assumption | (simp only [World.size_alloc, World.size_setCell, size_ext, World.heap_drewN]; omega)) _ _) | (with_reducible refine Below.alloc ?_ (by first | exact Nat.le_refl _ | assumption | (simp only [World.size_alloc, World.size_setCell, size_ext, World.heap_drewN]; omega)) _) | (with_reducible refine Below.setCell ?_ (by first | exact Nat.le_refl _ | assumption | (simp only [World.size_alloc, World.size_setCell, size_ext, World.heap_drewN]; omega)) _))))
  have Hnf := Lib.hid (show ∀ j, foot H v' j → j ≠ w.heap.size from fun j hj e => by
    subst e
    rcases hA.2.1 _ hj with h | h
    · exact hnf h
    · simp [go_sem] at h; omega)
  clear hA
  go_wp2_with fail
  refine bodyPost_ret (v := .tuple #[.agg #[.int .i64 a.due, .int .i64 a.task, .int .i64 a.n], .bool true]) (by simp [results, Try.results10, go_sem, y0, y1, y2, hlt]) rfl ⟨rfl, v', ?_, HA.out.2.1, ?_⟩
  · exact HA.out.1.kept (Fp := fun k => k = w.heap.size) ((((Fr.refl (fun k => k = w.heap.size) w').setCell _ _ _ (.inl rfl)).setCell _ _ _ (.inl rfl)).setCell _ _ _ (.inl rfl)) (fun k hk e => Hnf.out k hk e)
  · exact (((HA.out.2.2).setCell _ _ _ (.inr (Nat.le_refl _))).setCell _ _ _ (.inr (Nat.le_refl _))).setCell _ _ _ (.inr (Nat.le_refl _))
end Go.Proofs.Ytbplaiooipldlaa
