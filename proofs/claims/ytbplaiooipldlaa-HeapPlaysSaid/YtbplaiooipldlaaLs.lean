/-
  heap.Less: it answers whether one job precedes the other.
  No condition.
-/
import Derived.Test.YtbplaiooipldlaaAux
import Derived.WalkKit
import Derived.WalkSpells
import Derived.WalkLawsBesides
import Derived.Deep.QuietTactic
import Derived.BigQuiet
import Derived.Lib.Hide
import Derived.Handy
import Derived.Deep.RegionHeld3
set_option linter.unusedVariables false
set_option linter.unusedSimpArgs false
namespace Go.Proofs.Ytbplaiooipldlaa
open Go.RowKit Hp
attribute [local go_sem] setCell_drewN alloc_drewN size_ext ext_ext ext_drewN ext_drew drewN_ext drew_ext cell?_ext frozen?_ext setCell_ext cell?_past1 frozen?_past1 setCell_past1 cell?_past2 frozen?_past2 setCell_past2 cell?_past3 frozen?_past3 setCell_past3 cell?_past4 frozen?_past4 setCell_past4 cell?_past5 frozen?_past5 setCell_past5 cell?_past6 frozen?_past6 setCell_past6 cell?_past7 frozen?_past7 setCell_past7 cell?_past8 frozen?_past8 setCell_past8

theorem ret_i {k : IntKind} {x y : Int} (h : x = y) : Ending.returned (.int k x) = Ending.returned (.int k y) := by rw [h]
theorem ret_b {x y : Bool} (h : x = y) : Ending.returned (.bool x) = Ending.returned (.bool y) := by rw [h]
def cmpI (x y : Int) : Int := if x < y then -1 else if y < x then 1 else 0
/-- The first one that is not 0. -/
def orI (a b c : Int) : Int := if a = 0 then (if b = 0 then c else b) else a
theorem less_or (a b : Key) : decide (orI (cmpI a.due b.due) (cmpI a.task b.task) (cmpI a.n b.n) < 0) = less a b := by
  unfold less
  rw [Bool.eq_iff_iff, decide_eq_true_iff]
  unfold orI cmpI
  by_cases h1 : a.due = b.due <;> by_cases h2 : a.task = b.task <;> simp [h1, h2] <;> (repeat' split) <;> simp_all <;> omega

set_option maxHeartbeats 400000 in
theorem cmp_64 (x y : Int) (w : World) : Calls Try.prog 21 #[.int .i64 x, .int .i64 y] w fun e w' => e = .returned (.int .i64 (cmpI x y)) ∧ w = w' := by
  by_cases h1 : x < y
  · have H := Lib.hid (show -1 = cmpI x y by unfold cmpI; rw [if_pos h1])
    go_enter Try.func21, Try.ntmps21
    go_wp2
    go_ret
    exact ⟨by rw [← H.out]; rfl, rfl⟩
  · by_cases h2 : y < x
    · have H := Lib.hid (show 1 = cmpI x y by unfold cmpI; rw [if_neg h1, if_pos h2])
      go_enter Try.func21, Try.ntmps21
      go_wp2
      go_ret
      exact ⟨by rw [← H.out]; rfl, rfl⟩
    · have H := Lib.hid (show 0 = cmpI x y by unfold cmpI; rw [if_neg h1, if_neg h2])
      go_enter Try.func21, Try.ntmps21
      go_wp2
      go_ret
      exact ⟨by rw [← H.out]; rfl, rfl⟩

set_option maxHeartbeats 400000 in
theorem cmp_int (x y : Int) (w : World) : Calls Try.prog 22 #[.int .i64 x, .int .i64 y] w fun e w' => e = .returned (.int .i64 (cmpI x y)) ∧ w = w' := by
  by_cases h1 : x < y
  · have H := Lib.hid (show -1 = cmpI x y by unfold cmpI; rw [if_pos h1])
    go_enter Try.func22, Try.ntmps22
    go_wp2
    go_ret
    exact ⟨by rw [← H.out]; rfl, rfl⟩
  · by_cases h2 : y < x
    · have H := Lib.hid (show 1 = cmpI x y by unfold cmpI; rw [if_neg h1, if_pos h2])
      go_enter Try.func22, Try.ntmps22
      go_wp2
      go_ret
      exact ⟨by rw [← H.out]; rfl, rfl⟩
    · have H := Lib.hid (show 0 = cmpI x y by unfold cmpI; rw [if_neg h1, if_neg h2])
      go_enter Try.func22, Try.ntmps22
      go_wp2
      go_ret
      exact ⟨by rw [← H.out]; rfl, rfl⟩

set_option maxHeartbeats 400000 in
theorem or_any (g : Nat) (a b c : Int) (w : World) (h0 : w.cell? ⟨g, 0, none⟩ = some (.int .i64 a)) (h1 : w.cell? ⟨g, 1, none⟩ = some (.int .i64 b)) (h2 : w.cell? ⟨g, 2, none⟩ = some (.int .i64 c)) :
    Calls Try.prog 20 #[.slice (some ⟨g, 0, none⟩) 3 3] w fun e w' => e = .returned (.int .i64 (orI a b c)) ∧ w = w' := by
  by_cases ha : a = 0
  · have ea : (a != 0) = false := by simpa using ha
    by_cases hb : b = 0
    · have eb : (b != 0) = false := by simpa using hb
      by_cases hc : c = 0
      · have ec : (c != 0) = false := by simpa using hc
        have H := Lib.hid (show 0 = orI a b c by unfold orI; rw [if_pos ha, if_pos hb, hc])
        clear ha hb hc
        go_enter Try.func20, Try.ntmps20
        go_wp2_with fail
        refine wp_loop_rounds 4 ?_
        rw [rounds_succ]
        go_wp2_with fail
        rw [rounds_succ]
        go_wp2_with fail
        rw [rounds_succ]
        go_wp2_with fail
        rw [rounds_succ]
        go_wp2_with fail
        go_ret
        exact ⟨ret_i H.out, rfl⟩
      · have ec : (c != 0) = true := bne_iff_ne.2 hc
        have H := Lib.hid (show c = orI a b c by unfold orI; rw [if_pos ha, if_pos hb])
        clear ha hb hc
        go_enter Try.func20, Try.ntmps20
        go_wp2_with fail
        refine wp_loop_rounds 3 ?_
        rw [rounds_succ]
        go_wp2_with fail
        rw [rounds_succ]
        go_wp2_with fail
        rw [rounds_succ]
        go_wp2_with fail
        go_ret
        exact ⟨ret_i H.out, rfl⟩
    · have eb : (b != 0) = true := bne_iff_ne.2 hb
      have H := Lib.hid (show b = orI a b c by unfold orI; rw [if_pos ha, if_neg hb])
      clear ha hb
      go_enter Try.func20, Try.ntmps20
      go_wp2_with fail
      refine wp_loop_rounds 2 ?_
      rw [rounds_succ]
      go_wp2_with fail
      rw [rounds_succ]
      go_wp2_with fail
      go_ret
      exact ⟨ret_i H.out, rfl⟩
  · have ea : (a != 0) = true := bne_iff_ne.2 ha
    have H := Lib.hid (show a = orI a b c by unfold orI; rw [if_neg ha])
    clear ha
    go_enter Try.func20, Try.ntmps20
    go_wp2_with fail
    refine wp_loop_rounds 1 ?_
    rw [rounds_succ]
    go_wp2_with fail
    go_ret
    exact ⟨ret_i H.out, rfl⟩

set_option maxHeartbeats 800000 in
theorem less_any (a b : Key) (w : World) : Calls Try.prog 11 #[.agg #[.int .i64 a.due, .int .i64 a.task, .int .i64 a.n], .agg #[.int .i64 b.due, .int .i64 b.task, .int .i64 b.n]] w fun e w' => e = .returned (.bool (less a b)) ∧ Below w.heap.size w w' := by
  have Hl := Lib.hid (less_or a b)
  go_enter Try.func11, Try.ntmps11
  go_wp2_with fail
  go_region_held3 (fun w' => w'.cell? ⟨w.heap.size, 0, none⟩ = some (.int .i64 a.due) ∧ w'.cell? ⟨w.heap.size, 1, none⟩ = some (.int .i64 a.task) ∧ w'.cell? ⟨w.heap.size, 2, none⟩ = some (.int .i64 a.n) ∧ w'.cell? ⟨w.heap.size + 1, 0, none⟩ = some (.int .i64 b.due) ∧ w'.cell? ⟨w.heap.size + 1, 1, none⟩ = some (.int .i64 b.task) ∧ w'.cell? ⟨w.heap.size + 1, 2, none⟩ = some (.int .i64 b.n)) (go_simp) (first
    | (go_at_call 21; refine (cmp_64 _ _ _).mono ?_; rintro e w1 ⟨rfl, rfl⟩)
    | (go_at_call 22; refine (cmp_int _ _ _).mono ?_; rintro e w1 ⟨rfl, rfl⟩)
    | (go_at_call 20; refine (or_any _ (cmpI a.due b.due) (cmpI a.task b.task) (cmpI a.n b.n) _ ?_ ?_ ?_).mono ?_; (simp [go_sem]); (simp [go_sem]); (simp [go_sem]); rintro e w1 ⟨rfl, rfl⟩))
  rename_i hHeld
  clear hHeld
  go_wp2_with fail
  go_ret
  exact ⟨ret_b Hl.out, by repeat (first | (with_reducible exact Below.refl _ _) | (with_reducible assumption) | (with_reducible refine below_drewN ?_ _) | (with_reducible refine Below.drew ?_) | (with_reducible refine below_ext_of ?_ (by first | exact Nat.le_refl _ | assumption | (simp only [World.size_alloc, World.size_setCell, size_ext, World.heap_drewN]; omega)) _ _) | (with_reducible refine Below.alloc ?_ (by first | exact Nat.le_refl _ | assumption | (simp only [World.size_alloc, World.size_setCell, size_ext, World.heap_drewN]; omega)) _) | (with_reducible refine Below.setCell ?_ (by first | exact Nat.le_refl _ | assumption | (simp only [World.size_alloc, World.size_setCell, size_ext, World.heap_drewN]; omega)) _))⟩
end Go.Proofs.Ytbplaiooipldlaa
