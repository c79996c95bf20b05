/-
  Clocks: which may be, and their dates.
  Conditions: the numbers are int64s.
-/
import Derived.Test.YtkabmpbfabgkfaaNu
import Derived.WalkKit
import Derived.WalkSpells
import Derived.WalkLawsBesides
import Derived.Deep.QuietTactic
import Derived.BigQuiet
import Derived.Lib.Hide
import Derived.Handy
import Derived.Deep.AppendLies
import Derived.Maps.AppendAt
import Derived.OwnWalk
import Derived.Lib.LazyBuf
import Derived.Deep.DeepCutAuto
import Derived.Deep.RegionLaw
import Derived.Deep.RegionHeld3
import Derived.Deep.RegionWith
import Derived.BigRegion
import Derived.Deep.CutBlock
set_option linter.unusedVariables false
set_option linter.unusedSimpArgs false
namespace Go.Proofs.Ytkabmpbfabgkfaa
open Go.RowKit 
open Big
attribute [local go_sem] setCell_drewN alloc_drewN size_ext ext_ext ext_drewN ext_drew drewN_ext drew_ext cell?_ext frozen?_ext setCell_ext cell?_past1 frozen?_past1 setCell_past1 cell?_past2 frozen?_past2 setCell_past2 cell?_past3 frozen?_past3 setCell_past3 cell?_past4 frozen?_past4 setCell_past4 cell?_past5 frozen?_past5 setCell_past5 cell?_past6 frozen?_past6 setCell_past6 cell?_past7 frozen?_past7 setCell_past7 cell?_past8 frozen?_past8 setCell_past8
/-- May a clock be? -/
def mayC (p s : Int) : Bool := decide (1 ≤ p) && (decide (p ≤ 1099511627776) && (decide (0 ≤ s) && decide (s ≤ 1099511627776)))
set_option maxHeartbeats 1000000 in
theorem may_clock (w : World) (p s : Int) : Calls Try.prog 65 #[.agg #[.int .i64 p, .int .i64 s]] w fun e w' => e = .returned (.bool (mayC p s)) ∧ Below w.heap.size w w' := by
  by_cases c0 : (1 : Int) ≤ p
  · have d0 : decide (p ≥ 1) = true := decide_eq_true c0
    by_cases c1 : p ≤ 1099511627776
    · have d1 : decide (p ≤ 1099511627776) = true := decide_eq_true c1
      by_cases c2 : (0 : Int) ≤ s
      · have d2 : decide (s ≥ 0) = true := decide_eq_true c2
        by_cases c3 : s ≤ 1099511627776
        · have d3 : decide (s ≤ 1099511627776) = true := decide_eq_true c3
          have hm : mayC p s = true := by unfold mayC; rw [decide_eq_true c0, decide_eq_true c1, decide_eq_true c2, decide_eq_true c3]; rfl
          rw [hm]
          clear hm
          go_enter Try.func65, Try.ntmps65
          go_wp2_with fail
          go_ret
          exact ⟨rfl, by repeat (first | (with_reducible exact Below.refl _ _) | (with_reducible assumption) | (with_reducible refine below_drewN ?_ _) | (with_reducible refine Below.drew ?_) | (with_reducible refine below_ext_of ?_ (by first | exact Nat.le_refl _ | assumption | (simp only [World.size_alloc, World.size_setCell, size_ext, World.heap_drewN]; omega)) _ _) | (with_reducible refine Below.alloc ?_ (by first | exact Nat.le_refl _ | assumption | (simp only [World.size_alloc, World.size_setCell, size_ext, World.heap_drewN]; omega)) _) | (with_reducible refine Below.setCell ?_ (by first | exact Nat.le_refl _ | assumption | (simp only [World.size_alloc, World.size_setCell, size_ext, World.heap_drewN]; omega)) _))⟩
        · have d3 : decide (s ≤ 1099511627776) = false := decide_eq_false c3
          have hm : mayC p s = false := by unfold mayC; simp [c3]
          rw [hm]
          clear hm
          go_enter Try.func65, Try.ntmps65
          go_wp2_with fail
          go_ret
          exact ⟨rfl, by repeat (first | (with_reducible exact Below.refl _ _) | (with_reducible assumption) | (with_reducible refine below_drewN ?_ _) | (with_reducible refine Below.drew ?_) | (with_reducible refine below_ext_of ?_ (by first | exact Nat.le_refl _ | assumption | (simp only [World.size_alloc, World.size_setCell, size_ext, World.heap_drewN]; omega)) _ _) | (with_reducible refine Below.alloc ?_ (by first | exact Nat.le_refl _ | assumption | (simp only [World.size_alloc, World.size_setCell, size_ext, World.heap_drewN]; omega)) _) | (with_reducible refine Below.setCell ?_ (by first | exact Nat.le_refl _ | assumption | (simp only [World.size_alloc, World.size_setCell, size_ext, World.heap_drewN]; omega)) _))⟩
      · have d2 : decide (s ≥ 0) = false := decide_eq_false c2
        have hm : mayC p s = false := by unfold mayC; simp [c2]
        rw [hm]
        clear hm
        go_enter Try.func65, Try.ntmps65
        go_wp2_with fail
        go_ret
        exact ⟨rfl, by repeat (first | (with_reducible exact Below.refl _ _) | (with_reducible assumption) | (with_reducible refine below_drewN ?_ _) | (with_reducible refine Below.drew ?_) | (with_reducible refine below_ext_of ?_ (by first | exact Nat.le_refl _ | assumption | (simp only [World.size_alloc, World.size_setCell, size_ext, World.heap_drewN]; omega)) _ _) | (with_reducible refine Below.alloc ?_ (by first | exact Nat.le_refl _ | assumption | (simp only [World.size_alloc, World.size_setCell, size_ext, World.heap_drewN]; omega)) _) | (with_reducible refine Below.setCell ?_ (by first | exact Nat.le_refl _ | assumption | (simp only [World.size_alloc, World.size_setCell, size_ext, World.heap_drewN]; omega)) _))⟩
    · have d1 : decide (p ≤ 1099511627776) = false := decide_eq_false c1
      have hm : mayC p s = false := by unfold mayC; simp [c1]
      rw [hm]
      clear hm
      go_enter Try.func65, Try.ntmps65
      go_wp2_with fail
      go_ret
      exact ⟨rfl, by repeat (first | (with_reducible exact Below.refl _ _) | (with_reducible assumption) | (with_reducible refine below_drewN ?_ _) | (with_reducible refine Below.drew ?_) | (with_reducible refine below_ext_of ?_ (by first | exact Nat.le_refl _ | assumption | (simp only [World.size_alloc, World.size_setCell, size_ext, World.heap_drewN]; omega)) _ _) | (with_reducible refine Below.alloc ?_ (by first | exact Nat.le_refl _ | assumption | (simp only [World.size_alloc, World.size_setCell, size_ext, World.heap_drewN]; omega)) _) | (with_reducible refine Below.setCell ?_ (by first | exact Nat.le_refl _ | assumption | (simp only [World.size_alloc, World.size_setCell, size_ext, World.heap_drewN]; omega)) _))⟩
  · have d0 : decide (p ≥ 1) = false := decide_eq_false c0
    have hm : mayC p s = false := by unfold mayC; simp [c0]
    rw [hm]
    clear hm
    go_enter Try.func65, Try.ntmps65
    go_wp2_with fail
    go_ret
    exact ⟨rfl, by repeat (first | (with_reducible exact Below.refl _ _) | (with_reducible assumption) | (with_reducible refine below_drewN ?_ _) | (with_reducible refine Below.drew ?_) | (with_reducible refine below_ext_of ?_ (by first | exact Nat.le_refl _ | assumption | (simp only [World.size_alloc, World.size_setCell, size_ext, World.heap_drewN]; omega)) _ _) | (with_reducible refine Below.alloc ?_ (by first | exact Nat.le_refl _ | assumption | (simp only [World.size_alloc, World.size_setCell, size_ext, World.heap_drewN]; omega)) _) | (with_reducible refine Below.setCell ?_ (by first | exact Nat.le_refl _ | assumption | (simp only [World.size_alloc, World.size_setCell, size_ext, World.heap_drewN]; omega)) _))⟩
set_option maxHeartbeats 1000000 in
theorem rmay_clock (w : World) (p s : Int) : Calls Try.prog 21 #[.agg #[.int .i64 p, .int .i64 s]] w fun e w' => e = .returned (.bool (mayC p s)) ∧ Below w.heap.size w w' := by
  by_cases c0 : (1 : Int) ≤ p
  · have d0 : decide (p ≥ 1) = true := decide_eq_true c0
    by_cases c1 : p ≤ 1099511627776
    · have d1 : decide (p ≤ 1099511627776) = true := decide_eq_true c1
      by_cases c2 : (0 : Int) ≤ s
      · have d2 : decide (s ≥ 0) = true := decide_eq_true c2
        by_cases c3 : s ≤ 1099511627776
        · have d3 : decide (s ≤ 1099511627776) = true := decide_eq_true c3
          have hm : mayC p s = true := by unfold mayC; rw [decide_eq_true c0, decide_eq_true c1, decide_eq_true c2, decide_eq_true c3]; rfl
          rw [hm]
          clear hm
          go_enter Try.func21, Try.ntmps21
          go_wp2_with fail
          go_ret
          exact ⟨rfl, by repeat (first | (with_reducible exact Below.refl _ _) | (with_reducible assumption) | (with_reducible refine below_drewN ?_ _) | (with_reducible refine Below.drew ?_) | (with_reducible refine below_ext_of ?_ (by first | exact Nat.le_refl _ | assumption | (simp only [World.size_alloc, World.size_setCell, size_ext, World.heap_drewN]; omega)) _ _) | (with_reducible refine Below.alloc ?_ (by first | exact Nat.le_refl _ | assumption | (simp only [World.size_alloc, World.size_setCell, size_ext, World.heap_drewN]; omega)) _) | (with_reducible refine Below.setCell ?_ (by first | exact Nat.le_refl _ | assumption | (simp only [World.size_alloc, World.size_setCell, size_ext, World.heap_drewN]; omega)) _))⟩
        · have d3 : decide (s ≤ 1099511627776) = false := decide_eq_false c3
          have hm : mayC p s = false := by unfold mayC; simp [c3]
          rw [hm]
          clear hm
          go_enter Try.func21, Try.ntmps21
          go_wp2_with fail
          go_ret
          exact ⟨rfl, by repeat (first | (with_reducible exact Below.refl _ _) | (with_reducible assumption) | (with_reducible refine below_drewN ?_ _) | (with_reducible refine Below.drew ?_) | (with_reducible refine below_ext_of ?_ (by first | exact Nat.le_refl _ | assumption | (simp only [World.size_alloc, World.size_setCell, size_ext, World.heap_drewN]; omega)) _ _) | (with_reducible refine Below.alloc ?_ (by first | exact Nat.le_refl _ | assumption | (simp only [World.size_alloc, World.size_setCell, size_ext, World.heap_drewN]; omega)) _) | (with_reducible refine Below.setCell ?_ (by first | exact Nat.le_refl _ | assumption | (simp only [World.size_alloc, World.size_setCell, size_ext, World.heap_drewN]; omega)) _))⟩
      · have d2 : decide (s ≥ 0) = false := decide_eq_false c2
        have hm : mayC p s = false := by unfold mayC; simp [c2]
        rw [hm]
        clear hm
        go_enter Try.func21, Try.ntmps21
        go_wp2_with fail
        go_ret
        exact ⟨rfl, by repeat (first | (with_reducible exact Below.refl _ _) | (with_reducible assumption) | (with_reducible refine below_drewN ?_ _) | (with_reducible refine Below.drew ?_) | (with_reducible refine below_ext_of ?_ (by first | exact Nat.le_refl _ | assumption | (simp only [World.size_alloc, World.size_setCell, size_ext, World.heap_drewN]; omega)) _ _) | (with_reducible refine Below.alloc ?_ (by first | exact Nat.le_refl _ | assumption | (simp only [World.size_alloc, World.size_setCell, size_ext, World.heap_drewN]; omega)) _) | (with_reducible refine Below.setCell ?_ (by first | exact Nat.le_refl _ | assumption | (simp only [World.size_alloc, World.size_setCell, size_ext, World.heap_drewN]; omega)) _))⟩
    · have d1 : decide (p ≤ 1099511627776) = false := decide_eq_false c1
      have hm : mayC p s = false := by unfold mayC; simp [c1]
      rw [hm]
      clear hm
      go_enter Try.func21, Try.ntmps21
      go_wp2_with fail
      go_ret
      exact ⟨rfl, by repeat (first | (with_reducible exact Below.refl _ _) | (with_reducible assumption) | (with_reducible refine below_drewN ?_ _) | (with_reducible refine Below.drew ?_) | (with_reducible refine below_ext_of ?_ (by first | exact Nat.le_refl _ | assumption | (simp only [World.size_alloc, World.size_setCell, size_ext, World.heap_drewN]; omega)) _ _) | (with_reducible refine Below.alloc ?_ (by first | exact Nat.le_refl _ | assumption | (simp only [World.size_alloc, World.size_setCell, size_ext, World.heap_drewN]; omega)) _) | (with_reducible refine Below.setCell ?_ (by first | exact Nat.le_refl _ | assumption | (simp only [World.size_alloc, World.size_setCell, size_ext, World.heap_drewN]; omega)) _))⟩
  · have d0 : decide (p ≥ 1) = false := decide_eq_false c0
    have hm : mayC p s = false := by unfold mayC; simp [c0]
    rw [hm]
    clear hm
    go_enter Try.func21, Try.ntmps21
    go_wp2_with fail
    go_ret
    exact ⟨rfl, by repeat (first | (with_reducible exact Below.refl _ _) | (with_reducible assumption) | (with_reducible refine below_drewN ?_ _) | (with_reducible refine Below.drew ?_) | (with_reducible refine below_ext_of ?_ (by first | exact Nat.le_refl _ | assumption | (simp only [World.size_alloc, World.size_setCell, size_ext, World.heap_drewN]; omega)) _ _) | (with_reducible refine Below.alloc ?_ (by first | exact Nat.le_refl _ | assumption | (simp only [World.size_alloc, World.size_setCell, size_ext, World.heap_drewN]; omega)) _) | (with_reducible refine Below.setCell ?_ (by first | exact Nat.le_refl _ | assumption | (simp only [World.size_alloc, World.size_setCell, size_ext, World.heap_drewN]; omega)) _))⟩

/-- The n-th date of a clock, and whether it is one. -/
def dateB (p s n : Int) : Bool := fitB (p * n) && (decide (0 ≤ n) && (mayC p s && fitB (s + p * n)))
def dateV (p s n : Int) : Int := if dateB p s n = true then s + p * n else 0
theorem date_yes {p s n : Int} (h1 : fitB (p * n) = true) (h2 : 0 ≤ n) (h3 : mayC p s = true) : fitV (s + fitV (p * n)) = dateV p s n ∧ fitB (s + fitV (p * n)) = dateB p s n := by
  have hv : fitV (p * n) = p * n := by unfold fitB at h1; unfold fitV; rw [if_pos (of_decide_eq_true h1)]
  have hb : dateB p s n = fitB (s + p * n) := by unfold dateB; rw [h1, h3, decide_eq_true h2]; rfl
  refine ⟨?_, by rw [hv, hb]⟩
  rw [hv]; unfold dateV; rw [hb]; unfold fitV fitB
  simp only [decide_eq_true_eq]
theorem date_no {p s n : Int} (h : dateB p s n = false) : dateV p s n = 0 := by unfold dateV; rw [h]; rfl
theorem date_no1 {p s n : Int} (h : fitB (p * n) = false) : dateB p s n = false := by unfold dateB; rw [h]; rfl
theorem date_no2 {p s n : Int} (h : ¬ 0 ≤ n) : dateB p s n = false := by unfold dateB; rw [decide_eq_false h, Bool.false_and, Bool.and_false]
theorem date_no3 {p s n : Int} (h : mayC p s = false) : dateB p s n = false := by unfold dateB; rw [h, Bool.false_and, Bool.and_false, Bool.and_false]
theorem fitV_in (v : Int) : -9223372036854775808 ≤ fitV v ∧ fitV v ≤ 9223372036854775807 := by unfold fitV; split <;> omega
set_option maxHeartbeats 2000000 in
theorem date_any (w : World) (p s n : Int) (hp1 : -9223372036854775808 ≤ p) (hp2 : p ≤ 9223372036854775807) (hs1 : -9223372036854775808 ≤ s) (hs2 : s ≤ 9223372036854775807) (hn1 : -9223372036854775808 ≤ n) (hn2 : n ≤ 9223372036854775807) : Calls Try.prog 40 #[.agg #[.int .i64 p, .int .i64 s], .int .i64 n] w fun e w' => e = .returned (.tuple #[.int .i64 (dateV p s n), .bool (dateB p s n)]) ∧ Below w.heap.size w w' := by
  obtain ⟨b, hb⟩ : ∃ b, fitB (p * n) = b := ⟨_, rfl⟩
  obtain ⟨m, hm⟩ : ∃ b, mayC p s = b := ⟨_, rfl⟩
  obtain ⟨x, hx⟩ : ∃ x, fitV (p * n) = x := ⟨_, rfl⟩
  have HX := Lib.hid hx
  have HB := Lib.hid hb
  have HM := Lib.hid hm
  have HXI := Lib.hid (hx ▸ fitV_in (p * n))
  have H := Lib.hid (And.intro hp1 (And.intro hp2 (And.intro hs1 (And.intro hs2 (And.intro hn1 hn2)))))
  clear hx hb hm hp1 hp2 hs1 hs2 hn1 hn2
  cases b with
  | false =>
    have hd := date_no1 (s := s) HB.out
    rw [date_no hd, hd]
    clear hd
    go_enter Try.func40, Try.ntmps40
    go_wp2_with fail
    refine (num_mul p n _ H.out.1 H.out.2.1 H.out.2.2.2.2.1 H.out.2.2.2.2.2).mono ?_
    rintro e w1 ⟨rfl, rfl⟩
    rw [HX.out, HB.out]
    go_wp2_with fail
    go_ret2
    exact ⟨rfl, by repeat (first | (with_reducible exact Below.refl _ _) | (with_reducible assumption) | (with_reducible refine below_drewN ?_ _) | (with_reducible refine Below.drew ?_) | (with_reducible refine below_ext_of ?_ (by first | exact Nat.le_refl _ | assumption | (simp only [World.size_alloc, World.size_setCell, size_ext, World.heap_drewN]; omega)) _ _) | (with_reducible refine Below.alloc ?_ (by first | exact Nat.le_refl _ | assumption | (simp only [World.size_alloc, World.size_setCell, size_ext, World.heap_drewN]; omega)) _) | (with_reducible refine Below.setCell ?_ (by first | exact Nat.le_refl _ | assumption | (simp only [World.size_alloc, World.size_setCell, size_ext, World.heap_drewN]; omega)) _))⟩
  | true =>
    by_cases c0 : 0 ≤ n
    · cases m with
      | false =>
        have hd := date_no3 (n := n) HM.out
        rw [date_no hd, hd]
        have c1 : ¬ (n < 0) := by omega
        have d1 := decide_eq_false c1
        clear hd c0
        go_enter Try.func40, Try.ntmps40
        go_wp2_with fail
        refine (num_mul p n _ H.out.1 H.out.2.1 H.out.2.2.2.2.1 H.out.2.2.2.2.2).mono ?_
        rintro e w1 ⟨rfl, rfl⟩
        rw [HX.out, HB.out]
        go_wp2_with fail
        refine (may_clock _ p s).mono ?_
        rintro e w1 ⟨rfl, hb⟩
        rw [HM.out]
        obtain ⟨X, d, rfl⟩ := below_ext hb
        clear hb
        go_wp2_with fail
        go_ret2
        exact ⟨rfl, by repeat (first | (with_reducible exact Below.refl _ _) | (with_reducible assumption) | (with_reducible refine below_drewN ?_ _) | (with_reducible refine Below.drew ?_) | (with_reducible refine below_ext_of ?_ (by first | exact Nat.le_refl _ | assumption | (simp only [World.size_alloc, World.size_setCell, size_ext, World.heap_drewN]; omega)) _ _) | (with_reducible refine Below.alloc ?_ (by first | exact Nat.le_refl _ | assumption | (simp only [World.size_alloc, World.size_setCell, size_ext, World.heap_drewN]; omega)) _) | (with_reducible refine Below.setCell ?_ (by first | exact Nat.le_refl _ | assumption | (simp only [World.size_alloc, World.size_setCell, size_ext, World.heap_drewN]; omega)) _))⟩
      | true =>
        obtain ⟨hv, hd⟩ := date_yes HB.out c0 HM.out
        rw [HX.out] at hv hd
        rw [← hv, ← hd]
        have c1 : ¬ (n < 0) := by omega
        have d1 := decide_eq_false c1
        clear hv hd c0
        go_enter Try.func40, Try.ntmps40
        go_wp2_with fail
        refine (num_mul p n _ H.out.1 H.out.2.1 H.out.2.2.2.2.1 H.out.2.2.2.2.2).mono ?_
        rintro e w1 ⟨rfl, rfl⟩
        rw [HX.out, HB.out]
        go_wp2_with fail
        refine (may_clock _ p s).mono ?_
        rintro e w1 ⟨rfl, hb⟩
        rw [HM.out]
        obtain ⟨X, d, rfl⟩ := below_ext hb
        clear hb
        go_wp2_with fail
        refine (num_add s x _ H.out.2.2.1 H.out.2.2.2.1 HXI.out.1 HXI.out.2).mono ?_
        rintro e w1 ⟨rfl, rfl⟩
        go_wp2_with fail
        go_ret2
        exact ⟨rfl, by repeat (first | (with_reducible exact Below.refl _ _) | (with_reducible assumption) | (with_reducible refine below_drewN ?_ _) | (with_reducible refine Below.drew ?_) | (with_reducible refine below_ext_of ?_ (by first | exact Nat.le_refl _ | assumption | (simp only [World.size_alloc, World.size_setCell, size_ext, World.heap_drewN]; omega)) _ _) | (with_reducible refine Below.alloc ?_ (by first | exact Nat.le_refl _ | assumption | (simp only [World.size_alloc, World.size_setCell, size_ext, World.heap_drewN]; omega)) _) | (with_reducible refine Below.setCell ?_ (by first | exact Nat.le_refl _ | assumption | (simp only [World.size_alloc, World.size_setCell, size_ext, World.heap_drewN]; omega)) _))⟩
    · have hd := date_no2 (p := p) (s := s) c0
      rw [date_no hd, hd]
      have c1 : n < 0 := by omega
      have d1 := decide_eq_true c1
      clear hd c0
      go_enter Try.func40, Try.ntmps40
      go_wp2_with fail
      refine (num_mul p n _ H.out.1 H.out.2.1 H.out.2.2.2.2.1 H.out.2.2.2.2.2).mono ?_
      rintro e w1 ⟨rfl, rfl⟩
      rw [HX.out, HB.out]
      go_wp2_with fail
      go_ret2
      exact ⟨rfl, by repeat (first | (with_reducible exact Below.refl _ _) | (with_reducible assumption) | (with_reducible refine below_drewN ?_ _) | (with_reducible refine Below.drew ?_) | (with_reducible refine below_ext_of ?_ (by first | exact Nat.le_refl _ | assumption | (simp only [World.size_alloc, World.size_setCell, size_ext, World.heap_drewN]; omega)) _ _) | (with_reducible refine Below.alloc ?_ (by first | exact Nat.le_refl _ | assumption | (simp only [World.size_alloc, World.size_setCell, size_ext, World.heap_drewN]; omega)) _) | (with_reducible refine Below.setCell ?_ (by first | exact Nat.le_refl _ | assumption | (simp only [World.size_alloc, World.size_setCell, size_ext, World.heap_drewN]; omega)) _))⟩
theorem date_0 (p s : Int) (h1 : -9223372036854775808 ≤ s) (h2 : s ≤ 9223372036854775807) : dateB p s 0 = mayC p s := by
  unfold dateB
  rw [Int.mul_zero, Int.add_zero, show fitB 0 = true from rfl, show fitB s = true from decide_eq_true ⟨h1, h2⟩]
  simp
set_option maxHeartbeats 1000000 in
theorem umay_clock (w : World) (p s : Int) (hp1 : -9223372036854775808 ≤ p) (hp2 : p ≤ 9223372036854775807) (hs1 : -9223372036854775808 ≤ s) (hs2 : s ≤ 9223372036854775807) : Calls Try.prog 19 #[.agg #[.int .i64 p, .int .i64 s]] w fun e w' => e = .returned (.bool (mayC p s)) ∧ Below w.heap.size w w' := by
  have H := Lib.hid (And.intro hp1 (And.intro hp2 (And.intro hs1 hs2)))
  have HD := Lib.hid (date_0 p s H.out.2.2.1 H.out.2.2.2)
  clear hp1 hp2 hs1 hs2
  go_enter Try.func19, Try.ntmps19
  go_wp2_with fail
  refine (date_any _ p s 0 H.out.1 H.out.2.1 H.out.2.2.1 H.out.2.2.2 (by decide) (by decide)).mono ?_
  rintro e w1 ⟨rfl, hb⟩
  rw [HD.out]
  obtain ⟨X, d, rfl⟩ := below_ext hb
  clear hb
  go_wp2_with fail
  go_ret
  exact ⟨rfl, by repeat (first | (with_reducible exact Below.refl _ _) | (with_reducible assumption) | (with_reducible refine below_drewN ?_ _) | (with_reducible refine Below.drew ?_) | (with_reducible refine below_ext_of ?_ (by first | exact Nat.le_refl _ | assumption | (simp only [World.size_alloc, World.size_setCell, size_ext, World.heap_drewN]; omega)) _ _) | (with_reducible refine Below.alloc ?_ (by first | exact Nat.le_refl _ | assumption | (simp only [World.size_alloc, World.size_setCell, size_ext, World.heap_drewN]; omega)) _) | (with_reducible refine Below.setCell ?_ (by first | exact Nat.le_refl _ | assumption | (simp only [World.size_alloc, World.size_setCell, size_ext, World.heap_drewN]; omega)) _))⟩
set_option maxHeartbeats 1000000 in
theorem tmay_clock (w : World) (p s : Int) (hp1 : -9223372036854775808 ≤ p) (hp2 : p ≤ 9223372036854775807) (hs1 : -9223372036854775808 ≤ s) (hs2 : s ≤ 9223372036854775807) : Calls Try.prog 43 #[.agg #[.int .i64 p, .int .i64 s]] w fun e w' => e = .returned (.bool (mayC p s)) ∧ Below w.heap.size w w' := by
  have H := Lib.hid (And.intro hp1 (And.intro hp2 (And.intro hs1 hs2)))
  have HD := Lib.hid (date_0 p s H.out.2.2.1 H.out.2.2.2)
  clear hp1 hp2 hs1 hs2
  go_enter Try.func43, Try.ntmps43
  go_wp2_with fail
  refine (date_any _ p s 0 H.out.1 H.out.2.1 H.out.2.2.1 H.out.2.2.2 (by decide) (by decide)).mono ?_
  rintro e w1 ⟨rfl, hb⟩
  rw [HD.out]
  obtain ⟨X, d, rfl⟩ := below_ext hb
  clear hb
  go_wp2_with fail
  go_ret
  exact ⟨rfl, by repeat (first | (with_reducible exact Below.refl _ _) | (with_reducible assumption) | (with_reducible refine below_drewN ?_ _) | (with_reducible refine Below.drew ?_) | (with_reducible refine below_ext_of ?_ (by first | exact Nat.le_refl _ | assumption | (simp only [World.size_alloc, World.size_setCell, size_ext, World.heap_drewN]; omega)) _ _) | (with_reducible refine Below.alloc ?_ (by first | exact Nat.le_refl _ | assumption | (simp only [World.size_alloc, World.size_setCell, size_ext, World.heap_drewN]; omega)) _) | (with_reducible refine Below.setCell ?_ (by first | exact Nat.le_refl _ | assumption | (simp only [World.size_alloc, World.size_setCell, size_ext, World.heap_drewN]; omega)) _))⟩
end Go.Proofs.Ytkabmpbfabgkfaa
