/-
  unfold.Count, and the reference's MayCount.
  Conditions: the numbers are int64s.
-/
import Derived.Test.YtkabmpbfabgkfaaUc
import Derived.WalkKit
import Derived.WalkSpells
import Derived.WalkLawsBesides
import Derived.Deep.QuietTactic
import Derived.BigQuiet
import Derived.Lib.Hide
import Derived.Handy
import Derived.Deep.AppendLies
import Derived.Maps.AppendAt
import Derived.OwnWalk
import Derived.Lib.LazyBuf
import Derived.Deep.DeepCutAuto
import Derived.Deep.RegionLaw
import Derived.Deep.RegionHeld3
import Derived.Deep.RegionWith
import Derived.BigRegion
import Derived.Deep.CutBlock
set_option linter.unusedVariables false
set_option linter.unusedSimpArgs false
namespace Go.Proofs.Ytkabmpbfabgkfaa
open Go.RowKit 
open Big
attribute [local go_sem] setCell_drewN alloc_drewN size_ext ext_ext ext_drewN ext_drew drewN_ext drew_ext cell?_ext frozen?_ext setCell_ext cell?_past1 frozen?_past1 setCell_past1 cell?_past2 frozen?_past2 setCell_past2 cell?_past3 frozen?_past3 setCell_past3 cell?_past4 frozen?_past4 setCell_past4 cell?_past5 frozen?_past5 setCell_past5 cell?_past6 frozen?_past6 setCell_past6 cell?_past7 frozen?_past7 setCell_past7 cell?_past8 frozen?_past8 setCell_past8
/-- May a span and a clock be counted? -/
def okS (P H p s : Int) : Bool := mayC p s && (decide (0 ≤ P) && (decide (P ≤ 17592186044416) && (decide (1 ≤ H) && (decide (H ≤ 17592186044416) && decide (H.tmod p = 0)))))
def cntH (P H p s : Int) : Int := if okS P H p s = true then belowN p s P else 0
def cntL (P H p s : Int) : Int := if okS P H p s = true then H / p else 0
def cntE (P H p s : Int) : Int := if okS P H p s = true then 0 else 2
theorem cnt_no {P H p s : Int} (h : okS P H p s = false) : cntH P H p s = 0 ∧ cntL P H p s = 0 ∧ cntE P H p s = 2 := by unfold cntH cntL cntE; rw [h]; exact ⟨rfl, rfl, rfl⟩
theorem cnt_yes {P H p s : Int} (h : okS P H p s = true) : cntH P H p s = belowN p s P ∧ cntL P H p s = H / p ∧ cntE P H p s = 0 := by unfold cntH cntL cntE; rw [h]; exact ⟨rfl, rfl, rfl⟩
theorem mayC_spec {p s : Int} (h : mayC p s = true) : 1 ≤ p ∧ p ≤ 1099511627776 ∧ 0 ≤ s ∧ s ≤ 1099511627776 := by
  unfold mayC at h; simp only [Bool.and_eq_true, decide_eq_true_eq] at h; exact ⟨h.1, h.2.1, h.2.2.1, h.2.2.2⟩
theorem okS_spec {P H p s : Int} (h : okS P H p s = true) : mayC p s = true ∧ 0 ≤ P ∧ P ≤ 17592186044416 ∧ 1 ≤ H ∧ H ≤ 17592186044416 ∧ H.tmod p = 0 := by
  unfold okS at h; simp only [Bool.and_eq_true, decide_eq_true_eq] at h; exact h
theorem okS_of {P H p s : Int} (h : mayC p s = true ∧ 0 ≤ P ∧ P ≤ 17592186044416 ∧ 1 ≤ H ∧ H ≤ 17592186044416 ∧ H.tmod p = 0) : okS P H p s = true := by
  unfold okS; simp only [Bool.and_eq_true, decide_eq_true_eq]; exact h
theorem okS_no {P H p s : Int} (h : ¬ (mayC p s = true ∧ 0 ≤ P ∧ P ≤ 17592186044416 ∧ 1 ≤ H ∧ H ≤ 17592186044416 ∧ H.tmod p = 0)) : okS P H p s = false := by
  rw [Bool.eq_false_iff]; exact fun h' => h (okS_spec h')
theorem rem_in {p H : Int} (h1 : 0 ≤ H) (h2 : H ≤ 17592186044416) : IntKind.i64.wrap (H.tmod p) = H.tmod p := by
  rw [IntKind.wrap_i64]
  have a := Int.tmod_nonneg p h1
  have b : H.tmod p ≤ H := by
    have hn : (H.tmod p).natAbs = H.natAbs % p.natAbs := Int.natAbs_tmod H p
    have hm := Nat.mod_le H.natAbs p.natAbs
    omega
  omega
set_option maxRecDepth 100000 in
set_option maxHeartbeats 8000000 in
theorem count_any (w : World) (P H p s : Int) (hp1 : -9223372036854775808 ≤ p) (hp2 : p ≤ 9223372036854775807) (hs1 : -9223372036854775808 ≤ s) (hs2 : s ≤ 9223372036854775807) (hP1 : -9223372036854775808 ≤ P) (hP2 : P ≤ 9223372036854775807) (hH1 : -9223372036854775808 ≤ H) (hH2 : H ≤ 9223372036854775807) : Calls Try.prog 6 #[.agg #[.int .i64 P, .int .i64 H], .agg #[.int .i64 p, .int .i64 s]] w fun e w' => e = .returned (.tuple #[.int .i64 (cntH P H p s), .int .i64 (cntL P H p s), .int .i64 (cntE P H p s)]) ∧ Below w.heap.size w w' := by
  have HI := Lib.hid (And.intro hp1 (And.intro hp2 (And.intro hs1 (And.intro hs2 (And.intro hP1 (And.intro hP2 (And.intro hH1 hH2)))))))
  obtain ⟨m, hm⟩ : ∃ m, mayC p s = m := ⟨_, rfl⟩
  have HM := Lib.hid hm
  clear hm hp1 hp2 hs1 hs2 hP1 hP2 hH1 hH2
  cases m with
  | false =>
    have ho := okS_no (P := P) (H := H) (p := p) (s := s) (fun h => by have := h.1; rw [HM.out] at this; cases this)
    obtain ⟨z1, z2, z3⟩ := cnt_no ho
    rw [z1, z2, z3]
    clear ho z1 z2 z3
    go_enter Try.func6, Try.ntmps6
    go_wp2_with fail
    refine (umay_clock _ p s HI.out.1 HI.out.2.1 HI.out.2.2.1 HI.out.2.2.2.1).mono ?_
    rintro e w1 ⟨rfl, hb⟩
    rw [HM.out]
    obtain ⟨X, d, rfl⟩ := below_ext hb
    clear hb
    go_wp2_with fail
    go_ret3
    exact ⟨rfl, by repeat (first | (with_reducible exact Below.refl _ _) | (with_reducible assumption) | (with_reducible refine below_drewN ?_ _) | (with_reducible refine Below.drew ?_) | (with_reducible refine below_ext_of ?_ (by first | exact Nat.le_refl _ | assumption | (simp only [World.size_alloc, World.size_setCell, size_ext, World.heap_drewN]; omega)) _ _) | (with_reducible refine Below.alloc ?_ (by first | exact Nat.le_refl _ | assumption | (simp only [World.size_alloc, World.size_setCell, size_ext, World.heap_drewN]; omega)) _) | (with_reducible refine Below.setCell ?_ (by first | exact Nat.le_refl _ | assumption | (simp only [World.size_alloc, World.size_setCell, size_ext, World.heap_drewN]; omega)) _))⟩
  | true =>
    by_cases c0 : P < 0
    · have d0 : decide (P < 0) = true := decide_eq_true c0
      have ho := okS_no (P := P) (H := H) (p := p) (s := s) (fun h => by have := h.2; omega)
      obtain ⟨z1, z2, z3⟩ := cnt_no ho
      rw [z1, z2, z3]
      clear ho z1 z2 z3
      go_enter Try.func6, Try.ntmps6
      go_wp2_with fail
      refine (umay_clock _ p s HI.out.1 HI.out.2.1 HI.out.2.2.1 HI.out.2.2.2.1).mono ?_
      rintro e w1 ⟨rfl, hb⟩
      rw [HM.out]
      obtain ⟨X, d, rfl⟩ := below_ext hb
      clear hb
      go_wp2_with fail
      go_ret3
      exact ⟨rfl, by repeat (first | (with_reducible exact Below.refl _ _) | (with_reducible assumption) | (with_reducible refine below_drewN ?_ _) | (with_reducible refine Below.drew ?_) | (with_reducible refine below_ext_of ?_ (by first | exact Nat.le_refl _ | assumption | (simp only [World.size_alloc, World.size_setCell, size_ext, World.heap_drewN]; omega)) _ _) | (with_reducible refine Below.alloc ?_ (by first | exact Nat.le_refl _ | assumption | (simp only [World.size_alloc, World.size_setCell, size_ext, World.heap_drewN]; omega)) _) | (with_reducible refine Below.setCell ?_ (by first | exact Nat.le_refl _ | assumption | (simp only [World.size_alloc, World.size_setCell, size_ext, World.heap_drewN]; omega)) _))⟩
    · have d0 : decide (P < 0) = false := decide_eq_false c0
      by_cases c1 : 17592186044416 < P
      · have d1 : decide (P > 17592186044416) = true := decide_eq_true c1
        have ho := okS_no (P := P) (H := H) (p := p) (s := s) (fun h => by have := h.2; omega)
        obtain ⟨z1, z2, z3⟩ := cnt_no ho
        rw [z1, z2, z3]
        clear ho z1 z2 z3
        go_enter Try.func6, Try.ntmps6
        go_wp2_with fail
        refine (umay_clock _ p s HI.out.1 HI.out.2.1 HI.out.2.2.1 HI.out.2.2.2.1).mono ?_
        rintro e w1 ⟨rfl, hb⟩
        rw [HM.out]
        obtain ⟨X, d, rfl⟩ := below_ext hb
        clear hb
        go_wp2_with fail
        go_ret3
        exact ⟨rfl, by repeat (first | (with_reducible exact Below.refl _ _) | (with_reducible assumption) | (with_reducible refine below_drewN ?_ _) | (with_reducible refine Below.drew ?_) | (with_reducible refine below_ext_of ?_ (by first | exact Nat.le_refl _ | assumption | (simp only [World.size_alloc, World.size_setCell, size_ext, World.heap_drewN]; omega)) _ _) | (with_reducible refine Below.alloc ?_ (by first | exact Nat.le_refl _ | assumption | (simp only [World.size_alloc, World.size_setCell, size_ext, World.heap_drewN]; omega)) _) | (with_reducible refine Below.setCell ?_ (by first | exact Nat.le_refl _ | assumption | (simp only [World.size_alloc, World.size_setCell, size_ext, World.heap_drewN]; omega)) _))⟩
      · have d1 : decide (P > 17592186044416) = false := decide_eq_false c1
        by_cases c2 : H < 1
        · have d2 : decide (H < 1) = true := decide_eq_true c2
          have ho := okS_no (P := P) (H := H) (p := p) (s := s) (fun h => by have := h.2; omega)
          obtain ⟨z1, z2, z3⟩ := cnt_no ho
          rw [z1, z2, z3]
          clear ho z1 z2 z3
          go_enter Try.func6, Try.ntmps6
          go_wp2_with fail
          refine (umay_clock _ p s HI.out.1 HI.out.2.1 HI.out.2.2.1 HI.out.2.2.2.1).mono ?_
          rintro e w1 ⟨rfl, hb⟩
          rw [HM.out]
          obtain ⟨X, d, rfl⟩ := below_ext hb
          clear hb
          go_wp2_with fail
          go_ret3
          exact ⟨rfl, by repeat (first | (with_reducible exact Below.refl _ _) | (with_reducible assumption) | (with_reducible refine below_drewN ?_ _) | (with_reducible refine Below.drew ?_) | (with_reducible refine below_ext_of ?_ (by first | exact Nat.le_refl _ | assumption | (simp only [World.size_alloc, World.size_setCell, size_ext, World.heap_drewN]; omega)) _ _) | (with_reducible refine Below.alloc ?_ (by first | exact Nat.le_refl _ | assumption | (simp only [World.size_alloc, World.size_setCell, size_ext, World.heap_drewN]; omega)) _) | (with_reducible refine Below.setCell ?_ (by first | exact Nat.le_refl _ | assumption | (simp only [World.size_alloc, World.size_setCell, size_ext, World.heap_drewN]; omega)) _))⟩
        · have d2 : decide (H < 1) = false := decide_eq_false c2
          by_cases c3 : 17592186044416 < H
          · have d3 : decide (H > 17592186044416) = true := decide_eq_true c3
            have ho := okS_no (P := P) (H := H) (p := p) (s := s) (fun h => by have := h.2; omega)
            obtain ⟨z1, z2, z3⟩ := cnt_no ho
            rw [z1, z2, z3]
            clear ho z1 z2 z3
            go_enter Try.func6, Try.ntmps6
            go_wp2_with fail
            refine (umay_clock _ p s HI.out.1 HI.out.2.1 HI.out.2.2.1 HI.out.2.2.2.1).mono ?_
            rintro e w1 ⟨rfl, hb⟩
            rw [HM.out]
            obtain ⟨X, d, rfl⟩ := below_ext hb
            clear hb
            go_wp2_with fail
            go_ret3
            exact ⟨rfl, by repeat (first | (with_reducible exact Below.refl _ _) | (with_reducible assumption) | (with_reducible refine below_drewN ?_ _) | (with_reducible refine Below.drew ?_) | (with_reducible refine below_ext_of ?_ (by first | exact Nat.le_refl _ | assumption | (simp only [World.size_alloc, World.size_setCell, size_ext, World.heap_drewN]; omega)) _ _) | (with_reducible refine Below.alloc ?_ (by first | exact Nat.le_refl _ | assumption | (simp only [World.size_alloc, World.size_setCell, size_ext, World.heap_drewN]; omega)) _) | (with_reducible refine Below.setCell ?_ (by first | exact Nat.le_refl _ | assumption | (simp only [World.size_alloc, World.size_setCell, size_ext, World.heap_drewN]; omega)) _))⟩
          · have d3 : decide (H > 17592186044416) = false := decide_eq_false c3
            obtain ⟨R, hR⟩ : ∃ R, H.tmod p = R := ⟨_, rfl⟩
            have hr : IntKind.i64.wrap (H.tmod p) = R := by rw [← hR]; exact rem_in (by omega) (by omega)
            have q0 : ¬ (p = 0) := by have := (mayC_spec HM.out).1; omega
            have q1 : (p == 0) = false := beq_false_of_ne q0
            by_cases c4 : R = 0
            · subst c4
              have ho := okS_of (P := P) (H := H) (p := p) (s := s) ⟨HM.out, by omega, by omega, by omega, by omega, hR⟩
              have HO := Lib.hid ho
              obtain ⟨z1, z2, z3⟩ := cnt_yes ho
              rw [z1, z2, z3]
              obtain ⟨x, hx⟩ : ∃ x, belowN p s P = x := ⟨_, rfl⟩
              obtain ⟨y, hy⟩ : ∃ y, H / p = y := ⟨_, rfl⟩
              rw [hx, hy]
              have HX := Lib.hid hx
              have HY := Lib.hid hy
              clear ho z1 z2 z3 hx hy
              go_enter Try.func6, Try.ntmps6
              go_wp2_with fail
              refine (umay_clock _ p s HI.out.1 HI.out.2.1 HI.out.2.2.1 HI.out.2.2.2.1).mono ?_
              rintro e w1 ⟨rfl, hb⟩
              rw [HM.out]
              obtain ⟨X, d, rfl⟩ := below_ext hb
              clear hb
              go_wp2_with fail
              refine (count_in _ P H p s (mayC_spec HM.out).1 (mayC_spec HM.out).2.1 (mayC_spec HM.out).2.2.1 (mayC_spec HM.out).2.2.2 (okS_spec HO.out).2.1 (okS_spec HO.out).2.2.1 (okS_spec HO.out).2.2.2.1 (okS_spec HO.out).2.2.2.2.1).mono ?_
              rintro e w1 ⟨rfl, hb⟩
              rw [HX.out, HY.out]
              obtain ⟨X, d, rfl⟩ := below_ext hb
              clear hb
              go_wp2_with fail
              go_ret3
              exact ⟨rfl, by repeat (first | (with_reducible exact Below.refl _ _) | (with_reducible assumption) | (with_reducible refine below_drewN ?_ _) | (with_reducible refine Below.drew ?_) | (with_reducible refine below_ext_of ?_ (by first | exact Nat.le_refl _ | assumption | (simp only [World.size_alloc, World.size_setCell, size_ext, World.heap_drewN]; omega)) _ _) | (with_reducible refine Below.alloc ?_ (by first | exact Nat.le_refl _ | assumption | (simp only [World.size_alloc, World.size_setCell, size_ext, World.heap_drewN]; omega)) _) | (with_reducible refine Below.setCell ?_ (by first | exact Nat.le_refl _ | assumption | (simp only [World.size_alloc, World.size_setCell, size_ext, World.heap_drewN]; omega)) _))⟩
            · have ho := okS_no (P := P) (H := H) (p := p) (s := s) (fun h => c4 (hR.symm.trans h.2.2.2.2.2))
              have d4 : (R == 0) = false := beq_false_of_ne c4
              obtain ⟨z1, z2, z3⟩ := cnt_no ho
              rw [z1, z2, z3]
              clear ho z1 z2 z3
              go_enter Try.func6, Try.ntmps6
              go_wp2_with fail
              refine (umay_clock _ p s HI.out.1 HI.out.2.1 HI.out.2.2.1 HI.out.2.2.2.1).mono ?_
              rintro e w1 ⟨rfl, hb⟩
              rw [HM.out]
              obtain ⟨X, d, rfl⟩ := below_ext hb
              clear hb
              go_wp2_with fail
              go_ret3
              exact ⟨rfl, by repeat (first | (with_reducible exact Below.refl _ _) | (with_reducible assumption) | (with_reducible refine below_drewN ?_ _) | (with_reducible refine Below.drew ?_) | (with_reducible refine below_ext_of ?_ (by first | exact Nat.le_refl _ | assumption | (simp only [World.size_alloc, World.size_setCell, size_ext, World.heap_drewN]; omega)) _ _) | (with_reducible refine Below.alloc ?_ (by first | exact Nat.le_refl _ | assumption | (simp only [World.size_alloc, World.size_setCell, size_ext, World.heap_drewN]; omega)) _) | (with_reducible refine Below.setCell ?_ (by first | exact Nat.le_refl _ | assumption | (simp only [World.size_alloc, World.size_setCell, size_ext, World.heap_drewN]; omega)) _))⟩
set_option maxRecDepth 100000 in
set_option maxHeartbeats 8000000 in
theorem rmay_count (w : World) (P H p s : Int) (hp1 : -9223372036854775808 ≤ p) (hp2 : p ≤ 9223372036854775807) (hs1 : -9223372036854775808 ≤ s) (hs2 : s ≤ 9223372036854775807) (hP1 : -9223372036854775808 ≤ P) (hP2 : P ≤ 9223372036854775807) (hH1 : -9223372036854775808 ≤ H) (hH2 : H ≤ 9223372036854775807) : Calls Try.prog 8 #[.agg #[.int .i64 P, .int .i64 H], .agg #[.int .i64 p, .int .i64 s]] w fun e w' => e = .returned (.bool (okS P H p s)) ∧ Below w.heap.size w w' := by
  have HI := Lib.hid (And.intro hp1 (And.intro hp2 (And.intro hs1 (And.intro hs2 (And.intro hP1 (And.intro hP2 (And.intro hH1 hH2)))))))
  obtain ⟨m, hm⟩ : ∃ m, mayC p s = m := ⟨_, rfl⟩
  have HM := Lib.hid hm
  clear hm hp1 hp2 hs1 hs2 hP1 hP2 hH1 hH2
  cases m with
  | false =>
    have ho := okS_no (P := P) (H := H) (p := p) (s := s) (fun h => by have := h.1; rw [HM.out] at this; cases this)
    rw [ho]
    clear ho
    go_enter Try.func8, Try.ntmps8
    go_wp2_with fail
    refine (rmay_clock _ p s).mono ?_
    rintro e w1 ⟨rfl, hb⟩
    rw [HM.out]
    obtain ⟨X, d, rfl⟩ := below_ext hb
    clear hb
    go_wp2_with fail
    go_ret
    exact ⟨rfl, by repeat (first | (with_reducible exact Below.refl _ _) | (with_reducible assumption) | (with_reducible refine below_drewN ?_ _) | (with_reducible refine Below.drew ?_) | (with_reducible refine below_ext_of ?_ (by first | exact Nat.le_refl _ | assumption | (simp only [World.size_alloc, World.size_setCell, size_ext, World.heap_drewN]; omega)) _ _) | (with_reducible refine Below.alloc ?_ (by first | exact Nat.le_refl _ | assumption | (simp only [World.size_alloc, World.size_setCell, size_ext, World.heap_drewN]; omega)) _) | (with_reducible refine Below.setCell ?_ (by first | exact Nat.le_refl _ | assumption | (simp only [World.size_alloc, World.size_setCell, size_ext, World.heap_drewN]; omega)) _))⟩
  | true =>
    by_cases c0 : (0 : Int) ≤ P
    · have d0 : decide (P ≥ 0) = true := decide_eq_true c0
      by_cases c1 : P ≤ 17592186044416
      · have d1 : decide (P ≤ 17592186044416) = true := decide_eq_true c1
        by_cases c2 : (1 : Int) ≤ H
        · have d2 : decide (H ≥ 1) = true := decide_eq_true c2
          by_cases c3 : H ≤ 17592186044416
          · have d3 : decide (H ≤ 17592186044416) = true := decide_eq_true c3
            obtain ⟨R, hR⟩ : ∃ R, H.tmod p = R := ⟨_, rfl⟩
            have hr : IntKind.i64.wrap (H.tmod p) = R := by rw [← hR]; exact rem_in (by omega) (by omega)
            have q0 : ¬ (p = 0) := by have := (mayC_spec HM.out).1; omega
            have q1 : (p == 0) = false := beq_false_of_ne q0
            by_cases c4 : R = 0
            · subst c4
              have ho := okS_of (P := P) (H := H) (p := p) (s := s) ⟨HM.out, by omega, by omega, by omega, by omega, hR⟩
              rw [ho]
              clear ho
              go_enter Try.func8, Try.ntmps8
              go_wp2_with fail
              refine (rmay_clock _ p s).mono ?_
              rintro e w1 ⟨rfl, hb⟩
              rw [HM.out]
              obtain ⟨X, d, rfl⟩ := below_ext hb
              clear hb
              go_wp2_with fail
              go_ret
              exact ⟨rfl, by repeat (first | (with_reducible exact Below.refl _ _) | (with_reducible assumption) | (with_reducible refine below_drewN ?_ _) | (with_reducible refine Below.drew ?_) | (with_reducible refine below_ext_of ?_ (by first | exact Nat.le_refl _ | assumption | (simp only [World.size_alloc, World.size_setCell, size_ext, World.heap_drewN]; omega)) _ _) | (with_reducible refine Below.alloc ?_ (by first | exact Nat.le_refl _ | assumption | (simp only [World.size_alloc, World.size_setCell, size_ext, World.heap_drewN]; omega)) _) | (with_reducible refine Below.setCell ?_ (by first | exact Nat.le_refl _ | assumption | (simp only [World.size_alloc, World.size_setCell, size_ext, World.heap_drewN]; omega)) _))⟩
            · have ho := okS_no (P := P) (H := H) (p := p) (s := s) (fun h => c4 (hR.symm.trans h.2.2.2.2.2))
              have d4 : (R == 0) = false := beq_false_of_ne c4
              rw [ho]
              clear ho
              go_enter Try.func8, Try.ntmps8
              go_wp2_with fail
              refine (rmay_clock _ p s).mono ?_
              rintro e w1 ⟨rfl, hb⟩
              rw [HM.out]
              obtain ⟨X, d, rfl⟩ := below_ext hb
              clear hb
              go_wp2_with fail
              go_ret
              exact ⟨rfl, by repeat (first | (with_reducible exact Below.refl _ _) | (with_reducible assumption) | (with_reducible refine below_drewN ?_ _) | (with_reducible refine Below.drew ?_) | (with_reducible refine below_ext_of ?_ (by first | exact Nat.le_refl _ | assumption | (simp only [World.size_alloc, World.size_setCell, size_ext, World.heap_drewN]; omega)) _ _) | (with_reducible refine Below.alloc ?_ (by first | exact Nat.le_refl _ | assumption | (simp only [World.size_alloc, World.size_setCell, size_ext, World.heap_drewN]; omega)) _) | (with_reducible refine Below.setCell ?_ (by first | exact Nat.le_refl _ | assumption | (simp only [World.size_alloc, World.size_setCell, size_ext, World.heap_drewN]; omega)) _))⟩
          · have d3 : decide (H ≤ 17592186044416) = false := decide_eq_false c3
            have ho := okS_no (P := P) (H := H) (p := p) (s := s) (fun h => by have := h.2; omega)
            rw [ho]
            clear ho
            go_enter Try.func8, Try.ntmps8
            go_wp2_with fail
            refine (rmay_clock _ p s).mono ?_
            rintro e w1 ⟨rfl, hb⟩
            rw [HM.out]
            obtain ⟨X, d, rfl⟩ := below_ext hb
            clear hb
            go_wp2_with fail
            go_ret
            exact ⟨rfl, by repeat (first | (with_reducible exact Below.refl _ _) | (with_reducible assumption) | (with_reducible refine below_drewN ?_ _) | (with_reducible refine Below.drew ?_) | (with_reducible refine below_ext_of ?_ (by first | exact Nat.le_refl _ | assumption | (simp only [World.size_alloc, World.size_setCell, size_ext, World.heap_drewN]; omega)) _ _) | (with_reducible refine Below.alloc ?_ (by first | exact Nat.le_refl _ | assumption | (simp only [World.size_alloc, World.size_setCell, size_ext, World.heap_drewN]; omega)) _) | (with_reducible refine Below.setCell ?_ (by first | exact Nat.le_refl _ | assumption | (simp only [World.size_alloc, World.size_setCell, size_ext, World.heap_drewN]; omega)) _))⟩
        · have d2 : decide (H ≥ 1) = false := decide_eq_false c2
          have ho := okS_no (P := P) (H := H) (p := p) (s := s) (fun h => by have := h.2; omega)
          rw [ho]
          clear ho
          go_enter Try.func8, Try.ntmps8
          go_wp2_with fail
          refine (rmay_clock _ p s).mono ?_
          rintro e w1 ⟨rfl, hb⟩
          rw [HM.out]
          obtain ⟨X, d, rfl⟩ := below_ext hb
          clear hb
          go_wp2_with fail
          go_ret
          exact ⟨rfl, by repeat (first | (with_reducible exact Below.refl _ _) | (with_reducible assumption) | (with_reducible refine below_drewN ?_ _) | (with_reducible refine Below.drew ?_) | (with_reducible refine below_ext_of ?_ (by first | exact Nat.le_refl _ | assumption | (simp only [World.size_alloc, World.size_setCell, size_ext, World.heap_drewN]; omega)) _ _) | (with_reducible refine Below.alloc ?_ (by first | exact Nat.le_refl _ | assumption | (simp only [World.size_alloc, World.size_setCell, size_ext, World.heap_drewN]; omega)) _) | (with_reducible refine Below.setCell ?_ (by first | exact Nat.le_refl _ | assumption | (simp only [World.size_alloc, World.size_setCell, size_ext, World.heap_drewN]; omega)) _))⟩
      · have d1 : decide (P ≤ 17592186044416) = false := decide_eq_false c1
        have ho := okS_no (P := P) (H := H) (p := p) (s := s) (fun h => by have := h.2; omega)
        rw [ho]
        clear ho
        go_enter Try.func8, Try.ntmps8
        go_wp2_with fail
        refine (rmay_clock _ p s).mono ?_
        rintro e w1 ⟨rfl, hb⟩
        rw [HM.out]
        obtain ⟨X, d, rfl⟩ := below_ext hb
        clear hb
        go_wp2_with fail
        go_ret
        exact ⟨rfl, by repeat (first | (with_reducible exact Below.refl _ _) | (with_reducible assumption) | (with_reducible refine below_drewN ?_ _) | (with_reducible refine Below.drew ?_) | (with_reducible refine below_ext_of ?_ (by first | exact Nat.le_refl _ | assumption | (simp only [World.size_alloc, World.size_setCell, size_ext, World.heap_drewN]; omega)) _ _) | (with_reducible refine Below.alloc ?_ (by first | exact Nat.le_refl _ | assumption | (simp only [World.size_alloc, World.size_setCell, size_ext, World.heap_drewN]; omega)) _) | (with_reducible refine Below.setCell ?_ (by first | exact Nat.le_refl _ | assumption | (simp only [World.size_alloc, World.size_setCell, size_ext, World.heap_drewN]; omega)) _))⟩
    · have d0 : decide (P ≥ 0) = false := decide_eq_false c0
      have ho := okS_no (P := P) (H := H) (p := p) (s := s) (fun h => by have := h.2; omega)
      rw [ho]
      clear ho
      go_enter Try.func8, Try.ntmps8
      go_wp2_with fail
      refine (rmay_clock _ p s).mono ?_
      rintro e w1 ⟨rfl, hb⟩
      rw [HM.out]
      obtain ⟨X, d, rfl⟩ := below_ext hb
      clear hb
      go_wp2_with fail
      go_ret
      exact ⟨rfl, by repeat (first | (with_reducible exact Below.refl _ _) | (with_reducible assumption) | (with_reducible refine below_drewN ?_ _) | (with_reducible refine Below.drew ?_) | (with_reducible refine below_ext_of ?_ (by first | exact Nat.le_refl _ | assumption | (simp only [World.size_alloc, World.size_setCell, size_ext, World.heap_drewN]; omega)) _ _) | (with_reducible refine Below.alloc ?_ (by first | exact Nat.le_refl _ | assumption | (simp only [World.size_alloc, World.size_setCell, size_ext, World.heap_drewN]; omega)) _) | (with_reducible refine Below.setCell ?_ (by first | exact Nat.le_refl _ | assumption | (simp only [World.size_alloc, World.size_setCell, size_ext, World.heap_drewN]; omega)) _))⟩
end Go.Proofs.Ytkabmpbfabgkfaa
