/-
  The reference's Count and Fold, of what may be counted.
  Conditions: the numbers are int64s.
-/
import Derived.Test.YtkabmpbfabgkfaaUe
import Derived.WalkKit
import Derived.WalkSpells
import Derived.WalkLawsBesides
import Derived.Deep.QuietTactic
import Derived.BigQuiet
import Derived.Lib.Hide
import Derived.Handy
import Derived.Deep.AppendLies
import Derived.Maps.AppendAt
import Derived.OwnWalk
import Derived.Lib.LazyBuf
import Derived.Deep.DeepCutAuto
import Derived.Deep.RegionLaw
import Derived.Deep.RegionHeld3
import Derived.Deep.RegionWith
import Derived.BigRegion
import Derived.Deep.CutBlock
set_option linter.unusedVariables false
set_option linter.unusedSimpArgs false
namespace Go.Proofs.Ytkabmpbfabgkfaa
open Go.RowKit 
open Big
attribute [local go_sem] setCell_drewN alloc_drewN size_ext ext_ext ext_drewN ext_drew drewN_ext drew_ext cell?_ext frozen?_ext setCell_ext cell?_past1 frozen?_past1 setCell_past1 cell?_past2 frozen?_past2 setCell_past2 cell?_past3 frozen?_past3 setCell_past3 cell?_past4 frozen?_past4 setCell_past4 cell?_past5 frozen?_past5 setCell_past5 cell?_past6 frozen?_past6 setCell_past6 cell?_past7 frozen?_past7 setCell_past7 cell?_past8 frozen?_past8 setCell_past8
attribute [local go_sem] max_ab
set_option maxRecDepth 100000 in
set_option maxHeartbeats 8000000 in
theorem rcount_any (w : World) (P H p s x l : Int) (hk : okS P H p s = true) (hx : belowN p s P = x) (hl : H / p = l) : Calls Try.prog 10 #[.agg #[.int .i64 P, .int .i64 H], .agg #[.int .i64 p, .int .i64 s]] w fun e w' => e = .returned (.tuple #[.int .i64 x, .int .i64 l]) ∧ Below w.heap.size w w' := by
  obtain ⟨h1, h2, h3, h4, h5, h6⟩ := okS_spec hk
  obtain ⟨p1, p2, p3, p4⟩ := mayC_spec h1
  have q0 : ¬ (p = 0) := by omega
  have q1 : (p == 0) = false := beq_false_of_ne q0
  have q2 : IntKind.i64.wrap (H.tdiv p) = l := by rw [quo_span p1 (by omega) (by omega)]; exact hl
  by_cases c0 : s < P
  · have d0 : decide (P > s) = true := decide_eq_true c0
    obtain ⟨a, ha⟩ : ∃ a, P - s = a := ⟨_, rfl⟩
    obtain ⟨b, hb⟩ : ∃ b, a + p = b := ⟨_, rfl⟩
    obtain ⟨c, hc⟩ : ∃ c, b - 1 = c := ⟨_, rfl⟩
    have e1 : IntKind.i64.wrap (P - s) = a := by rw [IntKind.wrap_i64]; omega
    have e2 : IntKind.i64.wrap (a + p) = b := by rw [IntKind.wrap_i64]; omega
    have e3 : IntKind.i64.wrap (b - 1) = c := by rw [IntKind.wrap_i64]; omega
    have e4 : IntKind.i64.wrap (c.tdiv p) = x := by
      rw [quo_span p1 (by omega) (by omega), ← hx]; unfold belowN; rw [if_pos c0, ← hc, ← hb, ← ha]
    clear ha hb hc hk hx hl h1 h2 h3 h4 h5 h6 p1 p2 p3 p4
    go_enter Try.func10, Try.ntmps10
    go_wp2_with fail
    go_quiet (fail)
    go_wp2_with fail
    go_ret2
    exact ⟨rfl, by repeat (first | (with_reducible exact Below.refl _ _) | (with_reducible assumption) | (with_reducible refine below_drewN ?_ _) | (with_reducible refine Below.drew ?_) | (with_reducible refine below_ext_of ?_ (by first | exact Nat.le_refl _ | assumption | (simp only [World.size_alloc, World.size_setCell, size_ext, World.heap_drewN]; omega)) _ _) | (with_reducible refine Below.alloc ?_ (by first | exact Nat.le_refl _ | assumption | (simp only [World.size_alloc, World.size_setCell, size_ext, World.heap_drewN]; omega)) _) | (with_reducible refine Below.setCell ?_ (by first | exact Nat.le_refl _ | assumption | (simp only [World.size_alloc, World.size_setCell, size_ext, World.heap_drewN]; omega)) _))⟩
  · have d0 : decide (P > s) = false := decide_eq_false c0
    have e4 : x = 0 := by rw [← hx]; unfold belowN; rw [if_neg c0]
    subst e4
    clear hk hx hl h1 h2 h3 h4 h5 h6 p1 p2 p3 p4
    go_enter Try.func10, Try.ntmps10
    go_wp2_with fail
    go_quiet (fail)
    go_wp2_with fail
    go_ret2
    exact ⟨rfl, by repeat (first | (with_reducible exact Below.refl _ _) | (with_reducible assumption) | (with_reducible refine below_drewN ?_ _) | (with_reducible refine Below.drew ?_) | (with_reducible refine below_ext_of ?_ (by first | exact Nat.le_refl _ | assumption | (simp only [World.size_alloc, World.size_setCell, size_ext, World.heap_drewN]; omega)) _ _) | (with_reducible refine Below.alloc ?_ (by first | exact Nat.le_refl _ | assumption | (simp only [World.size_alloc, World.size_setCell, size_ext, World.heap_drewN]; omega)) _) | (with_reducible refine Below.setCell ?_ (by first | exact Nat.le_refl _ | assumption | (simp only [World.size_alloc, World.size_setCell, size_ext, World.heap_drewN]; omega)) _))⟩
set_option maxRecDepth 100000 in
set_option maxHeartbeats 8000000 in
theorem rfold_any (w : World) (P H p s n : Int) (hk : okS P H p s = true) (h0 : 0 ≤ n) (h1 : n ≤ 1125899906842624) : Calls Try.prog 11 #[.agg #[.int .i64 P, .int .i64 H], .agg #[.int .i64 p, .int .i64 s], .int .i64 n] w fun e w' => e = .returned (.tuple #[.int .i64 (foldN P H p s n), .int .i64 (foldM P H p s n)]) ∧ Below w.heap.size w w' := by
  have ho : foldOk P H p s n = true := by unfold foldOk; rw [hk, decide_eq_true h0, decide_eq_true h1]; rfl
  obtain ⟨z1, z2, z3⟩ := fold_yes ho
  rw [z1, z2]
  have HK := Lib.hid hk
  obtain ⟨t1, t2, t3, t4⟩ := turn_in HK.out h0
  have lp := loop_pos HK.out
  have hb := belowN_nonneg (s := s) (u := P) (mayC_spec (okS_spec HK.out).1).1
  have hb2 := belowN_le (s := s) (u := P) (mayC_spec (okS_spec HK.out).1).1 (mayC_spec (okS_spec HK.out).1).2.2.1 (okS_spec HK.out).2.1
  have hP := (okS_spec HK.out).2.2.1
  have hH := (okS_spec HK.out).2.2.2.2.1
  obtain ⟨x, hx⟩ : ∃ x, belowN p s P = x := ⟨_, rfl⟩
  obtain ⟨l, hl⟩ : ∃ l, H / p = l := ⟨_, rfl⟩
  obtain ⟨t, ht⟩ : ∃ t, turnN P H p s n = t := ⟨_, rfl⟩
  obtain ⟨k, hkk⟩ : ∃ k, x + l = k := ⟨_, rfl⟩
  have HX := Lib.hid hx
  have HL := Lib.hid hl
  have hT : (if n < x then 0 else (n - x) / l) = t := by rw [← ht]; unfold turnN; rw [hx, hl]
  rw [hl, ht] at t3 t4
  rw [ht] at t1 t2
  rw [hl] at lp
  rw [hx] at hb hb2
  rw [hl, ht]
  have e0 : IntKind.i64.wrap (x + l) = k := by rw [IntKind.wrap_i64]; omega
  by_cases c0 : n < k
  · have d0 : decide (n < k) = true := decide_eq_true c0
    have ht0 : t = 0 := by
      rw [← hT]; split
      · rfl
      · exact Int.ediv_eq_zero_of_lt (by omega) (by omega)
    subst ht0
    rw [Int.zero_mul, Int.zero_mul, Int.sub_zero, show wrap64 0 = 0 by first | exact IntWalk.wrap64_in 0 (by decide) | (unfold wrap64; omega) | simp [wrap64]]
    clear ho z1 z2 z3 hk h0 h1 t1 t2 t3 t4 lp hb hb2 hP hH hx hl ht hkk hT
    go_enter Try.func11, Try.ntmps11
    go_wp2_with fail
    refine (rcount_any _ P H p s x l HK.out HX.out HL.out).mono ?_
    rintro e w1 ⟨rfl, hb⟩
    obtain ⟨X, d, rfl⟩ := below_ext hb
    clear hb
    go_wp2_with fail
    go_ret2
    exact ⟨rfl, by repeat (first | (with_reducible exact Below.refl _ _) | (with_reducible assumption) | (with_reducible refine below_drewN ?_ _) | (with_reducible refine Below.drew ?_) | (with_reducible refine below_ext_of ?_ (by first | exact Nat.le_refl _ | assumption | (simp only [World.size_alloc, World.size_setCell, size_ext, World.heap_drewN]; omega)) _ _) | (with_reducible refine Below.alloc ?_ (by first | exact Nat.le_refl _ | assumption | (simp only [World.size_alloc, World.size_setCell, size_ext, World.heap_drewN]; omega)) _) | (with_reducible refine Below.setCell ?_ (by first | exact Nat.le_refl _ | assumption | (simp only [World.size_alloc, World.size_setCell, size_ext, World.heap_drewN]; omega)) _))⟩
  · have d0 : decide (n < k) = false := decide_eq_false c0
    rw [if_neg (by omega)] at hT
    obtain ⟨v, hv⟩ : ∃ v, n - x = v := ⟨_, rfl⟩
    have e1 : IntKind.i64.wrap (n - x) = v := by rw [IntKind.wrap_i64]; omega
    have q0 : ¬ (l = 0) := by omega
    have q1 : (l == 0) = false := beq_false_of_ne q0
    rw [hv] at hT
    have e2 : IntKind.i64.wrap (v.tdiv l) = t := by rw [quo_span lp.1 (by omega) (by omega)]; exact hT
    obtain ⟨g, hg⟩ : ∃ g, t * l = g := ⟨_, rfl⟩
    rw [hg] at t3 t4 ⊢
    have e3 : IntKind.i64.wrap (t * l) = g := by rw [hg, IntKind.wrap_i64]; omega
    obtain ⟨a, ha⟩ : ∃ a, n - g = a := ⟨_, rfl⟩
    rw [ha]
    have e4 : IntKind.i64.wrap (n - g) = a := by rw [IntKind.wrap_i64]; omega
    clear ho z1 z2 z3 hk h0 h1 t1 t2 t3 t4 lp hb hb2 hP hH hx hl ht hkk hT hv hg ha
    go_enter Try.func11, Try.ntmps11
    go_wp2_with fail
    refine (rcount_any _ P H p s x l HK.out HX.out HL.out).mono ?_
    rintro e w1 ⟨rfl, hb⟩
    obtain ⟨X, d, rfl⟩ := below_ext hb
    clear hb
    go_wp2_with fail
    go_quiet (fail)
    go_wp2_with fail
    go_ret2
    exact ⟨rfl, by repeat (first | (with_reducible exact Below.refl _ _) | (with_reducible assumption) | (with_reducible refine below_drewN ?_ _) | (with_reducible refine Below.drew ?_) | (with_reducible refine below_ext_of ?_ (by first | exact Nat.le_refl _ | assumption | (simp only [World.size_alloc, World.size_setCell, size_ext, World.heap_drewN]; omega)) _ _) | (with_reducible refine Below.alloc ?_ (by first | exact Nat.le_refl _ | assumption | (simp only [World.size_alloc, World.size_setCell, size_ext, World.heap_drewN]; omega)) _) | (with_reducible refine Below.setCell ?_ (by first | exact Nat.le_refl _ | assumption | (simp only [World.size_alloc, World.size_setCell, size_ext, World.heap_drewN]; omega)) _))⟩
end Go.Proofs.Ytkabmpbfabgkfaa
