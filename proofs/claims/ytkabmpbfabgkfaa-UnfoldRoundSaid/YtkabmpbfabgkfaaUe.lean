/-
  unfold.Fold.
  Conditions: the numbers are int64s.
-/
import Derived.Test.YtkabmpbfabgkfaaUd
import Derived.WalkKit
import Derived.WalkSpells
import Derived.WalkLawsBesides
import Derived.Deep.QuietTactic
import Derived.BigQuiet
import Derived.Lib.Hide
import Derived.Handy
import Derived.Deep.AppendLies
import Derived.Maps.AppendAt
import Derived.OwnWalk
import Derived.Lib.LazyBuf
import Derived.Deep.DeepCutAuto
import Derived.Deep.RegionLaw
import Derived.Deep.RegionHeld3
import Derived.Deep.RegionWith
import Derived.BigRegion
import Derived.Deep.CutBlock
set_option linter.unusedVariables false
set_option linter.unusedSimpArgs false
namespace Go.Proofs.Ytkabmpbfabgkfaa
open Go.RowKit 
open Big
attribute [local go_sem] setCell_drewN alloc_drewN size_ext ext_ext ext_drewN ext_drew drewN_ext drew_ext cell?_ext frozen?_ext setCell_ext cell?_past1 frozen?_past1 setCell_past1 cell?_past2 frozen?_past2 setCell_past2 cell?_past3 frozen?_past3 setCell_past3 cell?_past4 frozen?_past4 setCell_past4 cell?_past5 frozen?_past5 setCell_past5 cell?_past6 frozen?_past6 setCell_past6 cell?_past7 frozen?_past7 setCell_past7 cell?_past8 frozen?_past8 setCell_past8
attribute [local go_sem] max_ab
/-- How often a number goes round. -/
def turnN (P H p s n : Int) : Int := if n < belowN p s P then 0 else (n - belowN p s P) / (H / p)
def foldOk (P H p s n : Int) : Bool := okS P H p s && (decide (0 ≤ n) && decide (n ≤ 1125899906842624))
def foldN (P H p s n : Int) : Int := if foldOk P H p s n = true then n - turnN P H p s n * (H / p) else 0
def foldM (P H p s n : Int) : Int := if foldOk P H p s n = true then wrap64 (turnN P H p s n * H) else 0
def foldE (P H p s n : Int) : Int := if foldOk P H p s n = true then 0 else 2
theorem fold_no {P H p s n : Int} (h : foldOk P H p s n = false) : foldN P H p s n = 0 ∧ foldM P H p s n = 0 ∧ foldE P H p s n = 2 := by unfold foldN foldM foldE; rw [h]; exact ⟨rfl, rfl, rfl⟩
theorem fold_yes {P H p s n : Int} (h : foldOk P H p s n = true) : foldN P H p s n = n - turnN P H p s n * (H / p) ∧ foldM P H p s n = wrap64 (turnN P H p s n * H) ∧ foldE P H p s n = 0 := by unfold foldN foldM foldE; rw [h]; exact ⟨rfl, rfl, rfl⟩
theorem foldOk_spec {P H p s n : Int} (h : foldOk P H p s n = true) : okS P H p s = true ∧ 0 ≤ n ∧ n ≤ 1125899906842624 := by
  unfold foldOk at h; simp only [Bool.and_eq_true, decide_eq_true_eq] at h; exact h
theorem loop_pos {P H p s : Int} (h : okS P H p s = true) : 1 ≤ H / p ∧ H / p ≤ H := by
  obtain ⟨h1, _, _, h4, h5, h6⟩ := okS_spec h
  obtain ⟨p1, _, _, _⟩ := mayC_spec h1
  rw [Int.tmod_eq_emod_of_nonneg (by omega)] at h6
  have h7 := Int.mul_ediv_add_emod H p
  rw [h6, Int.add_zero] at h7
  refine ⟨?_, Int.ediv_le_self _ (by omega)⟩
  have h8 : 0 ≤ H / p := Int.ediv_nonneg (by omega) (by omega)
  rcases Int.lt_or_le (H / p) 1 with e | e
  · have : H / p = 0 := by omega
    rw [this, Int.mul_zero] at h7
    omega
  · exact e
theorem turn_in {P H p s n : Int} (h : okS P H p s = true) (h0 : 0 ≤ n) : 0 ≤ turnN P H p s n ∧ turnN P H p s n ≤ n ∧ 0 ≤ turnN P H p s n * (H / p) ∧ turnN P H p s n * (H / p) ≤ n := by
  obtain ⟨l1, l2⟩ := loop_pos h
  have hb := belowN_nonneg (s := s) (u := P) (mayC_spec (okS_spec h).1).1
  unfold turnN
  split
  · refine ⟨Int.le_refl _, h0, ?_, ?_⟩ <;> rw [Int.zero_mul] <;> omega
  · rename_i hn
    have a := Int.ediv_nonneg (show 0 ≤ n - belowN p s P by omega) (show 0 ≤ H / p by omega)
    have b := Int.ediv_le_self (H / p) (show 0 ≤ n - belowN p s P by omega)
    have c := Int.ediv_mul_le (n - belowN p s P) (show H / p ≠ 0 by omega)
    exact ⟨a, by omega, Int.mul_nonneg a (by omega), by omega⟩
set_option maxRecDepth 100000 in
set_option maxHeartbeats 8000000 in
theorem fold_any (w : World) (P H p s n : Int) (hp1 : -9223372036854775808 ≤ p) (hp2 : p ≤ 9223372036854775807) (hs1 : -9223372036854775808 ≤ s) (hs2 : s ≤ 9223372036854775807) (hP1 : -9223372036854775808 ≤ P) (hP2 : P ≤ 9223372036854775807) (hH1 : -9223372036854775808 ≤ H) (hH2 : H ≤ 9223372036854775807) (hn1 : -9223372036854775808 ≤ n) (hn2 : n ≤ 9223372036854775807) : Calls Try.prog 7 #[.agg #[.int .i64 P, .int .i64 H], .agg #[.int .i64 p, .int .i64 s], .int .i64 n] w fun e w' => e = .returned (.tuple #[.int .i64 (foldN P H p s n), .int .i64 (foldM P H p s n), .int .i64 (foldE P H p s n)]) ∧ Below w.heap.size w w' := by
  have HI := Lib.hid (And.intro hp1 (And.intro hp2 (And.intro hs1 (And.intro hs2 (And.intro hP1 (And.intro hP2 (And.intro hH1 hH2)))))))
  obtain ⟨k, hk⟩ : ∃ k, okS P H p s = k := ⟨_, rfl⟩
  have HK := Lib.hid hk
  clear hk hp1 hp2 hs1 hs2 hP1 hP2 hH1 hH2
  cases k with
  | false =>
    obtain ⟨y1, y2, y3⟩ := cnt_no HK.out
    have HY := Lib.hid (And.intro y1 (And.intro y2 y3))
    clear y1 y2 y3
    have ho : foldOk P H p s n = false := by unfold foldOk; rw [HK.out]; rfl
    obtain ⟨z1, z2, z3⟩ := fold_no ho
    rw [z1, z2, z3]
    clear ho z1 z2 z3
    go_enter Try.func7, Try.ntmps7
    go_wp2_with fail
    refine (count_any _ P H p s HI.out.1 HI.out.2.1 HI.out.2.2.1 HI.out.2.2.2.1 HI.out.2.2.2.2.1 HI.out.2.2.2.2.2.1 HI.out.2.2.2.2.2.2.1 HI.out.2.2.2.2.2.2.2).mono ?_
    rintro e w1 ⟨rfl, hb⟩
    rw [HY.out.1, HY.out.2.1, HY.out.2.2]
    obtain ⟨X, d, rfl⟩ := below_ext hb
    clear hb
    go_wp2_with fail
    go_ret3
    exact ⟨rfl, by repeat (first | (with_reducible exact Below.refl _ _) | (with_reducible assumption) | (with_reducible refine below_drewN ?_ _) | (with_reducible refine Below.drew ?_) | (with_reducible refine below_ext_of ?_ (by first | exact Nat.le_refl _ | assumption | (simp only [World.size_alloc, World.size_setCell, size_ext, World.heap_drewN]; omega)) _ _) | (with_reducible refine Below.alloc ?_ (by first | exact Nat.le_refl _ | assumption | (simp only [World.size_alloc, World.size_setCell, size_ext, World.heap_drewN]; omega)) _) | (with_reducible refine Below.setCell ?_ (by first | exact Nat.le_refl _ | assumption | (simp only [World.size_alloc, World.size_setCell, size_ext, World.heap_drewN]; omega)) _))⟩
  | true =>
    obtain ⟨y1, y2, y3⟩ := cnt_yes HK.out
    obtain ⟨x, hx⟩ : ∃ x, belowN p s P = x := ⟨_, rfl⟩
    obtain ⟨l, hl⟩ : ∃ l, H / p = l := ⟨_, rfl⟩
    rw [hx] at y1
    rw [hl] at y2
    have HY := Lib.hid (And.intro y1 (And.intro y2 y3))
    have HX := Lib.hid hx
    have HL := Lib.hid hl
    clear y1 y2 y3 hx hl
    by_cases c0 : n < 0
    · have d0 : decide (n < 0) = true := decide_eq_true c0
      have ho : foldOk P H p s n = false := by unfold foldOk; rw [decide_eq_false (show ¬ 0 ≤ n by omega), Bool.false_and, Bool.and_false]
      obtain ⟨z1, z2, z3⟩ := fold_no ho
      rw [z1, z2, z3]
      clear ho z1 z2 z3
      go_enter Try.func7, Try.ntmps7
      go_wp2_with fail
      refine (count_any _ P H p s HI.out.1 HI.out.2.1 HI.out.2.2.1 HI.out.2.2.2.1 HI.out.2.2.2.2.1 HI.out.2.2.2.2.2.1 HI.out.2.2.2.2.2.2.1 HI.out.2.2.2.2.2.2.2).mono ?_
      rintro e w1 ⟨rfl, hb⟩
      rw [HY.out.1, HY.out.2.1, HY.out.2.2]
      obtain ⟨X, d, rfl⟩ := below_ext hb
      clear hb
      go_wp2_with fail
      go_ret3
      exact ⟨rfl, by repeat (first | (with_reducible exact Below.refl _ _) | (with_reducible assumption) | (with_reducible refine below_drewN ?_ _) | (with_reducible refine Below.drew ?_) | (with_reducible refine below_ext_of ?_ (by first | exact Nat.le_refl _ | assumption | (simp only [World.size_alloc, World.size_setCell, size_ext, World.heap_drewN]; omega)) _ _) | (with_reducible refine Below.alloc ?_ (by first | exact Nat.le_refl _ | assumption | (simp only [World.size_alloc, World.size_setCell, size_ext, World.heap_drewN]; omega)) _) | (with_reducible refine Below.setCell ?_ (by first | exact Nat.le_refl _ | assumption | (simp only [World.size_alloc, World.size_setCell, size_ext, World.heap_drewN]; omega)) _))⟩
    · have d0 : decide (n < 0) = false := decide_eq_false c0
      by_cases c1 : 1125899906842624 < n
      · have d1 : decide (n > 1125899906842624) = true := decide_eq_true c1
        have ho : foldOk P H p s n = false := by unfold foldOk; rw [decide_eq_false (show ¬ n ≤ 1125899906842624 by omega), Bool.and_false, Bool.and_false]
        obtain ⟨z1, z2, z3⟩ := fold_no ho
        rw [z1, z2, z3]
        clear ho z1 z2 z3
        go_enter Try.func7, Try.ntmps7
        go_wp2_with fail
        refine (count_any _ P H p s HI.out.1 HI.out.2.1 HI.out.2.2.1 HI.out.2.2.2.1 HI.out.2.2.2.2.1 HI.out.2.2.2.2.2.1 HI.out.2.2.2.2.2.2.1 HI.out.2.2.2.2.2.2.2).mono ?_
        rintro e w1 ⟨rfl, hb⟩
        rw [HY.out.1, HY.out.2.1, HY.out.2.2]
        obtain ⟨X, d, rfl⟩ := below_ext hb
        clear hb
        go_wp2_with fail
        go_ret3
        exact ⟨rfl, by repeat (first | (with_reducible exact Below.refl _ _) | (with_reducible assumption) | (with_reducible refine below_drewN ?_ _) | (with_reducible refine Below.drew ?_) | (with_reducible refine below_ext_of ?_ (by first | exact Nat.le_refl _ | assumption | (simp only [World.size_alloc, World.size_setCell, size_ext, World.heap_drewN]; omega)) _ _) | (with_reducible refine Below.alloc ?_ (by first | exact Nat.le_refl _ | assumption | (simp only [World.size_alloc, World.size_setCell, size_ext, World.heap_drewN]; omega)) _) | (with_reducible refine Below.setCell ?_ (by first | exact Nat.le_refl _ | assumption | (simp only [World.size_alloc, World.size_setCell, size_ext, World.heap_drewN]; omega)) _))⟩
      · have d1 : decide (n > 1125899906842624) = false := decide_eq_false c1
        have ho : foldOk P H p s n = true := by unfold foldOk; rw [HK.out, decide_eq_true (show 0 ≤ n by omega), decide_eq_true (show n ≤ 1125899906842624 by omega)]; rfl
        obtain ⟨z1, z2, z3⟩ := fold_yes ho
        rw [z1, z2, z3, HL.out]
        obtain ⟨t1, t2, t3, t4⟩ := turn_in HK.out (show 0 ≤ n by omega)
        rw [HL.out] at t3 t4
        have lp := loop_pos HK.out
        rw [HL.out] at lp
        obtain ⟨t, ht⟩ : ∃ t, turnN P H p s n = t := ⟨_, rfl⟩
        have hb := belowN_nonneg (s := s) (u := P) (mayC_spec (okS_spec HK.out).1).1
        have hb2 := belowN_le (s := s) (u := P) (mayC_spec (okS_spec HK.out).1).1 (mayC_spec (okS_spec HK.out).1).2.2.1 (okS_spec HK.out).2.1
        have hP := (okS_spec HK.out).2.2.1
        rw [HX.out] at hb hb2
        have hd : mxI 0 (n - x) / l = t := by
          rw [← ht]; unfold turnN mxI; rw [HX.out, HL.out]
          by_cases hn : n < x
          · rw [if_pos hn, if_neg (by omega), Int.zero_ediv]
          · rw [if_neg hn]
            split
            · rfl
            · rw [show n - x = 0 by omega]
        rw [ht] at t1 t2 t3 t4 ⊢
        obtain ⟨v, hv⟩ : ∃ v, n - x = v := ⟨_, rfl⟩
        have e1 : IntKind.i64.wrap (n - x) = v := by rw [IntKind.wrap_i64]; omega
        obtain ⟨m, hm⟩ : ∃ m, mxI 0 v = m := ⟨_, rfl⟩
        have hm0 : 0 ≤ m ∧ m ≤ 1125899906842624 := by rw [← hm]; unfold mxI; split <;> omega
        rw [hv, hm] at hd
        have q0 : ¬ (l = 0) := by omega
        have q1 : (l == 0) = false := beq_false_of_ne q0
        have e2 : IntKind.i64.wrap (m.tdiv l) = t := by rw [quo_span lp.1 hm0.1 (by omega)]; exact hd
        obtain ⟨g, hg⟩ : ∃ g, t * l = g := ⟨_, rfl⟩
        rw [hg] at t3 t4 ⊢
        have e3 : IntKind.i64.wrap (t * l) = g := by rw [hg, IntKind.wrap_i64]; omega
        obtain ⟨a, ha⟩ : ∃ a, n - g = a := ⟨_, rfl⟩
        rw [ha]
        have e4 : IntKind.i64.wrap (n - g) = a := by rw [IntKind.wrap_i64]; omega
        clear ho z1 z2 z3 t1 t2 t3 t4 lp ht hb hb2 hP hd hv hm0 hg ha
        go_enter Try.func7, Try.ntmps7
        go_wp2_with fail
        refine (count_any _ P H p s HI.out.1 HI.out.2.1 HI.out.2.2.1 HI.out.2.2.2.1 HI.out.2.2.2.2.1 HI.out.2.2.2.2.2.1 HI.out.2.2.2.2.2.2.1 HI.out.2.2.2.2.2.2.2).mono ?_
        rintro e w1 ⟨rfl, hb⟩
        rw [HY.out.1, HY.out.2.1, HY.out.2.2]
        obtain ⟨X, d, rfl⟩ := below_ext hb
        clear hb
        go_wp2_with fail
        go_quiet (fail)
        go_wp2_with fail
        go_ret3
        exact ⟨rfl, by repeat (first | (with_reducible exact Below.refl _ _) | (with_reducible assumption) | (with_reducible refine below_drewN ?_ _) | (with_reducible refine Below.drew ?_) | (with_reducible refine below_ext_of ?_ (by first | exact Nat.le_refl _ | assumption | (simp only [World.size_alloc, World.size_setCell, size_ext, World.heap_drewN]; omega)) _ _) | (with_reducible refine Below.alloc ?_ (by first | exact Nat.le_refl _ | assumption | (simp only [World.size_alloc, World.size_setCell, size_ext, World.heap_drewN]; omega)) _) | (with_reducible refine Below.setCell ?_ (by first | exact Nat.le_refl _ | assumption | (simp only [World.size_alloc, World.size_setCell, size_ext, World.heap_drewN]; omega)) _))⟩
end Go.Proofs.Ytkabmpbfabgkfaa
