/-
  The law UnfoldCounts, its sample given.
  Conditions: the numbers are int64s.
-/
import Derived.Test.YtkabmpbfabgkfaaUf
import Derived.WalkKit
import Derived.WalkSpells
import Derived.WalkLawsBesides
import Derived.Deep.QuietTactic
import Derived.BigQuiet
import Derived.Lib.Hide
import Derived.Handy
import Derived.Deep.AppendLies
import Derived.Maps.AppendAt
import Derived.OwnWalk
import Derived.Lib.LazyBuf
import Derived.Deep.DeepCutAuto
import Derived.Deep.RegionLaw
import Derived.Deep.RegionHeld3
import Derived.Deep.RegionWith
import Derived.BigRegion
import Derived.Deep.CutBlock
set_option linter.unusedVariables false
set_option linter.unusedSimpArgs false
namespace Go.Proofs.Ytkabmpbfabgkfaa
open Go.RowKit 
open Big
attribute [local go_sem] setCell_drewN alloc_drewN size_ext ext_ext ext_drewN ext_drew drewN_ext drew_ext cell?_ext frozen?_ext setCell_ext cell?_past1 frozen?_past1 setCell_past1 cell?_past2 frozen?_past2 setCell_past2 cell?_past3 frozen?_past3 setCell_past3 cell?_past4 frozen?_past4 setCell_past4 cell?_past5 frozen?_past5 setCell_past5 cell?_past6 frozen?_past6 setCell_past6 cell?_past7 frozen?_past7 setCell_past7 cell?_past8 frozen?_past8 setCell_past8
set_option maxRecDepth 100000 in
set_option maxHeartbeats 8000000 in
theorem counts_with (hw : ∀ w, Calls Try.prog 9 #[] w fun e w' => e = .returned (.bool true) ∧ Below w.heap.size w w') (w : World) (P H p s n : Int) (hp1 : -9223372036854775808 ≤ p) (hp2 : p ≤ 9223372036854775807) (hs1 : -9223372036854775808 ≤ s) (hs2 : s ≤ 9223372036854775807) (hP1 : -9223372036854775808 ≤ P) (hP2 : P ≤ 9223372036854775807) (hH1 : -9223372036854775808 ≤ H) (hH2 : H ≤ 9223372036854775807) (hn1 : -9223372036854775808 ≤ n) (hn2 : n ≤ 9223372036854775807) : Calls Try.prog 3 #[.agg #[.int .i64 P, .int .i64 H], .agg #[.int .i64 p, .int .i64 s], .int .i64 n] w fun e w' => e = .returned (.bool true) ∧ Below w.heap.size w w' := by
  have HI := Lib.hid (And.intro hp1 (And.intro hp2 (And.intro hs1 (And.intro hs2 (And.intro hP1 (And.intro hP2 (And.intro hH1 (And.intro hH2 (And.intro hn1 hn2)))))))))
  have HW := Lib.hid hw
  obtain ⟨k, hk⟩ : ∃ k, okS P H p s = k := ⟨_, rfl⟩
  have HK := Lib.hid hk
  clear hk hp1 hp2 hs1 hs2 hP1 hP2 hH1 hH2 hn1 hn2 hw
  cases k with
  | false =>
    have hc := cnt_no HK.out
    have HC := Lib.hid hc
    clear hc
    have hf := fold_no (show foldOk P H p s n = false by unfold foldOk; rw [HK.out]; rfl)
    have HF := Lib.hid hf
    clear hf
    go_enter Try.func3, Try.ntmps3
    go_wp2_with fail
    refine (count_any _ P H p s HI.out.1 HI.out.2.1 HI.out.2.2.1 HI.out.2.2.2.1 HI.out.2.2.2.2.1 HI.out.2.2.2.2.2.1 HI.out.2.2.2.2.2.2.1 HI.out.2.2.2.2.2.2.2.1).mono ?_
    rintro e w1 ⟨rfl, hb⟩
    rw [HC.out.1, HC.out.2.1, HC.out.2.2]
    obtain ⟨X, d, rfl⟩ := below_ext hb
    clear hb
    go_wp2_with fail
    refine (fold_any _ P H p s n HI.out.1 HI.out.2.1 HI.out.2.2.1 HI.out.2.2.2.1 HI.out.2.2.2.2.1 HI.out.2.2.2.2.2.1 HI.out.2.2.2.2.2.2.1 HI.out.2.2.2.2.2.2.2.1 HI.out.2.2.2.2.2.2.2.2.1 HI.out.2.2.2.2.2.2.2.2.2).mono ?_
    rintro e w1 ⟨rfl, hb⟩
    rw [HF.out.1, HF.out.2.1, HF.out.2.2]
    obtain ⟨X, d, rfl⟩ := below_ext hb
    clear hb
    go_wp2_with fail
    refine (rmay_count _ P H p s HI.out.1 HI.out.2.1 HI.out.2.2.1 HI.out.2.2.2.1 HI.out.2.2.2.2.1 HI.out.2.2.2.2.2.1 HI.out.2.2.2.2.2.2.1 HI.out.2.2.2.2.2.2.2.1).mono ?_
    rintro e w1 ⟨rfl, hb⟩
    rw [HK.out]
    obtain ⟨X, d, rfl⟩ := below_ext hb
    clear hb
    go_wp2_with fail
    refine (HW.out _).mono ?_
    rintro e w1 ⟨rfl, hb⟩
    obtain ⟨X, d, rfl⟩ := below_ext hb
    clear hb
    go_wp2_with fail
    go_ret
    exact ⟨rfl, by repeat (first | (with_reducible exact Below.refl _ _) | (with_reducible assumption) | (with_reducible refine below_drewN ?_ _) | (with_reducible refine Below.drew ?_) | (with_reducible refine below_ext_of ?_ (by first | exact Nat.le_refl _ | assumption | (simp only [World.size_alloc, World.size_setCell, size_ext, World.heap_drewN]; omega)) _ _) | (with_reducible refine Below.alloc ?_ (by first | exact Nat.le_refl _ | assumption | (simp only [World.size_alloc, World.size_setCell, size_ext, World.heap_drewN]; omega)) _) | (with_reducible refine Below.setCell ?_ (by first | exact Nat.le_refl _ | assumption | (simp only [World.size_alloc, World.size_setCell, size_ext, World.heap_drewN]; omega)) _))⟩
  | true =>
    obtain ⟨y1, y2, y3⟩ := cnt_yes HK.out
    obtain ⟨x, hx⟩ : ∃ x, belowN p s P = x := ⟨_, rfl⟩
    obtain ⟨l, hl⟩ : ∃ l, H / p = l := ⟨_, rfl⟩
    rw [hx] at y1
    rw [hl] at y2
    have HC := Lib.hid (And.intro y1 (And.intro y2 y3))
    have HX := Lib.hid hx
    have HL := Lib.hid hl
    clear y1 y2 y3 hx hl
    by_cases c0 : n < 0
    · have d0 : decide (n < 0) = true := decide_eq_true c0
      have hf := fold_no (show foldOk P H p s n = false by unfold foldOk; rw [decide_eq_false (show ¬ 0 ≤ n by omega), Bool.false_and, Bool.and_false])
      have HF := Lib.hid hf
      clear hf
      go_enter Try.func3, Try.ntmps3
      go_wp2_with fail
      refine (count_any _ P H p s HI.out.1 HI.out.2.1 HI.out.2.2.1 HI.out.2.2.2.1 HI.out.2.2.2.2.1 HI.out.2.2.2.2.2.1 HI.out.2.2.2.2.2.2.1 HI.out.2.2.2.2.2.2.2.1).mono ?_
      rintro e w1 ⟨rfl, hb⟩
      rw [HC.out.1, HC.out.2.1, HC.out.2.2]
      obtain ⟨X, d, rfl⟩ := below_ext hb
      clear hb
      go_wp2_with fail
      refine (fold_any _ P H p s n HI.out.1 HI.out.2.1 HI.out.2.2.1 HI.out.2.2.2.1 HI.out.2.2.2.2.1 HI.out.2.2.2.2.2.1 HI.out.2.2.2.2.2.2.1 HI.out.2.2.2.2.2.2.2.1 HI.out.2.2.2.2.2.2.2.2.1 HI.out.2.2.2.2.2.2.2.2.2).mono ?_
      rintro e w1 ⟨rfl, hb⟩
      rw [HF.out.1, HF.out.2.1, HF.out.2.2]
      obtain ⟨X, d, rfl⟩ := below_ext hb
      clear hb
      go_wp2_with fail
      refine (rmay_count _ P H p s HI.out.1 HI.out.2.1 HI.out.2.2.1 HI.out.2.2.2.1 HI.out.2.2.2.2.1 HI.out.2.2.2.2.2.1 HI.out.2.2.2.2.2.2.1 HI.out.2.2.2.2.2.2.2.1).mono ?_
      rintro e w1 ⟨rfl, hb⟩
      rw [HK.out]
      obtain ⟨X, d, rfl⟩ := below_ext hb
      clear hb
      go_wp2_with fail
      refine (rcount_any _ P H p s x l HK.out HX.out HL.out).mono ?_
      rintro e w1 ⟨rfl, hb⟩
      obtain ⟨X, d, rfl⟩ := below_ext hb
      clear hb
      go_wp2_with fail
      refine (HW.out _).mono ?_
      rintro e w1 ⟨rfl, hb⟩
      obtain ⟨X, d, rfl⟩ := below_ext hb
      clear hb
      go_wp2_with fail
      go_ret
      exact ⟨rfl, by repeat (first | (with_reducible exact Below.refl _ _) | (with_reducible assumption) | (with_reducible refine below_drewN ?_ _) | (with_reducible refine Below.drew ?_) | (with_reducible refine below_ext_of ?_ (by first | exact Nat.le_refl _ | assumption | (simp only [World.size_alloc, World.size_setCell, size_ext, World.heap_drewN]; omega)) _ _) | (with_reducible refine Below.alloc ?_ (by first | exact Nat.le_refl _ | assumption | (simp only [World.size_alloc, World.size_setCell, size_ext, World.heap_drewN]; omega)) _) | (with_reducible refine Below.setCell ?_ (by first | exact Nat.le_refl _ | assumption | (simp only [World.size_alloc, World.size_setCell, size_ext, World.heap_drewN]; omega)) _))⟩
    · have d0 : decide (n < 0) = false := decide_eq_false c0
      by_cases c1 : 1125899906842624 < n
      · have d1 : decide (n > 1125899906842624) = true := decide_eq_true c1
        have hf := fold_no (show foldOk P H p s n = false by unfold foldOk; rw [decide_eq_false (show ¬ n ≤ 1125899906842624 by omega), Bool.and_false, Bool.and_false])
        have HF := Lib.hid hf
        clear hf
        go_enter Try.func3, Try.ntmps3
        go_wp2_with fail
        refine (count_any _ P H p s HI.out.1 HI.out.2.1 HI.out.2.2.1 HI.out.2.2.2.1 HI.out.2.2.2.2.1 HI.out.2.2.2.2.2.1 HI.out.2.2.2.2.2.2.1 HI.out.2.2.2.2.2.2.2.1).mono ?_
        rintro e w1 ⟨rfl, hb⟩
        rw [HC.out.1, HC.out.2.1, HC.out.2.2]
        obtain ⟨X, d, rfl⟩ := below_ext hb
        clear hb
        go_wp2_with fail
        refine (fold_any _ P H p s n HI.out.1 HI.out.2.1 HI.out.2.2.1 HI.out.2.2.2.1 HI.out.2.2.2.2.1 HI.out.2.2.2.2.2.1 HI.out.2.2.2.2.2.2.1 HI.out.2.2.2.2.2.2.2.1 HI.out.2.2.2.2.2.2.2.2.1 HI.out.2.2.2.2.2.2.2.2.2).mono ?_
        rintro e w1 ⟨rfl, hb⟩
        rw [HF.out.1, HF.out.2.1, HF.out.2.2]
        obtain ⟨X, d, rfl⟩ := below_ext hb
        clear hb
        go_wp2_with fail
        refine (rmay_count _ P H p s HI.out.1 HI.out.2.1 HI.out.2.2.1 HI.out.2.2.2.1 HI.out.2.2.2.2.1 HI.out.2.2.2.2.2.1 HI.out.2.2.2.2.2.2.1 HI.out.2.2.2.2.2.2.2.1).mono ?_
        rintro e w1 ⟨rfl, hb⟩
        rw [HK.out]
        obtain ⟨X, d, rfl⟩ := below_ext hb
        clear hb
        go_wp2_with fail
        refine (rcount_any _ P H p s x l HK.out HX.out HL.out).mono ?_
        rintro e w1 ⟨rfl, hb⟩
        obtain ⟨X, d, rfl⟩ := below_ext hb
        clear hb
        go_wp2_with fail
        refine (HW.out _).mono ?_
        rintro e w1 ⟨rfl, hb⟩
        obtain ⟨X, d, rfl⟩ := below_ext hb
        clear hb
        go_wp2_with fail
        go_ret
        exact ⟨rfl, by repeat (first | (with_reducible exact Below.refl _ _) | (with_reducible assumption) | (with_reducible refine below_drewN ?_ _) | (with_reducible refine Below.drew ?_) | (with_reducible refine below_ext_of ?_ (by first | exact Nat.le_refl _ | assumption | (simp only [World.size_alloc, World.size_setCell, size_ext, World.heap_drewN]; omega)) _ _) | (with_reducible refine Below.alloc ?_ (by first | exact Nat.le_refl _ | assumption | (simp only [World.size_alloc, World.size_setCell, size_ext, World.heap_drewN]; omega)) _) | (with_reducible refine Below.setCell ?_ (by first | exact Nat.le_refl _ | assumption | (simp only [World.size_alloc, World.size_setCell, size_ext, World.heap_drewN]; omega)) _))⟩
      · have d1 : decide (n > 1125899906842624) = false := decide_eq_false c1
        obtain ⟨a, ha⟩ : ∃ a, foldN P H p s n = a := ⟨_, rfl⟩
        obtain ⟨b, hb⟩ : ∃ b, foldM P H p s n = b := ⟨_, rfl⟩
        have he : foldE P H p s n = 0 := (fold_yes (by unfold foldOk; rw [HK.out, decide_eq_true (show 0 ≤ n by omega), decide_eq_true (show n ≤ 1125899906842624 by omega)]; rfl)).2.2
        have HF := Lib.hid (And.intro ha (And.intro hb he))
        have HN : Hid (0 ≤ n ∧ n ≤ 1125899906842624) := Lib.hid (by omega)
        clear ha hb he
        go_enter Try.func3, Try.ntmps3
        go_wp2_with fail
        refine (count_any _ P H p s HI.out.1 HI.out.2.1 HI.out.2.2.1 HI.out.2.2.2.1 HI.out.2.2.2.2.1 HI.out.2.2.2.2.2.1 HI.out.2.2.2.2.2.2.1 HI.out.2.2.2.2.2.2.2.1).mono ?_
        rintro e w1 ⟨rfl, hb⟩
        rw [HC.out.1, HC.out.2.1, HC.out.2.2]
        obtain ⟨X, d, rfl⟩ := below_ext hb
        clear hb
        go_wp2_with fail
        refine (fold_any _ P H p s n HI.out.1 HI.out.2.1 HI.out.2.2.1 HI.out.2.2.2.1 HI.out.2.2.2.2.1 HI.out.2.2.2.2.2.1 HI.out.2.2.2.2.2.2.1 HI.out.2.2.2.2.2.2.2.1 HI.out.2.2.2.2.2.2.2.2.1 HI.out.2.2.2.2.2.2.2.2.2).mono ?_
        rintro e w1 ⟨rfl, hb⟩
        rw [HF.out.1, HF.out.2.1, HF.out.2.2]
        obtain ⟨X, d, rfl⟩ := below_ext hb
        clear hb
        go_wp2_with fail
        refine (rmay_count _ P H p s HI.out.1 HI.out.2.1 HI.out.2.2.1 HI.out.2.2.2.1 HI.out.2.2.2.2.1 HI.out.2.2.2.2.2.1 HI.out.2.2.2.2.2.2.1 HI.out.2.2.2.2.2.2.2.1).mono ?_
        rintro e w1 ⟨rfl, hb⟩
        rw [HK.out]
        obtain ⟨X, d, rfl⟩ := below_ext hb
        clear hb
        go_wp2_with fail
        refine (rcount_any _ P H p s x l HK.out HX.out HL.out).mono ?_
        rintro e w1 ⟨rfl, hb⟩
        obtain ⟨X, d, rfl⟩ := below_ext hb
        clear hb
        go_wp2_with fail
        refine (rfold_any _ P H p s n HK.out HN.out.1 HN.out.2).mono ?_
        rintro e w1 ⟨rfl, hb⟩
        rw [HF.out.1, HF.out.2.1]
        obtain ⟨X, d, rfl⟩ := below_ext hb
        clear hb
        go_wp2_with fail
        refine (HW.out _).mono ?_
        rintro e w1 ⟨rfl, hb⟩
        obtain ⟨X, d, rfl⟩ := below_ext hb
        clear hb
        go_wp2_with fail
        go_ret
        exact ⟨rfl, by repeat (first | (with_reducible exact Below.refl _ _) | (with_reducible assumption) | (with_reducible refine below_drewN ?_ _) | (with_reducible refine Below.drew ?_) | (with_reducible refine below_ext_of ?_ (by first | exact Nat.le_refl _ | assumption | (simp only [World.size_alloc, World.size_setCell, size_ext, World.heap_drewN]; omega)) _ _) | (with_reducible refine Below.alloc ?_ (by first | exact Nat.le_refl _ | assumption | (simp only [World.size_alloc, World.size_setCell, size_ext, World.heap_drewN]; omega)) _) | (with_reducible refine Below.setCell ?_ (by first | exact Nat.le_refl _ | assumption | (simp only [World.size_alloc, World.size_setCell, size_ext, World.heap_drewN]; omega)) _))⟩
end Go.Proofs.Ytkabmpbfabgkfaa
