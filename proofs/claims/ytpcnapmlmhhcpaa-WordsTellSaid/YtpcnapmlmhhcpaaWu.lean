/-
  words.Same; the reference's equal, Equal; the law's heavy and number; words.Cons of a word that may be: contracts.
  Conditions: the rows lie in memory.
-/
import Derived.Test.YtpcnapmlmhhcpaaWs
import Derived.WalkKit
import Derived.WalkSpells
import Derived.WalkLawsBesides
import Derived.Deep.QuietTactic
import Derived.BigQuiet
import Derived.Lib.Hide
import Derived.Handy
import Derived.Deep.AppendLies
import Derived.Maps.AppendAt
import Derived.OwnWalk
import Derived.Lib.LazyBuf
import Derived.Deep.DeepCutAuto
import Derived.Deep.RegionLaw
import Derived.Deep.RegionHeld3
import Derived.Deep.RegionWith
import Derived.BigRegion
set_option linter.unusedVariables false
set_option linter.unusedSimpArgs false
namespace Go.Proofs.Ytpcnapmlmhhcpaa
open Go.RowKit 
attribute [local go_sem] setCell_drewN alloc_drewN size_ext ext_ext ext_drewN ext_drew drewN_ext drew_ext cell?_ext frozen?_ext setCell_ext cell?_past1 frozen?_past1 setCell_past1 cell?_past2 frozen?_past2 setCell_past2 cell?_past3 frozen?_past3 setCell_past3 cell?_past4 frozen?_past4 setCell_past4 cell?_past5 frozen?_past5 setCell_past5 cell?_past6 frozen?_past6 setCell_past6 cell?_past7 frozen?_past7 setCell_past7 cell?_past8 frozen?_past8 setCell_past8

/-- Are two words the same? -/
def same (a b c d : List Int) : Bool := decide (nE a b = 0) && (decide (nE c d = 0) && (decide (nH a b = nH c d) && decide (nL a b = nL c d)))
set_option maxRecDepth 100000 in
set_option maxHeartbeats 4000000 in
theorem same_any (w : World) (va vb vc vd : Value) (a b c d : List Int) (h1 : RowAt w va a) (h2 : RowAt w vb b) (h3 : RowAt w vc c) (h4 : RowAt w vd d) : Calls Try.prog 26 #[.agg #[va, vb], .agg #[vc, vd]] w fun e w' => e = .returned (.bool (same a b c d)) ∧ Below w.heap.size w w' := by
  have H1 := Lib.hid h1
  have H2 := Lib.hid h2
  have H3 := Lib.hid h3
  have H4 := Lib.hid h4
  obtain ⟨pa, ca, rfl, ra⟩ := h1
  obtain ⟨pb, cb, rfl, rb⟩ := h2
  obtain ⟨pc, cc, rfl, rc⟩ := h3
  obtain ⟨pd, cd, rfl, rd⟩ := h4
  clear ra rb rc rd
  go_enter Try.func26, Try.ntmps26
  go_wp2_with fail
  refine (norm_any _ _ _ a b (H1.out.below (by repeat (first | (with_reducible exact Below.refl _ _) | (with_reducible assumption) | (with_reducible refine below_drewN ?_ _) | (with_reducible refine Below.drew ?_) | (with_reducible refine below_ext_of ?_ (by first | exact Nat.le_refl _ | assumption | (simp only [World.size_alloc, World.size_setCell, size_ext, World.heap_drewN]; omega)) _ _) | (with_reducible refine Below.alloc ?_ (by first | exact Nat.le_refl _ | assumption | (simp only [World.size_alloc, World.size_setCell, size_ext, World.heap_drewN]; omega)) _) | (with_reducible refine Below.setCell ?_ (by first | exact Nat.le_refl _ | assumption | (simp only [World.size_alloc, World.size_setCell, size_ext, World.heap_drewN]; omega)) _)))) (H2.out.below (by repeat (first | (with_reducible exact Below.refl _ _) | (with_reducible assumption) | (with_reducible refine below_drewN ?_ _) | (with_reducible refine Below.drew ?_) | (with_reducible refine below_ext_of ?_ (by first | exact Nat.le_refl _ | assumption | (simp only [World.size_alloc, World.size_setCell, size_ext, World.heap_drewN]; omega)) _ _) | (with_reducible refine Below.alloc ?_ (by first | exact Nat.le_refl _ | assumption | (simp only [World.size_alloc, World.size_setCell, size_ext, World.heap_drewN]; omega)) _) | (with_reducible refine Below.setCell ?_ (by first | exact Nat.le_refl _ | assumption | (simp only [World.size_alloc, World.size_setCell, size_ext, World.heap_drewN]; omega)) _))))).mono ?_
  rintro e w1 ⟨hb, v1, v2, rfl, o1, o2, _⟩
  have r1 := o1.row
  have r2 := o2.row
  clear o1 o2
  obtain ⟨X, dd, rfl⟩ := below_ext hb
  clear hb
  have R1 := Lib.hid r1
  have R2 := Lib.hid r2
  obtain ⟨p1, c1, rfl, _⟩ := r1
  obtain ⟨p2, c2, rfl, _⟩ := r2
  go_wp2_with fail
  refine (norm_any _ _ _ c d (H3.out.below (by repeat (first | (with_reducible exact Below.refl _ _) | (with_reducible assumption) | (with_reducible refine below_drewN ?_ _) | (with_reducible refine Below.drew ?_) | (with_reducible refine below_ext_of ?_ (by first | exact Nat.le_refl _ | assumption | (simp only [World.size_alloc, World.size_setCell, size_ext, World.heap_drewN]; omega)) _ _) | (with_reducible refine Below.alloc ?_ (by first | exact Nat.le_refl _ | assumption | (simp only [World.size_alloc, World.size_setCell, size_ext, World.heap_drewN]; omega)) _) | (with_reducible refine Below.setCell ?_ (by first | exact Nat.le_refl _ | assumption | (simp only [World.size_alloc, World.size_setCell, size_ext, World.heap_drewN]; omega)) _)))) (H4.out.below (by repeat (first | (with_reducible exact Below.refl _ _) | (with_reducible assumption) | (with_reducible refine below_drewN ?_ _) | (with_reducible refine Below.drew ?_) | (with_reducible refine below_ext_of ?_ (by first | exact Nat.le_refl _ | assumption | (simp only [World.size_alloc, World.size_setCell, size_ext, World.heap_drewN]; omega)) _ _) | (with_reducible refine Below.alloc ?_ (by first | exact Nat.le_refl _ | assumption | (simp only [World.size_alloc, World.size_setCell, size_ext, World.heap_drewN]; omega)) _) | (with_reducible refine Below.setCell ?_ (by first | exact Nat.le_refl _ | assumption | (simp only [World.size_alloc, World.size_setCell, size_ext, World.heap_drewN]; omega)) _))))).mono ?_
  rintro e w1 ⟨hb, v3, v4, rfl, o3, o4, _⟩
  have r3 := o3.row
  have r4 := o4.row
  clear o3 o4
  obtain ⟨X1, dd1, rfl⟩ := below_ext hb
  clear hb
  have R3 := Lib.hid r3
  have R4 := Lib.hid r4
  obtain ⟨p3, c3, rfl, _⟩ := r3
  obtain ⟨p4, c4, rfl, _⟩ := r4
  have z1 : w.heap.size + 2 + X.size < w.heap.size + 2 + X.size + 1 + X1.size := by omega
  have z2 : w.heap.size + 1 + 1 + X.size < w.heap.size + 1 + 1 + X.size + 1 + X1.size := by omega
  have z3 : w.heap.size + 2 + X.size < w.heap.size + 2 + X.size + 1 + X1.size + 1 := by omega
  have z4 : w.heap.size + 1 + 1 + X.size < w.heap.size + 1 + 1 + X.size + 1 + X1.size + 1 := by omega
  by_cases he1 : nE a b = 0
  · have f1 : (nE a b == 0) = true := by simpa using he1
    by_cases he2 : nE c d = 0
    · have f2 : (nE c d == 0) = true := by simpa using he2
      have H : Hid (same a b c d = (decide (nH a b = nH c d) && decide (nL a b = nL c d))) := Lib.hid (by
        unfold same
        rw [decide_eq_true he1, decide_eq_true he2, Bool.true_and, Bool.true_and])
      clear he1 he2
      go_wp2_with fail
      refine (equal_any _ _ _ (nH a b) (nH c d) (R1.out.below (by repeat (first | (with_reducible exact Below.refl _ _) | (with_reducible assumption) | (with_reducible refine below_drewN ?_ _) | (with_reducible refine Below.drew ?_) | (with_reducible refine below_ext_of ?_ (by first | exact Nat.le_refl _ | assumption | (simp only [World.size_alloc, World.size_setCell, size_ext, World.heap_drewN]; omega)) _ _) | (with_reducible refine Below.alloc ?_ (by first | exact Nat.le_refl _ | assumption | (simp only [World.size_alloc, World.size_setCell, size_ext, World.heap_drewN]; omega)) _) | (with_reducible refine Below.setCell ?_ (by first | exact Nat.le_refl _ | assumption | (simp only [World.size_alloc, World.size_setCell, size_ext, World.heap_drewN]; omega)) _)))) (R3.out.below (by repeat (first | (with_reducible exact Below.refl _ _) | (with_reducible assumption) | (with_reducible refine below_drewN ?_ _) | (with_reducible refine Below.drew ?_) | (with_reducible refine below_ext_of ?_ (by first | exact Nat.le_refl _ | assumption | (simp only [World.size_alloc, World.size_setCell, size_ext, World.heap_drewN]; omega)) _ _) | (with_reducible refine Below.alloc ?_ (by first | exact Nat.le_refl _ | assumption | (simp only [World.size_alloc, World.size_setCell, size_ext, World.heap_drewN]; omega)) _) | (with_reducible refine Below.setCell ?_ (by first | exact Nat.le_refl _ | assumption | (simp only [World.size_alloc, World.size_setCell, size_ext, World.heap_drewN]; omega)) _))))).mono ?_
      rintro e w1 ⟨rfl, hb⟩
      obtain ⟨X2, dd2, rfl⟩ := below_ext hb
      clear hb
      cases hh : decide (nH a b = nH c d) with
      | false =>
        have HH := Lib.hid (show false = same a b c d by rw [H.out, hh, Bool.false_and])
        clear hh
        go_wp2_with fail
        go_ret
        exact ⟨ret_b HH.out, by repeat (first | (with_reducible exact Below.refl _ _) | (with_reducible assumption) | (with_reducible refine below_drewN ?_ _) | (with_reducible refine Below.drew ?_) | (with_reducible refine below_ext_of ?_ (by first | exact Nat.le_refl _ | assumption | (simp only [World.size_alloc, World.size_setCell, size_ext, World.heap_drewN]; omega)) _ _) | (with_reducible refine Below.alloc ?_ (by first | exact Nat.le_refl _ | assumption | (simp only [World.size_alloc, World.size_setCell, size_ext, World.heap_drewN]; omega)) _) | (with_reducible refine Below.setCell ?_ (by first | exact Nat.le_refl _ | assumption | (simp only [World.size_alloc, World.size_setCell, size_ext, World.heap_drewN]; omega)) _))⟩
      | true =>
        have HH := Lib.hid (show decide (nL a b = nL c d) = same a b c d by rw [H.out, hh, Bool.true_and])
        clear hh
        go_wp2_with fail
        refine (equal_any _ _ _ (nL a b) (nL c d) (R2.out.below (by repeat (first | (with_reducible exact Below.refl _ _) | (with_reducible assumption) | (with_reducible refine below_drewN ?_ _) | (with_reducible refine Below.drew ?_) | (with_reducible refine below_ext_of ?_ (by first | exact Nat.le_refl _ | assumption | (simp only [World.size_alloc, World.size_setCell, size_ext, World.heap_drewN]; omega)) _ _) | (with_reducible refine Below.alloc ?_ (by first | exact Nat.le_refl _ | assumption | (simp only [World.size_alloc, World.size_setCell, size_ext, World.heap_drewN]; omega)) _) | (with_reducible refine Below.setCell ?_ (by first | exact Nat.le_refl _ | assumption | (simp only [World.size_alloc, World.size_setCell, size_ext, World.heap_drewN]; omega)) _)))) (R4.out.below (by repeat (first | (with_reducible exact Below.refl _ _) | (with_reducible assumption) | (with_reducible refine below_drewN ?_ _) | (with_reducible refine Below.drew ?_) | (with_reducible refine below_ext_of ?_ (by first | exact Nat.le_refl _ | assumption | (simp only [World.size_alloc, World.size_setCell, size_ext, World.heap_drewN]; omega)) _ _) | (with_reducible refine Below.alloc ?_ (by first | exact Nat.le_refl _ | assumption | (simp only [World.size_alloc, World.size_setCell, size_ext, World.heap_drewN]; omega)) _) | (with_reducible refine Below.setCell ?_ (by first | exact Nat.le_refl _ | assumption | (simp only [World.size_alloc, World.size_setCell, size_ext, World.heap_drewN]; omega)) _))))).mono ?_
        rintro e w1 ⟨rfl, hb⟩
        obtain ⟨X3, dd3, rfl⟩ := below_ext hb
        clear hb
        go_wp2_with fail
        go_ret
        exact ⟨ret_b HH.out, by repeat (first | (with_reducible exact Below.refl _ _) | (with_reducible assumption) | (with_reducible refine below_drewN ?_ _) | (with_reducible refine Below.drew ?_) | (with_reducible refine below_ext_of ?_ (by first | exact Nat.le_refl _ | assumption | (simp only [World.size_alloc, World.size_setCell, size_ext, World.heap_drewN]; omega)) _ _) | (with_reducible refine Below.alloc ?_ (by first | exact Nat.le_refl _ | assumption | (simp only [World.size_alloc, World.size_setCell, size_ext, World.heap_drewN]; omega)) _) | (with_reducible refine Below.setCell ?_ (by first | exact Nat.le_refl _ | assumption | (simp only [World.size_alloc, World.size_setCell, size_ext, World.heap_drewN]; omega)) _))⟩
    · have f2 : (nE c d == 0) = false := beq_false_of_ne he2
      have H : Hid (false = same a b c d) := Lib.hid (by
        unfold same
        rw [decide_eq_false he2, Bool.false_and, Bool.and_false])
      clear he1
      go_wp2_with fail
      go_ret
      exact ⟨ret_b H.out, by repeat (first | (with_reducible exact Below.refl _ _) | (with_reducible assumption) | (with_reducible refine below_drewN ?_ _) | (with_reducible refine Below.drew ?_) | (with_reducible refine below_ext_of ?_ (by first | exact Nat.le_refl _ | assumption | (simp only [World.size_alloc, World.size_setCell, size_ext, World.heap_drewN]; omega)) _ _) | (with_reducible refine Below.alloc ?_ (by first | exact Nat.le_refl _ | assumption | (simp only [World.size_alloc, World.size_setCell, size_ext, World.heap_drewN]; omega)) _) | (with_reducible refine Below.setCell ?_ (by first | exact Nat.le_refl _ | assumption | (simp only [World.size_alloc, World.size_setCell, size_ext, World.heap_drewN]; omega)) _))⟩
  · have f1 : (nE a b == 0) = false := beq_false_of_ne he1
    have H : Hid (false = same a b c d) := Lib.hid (by
      unfold same
      rw [decide_eq_false he1, Bool.false_and])
    go_wp2_with fail
    go_ret
    exact ⟨ret_b H.out, by repeat (first | (with_reducible exact Below.refl _ _) | (with_reducible assumption) | (with_reducible refine below_drewN ?_ _) | (with_reducible refine Below.drew ?_) | (with_reducible refine below_ext_of ?_ (by first | exact Nat.le_refl _ | assumption | (simp only [World.size_alloc, World.size_setCell, size_ext, World.heap_drewN]; omega)) _ _) | (with_reducible refine Below.alloc ?_ (by first | exact Nat.le_refl _ | assumption | (simp only [World.size_alloc, World.size_setCell, size_ext, World.heap_drewN]; omega)) _) | (with_reducible refine Below.setCell ?_ (by first | exact Nat.le_refl _ | assumption | (simp only [World.size_alloc, World.size_setCell, size_ext, World.heap_drewN]; omega)) _))⟩
set_option maxHeartbeats 2000000 in
theorem refeq_any (w : World) (v1 v2 : Value) (xs ys : List Int) (h1 : RowAt w v1 xs) (h2 : RowAt w v2 ys) : Calls Try.prog 39 #[v1, v2] w fun e w' => e = .returned (.bool (decide (xs = ys))) ∧ Below w.heap.size w w' := by
  obtain ⟨p1, c1, rfl, l1, m1, _, r1⟩ := h1
  obtain ⟨p2, c2, rfl, _, _, _, r2⟩ := h2
  by_cases hl : xs.length = ys.length
  · rw [← hl]
    rw [← hl] at r2
    obtain ⟨n, hn⟩ : ∃ n, n = xs.length := ⟨_, rfl⟩
    rw [← hn] at r1 r2 l1 m1 ⊢
    have HN := Lib.hid hn
    have HL := Lib.hid hl
    have R1 := Lib.hid r1
    have R2 := Lib.hid r2
    have hnm : n < 9223372036854775808 := by unfold maxLen at m1; omega
    clear r1 r2 hn hl l1 m1
    go_enter Try.func39, Try.ntmps39
    go_wp2_with fail
    go_loopw [5] (fun i wr => ∃ (k : Nat) (d : Nat), i = .int .i64 (k : Int) ∧ k ≤ n ∧ Hid (xs.take k = ys.take k) ∧ wr = ext w #[] d) (fun i _ => n - (intOf i).toNat)
    case atStart => exact ⟨0, w.drawn, rfl, by omega, Lib.hid (by simp), (ext_nil w).symm⟩
    case round =>
    obtain ⟨k, d, rfl, hk, hT, rfl⟩ := hrel
    by_cases hkn : k < n
    · have e1 : (k : Int) < n := by omega
      have e2 := decide_eq_true e1
      have e3 : (0 : Int) ≤ k := by omega
      have e4 : IntKind.i64.wrap ((k : Int) + 1) = (k : Int) + 1 := by rw [IntKind.wrap_i64]; omega
      obtain ⟨g1, o1, rfl, hg1, hi1⟩ := R1.out (by omega)
      obtain ⟨g2, o2, rfl, hg2, hi2⟩ := R2.out (by omega)
      have s1 := hi1 k (by have := HN.out; omega)
      have s2 := hi2 k (by have := HN.out; have := HL.out; omega)
      by_cases he : at_ xs k = at_ ys k
      · have e5 : (at_ xs k != at_ ys k) = false := by simpa using he
        have e6 : (at_ xs k == at_ ys k) = true := by simpa using he
        rw [← he] at s2
        have hT2 : Hid (xs.take (k + 1) = ys.take (k + 1)) := Lib.hid (take_snoc_eq xs ys k (by have := HN.out; omega) (by have := HN.out; have := HL.out; omega) hT.out he)
        clear hi1 hi2 e5 e6 he
        generalize at_ xs k = x at *
        go_wp2_with fail
        go_region
        go_wp2_with fail
        go_roundw
        case measure =>
          simp only [intOf, Int.toNat_natCast]
          omega
        case rel => exact ⟨k + 1, _, rfl, by omega, hT2, rfl⟩
      · have e5 : (at_ xs k != at_ ys k) = true := bne_iff_ne.2 he
        have e6 : (at_ xs k == at_ ys k) = false := beq_false_of_ne he
        have H : Hid (false = decide (xs = ys)) := Lib.hid (decide_eq_false (fun e => he (by rw [e]))).symm
        clear hi1 hi2 he
        generalize at_ xs k = x at *
        generalize at_ ys k = y at *
        go_wp2_with fail
        go_region
        go_wp2_with fail
        go_ret
        exact ⟨ret_b H.out, ext_below _ _ _⟩
    · have e1 : ¬ ((k : Int) < n) := by omega
      have e2 := decide_eq_false e1
      have H : Hid (true = decide (xs = ys)) := Lib.hid (decide_eq_true (by
        have h := hT.out
        have := HN.out
        have := HL.out
        rwa [List.take_of_length_le (by omega), List.take_of_length_le (by omega)] at h)).symm
      go_wp2_with fail
      go_ret
      exact ⟨ret_b H.out, ext_below _ _ _⟩
  · have e1 : ((xs.length : Int) != (ys.length : Int)) = true := bne_iff_ne.2 (by omega)
    have e2 : ((xs.length : Int) == (ys.length : Int)) = false := beq_false_of_ne (by omega)
    have e3 : ¬ ((xs.length : Int) = (ys.length : Int)) := by omega
    have H : Hid (false = decide (xs = ys)) := Lib.hid (decide_eq_false (fun e => hl (by rw [e]))).symm
    clear r1 r2 l1 m1
    go_enter Try.func39, Try.ntmps39
    go_wp2_with fail
    go_ret
    exact ⟨ret_b H.out, by repeat (first | (with_reducible exact Below.refl _ _) | (with_reducible assumption) | (with_reducible refine below_drewN ?_ _) | (with_reducible refine Below.drew ?_) | (with_reducible refine below_ext_of ?_ (by first | exact Nat.le_refl _ | assumption | (simp only [World.size_alloc, World.size_setCell, size_ext, World.heap_drewN]; omega)) _ _) | (with_reducible refine Below.alloc ?_ (by first | exact Nat.le_refl _ | assumption | (simp only [World.size_alloc, World.size_setCell, size_ext, World.heap_drewN]; omega)) _) | (with_reducible refine Below.setCell ?_ (by first | exact Nat.le_refl _ | assumption | (simp only [World.size_alloc, World.size_setCell, size_ext, World.heap_drewN]; omega)) _))⟩

theorem ret_b2 {b c : Bool} (h : b = c) : Ending.returned (Value.bool b) = Ending.returned (.bool c) := by rw [h]
/-- Are two words alike, letter by letter? -/
def eqW (a b c d : List Int) : Bool := decide (a = c) && decide (b = d)
set_option maxRecDepth 100000 in
set_option maxHeartbeats 4000000 in
theorem Equal_any (w : World) (va vb vc vd : Value) (a b c d : List Int) (h1 : RowAt w va a) (h2 : RowAt w vb b) (h3 : RowAt w vc c) (h4 : RowAt w vd d) : Calls Try.prog 11 #[.agg #[va, vb], .agg #[vc, vd]] w fun e w' => e = .returned (.bool (eqW a b c d)) ∧ Below w.heap.size w w' := by
  have H1 := Lib.hid h1
  have H2 := Lib.hid h2
  have H3 := Lib.hid h3
  have H4 := Lib.hid h4
  obtain ⟨pa, ca, rfl, ra⟩ := h1
  obtain ⟨pb, cb, rfl, rb⟩ := h2
  obtain ⟨pc, cc, rfl, rc⟩ := h3
  obtain ⟨pd, cd, rfl, rd⟩ := h4
  clear ra rb rc rd
  go_enter Try.func11, Try.ntmps11
  go_wp2_with fail
  refine (refeq_any _ _ _ a c (H1.out.below (by repeat (first | (with_reducible exact Below.refl _ _) | (with_reducible assumption) | (with_reducible refine below_drewN ?_ _) | (with_reducible refine Below.drew ?_) | (with_reducible refine below_ext_of ?_ (by first | exact Nat.le_refl _ | assumption | (simp only [World.size_alloc, World.size_setCell, size_ext, World.heap_drewN]; omega)) _ _) | (with_reducible refine Below.alloc ?_ (by first | exact Nat.le_refl _ | assumption | (simp only [World.size_alloc, World.size_setCell, size_ext, World.heap_drewN]; omega)) _) | (with_reducible refine Below.setCell ?_ (by first | exact Nat.le_refl _ | assumption | (simp only [World.size_alloc, World.size_setCell, size_ext, World.heap_drewN]; omega)) _)))) (H3.out.below (by repeat (first | (with_reducible exact Below.refl _ _) | (with_reducible assumption) | (with_reducible refine below_drewN ?_ _) | (with_reducible refine Below.drew ?_) | (with_reducible refine below_ext_of ?_ (by first | exact Nat.le_refl _ | assumption | (simp only [World.size_alloc, World.size_setCell, size_ext, World.heap_drewN]; omega)) _ _) | (with_reducible refine Below.alloc ?_ (by first | exact Nat.le_refl _ | assumption | (simp only [World.size_alloc, World.size_setCell, size_ext, World.heap_drewN]; omega)) _) | (with_reducible refine Below.setCell ?_ (by first | exact Nat.le_refl _ | assumption | (simp only [World.size_alloc, World.size_setCell, size_ext, World.heap_drewN]; omega)) _))))).mono ?_
  rintro e w1 ⟨rfl, hb⟩
  obtain ⟨X, dd, rfl⟩ := below_ext hb
  clear hb
  cases hh : decide (a = c) with
  | false =>
    have HH := Lib.hid (show false = eqW a b c d by unfold eqW; rw [hh, Bool.false_and])
    clear hh
    go_wp2_with fail
    go_ret
    exact ⟨ret_b HH.out, by repeat (first | (with_reducible exact Below.refl _ _) | (with_reducible assumption) | (with_reducible refine below_drewN ?_ _) | (with_reducible refine Below.drew ?_) | (with_reducible refine below_ext_of ?_ (by first | exact Nat.le_refl _ | assumption | (simp only [World.size_alloc, World.size_setCell, size_ext, World.heap_drewN]; omega)) _ _) | (with_reducible refine Below.alloc ?_ (by first | exact Nat.le_refl _ | assumption | (simp only [World.size_alloc, World.size_setCell, size_ext, World.heap_drewN]; omega)) _) | (with_reducible refine Below.setCell ?_ (by first | exact Nat.le_refl _ | assumption | (simp only [World.size_alloc, World.size_setCell, size_ext, World.heap_drewN]; omega)) _))⟩
  | true =>
    have HH := Lib.hid (show decide (b = d) = eqW a b c d by unfold eqW; rw [hh, Bool.true_and])
    clear hh
    go_wp2_with fail
    refine (refeq_any _ _ _ b d (H2.out.below (by repeat (first | (with_reducible exact Below.refl _ _) | (with_reducible assumption) | (with_reducible refine below_drewN ?_ _) | (with_reducible refine Below.drew ?_) | (with_reducible refine below_ext_of ?_ (by first | exact Nat.le_refl _ | assumption | (simp only [World.size_alloc, World.size_setCell, size_ext, World.heap_drewN]; omega)) _ _) | (with_reducible refine Below.alloc ?_ (by first | exact Nat.le_refl _ | assumption | (simp only [World.size_alloc, World.size_setCell, size_ext, World.heap_drewN]; omega)) _) | (with_reducible refine Below.setCell ?_ (by first | exact Nat.le_refl _ | assumption | (simp only [World.size_alloc, World.size_setCell, size_ext, World.heap_drewN]; omega)) _)))) (H4.out.below (by repeat (first | (with_reducible exact Below.refl _ _) | (with_reducible assumption) | (with_reducible refine below_drewN ?_ _) | (with_reducible refine Below.drew ?_) | (with_reducible refine below_ext_of ?_ (by first | exact Nat.le_refl _ | assumption | (simp only [World.size_alloc, World.size_setCell, size_ext, World.heap_drewN]; omega)) _ _) | (with_reducible refine Below.alloc ?_ (by first | exact Nat.le_refl _ | assumption | (simp only [World.size_alloc, World.size_setCell, size_ext, World.heap_drewN]; omega)) _) | (with_reducible refine Below.setCell ?_ (by first | exact Nat.le_refl _ | assumption | (simp only [World.size_alloc, World.size_setCell, size_ext, World.heap_drewN]; omega)) _))))).mono ?_
    rintro e w1 ⟨rfl, hb⟩
    obtain ⟨X3, dd3, rfl⟩ := below_ext hb
    clear hb
    go_wp2_with fail
    go_ret
    exact ⟨ret_b HH.out, by repeat (first | (with_reducible exact Below.refl _ _) | (with_reducible assumption) | (with_reducible refine below_drewN ?_ _) | (with_reducible refine Below.drew ?_) | (with_reducible refine below_ext_of ?_ (by first | exact Nat.le_refl _ | assumption | (simp only [World.size_alloc, World.size_setCell, size_ext, World.heap_drewN]; omega)) _ _) | (with_reducible refine Below.alloc ?_ (by first | exact Nat.le_refl _ | assumption | (simp only [World.size_alloc, World.size_setCell, size_ext, World.heap_drewN]; omega)) _) | (with_reducible refine Below.setCell ?_ (by first | exact Nat.le_refl _ | assumption | (simp only [World.size_alloc, World.size_setCell, size_ext, World.heap_drewN]; omega)) _))⟩
/-- Is a word more than a statement reckons? -/
def heavyB (h l : List Int) : Bool := decide (200 < h.length) || decide (200 < l.length)
set_option maxHeartbeats 1000000 in
theorem heavy_any (w : World) (vh vl : Value) (h l : List Int) (h1 : RowAt w vh h) (h2 : RowAt w vl l) : Calls Try.prog 8 #[.agg #[vh, vl]] w fun e w' => e = .returned (.bool (heavyB h l)) ∧ Below w.heap.size w w' := by
  obtain ⟨p1, c1, rfl, _⟩ := h1
  obtain ⟨p2, c2, rfl, _⟩ := h2
  by_cases a1 : 200 < h.length
  · have e1 : decide ((h.length : Int) > 200) = true := decide_eq_true (by omega)
    have e2 : (200 : Int) < h.length := by omega
    have H := Lib.hid (show true = heavyB h l by unfold heavyB; rw [decide_eq_true a1, Bool.true_or])
    generalize h.length = n1 at *
    generalize l.length = n2 at *
    go_enter Try.func8, Try.ntmps8
    go_wp2
    go_ret
    exact ⟨ret_b H.out, by repeat (first | (with_reducible exact Below.refl _ _) | (with_reducible assumption) | (with_reducible refine below_drewN ?_ _) | (with_reducible refine Below.drew ?_) | (with_reducible refine below_ext_of ?_ (by first | exact Nat.le_refl _ | assumption | (simp only [World.size_alloc, World.size_setCell, size_ext, World.heap_drewN]; omega)) _ _) | (with_reducible refine Below.alloc ?_ (by first | exact Nat.le_refl _ | assumption | (simp only [World.size_alloc, World.size_setCell, size_ext, World.heap_drewN]; omega)) _) | (with_reducible refine Below.setCell ?_ (by first | exact Nat.le_refl _ | assumption | (simp only [World.size_alloc, World.size_setCell, size_ext, World.heap_drewN]; omega)) _))⟩
  · have e1 : decide ((h.length : Int) > 200) = false := decide_eq_false (by omega)
    have e2 : ¬ ((200 : Int) < h.length) := by omega
    have H := Lib.hid (show decide ((l.length : Int) > 200) = heavyB h l by
      unfold heavyB
      rw [decide_eq_false a1, Bool.false_or]
      exact decide_eq_decide.2 (by omega))
    clear a1
    generalize h.length = n1 at *
    generalize l.length = n2 at *
    go_enter Try.func8, Try.ntmps8
    go_wp2
    go_ret
    exact ⟨ret_b (by first | exact H.out | (rw [← H.out]; exact decide_eq_decide.2 (by omega))), by repeat (first | (with_reducible exact Below.refl _ _) | (with_reducible assumption) | (with_reducible refine below_drewN ?_ _) | (with_reducible refine Below.drew ?_) | (with_reducible refine below_ext_of ?_ (by first | exact Nat.le_refl _ | assumption | (simp only [World.size_alloc, World.size_setCell, size_ext, World.heap_drewN]; omega)) _ _) | (with_reducible refine Below.alloc ?_ (by first | exact Nat.le_refl _ | assumption | (simp only [World.size_alloc, World.size_setCell, size_ext, World.heap_drewN]; omega)) _) | (with_reducible refine Below.setCell ?_ (by first | exact Nat.le_refl _ | assumption | (simp only [World.size_alloc, World.size_setCell, size_ext, World.heap_drewN]; omega)) _))⟩
end Go.Proofs.Ytpcnapmlmhhcpaa
