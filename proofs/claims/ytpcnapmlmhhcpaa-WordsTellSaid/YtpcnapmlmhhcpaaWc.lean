/-
  words.At; slices.Equal, Clone; words.loop: contracts.
  Conditions: the rows lie in memory; at most a million numbers.
-/
import Derived.Test.YtpcnapmlmhhcpaaWb
import Derived.WalkKit
import Derived.WalkSpells
import Derived.WalkLawsBesides
import Derived.Deep.QuietTactic
import Derived.BigQuiet
import Derived.Lib.Hide
import Derived.Handy
import Derived.Deep.AppendLies
import Derived.Maps.AppendAt
import Derived.OwnWalk
import Derived.Lib.LazyBuf
import Derived.Deep.DeepCutAuto
import Derived.Deep.RegionLaw
import Derived.Deep.RegionHeld3
import Derived.Deep.RegionWith
import Derived.BigRegion
set_option linter.unusedVariables false
set_option linter.unusedSimpArgs false
namespace Go.Proofs.Ytpcnapmlmhhcpaa
open Go.RowKit 
attribute [local go_sem] setCell_drewN alloc_drewN size_ext ext_ext ext_drewN ext_drew drewN_ext drew_ext cell?_ext frozen?_ext setCell_ext cell?_past1 frozen?_past1 setCell_past1 cell?_past2 frozen?_past2 setCell_past2 cell?_past3 frozen?_past3 setCell_past3 cell?_past4 frozen?_past4 setCell_past4 cell?_past5 frozen?_past5 setCell_past5 cell?_past6 frozen?_past6 setCell_past6 cell?_past7 frozen?_past7 setCell_past7 cell?_past8 frozen?_past8 setCell_past8

set_option maxHeartbeats 1000000 in
theorem At_no (w : World) (vh vl : Value) (h l : List Int) (n : Int) (h1 : RowAt w vh h) (h2 : RowAt w vl l) (hm : may h l = false ∨ n < 0) : Calls Try.prog 29 #[.agg #[vh, vl], .int .i64 n] w fun e w' => e = .returned (.tuple #[.int .i64 0, .int .i64 2]) ∧ Below w.heap.size w w' := by
  cases hmay : may h l with
  | false =>
    have Hm := Lib.hid hmay
    obtain ⟨ph, ch, rfl, rh⟩ := id h1
    obtain ⟨pl, cl, rfl, rl⟩ := id h2
    have h1' := Lib.hid (h1.below (w' := w.alloc (.cells #[.slice ph h.length ch, .slice pl l.length cl] 24)) ((Below.refl _ _).alloc (Nat.le_refl _) _))
    have h2' := Lib.hid (h2.below (w' := w.alloc (.cells #[.slice ph h.length ch, .slice pl l.length cl] 24)) ((Below.refl _ _).alloc (Nat.le_refl _) _))
    clear h1 h2 rh rl hm hmay
    go_enter Try.func29, Try.ntmps29
    go_wp2_with fail
    refine (may_any _ _ _ h l h1'.out h2'.out).mono ?_
    rintro e w1 ⟨rfl, hb⟩
    rw [Hm.out]
    obtain ⟨X, d, rfl⟩ := below_ext hb
    clear hb
    go_wp2_with fail
    go_ret2
    exact ⟨rfl, by repeat (first | (with_reducible exact Below.refl _ _) | (with_reducible assumption) | (with_reducible refine below_drewN ?_ _) | (with_reducible refine Below.drew ?_) | (with_reducible refine below_ext_of ?_ (by first | exact Nat.le_refl _ | assumption | (simp only [World.size_alloc, World.size_setCell, size_ext, World.heap_drewN]; omega)) _ _) | (with_reducible refine Below.alloc ?_ (by first | exact Nat.le_refl _ | assumption | (simp only [World.size_alloc, World.size_setCell, size_ext, World.heap_drewN]; omega)) _) | (with_reducible refine Below.setCell ?_ (by first | exact Nat.le_refl _ | assumption | (simp only [World.size_alloc, World.size_setCell, size_ext, World.heap_drewN]; omega)) _))⟩
  | true =>
    have hn : n < 0 := by
      rcases hm with h | h
      · rw [hmay] at h; cases h
      · exact h
    have d1 := decide_eq_true hn
    have Hm := Lib.hid hmay
    obtain ⟨ph, ch, rfl, rh⟩ := id h1
    obtain ⟨pl, cl, rfl, rl⟩ := id h2
    have h1' := Lib.hid (h1.below (w' := w.alloc (.cells #[.slice ph h.length ch, .slice pl l.length cl] 24)) ((Below.refl _ _).alloc (Nat.le_refl _) _))
    have h2' := Lib.hid (h2.below (w' := w.alloc (.cells #[.slice ph h.length ch, .slice pl l.length cl] 24)) ((Below.refl _ _).alloc (Nat.le_refl _) _))
    clear h1 h2 rh rl hm hmay
    go_enter Try.func29, Try.ntmps29
    go_wp2_with fail
    refine (may_any _ _ _ h l h1'.out h2'.out).mono ?_
    rintro e w1 ⟨rfl, hb⟩
    rw [Hm.out]
    obtain ⟨X, d, rfl⟩ := below_ext hb
    clear hb
    go_wp2_with fail
    go_ret2
    exact ⟨rfl, by repeat (first | (with_reducible exact Below.refl _ _) | (with_reducible assumption) | (with_reducible refine below_drewN ?_ _) | (with_reducible refine Below.drew ?_) | (with_reducible refine below_ext_of ?_ (by first | exact Nat.le_refl _ | assumption | (simp only [World.size_alloc, World.size_setCell, size_ext, World.heap_drewN]; omega)) _ _) | (with_reducible refine Below.alloc ?_ (by first | exact Nat.le_refl _ | assumption | (simp only [World.size_alloc, World.size_setCell, size_ext, World.heap_drewN]; omega)) _) | (with_reducible refine Below.setCell ?_ (by first | exact Nat.le_refl _ | assumption | (simp only [World.size_alloc, World.size_setCell, size_ext, World.heap_drewN]; omega)) _))⟩
set_option maxHeartbeats 1000000 in
theorem At_ok (w : World) (vh vl : Value) (h l : List Int) (n : Nat) (h1 : RowAt w vh h) (h2 : RowAt w vl l) (hm : may h l = true) (hn : n < 9223372036854775808) : Calls Try.prog 29 #[.agg #[vh, vl], .int .i64 n] w fun e w' => e = .returned (.tuple #[.int .i64 (num h l n), .int .i64 0]) ∧ Below w.heap.size w w' := by
  have hml : 0 < l.length ∧ h.length < 9223372036854775808 := by
    unfold may at hm
    simp only [Bool.and_eq_true, decide_eq_true_eq] at hm
    omega
  have d0 : ¬ ((n : Int) < 0) := by omega
  have d1 := decide_eq_false d0
  have Hm := Lib.hid hm
  obtain ⟨ph, ch, rfl, rh⟩ := id h1
  obtain ⟨pl, cl, rfl, rl⟩ := id h2
  have h1' := Lib.hid (h1.below (w' := w.alloc (.cells #[.slice ph h.length ch, .slice pl l.length cl] 24)) ((Below.refl _ _).alloc (Nat.le_refl _) _))
  have h2' := Lib.hid (h2.below (w' := w.alloc (.cells #[.slice ph h.length ch, .slice pl l.length cl] 24)) ((Below.refl _ _).alloc (Nat.le_refl _) _))
  clear h1 h2 rh rl hm
  go_enter Try.func29, Try.ntmps29
  go_wp2_with fail
  refine (may_any _ _ _ h l h1'.out h2'.out).mono ?_
  rintro e w1 ⟨rfl, hb⟩
  rw [Hm.out]
  obtain ⟨X, d, rfl⟩ := below_ext hb
  clear hb
  go_wp2_with fail
  refine (at_any _ _ _ h l n (h1'.out.below (ext_below _ _ _)) (h2'.out.below (ext_below _ _ _)) hml.1 hn hml.2).mono ?_
  rintro e w1 ⟨rfl, hb⟩
  obtain ⟨X1, d1, rfl⟩ := below_ext hb
  clear hb
  go_wp2_with fail
  go_ret2
  exact ⟨rfl, by repeat (first | (with_reducible exact Below.refl _ _) | (with_reducible assumption) | (with_reducible refine below_drewN ?_ _) | (with_reducible refine Below.drew ?_) | (with_reducible refine below_ext_of ?_ (by first | exact Nat.le_refl _ | assumption | (simp only [World.size_alloc, World.size_setCell, size_ext, World.heap_drewN]; omega)) _ _) | (with_reducible refine Below.alloc ?_ (by first | exact Nat.le_refl _ | assumption | (simp only [World.size_alloc, World.size_setCell, size_ext, World.heap_drewN]; omega)) _) | (with_reducible refine Below.setCell ?_ (by first | exact Nat.le_refl _ | assumption | (simp only [World.size_alloc, World.size_setCell, size_ext, World.heap_drewN]; omega)) _))⟩
theorem take_snoc_eq (xs ys : List Int) (i : Nat) (h1 : i < xs.length) (h2 : i < ys.length) (h : xs.take i = ys.take i) (he : at_ xs i = at_ ys i) : xs.take (i + 1) = ys.take (i + 1) := by
  rw [List.take_succ_eq_append_getElem h1, List.take_succ_eq_append_getElem h2, h, ← at_eq xs i h1, ← at_eq ys i h2, he]
def intOf : Value → Int
  | .int _ i => i
  | _ => 0
set_option maxHeartbeats 2000000 in
theorem equal_any (w : World) (v1 v2 : Value) (xs ys : List Int) (h1 : RowAt w v1 xs) (h2 : RowAt w v2 ys) : Calls Try.prog 47 #[v1, v2] w fun e w' => e = .returned (.bool (decide (xs = ys))) ∧ Below w.heap.size w w' := by
  obtain ⟨p1, c1, rfl, l1, m1, _, r1⟩ := h1
  obtain ⟨p2, c2, rfl, _, _, _, r2⟩ := h2
  by_cases hl : xs.length = ys.length
  · rw [← hl]
    rw [← hl] at r2
    obtain ⟨n, hn⟩ : ∃ n, n = xs.length := ⟨_, rfl⟩
    rw [← hn] at r1 r2 l1 m1 ⊢
    have HN := Lib.hid hn
    have HL := Lib.hid hl
    have R1 := Lib.hid r1
    have R2 := Lib.hid r2
    have hnm : n < 9223372036854775808 := by unfold maxLen at m1; omega
    clear r1 r2 hn hl l1 m1
    go_enter Try.func47, Try.ntmps47
    go_wp2_with fail
    go_loopw [13] (fun i wr => ∃ (k : Nat) (d : Nat), i = .int .i64 (k : Int) ∧ k ≤ n ∧ Hid (xs.take k = ys.take k) ∧ wr = ext w #[] d) (fun i _ => n - (intOf i).toNat)
    case atStart => exact ⟨0, w.drawn, rfl, by omega, Lib.hid (by simp), (ext_nil w).symm⟩
    case round =>
    obtain ⟨k, d, rfl, hk, hT, rfl⟩ := hrel
    by_cases hkn : k < n
    · have e1 : (k : Int) < n := by omega
      have e2 := decide_eq_true e1
      have e3 : (0 : Int) ≤ k := by omega
      have e4 : IntKind.i64.wrap ((k : Int) + 1) = (k : Int) + 1 := by rw [IntKind.wrap_i64]; omega
      obtain ⟨g1, o1, rfl, hg1, hi1⟩ := R1.out (by omega)
      obtain ⟨g2, o2, rfl, hg2, hi2⟩ := R2.out (by omega)
      have s1 := hi1 k (by have := HN.out; omega)
      have s2 := hi2 k (by have := HN.out; have := HL.out; omega)
      by_cases he : at_ xs k = at_ ys k
      · have e5 : (at_ xs k != at_ ys k) = false := by simpa using he
        have e6 : (at_ xs k == at_ ys k) = true := by simpa using he
        rw [← he] at s2
        have hT2 : Hid (xs.take (k + 1) = ys.take (k + 1)) := Lib.hid (take_snoc_eq xs ys k (by have := HN.out; omega) (by have := HN.out; have := HL.out; omega) hT.out he)
        clear hi1 hi2 e5 e6 he
        generalize at_ xs k = x at *
        go_wp2_with fail
        go_region
        go_wp2_with fail
        go_roundw
        case measure =>
          simp only [intOf, Int.toNat_natCast]
          omega
        case rel => exact ⟨k + 1, _, rfl, by omega, hT2, rfl⟩
      · have e5 : (at_ xs k != at_ ys k) = true := bne_iff_ne.2 he
        have e6 : (at_ xs k == at_ ys k) = false := beq_false_of_ne he
        have H : Hid (false = decide (xs = ys)) := Lib.hid (decide_eq_false (fun e => he (by rw [e]))).symm
        clear hi1 hi2 he
        generalize at_ xs k = x at *
        generalize at_ ys k = y at *
        go_wp2_with fail
        go_region
        go_wp2_with fail
        go_ret
        exact ⟨ret_b H.out, ext_below _ _ _⟩
    · have e1 : ¬ ((k : Int) < n) := by omega
      have e2 := decide_eq_false e1
      have H : Hid (true = decide (xs = ys)) := Lib.hid (decide_eq_true (by
        have h := hT.out
        have := HN.out
        have := HL.out
        rwa [List.take_of_length_le (by omega), List.take_of_length_le (by omega)] at h)).symm
      go_wp2_with fail
      go_ret
      exact ⟨ret_b H.out, ext_below _ _ _⟩
  · have e1 : ((xs.length : Int) != (ys.length : Int)) = true := bne_iff_ne.2 (by omega)
    have e2 : ((xs.length : Int) == (ys.length : Int)) = false := beq_false_of_ne (by omega)
    have e3 : ¬ ((xs.length : Int) = (ys.length : Int)) := by omega
    have H : Hid (false = decide (xs = ys)) := Lib.hid (decide_eq_false (fun e => hl (by rw [e]))).symm
    clear r1 r2 l1 m1
    go_enter Try.func47, Try.ntmps47
    go_wp2_with fail
    go_ret
    exact ⟨ret_b H.out, by repeat (first | (with_reducible exact Below.refl _ _) | (with_reducible assumption) | (with_reducible refine below_drewN ?_ _) | (with_reducible refine Below.drew ?_) | (with_reducible refine below_ext_of ?_ (by first | exact Nat.le_refl _ | assumption | (simp only [World.size_alloc, World.size_setCell, size_ext, World.heap_drewN]; omega)) _ _) | (with_reducible refine Below.alloc ?_ (by first | exact Nat.le_refl _ | assumption | (simp only [World.size_alloc, World.size_setCell, size_ext, World.heap_drewN]; omega)) _) | (with_reducible refine Below.setCell ?_ (by first | exact Nat.le_refl _ | assumption | (simp only [World.size_alloc, World.size_setCell, size_ext, World.heap_drewN]; omega)) _))⟩
end Go.Proofs.Ytpcnapmlmhhcpaa
