/-
  deps.At at all; carillonref13.May: contracts.
  Conditions: the dep's rows lie in memory; a place is an int64.
-/
import Derived.Test.YtkabmpbfabgkfaaDi2
import Derived.LoopTactic
set_option linter.unusedVariables false
set_option linter.unusedSimpArgs false
namespace Go.Proofs.Ytkabmpbfabgkfaa.P
open Go.RowKit Go.Shelf Go.Proofs.YtkabmpbfabgkfaaW.PrintWords Go.Proofs.YtkabmpbfabgkfaaW.PrintLast Go.Proofs.YtkabmpbfabgkfaaW.PrintMore
attribute [local go_sem] setCell_drewN alloc_drewN size_ext ext_ext ext_drewN ext_drew drewN_ext drew_ext cell?_ext frozen?_ext setCell_ext cell?_past1 frozen?_past1 setCell_past1 cell?_past2 frozen?_past2 setCell_past2 cell?_past3 frozen?_past3 setCell_past3 cell?_past4 frozen?_past4 setCell_past4 cell?_past5 frozen?_past5 setCell_past5 cell?_past6 frozen?_past6 setCell_past6 cell?_past7 frozen?_past7 setCell_past7 cell?_past8 frozen?_past8 setCell_past8

theorem At_any (A0 A1 : Option Addr) (c0 c1 : Nat) (h l : List S79) (st : Int) (n : Int) (w : World) (hn : n ≤ 9223372036854775807) (hr0 : Kd.C k79 w A0 h.length h) (hr1 : Kd.C k79 w A1 l.length l) :
    Calls Try.prog 31 #[.agg #[.slice A0 h.length c0, .slice A1 l.length c1, .int .i64 st], .int .i64 n] w fun e w' => e = .returned (.tuple #[.agg #[.bool (atD h l st n).1, .int .i64 (atD h l st n).2.1, .int .i64 (atD h l st n).2.2.1], .int .i64 (atD h l st n).2.2.2]) ∧ Below w.heap.size w w' := by
  by_cases hm : mayD h l st = true ∧ 0 ≤ n
  · obtain ⟨n, rfl⟩ : ∃ k : Nat, n = (k : Int) := ⟨n.toNat, by omega⟩
    by_cases hlt : n < h.length
    · refine (At_head A0 A1 c0 c1 h l st n w hm.1 hlt hr0 hr1).mono ?_
      rintro e w' ⟨rfl, hb⟩
      refine ⟨?_, hb⟩
      unfold atD
      rw [if_pos hm, if_pos (by omega)]
    · refine (At_loop A0 A1 c0 c1 h l st n w hm.1 (by omega) (by omega) hr0 hr1).mono ?_
      rintro e w' ⟨rfl, hb⟩
      refine ⟨?_, hb⟩
      unfold atD atVal
      rw [if_pos hm, if_neg (show ¬ ((n : Int) < (h.length : Int)) by omega)]
      have e1 : ((n : Int) - (h.length : Int)) = ((n - h.length : Nat) : Int) := by omega
      rw [e1]
      have e2 : (((n - h.length : Nat) : Int) / (l.length : Int)) = (((n - h.length) / l.length : Nat) : Int) := by simp
      have e3 : (((n - h.length : Nat) : Int) % (l.length : Int)) = (((n - h.length) % l.length : Nat) : Int) := by simp
      rw [e2, e3]
      by_cases hc : fitB (st * (((n - h.length) / l.length : Nat) : Int)) = true ∧ fitB ((rd_T79 l (((n - h.length) % l.length : Nat) : Int)).f2 + st * (((n - h.length) / l.length : Nat) : Int)) = true
      · rw [if_pos hc, if_pos hc]
      · rw [if_neg hc, if_neg hc]
  · refine (At_no A0 A1 c0 c1 h l st n w ?_ hr0 hr1).mono ?_
    · cases hd : mayD h l st with
      | false => exact .inl rfl
      | true => exact .inr (by rcases Int.lt_or_le n 0 with h | h; exact h; exact absurd ⟨hd, h⟩ hm)
    · rintro e w' ⟨rfl, hb⟩
      refine ⟨?_, hb⟩
      unfold atD
      rw [if_neg hm]
theorem ret_bb {x y : Bool} (h : x = y) : Ending.returned (.bool x) = Ending.returned (.bool y) := by rw [h]
theorem ext_below_2 (w : World) (o o2 : Obj) (X : Array Obj) (d : Nat) : Below w.heap.size w ((ext (w.alloc o) X d).alloc o2) := by repeat (first | (with_reducible exact Below.refl _ _) | (with_reducible assumption) | (with_reducible refine below_drewN ?_ _) | (with_reducible refine Below.drew ?_) | (with_reducible refine below_ext_of ?_ (by first | exact Nat.le_refl _ | assumption | (simp only [World.size_alloc, World.size_setCell, size_ext, World.heap_drewN]; omega)) _ _) | (with_reducible refine Below.alloc ?_ (by first | exact Nat.le_refl _ | assumption | (simp only [World.size_alloc, World.size_setCell, size_ext, World.heap_drewN]; omega)) _) | (with_reducible refine Below.setCell ?_ (by first | exact Nat.le_refl _ | assumption | (simp only [World.size_alloc, World.size_setCell, size_ext, World.heap_drewN]; omega)) _))
set_option maxRecDepth 100000 in
set_option maxHeartbeats 4000000 in
theorem RMay_no (A0 A1 : Option Addr) (c0 c1 : Nat) (h l : List S79) (st : Int) (w : World) (hm : l.length < 1 ∨ 4096 < l.length ∨ 4096 < h.length ∨ st < 0 ∨ 1099511627776 < st) :
    Calls Try.prog 51 #[.agg #[.slice A0 h.length c0, .slice A1 l.length c1, .int .i64 st]] w fun e W' => e = .returned (.bool false) ∧ Below w.heap.size w W' := by
  obtain ⟨n0, hn0⟩ : ∃ n0, n0 = h.length := ⟨_, rfl⟩
  obtain ⟨n1, hn1⟩ : ∃ n1, n1 = l.length := ⟨_, rfl⟩
  rw [← hn0, ← hn1] at hm ⊢
  clear hn0 hn1
  by_cases t0 : (n1 : Int) < 1
  · clear hm
    have g0 : (n1 : Int) < 1 := by omega
    have G0 : decide ((n1 : Int) < 1) = true := decide_eq_true g0
    go_enter Try.func51, Try.ntmps51
    go_wp2_with fail
    go_ret
    exact ⟨rfl, by repeat (first | (with_reducible exact Below.refl _ _) | (with_reducible assumption) | (with_reducible refine below_drewN ?_ _) | (with_reducible refine Below.drew ?_) | (with_reducible refine below_ext_of ?_ (by first | exact Nat.le_refl _ | assumption | (simp only [World.size_alloc, World.size_setCell, size_ext, World.heap_drewN]; omega)) _ _) | (with_reducible refine Below.alloc ?_ (by first | exact Nat.le_refl _ | assumption | (simp only [World.size_alloc, World.size_setCell, size_ext, World.heap_drewN]; omega)) _) | (with_reducible refine Below.setCell ?_ (by first | exact Nat.le_refl _ | assumption | (simp only [World.size_alloc, World.size_setCell, size_ext, World.heap_drewN]; omega)) _))⟩
  · skip
    by_cases t1 : (4096 : Int) < n1
    · clear hm
      have g0 : ¬ ((n1 : Int) < 1) := by omega
      have G0 : decide ((n1 : Int) < 1) = false := decide_eq_false g0
      have g1 : (4096 : Int) < n1 := by omega
      have G1 : decide ((4096 : Int) < n1) = true := decide_eq_true g1
      go_enter Try.func51, Try.ntmps51
      go_wp2_with fail
      go_ret
      exact ⟨rfl, by repeat (first | (with_reducible exact Below.refl _ _) | (with_reducible assumption) | (with_reducible refine below_drewN ?_ _) | (with_reducible refine Below.drew ?_) | (with_reducible refine below_ext_of ?_ (by first | exact Nat.le_refl _ | assumption | (simp only [World.size_alloc, World.size_setCell, size_ext, World.heap_drewN]; omega)) _ _) | (with_reducible refine Below.alloc ?_ (by first | exact Nat.le_refl _ | assumption | (simp only [World.size_alloc, World.size_setCell, size_ext, World.heap_drewN]; omega)) _) | (with_reducible refine Below.setCell ?_ (by first | exact Nat.le_refl _ | assumption | (simp only [World.size_alloc, World.size_setCell, size_ext, World.heap_drewN]; omega)) _))⟩
    · skip
      by_cases t2 : (4096 : Int) < n0
      · clear hm
        have g0 : ¬ ((n1 : Int) < 1) := by omega
        have G0 : decide ((n1 : Int) < 1) = false := decide_eq_false g0
        have g1 : ¬ ((4096 : Int) < n1) := by omega
        have G1 : decide ((4096 : Int) < n1) = false := decide_eq_false g1
        have g2 : (4096 : Int) < n0 := by omega
        have G2 : decide ((4096 : Int) < n0) = true := decide_eq_true g2
        go_enter Try.func51, Try.ntmps51
        go_wp2_with fail
        go_ret
        exact ⟨rfl, by repeat (first | (with_reducible exact Below.refl _ _) | (with_reducible assumption) | (with_reducible refine below_drewN ?_ _) | (with_reducible refine Below.drew ?_) | (with_reducible refine below_ext_of ?_ (by first | exact Nat.le_refl _ | assumption | (simp only [World.size_alloc, World.size_setCell, size_ext, World.heap_drewN]; omega)) _ _) | (with_reducible refine Below.alloc ?_ (by first | exact Nat.le_refl _ | assumption | (simp only [World.size_alloc, World.size_setCell, size_ext, World.heap_drewN]; omega)) _) | (with_reducible refine Below.setCell ?_ (by first | exact Nat.le_refl _ | assumption | (simp only [World.size_alloc, World.size_setCell, size_ext, World.heap_drewN]; omega)) _))⟩
      · skip
        by_cases t3 : st < 0
        · clear hm
          have g0 : ¬ ((n1 : Int) < 1) := by omega
          have G0 : decide ((n1 : Int) < 1) = false := decide_eq_false g0
          have g1 : ¬ ((4096 : Int) < n1) := by omega
          have G1 : decide ((4096 : Int) < n1) = false := decide_eq_false g1
          have g2 : ¬ ((4096 : Int) < n0) := by omega
          have G2 : decide ((4096 : Int) < n0) = false := decide_eq_false g2
          have g3 : st < 0 := by omega
          have G3 : decide (st < 0) = true := decide_eq_true g3
          go_enter Try.func51, Try.ntmps51
          go_wp2_with fail
          go_ret
          exact ⟨rfl, by repeat (first | (with_reducible exact Below.refl _ _) | (with_reducible assumption) | (with_reducible refine below_drewN ?_ _) | (with_reducible refine Below.drew ?_) | (with_reducible refine below_ext_of ?_ (by first | exact Nat.le_refl _ | assumption | (simp only [World.size_alloc, World.size_setCell, size_ext, World.heap_drewN]; omega)) _ _) | (with_reducible refine Below.alloc ?_ (by first | exact Nat.le_refl _ | assumption | (simp only [World.size_alloc, World.size_setCell, size_ext, World.heap_drewN]; omega)) _) | (with_reducible refine Below.setCell ?_ (by first | exact Nat.le_refl _ | assumption | (simp only [World.size_alloc, World.size_setCell, size_ext, World.heap_drewN]; omega)) _))⟩
        · skip
          by_cases t4 : (1099511627776 : Int) < st
          · clear hm
            have g0 : ¬ ((n1 : Int) < 1) := by omega
            have G0 : decide ((n1 : Int) < 1) = false := decide_eq_false g0
            have g1 : ¬ ((4096 : Int) < n1) := by omega
            have G1 : decide ((4096 : Int) < n1) = false := decide_eq_false g1
            have g2 : ¬ ((4096 : Int) < n0) := by omega
            have G2 : decide ((4096 : Int) < n0) = false := decide_eq_false g2
            have g3 : ¬ (st < 0) := by omega
            have G3 : decide (st < 0) = false := decide_eq_false g3
            have g4 : (1099511627776 : Int) < st := by omega
            have G4 : decide ((1099511627776 : Int) < st) = true := decide_eq_true g4
            go_enter Try.func51, Try.ntmps51
            go_wp2_with fail
            go_ret
            exact ⟨rfl, by repeat (first | (with_reducible exact Below.refl _ _) | (with_reducible assumption) | (with_reducible refine below_drewN ?_ _) | (with_reducible refine Below.drew ?_) | (with_reducible refine below_ext_of ?_ (by first | exact Nat.le_refl _ | assumption | (simp only [World.size_alloc, World.size_setCell, size_ext, World.heap_drewN]; omega)) _ _) | (with_reducible refine Below.alloc ?_ (by first | exact Nat.le_refl _ | assumption | (simp only [World.size_alloc, World.size_setCell, size_ext, World.heap_drewN]; omega)) _) | (with_reducible refine Below.setCell ?_ (by first | exact Nat.le_refl _ | assumption | (simp only [World.size_alloc, World.size_setCell, size_ext, World.heap_drewN]; omega)) _))⟩
          · omega
set_option maxRecDepth 100000 in
set_option maxHeartbeats 16000000 in
theorem RMay_walk (A0 A1 : Option Addr) (c0 c1 : Nat) (h l : List S79) (st : Int) (w : World) (hm : ¬ (l.length < 1 ∨ 4096 < l.length ∨ 4096 < h.length ∨ st < 0 ∨ 1099511627776 < st))
    (hr0 : Kd.C k79 w A0 h.length h) (hr1 : Kd.C k79 w A1 l.length l) :
    Calls Try.prog 51 #[.agg #[.slice A0 h.length c0, .slice A1 l.length c1, .int .i64 st]] w fun e W' => e = .returned (.bool (allMay h.length (upto (srcs h l) (h.length + l.length)))) ∧ Below w.heap.size w W' := by
  have HR0 := Lib.hid hr0
  have HR1 := Lib.hid hr1
  obtain ⟨n0, hn0⟩ : ∃ n0, n0 = h.length := ⟨_, rfl⟩
  obtain ⟨n1, hn1⟩ : ∃ n1, n1 = l.length := ⟨_, rfl⟩
  rw [← hn0, ← hn1] at hm ⊢
  have HN0 := Lib.hid hn0
  have HN1 := Lib.hid hn1
  clear hn0 hn1 hr0 hr1
  have g0 : ¬ ((n1 : Int) < 1) := by omega
  have G0 : decide ((n1 : Int) < 1) = false := decide_eq_false g0
  have g1 : ¬ ((4096 : Int) < n1) := by omega
  have G1 : decide ((4096 : Int) < n1) = false := decide_eq_false g1
  have g2 : ¬ ((4096 : Int) < n0) := by omega
  have G2 : decide ((4096 : Int) < n0) = false := decide_eq_false g2
  have g3 : ¬ (st < 0) := by omega
  have G3 : decide (st < 0) = false := decide_eq_false g3
  have g4 : ¬ ((1099511627776 : Int) < st) := by omega
  have G4 : decide ((1099511627776 : Int) < st) = false := decide_eq_false g4
  have hs1 : n1 ≤ 4096 := by omega
  have hs0 : n0 ≤ 4096 := by omega
  clear hm
  go_enter Try.func51, Try.ntmps51
  go_wp2_with fail
  go_loopw [3] (fun s wr => ∃ (i : Nat) (X : Array Obj) (d : Nat), s = .int .i64 (i : Int) ∧ i ≤ n0 + n1 ∧ Hid (allMay n0 (upto (srcs h l) i) = true) ∧ wr = ext (w.alloc (.cells #[.slice A0 n0 c0, .slice A1 n1 c1, .int .i64 st] 67)) X d) (fun s _ => n0 + n1 - (intOf s).toNat)
  case atStart => exact ⟨0, #[], _, rfl, by omega, Lib.hid rfl, (ext_nil _).symm⟩
  case round =>
    obtain ⟨i, X, d, rfl, hi, HA, rfl⟩ := hrel
    have e0 : IntKind.i64.wrap ((n0 : Int) + n1) = (n0 : Int) + n1 := by rw [IntKind.wrap_i64]; omega
    by_cases hlt : i < n0 + n1
    · have e1 : (i : Int) < (n0 : Int) + n1 := by omega
      have e2 := decide_eq_true e1
      have e3 : (0 : Int) ≤ i := by omega
      have e4 : IntKind.i64.wrap ((i : Int) + 1) = (i : Int) + 1 := by rw [IntKind.wrap_i64]; omega
      by_cases hin : i < n0
      · have f1' : (i : Int) < n0 := by omega
        have f2' := decide_eq_true f1'
        obtain ⟨ad, rfl, s0, s1, s2⟩ := at_T79 (Kd.C_below HR0.out (ext_below_2 w (.cells #[.slice A0 n0 c0, .slice A1 n1 c1, .int .i64 st] 67) (.cells #[.bool false, .int .i64 0, .int .i64 0] 79) X d)) i (by omega) (by have := HN0.out; have := HN1.out; omega)
        rw [Int.toNat_natCast] at s0 s1 s2
        obtain ⟨y, hy⟩ : ∃ y, y = rd_T79 h (i : Nat) := ⟨_, rfl⟩
        have HSR : Hid (srcs h l i = (i, y)) := Lib.hid (by rw [hy]; exact srcs_head h l i (by have := HN0.out; omega))
        rw [← hy] at s0 s1 s2
        clear hy
        obtain ⟨f0, f1, f2⟩ := y
        dsimp only at s0 s1 s2
        by_cases a1 : f2 < 0
        · have d1 := decide_eq_true a1
          have hv : mayS n0 (i, ⟨f0, f1, f2⟩) = false := by simp [mayS, a1]
          have hres : Hid (false = allMay n0 (upto (srcs h l) (n0 + n1))) := Lib.hid (all_less (show i + 1 ≤ n0 + n1 by omega) ((by rw [upto_succ]; exact all_snoc HA.out : allMay n0 (upto (srcs h l) (i + 1)) = mayS n0 (srcs h l i)).trans (by rw [HSR.out]; exact hv))).symm
          go_wp2_with fail
          go_ret
          exact ⟨ret_bb hres.out, by repeat (first | (with_reducible exact Below.refl _ _) | (with_reducible assumption) | (with_reducible refine below_drewN ?_ _) | (with_reducible refine Below.drew ?_) | (with_reducible refine below_ext_of ?_ (by first | exact Nat.le_refl _ | assumption | (simp only [World.size_alloc, World.size_setCell, size_ext, World.heap_drewN]; omega)) _ _) | (with_reducible refine Below.alloc ?_ (by first | exact Nat.le_refl _ | assumption | (simp only [World.size_alloc, World.size_setCell, size_ext, World.heap_drewN]; omega)) _) | (with_reducible refine Below.setCell ?_ (by first | exact Nat.le_refl _ | assumption | (simp only [World.size_alloc, World.size_setCell, size_ext, World.heap_drewN]; omega)) _))⟩
        have d1 := decide_eq_false a1
        by_cases a2 : (1125899906842624 : Int) < f2
        · have d2 := decide_eq_true a2
          have hv : mayS n0 (i, ⟨f0, f1, f2⟩) = false := by simp [mayS, a2]
          have hres : Hid (false = allMay n0 (upto (srcs h l) (n0 + n1))) := Lib.hid (all_less (show i + 1 ≤ n0 + n1 by omega) ((by rw [upto_succ]; exact all_snoc HA.out : allMay n0 (upto (srcs h l) (i + 1)) = mayS n0 (srcs h l i)).trans (by rw [HSR.out]; exact hv))).symm
          go_wp2_with fail
          go_ret
          exact ⟨ret_bb hres.out, by repeat (first | (with_reducible exact Below.refl _ _) | (with_reducible assumption) | (with_reducible refine below_drewN ?_ _) | (with_reducible refine Below.drew ?_) | (with_reducible refine below_ext_of ?_ (by first | exact Nat.le_refl _ | assumption | (simp only [World.size_alloc, World.size_setCell, size_ext, World.heap_drewN]; omega)) _ _) | (with_reducible refine Below.alloc ?_ (by first | exact Nat.le_refl _ | assumption | (simp only [World.size_alloc, World.size_setCell, size_ext, World.heap_drewN]; omega)) _) | (with_reducible refine Below.setCell ?_ (by first | exact Nat.le_refl _ | assumption | (simp only [World.size_alloc, World.size_setCell, size_ext, World.heap_drewN]; omega)) _))⟩
        have d2 := decide_eq_false a2
        cases f0 with
        | true =>
          by_cases a3 : f2 = 0
          · subst a3
            have a4 : ¬ (n0 ≤ i) := by omega
            have d5 : decide ((i : Int) ≥ (n0 : Int)) = false := decide_eq_false (by omega)
            have d6 : ¬ ((n0 : Int) ≤ i) := by omega
            have hv : mayS n0 (i, ⟨true, f1, 0⟩) = true := by simp [mayS, a4]
            go_wp2_with fail
            go_roundw
            case measure =>
              simp only [intOf, Int.toNat_natCast]
              omega
            case rel =>
              exact ⟨i + 1, _, _, rfl, by omega, Lib.hid ((by rw [upto_succ]; exact all_snoc HA.out : allMay n0 (upto (srcs h l) (i + 1)) = mayS n0 (srcs h l i)).trans (by rw [HSR.out]; exact hv)), alloc_ext _ _ _ _⟩
          · have d3 : (f2 == 0) = false := by simpa using a3
            have d4 : (f2 != 0) = true := by simpa using a3
            have hv : mayS n0 (i, ⟨true, f1, f2⟩) = false := by simp [mayS, a3]
            have hres : Hid (false = allMay n0 (upto (srcs h l) (n0 + n1))) := Lib.hid (all_less (show i + 1 ≤ n0 + n1 by omega) ((by rw [upto_succ]; exact all_snoc HA.out : allMay n0 (upto (srcs h l) (i + 1)) = mayS n0 (srcs h l i)).trans (by rw [HSR.out]; exact hv))).symm
            go_wp2_with fail
            go_ret
            exact ⟨ret_bb hres.out, by repeat (first | (with_reducible exact Below.refl _ _) | (with_reducible assumption) | (with_reducible refine below_drewN ?_ _) | (with_reducible refine Below.drew ?_) | (with_reducible refine below_ext_of ?_ (by first | exact Nat.le_refl _ | assumption | (simp only [World.size_alloc, World.size_setCell, size_ext, World.heap_drewN]; omega)) _ _) | (with_reducible refine Below.alloc ?_ (by first | exact Nat.le_refl _ | assumption | (simp only [World.size_alloc, World.size_setCell, size_ext, World.heap_drewN]; omega)) _) | (with_reducible refine Below.setCell ?_ (by first | exact Nat.le_refl _ | assumption | (simp only [World.size_alloc, World.size_setCell, size_ext, World.heap_drewN]; omega)) _))⟩
        | false =>
          by_cases a3 : f1 = 0
          · subst a3
            have hv : mayS n0 (i, ⟨false, 0, f2⟩) = true := by simp [mayS, a1, a2]
            go_wp2_with fail
            go_roundw
            case measure =>
              simp only [intOf, Int.toNat_natCast]
              omega
            case rel =>
              exact ⟨i + 1, _, _, rfl, by omega, Lib.hid ((by rw [upto_succ]; exact all_snoc HA.out : allMay n0 (upto (srcs h l) (i + 1)) = mayS n0 (srcs h l i)).trans (by rw [HSR.out]; exact hv)), alloc_ext _ _ _ _⟩
          · have d3 : (f1 == 0) = false := by simpa using a3
            have d4 : (f1 != 0) = true := by simpa using a3
            have hv : mayS n0 (i, ⟨false, f1, f2⟩) = false := by simp [mayS, a3]
            have hres : Hid (false = allMay n0 (upto (srcs h l) (n0 + n1))) := Lib.hid (all_less (show i + 1 ≤ n0 + n1 by omega) ((by rw [upto_succ]; exact all_snoc HA.out : allMay n0 (upto (srcs h l) (i + 1)) = mayS n0 (srcs h l i)).trans (by rw [HSR.out]; exact hv))).symm
            go_wp2_with fail
            go_ret
            exact ⟨ret_bb hres.out, by repeat (first | (with_reducible exact Below.refl _ _) | (with_reducible assumption) | (with_reducible refine below_drewN ?_ _) | (with_reducible refine Below.drew ?_) | (with_reducible refine below_ext_of ?_ (by first | exact Nat.le_refl _ | assumption | (simp only [World.size_alloc, World.size_setCell, size_ext, World.heap_drewN]; omega)) _ _) | (with_reducible refine Below.alloc ?_ (by first | exact Nat.le_refl _ | assumption | (simp only [World.size_alloc, World.size_setCell, size_ext, World.heap_drewN]; omega)) _) | (with_reducible refine Below.setCell ?_ (by first | exact Nat.le_refl _ | assumption | (simp only [World.size_alloc, World.size_setCell, size_ext, World.heap_drewN]; omega)) _))⟩
      · have f1' : ¬ ((i : Int) < n0) := by omega
        have f2' := decide_eq_false f1'
        obtain ⟨j, hj⟩ : ∃ j, j = i - n0 := ⟨_, rfl⟩
        have g1 : (i : Int) - n0 = (j : Int) := by omega
        have g2 : IntKind.i64.wrap ((i : Int) - n0) = (j : Int) := by rw [IntKind.wrap_i64]; omega
        have g3 : (0 : Int) ≤ j := by omega
        have g4 : (j : Int) < n1 := by omega
        have g5 : IntKind.i64.wrap (j : Int) = (j : Int) := by rw [IntKind.wrap_i64]; omega
        have HJ := Lib.hid hj
        clear hj
        obtain ⟨ad, rfl, s0, s1, s2⟩ := at_T79 (Kd.C_below HR1.out (ext_below_2 w (.cells #[.slice A0 n0 c0, .slice A1 n1 c1, .int .i64 st] 67) (.cells #[.bool false, .int .i64 0, .int .i64 0] 79) X d)) j (by omega) (by have := HN0.out; have := HN1.out; omega)
        rw [Int.toNat_natCast] at s0 s1 s2
        obtain ⟨y, hy⟩ : ∃ y, y = rd_T79 l (j : Nat) := ⟨_, rfl⟩
        have HSR : Hid (srcs h l i = (i, y)) := Lib.hid (by rw [hy]; have := srcs_loop h l j; rwa [show h.length + j = i by have := HN0.out; have := HJ.out; omega] at this)
        rw [← hy] at s0 s1 s2
        clear hy
        obtain ⟨f0, f1, f2⟩ := y
        dsimp only at s0 s1 s2
        by_cases a1 : f2 < 0
        · have d1 := decide_eq_true a1
          have hv : mayS n0 (i, ⟨f0, f1, f2⟩) = false := by simp [mayS, a1]
          have hres : Hid (false = allMay n0 (upto (srcs h l) (n0 + n1))) := Lib.hid (all_less (show i + 1 ≤ n0 + n1 by omega) ((by rw [upto_succ]; exact all_snoc HA.out : allMay n0 (upto (srcs h l) (i + 1)) = mayS n0 (srcs h l i)).trans (by rw [HSR.out]; exact hv))).symm
          go_wp2_with fail
          go_ret
          exact ⟨ret_bb hres.out, by repeat (first | (with_reducible exact Below.refl _ _) | (with_reducible assumption) | (with_reducible refine below_drewN ?_ _) | (with_reducible refine Below.drew ?_) | (with_reducible refine below_ext_of ?_ (by first | exact Nat.le_refl _ | assumption | (simp only [World.size_alloc, World.size_setCell, size_ext, World.heap_drewN]; omega)) _ _) | (with_reducible refine Below.alloc ?_ (by first | exact Nat.le_refl _ | assumption | (simp only [World.size_alloc, World.size_setCell, size_ext, World.heap_drewN]; omega)) _) | (with_reducible refine Below.setCell ?_ (by first | exact Nat.le_refl _ | assumption | (simp only [World.size_alloc, World.size_setCell, size_ext, World.heap_drewN]; omega)) _))⟩
        have d1 := decide_eq_false a1
        by_cases a2 : (1125899906842624 : Int) < f2
        · have d2 := decide_eq_true a2
          have hv : mayS n0 (i, ⟨f0, f1, f2⟩) = false := by simp [mayS, a2]
          have hres : Hid (false = allMay n0 (upto (srcs h l) (n0 + n1))) := Lib.hid (all_less (show i + 1 ≤ n0 + n1 by omega) ((by rw [upto_succ]; exact all_snoc HA.out : allMay n0 (upto (srcs h l) (i + 1)) = mayS n0 (srcs h l i)).trans (by rw [HSR.out]; exact hv))).symm
          go_wp2_with fail
          go_ret
          exact ⟨ret_bb hres.out, by repeat (first | (with_reducible exact Below.refl _ _) | (with_reducible assumption) | (with_reducible refine below_drewN ?_ _) | (with_reducible refine Below.drew ?_) | (with_reducible refine below_ext_of ?_ (by first | exact Nat.le_refl _ | assumption | (simp only [World.size_alloc, World.size_setCell, size_ext, World.heap_drewN]; omega)) _ _) | (with_reducible refine Below.alloc ?_ (by first | exact Nat.le_refl _ | assumption | (simp only [World.size_alloc, World.size_setCell, size_ext, World.heap_drewN]; omega)) _) | (with_reducible refine Below.setCell ?_ (by first | exact Nat.le_refl _ | assumption | (simp only [World.size_alloc, World.size_setCell, size_ext, World.heap_drewN]; omega)) _))⟩
        have d2 := decide_eq_false a2
        cases f0 with
        | true =>
          by_cases a3 : f2 = 0
          · subst a3
            have a4 : n0 ≤ i := by omega
            have d5 : decide ((i : Int) ≥ (n0 : Int)) = true := decide_eq_true (by omega)
            have d6 : (n0 : Int) ≤ i := by omega
            have hv : mayS n0 (i, ⟨true, f1, 0⟩) = false := by simp [mayS, a4]
            have hres : Hid (false = allMay n0 (upto (srcs h l) (n0 + n1))) := Lib.hid (all_less (show i + 1 ≤ n0 + n1 by omega) ((by rw [upto_succ]; exact all_snoc HA.out : allMay n0 (upto (srcs h l) (i + 1)) = mayS n0 (srcs h l i)).trans (by rw [HSR.out]; exact hv))).symm
            go_wp2_with fail
            go_ret
            exact ⟨ret_bb hres.out, by repeat (first | (with_reducible exact Below.refl _ _) | (with_reducible assumption) | (with_reducible refine below_drewN ?_ _) | (with_reducible refine Below.drew ?_) | (with_reducible refine below_ext_of ?_ (by first | exact Nat.le_refl _ | assumption | (simp only [World.size_alloc, World.size_setCell, size_ext, World.heap_drewN]; omega)) _ _) | (with_reducible refine Below.alloc ?_ (by first | exact Nat.le_refl _ | assumption | (simp only [World.size_alloc, World.size_setCell, size_ext, World.heap_drewN]; omega)) _) | (with_reducible refine Below.setCell ?_ (by first | exact Nat.le_refl _ | assumption | (simp only [World.size_alloc, World.size_setCell, size_ext, World.heap_drewN]; omega)) _))⟩
          · have d3 : (f2 == 0) = false := by simpa using a3
            have d4 : (f2 != 0) = true := by simpa using a3
            have hv : mayS n0 (i, ⟨true, f1, f2⟩) = false := by simp [mayS, a3]
            have hres : Hid (false = allMay n0 (upto (srcs h l) (n0 + n1))) := Lib.hid (all_less (show i + 1 ≤ n0 + n1 by omega) ((by rw [upto_succ]; exact all_snoc HA.out : allMay n0 (upto (srcs h l) (i + 1)) = mayS n0 (srcs h l i)).trans (by rw [HSR.out]; exact hv))).symm
            go_wp2_with fail
            go_ret
            exact ⟨ret_bb hres.out, by repeat (first | (with_reducible exact Below.refl _ _) | (with_reducible assumption) | (with_reducible refine below_drewN ?_ _) | (with_reducible refine Below.drew ?_) | (with_reducible refine below_ext_of ?_ (by first | exact Nat.le_refl _ | assumption | (simp only [World.size_alloc, World.size_setCell, size_ext, World.heap_drewN]; omega)) _ _) | (with_reducible refine Below.alloc ?_ (by first | exact Nat.le_refl _ | assumption | (simp only [World.size_alloc, World.size_setCell, size_ext, World.heap_drewN]; omega)) _) | (with_reducible refine Below.setCell ?_ (by first | exact Nat.le_refl _ | assumption | (simp only [World.size_alloc, World.size_setCell, size_ext, World.heap_drewN]; omega)) _))⟩
        | false =>
          by_cases a3 : f1 = 0
          · subst a3
            have hv : mayS n0 (i, ⟨false, 0, f2⟩) = true := by simp [mayS, a1, a2]
            go_wp2_with fail
            go_roundw
            case measure =>
              simp only [intOf, Int.toNat_natCast]
              omega
            case rel =>
              exact ⟨i + 1, _, _, rfl, by omega, Lib.hid ((by rw [upto_succ]; exact all_snoc HA.out : allMay n0 (upto (srcs h l) (i + 1)) = mayS n0 (srcs h l i)).trans (by rw [HSR.out]; exact hv)), alloc_ext _ _ _ _⟩
          · have d3 : (f1 == 0) = false := by simpa using a3
            have d4 : (f1 != 0) = true := by simpa using a3
            have hv : mayS n0 (i, ⟨false, f1, f2⟩) = false := by simp [mayS, a3]
            have hres : Hid (false = allMay n0 (upto (srcs h l) (n0 + n1))) := Lib.hid (all_less (show i + 1 ≤ n0 + n1 by omega) ((by rw [upto_succ]; exact all_snoc HA.out : allMay n0 (upto (srcs h l) (i + 1)) = mayS n0 (srcs h l i)).trans (by rw [HSR.out]; exact hv))).symm
            go_wp2_with fail
            go_ret
            exact ⟨ret_bb hres.out, by repeat (first | (with_reducible exact Below.refl _ _) | (with_reducible assumption) | (with_reducible refine below_drewN ?_ _) | (with_reducible refine Below.drew ?_) | (with_reducible refine below_ext_of ?_ (by first | exact Nat.le_refl _ | assumption | (simp only [World.size_alloc, World.size_setCell, size_ext, World.heap_drewN]; omega)) _ _) | (with_reducible refine Below.alloc ?_ (by first | exact Nat.le_refl _ | assumption | (simp only [World.size_alloc, World.size_setCell, size_ext, World.heap_drewN]; omega)) _) | (with_reducible refine Below.setCell ?_ (by first | exact Nat.le_refl _ | assumption | (simp only [World.size_alloc, World.size_setCell, size_ext, World.heap_drewN]; omega)) _))⟩
    · have e1 : ¬ ((i : Int) < (n0 : Int) + n1) := by omega
      have e2 := decide_eq_false e1
      obtain rfl : i = n0 + n1 := by omega
      go_wp2_with fail
      go_ret
      exact ⟨ret_bb HA.out.symm, by repeat (first | (with_reducible exact Below.refl _ _) | (with_reducible assumption) | (with_reducible refine below_drewN ?_ _) | (with_reducible refine Below.drew ?_) | (with_reducible refine below_ext_of ?_ (by first | exact Nat.le_refl _ | assumption | (simp only [World.size_alloc, World.size_setCell, size_ext, World.heap_drewN]; omega)) _ _) | (with_reducible refine Below.alloc ?_ (by first | exact Nat.le_refl _ | assumption | (simp only [World.size_alloc, World.size_setCell, size_ext, World.heap_drewN]; omega)) _) | (with_reducible refine Below.setCell ?_ (by first | exact Nat.le_refl _ | assumption | (simp only [World.size_alloc, World.size_setCell, size_ext, World.heap_drewN]; omega)) _))⟩
theorem RMay_any (A0 A1 : Option Addr) (c0 c1 : Nat) (h l : List S79) (st : Int) (w : World) (hr0 : Kd.C k79 w A0 h.length h) (hr1 : Kd.C k79 w A1 l.length l) :
    Calls Try.prog 51 #[.agg #[.slice A0 h.length c0, .slice A1 l.length c1, .int .i64 st]] w fun e W' => e = .returned (.bool (mayD h l st)) ∧ Below w.heap.size w W' := by
  by_cases hm : l.length < 1 ∨ 4096 < l.length ∨ 4096 < h.length ∨ st < 0 ∨ 1099511627776 < st
  · have e : mayD h l st = false := by
      unfold mayD
      rcases hm with h1 | h1 | h1 | h1 | h1
      · rw [decide_eq_false (show ¬ 1 ≤ l.length by omega), Bool.false_and]
      · rw [decide_eq_false (show ¬ l.length ≤ 4096 by omega), Bool.false_and, Bool.and_false]
      · rw [decide_eq_false (show ¬ h.length ≤ 4096 by omega), Bool.false_and, Bool.and_false, Bool.and_false]
      · rw [decide_eq_false (show ¬ 0 ≤ st by omega), Bool.false_and, Bool.and_false, Bool.and_false, Bool.and_false]
      · rw [decide_eq_false (show ¬ st ≤ 1099511627776 by omega), Bool.false_and, Bool.and_false, Bool.and_false, Bool.and_false, Bool.and_false]
    rw [e]
    exact RMay_no A0 A1 c0 c1 h l st w hm
  · have e : mayD h l st = allMay h.length (upto (srcs h l) (h.length + l.length)) := by
      unfold mayD
      rw [decide_eq_true (show 1 ≤ l.length by omega), decide_eq_true (show l.length ≤ 4096 by omega), decide_eq_true (show h.length ≤ 4096 by omega), decide_eq_true (show 0 ≤ st by omega), decide_eq_true (show st ≤ 1099511627776 by omega)]
      simp only [Bool.true_and]
    rw [e]
    exact RMay_walk A0 A1 c0 c1 h l st w hm hr0 hr1
/-- What deps.Last answers. -/
def lastD (h l : List S79) (st m : Int) : Int × Bool × Int :=
  if mayD h l st = true ∧ 1 ≤ st ∧ 0 ≤ m ∧ m ≤ 1125899906842624 then ((lastF h.length l.length st m (upto (srcs h l) (h.length + l.length))).1, (lastF h.length l.length st m (upto (srcs h l) (h.length + l.length))).2, 0) else (0, false, 2)
theorem in64_iff {x : Int} : in64 x = true ↔ -9223372036854775808 ≤ x ∧ x ≤ 9223372036854775807 := by unfold in64; simp
end Go.Proofs.Ytkabmpbfabgkfaa.P
