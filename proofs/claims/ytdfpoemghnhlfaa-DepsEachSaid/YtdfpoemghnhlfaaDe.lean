/-
  deps.May at all deps; deps.Last where there is nothing to tell.
  Conditions: the dep's rows lie in memory.
-/
import Derived.Test.YtdfpoemghnhlfaaDd
import Derived.RangeFuncNested
import Derived.RangeFuncBox
import Derived.RangeFuncBound
import Derived.RangeFuncCalls
import Derived.RangeFuncLeaves
import Derived.Shelf.Abstract
import Derived.WalkKit
import Derived.OwnWalkIn
import Derived.TacticsInMore
import Derived.LoopNIn
import Derived.LoopIn
import Derived.Lib.Hide
set_option linter.unusedVariables false
set_option linter.unusedSimpArgs false
namespace Go.Proofs.Ytdfpoemghnhlfaa.P
open Go.RowKit Go.Shelf Go.Proofs.YtdfpoemghnhlfaaW.PrintWords Go.Proofs.YtdfpoemghnhlfaaW.PrintLast Go.Proofs.YtdfpoemghnhlfaaW.PrintMore
attribute [local go_sem] setCell_drewN alloc_drewN size_ext ext_ext ext_drewN ext_drew drewN_ext drew_ext cell?_ext frozen?_ext setCell_ext cell?_past1 frozen?_past1 setCell_past1 cell?_past2 frozen?_past2 setCell_past2 cell?_past3 frozen?_past3 setCell_past3 cell?_past4 frozen?_past4 setCell_past4 cell?_past5 frozen?_past5 setCell_past5 cell?_past6 frozen?_past6 setCell_past6 cell?_past7 frozen?_past7 setCell_past7 cell?_past8 frozen?_past8 setCell_past8
attribute [local go_sem] Oper.semAt_some
theorem May_in (F : Fence) (n : Nat) (h18 : F.fn 18) (h33 : F.fn 33) (h43 : F.fn 43) (hro : F.round = none) (hn : 4 ≤ n) (A0 A1 : Option Addr) (c0 c1 : Nat) (h l : List S26) (st : Int) (w : World)
    (hr0 : Kd.C k26 w A0 h.length h) (hr1 : Kd.C k26 w A1 l.length l) :
    CallsIn F n Try.prog 18 #[.agg #[.slice A0 h.length c0, .slice A1 l.length c1, .int .i64 st]] w fun e W' => e = .returned (.bool (mayD h l st)) ∧ Below w.heap.size w W' := by
  by_cases hm : l.length < 1 ∨ 4096 < l.length ∨ 4096 < h.length ∨ st < 0 ∨ 1099511627776 < st
  · have e : mayD h l st = false := by
      unfold mayD
      rcases hm with h1 | h1 | h1 | h1 | h1
      · rw [decide_eq_false (show ¬ 1 ≤ l.length by omega), Bool.false_and]
      · rw [decide_eq_false (show ¬ l.length ≤ 4096 by omega), Bool.false_and, Bool.and_false]
      · rw [decide_eq_false (show ¬ h.length ≤ 4096 by omega), Bool.false_and, Bool.and_false, Bool.and_false]
      · rw [decide_eq_false (show ¬ 0 ≤ st by omega), Bool.false_and, Bool.and_false, Bool.and_false, Bool.and_false]
      · rw [decide_eq_false (show ¬ st ≤ 1099511627776 by omega), Bool.false_and, Bool.and_false, Bool.and_false, Bool.and_false, Bool.and_false]
    rw [e]
    exact May_no F n h18 hro A0 A1 c0 c1 h l st w hm
  · have e : mayD h l st = allMay h.length (upto (srcs h l) (h.length + l.length)) := by
      unfold mayD
      rw [decide_eq_true (show 1 ≤ l.length by omega), decide_eq_true (show l.length ≤ 4096 by omega), decide_eq_true (show h.length ≤ 4096 by omega), decide_eq_true (show 0 ≤ st by omega), decide_eq_true (show st ≤ 1099511627776 by omega)]
      simp only [Bool.true_and]
    rw [e]
    exact May_walk F n h18 h33 h43 hro hn A0 A1 c0 c1 h l st w hm hr0 hr1
theorem May_any (A0 A1 : Option Addr) (c0 c1 : Nat) (h l : List S26) (st : Int) (w : World) (hr0 : Kd.C k26 w A0 h.length h) (hr1 : Kd.C k26 w A1 l.length l) :
    Calls Try.prog 18 #[.agg #[.slice A0 h.length c0, .slice A1 l.length c1, .int .i64 st]] w fun e W' => e = .returned (.bool (mayD h l st)) ∧ Below w.heap.size w W' :=
  callsIn_wide.1 (May_in Fence.wide 6 trivial trivial trivial rfl (by omega) A0 A1 c0 c1 h l st w hr0 hr1)
theorem May_any' (A0 A1 : Option Addr) (c0 c1 : Nat) (h l : List S26) (st : Int) (n0 n1 : Nat) (hn0 : n0 = h.length) (hn1 : n1 = l.length) (w : World) (hr0 : Kd.C k26 w A0 h.length h) (hr1 : Kd.C k26 w A1 l.length l) :
    Calls Try.prog 18 #[.agg #[.slice A0 n0 c0, .slice A1 n1 c1, .int .i64 st]] w fun e W' => e = .returned (.bool (mayD h l st)) ∧ Below w.heap.size w W' := by
  subst hn0 hn1
  exact May_any A0 A1 c0 c1 h l st w hr0 hr1
set_option maxRecDepth 100000 in
set_option maxHeartbeats 4000000 in
theorem Last_no (F : Fence) (n : Nat) (h16 : F.fn 16) (h18 : F.fn 18) (h33 : F.fn 33) (h43 : F.fn 43) (hro : F.round = none) (hn : 6 ≤ n) (A0 A1 : Option Addr) (c0 c1 : Nat) (h l : List S26) (st : Int) (m : Int) (w : World) (hm : mayD h l st = false ∨ st < 1 ∨ m < 0 ∨ 1125899906842624 < m)
    (hr0 : Kd.C k26 w A0 h.length h) (hr1 : Kd.C k26 w A1 l.length l) :
    CallsIn F n Try.prog 16 #[.agg #[.slice A0 h.length c0, .slice A1 l.length c1, .int .i64 st], .int .i64 m] w fun e W' => e = .returned (.tuple #[.int .i64 0, .bool false, .int .i64 2]) ∧ Below w.heap.size w W' := by
  have h1 : 1 ≤ n := by omega
  have HR0 := Lib.hid hr0
  have HR1 := Lib.hid hr1
  clear hr0 hr1
  cases hd : mayD h l st with
  | false =>
    have HD := Lib.hid hd
    clear hd hm
    refine callsIn_of_wp_marks Try.func16 rfl h16 ?_ hro
    simp only [Try.ntmps16, List.size_toArray, List.length_cons, List.length_nil, Nat.reduceAdd, Nat.reduceSub, Array.replicate_succ, Array.replicate_zero, List.push_toArray, List.append_toArray, List.nil_append, List.cons_append]
    gi_wp2_with (gi_at_call 18; refine (May_in F (n - 1) h18 h33 h43 hro (by omega) A0 A1 c0 c1 h l st _ (Kd.C_below HR0.out (by repeat (first | (with_reducible exact Below.refl _ _) | (with_reducible assumption) | (with_reducible refine below_drewN ?_ _) | (with_reducible refine Below.drew ?_) | (with_reducible refine below_ext_of ?_ (by first | exact Nat.le_refl _ | assumption | (simp only [World.size_alloc, World.size_setCell, size_ext, World.heap_drewN]; omega)) _ _) | (with_reducible refine Below.alloc ?_ (by first | exact Nat.le_refl _ | assumption | (simp only [World.size_alloc, World.size_setCell, size_ext, World.heap_drewN]; omega)) _) | (with_reducible refine Below.setCell ?_ (by first | exact Nat.le_refl _ | assumption | (simp only [World.size_alloc, World.size_setCell, size_ext, World.heap_drewN]; omega)) _)))) (Kd.C_below HR1.out (by repeat (first | (with_reducible exact Below.refl _ _) | (with_reducible assumption) | (with_reducible refine below_drewN ?_ _) | (with_reducible refine Below.drew ?_) | (with_reducible refine below_ext_of ?_ (by first | exact Nat.le_refl _ | assumption | (simp only [World.size_alloc, World.size_setCell, size_ext, World.heap_drewN]; omega)) _ _) | (with_reducible refine Below.alloc ?_ (by first | exact Nat.le_refl _ | assumption | (simp only [World.size_alloc, World.size_setCell, size_ext, World.heap_drewN]; omega)) _) | (with_reducible refine Below.setCell ?_ (by first | exact Nat.le_refl _ | assumption | (simp only [World.size_alloc, World.size_setCell, size_ext, World.heap_drewN]; omega)) _))))).mono ?_; rintro e w' ⟨rfl, hb⟩; obtain ⟨X, d, rfl⟩ := below_ext hb; clear hb; rw [HD.out])
    exact ⟨.tuple #[.int .i64 0, .bool false, .int .i64 2], by simp [results, Try.results16, go_sem], rfl, by repeat (first | (with_reducible exact Below.refl _ _) | (with_reducible assumption) | (with_reducible refine below_drewN ?_ _) | (with_reducible refine Below.drew ?_) | (with_reducible refine below_ext_of ?_ (by first | exact Nat.le_refl _ | assumption | (simp only [World.size_alloc, World.size_setCell, size_ext, World.heap_drewN]; omega)) _ _) | (with_reducible refine Below.alloc ?_ (by first | exact Nat.le_refl _ | assumption | (simp only [World.size_alloc, World.size_setCell, size_ext, World.heap_drewN]; omega)) _) | (with_reducible refine Below.setCell ?_ (by first | exact Nat.le_refl _ | assumption | (simp only [World.size_alloc, World.size_setCell, size_ext, World.heap_drewN]; omega)) _))⟩
  | true =>
    have HD := Lib.hid hd
    rw [hd] at hm
    clear hd
    by_cases t1 : st < 1
    · have d1 := decide_eq_true t1
      refine callsIn_of_wp_marks Try.func16 rfl h16 ?_ hro
      simp only [Try.ntmps16, List.size_toArray, List.length_cons, List.length_nil, Nat.reduceAdd, Nat.reduceSub, Array.replicate_succ, Array.replicate_zero, List.push_toArray, List.append_toArray, List.nil_append, List.cons_append]
      gi_wp2_with (gi_at_call 18; refine (May_in F (n - 1) h18 h33 h43 hro (by omega) A0 A1 c0 c1 h l st _ (Kd.C_below HR0.out (by repeat (first | (with_reducible exact Below.refl _ _) | (with_reducible assumption) | (with_reducible refine below_drewN ?_ _) | (with_reducible refine Below.drew ?_) | (with_reducible refine below_ext_of ?_ (by first | exact Nat.le_refl _ | assumption | (simp only [World.size_alloc, World.size_setCell, size_ext, World.heap_drewN]; omega)) _ _) | (with_reducible refine Below.alloc ?_ (by first | exact Nat.le_refl _ | assumption | (simp only [World.size_alloc, World.size_setCell, size_ext, World.heap_drewN]; omega)) _) | (with_reducible refine Below.setCell ?_ (by first | exact Nat.le_refl _ | assumption | (simp only [World.size_alloc, World.size_setCell, size_ext, World.heap_drewN]; omega)) _)))) (Kd.C_below HR1.out (by repeat (first | (with_reducible exact Below.refl _ _) | (with_reducible assumption) | (with_reducible refine below_drewN ?_ _) | (with_reducible refine Below.drew ?_) | (with_reducible refine below_ext_of ?_ (by first | exact Nat.le_refl _ | assumption | (simp only [World.size_alloc, World.size_setCell, size_ext, World.heap_drewN]; omega)) _ _) | (with_reducible refine Below.alloc ?_ (by first | exact Nat.le_refl _ | assumption | (simp only [World.size_alloc, World.size_setCell, size_ext, World.heap_drewN]; omega)) _) | (with_reducible refine Below.setCell ?_ (by first | exact Nat.le_refl _ | assumption | (simp only [World.size_alloc, World.size_setCell, size_ext, World.heap_drewN]; omega)) _))))).mono ?_; rintro e w' ⟨rfl, hb⟩; obtain ⟨X, d, rfl⟩ := below_ext hb; clear hb; rw [HD.out])
      exact ⟨.tuple #[.int .i64 0, .bool false, .int .i64 2], by simp [results, Try.results16, go_sem], rfl, by repeat (first | (with_reducible exact Below.refl _ _) | (with_reducible assumption) | (with_reducible refine below_drewN ?_ _) | (with_reducible refine Below.drew ?_) | (with_reducible refine below_ext_of ?_ (by first | exact Nat.le_refl _ | assumption | (simp only [World.size_alloc, World.size_setCell, size_ext, World.heap_drewN]; omega)) _ _) | (with_reducible refine Below.alloc ?_ (by first | exact Nat.le_refl _ | assumption | (simp only [World.size_alloc, World.size_setCell, size_ext, World.heap_drewN]; omega)) _) | (with_reducible refine Below.setCell ?_ (by first | exact Nat.le_refl _ | assumption | (simp only [World.size_alloc, World.size_setCell, size_ext, World.heap_drewN]; omega)) _))⟩
    · have d1 := decide_eq_false t1
      by_cases t2 : m < 0
      · have d2 := decide_eq_true t2
        refine callsIn_of_wp_marks Try.func16 rfl h16 ?_ hro
        simp only [Try.ntmps16, List.size_toArray, List.length_cons, List.length_nil, Nat.reduceAdd, Nat.reduceSub, Array.replicate_succ, Array.replicate_zero, List.push_toArray, List.append_toArray, List.nil_append, List.cons_append]
        gi_wp2_with (gi_at_call 18; refine (May_in F (n - 1) h18 h33 h43 hro (by omega) A0 A1 c0 c1 h l st _ (Kd.C_below HR0.out (by repeat (first | (with_reducible exact Below.refl _ _) | (with_reducible assumption) | (with_reducible refine below_drewN ?_ _) | (with_reducible refine Below.drew ?_) | (with_reducible refine below_ext_of ?_ (by first | exact Nat.le_refl _ | assumption | (simp only [World.size_alloc, World.size_setCell, size_ext, World.heap_drewN]; omega)) _ _) | (with_reducible refine Below.alloc ?_ (by first | exact Nat.le_refl _ | assumption | (simp only [World.size_alloc, World.size_setCell, size_ext, World.heap_drewN]; omega)) _) | (with_reducible refine Below.setCell ?_ (by first | exact Nat.le_refl _ | assumption | (simp only [World.size_alloc, World.size_setCell, size_ext, World.heap_drewN]; omega)) _)))) (Kd.C_below HR1.out (by repeat (first | (with_reducible exact Below.refl _ _) | (with_reducible assumption) | (with_reducible refine below_drewN ?_ _) | (with_reducible refine Below.drew ?_) | (with_reducible refine below_ext_of ?_ (by first | exact Nat.le_refl _ | assumption | (simp only [World.size_alloc, World.size_setCell, size_ext, World.heap_drewN]; omega)) _ _) | (with_reducible refine Below.alloc ?_ (by first | exact Nat.le_refl _ | assumption | (simp only [World.size_alloc, World.size_setCell, size_ext, World.heap_drewN]; omega)) _) | (with_reducible refine Below.setCell ?_ (by first | exact Nat.le_refl _ | assumption | (simp only [World.size_alloc, World.size_setCell, size_ext, World.heap_drewN]; omega)) _))))).mono ?_; rintro e w' ⟨rfl, hb⟩; obtain ⟨X, d, rfl⟩ := below_ext hb; clear hb; rw [HD.out])
        exact ⟨.tuple #[.int .i64 0, .bool false, .int .i64 2], by simp [results, Try.results16, go_sem], rfl, by repeat (first | (with_reducible exact Below.refl _ _) | (with_reducible assumption) | (with_reducible refine below_drewN ?_ _) | (with_reducible refine Below.drew ?_) | (with_reducible refine below_ext_of ?_ (by first | exact Nat.le_refl _ | assumption | (simp only [World.size_alloc, World.size_setCell, size_ext, World.heap_drewN]; omega)) _ _) | (with_reducible refine Below.alloc ?_ (by first | exact Nat.le_refl _ | assumption | (simp only [World.size_alloc, World.size_setCell, size_ext, World.heap_drewN]; omega)) _) | (with_reducible refine Below.setCell ?_ (by first | exact Nat.le_refl _ | assumption | (simp only [World.size_alloc, World.size_setCell, size_ext, World.heap_drewN]; omega)) _))⟩
      · have d2 := decide_eq_false t2
        have t3 : (1125899906842624 : Int) < m := by
          rcases hm with h | h | h | h
          · cases h
          · exact absurd h t1
          · exact absurd h t2
          · exact h
        have d3 := decide_eq_true t3
        refine callsIn_of_wp_marks Try.func16 rfl h16 ?_ hro
        simp only [Try.ntmps16, List.size_toArray, List.length_cons, List.length_nil, Nat.reduceAdd, Nat.reduceSub, Array.replicate_succ, Array.replicate_zero, List.push_toArray, List.append_toArray, List.nil_append, List.cons_append]
        gi_wp2_with (gi_at_call 18; refine (May_in F (n - 1) h18 h33 h43 hro (by omega) A0 A1 c0 c1 h l st _ (Kd.C_below HR0.out (by repeat (first | (with_reducible exact Below.refl _ _) | (with_reducible assumption) | (with_reducible refine below_drewN ?_ _) | (with_reducible refine Below.drew ?_) | (with_reducible refine below_ext_of ?_ (by first | exact Nat.le_refl _ | assumption | (simp only [World.size_alloc, World.size_setCell, size_ext, World.heap_drewN]; omega)) _ _) | (with_reducible refine Below.alloc ?_ (by first | exact Nat.le_refl _ | assumption | (simp only [World.size_alloc, World.size_setCell, size_ext, World.heap_drewN]; omega)) _) | (with_reducible refine Below.setCell ?_ (by first | exact Nat.le_refl _ | assumption | (simp only [World.size_alloc, World.size_setCell, size_ext, World.heap_drewN]; omega)) _)))) (Kd.C_below HR1.out (by repeat (first | (with_reducible exact Below.refl _ _) | (with_reducible assumption) | (with_reducible refine below_drewN ?_ _) | (with_reducible refine Below.drew ?_) | (with_reducible refine below_ext_of ?_ (by first | exact Nat.le_refl _ | assumption | (simp only [World.size_alloc, World.size_setCell, size_ext, World.heap_drewN]; omega)) _ _) | (with_reducible refine Below.alloc ?_ (by first | exact Nat.le_refl _ | assumption | (simp only [World.size_alloc, World.size_setCell, size_ext, World.heap_drewN]; omega)) _) | (with_reducible refine Below.setCell ?_ (by first | exact Nat.le_refl _ | assumption | (simp only [World.size_alloc, World.size_setCell, size_ext, World.heap_drewN]; omega)) _))))).mono ?_; rintro e w' ⟨rfl, hb⟩; obtain ⟨X, d, rfl⟩ := below_ext hb; clear hb; rw [HD.out])
        exact ⟨.tuple #[.int .i64 0, .bool false, .int .i64 2], by simp [results, Try.results16, go_sem], rfl, by repeat (first | (with_reducible exact Below.refl _ _) | (with_reducible assumption) | (with_reducible refine below_drewN ?_ _) | (with_reducible refine Below.drew ?_) | (with_reducible refine below_ext_of ?_ (by first | exact Nat.le_refl _ | assumption | (simp only [World.size_alloc, World.size_setCell, size_ext, World.heap_drewN]; omega)) _ _) | (with_reducible refine Below.alloc ?_ (by first | exact Nat.le_refl _ | assumption | (simp only [World.size_alloc, World.size_setCell, size_ext, World.heap_drewN]; omega)) _) | (with_reducible refine Below.setCell ?_ (by first | exact Nat.le_refl _ | assumption | (simp only [World.size_alloc, World.size_setCell, size_ext, World.heap_drewN]; omega)) _))⟩
end Go.Proofs.Ytdfpoemghnhlfaa.P
