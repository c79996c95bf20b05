/-
  deps.May at all deps; deps.Last where there is nothing to tell.
  Conditions: the dep's rows lie in memory.
-/
import Derived.Test.YtkabmpbfabgkfaaDd
import Derived.RangeFuncNested
import Derived.RangeFuncBox
import Derived.RangeFuncBound
import Derived.RangeFuncCalls
import Derived.RangeFuncLeaves
import Derived.Shelf.Abstract
import Derived.WalkKit
import Derived.OwnWalkIn
import Derived.TacticsInMore
import Derived.LoopNIn
import Derived.LoopIn
import Derived.Lib.Hide
set_option linter.unusedVariables false
set_option linter.unusedSimpArgs false
namespace Go.Proofs.Ytkabmpbfabgkfaa.P
open Go.RowKit Go.Shelf Go.Proofs.YtkabmpbfabgkfaaW.PrintWords Go.Proofs.YtkabmpbfabgkfaaW.PrintLast Go.Proofs.YtkabmpbfabgkfaaW.PrintMore
attribute [local go_sem] setCell_drewN alloc_drewN size_ext ext_ext ext_drewN ext_drew drewN_ext drew_ext cell?_ext frozen?_ext setCell_ext cell?_past1 frozen?_past1 setCell_past1 cell?_past2 frozen?_past2 setCell_past2 cell?_past3 frozen?_past3 setCell_past3 cell?_past4 frozen?_past4 setCell_past4 cell?_past5 frozen?_past5 setCell_past5 cell?_past6 frozen?_past6 setCell_past6 cell?_past7 frozen?_past7 setCell_past7 cell?_past8 frozen?_past8 setCell_past8
attribute [local go_sem] Oper.semAt_some
theorem May_in (F : Fence) (n : Nat) (h30 : F.fn 30) (h56 : F.fn 56) (h71 : F.fn 71) (hro : F.round = none) (hn : 4 ≤ n) (A0 A1 : Option Addr) (c0 c1 : Nat) (h l : List S79) (st : Int) (w : World)
    (hr0 : Kd.C k79 w A0 h.length h) (hr1 : Kd.C k79 w A1 l.length l) :
    CallsIn F n Try.prog 30 #[.agg #[.slice A0 h.length c0, .slice A1 l.length c1, .int .i64 st]] w fun e W' => e = .returned (.bool (mayD h l st)) ∧ Below w.heap.size w W' := by
  by_cases hm : l.length < 1 ∨ 4096 < l.length ∨ 4096 < h.length ∨ st < 0 ∨ 1099511627776 < st
  · have e : mayD h l st = false := by
      unfold mayD
      rcases hm with h1 | h1 | h1 | h1 | h1
      · rw [decide_eq_false (show ¬ 1 ≤ l.length by omega), Bool.false_and]
      · rw [decide_eq_false (show ¬ l.length ≤ 4096 by omega), Bool.false_and, Bool.and_false]
      · rw [decide_eq_false (show ¬ h.length ≤ 4096 by omega), Bool.false_and, Bool.and_false, Bool.and_false]
      · rw [decide_eq_false (show ¬ 0 ≤ st by omega), Bool.false_and, Bool.and_false, Bool.and_false, Bool.and_false]
      · rw [decide_eq_false (show ¬ st ≤ 1099511627776 by omega), Bool.false_and, Bool.and_false, Bool.and_false, Bool.and_false, Bool.and_false]
    rw [e]
    exact May_no F n h30 hro A0 A1 c0 c1 h l st w hm
  · have e : mayD h l st = allMay h.length (upto (srcs h l) (h.length + l.length)) := by
      unfold mayD
      rw [decide_eq_true (show 1 ≤ l.length by omega), decide_eq_true (show l.length ≤ 4096 by omega), decide_eq_true (show h.length ≤ 4096 by omega), decide_eq_true (show 0 ≤ st by omega), decide_eq_true (show st ≤ 1099511627776 by omega)]
      simp only [Bool.true_and]
    rw [e]
    exact May_walk F n h30 h56 h71 hro hn A0 A1 c0 c1 h l st w hm hr0 hr1
theorem May_any (A0 A1 : Option Addr) (c0 c1 : Nat) (h l : List S79) (st : Int) (w : World) (hr0 : Kd.C k79 w A0 h.length h) (hr1 : Kd.C k79 w A1 l.length l) :
    Calls Try.prog 30 #[.agg #[.slice A0 h.length c0, .slice A1 l.length c1, .int .i64 st]] w fun e W' => e = .returned (.bool (mayD h l st)) ∧ Below w.heap.size w W' :=
  callsIn_wide.1 (May_in Fence.wide 6 trivial trivial trivial rfl (by omega) A0 A1 c0 c1 h l st w hr0 hr1)
theorem May_any' (A0 A1 : Option Addr) (c0 c1 : Nat) (h l : List S79) (st : Int) (n0 n1 : Nat) (hn0 : n0 = h.length) (hn1 : n1 = l.length) (w : World) (hr0 : Kd.C k79 w A0 h.length h) (hr1 : Kd.C k79 w A1 l.length l) :
    Calls Try.prog 30 #[.agg #[.slice A0 n0 c0, .slice A1 n1 c1, .int .i64 st]] w fun e W' => e = .returned (.bool (mayD h l st)) ∧ Below w.heap.size w W' := by
  subst hn0 hn1
  exact May_any A0 A1 c0 c1 h l st w hr0 hr1
end Go.Proofs.Ytkabmpbfabgkfaa.P
