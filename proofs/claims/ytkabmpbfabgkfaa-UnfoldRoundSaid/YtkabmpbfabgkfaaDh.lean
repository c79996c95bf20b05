/-
  deps.product: contract.
  Conditions: the links lie in memory; their numbers are int64s.
-/
import Derived.Test.YtkabmpbfabgkfaaDg
import Derived.Deep.DeepCutAuto
import Derived.LoopTactic
set_option linter.unusedVariables false
set_option linter.unusedSimpArgs false
namespace Go.Proofs.Ytkabmpbfabgkfaa.P
open Go.RowKit Go.Shelf Go.Proofs.YtkabmpbfabgkfaaW.PrintWords Go.Proofs.YtkabmpbfabgkfaaW.PrintLast Go.Proofs.YtkabmpbfabgkfaaW.PrintMore
attribute [local go_sem] setCell_drewN alloc_drewN size_ext ext_ext ext_drewN ext_drew drewN_ext drew_ext cell?_ext frozen?_ext setCell_ext cell?_past1 frozen?_past1 setCell_past1 cell?_past2 frozen?_past2 setCell_past2 cell?_past3 frozen?_past3 setCell_past3 cell?_past4 frozen?_past4 setCell_past4 cell?_past5 frozen?_past5 setCell_past5 cell?_past6 frozen?_past6 setCell_past6 cell?_past7 frozen?_past7 setCell_past7 cell?_past8 frozen?_past8 setCell_past8

theorem fitV_in (v : Int) : in64 (fitV v) = true := by
  unfold in64 fitV
  simp only [Bool.and_eq_true, decide_eq_true_eq]
  split <;> omega
theorem mulStep_in {most : Int} {s : Int × Bool} {k : Int} (h : in64 s.1 = true) : in64 (mulStep most s k).1 = true := by
  unfold mulStep
  split
  · exact fitV_in _
  · exact h
end Go.Proofs.Ytkabmpbfabgkfaa.P
