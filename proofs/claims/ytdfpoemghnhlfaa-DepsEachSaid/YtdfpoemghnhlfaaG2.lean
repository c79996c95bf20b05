/-
  Contracts of the functions that no print takes, in the print's own form: out of this project's walks.
  Conditions: each theorem's own.
-/
import Derived.Test.YtdfpoemghnhlfaaPx0
import Derived.Test.YtdfpoemghnhlfaaPx5
import Derived.Test.YtdfpoemghnhlfaaDj
import Derived.Test.YtdfpoemghnhlfaaWx
namespace Go.Proofs.Ytdfpoemghnhlfaa.P
open Go.RowKit Go.Proofs.YtdfpoemghnhlfaaW.PrintWords Go.Proofs.YtdfpoemghnhlfaaW.PrintLast Go.Proofs.YtdfpoemghnhlfaaW.PrintMore
attribute [local go_sem] max2_int min2_int max_two min_two max_three min_three max_four min_four   -- for this text's walks alone
set_option linter.unusedVariables false
set_option linter.unusedSimpArgs false


def carillonlaw13_works.f  : Option (Bool) := some true
theorem carillonlaw13_works.calls  (r : Bool) (w : World) (h : carillonlaw13_works.f  = some r) :
    Calls Try.prog 8 #[] w fun e w' => e = .returned (.bool r) ∧ Below w.heap.size w w' := by
  cases h
  exact works_any w
end Go.Proofs.Ytdfpoemghnhlfaa.P
