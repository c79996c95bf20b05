/-
  words.Norm of whatever word, words.Same: contracts.
  Conditions: the rows lie in memory.
-/
import Derived.Test.YtpcnapmlmhhcpaaWg
import Derived.WalkKit
import Derived.WalkSpells
import Derived.WalkLawsBesides
import Derived.Deep.QuietTactic
import Derived.BigQuiet
import Derived.Lib.Hide
import Derived.Handy
import Derived.Deep.AppendLies
import Derived.Maps.AppendAt
import Derived.OwnWalk
import Derived.Lib.LazyBuf
import Derived.Deep.DeepCutAuto
import Derived.Deep.RegionLaw
import Derived.Deep.RegionHeld3
import Derived.Deep.RegionWith
import Derived.BigRegion
set_option linter.unusedVariables false
set_option linter.unusedSimpArgs false
namespace Go.Proofs.Ytpcnapmlmhhcpaa
open Go.RowKit 
attribute [local go_sem] setCell_drewN alloc_drewN size_ext ext_ext ext_drewN ext_drew drewN_ext drew_ext cell?_ext frozen?_ext setCell_ext cell?_past1 frozen?_past1 setCell_past1 cell?_past2 frozen?_past2 setCell_past2 cell?_past3 frozen?_past3 setCell_past3 cell?_past4 frozen?_past4 setCell_past4 cell?_past5 frozen?_past5 setCell_past5 cell?_past6 frozen?_past6 setCell_past6 cell?_past7 frozen?_past7 setCell_past7 cell?_past8 frozen?_past8 setCell_past8

def nH (h l : List Int) : List Int := if may h l = true then outH h l else []
def nL (h l : List Int) : List Int := if may h l = true then outL h l else []
def nE (h l : List Int) : Int := if may h l = true then outE h l else 2
theorem norm_any (w : World) (vh vl : Value) (h l : List Int) (h1 : RowAt w vh h) (h2 : RowAt w vl l) : Calls Try.prog 30 #[.agg #[vh, vl]] w fun e w' => Below w.heap.size w w' ∧ ∃ v1 v2, e = .returned (.tuple #[.agg #[v1, v2], .int .i64 (nE h l)]) ∧ Fresh w' w.heap.size v1 (nH h l) ∧ Fresh w' w.heap.size v2 (nL h l) ∧ Apart v1 v2 := by
  unfold nH nL nE
  cases hm : may h l with
  | true =>
    rw [if_pos rfl, if_pos rfl, if_pos rfl]
    exact norm_ok w vh vl h l h1 h2 hm
  | false =>
    rw [if_neg (by decide), if_neg (by decide), if_neg (by decide)]
    refine (norm_no w vh vl h l h1 h2 hm).mono ?_
    rintro e w' ⟨rfl, hb⟩
    exact ⟨hb, _, _, rfl, Fresh.nil _ _, Fresh.nil _ _, Apart.nil⟩
end Go.Proofs.Ytpcnapmlmhhcpaa
