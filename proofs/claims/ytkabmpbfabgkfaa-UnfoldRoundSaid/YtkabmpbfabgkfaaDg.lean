/-
  deps.product: what links of a kind have, at most so much: contract.
  Conditions: the links lie in memory; their numbers are int64s.
-/
import Derived.Test.YtkabmpbfabgkfaaDf
import Derived.Test.YtkabmpbfabgkfaaNu
import Derived.WalkKit
import Derived.WalkSpells
import Derived.WalkLawsBesides
import Derived.Deep.QuietTactic
import Derived.BigQuiet
import Derived.Lib.Hide
import Derived.Handy
set_option linter.unusedVariables false
set_option linter.unusedSimpArgs false
namespace Go.Proofs.Ytkabmpbfabgkfaa.P
open Go.RowKit Go.Shelf Go.Proofs.YtkabmpbfabgkfaaW.PrintWords Go.Proofs.YtkabmpbfabgkfaaW.PrintLast Go.Proofs.YtkabmpbfabgkfaaW.PrintMore
attribute [local go_sem] setCell_drewN alloc_drewN size_ext ext_ext ext_drewN ext_drew drewN_ext drew_ext cell?_ext frozen?_ext setCell_ext cell?_past1 frozen?_past1 setCell_past1 cell?_past2 frozen?_past2 setCell_past2 cell?_past3 frozen?_past3 setCell_past3 cell?_past4 frozen?_past4 setCell_past4 cell?_past5 frozen?_past5 setCell_past5 cell?_past6 frozen?_past6 setCell_past6 cell?_past7 frozen?_past7 setCell_past7 cell?_past8 frozen?_past8 setCell_past8

def in64 (x : Int) : Bool := decide (-9223372036854775808 ≤ x) && decide (x ≤ 9223372036854775807)
/-- What a call of product's closure leaves. -/
def Byd (bn bi : Nat) (n2 : Int) (is2 : Bool) (w w' : World) : Prop := w'.heap[bn]? = some (.cells #[.int .i64 n2] 2) ∧ w'.heap[bi]? = some (.cells #[.bool is2] 4) ∧ (∀ j, j ≠ bn → j ≠ bi → w'.heap[j]? = w.heap[j]?) ∧ ∀ B, B ≤ bn → B ≤ bi → Below B w w'
theorem byd_set {w : World} {bn bi : Nat} {n : Int} {is : Bool} (h3 : bn ≠ bi) (cn : w.heap[bn]? = some (.cells #[.int .i64 n] 2)) (ci : w.heap[bi]? = some (.cells #[.bool is] 4)) (n2 : Int) (b1 b2 : Bool) :
    Byd bn bi n2 b2 w (((w.setCell ⟨bn, 0, none⟩ (.int .i64 n2)).setCell ⟨bi, 0, none⟩ (.bool b1)).setCell ⟨bi, 0, none⟩ (.bool b2)) :=
  ⟨blk_other (blk_other (blk_same cn _) h3 _) h3 _, blk_same (blk_same (blk_other ci h3.symm _) _) _,
    fun j h1 h2 => ((Below.heap_setCell _ ⟨bi, 0, none⟩ _ j h2).trans (Below.heap_setCell _ ⟨bi, 0, none⟩ _ j h2)).trans (Below.heap_setCell _ ⟨bn, 0, none⟩ _ j h1),
    fun B h1 h2 => (((Below.refl B w).setCell (p := ⟨bn, 0, none⟩) h1 _).setCell (p := ⟨bi, 0, none⟩) h2 _).setCell (p := ⟨bi, 0, none⟩) h2 _⟩
theorem byd_no {w : World} {bn bi : Nat} {n : Int} {is : Bool} (cn : w.heap[bn]? = some (.cells #[.int .i64 n] 2)) (ci : w.heap[bi]? = some (.cells #[.bool is] 4)) (h3 : bn ≠ bi) (b2 : Bool) :
    Byd bn bi n b2 w (w.setCell ⟨bi, 0, none⟩ (.bool b2)) :=
  ⟨blk_other cn h3 _, blk_same ci _, fun j h1 h2 => Below.heap_setCell _ ⟨bi, 0, none⟩ _ j h2, fun B h1 h2 => (Below.refl B w).setCell (p := ⟨bi, 0, none⟩) h2 _⟩
theorem byd_id {w : World} {bn bi : Nat} {n : Int} {is : Bool} (cn : w.heap[bn]? = some (.cells #[.int .i64 n] 2)) (ci : w.heap[bi]? = some (.cells #[.bool is] 4)) : Byd bn bi n is w w :=
  ⟨cn, ci, fun _ _ _ => rfl, fun B _ _ => Below.refl B w⟩
/-- One more link of a product: what is told so far, and whether it is. -/
def mulStep (most : Int) (s : Int × Bool) (k : Int) : Int × Bool := if s.2 = true then (fitV (s.1 * k), fitB (s.1 * k) && decide (fitV (s.1 * k) ≤ most)) else s
end Go.Proofs.Ytkabmpbfabgkfaa.P
