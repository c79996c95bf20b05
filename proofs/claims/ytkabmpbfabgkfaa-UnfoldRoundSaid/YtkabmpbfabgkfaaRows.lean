/-
  No cell of these rows narrows 'for every input' (looked for: loops, veiled, ifaces, maps, wideKeys, modest, calm, conditions, laid).
  DERIVED. THE GIVEN ROWS OF THIS SEAT. 3 by the template 'for every input the law returns true; each argument reads behind the call as it read before'; 0 by the template 'total and deterministic' (their statements: YtkabmpbfabgkfaaTotals.lean).
  GIVEN WITH THE SEED: the statements are not yours to turn. If you find one false, say at which input.
  Laid BY PROGRAM, IN A SANDBOX (cutbox-rows.mjs): the forced cells as the released guide's own fill.sh prints them over the translation 02518345e242116b… (all of the seat's roots in one cut). By AI agents, Wed Nov 11 2026. No macro, syntax, notation, axiom, sorry.
-/
import Derived.Test.YtkabmpbfabgkfaaChecked
import GoSem.Claim
import GoSem.ClaimJoined
import GoSem.ClaimMapViews
import Derived.JoinedTies
import Derived.KernelRfl
namespace Go.Proofs.Ytkabmpbfabgkfaa
/- THE CELL 'sum', in the pinned program and in every row, IS THE sha256 OF THE DUMP (.gsa) THAT YtkabmpbfabgkfaaProg.lean LOADS. Nothing in Lean hashes anything: it is a label: what it is worth is what the hold of that sum in a sandbox is worth. -/
noncomputable def Try.pinned : Pinned := { name := "ytkabmpbfabgkfaa", sum := "02518345e242116bbdbc6ea2acd162e892b85e972a7650971cc0506e26eb3836", checked := Try.checked }
namespace Rows
def none {H : Type} : Left H := { results := [], args := [] }

/-- 'carillonlaw15.UnfoldCounts': WHATEVER THE INPUT: true; the input reads as it did. -/
def unfoldCountsSpec : ChangeSpec := { name := "unfoldCounts", fn := fun _ => fun
  | [d1, d2, d3] => { results := [.lit (.bool true)], args := [d1, d2, d3] }
  | _ => none }
def unfoldCountsRow : OpenClaim := { program := "ytkabmpbfabgkfaa", sum := "02518345e242116bbdbc6ea2acd162e892b85e972a7650971cc0506e26eb3836", func := "carillon/carillonlaw15.UnfoldCounts", spec := "unfoldCounts", unfollowed := true, recurses := true, apart := false }
def UnfoldCountsSaid : Prop := unfoldCountsRow.holds Try.pinned (OpenSpec.ofChange unfoldCountsSpec)

/-- ITS FALSE NEIGHBOUR: 'it returns false'. Refute it at one input. -/
def unfoldCountsWrong : ChangeSpec := { name := "unfoldCounts", fn := fun _ => fun
  | [d1, d2, d3] => { results := [.lit (.bool false)], args := [d1, d2, d3] }
  | _ => none }
def UnfoldCountsWrongFalsely : Prop := unfoldCountsRow.holds Try.pinned (OpenSpec.ofChange unfoldCountsWrong)

/-- 'carillonlaw15.UnfoldRound': WHATEVER THE INPUT: true; the input reads as it did. -/
def unfoldRoundSpec : ChangeSpec := { name := "unfoldRound", fn := fun _ => fun
  | [d1, d2, d3, d4] => { results := [.lit (.bool true)], args := [d1, d2, d3, d4] }
  | _ => none }
def unfoldRoundRow : OpenClaim := { program := "ytkabmpbfabgkfaa", sum := "02518345e242116bbdbc6ea2acd162e892b85e972a7650971cc0506e26eb3836", func := "carillon/carillonlaw15.UnfoldRound", spec := "unfoldRound", unfollowed := true, recurses := true, apart := false }
def UnfoldRoundSaid : Prop := unfoldRoundRow.holds Try.pinned (OpenSpec.ofChange unfoldRoundSpec)

/-- ITS FALSE NEIGHBOUR: 'it returns false'. Refute it at one input. -/
def unfoldRoundWrong : ChangeSpec := { name := "unfoldRound", fn := fun _ => fun
  | [d1, d2, d3, d4] => { results := [.lit (.bool false)], args := [d1, d2, d3, d4] }
  | _ => none }
def UnfoldRoundWrongFalsely : Prop := unfoldRoundRow.holds Try.pinned (OpenSpec.ofChange unfoldRoundWrong)

/-- 'carillonlaw15.UnfoldJobs': WHATEVER THE INPUT: true; the input reads as it did. -/
def unfoldJobsSpec : ChangeSpec := { name := "unfoldJobs", fn := fun _ => fun
  | [d1, d2, d3] => { results := [.lit (.bool true)], args := [d1, d2, d3] }
  | _ => none }
def unfoldJobsRow : OpenClaim := { program := "ytkabmpbfabgkfaa", sum := "02518345e242116bbdbc6ea2acd162e892b85e972a7650971cc0506e26eb3836", func := "carillon/carillonlaw15.UnfoldJobs", spec := "unfoldJobs", unfollowed := true, recurses := true, apart := false }
def UnfoldJobsSaid : Prop := unfoldJobsRow.holds Try.pinned (OpenSpec.ofChange unfoldJobsSpec)

/-- ITS FALSE NEIGHBOUR: 'it returns false'. Refute it at one input. -/
def unfoldJobsWrong : ChangeSpec := { name := "unfoldJobs", fn := fun _ => fun
  | [d1, d2, d3] => { results := [.lit (.bool false)], args := [d1, d2, d3] }
  | _ => none }
def UnfoldJobsWrongFalsely : Prop := unfoldJobsRow.holds Try.pinned (OpenSpec.ofChange unfoldJobsWrong)

/- THE SECOND FORM. 'bulk': how many values and letters a reading holds, each counted each time it is reached (what is shared counts as often as it is met; a slice's spare places count too). A statement '..UptoSaid' is the law's where the arguments, and the package variables that the reading takes, are together of bulk at most 1048576: NARROWER than '..Said'. Prove '..Said' where nothing that the law and all that it calls make is longer than what came in: it says more and counts as full. Else prove '..UptoSaid'. A law counts once. -/
mutual
def uptoBulk {H : Type} : DataW H → Nat
  | .lit (.string bytes) => bytes.length + 1
  | .lit _ => 1
  | .nil => 1
  | .ptr d => uptoBulk d + 1
  | .slice elems spare => uptoBulkAll elems + uptoBulkAll spare + 1
  | .agg parts => uptoBulkAll parts + 1
  | .iface _ d => uptoBulk d + 1
  | .map entries => uptoBulkEntries entries + 1
  | .held _ => 1
def uptoBulkAll {H : Type} : List (DataW H) → Nat
  | [] => 0
  | d :: r => uptoBulk d + uptoBulkAll r
def uptoBulkEntries {H : Type} : List (Lit × DataW H) → Nat
  | [] => 0
  | x :: r => uptoBulkEntry x + uptoBulkEntries r
def uptoBulkEntry {H : Type} : Lit × DataW H → Nat
  | (.string bytes, d) => bytes.length + uptoBulk d + 1
  | (_, d) => uptoBulk d + 1
 end
def uptoSmall : (H : Type) → List (DataW H) → Bool := fun _ ds => decide (uptoBulkAll ds ≤ 1048576)
def OpenSpec.upto (s : _root_.Go.ChangeSpec) : _root_.Go.OpenSpec := { _root_.Go.OpenSpec.ofChange s with cond := some uptoSmall }

/-- 'carillonlaw15.UnfoldCounts', WHERE WHAT IT READS IS OF BULK AT MOST 1048576: true; the input reads as it did. -/
def unfoldCountsUptoRow : OpenClaim := { program := "ytkabmpbfabgkfaa", sum := "02518345e242116bbdbc6ea2acd162e892b85e972a7650971cc0506e26eb3836", func := "carillon/carillonlaw15.UnfoldCounts", spec := "unfoldCounts", unfollowed := true, recurses := true, apart := false, narrowed := true }
def UnfoldCountsUptoSaid : Prop := unfoldCountsUptoRow.holds Try.pinned (OpenSpec.upto unfoldCountsSpec)

/-- 'carillonlaw15.UnfoldRound', WHERE WHAT IT READS IS OF BULK AT MOST 1048576: true; the input reads as it did. -/
def unfoldRoundUptoRow : OpenClaim := { program := "ytkabmpbfabgkfaa", sum := "02518345e242116bbdbc6ea2acd162e892b85e972a7650971cc0506e26eb3836", func := "carillon/carillonlaw15.UnfoldRound", spec := "unfoldRound", unfollowed := true, recurses := true, apart := false, narrowed := true }
def UnfoldRoundUptoSaid : Prop := unfoldRoundUptoRow.holds Try.pinned (OpenSpec.upto unfoldRoundSpec)

/-- 'carillonlaw15.UnfoldJobs', WHERE WHAT IT READS IS OF BULK AT MOST 1048576: true; the input reads as it did. -/
def unfoldJobsUptoRow : OpenClaim := { program := "ytkabmpbfabgkfaa", sum := "02518345e242116bbdbc6ea2acd162e892b85e972a7650971cc0506e26eb3836", func := "carillon/carillonlaw15.UnfoldJobs", spec := "unfoldJobs", unfollowed := true, recurses := true, apart := false, narrowed := true }
def UnfoldJobsUptoSaid : Prop := unfoldJobsUptoRow.holds Try.pinned (OpenSpec.upto unfoldJobsSpec)

end Rows
end Go.Proofs.Ytkabmpbfabgkfaa
