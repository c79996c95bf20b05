/-
  No cell of these rows narrows 'for every input' (looked for: loops, veiled, ifaces, maps, wideKeys, modest, calm, conditions, laid).
  DERIVED. THE GIVEN ROWS OF THIS SEAT. 4 by the template 'for every input the law returns true; each argument reads behind the call as it read before'; 0 by the template 'total and deterministic' (their statements: YtdfpoemghnhlfaaTotals.lean).
  GIVEN WITH THE SEED: the statements are not yours to turn. If you find one false, say at which input.
  Laid BY PROGRAM, IN A SANDBOX (cutbox-rows.mjs): the forced cells as the released guide's own fill.sh prints them over the translation b2e1d124312c3b38… (all of the seat's roots in one cut). By AI agents, Wed Nov 11 2026. No macro, syntax, notation, axiom, sorry.
-/
import Derived.Test.YtdfpoemghnhlfaaChecked
import GoSem.Claim
import GoSem.ClaimJoined
import GoSem.ClaimMapViews
import Derived.JoinedTies
import Derived.KernelRfl
namespace Go.Proofs.Ytdfpoemghnhlfaa
/- THE CELL 'sum', in the pinned program and in every row, IS THE sha256 OF THE DUMP (.gsa) THAT YtdfpoemghnhlfaaProg.lean LOADS. Nothing in Lean hashes anything: it is a label: what it is worth is what the hold of that sum in a sandbox is worth. -/
noncomputable def Try.pinned : Pinned := { name := "ytdfpoemghnhlfaa", sum := "b2e1d124312c3b385b915e5aa503af4391be01521993fd5e95b898d4e9a2576e", checked := Try.checked }
namespace Rows
def none {H : Type} : Left H := { results := [], args := [] }

/-- 'carillonlaw13.DepsTell': WHATEVER THE INPUT: true; the input reads as it did. -/
def depsTellSpec : ChangeSpec := { name := "depsTell", fn := fun _ => fun
  | [d1, d2] => { results := [.lit (.bool true)], args := [d1, d2] }
  | _ => none }
def depsTellRow : OpenClaim := { program := "ytdfpoemghnhlfaa", sum := "b2e1d124312c3b385b915e5aa503af4391be01521993fd5e95b898d4e9a2576e", func := "carillon/carillonlaw13.DepsTell", spec := "depsTell", unfollowed := true, recurses := true, apart := false }
def DepsTellSaid : Prop := depsTellRow.holds Try.pinned (OpenSpec.ofChange depsTellSpec)

/-- ITS FALSE NEIGHBOUR: 'it returns false'. Refute it at one input. -/
def depsTellWrong : ChangeSpec := { name := "depsTell", fn := fun _ => fun
  | [d1, d2] => { results := [.lit (.bool false)], args := [d1, d2] }
  | _ => none }
def DepsTellWrongFalsely : Prop := depsTellRow.holds Try.pinned (OpenSpec.ofChange depsTellWrong)

/-- 'carillonlaw13.DepsPlaces': WHATEVER THE INPUT: true; the input reads as it did. -/
def depsPlacesSpec : ChangeSpec := { name := "depsPlaces", fn := fun _ => fun
  | [d1, d2] => { results := [.lit (.bool true)], args := [d1, d2] }
  | _ => none }
def depsPlacesRow : OpenClaim := { program := "ytdfpoemghnhlfaa", sum := "b2e1d124312c3b385b915e5aa503af4391be01521993fd5e95b898d4e9a2576e", func := "carillon/carillonlaw13.DepsPlaces", spec := "depsPlaces", unfollowed := true, recurses := true, apart := false }
def DepsPlacesSaid : Prop := depsPlacesRow.holds Try.pinned (OpenSpec.ofChange depsPlacesSpec)

/-- ITS FALSE NEIGHBOUR: 'it returns false'. Refute it at one input. -/
def depsPlacesWrong : ChangeSpec := { name := "depsPlaces", fn := fun _ => fun
  | [d1, d2] => { results := [.lit (.bool false)], args := [d1, d2] }
  | _ => none }
def DepsPlacesWrongFalsely : Prop := depsPlacesRow.holds Try.pinned (OpenSpec.ofChange depsPlacesWrong)

/-- 'carillonlaw13.DepsEach': WHATEVER THE INPUT: true; the input reads as it did. -/
def depsEachSpec : ChangeSpec := { name := "depsEach", fn := fun _ => fun
  | [d1, d2] => { results := [.lit (.bool true)], args := [d1, d2] }
  | _ => none }
def depsEachRow : OpenClaim := { program := "ytdfpoemghnhlfaa", sum := "b2e1d124312c3b385b915e5aa503af4391be01521993fd5e95b898d4e9a2576e", func := "carillon/carillonlaw13.DepsEach", spec := "depsEach", unfollowed := true, recurses := true, apart := false }
def DepsEachSaid : Prop := depsEachRow.holds Try.pinned (OpenSpec.ofChange depsEachSpec)

/-- ITS FALSE NEIGHBOUR: 'it returns false'. Refute it at one input. -/
def depsEachWrong : ChangeSpec := { name := "depsEach", fn := fun _ => fun
  | [d1, d2] => { results := [.lit (.bool false)], args := [d1, d2] }
  | _ => none }
def DepsEachWrongFalsely : Prop := depsEachRow.holds Try.pinned (OpenSpec.ofChange depsEachWrong)

/-- 'carillonlaw13.DepsBehind': WHATEVER THE INPUT: true; the input reads as it did. -/
def depsBehindSpec : ChangeSpec := { name := "depsBehind", fn := fun _ => fun
  | [d1, d2, d3] => { results := [.lit (.bool true)], args := [d1, d2, d3] }
  | _ => none }
def depsBehindRow : OpenClaim := { program := "ytdfpoemghnhlfaa", sum := "b2e1d124312c3b385b915e5aa503af4391be01521993fd5e95b898d4e9a2576e", func := "carillon/carillonlaw13.DepsBehind", spec := "depsBehind", unfollowed := true, recurses := true, apart := false }
def DepsBehindSaid : Prop := depsBehindRow.holds Try.pinned (OpenSpec.ofChange depsBehindSpec)

/-- ITS FALSE NEIGHBOUR: 'it returns false'. Refute it at one input. -/
def depsBehindWrong : ChangeSpec := { name := "depsBehind", fn := fun _ => fun
  | [d1, d2, d3] => { results := [.lit (.bool false)], args := [d1, d2, d3] }
  | _ => none }
def DepsBehindWrongFalsely : Prop := depsBehindRow.holds Try.pinned (OpenSpec.ofChange depsBehindWrong)

/- THE SECOND FORM. 'bulk': how many values and letters a reading holds, each counted each time it is reached (what is shared counts as often as it is met; a slice's spare places count too). A statement '..UptoSaid' is the law's where the arguments, and the package variables that the reading takes, are together of bulk at most 1048576: NARROWER than '..Said'. Prove '..Said' where nothing that the law and all that it calls make is longer than what came in: it says more and counts as full. Else prove '..UptoSaid'. A law counts once. -/
mutual
def uptoBulk {H : Type} : DataW H → Nat
  | .lit (.string bytes) => bytes.length + 1
  | .lit _ => 1
  | .nil => 1
  | .ptr d => uptoBulk d + 1
  | .slice elems spare => uptoBulkAll elems + uptoBulkAll spare + 1
  | .agg parts => uptoBulkAll parts + 1
  | .iface _ d => uptoBulk d + 1
  | .map entries => uptoBulkEntries entries + 1
  | .held _ => 1
def uptoBulkAll {H : Type} : List (DataW H) → Nat
  | [] => 0
  | d :: r => uptoBulk d + uptoBulkAll r
def uptoBulkEntries {H : Type} : List (Lit × DataW H) → Nat
  | [] => 0
  | x :: r => uptoBulkEntry x + uptoBulkEntries r
def uptoBulkEntry {H : Type} : Lit × DataW H → Nat
  | (.string bytes, d) => bytes.length + uptoBulk d + 1
  | (_, d) => uptoBulk d + 1
 end
def uptoSmall : (H : Type) → List (DataW H) → Bool := fun _ ds => decide (uptoBulkAll ds ≤ 1048576)
def OpenSpec.upto (s : _root_.Go.ChangeSpec) : _root_.Go.OpenSpec := { _root_.Go.OpenSpec.ofChange s with cond := some uptoSmall }

/-- 'carillonlaw13.DepsTell', WHERE WHAT IT READS IS OF BULK AT MOST 1048576: true; the input reads as it did. -/
def depsTellUptoRow : OpenClaim := { program := "ytdfpoemghnhlfaa", sum := "b2e1d124312c3b385b915e5aa503af4391be01521993fd5e95b898d4e9a2576e", func := "carillon/carillonlaw13.DepsTell", spec := "depsTell", unfollowed := true, recurses := true, apart := false, narrowed := true }
def DepsTellUptoSaid : Prop := depsTellUptoRow.holds Try.pinned (OpenSpec.upto depsTellSpec)

/-- 'carillonlaw13.DepsPlaces', WHERE WHAT IT READS IS OF BULK AT MOST 1048576: true; the input reads as it did. -/
def depsPlacesUptoRow : OpenClaim := { program := "ytdfpoemghnhlfaa", sum := "b2e1d124312c3b385b915e5aa503af4391be01521993fd5e95b898d4e9a2576e", func := "carillon/carillonlaw13.DepsPlaces", spec := "depsPlaces", unfollowed := true, recurses := true, apart := false, narrowed := true }
def DepsPlacesUptoSaid : Prop := depsPlacesUptoRow.holds Try.pinned (OpenSpec.upto depsPlacesSpec)

/-- 'carillonlaw13.DepsEach', WHERE WHAT IT READS IS OF BULK AT MOST 1048576: true; the input reads as it did. -/
def depsEachUptoRow : OpenClaim := { program := "ytdfpoemghnhlfaa", sum := "b2e1d124312c3b385b915e5aa503af4391be01521993fd5e95b898d4e9a2576e", func := "carillon/carillonlaw13.DepsEach", spec := "depsEach", unfollowed := true, recurses := true, apart := false, narrowed := true }
def DepsEachUptoSaid : Prop := depsEachUptoRow.holds Try.pinned (OpenSpec.upto depsEachSpec)

/-- 'carillonlaw13.DepsBehind', WHERE WHAT IT READS IS OF BULK AT MOST 1048576: true; the input reads as it did. -/
def depsBehindUptoRow : OpenClaim := { program := "ytdfpoemghnhlfaa", sum := "b2e1d124312c3b385b915e5aa503af4391be01521993fd5e95b898d4e9a2576e", func := "carillon/carillonlaw13.DepsBehind", spec := "depsBehind", unfollowed := true, recurses := true, apart := false, narrowed := true }
def DepsBehindUptoSaid : Prop := depsBehindUptoRow.holds Try.pinned (OpenSpec.upto depsBehindSpec)

end Rows
end Go.Proofs.Ytdfpoemghnhlfaa
