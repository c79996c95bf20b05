/-
  No cell of these rows narrows 'for every input' (looked for: loops, veiled, ifaces, maps, wideKeys, modest, calm, conditions, laid).
  DERIVED. THE GIVEN ROWS OF THIS SEAT. 5 by the template 'for every input the law returns true; each argument reads behind the call as it read before'; 0 by the template 'total and deterministic' (their statements: YtpcnapmlmhhcpaaTotals.lean).
  GIVEN WITH THE SEED: the statements are not yours to turn. If you find one false, say at which input.
  Laid BY PROGRAM, IN A SANDBOX (cutbox-rows.mjs): the forced cells as the released guide's own fill.sh prints them over the translation f8d4db0f5a01df2f… (all of the seat's roots in one cut). By AI agents, Wed Nov 11 2026. No macro, syntax, notation, axiom, sorry.
-/
import Derived.Test.YtpcnapmlmhhcpaaChecked
import GoSem.Claim
import GoSem.ClaimJoined
import GoSem.ClaimMapViews
import Derived.JoinedTies
import Derived.KernelRfl
namespace Go.Proofs.Ytpcnapmlmhhcpaa
/- THE CELL 'sum', in the pinned program and in every row, IS THE sha256 OF THE DUMP (.gsa) THAT YtpcnapmlmhhcpaaProg.lean LOADS. Nothing in Lean hashes anything: it is a label: what it is worth is what the hold of that sum in a sandbox is worth. -/
noncomputable def Try.pinned : Pinned := { name := "ytpcnapmlmhhcpaa", sum := "f8d4db0f5a01df2f014ca26d53f6bbe62349f11324f7783e85131fcd5b494c27", checked := Try.checked }
namespace Rows
def none {H : Type} : Left H := { results := [], args := [] }

/-- 'carillonlaw12.WordsZips': WHATEVER THE INPUT: true; the input reads as it did. -/
def wordsZipsSpec : ChangeSpec := { name := "wordsZips", fn := fun _ => fun
  | [d1, d2, d3] => { results := [.lit (.bool true)], args := [d1, d2, d3] }
  | _ => none }
def wordsZipsRow : OpenClaim := { program := "ytpcnapmlmhhcpaa", sum := "f8d4db0f5a01df2f014ca26d53f6bbe62349f11324f7783e85131fcd5b494c27", func := "carillon/carillonlaw12.WordsZips", spec := "wordsZips", unfollowed := true, recurses := true, apart := false }
def WordsZipsSaid : Prop := wordsZipsRow.holds Try.pinned (OpenSpec.ofChange wordsZipsSpec)

/-- ITS FALSE NEIGHBOUR: 'it returns false'. Refute it at one input. -/
def wordsZipsWrong : ChangeSpec := { name := "wordsZips", fn := fun _ => fun
  | [d1, d2, d3] => { results := [.lit (.bool false)], args := [d1, d2, d3] }
  | _ => none }
def WordsZipsWrongFalsely : Prop := wordsZipsRow.holds Try.pinned (OpenSpec.ofChange wordsZipsWrong)

/-- 'carillonlaw12.WordsMake': WHATEVER THE INPUT: true; the input reads as it did. -/
def wordsMakeSpec : ChangeSpec := { name := "wordsMake", fn := fun _ => fun
  | [d1, d2, d3, d4, d5] => { results := [.lit (.bool true)], args := [d1, d2, d3, d4, d5] }
  | _ => none }
def wordsMakeRow : OpenClaim := { program := "ytpcnapmlmhhcpaa", sum := "f8d4db0f5a01df2f014ca26d53f6bbe62349f11324f7783e85131fcd5b494c27", func := "carillon/carillonlaw12.WordsMake", spec := "wordsMake", unfollowed := true, recurses := true, apart := false }
def WordsMakeSaid : Prop := wordsMakeRow.holds Try.pinned (OpenSpec.ofChange wordsMakeSpec)

/-- ITS FALSE NEIGHBOUR: 'it returns false'. Refute it at one input. -/
def wordsMakeWrong : ChangeSpec := { name := "wordsMake", fn := fun _ => fun
  | [d1, d2, d3, d4, d5] => { results := [.lit (.bool false)], args := [d1, d2, d3, d4, d5] }
  | _ => none }
def WordsMakeWrongFalsely : Prop := wordsMakeRow.holds Try.pinned (OpenSpec.ofChange wordsMakeWrong)

/-- 'carillonlaw12.WordsEach': WHATEVER THE INPUT: true; the input reads as it did. -/
def wordsEachSpec : ChangeSpec := { name := "wordsEach", fn := fun _ => fun
  | [d1, d2, d3, d4, d5] => { results := [.lit (.bool true)], args := [d1, d2, d3, d4, d5] }
  | _ => none }
def wordsEachRow : OpenClaim := { program := "ytpcnapmlmhhcpaa", sum := "f8d4db0f5a01df2f014ca26d53f6bbe62349f11324f7783e85131fcd5b494c27", func := "carillon/carillonlaw12.WordsEach", spec := "wordsEach", unfollowed := true, recurses := true, apart := false }
def WordsEachSaid : Prop := wordsEachRow.holds Try.pinned (OpenSpec.ofChange wordsEachSpec)

/-- ITS FALSE NEIGHBOUR: 'it returns false'. Refute it at one input. -/
def wordsEachWrong : ChangeSpec := { name := "wordsEach", fn := fun _ => fun
  | [d1, d2, d3, d4, d5] => { results := [.lit (.bool false)], args := [d1, d2, d3, d4, d5] }
  | _ => none }
def WordsEachWrongFalsely : Prop := wordsEachRow.holds Try.pinned (OpenSpec.ofChange wordsEachWrong)

/-- 'carillonlaw12.WordsTell': WHATEVER THE INPUT: true; the input reads as it did. -/
def wordsTellSpec : ChangeSpec := { name := "wordsTell", fn := fun _ => fun
  | [d1, d2, d3] => { results := [.lit (.bool true)], args := [d1, d2, d3] }
  | _ => none }
def wordsTellRow : OpenClaim := { program := "ytpcnapmlmhhcpaa", sum := "f8d4db0f5a01df2f014ca26d53f6bbe62349f11324f7783e85131fcd5b494c27", func := "carillon/carillonlaw12.WordsTell", spec := "wordsTell", unfollowed := true, recurses := true, apart := false }
def WordsTellSaid : Prop := wordsTellRow.holds Try.pinned (OpenSpec.ofChange wordsTellSpec)

/-- ITS FALSE NEIGHBOUR: 'it returns false'. Refute it at one input. -/
def wordsTellWrong : ChangeSpec := { name := "wordsTell", fn := fun _ => fun
  | [d1, d2, d3] => { results := [.lit (.bool false)], args := [d1, d2, d3] }
  | _ => none }
def WordsTellWrongFalsely : Prop := wordsTellRow.holds Try.pinned (OpenSpec.ofChange wordsTellWrong)

/-- 'carillonlaw12.WordsNone': WHATEVER THE INPUT: true; the input reads as it did. -/
def wordsNoneSpec : ChangeSpec := { name := "wordsNone", fn := fun _ => fun
  | [d1, d2, d3] => { results := [.lit (.bool true)], args := [d1, d2, d3] }
  | _ => none }
def wordsNoneRow : OpenClaim := { program := "ytpcnapmlmhhcpaa", sum := "f8d4db0f5a01df2f014ca26d53f6bbe62349f11324f7783e85131fcd5b494c27", func := "carillon/carillonlaw12.WordsNone", spec := "wordsNone", unfollowed := true, recurses := true, apart := false }
def WordsNoneSaid : Prop := wordsNoneRow.holds Try.pinned (OpenSpec.ofChange wordsNoneSpec)

/-- ITS FALSE NEIGHBOUR: 'it returns false'. Refute it at one input. -/
def wordsNoneWrong : ChangeSpec := { name := "wordsNone", fn := fun _ => fun
  | [d1, d2, d3] => { results := [.lit (.bool false)], args := [d1, d2, d3] }
  | _ => none }
def WordsNoneWrongFalsely : Prop := wordsNoneRow.holds Try.pinned (OpenSpec.ofChange wordsNoneWrong)

/- THE SECOND FORM. 'bulk': how many values and letters a reading holds, each counted each time it is reached (what is shared counts as often as it is met; a slice's spare places count too). A statement '..UptoSaid' is the law's where the arguments, and the package variables that the reading takes, are together of bulk at most 1048576: NARROWER than '..Said'. Prove '..Said' where nothing that the law and all that it calls make is longer than what came in: it says more and counts as full. Else prove '..UptoSaid'. A law counts once. -/
mutual
def uptoBulk {H : Type} : DataW H → Nat
  | .lit (.string bytes) => bytes.length + 1
  | .lit _ => 1
  | .nil => 1
  | .ptr d => uptoBulk d + 1
  | .slice elems spare => uptoBulkAll elems + uptoBulkAll spare + 1
  | .agg parts => uptoBulkAll parts + 1
  | .iface _ d => uptoBulk d + 1
  | .map entries => uptoBulkEntries entries + 1
  | .held _ => 1
def uptoBulkAll {H : Type} : List (DataW H) → Nat
  | [] => 0
  | d :: r => uptoBulk d + uptoBulkAll r
def uptoBulkEntries {H : Type} : List (Lit × DataW H) → Nat
  | [] => 0
  | x :: r => uptoBulkEntry x + uptoBulkEntries r
def uptoBulkEntry {H : Type} : Lit × DataW H → Nat
  | (.string bytes, d) => bytes.length + uptoBulk d + 1
  | (_, d) => uptoBulk d + 1
 end
def uptoSmall : (H : Type) → List (DataW H) → Bool := fun _ ds => decide (uptoBulkAll ds ≤ 1048576)
def OpenSpec.upto (s : _root_.Go.ChangeSpec) : _root_.Go.OpenSpec := { _root_.Go.OpenSpec.ofChange s with cond := some uptoSmall }

/-- 'carillonlaw12.WordsZips', WHERE WHAT IT READS IS OF BULK AT MOST 1048576: true; the input reads as it did. -/
def wordsZipsUptoRow : OpenClaim := { program := "ytpcnapmlmhhcpaa", sum := "f8d4db0f5a01df2f014ca26d53f6bbe62349f11324f7783e85131fcd5b494c27", func := "carillon/carillonlaw12.WordsZips", spec := "wordsZips", unfollowed := true, recurses := true, apart := false, narrowed := true }
def WordsZipsUptoSaid : Prop := wordsZipsUptoRow.holds Try.pinned (OpenSpec.upto wordsZipsSpec)

/-- 'carillonlaw12.WordsMake', WHERE WHAT IT READS IS OF BULK AT MOST 1048576: true; the input reads as it did. -/
def wordsMakeUptoRow : OpenClaim := { program := "ytpcnapmlmhhcpaa", sum := "f8d4db0f5a01df2f014ca26d53f6bbe62349f11324f7783e85131fcd5b494c27", func := "carillon/carillonlaw12.WordsMake", spec := "wordsMake", unfollowed := true, recurses := true, apart := false, narrowed := true }
def WordsMakeUptoSaid : Prop := wordsMakeUptoRow.holds Try.pinned (OpenSpec.upto wordsMakeSpec)

/-- 'carillonlaw12.WordsEach', WHERE WHAT IT READS IS OF BULK AT MOST 1048576: true; the input reads as it did. -/
def wordsEachUptoRow : OpenClaim := { program := "ytpcnapmlmhhcpaa", sum := "f8d4db0f5a01df2f014ca26d53f6bbe62349f11324f7783e85131fcd5b494c27", func := "carillon/carillonlaw12.WordsEach", spec := "wordsEach", unfollowed := true, recurses := true, apart := false, narrowed := true }
def WordsEachUptoSaid : Prop := wordsEachUptoRow.holds Try.pinned (OpenSpec.upto wordsEachSpec)

/-- 'carillonlaw12.WordsTell', WHERE WHAT IT READS IS OF BULK AT MOST 1048576: true; the input reads as it did. -/
def wordsTellUptoRow : OpenClaim := { program := "ytpcnapmlmhhcpaa", sum := "f8d4db0f5a01df2f014ca26d53f6bbe62349f11324f7783e85131fcd5b494c27", func := "carillon/carillonlaw12.WordsTell", spec := "wordsTell", unfollowed := true, recurses := true, apart := false, narrowed := true }
def WordsTellUptoSaid : Prop := wordsTellUptoRow.holds Try.pinned (OpenSpec.upto wordsTellSpec)

/-- 'carillonlaw12.WordsNone', WHERE WHAT IT READS IS OF BULK AT MOST 1048576: true; the input reads as it did. -/
def wordsNoneUptoRow : OpenClaim := { program := "ytpcnapmlmhhcpaa", sum := "f8d4db0f5a01df2f014ca26d53f6bbe62349f11324f7783e85131fcd5b494c27", func := "carillon/carillonlaw12.WordsNone", spec := "wordsNone", unfollowed := true, recurses := true, apart := false, narrowed := true }
def WordsNoneUptoSaid : Prop := wordsNoneUptoRow.holds Try.pinned (OpenSpec.upto wordsNoneSpec)

end Rows
end Go.Proofs.Ytpcnapmlmhhcpaa
