/-
  WordsEach's code in pieces; what is added and taken away is as before.
  Conditions: each theorem's own.
-/
import Derived.Test.YtpcnapmlmhhcpaaCe
import Derived.WalkKit
import Derived.WalkSpells
import Derived.WalkLawsBesides
import Derived.Deep.QuietTactic
import Derived.BigQuiet
import Derived.Lib.Hide
import Derived.Handy
set_option linter.unusedVariables false
set_option linter.unusedSimpArgs false
namespace Go.Proofs.Ytpcnapmlmhhcpaa
open Go.RowKit 
open Big
theorem same_diff {a1 a2 b1 b2 x y p q : List Int} (h1 : zipF 1 a1 a2 b1 b2 = (x, y, 0)) (h2 : zipF 2 x y b1 b2 = (p, q, 0)) : same p q a1 a2 = true := by
  obtain ⟨m1, m2, z1, _⟩ := zipF_ok (op := 1) (a := a1) (b := a2) (c := b1) (d := b2) (by rw [h1])
  obtain ⟨_, _, z2, _⟩ := zipF_ok (op := 2) (a := x) (b := y) (c := b1) (d := b2) (by rw [h2])
  rw [h1] at z1
  rw [h2] at z2
  have w := z2.is
  simp only at w z1
  rw [z1.is.num] at w
  refine same_is m1 ?_ z2.hl z2.ll
  have e : (fun i => zV 2 (zV 1 (num a1 a2 i) (num b1 b2 i)) (num b1 b2 i)) = num a1 a2 := by
    funext i
    have o1 := z1.ok i
    have o2 := z2.ok i
    rw [z1.is.num] at o2
    change zB 2 (zV 1 (num a1 a2 i) (num b1 b2 i)) (num b1 b2 i) = true at o2
    have f1 : zV 1 (num a1 a2 i) (num b1 b2 i) = num a1 a2 i + num b1 b2 i := fit_of o1
    rw [f1] at o2 ⊢
    have f2 : zV 2 (num a1 a2 i + num b1 b2 i) (num b1 b2 i) = num a1 a2 i + num b1 b2 i - num b1 b2 i := fit_of o2
    rw [f2]
    omega
  rw [e] at w
  exact w
/-- A row of statements, without its first ones. -/
def seqTail : Nat → Code → Code
  | 0, c => c
  | n + 1, .seq _ b => seqTail n b
  | _ + 1, c => c
noncomputable def eachC (k : Nat) : Code := seqTail k (Try.f5.body.getD .skip)
end Go.Proofs.Ytpcnapmlmhhcpaa
