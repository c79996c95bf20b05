/-
  carillonlaw01: the laws return true at every two int64s.
-/
import Derived.Test.YtncohomkggnckaaFl
set_option linter.unusedVariables false
set_option linter.unusedSimpArgs false
namespace Go.Proofs.Ytncohomkggnckaa
open Go.RowKit Big

set_option maxHeartbeats 400000 in
theorem alive_any (w : World) : Calls Try.prog 12 #[] w fun e w' => e = .returned (.bool true) ∧ w = w' := by
  go_enter Try.func12, Try.ntmps12
  go_wp2_with fail
  refine (num_add 2 3 _ (by omega) (by omega) (by omega) (by omega)).mono ?_
  rintro e w' ⟨rfl, rfl⟩
  rw [show fitV (2 + 3) = 5 by decide +kernel, show fitB (2 + 3) = true by decide +kernel]
  go_wp2_with fail
  refine (num_add 9223372036854775807 1 _ (by omega) (by omega) (by omega) (by omega)).mono ?_
  rintro e w' ⟨rfl, rfl⟩
  rw [show fitV (9223372036854775807 + 1) = 0 by decide +kernel, show fitB (9223372036854775807 + 1) = false by decide +kernel]
  go_wp2_with fail
  refine (num_gcd (-12) 18 _ (by omega) (by omega) (by omega) (by omega)).mono ?_
  rintro e w' ⟨rfl, rfl⟩
  rw [show fitV ((Nat.gcd (-12 : Int).natAbs (18 : Int).natAbs : Nat) : Int) = 6 by decide +kernel, show fitB ((Nat.gcd (-12 : Int).natAbs (18 : Int).natAbs : Nat) : Int) = true by decide +kernel]
  go_wp2_with fail
  refine (num_div (-7) 2 _ (by omega) (by omega) (by omega) (by omega)).mono ?_
  rintro e w' ⟨rfl, rfl⟩
  rw [show divV (-7) 2 = -3 by decide +kernel]
  go_wp2_with fail
  refine (num_mod (-7) 2 _ (by omega) (by omega) (by omega) (by omega)).mono ?_
  rintro e w' ⟨rfl, rfl⟩
  rw [show modV (-7) 2 = -1 by decide +kernel]
  go_wp2_with fail
  go_ret
  exact ⟨rfl, rfl⟩
end Go.Proofs.Ytncohomkggnckaa
