/-
  Large is total.
  Conditions: each theorem's own.
-/
import Derived.Test.YtdfpoemghnhlfaaPb
import Derived.Test.YtdfpoemghnhlfaaPx2
set_option linter.unusedVariables false
set_option linter.unusedSimpArgs false
namespace Go.Proofs.Ytdfpoemghnhlfaa.P
open Go.RowKit Big Go.Proofs.YtdfpoemghnhlfaaW.PrintWords Go.Proofs.YtdfpoemghnhlfaaW.PrintLast Go.Proofs.YtdfpoemghnhlfaaW.PrintMore

theorem large_loop (l : List S48) : ∀ (n j k : Nat) (p : Int), j + n = 100 → 3 * n + 3 ≤ k → ∃ b, carillonlaw13_large.l0 k l p (j : Int) = some b ∧ (b = false → l.length ≤ 40) := by
  have done : ∀ k p (j : Nat), 100 ≤ j ∨ l.length ≤ j → ∃ b, carillonlaw13_large.l0 (k + 2) l p (j : Int) = some b ∧ (b = false → l.length ≤ 40) := by
    intro k p j h
    refine ⟨decide ((l.length : Int) > 40), ?_, fun h => by have := of_decide_eq_false h; omega⟩
    rw [carillonlaw13_large.l0]
    by_cases h1 : (j : Int) < (l.length : Int)
    · rw [if_pos h1, carillonlaw13_large.j1, if_neg (by simp; omega)]
    · rw [if_neg h1, carillonlaw13_large.j1, if_neg (by decide)]
  intro n
  induction n with
  | zero =>
    intro j k p hj hk
    obtain ⟨k, rfl⟩ : ∃ q, k = q + 2 := ⟨k - 2, by omega⟩
    exact done k p j (Or.inl (by omega))
  | succ n ih =>
    intro j k p hj hk
    by_cases h1 : (j : Int) < (l.length : Int)
    · obtain ⟨k, rfl⟩ : ∃ q, k = q + 1 + 1 + 1 := ⟨k - 3, by omega⟩
      have hw : wrap64 ((j : Int) + 1) = ((j + 1 : Nat) : Int) := by rw [wrap_in (by omega) (by omega)]; omega
      have c1 : (0 : Int) ≤ (j : Int) := Int.natCast_nonneg _
      have next : ∀ p', ∃ b, carillonlaw13_large.l0 k l p' ((j + 1 : Nat) : Int) = some b ∧ (b = false → l.length ≤ 40) := fun p' => ih (j + 1) k p' (by omega) (by omega)
      rw [carillonlaw13_large.l0, if_pos h1, carillonlaw13_large.j1, if_pos (by simp; omega), if_pos c1, if_pos h1]
      simp only [carillonlaw13_large.j2, hw, if_pos c1, if_pos h1]
      repeat' split
      all_goals first | exact next _ | exact ⟨true, rfl, fun h => by cases h⟩ | exact absurd ‹_› (by simp)
    · obtain ⟨k, rfl⟩ : ∃ q, k = q + 2 := ⟨k - 2, by omega⟩
      exact done k p j (Or.inr (by omega))

end Go.Proofs.Ytdfpoemghnhlfaa.P
