/-
  DepsTell: the plain law.
  Conditions: each theorem's own.
-/
import Derived.Test.YtdfpoemghnhlfaaPf
import Derived.Test.YtdfpoemghnhlfaaPx10
set_option linter.unusedVariables false
set_option linter.unusedSimpArgs false
namespace Go.Proofs.Ytdfpoemghnhlfaa.P
open Go.RowKit Big Go.Proofs.YtdfpoemghnhlfaaW.PrintWords Go.Proofs.YtdfpoemghnhlfaaW.PrintLast Go.Proofs.YtdfpoemghnhlfaaW.PrintMore

/-- The plain law of DepsTell. -/
theorem DepsTell_f (l : List S48) (n : Int) (hi : ∀ x ∈ l, -9223372036854775808 ≤ x.f1 ∧ x.f1 ≤ 9223372036854775807) (hn : n ≤ 9223372036854775807) : carillonlaw13_DepsTell.f 20000 l n = some true := by
  obtain ⟨b, hb, hb2⟩ := large_loop l 100 0 20000 1 (by omega) (by omega)
  have hlf : carillonlaw13_large.f 20000 l = some b := hb
  unfold carillonlaw13_DepsTell.f
  rw [hlf]
  simp only [Option.bind_some, carillonlaw13_works.f, List.nil_append, List.length_nil, Nat.zero_add]
  cases b with
  | true => rfl
  | false =>
    have h40 := hb2 rfl
    rw [if_neg (by decide), if_pos (by omega), RmayAll_f l (by omega) _ (by omega)]
    unfold deps_Of.f
    rw [mayAll_f l (by omega) _ (by omega)]
    simp only [Option.bind_some]
    cases hm : mayL l with
    | false =>
      have hA : deps_All.f 20000 l = some ([], [], 0, 2) := by
        unfold deps_All.f
        rw [mayAll_f l (by omega) _ (by omega), hm]; rfl
      rw [hA]
      have hS := Same_refl [] [] 0 (by simp) (by simp) 20000 (by simp)
      simp only [Option.bind_some, Bool.false_eq_true, if_false, hS]
      rfl
    | true =>
      have g : Good l := ⟨hi, fun x hx => by unfold mayL at hm; rw [Bool.and_eq_true] at hm; exact List.all_eq_true.1 hm.1 x hx, by omega⟩
      obtain ⟨⟨H, Lo, st, er⟩, e1, e2, e3, e4⟩ := All_same g 20000 (by omega)
      have hS := Same_refl H Lo st (by simp at e3; omega) (by simp at e4; omega) 20000 (by simp at e3 e4; omega)
      rw [e1, e2]
      by_cases h0 : n < 0
      · simp only [Option.bind_some, if_true, if_pos h0, hS]
        rw [carillonlaw13_DepsTell.j0]
        simp [h0, carillonlaw13_works.f]
      · simp only [Option.bind_some, if_true, if_neg h0, of_f g n 20000 (by omega) hn (by omega), hS]
        rw [carillonlaw13_DepsTell.j0, Rof_f g n _ (by omega) hn (by omega)]
        simp [h0, carillonlaw13_works.f]

end Go.Proofs.Ytdfpoemghnhlfaa.P
