/-
  DepsBehind: the plain law.
  Conditions: each theorem's own.
-/
import Derived.Test.YtdfpoemghnhlfaaPe
import Derived.Test.YtdfpoemghnhlfaaPj
import Derived.Test.YtdfpoemghnhlfaaPf
import Derived.Test.YtdfpoemghnhlfaaPx15
set_option linter.unusedVariables false
set_option linter.unusedSimpArgs false
namespace Go.Proofs.Ytdfpoemghnhlfaa.P
open Go.RowKit Big Go.Proofs.YtdfpoemghnhlfaaW.PrintWords Go.Proofs.YtdfpoemghnhlfaaW.PrintLast Go.Proofs.YtdfpoemghnhlfaaW.PrintMore

/-- The plain law of DepsBehind. -/
theorem DepsBehind_f (a b : List S48) (n : Int) (ha : ∀ x ∈ a, -9223372036854775808 ≤ x.f1 ∧ x.f1 ≤ 9223372036854775807) (hb : ∀ x ∈ b, -9223372036854775808 ≤ x.f1 ∧ x.f1 ≤ 9223372036854775807) (h0 : 0 ≤ n) (h1 : n ≤ 65535) : carillonlaw13_DepsBehind.f 20000 a b n = some true := by
  have wk : ∀ k, carillonlaw13_DepsBehind.j0 (k + 1) a b n true = some true := by
    intro k
    rw [carillonlaw13_DepsBehind.j0, if_pos rfl, carillonlaw13_works.f]
    rfl
  obtain ⟨ta, ea, la⟩ := large_loop a 100 0 20000 1 (by omega) (by omega)
  obtain ⟨tb, eb, lb⟩ := large_loop b 100 0 20000 1 (by omega) (by omega)
  have ea' : carillonlaw13_large.f 20000 a = some ta := ea
  have eb' : carillonlaw13_large.f 20000 b = some tb := eb
  unfold carillonlaw13_DepsBehind.f
  rw [ea']
  simp only [Option.bind_some]
  cases ta with
  | true => rw [if_pos rfl]; exact wk 19999
  | false =>
    rw [if_neg (by decide), eb']
    simp only [Option.bind_some]
    cases tb with
    | true => exact wk 19999
    | false =>
      have la := la rfl
      have lb := lb rfl
      have hab : ∀ x ∈ a ++ b, -9223372036854775808 ≤ x.f1 ∧ x.f1 ≤ 9223372036854775807 := fun x hx => (List.mem_append.1 hx).elim (ha x) (hb x)
      rw [carillonlaw13_DepsBehind.j0, if_neg (by decide), if_pos (by simp; omega)]
      simp only [Option.bind_some, List.nil_append]
      rw [if_pos (by omega), wrap_in (v := n) (by omega) (by omega), Of_f (a ++ b) hab (by rw [List.length_append]; omega) n (by omega) _ (by rw [List.length_append]; omega), Of_f b hb (by omega) n (by omega) _ (by omega), mayL_append a b (by omega)]
      simp only [Option.bind_some, carillonlaw13_works.f]
      cases mb : mayL b with
      | false => simp
      | true =>
        have gm : ∀ x ∈ b.reverse, mayK x = true := fun x hx => by
          unfold mayL at mb; rw [Bool.and_eq_true] at mb; exact List.all_eq_true.1 mb.1 x (List.mem_reverse.1 hx)
        obtain ⟨g1, g2, g3⟩ := goOf_in b.reverse gm n h0 (by omega)
        have ap := goOf_append b.reverse a.reverse n
        rw [List.reverse_append, ap]
        rw [if_pos (⟨rfl, h0⟩ : true = true ∧ 0 ≤ n)]
        generalize goOf b.reverse n = y at *
        obtain ⟨t, v, p, e⟩ := y
        simp only at g1 g2 g3 ⊢
        rw [Of_f a ha (by omega) 0 (by omega) _ (by omega), Of_f a ha (by omega) p g2 _ (by omega)]
        simp only [Option.bind_some, Bool.and_true]
        by_cases he : e = 0
        · rw [if_pos he]
          cases t with
          | true => cases ma : mayL a <;> simp [he, h0]
          | false => cases ma : mayL a <;> simp [he, h0, g1]
        · rw [if_neg he]
          cases ma : mayL a <;> simp [he, h0]

end Go.Proofs.Ytdfpoemghnhlfaa.P
