/-
  A chain behind a chain.
  Conditions: each theorem's own.
-/
import Derived.Test.YtdfpoemghnhlfaaPd
import Derived.Test.YtdfpoemghnhlfaaPx5
set_option linter.unusedVariables false
set_option linter.unusedSimpArgs false
namespace Go.Proofs.Ytdfpoemghnhlfaa.P
open Go.RowKit Big Go.Proofs.YtdfpoemghnhlfaaW.PrintWords Go.Proofs.YtdfpoemghnhlfaaW.PrintLast Go.Proofs.YtdfpoemghnhlfaaW.PrintMore

theorem goOf_append (s t : List S48) : ∀ a, goOf (s ++ t) a = if (goOf s a).1 = true ∨ (goOf s a).2.2.2 ≠ 0 then goOf s a else goOf t (goOf s a).2.2.1 := by
  induction s with
  | nil => intro a; simp [goOf]
  | cons x s ih =>
    intro a
    rw [List.cons_append, goOf, goOf]
    by_cases h4 : x.f0 = 4
    · simp only [if_pos h4]; exact ih _
    simp only [if_neg h4]
    by_cases h5 : x.f0 = 5
    · simp only [if_pos h5]
      by_cases hf : fitB (a * x.f1) = true
      · simp only [if_pos hf]; exact ih _
      · simp only [if_neg hf]; simp
    simp only [if_neg h5]
    by_cases h12 : x.f0 = 1 ∨ x.f0 = 2
    · simp only [if_pos h12]
      by_cases hz : a = 0
      · simp only [if_pos hz]; simp
      · simp only [if_neg hz]; exact ih _
    simp only [if_neg h12]
    by_cases h3 : x.f0 = 3
    · simp only [if_pos h3]
      by_cases hf : fitB (a + 1) = true
      · simp only [if_pos hf]; exact ih _
      · simp only [if_neg hf]; simp
    simp only [if_neg h3]
    exact ih _
theorem goOf_in (s : List S48) (hm : ∀ x ∈ s, mayK x = true) : ∀ a, 0 ≤ a → a ≤ 9223372036854775807 → 0 ≤ (goOf s a).2.2.1 ∧ (goOf s a).2.2.1 ≤ 9223372036854775807 ∧ ((goOf s a).1 = true → (goOf s a).2.2.2 = 0) := by
  induction s with
  | nil => intro a h1 h2; exact ⟨h1, h2, fun c => by cases c⟩
  | cons x s ih =>
    intro a h1 h2
    have ih := ih (fun y hy => hm y (List.mem_cons_of_mem _ hy))
    have hx := may_k (hm x (List.mem_cons_self ..))
    have z7 : 0 ≤ ((false, 0, 0, 7) : Bool × Int × Int × Int).2.2.1 ∧ ((false, 0, 0, 7) : Bool × Int × Int × Int).2.2.1 ≤ 9223372036854775807 ∧ (((false, 0, 0, 7) : Bool × Int × Int × Int).1 = true → ((false, 0, 0, 7) : Bool × Int × Int × Int).2.2.2 = 0) := ⟨by simp, by simp, fun c => by cases c⟩
    rw [goOf]
    by_cases h4 : x.f0 = 4
    · rw [if_pos h4]
      have := ediv_in (b := x.f1) h1 (hx.1 h4)
      exact ih _ this.1 (by omega)
    rw [if_neg h4]
    by_cases h5 : x.f0 = 5
    · rw [if_pos h5]
      by_cases hf : fitB (a * x.f1) = true
      · obtain ⟨e, _, g⟩ := fit_pos hf
        rw [if_pos hf, e]
        exact ih _ (Int.mul_nonneg h1 (by have := hx.2 h5; omega)) g
      · rw [if_neg hf]; exact z7
    rw [if_neg h5]
    by_cases h12 : x.f0 = 1 ∨ x.f0 = 2
    · rw [if_pos h12]
      by_cases hz : a = 0
      · rw [if_pos hz]; exact ⟨by simp, by simp, fun _ => rfl⟩
      · rw [if_neg hz]; exact ih _ (by omega) (by omega)
    rw [if_neg h12]
    by_cases h3 : x.f0 = 3
    · rw [if_pos h3]
      by_cases hf : fitB (a + 1) = true
      · obtain ⟨e, _, g⟩ := fit_pos hf
        rw [if_pos hf, e]
        exact ih _ (by omega) g
      · rw [if_neg hf]; exact z7
    rw [if_neg h3]
    exact ih _ h1 h2
theorem Of_f (l : List S48) (hi : ∀ x ∈ l, -9223372036854775808 ≤ x.f1 ∧ x.f1 ≤ 9223372036854775807) (hl : l.length ≤ 4096) (n : Int) (hn : n ≤ 9223372036854775807) (k : Nat) (hk : 2 * l.length + 8 ≤ k) :
    deps_Of.f k l n = some (if mayL l = true ∧ 0 ≤ n then goOf l.reverse n else (false, 0, 0, 2)) := by
  unfold deps_Of.f
  rw [mayAll_f l (by omega) _ (by omega)]
  simp only [Option.bind_some]
  cases hm : mayL l with
  | false => simp
  | true =>
    have g : Good l := ⟨hi, fun x hx => by unfold mayL at hm; rw [Bool.and_eq_true] at hm; exact List.all_eq_true.1 hm.1 x hx, hl⟩
    by_cases h0 : n < 0
    · rw [if_pos rfl, if_pos h0, if_neg (by omega)]
    · rw [if_pos rfl, if_neg h0, if_pos ⟨rfl, by omega⟩, of_f g n k (by omega) hn (by omega)]
      rfl
theorem mayL_append (a b : List S48) (hl : a.length + b.length ≤ 4096) : mayL (a ++ b) = (mayL a && mayL b) := by
  unfold mayL
  rw [List.all_append, decide_eq_true (by rw [List.length_append]; exact hl), decide_eq_true (by omega : a.length ≤ 4096), decide_eq_true (by omega : b.length ≤ 4096)]
  simp

end Go.Proofs.Ytdfpoemghnhlfaa.P
