/-
  The links that may be, and a value's source, in the program.
  Conditions: each theorem's own.
-/
import Derived.Test.YtdfpoemghnhlfaaPa
import Derived.Test.YtdfpoemghnhlfaaPx3
import Derived.Test.YtdfpoemghnhlfaaPx4
set_option linter.unusedVariables false
set_option linter.unusedSimpArgs false
namespace Go.Proofs.Ytdfpoemghnhlfaa.P
open Go.RowKit Big Go.Proofs.YtdfpoemghnhlfaaW.PrintWords Go.Proofs.YtdfpoemghnhlfaaW.PrintLast Go.Proofs.YtdfpoemghnhlfaaW.PrintMore

/-- What a link may be. -/
def mayK (x : S48) : Bool :=
  if x.f0 = 1 ∨ x.f0 = 2 then decide (x.f1 = 0 ∧ x.f2 = 0 ∧ (x.f4 = 1 ∨ x.f4 = 2 ∧ (x.f3 = 0 ∨ x.f3 = 1)))
  else if x.f0 = 3 then decide (x.f1 = 0 ∧ x.f2 = 0 ∧ x.f3 = 0 ∧ x.f4 = 0)
  else if x.f0 = 4 ∨ x.f0 = 5 then decide (1 ≤ x.f1 ∧ x.f2 = 0 ∧ x.f3 = 0 ∧ x.f4 = 0)
  else if x.f0 = 6 then decide (0 ≤ x.f1 ∧ 1 ≤ x.f2 ∧ x.f3 = 0 ∧ x.f4 = 0) else false
theorem mayLink_f (x : S48) (k : Nat) : deps_mayLink.f (k + 4) x.f0 x.f1 x.f2 x.f3 x.f4 x.f5 = some (mayK x) := by
  obtain ⟨a, b, c, d, e, f⟩ := x
  unfold mayK deps_mayLink.f
  simp only [deps_mayLink.j0, deps_mayLink.j1, deps_mayLink.j2, deps_mayLink.j3]
  by_cases h1 : a = 1
  · subst h1; simp; (repeat' split) <;> simp_all <;> first | rfl | omega
  by_cases h2 : a = 2
  · subst h2; simp; (repeat' split) <;> simp_all <;> first | rfl | omega
  by_cases h3 : a = 3
  · subst h3; simp; (repeat' split) <;> simp_all <;> first | rfl | omega
  by_cases h4 : a = 4
  · subst h4; simp; (repeat' split) <;> simp_all <;> first | rfl | omega
  by_cases h5 : a = 5
  · subst h5; simp; (repeat' split) <;> simp_all <;> first | rfl | omega
  by_cases h6 : a = 6
  · subst h6; simp; (repeat' split) <;> simp_all <;> first | rfl | omega
  simp [h1, h2, h3, h4, h5, h6]
theorem rd_at (l : List S48) (n : Nat) (h : n < l.length) : rd_T48 l (n : Int) = l[n] := by
  unfold rd_T48; simp [h]
theorem wrap_in {v : Int} (h1 : -9223372036854775808 ≤ v) (h2 : v ≤ 9223372036854775807) : wrap64 v = v := by unfold wrap64; omega
/-- All links may be, and they are not too many. -/
def mayL (l : List S48) : Bool := l.all mayK && decide (l.length ≤ 4096)
theorem mayAll_loop (l : List S48) (hl : l.length ≤ 1000000000000000000) : ∀ n j k, j + n = l.length → n + 8 ≤ k → deps_mayAll.l0 k l l (l.length : Int) (j : Int) = some ((l.drop j).all mayK && decide (l.length ≤ 4096)) := by
  intro n
  induction n with
  | zero =>
    intro j k hj hk
    obtain ⟨k, rfl⟩ : ∃ q, k = q + 1 := ⟨k - 1, by omega⟩
    rw [deps_mayAll.l0, if_neg (by omega), List.drop_eq_nil_of_le (by omega)]
    simp; omega
  | succ n ih =>
    intro j k hj hk
    obtain ⟨k, rfl⟩ : ∃ q, k = q + 4 + 1 := ⟨k - 5, by omega⟩
    rw [deps_mayAll.l0, if_pos (by omega), if_pos (by omega), if_pos (by omega), rd_at l j (by omega), mayLink_f, List.drop_eq_getElem_cons (by omega : j < l.length)]
    simp only [Option.bind_some, List.all_cons]
    cases hm : mayK l[j]
    · simp
    · rw [if_pos rfl, wrap_in (by omega) (by omega), show (j : Int) + 1 = ((j + 1 : Nat) : Int) from by omega, ih (j + 1) _ (by omega) (by omega)]
      simp
theorem mayAll_f (l : List S48) (hl : l.length ≤ 1000000000000000000) (k : Nat) (hk : l.length + 8 ≤ k) : deps_mayAll.f k l = some (mayL l) := by
  unfold deps_mayAll.f
  have h := mayAll_loop l hl l.length 0 k (by omega) hk
  simpa [mayL] using h
/-- A value's source, the links read from the last. -/
def goOf : List S48 → Int → Bool × Int × Int × Int
  | [], a => (false, 0, a, 0)
  | x :: t, a =>
    if x.f0 = 4 then goOf t (a / x.f1)
    else if x.f0 = 5 then (if fitB (a * x.f1) = true then goOf t (fitV (a * x.f1)) else (false, 0, 0, 7))
    else if x.f0 = 1 ∨ x.f0 = 2 then (if a = 0 then (true, x.f3, 0, 0) else goOf t (a - 1))
    else if x.f0 = 3 then (if fitB (a + 1) = true then goOf t (fitV (a + 1)) else (false, 0, 0, 7))
    else goOf t a
theorem fit_pos {v : Int} (h : fitB v = true) : fitV v = v ∧ -9223372036854775808 ≤ v ∧ v ≤ 9223372036854775807 := by
  unfold fitB at h; have h := of_decide_eq_true h; exact ⟨by unfold fitV; rw [if_pos h], h⟩
theorem may_k {x : S48} (h : mayK x = true) : (x.f0 = 4 → 1 ≤ x.f1) ∧ (x.f0 = 5 → 1 ≤ x.f1) := by
  unfold mayK at h
  constructor <;> intro e <;> rw [e] at h <;> simp at h <;> exact h.1
theorem ediv_in {a b : Int} (ha : 0 ≤ a) (hb : 1 ≤ b) : 0 ≤ a / b ∧ a / b ≤ a := ⟨Int.ediv_nonneg ha (by omega), Int.ediv_le_self _ ha⟩
theorem of_go (l : List S48) (hi : ∀ x ∈ l, x.f1 ≤ 9223372036854775807) (hm : ∀ x ∈ l, mayK x = true) : ∀ n (a : Int) k, n ≤ l.length → n ≤ 1000000000000000000 → 0 ≤ a → a ≤ 9223372036854775807 → 2 * n + 4 ≤ k →
    deps_of.l0 k l a ((n : Int) - 1) = some (goOf (l.take n).reverse a) := by
  intro n
  induction n with
  | zero =>
    intro a k hn hn2 ha1 ha2 hk
    obtain ⟨k, rfl⟩ : ∃ q, k = q + 1 := ⟨k - 1, by omega⟩
    rw [deps_of.l0, if_neg (by omega)]
    rfl
  | succ n ih =>
    intro a k hn hn2 ha1 ha2 hk
    obtain ⟨k, rfl⟩ : ∃ q, k = q + 1 + 1 + 1 := ⟨k - 3, by omega⟩
    have hx := hi l[n] (List.getElem_mem _)
    have hy := may_k (hm l[n] (List.getElem_mem _))
    have hrev : (l.take (n + 1)).reverse = l[n] :: (l.take n).reverse := by rw [List.take_succ_eq_append_getElem (by omega)]; simp
    have hw : wrap64 ((n : Int) - 1) = (n : Int) - 1 := wrap_in (by omega) (by omega)
    rw [hrev, deps_of.l0, show ((n + 1 : Nat) : Int) - 1 = (n : Int) from by omega, if_pos (by omega), if_pos (by omega), if_pos (by omega), rd_at l n (by omega), hw]
    generalize l[n] = x at *
    rw [goOf]
    by_cases h4 : x.f0 = 4
    · have hb := ediv_in (b := x.f1) ha1 (hy.1 h4)
      rw [if_pos h4, if_pos h4, if_neg (by have := hy.1 h4; omega), Int.tdiv_eq_ediv_of_nonneg ha1, wrap_in (by omega) (by omega), ih _ _ (by omega) (by omega) (by omega) (by omega) (by omega)]
    rw [if_neg h4, if_neg h4]
    by_cases h5 : x.f0 = 5
    · have h1 := hy.2 h5
      rw [if_pos h5, if_pos h5, Mul_f _ _ _ (by omega) ha2 (by omega) hx]
      simp only [Option.bind_some]
      by_cases hf : fitB (a * x.f1) = true
      · obtain ⟨e, _, _⟩ := fit_pos hf
        have : 0 ≤ a * x.f1 := Int.mul_nonneg ha1 (by omega)
        rw [if_pos hf, if_pos hf, ih _ _ (by omega) (by omega) (by omega) (by omega) (by omega)]
      · rw [if_neg hf, if_neg hf]
    rw [if_neg h5, if_neg h5]
    have hp : (if a = 0 then (some (true, x.f3, (0 : Int), (0 : Int))) else ((num_Add.f (wrap64 (a - 2)) 1).bind fun bt122 => (if bt122.2 = true then (deps_of.l0 (k + 1) l bt122.1 ((n : Int) - 1)) else (some (false, 0, 0, 7))))) = some (if a = 0 then (true, x.f3, 0, 0) else goOf (l.take n).reverse (a - 1)) := by
      by_cases hz : a = 0
      · rw [if_pos hz, if_pos hz]
      · have hf : fitB (a - 2 + 1) = true := by unfold fitB; exact decide_eq_true (by omega)
        obtain ⟨e, _, _⟩ := fit_pos hf
        rw [if_neg hz, if_neg hz, wrap_in (by omega) (by omega), Add_f _ _ (by omega) (by omega) (by omega) (by omega)]
        simp only [Option.bind_some]
        rw [if_pos hf, e, show a - 2 + 1 = a - 1 from by omega, ih _ _ (by omega) (by omega) (by omega) (by omega) (by omega)]
    by_cases h2 : x.f0 = 2
    · rw [if_pos h2, if_pos (Or.inr h2), deps_of.j1, if_pos (by simp [h2]), hw, hp]
    rw [if_neg h2]
    by_cases h1 : x.f0 = 1
    · rw [if_pos (Or.inl h1), deps_of.j1, if_pos (by simp [h1]), hw, hp]
    rw [if_neg (by omega), deps_of.j1, if_neg (by simp [h1])]
    by_cases h3 : x.f0 = 3
    · rw [if_pos h3, if_pos h3, Add_f _ _ (by omega) (by omega) (by omega) (by omega)]
      simp only [Option.bind_some]
      by_cases hf : fitB (a + 1) = true
      · obtain ⟨e, _, _⟩ := fit_pos hf
        rw [if_pos hf, if_pos hf, hw, ih _ _ (by omega) (by omega) (by omega) (by omega) (by omega)]
      · rw [if_neg hf, if_neg hf]
    rw [if_neg h3, if_neg h3, if_pos rfl, hw, ih _ _ (by omega) (by omega) (by omega) (by omega) (by omega)]

end Go.Proofs.Ytdfpoemghnhlfaa.P
