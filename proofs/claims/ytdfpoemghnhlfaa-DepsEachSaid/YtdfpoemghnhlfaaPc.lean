/-
  A value's source without bounds: monotone, and linear by the product of the ups.
  Conditions: each theorem's own.
-/
import Derived.Test.YtdfpoemghnhlfaaPb
set_option linter.unusedVariables false
set_option linter.unusedSimpArgs false
namespace Go.Proofs.Ytdfpoemghnhlfaa.P
open Go.RowKit Big Go.Proofs.YtdfpoemghnhlfaaW.PrintWords Go.Proofs.YtdfpoemghnhlfaaW.PrintLast Go.Proofs.YtdfpoemghnhlfaaW.PrintMore

/-- A value's source, without bounds: told (with what), or the place it reads. -/
inductive Ide | told (v : Int) | at (n : Int)
def gi : List S48 → Int → Ide
  | [], a => .at a
  | x :: t, a =>
    if x.f0 = 4 then gi t (a / x.f1)
    else if x.f0 = 5 then gi t (a * x.f1)
    else if x.f0 = 1 ∨ x.f0 = 2 then (if a = 0 then .told x.f3 else gi t (a - 1))
    else if x.f0 = 3 then gi t (a + 1)
    else gi t a
/-- The product of the links of a kind. -/
def pk (kind : Int) : List S48 → Int
  | [] => 1
  | x :: t => if x.f0 = kind then x.f1 * pk kind t else pk kind t
theorem pk_pos (kind : Int) (hk : kind = 4 ∨ kind = 5) (t : List S48) (hm : ∀ x ∈ t, mayK x = true) : 1 ≤ pk kind t := by
  induction t with
  | nil => exact Int.le_refl _
  | cons x t ih =>
    have := ih (fun y hy => hm y (List.mem_cons_of_mem _ hy))
    have hx := may_k (hm x (List.mem_cons_self ..))
    unfold pk; split
    · rename_i h
      have h1 : 1 ≤ x.f1 := by rcases hk with rfl | rfl; exact hx.1 h; exact hx.2 h
      have := Int.mul_le_mul h1 this (by omega) (by omega)
      omega
    · exact this
def Ide.out : Ide → Bool × Int × Int × Int
  | .told v => (true, v, 0, 0)
  | .at n => (false, 0, n, 0)
theorem goOf_gi (t : List S48) (hm : ∀ x ∈ t, mayK x = true) : ∀ a, 0 ≤ a → (a + t.length) * pk 5 t ≤ 9223372036854775807 → goOf t a = (gi t a).out := by
  induction t with
  | nil => intro a _ _; rfl
  | cons x t ih =>
    intro a ha hb
    have hm' : ∀ y ∈ t, mayK y = true := fun y hy => hm y (List.mem_cons_of_mem _ hy)
    have hx := may_k (hm x (List.mem_cons_self ..))
    have hp := pk_pos 5 (Or.inr rfl) t hm'
    have hlen : (((x :: t).length : Nat) : Int) = t.length + 1 := by simp
    rw [hlen] at hb
    have mono : ∀ b : Int, b ≤ a + 1 → pk 5 (x :: t) = pk 5 t → (b + t.length) * pk 5 t ≤ 9223372036854775807 := by
      intro b h e
      rw [e] at hb
      have : (b + t.length) * pk 5 t ≤ (a + (t.length + 1)) * pk 5 t := Int.mul_le_mul_of_nonneg_right (by omega) (by omega)
      omega
    rw [goOf, gi]
    by_cases h4 : x.f0 = 4
    · rw [if_pos h4, if_pos h4]
      have := ediv_in (b := x.f1) ha (hx.1 h4)
      exact ih hm' _ this.1 (mono _ (by omega) (by rw [pk, if_neg (by omega)]))
    rw [if_neg h4, if_neg h4]
    by_cases h5 : x.f0 = 5
    · have h1 := hx.2 h5
      rw [if_pos h5, if_pos h5]
      rw [pk, if_pos h5, ← Int.mul_assoc] at hb
      have e1 : (a * x.f1 + t.length) ≤ (a + (t.length + 1)) * x.f1 := by
        rw [Int.add_mul]
        have : ((t.length : Int) + 1) * 1 ≤ (t.length + 1) * x.f1 := Int.mul_le_mul_of_nonneg_left h1 (by omega)
        omega
      have e2 : (a * x.f1 + t.length) * pk 5 t ≤ (a + (t.length + 1)) * x.f1 * pk 5 t := Int.mul_le_mul_of_nonneg_right e1 (by omega)
      have h0 : 0 ≤ a * x.f1 := Int.mul_nonneg ha (by omega)
      have e3 : (a * x.f1 + t.length) * 1 ≤ (a * x.f1 + t.length) * pk 5 t := Int.mul_le_mul_of_nonneg_left hp (by omega)
      have hf : fitB (a * x.f1) = true := by unfold fitB; exact decide_eq_true (by omega)
      rw [if_pos hf, (fit_pos hf).1]
      exact ih hm' _ h0 (by omega)
    rw [if_neg h5, if_neg h5]
    have hpk : pk 5 (x :: t) = pk 5 t := by rw [pk, if_neg h5]
    by_cases h12 : x.f0 = 1 ∨ x.f0 = 2
    · rw [if_pos h12, if_pos h12]
      by_cases hz : a = 0
      · rw [if_pos hz, if_pos hz]; rfl
      · rw [if_neg hz, if_neg hz]
        exact ih hm' _ (by omega) (mono _ (by omega) hpk)
    rw [if_neg h12, if_neg h12]
    by_cases h3 : x.f0 = 3
    · have hm2 := mono (a + 1) (by omega) hpk
      have e3 : (a + 1 + t.length) * 1 ≤ (a + 1 + t.length) * pk 5 t := Int.mul_le_mul_of_nonneg_left hp (by omega)
      have hf : fitB (a + 1) = true := by unfold fitB; exact decide_eq_true (by omega)
      rw [if_pos h3, if_pos h3, if_pos hf, (fit_pos hf).1]
      exact ih hm' _ (by omega) hm2
    rw [if_neg h3, if_neg h3]
    exact ih hm' _ ha (mono _ (by omega) hpk)
theorem gi_mono (t : List S48) (hm : ∀ x ∈ t, mayK x = true) : ∀ a b n, 0 ≤ a → a ≤ b → gi t a = .at n → ∃ m, gi t b = .at m ∧ n ≤ m := by
  induction t with
  | nil => intro a b n _ h e; cases e; exact ⟨b, rfl, h⟩
  | cons x t ih =>
    intro a b n ha h e
    have ih := ih (fun y hy => hm y (List.mem_cons_of_mem _ hy))
    have hx := may_k (hm x (List.mem_cons_self ..))
    rw [gi] at e ⊢
    by_cases h4 : x.f0 = 4
    · rw [if_pos h4] at e ⊢
      exact ih _ _ n (ediv_in ha (hx.1 h4)).1 (Int.ediv_le_ediv (by have := hx.1 h4; omega) h) e
    rw [if_neg h4] at e ⊢
    by_cases h5 : x.f0 = 5
    · rw [if_pos h5] at e ⊢
      exact ih _ _ n (Int.mul_nonneg ha (by have := hx.2 h5; omega)) (Int.mul_le_mul_of_nonneg_right h (by have := hx.2 h5; omega)) e
    rw [if_neg h5] at e ⊢
    by_cases h12 : x.f0 = 1 ∨ x.f0 = 2
    · rw [if_pos h12] at e ⊢
      by_cases hz : a = 0
      · rw [if_pos hz] at e; cases e
      · rw [if_neg hz] at e; rw [if_neg (by omega)]
        exact ih _ _ n (by omega) (by omega) e
    rw [if_neg h12] at e ⊢
    by_cases h3 : x.f0 = 3
    · rw [if_pos h3] at e ⊢
      exact ih _ _ n (by omega) (by omega) e
    rw [if_neg h3] at e ⊢
    exact ih _ _ n ha h e
theorem gi_lin (t : List S48) (hm : ∀ x ∈ t, mayK x = true) : ∀ a n m, 0 ≤ a → 0 ≤ m → gi t a = .at n → gi t (a + pk 4 t * m) = .at (n + pk 5 t * m) := by
  induction t with
  | nil => intro a n m _ _ e; cases e; simp [gi, pk]
  | cons x t ih =>
    intro a n m ha hm0 e
    have hm' : ∀ y ∈ t, mayK y = true := fun y hy => hm y (List.mem_cons_of_mem _ hy)
    have ih := ih hm'
    have hx := may_k (hm x (List.mem_cons_self ..))
    have hp4 := pk_pos 4 (Or.inl rfl) t hm'
    have h0 : 0 ≤ pk 4 t * m := Int.mul_nonneg (by omega) hm0
    rw [gi] at e ⊢
    by_cases h4 : x.f0 = 4
    · rw [if_pos h4] at e ⊢
      have e1 : (a + pk 4 (x :: t) * m) / x.f1 = a / x.f1 + pk 4 t * m := by
        rw [pk, if_pos h4, Int.mul_assoc, Int.add_mul_ediv_left _ _ (by have := hx.1 h4; omega)]
      rw [e1, show pk 5 (x :: t) = pk 5 t from by rw [pk, if_neg (by omega)]]
      exact ih _ n m (ediv_in ha (hx.1 h4)).1 hm0 e
    have hpk4 : pk 4 (x :: t) = pk 4 t := by rw [pk, if_neg h4]
    rw [if_neg h4] at e ⊢
    rw [hpk4]
    by_cases h5 : x.f0 = 5
    · rw [if_pos h5] at e ⊢
      have h1 := hx.2 h5
      rw [show (a + pk 4 t * m) * x.f1 = a * x.f1 + pk 4 t * (m * x.f1) from by rw [Int.add_mul, Int.mul_assoc], show pk 5 (x :: t) * m = pk 5 t * (m * x.f1) from by rw [pk, if_pos h5, Int.mul_comm m, ← Int.mul_assoc, Int.mul_comm (pk 5 t)]]
      exact ih _ n _ (Int.mul_nonneg ha (by omega)) (Int.mul_nonneg hm0 (by omega)) e
    rw [if_neg h5] at e ⊢
    rw [show pk 5 (x :: t) = pk 5 t from by rw [pk, if_neg h5]]
    by_cases h12 : x.f0 = 1 ∨ x.f0 = 2
    · rw [if_pos h12] at e ⊢
      by_cases hz : a = 0
      · rw [if_pos hz] at e; cases e
      · rw [if_neg hz] at e
        rw [if_neg (by omega), show a + pk 4 t * m - 1 = a - 1 + pk 4 t * m from by omega]
        exact ih _ n m (by omega) hm0 e
    rw [if_neg h12] at e ⊢
    by_cases h3 : x.f0 = 3
    · rw [if_pos h3] at e ⊢
      rw [show a + pk 4 t * m + 1 = a + 1 + pk 4 t * m from by omega]
      exact ih _ n m (by omega) hm0 e
    rw [if_neg h3] at e ⊢
    exact ih _ n m ha hm0 e

end Go.Proofs.Ytdfpoemghnhlfaa.P
