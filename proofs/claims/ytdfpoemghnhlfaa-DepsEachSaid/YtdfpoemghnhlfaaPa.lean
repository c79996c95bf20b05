/-
  num's product and sum, as printed: the product and the sum where they fit.
  Conditions: each theorem's own.
-/
import Derived.Test.YtdfpoemghnhlfaaPx4
import Derived.Test.YtdfpoemghnhlfaaG
import Derived.Test.YtdfpoemghnhlfaaRq
set_option linter.unusedVariables false
set_option linter.unusedSimpArgs false
namespace Go.Proofs.Ytdfpoemghnhlfaa.P
open Go.RowKit Big Go.Proofs.YtdfpoemghnhlfaaW.PrintWords Go.Proofs.YtdfpoemghnhlfaaW.PrintLast Go.Proofs.YtdfpoemghnhlfaaW.PrintMore

theorem plain_f (a : Int) (h1 : -9223372036854775808 ≤ a) (h2 : a ≤ 9223372036854775807) : num_plain.f a = some (a.natAbs : Int) := by
  unfold num_plain.f
  split
  · congr 1; rw [IntKind.wrap_u64, IntKind.wrap_u64]; omega
  · congr 1; rw [IntKind.wrap_u64]; omega
theorem mul64_f (x y : Nat) (hx : x < 18446744073709551616) (hy : y < 18446744073709551616) : bits_Mul64.f x y = some (((x * y / 18446744073709551616 : Nat) : Int), ((x * y % 18446744073709551616 : Nat) : Int)) := by
  have h1 := mul64_arith x y (Int.natCast_nonneg _) (by omega) (Int.natCast_nonneg _) (by omega)
  have ex := and_low32 (x : Int) (Int.natCast_nonneg _) (by omega)
  have ey := and_low32 (y : Int) (Int.natCast_nonneg _) (by omega)
  have et := fun z : Int => and_low32 (z % 18446744073709551616) (Int.emod_nonneg _ (by omega)) (Int.emod_lt_of_pos _ (by omega))
  unfold bits_Mul64.f
  simp only [IntKind.wrap_u64, ex, ey, et]
  congr 1
  refine Prod.ext ?_ ?_
  · simpa [IntKind.wrap_u64, ex, ey, et] using h1
  · simp
theorem signed_f (k : Nat) (u : Nat) (s : Bool) (hu : u < 18446744073709551616) : num_signed.f (k + 1) (u : Int) s = some (fitV (sg s u), fitB (sg s u)) := by
  unfold num_signed.f
  cases s
  · rw [if_neg (by decide)]
    simp only [num_signed.j0, Bool.false_eq_true, if_false]
    by_cases h : (u : Int) > 9223372036854775807
    · rw [if_pos h]
      obtain ⟨e1, e2⟩ := fit_no (v := sg false u) (by simp only [sg, Bool.false_eq_true, if_false]; omega)
      rw [← e1, ← e2]
    · rw [if_neg h]
      obtain ⟨e1, e2⟩ := fit_yes (v := sg false u) (by simp only [sg, Bool.false_eq_true, if_false]; omega) rfl
      rw [← e1, ← e2]
      congr 2
      unfold wrap64; simp only [sg, Bool.false_eq_true, if_false]; omega
  · rw [if_pos rfl]
    simp only [num_signed.j0]
    by_cases h : (u : Int) ≤ 9223372036854775808
    · rw [if_pos (by simpa using h)]
      obtain ⟨e1, e2⟩ := fit_yes (v := sg true u) (by simp only [sg, if_true]; omega) rfl
      rw [← e1, ← e2]
      congr 2
      rw [IntKind.wrap_u64]; unfold wrap64; simp only [sg, if_true]; omega
    · rw [if_neg (by simpa using h), if_pos (by omega)]
      obtain ⟨e1, e2⟩ := fit_no (v := sg true u) (by simp only [sg, if_true]; omega)
      rw [← e1, ← e2]
theorem Mul_f (k : Nat) (a b : Int) (ha1 : -9223372036854775808 ≤ a) (ha2 : a ≤ 9223372036854775807) (hb1 : -9223372036854775808 ≤ b) (hb2 : b ≤ 9223372036854775807) : num_Mul.f (k + 1) a b = some (fitV (a * b), fitB (a * b)) := by
  unfold num_Mul.f
  have hm := mul_abs a b
  have hd : ((decide (a < 0)) != (decide (b < 0))) = (!(decide (a < 0) == decide (b < 0))) := rfl
  rw [plain_f a ha1 ha2, plain_f b hb1 hb2, hd]
  simp only [Option.bind_some]
  rw [mul64_f _ _ (by omega) (by omega)]
  simp only [Option.bind_some]
  by_cases h : a.natAbs * b.natAbs / 18446744073709551616 = 0
  · rw [if_pos (by rw [h]; rfl), signed_f k _ _ (by omega)]
    simp only [Option.bind_some]
    rw [Nat.mod_eq_of_lt (by omega), hm]
  · rw [if_neg (by omega)]
    obtain ⟨e1, e2⟩ := fit_no (hm ▸ sg_large (!(decide (a < 0) == decide (b < 0))) (a.natAbs * b.natAbs) (by omega))
    rw [← e1, ← e2]
theorem Add_f (a b : Int) (ha1 : -9223372036854775808 ≤ a) (ha2 : a ≤ 9223372036854775807) (hb1 : -9223372036854775808 ≤ b) (hb2 : b ≤ 9223372036854775807) : num_Add.f a b = some (fitV (a + b), fitB (a + b)) := by
  unfold num_Add.f
  by_cases h : -9223372036854775808 ≤ a + b ∧ a + b ≤ 9223372036854775807
  · obtain ⟨e1, e2⟩ := fit_yes h rfl
    have hw : wrap64 (a + b) = a + b := by unfold wrap64; omega
    rw [hw, ← e1, ← e2, if_neg]
    by_cases hb : b < 0
    · rw [decide_eq_true (by omega), decide_eq_true hb]; decide
    · rw [decide_eq_false (by omega), decide_eq_false hb]; decide
  · obtain ⟨e1, e2⟩ := fit_no h
    rw [← e1, ← e2, if_pos]
    by_cases hb : b < 0
    · rw [decide_eq_false (by unfold wrap64; omega), decide_eq_true hb]; decide
    · rw [decide_eq_true (by unfold wrap64; omega), decide_eq_false hb]; decide

end Go.Proofs.Ytdfpoemghnhlfaa.P
