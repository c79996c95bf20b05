/-
  carillonref01: Quo: the quotient and what is left, bit by bit.
  Conditions: the dividend is below 2^128, the divisor from 1 to 2^127.
-/
import Derived.Test.YtkabmpbfabgkfaaAd
import Derived.BigRegion
set_option linter.unusedVariables false
set_option linter.unusedSimpArgs false
namespace Go.Proofs.Ytkabmpbfabgkfaa
open Go.RowKit Big
attribute [local go_sem] setCell_drewN alloc_drewN size_ext ext_ext ext_drewN ext_drew drewN_ext drew_ext cell?_ext frozen?_ext setCell_ext cell?_past1 frozen?_past1 setCell_past1 cell?_past2 frozen?_past2 setCell_past2 cell?_past3 frozen?_past3 setCell_past3 cell?_past4 frozen?_past4 setCell_past4 cell?_past5 frozen?_past5 setCell_past5 cell?_past6 frozen?_past6 setCell_past6 cell?_past7 frozen?_past7 setCell_past7 cell?_past8 frozen?_past8 setCell_past8

theorem dg_even (R b j : Nat) (hb : b < 2) (hj : 1 ≤ j) : dg (R + R) j = dg (R + R + b) j := by
  unfold dg
  obtain ⟨k, rfl⟩ : ∃ k, j = k + 1 := ⟨j - 1, by omega⟩
  rw [pow_split]
  have hp : 0 < 2 ^ (32 * k) := Nat.two_pow_pos _
  generalize 2 ^ (32 * k) = p at *
  have e : p * 4294967296 = 2 * (2147483648 * p) := by grind
  rw [e, ← Nat.div_div_eq_div_mul (R + R), ← Nat.div_div_eq_div_mul (R + R + b), show (R + R) / 2 = R by omega, show (R + R + b) / 2 = R by omega]
theorem or_bit (A R m c : Nat) (hc : m / 32 = c) : bits .or .u64 (dg (R + R) 0) (bits .and .u64 (dg A c / 2 ^ (m % 32)) 1) = dg (R + R + A / 2 ^ m % 2) 0 := by
  subst hc
  have hb := dg_bit A m
  have e2 : ((2 : Int) ^ (m % 32)) = ((2 ^ (m % 32) : Nat) : Int) := by push_cast; rfl
  rw [e2]
  have h0 := dg_lo A (m / 32)
  have h1 := dg_hi A (m / 32)
  have hp : (0 : Int) < ((2 ^ (m % 32) : Nat) : Int) := by have := Nat.two_pow_pos (m % 32); omega
  have h2 : 0 ≤ dg A (m / 32) / ((2 ^ (m % 32) : Nat) : Int) := Int.ediv_nonneg h0 (by omega)
  have h3 : dg A (m / 32) / ((2 ^ (m % 32) : Nat) : Int) ≤ dg A (m / 32) := Int.ediv_le_self _ h0
  rw [and_one_u64 _ h2 (by omega), hb]
  have hlt : A / 2 ^ m % 2 < 2 := Nat.mod_lt _ (by omega)
  generalize A / 2 ^ m % 2 = b at *
  rw [dg0, dg0, u64_or_nat _ _ (by omega) (by omega), nat_join 1 _ _ (by omega) (by omega)]
  omega
theorem or_put (A B m c : Nat) (hc : m / 32 = c) (hq : qS A B m = qS A B (m + 1) + 2 ^ m) : bits .or .u64 (dg (qS A B (m + 1)) c) (IntKind.u64.wrap (2 ^ (m % 32))) = dg (qS A B m) c := by
  subst hc
  have e2 : ((2 : Int) ^ (m % 32)) = ((2 ^ (m % 32) : Nat) : Int) := by push_cast; rfl
  have hr : m % 32 < 32 := Nat.mod_lt _ (by omega)
  have hp : 2 ^ (m % 32) < 4294967296 := Nat.lt_of_lt_of_le (Nat.pow_lt_pow_right (by omega) hr) (by omega)
  have hpos : (0 : Int) ≤ ((2 ^ (m % 32) : Nat) : Int) := Int.natCast_nonneg _
  have hp' : ((2 ^ (m % 32) : Nat) : Int) < 4294967296 := by (clear hq hpos; generalize 2 ^ (m % 32) = p at *; omega)
  rw [e2, IntKind.wrap_u64, Int.emod_eq_of_lt hpos (by omega)]
  obtain ⟨y, hy⟩ := dg_room A B m
  have hd := dg_put A B m (m / 32)
  rw [if_pos rfl] at hd
  rw [hq, hd]
  have hlo := dg_hi (qS A B (m + 1)) (m / 32)
  rw [hy] at *
  rw [u64_or_nat _ _ (by omega) (by omega), nat_join (m % 32 + 1) _ _ (Nat.mul_mod_left _ _) (by rw [Nat.pow_succ]; have := Nat.two_pow_pos (m % 32); omega)]
  omega
theorem put_rest (A B m c j : Nat) (hc : m / 32 = c) (hj : j ≠ c) (hq : qS A B m = qS A B (m + 1) + 2 ^ m) : dg (qS A B (m + 1)) j = dg (qS A B m) j := by
  rw [hq, dg_put, if_neg (by omega)]
end Go.Proofs.Ytkabmpbfabgkfaa
