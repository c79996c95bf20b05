/-
  The program's num: what each function answers.
  Conditions: the arguments are int64s.
-/
import Derived.Test.YtkabmpbfabgkfaaAux
set_option linter.unusedVariables false
set_option linter.unusedSimpArgs false
namespace Go.Proofs.Ytkabmpbfabgkfaa
open Go.RowKit Big

theorem wrap64_of (v : Int) : wrap64 v = (v + 9223372036854775808) % 18446744073709551616 - 9223372036854775808 := by unfold wrap64; omega
set_option maxHeartbeats 400000 in
theorem num_add (a b : Int) (w : World) (ha1 : -9223372036854775808 ≤ a) (ha2 : a ≤ 9223372036854775807) (hb1 : -9223372036854775808 ≤ b) (hb2 : b ≤ 9223372036854775807) :
    Calls Try.prog 58 #[.int .i64 a, .int .i64 b] w fun e w' => e = .returned (.tuple #[.int .i64 (fitV (a + b)), .bool (fitB (a + b))]) ∧ w = w' := by
  by_cases h : -9223372036854775808 ≤ a + b ∧ a + b ≤ 9223372036854775807
  · have hf := fit_yes h rfl
    obtain ⟨h1, h2⟩ := h
    have Hf := Lib.hid hf; clear hf
    have ht : (!(decide (a + b < a) == decide (b < 0))) = false := by
      by_cases hb : b < 0
      · rw [decide_eq_true hb, decide_eq_true (by omega)]; rfl
      · rw [decide_eq_false hb, decide_eq_false (by omega)]; rfl
    go_enter Try.func58, Try.ntmps58
    go_wp2_with fail
    go_ret2
    exact ⟨ret_ib Hf.out.1 Hf.out.2, rfl⟩
  · have hf := fit_no h
    have Hf := Lib.hid hf; clear hf
    have ht : (!(decide (wrap64 (a + b) < a) == decide (b < 0))) = true := by
      rw [wrap64_of]
      by_cases hb : b < 0
      · rw [decide_eq_true hb, decide_eq_false (by omega)]; rfl
      · rw [decide_eq_false hb, decide_eq_true (by omega)]; rfl
    clear h
    go_enter Try.func58, Try.ntmps58
    go_wp2_with fail
    go_ret2
    exact ⟨ret_ib Hf.out.1 Hf.out.2, rfl⟩

set_option maxHeartbeats 400000 in
theorem plain_any (a : Int) (w : World) (ha1 : -9223372036854775808 ≤ a) (ha2 : a ≤ 9223372036854775807) : Calls Try.prog 47 #[.int .i64 a] w fun e w' => e = .returned (.int .u64 (a.natAbs : Int)) ∧ w = w' := by
  by_cases h : a < 0
  · have hw : IntKind.u64.wrap (-IntKind.u64.wrap a) = (a.natAbs : Int) := by rw [IntKind.wrap_u64, IntKind.wrap_u64]; omega
    clear ha1 ha2
    go_enter Try.func47, Try.ntmps47
    go_wp2_with fail
    go_ret
    exact ⟨rfl, rfl⟩
  · have hw : a = (a.natAbs : Int) := by omega
    have Hw := Lib.hid hw; clear hw
    go_enter Try.func47, Try.ntmps47
    go_wp2_with fail
    go_ret
    exact ⟨ret_i Hw.out, rfl⟩

set_option maxHeartbeats 400000 in
theorem sign_any (u : Nat) (s : Bool) (w : World) (hu : u < 18446744073709551616) :
    Calls Try.prog 50 #[.int .u64 u, .bool s] w fun e w' => e = .returned (.tuple #[.int .i64 (fitV (sg s u)), .bool (fitB (sg s u))]) ∧ w = w' := by
  have hu0 : 0 ≤ (u : Int) := Int.natCast_nonneg _
  cases s
  · by_cases h : (u : Int) ≤ 9223372036854775807
    · have Hf := Lib.hid (fit_yes (v := sg false u) (x := u) (by unfold sg; simp; omega) (by unfold sg; simp))
      clear hu
      go_enter Try.func50, Try.ntmps50
      go_wp2_with fail
      go_ret2
      exact ⟨ret_ib Hf.out.1 Hf.out.2, rfl⟩
    · have Hf := Lib.hid (fit_no (v := sg false u) (by unfold sg; simp; omega))
      clear hu
      go_enter Try.func50, Try.ntmps50
      go_wp2_with fail
      go_ret2
      exact ⟨ret_ib Hf.out.1 Hf.out.2, rfl⟩
  · by_cases h : (u : Int) ≤ 9223372036854775808
    · have Hf := Lib.hid (fit_yes (v := sg true u) (x := wrap64 (IntKind.u64.wrap (-(u : Int)))) (by unfold sg; simp; omega) (by unfold sg; rw [IntKind.wrap_u64]; unfold wrap64; simp; omega))
      clear hu
      go_enter Try.func50, Try.ntmps50
      go_wp2_with fail
      go_ret2
      exact ⟨ret_ib Hf.out.1 Hf.out.2, rfl⟩
    · have Hf := Lib.hid (fit_no (v := sg true u) (by unfold sg; simp; omega))
      clear hu
      go_enter Try.func50, Try.ntmps50
      go_wp2_with fail
      go_ret2
      exact ⟨ret_ib Hf.out.1 Hf.out.2, rfl⟩

theorem gcd_step (u v : Nat) : Nat.gcd u v = Nat.gcd v (u % v) := by rw [Nat.gcd_comm u v, Nat.gcd_rec v u, Nat.gcd_comm]
set_option maxHeartbeats 400000 in
theorem gcd_any (k : Nat) : ∀ (u v : Nat) (w : World), v ≤ k → u < 18446744073709551616 → v < 18446744073709551616 →
    Calls Try.prog 49 #[.int .u64 u, .int .u64 v] w fun e w' => e = .returned (.int .u64 (Nat.gcd u v : Nat)) ∧ w = w' := by
  induction k with
  | zero =>
    intro u v w hk hu hv
    obtain rfl : v = 0 := by omega
    go_enter Try.func49, Try.ntmps49
    go_wp2_with fail
    go_ret
    exact ⟨by simp, rfl⟩
  | succ k ih =>
    intro u v w hk hu hv
    by_cases h : v = 0
    · subst h
      go_enter Try.func49, Try.ntmps49
      go_wp2_with fail
      go_ret
      exact ⟨by simp, rfl⟩
    · have hm := Nat.mod_lt u (show 0 < v by omega)
      have hc := ih v (u % v) w (by omega) hv (by omega)
      have Hc := Lib.hid hc
      have Hg := Lib.hid (gcd_step u v)
      have hb : ((v : Int) == 0) = false := by rw [beq_eq_false_iff_ne]; omega
      have hv1 : 1 ≤ (v : Int) := by omega
      have hv2 : (v : Int) ≤ 18446744073709551615 := by omega
      have hu2 : (u : Int) ≤ 18446744073709551615 := by omega
      clear ih hc h hm
      go_enter Try.func49, Try.ntmps49
      go_wp2_with fail
      rw [← Int.natCast_emod]
      refine Hc.out.mono ?_
      rintro e w' ⟨rfl, rfl⟩
      go_wp2_with fail
      go_ret
      exact ⟨by rw [Hg.out]; rfl, rfl⟩

theorem wrap_nat (x : Nat) (h : x < 18446744073709551616) : IntKind.u64.wrap (x : Int) = (x : Int) := by rw [IntKind.wrap_u64]; omega
theorem low_mul (x y : Nat) : IntKind.u64.wrap ((x : Int) * (y : Int)) = ((x * y % 18446744073709551616 : Nat) : Int) := by
  rw [IntKind.wrap_u64, ← Int.natCast_mul]; omega
set_option maxHeartbeats 400000 in
theorem mul64_any (x y : Nat) (w : World) (hx : x < 18446744073709551616) (hy : y < 18446744073709551616) :
    Calls Try.prog 48 #[.int .u64 x, .int .u64 y] w fun e w' => e = .returned (.tuple #[.int .u64 (x * y / 18446744073709551616 : Nat), .int .u64 (x * y % 18446744073709551616 : Nat)]) ∧ w = w' := by
  go_enter Try.func48, Try.ntmps48
  go_wp2_with fail
  go_ret2
  refine ⟨?_, rfl⟩
  have h1 := mul64_arith x y (Int.natCast_nonneg _) (by omega) (Int.natCast_nonneg _) (by omega)
  have ex := and_low32 (x : Int) (Int.natCast_nonneg _) (by omega)
  have ey := and_low32 (y : Int) (Int.natCast_nonneg _) (by omega)
  have et := fun z : Int => and_low32 (z % 18446744073709551616) (Int.emod_nonneg _ (by omega)) (Int.emod_lt_of_pos _ (by omega))
  simp only [Array.getD_eq_getD_getElem?]
  simp
  simp only [IntKind.wrap_u64, ex, ey, et]
  exact ⟨h1, trivial⟩

theorem len_nat (a : Int) (ha1 : -9223372036854775808 ≤ a) (ha2 : a ≤ 9223372036854775807) : a.natAbs ≤ 9223372036854775808 := by omega
theorem abs_lt (a : Int) (ha1 : -9223372036854775808 ≤ a) (ha2 : a ≤ 9223372036854775807) : a.natAbs < 18446744073709551616 := by omega
theorem gcd_lt (x y : Nat) (hx : x < 18446744073709551616) (hy : y < 18446744073709551616) : Nat.gcd x y < 18446744073709551616 := by
  by_cases h : x = 0
  · subst h; rw [Nat.gcd_zero_left]; exact hy
  · exact Nat.lt_of_le_of_lt (Nat.gcd_le_left y (by omega)) hx
theorem mul_abs (a b : Int) : sg (!(decide (a < 0) == decide (b < 0))) (a.natAbs * b.natAbs) = a * b := by
  unfold sg
  rcases Int.lt_or_le a 0 with ha | ha <;> rcases Int.lt_or_le b 0 with hb | hb
  · rw [decide_eq_true ha, decide_eq_true hb]
    obtain ⟨x, rfl⟩ : ∃ x : Nat, a = -(x : Int) := ⟨a.natAbs, by omega⟩
    obtain ⟨y, rfl⟩ : ∃ y : Nat, b = -(y : Int) := ⟨b.natAbs, by omega⟩
    simp [Int.neg_mul, Int.mul_neg]
  · rw [decide_eq_true ha, decide_eq_false (by omega)]
    obtain ⟨x, rfl⟩ : ∃ x : Nat, a = -(x : Int) := ⟨a.natAbs, by omega⟩
    obtain ⟨y, rfl⟩ : ∃ y : Nat, b = (y : Int) := ⟨b.natAbs, by omega⟩
    simp [Int.neg_mul]
  · rw [decide_eq_false (by omega), decide_eq_true hb]
    obtain ⟨x, rfl⟩ : ∃ x : Nat, a = (x : Int) := ⟨a.natAbs, by omega⟩
    obtain ⟨y, rfl⟩ : ∃ y : Nat, b = -(y : Int) := ⟨b.natAbs, by omega⟩
    simp [Int.mul_neg]
  · rw [decide_eq_false (by omega), decide_eq_false (by omega)]
    obtain ⟨x, rfl⟩ : ∃ x : Nat, a = (x : Int) := ⟨a.natAbs, by omega⟩
    obtain ⟨y, rfl⟩ : ∃ y : Nat, b = (y : Int) := ⟨b.natAbs, by omega⟩
    simp
theorem sg_large (s : Bool) (u : Nat) (h : 18446744073709551616 ≤ u) : ¬ (-9223372036854775808 ≤ sg s u ∧ sg s u ≤ 9223372036854775807) := by
  unfold sg; cases s <;> simp <;> omega

set_option maxHeartbeats 400000 in
theorem num_mul (a b : Int) (w : World) (ha1 : -9223372036854775808 ≤ a) (ha2 : a ≤ 9223372036854775807) (hb1 : -9223372036854775808 ≤ b) (hb2 : b ≤ 9223372036854775807) :
    Calls Try.prog 57 #[.int .i64 a, .int .i64 b] w fun e w' => e = .returned (.tuple #[.int .i64 (fitV (a * b)), .bool (fitB (a * b))]) ∧ w = w' := by
  have hA := Lib.hid (abs_lt a ha1 ha2)
  have hB := Lib.hid (abs_lt b hb1 hb2)
  have Hm := Lib.hid (mul_abs a b)
  have Hp := Lib.hid (plain_any a w ha1 ha2)
  have Hq := Lib.hid (plain_any b w hb1 hb2)
  clear ha1 ha2 hb1 hb2
  by_cases h : a.natAbs * b.natAbs / 18446744073709551616 = 0
  · have hl : a.natAbs * b.natAbs % 18446744073709551616 = a.natAbs * b.natAbs := by omega
    have hlt : a.natAbs * b.natAbs < 18446744073709551616 := by omega
    have Hl := Lib.hid hl
    have Hlt := Lib.hid hlt
    have Hz := Lib.hid h
    clear h hl hlt
    go_enter Try.func57, Try.ntmps57
    go_wp2_with fail
    refine Hp.out.mono ?_
    rintro e w' ⟨rfl, rfl⟩
    go_wp2_with fail
    refine Hq.out.mono ?_
    rintro e w' ⟨rfl, rfl⟩
    go_wp2_with fail
    refine (mul64_any a.natAbs b.natAbs w hA.out hB.out).mono ?_
    rintro e w' ⟨rfl, rfl⟩
    rw [Hz.out, Hl.out]
    go_wp2_with fail
    rw [← Int.natCast_mul]
    refine (sign_any _ _ w Hlt.out).mono ?_
    rintro e w' ⟨rfl, rfl⟩
    go_wp2_with fail
    go_ret2
    exact ⟨ret_ib (by rw [← Hm.out]) (by rw [← Hm.out]), rfl⟩
  · have Hf := Lib.hid (fit_no (Hm.out ▸ sg_large (!(decide (a < 0) == decide (b < 0))) (a.natAbs * b.natAbs) (by omega)))
    have hz : (((a.natAbs * b.natAbs / 18446744073709551616 : Nat) : Int) != 0) = true := by rw [bne_iff_ne]; omega
    generalize hq : a.natAbs * b.natAbs / 18446744073709551616 = q at *
    have Hq2 := Lib.hid hq
    clear h hq
    go_enter Try.func57, Try.ntmps57
    go_wp2_with fail
    refine Hp.out.mono ?_
    rintro e w' ⟨rfl, rfl⟩
    go_wp2_with fail
    refine Hq.out.mono ?_
    rintro e w' ⟨rfl, rfl⟩
    go_wp2_with fail
    refine (mul64_any a.natAbs b.natAbs w hA.out hB.out).mono ?_
    rintro e w' ⟨rfl, rfl⟩
    rw [Hq2.out]
    go_wp2_with fail
    go_ret2
    exact ⟨ret_ib Hf.out.1 Hf.out.2, rfl⟩

/-- The least common multiple, as a number that may be too great. -/
def lcmV (a b : Int) : Int := ((a.natAbs / Nat.gcd a.natAbs b.natAbs * b.natAbs : Nat) : Int)
theorem lcmV_zero (a b : Int) (h : a = 0 ∨ b = 0) : lcmV a b = 0 := by
  unfold lcmV; rcases h with rfl | rfl <;> simp
set_option maxHeartbeats 400000 in
theorem num_lcm (a b : Int) (w : World) (ha1 : -9223372036854775808 ≤ a) (ha2 : a ≤ 9223372036854775807) (hb1 : -9223372036854775808 ≤ b) (hb2 : b ≤ 9223372036854775807) :
    Calls Try.prog 25 #[.int .i64 a, .int .i64 b] w fun e w' => e = .returned (.tuple #[.int .i64 (fitV (lcmV a b)), .bool (fitB (lcmV a b))]) ∧ w = w' := by
  by_cases h0 : a = 0 ∨ b = 0
  · rw [lcmV_zero a b h0]
    have Hf := Lib.hid (fit_yes (v := 0) (x := 0) (by omega) rfl)
    rcases h0 with rfl | rfl
    · go_enter Try.func25, Try.ntmps25
      go_wp2_with fail
      go_ret2
      exact ⟨ret_ib Hf.out.1 Hf.out.2, rfl⟩
    · by_cases ha : (a == 0) = true
      all_goals
        go_enter Try.func25, Try.ntmps25
        go_wp2_with fail
        go_ret2
        exact ⟨ret_ib Hf.out.1 Hf.out.2, rfl⟩
  · have hA := Lib.hid (abs_lt a ha1 ha2)
    have hB := Lib.hid (abs_lt b hb1 hb2)
    have Hp := Lib.hid (plain_any a w ha1 ha2)
    have Hq := Lib.hid (plain_any b w hb1 hb2)
    have hab : (a == 0) = false := by rw [beq_eq_false_iff_ne]; omega
    have hbb : (b == 0) = false := by rw [beq_eq_false_iff_ne]; omega
    have hg := Nat.gcd_pos_of_pos_left b.natAbs (show 0 < a.natAbs by omega)
    have hgl := gcd_lt _ _ hA.out hB.out
    have hg1 : 1 ≤ ((Nat.gcd a.natAbs b.natAbs : Nat) : Int) := by omega
    have hg2 : ((Nat.gcd a.natAbs b.natAbs : Nat) : Int) ≤ 18446744073709551615 := by omega
    have hd := Lib.hid (Nat.lt_of_le_of_lt (Nat.div_le_self a.natAbs (Nat.gcd a.natAbs b.natAbs)) hA.out)
    have Hg := Lib.hid (gcd_any b.natAbs a.natAbs b.natAbs w (Nat.le_refl _) hA.out hB.out)
    have Hl := Lib.hid (show lcmV a b = ((a.natAbs / Nat.gcd a.natAbs b.natAbs * b.natAbs : Nat) : Int) from rfl)
    clear ha1 ha2 hb1 hb2 h0 hg hgl
    generalize Nat.gcd a.natAbs b.natAbs = g at *
    generalize hx : a.natAbs / g = x at *
    have Hx := Lib.hid hx
    clear hx
    generalize lcmV a b = L at *
    by_cases h : x * b.natAbs / 18446744073709551616 = 0
    · have hlt := Lib.hid (show x * b.natAbs < 18446744073709551616 by omega)
      have hl := Lib.hid (show x * b.natAbs % 18446744073709551616 = x * b.natAbs by omega)
      have Hz := Lib.hid h
      clear h
      go_enter Try.func25, Try.ntmps25
      go_wp2_with fail
      refine Hp.out.mono ?_
      rintro e w' ⟨rfl, rfl⟩
      go_wp2_with fail
      refine Hq.out.mono ?_
      rintro e w' ⟨rfl, rfl⟩
      go_wp2_with fail
      refine Hg.out.mono ?_
      rintro e w' ⟨rfl, rfl⟩
      go_wp2_with fail
      rw [← Int.natCast_ediv, Hx.out, wrap_nat _ hd.out]
      refine (mul64_any x b.natAbs w hd.out hB.out).mono ?_
      rintro e w' ⟨rfl, rfl⟩
      rw [Hz.out, hl.out]
      go_wp2_with fail
      rw [← Int.natCast_mul]
      refine (sign_any _ false w hlt.out).mono ?_
      rintro e w' ⟨rfl, rfl⟩
      go_wp2_with fail
      go_ret2
      exact ⟨ret_ib (by rw [Hl.out]; unfold sg; simp) (by rw [Hl.out]; unfold sg; simp), rfl⟩
    · have Hf := Lib.hid (fit_no (v := L) (by rw [Hl.out]; omega))
      have hz : (((x * b.natAbs / 18446744073709551616 : Nat) : Int) != 0) = true := by rw [bne_iff_ne]; omega
      generalize hq : x * b.natAbs / 18446744073709551616 = q at *
      have Hq2 := Lib.hid hq
      clear h hq
      go_enter Try.func25, Try.ntmps25
      go_wp2_with fail
      refine Hp.out.mono ?_
      rintro e w' ⟨rfl, rfl⟩
      go_wp2_with fail
      refine Hq.out.mono ?_
      rintro e w' ⟨rfl, rfl⟩
      go_wp2_with fail
      refine Hg.out.mono ?_
      rintro e w' ⟨rfl, rfl⟩
      go_wp2_with fail
      rw [← Int.natCast_ediv, Hx.out, wrap_nat _ hd.out]
      refine (mul64_any x b.natAbs w hd.out hB.out).mono ?_
      rintro e w' ⟨rfl, rfl⟩
      rw [Hq2.out]
      go_wp2_with fail
      go_ret2
      exact ⟨ret_ib Hf.out.1 Hf.out.2, rfl⟩

/-- Quotients as programs have them. -/
def divV (a b : Int) : Int := if b = 0 then 0 else wrap64 (a.tdiv b)
def modV (a b : Int) : Int := if b = 0 then 0 else a.tmod b
theorem ceil_fn (n : Bool) (w : World) : Calls Try.prog 73 #[.bool n] w fun e w' => e = .returned (.bool (!n)) ∧ w = w' := by
  go_enter Try.func73, Try.ntmps73
  go_wp2_with fail
  go_ret
  exact ⟨rfl, rfl⟩
/-- Is a quotient below 0? -/
def ngB (a b : Int) : Bool := !(decide (a < 0) == decide (b < 0))
/-- The size of a whole number next to a quotient. -/
def upN (aw : Bool) (a b : Int) : Nat := if aw && decide (a.natAbs % b.natAbs ≠ 0) then a.natAbs / b.natAbs + 1 else a.natAbs / b.natAbs
/-- A whole number next to a quotient: the one away from 0, if it is not whole and aw is so. -/
def nearV (aw : Bool) (a b : Int) : Int := sg (ngB a b) (upN aw a b)
set_option maxHeartbeats 800000 in
theorem near_no (f : Value) (a : Int) (w : World) :
    Calls Try.prog 72 #[.int .i64 a, .int .i64 0, f] w fun e w' => e = .returned (.tuple #[.int .i64 0, .bool false]) ∧ w = w' := by
  go_enter Try.func72, Try.ntmps72
  go_wp2_with fail
  go_ret2
  exact ⟨rfl, rfl⟩
set_option maxHeartbeats 800000 in
theorem near_whole (f : Value) (aw : Bool) (a b : Int) (w : World) (ha1 : -9223372036854775808 ≤ a) (ha2 : a ≤ 9223372036854775807) (hb1 : -9223372036854775808 ≤ b) (hb2 : b ≤ 9223372036854775807) (hb : b ≠ 0) (hr : a.natAbs % b.natAbs = 0) :
    Calls Try.prog 72 #[.int .i64 a, .int .i64 b, f] w fun e w' => e = .returned (.tuple #[.int .i64 (fitV (nearV aw a b)), .bool (fitB (nearV aw a b))]) ∧ w = w' := by
  have Hp := Lib.hid (plain_any a w ha1 ha2)
  have Hq := Lib.hid (plain_any b w hb1 hb2)
  have hbb : (b == 0) = false := by rw [beq_eq_false_iff_ne]; exact hb
  have h1 : 1 ≤ (b.natAbs : Int) := by omega
  have hA := abs_lt a ha1 ha2
  have hq := Lib.hid (show a.natAbs / b.natAbs < 18446744073709551616 from Nat.lt_of_le_of_lt (Nat.div_le_self _ _) hA)
  have Hn := Lib.hid (show nearV aw a b = sg (!(decide (a < 0) == decide (b < 0))) (a.natAbs / b.natAbs) by unfold nearV ngB upN; rw [hr]; simp)
  have hr' : ((a.natAbs : Int) % (b.natAbs : Int) != 0) = false := by rw [← Int.natCast_emod, hr]; rfl
  have e1 : (a.natAbs : Int) / (b.natAbs : Int) = ((a.natAbs / b.natAbs : Nat) : Int) := by rw [Int.natCast_ediv]
  have Hw := Lib.hid (wrap_nat _ hq.out)
  clear hA ha1 ha2 hb1 hb2 hb hr
  generalize a.natAbs / b.natAbs = q at *
  go_enter Try.func72, Try.ntmps72
  go_wp2_with fail
  refine Hp.out.mono ?_
  rintro e w' ⟨rfl, rfl⟩
  go_wp2_with fail
  refine Hq.out.mono ?_
  rintro e w' ⟨rfl, rfl⟩
  go_wp2_with fail
  rw [Hw.out]
  refine (sign_any q _ w hq.out).mono ?_
  rintro e w' ⟨rfl, rfl⟩
  go_wp2_with fail
  go_ret2
  exact ⟨ret_ib (by rw [Hn.out]) (by rw [Hn.out]), rfl⟩
/-- What Floor and Ceil answer. -/
def nearI (aw : Bool) (a b : Int) : Int := if b = 0 then 0 else fitV (nearV aw a b)
def nearB (aw : Bool) (a b : Int) : Bool := if b = 0 then false else fitB (nearV aw a b)
set_option maxHeartbeats 800000 in
theorem near_part73 (t : Bool) (a b : Int) (w : World) (ha1 : -9223372036854775808 ≤ a) (ha2 : a ≤ 9223372036854775807) (hb1 : -9223372036854775808 ≤ b) (hb2 : b ≤ 9223372036854775807) (hb : b ≠ 0) (hr : a.natAbs % b.natAbs ≠ 0) (ht : (!(decide (a < 0) == decide (b < 0))) = t) :
    Calls Try.prog 72 #[.int .i64 a, .int .i64 b, .func (.func 73) #[] #[]] w fun e w' => e = .returned (.tuple #[.int .i64 (fitV (sg t (if (!t) = true then a.natAbs / b.natAbs + 1 else a.natAbs / b.natAbs))), .bool (fitB (sg t (if (!t) = true then a.natAbs / b.natAbs + 1 else a.natAbs / b.natAbs)))]) ∧ w = w' := by
  have Hp := Lib.hid (plain_any a w ha1 ha2)
  have Hq := Lib.hid (plain_any b w hb1 hb2)
  have Hk := Lib.hid (ceil_fn t w)
  have hbb : (b == 0) = false := by rw [beq_eq_false_iff_ne]; exact hb
  have h1 : 1 ≤ (b.natAbs : Int) := by omega
  have hq := Lib.hid (show a.natAbs / b.natAbs + 1 < 18446744073709551616 by have := Nat.div_le_self a.natAbs b.natAbs; omega)
  have hr' : ((a.natAbs : Int) % (b.natAbs : Int) != 0) = true := by rw [← Int.natCast_emod, bne_iff_ne]; omega
  have e1 : (a.natAbs : Int) / (b.natAbs : Int) = ((a.natAbs / b.natAbs : Nat) : Int) := by rw [Int.natCast_ediv]
  have hu : IntKind.u64.wrap ((a.natAbs / b.natAbs : Nat) : Int) = ((a.natAbs / b.natAbs : Nat) : Int) := wrap_nat _ (by have := hq.out; omega)
  have hu1 : IntKind.u64.wrap (((a.natAbs / b.natAbs : Nat) : Int) + 1) = ((a.natAbs / b.natAbs + 1 : Nat) : Int) := by have h := wrap_nat _ hq.out; rwa [Int.natCast_add] at h
  have Hu1 := Lib.hid hu1
  clear ha1 ha2 hb1 hb2 hb hr hu1
  generalize a.natAbs / b.natAbs = q at *
  cases t
  · go_enter Try.func72, Try.ntmps72
    go_wp2_with fail
    refine Hp.out.mono ?_
    rintro e w' ⟨rfl, rfl⟩
    go_wp2_with fail
    refine Hq.out.mono ?_
    rintro e w' ⟨rfl, rfl⟩
    go_wp2_with fail
    refine Hk.out.mono ?_
    rintro e w' ⟨rfl, rfl⟩
    go_wp2_with fail
    rw [Hu1.out]
    refine (sign_any (q + 1) _ w hq.out).mono ?_
    rintro e w' ⟨rfl, rfl⟩
    go_wp2_with fail
    go_ret2
    exact ⟨rfl, rfl⟩
  · go_enter Try.func72, Try.ntmps72
    go_wp2_with fail
    refine Hp.out.mono ?_
    rintro e w' ⟨rfl, rfl⟩
    go_wp2_with fail
    refine Hq.out.mono ?_
    rintro e w' ⟨rfl, rfl⟩
    go_wp2_with fail
    refine Hk.out.mono ?_
    rintro e w' ⟨rfl, rfl⟩
    go_wp2_with fail
    refine (sign_any q _ w (by have := hq.out; omega)).mono ?_
    rintro e w' ⟨rfl, rfl⟩
    go_wp2_with fail
    go_ret2
    exact ⟨rfl, rfl⟩
theorem near_any73 (a b : Int) (w : World) (ha1 : -9223372036854775808 ≤ a) (ha2 : a ≤ 9223372036854775807) (hb1 : -9223372036854775808 ≤ b) (hb2 : b ≤ 9223372036854775807) :
    Calls Try.prog 72 #[.int .i64 a, .int .i64 b, .func (.func 73) #[] #[]] w fun e w' => e = .returned (.tuple #[.int .i64 (nearI (!ngB a b) a b), .bool (nearB (!ngB a b) a b)]) ∧ w = w' := by
  by_cases h0 : b = 0
  · subst h0
    refine (near_no _ a w).mono fun e w' ⟨he, hw⟩ => ⟨?_, hw⟩
    rw [he]; rfl
  · by_cases hr : a.natAbs % b.natAbs = 0
    · refine (near_whole _ (!ngB a b) a b w ha1 ha2 hb1 hb2 h0 hr).mono fun e w' ⟨he, hw⟩ => ⟨?_, hw⟩
      rw [he]; unfold nearI nearB; rw [if_neg h0, if_neg h0]
    · refine (near_part73 (ngB a b) a b w ha1 ha2 hb1 hb2 h0 hr rfl).mono fun e w' ⟨he, hw⟩ => ⟨?_, hw⟩
      rw [he]; unfold nearI nearB nearV upN; rw [if_neg h0, if_neg h0, decide_eq_true hr, Bool.and_true]
set_option maxHeartbeats 400000 in
theorem num_ceil (a b : Int) (w : World) (ha1 : -9223372036854775808 ≤ a) (ha2 : a ≤ 9223372036854775807) (hb1 : -9223372036854775808 ≤ b) (hb2 : b ≤ 9223372036854775807) :
    Calls Try.prog 60 #[.int .i64 a, .int .i64 b] w fun e w' => e = .returned (.tuple #[.int .i64 (nearI (!ngB a b) a b), .bool (nearB (!ngB a b) a b)]) ∧ w = w' := by
  have Hc := Lib.hid (near_any73 a b w ha1 ha2 hb1 hb2)
  clear ha1 ha2 hb1 hb2
  go_enter Try.func60, Try.ntmps60
  go_wp2_with fail
  refine Hc.out.mono ?_
  rintro e w' ⟨rfl, rfl⟩
  go_wp2_with fail
  go_ret2
  exact ⟨rfl, rfl⟩
end Go.Proofs.Ytkabmpbfabgkfaa
