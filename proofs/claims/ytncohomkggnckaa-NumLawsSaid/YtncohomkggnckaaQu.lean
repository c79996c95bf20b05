/-
  carillonref01: Quo: the quotient and what is left, bit by bit.
  Conditions: the dividend is below 2^128, the divisor from 1 to 2^127.
-/
import Derived.Test.YtncohomkggnckaaAd
import Derived.BigRegion
set_option linter.unusedVariables false
set_option linter.unusedSimpArgs false
namespace Go.Proofs.Ytncohomkggnckaa
open Go.RowKit Big
attribute [local go_sem] setCell_drewN alloc_drewN size_ext ext_ext ext_drewN ext_drew drewN_ext drew_ext cell?_ext frozen?_ext setCell_ext cell?_past1 frozen?_past1 setCell_past1 cell?_past2 frozen?_past2 setCell_past2 cell?_past3 frozen?_past3 setCell_past3 cell?_past4 frozen?_past4 setCell_past4 cell?_past5 frozen?_past5 setCell_past5 cell?_past6 frozen?_past6 setCell_past6 cell?_past7 frozen?_past7 setCell_past7 cell?_past8 frozen?_past8 setCell_past8

theorem dg_even (R b j : Nat) (hb : b < 2) (hj : 1 ≤ j) : dg (R + R) j = dg (R + R + b) j := by
  unfold dg
  obtain ⟨k, rfl⟩ : ∃ k, j = k + 1 := ⟨j - 1, by omega⟩
  rw [pow_split]
  have hp : 0 < 2 ^ (32 * k) := Nat.two_pow_pos _
  generalize 2 ^ (32 * k) = p at *
  have e : p * 4294967296 = 2 * (2147483648 * p) := by grind
  rw [e, ← Nat.div_div_eq_div_mul (R + R), ← Nat.div_div_eq_div_mul (R + R + b), show (R + R) / 2 = R by omega, show (R + R + b) / 2 = R by omega]
theorem or_bit (A R m c : Nat) (hc : m / 32 = c) : bits .or .u64 (dg (R + R) 0) (bits .and .u64 (dg A c / 2 ^ (m % 32)) 1) = dg (R + R + A / 2 ^ m % 2) 0 := by
  subst hc
  have hb := dg_bit A m
  have e2 : ((2 : Int) ^ (m % 32)) = ((2 ^ (m % 32) : Nat) : Int) := by push_cast; rfl
  rw [e2]
  have h0 := dg_lo A (m / 32)
  have h1 := dg_hi A (m / 32)
  have hp : (0 : Int) < ((2 ^ (m % 32) : Nat) : Int) := by have := Nat.two_pow_pos (m % 32); omega
  have h2 : 0 ≤ dg A (m / 32) / ((2 ^ (m % 32) : Nat) : Int) := Int.ediv_nonneg h0 (by omega)
  have h3 : dg A (m / 32) / ((2 ^ (m % 32) : Nat) : Int) ≤ dg A (m / 32) := Int.ediv_le_self _ h0
  rw [and_one_u64 _ h2 (by omega), hb]
  have hlt : A / 2 ^ m % 2 < 2 := Nat.mod_lt _ (by omega)
  generalize A / 2 ^ m % 2 = b at *
  rw [dg0, dg0, u64_or_nat _ _ (by omega) (by omega), nat_join 1 _ _ (by omega) (by omega)]
  omega
theorem or_put (A B m c : Nat) (hc : m / 32 = c) (hq : qS A B m = qS A B (m + 1) + 2 ^ m) : bits .or .u64 (dg (qS A B (m + 1)) c) (IntKind.u64.wrap (2 ^ (m % 32))) = dg (qS A B m) c := by
  subst hc
  have e2 : ((2 : Int) ^ (m % 32)) = ((2 ^ (m % 32) : Nat) : Int) := by push_cast; rfl
  have hr : m % 32 < 32 := Nat.mod_lt _ (by omega)
  have hp : 2 ^ (m % 32) < 4294967296 := Nat.lt_of_lt_of_le (Nat.pow_lt_pow_right (by omega) hr) (by omega)
  have hpos : (0 : Int) ≤ ((2 ^ (m % 32) : Nat) : Int) := Int.natCast_nonneg _
  have hp' : ((2 ^ (m % 32) : Nat) : Int) < 4294967296 := by (clear hq hpos; generalize 2 ^ (m % 32) = p at *; omega)
  rw [e2, IntKind.wrap_u64, Int.emod_eq_of_lt hpos (by omega)]
  obtain ⟨y, hy⟩ := dg_room A B m
  have hd := dg_put A B m (m / 32)
  rw [if_pos rfl] at hd
  rw [hq, hd]
  have hlo := dg_hi (qS A B (m + 1)) (m / 32)
  rw [hy] at *
  rw [u64_or_nat _ _ (by omega) (by omega), nat_join (m % 32 + 1) _ _ (Nat.mul_mod_left _ _) (by rw [Nat.pow_succ]; have := Nat.two_pow_pos (m % 32); omega)]
  omega
theorem put_rest (A B m c j : Nat) (hc : m / 32 = c) (hj : j ≠ c) (hq : qS A B m = qS A B (m + 1) + 2 ^ m) : dg (qS A B (m + 1)) j = dg (qS A B m) j := by
  rw [hq, dg_put, if_neg (by omega)]
set_option maxHeartbeats 1000000 in
theorem quo_any (A B : Nat) (s t : Bool) (w : World) (hA : A < 340282366920938463463374607431768211456) (hB0 : 0 < B) (hB : B ≤ 170141183460469231731687303715884105728) :
    Calls Try.prog 34 #[.agg #[.int .u64 (dg A 0), .int .u64 (dg A 1), .int .u64 (dg A 2), .int .u64 (dg A 3), .bool s], .agg #[.int .u64 (dg B 0), .int .u64 (dg B 1), .int .u64 (dg B 2), .int .u64 (dg B 3), .bool t]] w
      fun e w' => e = .returned (.tuple #[.agg #[.int .u64 (dg (A / B) 0), .int .u64 (dg (A / B) 1), .int .u64 (dg (A / B) 2), .int .u64 (dg (A / B) 3), .bool false], .agg #[.int .u64 (dg (A % B) 0), .int .u64 (dg (A % B) 1), .int .u64 (dg (A % B) 2), .int .u64 (dg (A % B) 3), .bool false]]) ∧ Below w.heap.size w w' := by
  go_enter Try.func34, Try.ntmps34
  go_wp2_with fail
  go_loopw [8] (fun i wr => ∃ (n : Nat) (X : Array Obj) (d : Nat), n ≤ 128 ∧ i = .int .i64 ((n : Int) - 1) ∧ wr = ext ((((((w.alloc (.cells #[.int .u64 (dg A 0), .int .u64 (dg A 1), .int .u64 (dg A 2), .int .u64 (dg A 3), .bool s] 30)).alloc (.cells #[.int .u64 (dg B 0), .int .u64 (dg B 1), .int .u64 (dg B 2), .int .u64 (dg B 3), .bool t] 30)).alloc (.cells #[.int .u64 0, .int .u64 0, .int .u64 0, .int .u64 0, .bool false] 30)).alloc (.cells #[.int .u64 0, .int .u64 0, .int .u64 0, .int .u64 0, .bool false] 30)).alloc (.cells #[.int .u64 (dg (qS A B n) 0), .int .u64 (dg (qS A B n) 1), .int .u64 (dg (qS A B n) 2), .int .u64 (dg (qS A B n) 3), .bool false] 30)).alloc (.cells #[.int .u64 (dg (A / 2 ^ n % B) 0), .int .u64 (dg (A / 2 ^ n % B) 1), .int .u64 (dg (A / 2 ^ n % B) 2), .int .u64 (dg (A / 2 ^ n % B) 3), .bool false] 30)) X d) (fun i _ => (intOf i + 1).toNat)
  case atStart =>
    have hz : A / 2 ^ 128 = 0 := Nat.div_eq_of_lt hA
    have h0 : ∀ j, dg 0 j = 0 := fun j => by simp [dg]
    refine ⟨128, #[], w.drawn, by omega, rfl, ?_⟩
    unfold qS
    rw [hz, Nat.zero_div, Nat.zero_mul, Nat.zero_mod]
    simp only [h0]
    exact (ext_nil _).symm
  case round =>
    obtain ⟨n, X, d, hn, rfl, rfl⟩ := hrel
    cases n with
    | zero =>
      have hq : qS A B 0 = A / B := by unfold qS; simp
      have hr : A / 2 ^ 0 % B = A % B := by simp
      rw [hq, hr]
      clear hq hr
      go_wp2_with fail
      go_region
      all_goals
        go_wp2_with fail
        refine bodyPost_ret (v := .tuple #[.agg #[.int .u64 (dg (A / B) 0), .int .u64 (dg (A / B) 1), .int .u64 (dg (A / B) 2), .int .u64 (dg (A / B) 3), .bool false], .agg #[.int .u64 (dg (A % B) 0), .int .u64 (dg (A % B) 1), .int .u64 (dg (A % B) 2), .int .u64 (dg (A % B) 3), .bool false]]) (by simp [results, Try.results34, go_sem]) rfl ⟨rfl, ?_⟩
        repeat (first | (with_reducible exact Below.refl _ _) | (with_reducible assumption) | (with_reducible refine below_drewN ?_ _) | (with_reducible refine below_ext_of ?_ (by first | exact Nat.le_refl _ | assumption | (simp only [World.size_alloc, World.size_setCell, size_ext, World.heap_drewN]; omega)) _ _) | (with_reducible refine Below.alloc ?_ (by first | exact Nat.le_refl _ | assumption | (simp only [World.size_alloc, World.size_setCell, size_ext, World.heap_drewN]; omega)) _) | (with_reducible refine Below.setCell ?_ (by first | exact Nat.le_refl _ | assumption | (simp only [World.size_alloc, World.size_setCell, size_ext, World.heap_drewN]; omega)) _))
    | succ m =>
      rw [show (((m + 1 : Nat) : Int) - 1) = (m : Int) by omega]
      have hb2 : A / 2 ^ m % 2 < 2 := Nat.mod_lt _ (by omega)
      have hR : A / 2 ^ (m + 1) % B < B := Nat.mod_lt _ hB0
      have hless := quo_less A B m
      have hmore := quo_more A B m hB0
      have hqless := qS_less A B m
      have hqmore := qS_more A B m hB0
      obtain ⟨c, hc⟩ : ∃ c, m / 32 = c := ⟨_, rfl⟩
      have horb := fun R => or_bit A R m c hc
      have horp := or_put A B m c hc
      have hrest := fun j hj => put_rest A B m c j hc hj
      rw [show ∀ x y : Nat, 2 * x + y = x + x + y from fun x y => by omega] at hless hmore hqless hqmore
      generalize HR : A / 2 ^ (m + 1) % B = R at *
      generalize HZ : R + R + A / 2 ^ m % 2 = Z at *
      have hZ : Z < 340282366920938463463374607431768211456 := by omega
      have hBp : B < 340282366920938463463374607431768211456 := by omega
      have e1 : dg (R + R) 1 = dg Z 1 := by rw [← HZ]; exact dg_even _ _ _ hb2 (by omega)
      have e2 : dg (R + R) 2 = dg Z 2 := by rw [← HZ]; exact dg_even _ _ _ hb2 (by omega)
      have e3 : dg (R + R) 3 = dg Z 3 := by rw [← HZ]; exact dg_even _ _ _ hb2 (by omega)
      have e0 := horb R
      rw [HZ] at e0
      clear horb HZ HR
      have hm : (m : Int) / 32 = (c : Int) := by omega
      have hr1 : 0 ≤ (m : Int) % 32 := by omega
      have hr2 : (m : Int) % 32 < 32 := by omega
      have hc3 : c = 0 ∨ c = 1 ∨ c = 2 ∨ c = 3 := by omega
      by_cases hlt : Z < B
      · have hfR := Lib.hid (hless hlt).1
        have hfQ := Lib.hid (hqless hlt)
        have hd : decide (Z < B) = true := decide_eq_true hlt
        clear hless hmore hqless hqmore horp hrest hlt hc hb2 hR
        rcases hc3 with rfl | rfl | rfl | rfl
        all_goals
          (try push_cast at hm)
          go_wp2_with (go_at_call 44; refine (plus_any R R false false _).mono ?_; rintro e w1 ⟨rfl, hb⟩; obtain ⟨X1, d1, rfl⟩ := below_ext hb; clear hb)
          go_region
          go_wp2_with (go_at_call 45; refine (less_any Z B false t _ hZ hBp).mono ?_; rintro e w2 ⟨rfl, hb⟩; obtain ⟨X2, d2, rfl⟩ := below_ext hb; clear hb)
          go_roundw
          case rel => exact ⟨m, _, _, by omega, rfl, by rw [hfR.out, hfQ.out]⟩
          case measure => simp [intOf] <;> omega
      · have hfR := Lib.hid (hmore (by omega)).1
        have hq := hqmore (by omega)
        have hput := horp hq
        have hd : decide (Z < B) = false := decide_eq_false hlt
        have hle : B ≤ Z := by omega
        have hrst := fun j hj => hrest j hj hq
        clear hless hmore hqless hqmore horp hrest hlt hc hb2 hR hq
        rcases hc3 with rfl | rfl | rfl | rfl
        · (try push_cast at hm)
          have hq1 := hrst 1 (by omega)
          have hq2 := hrst 2 (by omega)
          have hq3 := hrst 3 (by omega)
          clear hrst
          go_wp2_with (go_at_call 44; refine (plus_any R R false false _).mono ?_; rintro e w1 ⟨rfl, hb⟩; obtain ⟨X1, d1, rfl⟩ := below_ext hb; clear hb)
          go_region
          go_wp2_with (first | (go_at_call 45; refine (less_any Z B false t _ hZ hBp).mono ?_; rintro e w2 ⟨rfl, hb⟩; obtain ⟨X2, d2, rfl⟩ := below_ext hb; clear hb) | (go_at_call 46; refine (minus_any Z B false t _ hle).mono ?_; rintro e w2 ⟨rfl, hb⟩; obtain ⟨X3, d3, rfl⟩ := below_ext hb; clear hb))
          refine ⟨⟨m, _, _, by omega, rfl, by rw [hfR.out]⟩, ?_⟩
          simp [intOf] <;> omega
        · (try push_cast at hm)
          have hq0 := hrst 0 (by omega)
          have hq2 := hrst 2 (by omega)
          have hq3 := hrst 3 (by omega)
          clear hrst
          go_wp2_with (go_at_call 44; refine (plus_any R R false false _).mono ?_; rintro e w1 ⟨rfl, hb⟩; obtain ⟨X1, d1, rfl⟩ := below_ext hb; clear hb)
          go_region
          go_wp2_with (first | (go_at_call 45; refine (less_any Z B false t _ hZ hBp).mono ?_; rintro e w2 ⟨rfl, hb⟩; obtain ⟨X2, d2, rfl⟩ := below_ext hb; clear hb) | (go_at_call 46; refine (minus_any Z B false t _ hle).mono ?_; rintro e w2 ⟨rfl, hb⟩; obtain ⟨X3, d3, rfl⟩ := below_ext hb; clear hb))
          refine ⟨⟨m, _, _, by omega, rfl, by rw [hfR.out]⟩, ?_⟩
          simp [intOf] <;> omega
        · (try push_cast at hm)
          have hq0 := hrst 0 (by omega)
          have hq1 := hrst 1 (by omega)
          have hq3 := hrst 3 (by omega)
          clear hrst
          go_wp2_with (go_at_call 44; refine (plus_any R R false false _).mono ?_; rintro e w1 ⟨rfl, hb⟩; obtain ⟨X1, d1, rfl⟩ := below_ext hb; clear hb)
          go_region
          go_wp2_with (first | (go_at_call 45; refine (less_any Z B false t _ hZ hBp).mono ?_; rintro e w2 ⟨rfl, hb⟩; obtain ⟨X2, d2, rfl⟩ := below_ext hb; clear hb) | (go_at_call 46; refine (minus_any Z B false t _ hle).mono ?_; rintro e w2 ⟨rfl, hb⟩; obtain ⟨X3, d3, rfl⟩ := below_ext hb; clear hb))
          refine ⟨⟨m, _, _, by omega, rfl, by rw [hfR.out]⟩, ?_⟩
          simp [intOf] <;> omega
        · (try push_cast at hm)
          have hq0 := hrst 0 (by omega)
          have hq1 := hrst 1 (by omega)
          have hq2 := hrst 2 (by omega)
          clear hrst
          go_wp2_with (go_at_call 44; refine (plus_any R R false false _).mono ?_; rintro e w1 ⟨rfl, hb⟩; obtain ⟨X1, d1, rfl⟩ := below_ext hb; clear hb)
          go_region
          go_wp2_with (first | (go_at_call 45; refine (less_any Z B false t _ hZ hBp).mono ?_; rintro e w2 ⟨rfl, hb⟩; obtain ⟨X2, d2, rfl⟩ := below_ext hb; clear hb) | (go_at_call 46; refine (minus_any Z B false t _ hle).mono ?_; rintro e w2 ⟨rfl, hb⟩; obtain ⟨X3, d3, rfl⟩ := below_ext hb; clear hb))
          refine ⟨⟨m, _, _, by omega, rfl, by rw [hfR.out]⟩, ?_⟩
          simp [intOf] <;> omega
end Go.Proofs.Ytncohomkggnckaa
