/-
  carillonref01: Divisor: the greatest common divisor, by rounds of divisions.
  Conditions: both sizes are at most 2^63.
-/
import Derived.Test.YtncohomkggnckaaQu
set_option linter.unusedVariables false
set_option linter.unusedSimpArgs false
namespace Go.Proofs.Ytncohomkggnckaa
open Go.RowKit Big
attribute [local go_sem] setCell_drewN alloc_drewN size_ext ext_ext ext_drewN ext_drew drewN_ext drew_ext cell?_ext frozen?_ext setCell_ext cell?_past1 frozen?_past1 setCell_past1 cell?_past2 frozen?_past2 setCell_past2 cell?_past3 frozen?_past3 setCell_past3 cell?_past4 frozen?_past4 setCell_past4 cell?_past5 frozen?_past5 setCell_past5 cell?_past6 frozen?_past6 setCell_past6 cell?_past7 frozen?_past7 setCell_past7 cell?_past8 frozen?_past8 setCell_past8

set_option maxRecDepth 100000 in
set_option maxHeartbeats 1000000 in
theorem divisor_any (A B : Nat) (s t : Bool) (w : World) (hA : A ≤ 9223372036854775808) (hB : B ≤ 9223372036854775808) :
    Calls Try.prog 43 #[.agg #[.int .u64 (dg A 0), .int .u64 (dg A 1), .int .u64 (dg A 2), .int .u64 (dg A 3), .bool s], .agg #[.int .u64 (dg B 0), .int .u64 (dg B 1), .int .u64 (dg B 2), .int .u64 (dg B 3), .bool t]] w
      fun e w' => e = .returned (.agg #[.int .u64 (dg (Nat.gcd A B) 0), .int .u64 (dg (Nat.gcd A B) 1), .int .u64 (dg (Nat.gcd A B) 2), .int .u64 (dg (Nat.gcd A B) 3), .bool false]) ∧ Below w.heap.size w w' := by
  go_enter Try.func43, Try.ntmps43
  go_wp2_with fail
  go_loopw [5] (fun i wr => ∃ (n x y : Nat) (X : Array Obj) (d : Nat), n ≤ 300 ∧ i = .int .i64 (n : Int) ∧ Eu A B n x y ∧ wr = ext (((w.alloc (.cells #[.int .u64 (dg x 0), .int .u64 (dg x 1), .int .u64 (dg x 2), .int .u64 (dg x 3), .bool false] 30)).alloc (.cells #[.int .u64 (dg y 0), .int .u64 (dg y 1), .int .u64 (dg y 2), .int .u64 (dg y 3), .bool false] 30)).alloc (.cells #[.int .u64 0, .int .u64 0, .int .u64 0, .int .u64 0, .bool false] 30)) X d) (fun i _ => 300 - (intOf i).toNat)
  case atStart =>
    exact ⟨0, A, B, #[], w.drawn, by omega, rfl, Eu_start A B hA hB, (ext_nil _).symm⟩
  case round =>
    obtain ⟨n, x, y, X, d, hn, rfl, he, rfl⟩ := hrel
    have hx := he.1
    have hy := he.2.1
    have hyP := Lib.hid (show y < 340282366920938463463374607431768211456 by omega)
    have hxP := Lib.hid (show x < 340282366920938463463374607431768211456 by omega)
    have hyH := Lib.hid (show y ≤ 170141183460469231731687303715884105728 by omega)
    clear hA hB
    by_cases h0 : y = 0
    · have hg := Lib.hid (Eu_done A B n x (h0 ▸ he))
      have hd := decide_eq_true h0
      clear he hx hy hxP hyH h0
      by_cases hlt : n < 300
      all_goals
        go_wp2_with (go_at_call 35; refine (zero_any y false _ hyP.out).mono ?_; rintro e w1 ⟨rfl, hb⟩; obtain ⟨X1, d1, rfl⟩ := below_ext hb; clear hb)
        refine bodyPost_ret (v := .agg #[.int .u64 (dg x 0), .int .u64 (dg x 1), .int .u64 (dg x 2), .int .u64 (dg x 3), .bool false]) (by simp [results, Try.results43, go_sem]) rfl ⟨by rw [hg.out], ?_⟩
        repeat (first | (with_reducible exact Below.refl _ _) | (with_reducible assumption) | (with_reducible refine below_drewN ?_ _) | (with_reducible refine below_ext_of ?_ (by first | exact Nat.le_refl _ | assumption | (simp only [World.size_alloc, World.size_setCell, size_ext, World.heap_drewN]; omega)) _ _) | (with_reducible refine Below.alloc ?_ (by first | exact Nat.le_refl _ | assumption | (simp only [World.size_alloc, World.size_setCell, size_ext, World.heap_drewN]; omega)) _) | (with_reducible refine Below.setCell ?_ (by first | exact Nat.le_refl _ | assumption | (simp only [World.size_alloc, World.size_setCell, size_ext, World.heap_drewN]; omega)) _))
    · have hlt : n < 300 := by
        by_cases h : n < 300
        · exact h
        · exact absurd (Eu_end A B n x y he (by omega)) h0
      have hs := Eu_step A B n x y he (by omega)
      have hd := decide_eq_false h0
      have hy1 := Lib.hid (show 0 < y by omega)
      have Hs := Lib.hid hs
      clear he hx hy h0 hs
      go_wp2_with (first
        | (go_at_call 35; refine (zero_any y false _ hyP.out).mono ?_; rintro e w1 ⟨rfl, hb⟩; obtain ⟨X1, d1, rfl⟩ := below_ext hb; clear hb)
        | (go_at_call 34; refine (quo_any x y false false _ hxP.out hy1.out hyH.out).mono ?_; rintro e w2 ⟨rfl, hb⟩; obtain ⟨X2, d2, rfl⟩ := below_ext hb; clear hb))
      refine ⟨⟨n + 1, y, x % y, _, _, by omega, by go_num, Hs.out, by rw [alloc_ext, alloc_ext]⟩, ?_⟩
      simp [intOf]; omega
end Go.Proofs.Ytncohomkggnckaa
