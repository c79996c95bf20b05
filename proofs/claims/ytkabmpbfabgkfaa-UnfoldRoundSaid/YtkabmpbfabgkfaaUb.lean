/-
  How many dates lie below a time.
  Conditions: the numbers are int64s.
-/
import Derived.Test.YtkabmpbfabgkfaaUa
import Derived.WalkKit
import Derived.WalkSpells
import Derived.WalkLawsBesides
import Derived.Deep.QuietTactic
import Derived.BigQuiet
import Derived.Lib.Hide
import Derived.Handy
import Derived.Deep.AppendLies
import Derived.Maps.AppendAt
import Derived.OwnWalk
import Derived.Lib.LazyBuf
import Derived.Deep.DeepCutAuto
import Derived.Deep.RegionLaw
import Derived.Deep.RegionHeld3
import Derived.Deep.RegionWith
import Derived.BigRegion
import Derived.Deep.CutBlock
set_option linter.unusedVariables false
set_option linter.unusedSimpArgs false
namespace Go.Proofs.Ytkabmpbfabgkfaa
open Go.RowKit 
open Big
attribute [local go_sem] setCell_drewN alloc_drewN size_ext ext_ext ext_drewN ext_drew drewN_ext drew_ext cell?_ext frozen?_ext setCell_ext cell?_past1 frozen?_past1 setCell_past1 cell?_past2 frozen?_past2 setCell_past2 cell?_past3 frozen?_past3 setCell_past3 cell?_past4 frozen?_past4 setCell_past4 cell?_past5 frozen?_past5 setCell_past5 cell?_past6 frozen?_past6 setCell_past6 cell?_past7 frozen?_past7 setCell_past7 cell?_past8 frozen?_past8 setCell_past8
def mxI (x y : Int) : Int := if x < y then y else x
theorem max_ab (ats : Array TypeId) (ty : TypeId) (x y : Int) : Builtin.max_ ats ty #[.int .i64 x, .int .i64 y] = pure (.int .i64 (mxI x y)) := by
  simp only [Builtin.max_, List.foldlM_cons, List.foldlM_nil, Builtin.max2, gt_iff_lt]; rfl
attribute [local go_sem] max_ab
/-- How many dates of a clock lie below a time. -/
def belowN (p s u : Int) : Int := if s < u then (u - s + p - 1) / p else 0
theorem ceil_below {d p : Int} (hd : 0 ≤ d) (hd2 : d ≤ 1152921504606846976) (hp : 1 ≤ p) (hp2 : p ≤ 1099511627776) : nearI (!ngB d p) d p = (d + p - 1) / p := by
  obtain ⟨a, rfl⟩ : ∃ a : Nat, d = (a : Int) := ⟨d.toNat, by omega⟩
  obtain ⟨b, rfl⟩ : ∃ b : Nat, p = (b : Int) := ⟨p.toNat, by omega⟩
  have hb : 1 ≤ b := by omega
  have hng : ngB (a : Int) (b : Int) = false := by
    unfold ngB
    rw [decide_eq_false (show ¬ ((a : Int) < 0) by omega), decide_eq_false (show ¬ ((b : Int) < 0) by omega)]; rfl
  have key : upN true (a : Int) (b : Int) = (a + b - 1) / b := by
    unfold upN
    simp only [Int.natAbs_natCast, Bool.true_and]
    have h1 := Nat.div_add_mod a b
    have h2 := Nat.mod_lt a hb
    split
    · rename_i h
      have h := of_decide_eq_true h
      symm
      apply Nat.div_eq_of_lt_le
      · rw [Nat.add_mul, Nat.one_mul, Nat.mul_comm]; omega
      · rw [Nat.add_mul, Nat.add_mul, Nat.one_mul, Nat.mul_comm]; omega
    · rename_i h
      have h0 : a % b = 0 := by
        rcases Nat.eq_zero_or_pos (a % b) with e | e
        · exact e
        · exact (h (decide_eq_true (by omega))).elim
      symm
      apply Nat.div_eq_of_lt_le
      · rw [Nat.mul_comm]; omega
      · rw [Nat.add_mul, Nat.one_mul, Nat.mul_comm]; omega
  unfold nearI nearV
  rw [hng, if_neg (by omega), show (!false) = true from rfl, key]
  unfold sg fitV
  have hle : (a + b - 1) / b ≤ a + b - 1 := Nat.div_le_self _ _
  have he : (((a + b - 1) / b : Nat) : Int) = ((a : Int) + b - 1) / b := by
    rw [Int.natCast_ediv]; congr 1; omega
  simp only [Bool.false_eq_true, if_false]
  rw [if_pos (by omega), he]
theorem belowN_nonneg {p s u : Int} (hp : 1 ≤ p) : 0 ≤ belowN p s u := by
  unfold belowN; split
  · exact Int.ediv_nonneg (by omega) (by omega)
  · exact Int.le_refl _
theorem belowN_le {p s u : Int} (hp : 1 ≤ p) (hs : 0 ≤ s) (hu : 0 ≤ u) : belowN p s u ≤ u := by
  unfold belowN; split
  · have h1 : (u - s + p - 1) / p < u - s + 1 := by
      rw [Int.ediv_lt_iff_lt_mul (by omega)]
      have : (u - s) * 1 ≤ (u - s) * p := Int.mul_le_mul_of_nonneg_left hp (by omega)
      rw [Int.add_mul, Int.one_mul]
      omega
    omega
  · exact hu
set_option maxRecDepth 100000 in
set_option maxHeartbeats 1000000 in
theorem below_any (w : World) (p s u : Int) (hp1 : 1 ≤ p) (hp2 : p ≤ 1099511627776) (hs1 : 0 ≤ s) (hs2 : s ≤ 1099511627776) (hu1 : 0 ≤ u) (hu2 : u ≤ 1125899906842624) : Calls Try.prog 34 #[.agg #[.int .i64 p, .int .i64 s], .int .i64 u] w fun e w' => e = .returned (.int .i64 (belowN p s u)) ∧ Below w.heap.size w w' := by
  obtain ⟨d, hd⟩ : ∃ d, d = mxI 0 (u - s) := ⟨_, rfl⟩
  have hd0 : 0 ≤ d ∧ d ≤ 1125899906842624 := by rw [hd]; unfold mxI; split <;> omega
  obtain ⟨x, hx⟩ : ∃ x, x = u - s := ⟨_, rfl⟩
  have hw : IntKind.i64.wrap (u - s) = x := by rw [IntKind.wrap_i64]; omega
  have hB : nearI (!ngB d p) d p = belowN p s u := by
    rw [ceil_below hd0.1 (by omega) hp1 hp2]
    unfold belowN
    unfold mxI at hd
    split
    · rw [show d = u - s by rw [hd, if_pos (by omega)]]
    · rw [show d = 0 by rw [hd]; split <;> omega]
      exact Int.ediv_eq_zero_of_lt (by omega) (by omega)
  have HB := Lib.hid hB
  have HP := Lib.hid (And.intro hp1 hp2)
  have HD := Lib.hid hd0
  replace hd : mxI 0 x = d := by rw [hx]; exact hd.symm
  clear hx hd0 hB hs1 hs2 hu1 hu2 hp1 hp2
  go_enter Try.func34, Try.ntmps34
  go_wp2_with fail
  refine (num_ceil d p _ (by have := HD.out; omega) (by have := HD.out; omega) (by have := HP.out; omega) (by have := HP.out; omega)).mono ?_
  rintro e w1 ⟨rfl, rfl⟩
  rw [HB.out]
  go_wp2_with fail
  go_ret
  exact ⟨rfl, by repeat (first | (with_reducible exact Below.refl _ _) | (with_reducible assumption) | (with_reducible refine below_drewN ?_ _) | (with_reducible refine Below.drew ?_) | (with_reducible refine below_ext_of ?_ (by first | exact Nat.le_refl _ | assumption | (simp only [World.size_alloc, World.size_setCell, size_ext, World.heap_drewN]; omega)) _ _) | (with_reducible refine Below.alloc ?_ (by first | exact Nat.le_refl _ | assumption | (simp only [World.size_alloc, World.size_setCell, size_ext, World.heap_drewN]; omega)) _) | (with_reducible refine Below.setCell ?_ (by first | exact Nat.le_refl _ | assumption | (simp only [World.size_alloc, World.size_setCell, size_ext, World.heap_drewN]; omega)) _))⟩
end Go.Proofs.Ytkabmpbfabgkfaa
