/-
  What words.Zip puts together: the closures by$1 and by$2; what Zip answers, as a plain function.
  Conditions: each theorem's own.
-/
import Derived.Test.YtpcnapmlmhhcpaaWr
import Derived.WalkKit
import Derived.WalkSpells
import Derived.WalkLawsBesides
import Derived.Deep.QuietTactic
import Derived.BigQuiet
import Derived.Lib.Hide
import Derived.Handy
import Derived.Test.YtpcnapmlmhhcpaaNu
import Derived.Deep.AppendLies
import Derived.Maps.AppendAt
import Derived.OwnWalk
import Derived.Lib.LazyBuf
import Derived.Deep.DeepCutAuto
import Derived.Deep.RegionLaw
import Derived.Deep.RegionHeld3
import Derived.Deep.RegionWith
import Derived.BigRegion
set_option linter.unusedVariables false
set_option linter.unusedSimpArgs false
namespace Go.Proofs.Ytpcnapmlmhhcpaa
open Go.RowKit 
open Big
attribute [local go_sem] setCell_drewN alloc_drewN size_ext ext_ext ext_drewN ext_drew drewN_ext drew_ext cell?_ext frozen?_ext setCell_ext cell?_past1 frozen?_past1 setCell_past1 cell?_past2 frozen?_past2 setCell_past2 cell?_past3 frozen?_past3 setCell_past3 cell?_past4 frozen?_past4 setCell_past4 cell?_past5 frozen?_past5 setCell_past5 cell?_past6 frozen?_past6 setCell_past6 cell?_past7 frozen?_past7 setCell_past7 cell?_past8 frozen?_past8 setCell_past8

def mnI (x y : Int) : Int := if y < x then y else x
def mxI (x y : Int) : Int := if x < y then y else x
theorem min_ab (ats : Array TypeId) (ty : TypeId) (x y : Int) : Builtin.min_ ats ty #[.int .i64 x, .int .i64 y] = pure (.int .i64 (mnI x y)) := by
  simp only [Builtin.min_, List.foldlM_cons, List.foldlM_nil, Builtin.min2]; rfl
theorem max_ab (ats : Array TypeId) (ty : TypeId) (x y : Int) : Builtin.max_ ats ty #[.int .i64 x, .int .i64 y] = pure (.int .i64 (mxI x y)) := by
  simp only [Builtin.max_, List.foldlM_cons, List.foldlM_nil, Builtin.max2, gt_iff_lt]; rfl
attribute [local go_sem] min_ab max_ab
/-- What two numbers give, and whether it fits. -/
def zV (op : Nat) (x y : Int) : Int := if op = 1 then fitV (x + y) else if op = 2 then fitV (x - y) else if op = 3 then mnI x y else mxI x y
def zB (op : Nat) (x y : Int) : Bool := if op = 1 then fitB (x + y) else if op = 2 then fitB (x - y) else true
def in64P (x : Int) : Prop := -9223372036854775808 ≤ x ∧ x ≤ 9223372036854775807
def in64 (x : Int) : Bool := decide (-9223372036854775808 ≤ x) && decide (x ≤ 9223372036854775807)
theorem does1 (w : World) (x y : Int) (hx : in64P x) (hy : in64P y) : Calls Try.prog 49 #[.int .i64 x, .int .i64 y] w fun e w' => e = .returned (.tuple #[.int .i64 (zV 1 x y), .bool (zB 1 x y)]) ∧ w = w' := num_add x y w hx.1 hx.2 hy.1 hy.2
theorem does2 (w : World) (x y : Int) (hx : in64P x) (hy : in64P y) : Calls Try.prog 50 #[.int .i64 x, .int .i64 y] w fun e w' => e = .returned (.tuple #[.int .i64 (zV 2 x y), .bool (zB 2 x y)]) ∧ w = w' := num_sub x y w hx.1 hx.2 hy.1 hy.2
theorem does3 (w : World) (x y : Int) (hx : in64P x) (hy : in64P y) : Calls Try.prog 51 #[.int .i64 x, .int .i64 y] w fun e w' => e = .returned (.tuple #[.int .i64 (zV 3 x y), .bool (zB 3 x y)]) ∧ w = w' := by
  have e : zV 3 x y = mnI x y := rfl
  have e2 : zB 3 x y = true := rfl
  rw [e, e2]
  clear e e2 hx hy
  go_enter Try.func51, Try.ntmps51
  go_wp2_with fail
  refine bodyPost_ret (v := .tuple #[.int .i64 (mnI x y), .bool true]) (by simp [results, Try.results51, go_sem]) rfl ⟨rfl, rfl⟩
theorem does4 (w : World) (x y : Int) (hx : in64P x) (hy : in64P y) : Calls Try.prog 52 #[.int .i64 x, .int .i64 y] w fun e w' => e = .returned (.tuple #[.int .i64 (zV 4 x y), .bool (zB 4 x y)]) ∧ w = w' := by
  have e : zV 4 x y = mxI x y := rfl
  have e2 : zB 4 x y = true := rfl
  rw [e, e2]
  clear e e2 hx hy
  go_enter Try.func52, Try.ntmps52
  go_wp2_with fail
  refine bodyPost_ret (v := .tuple #[.int .i64 (mxI x y), .bool true]) (by simp [results, Try.results52, go_sem]) rfl ⟨rfl, rfl⟩
/-- The numbers of what is put together; whether all fit; what Zip answers of short words. -/
def zS (op : Nat) (H L H' L' : List Int) (i : Nat) : Int := zV op (num H L i) (num H' L' i)
def zOk (op : Nat) (H L H' L' : List Int) (n : Nat) : Bool := (List.range n).all fun i => zB op (num H L i) (num H' L' i)
def zA (op : Nat) (H L H' L' : List Int) : List Int := tab (zS op H L H' L') (max H.length H'.length)
def zC (op : Nat) (H L H' L' : List Int) : List Int := tab (fun i => zS op H L H' L' (max H.length H'.length + i)) (Nat.lcm L.length L'.length)
def zipOut (op : Nat) (H L H' L' : List Int) : List Int × List Int × Int :=
  if 65536 < max H.length H'.length + Nat.lcm L.length L'.length then ([], [], 4)
  else if zOk op H L H' L' (max H.length H'.length + Nat.lcm L.length L'.length) = true then (outH (zA op H L H' L') (zC op H L H' L'), outL (zA op H L H' L') (zC op H L H' L'), outE (zA op H L H' L') (zC op H L H' L'))
  else ([], [], 7)
theorem zOk_of {op : Nat} {H L H' L' : List Int} {n : Nat} (h : ∀ i, i < n → zB op (num H L i) (num H' L' i) = true) : zOk op H L H' L' n = true := by
  unfold zOk; rw [List.all_eq_true]; intro i hi; exact h i (List.mem_range.1 hi)
theorem zOk_not {op : Nat} {H L H' L' : List Int} {n j : Nat} (hj : j < n) (h : zB op (num H L j) (num H' L' j) = false) : zOk op H L H' L' n = false := by
  cases hc : zOk op H L H' L' n
  · rfl
  · unfold zOk at hc; rw [List.all_eq_true] at hc; have := hc j (List.mem_range.2 hj); rw [h] at this; cases this
theorem lcm_nat (m q : Nat) (hm : m ≤ 4096) (hq : q ≤ 4096) : lcmV (m : Int) (q : Int) = ((Nat.lcm m q : Nat) : Int) ∧ Nat.lcm m q ≤ 4096 * 4096 ∧ fitV (lcmV (m : Int) (q : Int)) = ((Nat.lcm m q : Nat) : Int) ∧ fitB (lcmV (m : Int) (q : Int)) = true := by
  have e : lcmV (m : Int) (q : Int) = ((Nat.lcm m q : Nat) : Int) := by
    unfold lcmV Nat.lcm
    congr 1
    rw [Int.natAbs_natCast, Int.natAbs_natCast]
    rw [Nat.div_mul_right_comm (Nat.gcd_dvd_left _ _)]
  have b : Nat.lcm m q ≤ 4096 * 4096 := Nat.le_trans (Nat.div_le_self _ _) (Nat.mul_le_mul hm hq)
  rw [e]
  have h : -9223372036854775808 ≤ ((Nat.lcm m q : Nat) : Int) ∧ ((Nat.lcm m q : Nat) : Int) ≤ 9223372036854775807 := by omega
  exact ⟨rfl, b, by unfold fitV; rw [if_pos h], by unfold fitB; exact decide_eq_true h⟩
end Go.Proofs.Ytpcnapmlmhhcpaa
