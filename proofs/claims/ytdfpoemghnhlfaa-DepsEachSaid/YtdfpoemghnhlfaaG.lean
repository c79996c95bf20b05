/-
  Contracts of the functions that no print takes, in the print's own form: out of this project's walks.
  Conditions: each theorem's own.
-/
import Derived.Test.YtdfpoemghnhlfaaPx0
import Derived.Test.YtdfpoemghnhlfaaDj
import Derived.Test.YtdfpoemghnhlfaaRq
namespace Go.Proofs.Ytdfpoemghnhlfaa.P
open Go.RowKit Go.Proofs.YtdfpoemghnhlfaaW.PrintWords Go.Proofs.YtdfpoemghnhlfaaW.PrintLast Go.Proofs.YtdfpoemghnhlfaaW.PrintMore
attribute [local go_sem] max2_int min2_int max_two min_two max_three min_three max_four min_four   -- for this text's walks alone
set_option linter.unusedVariables false
set_option linter.unusedSimpArgs false


def deps_product.f (l0 : List (S48)) (a1 : Int) (a2 : Int) : Option (Int × Bool) := if l0.all (fun x => in64 x.f1) = true then some (prodF a1 a2 l0) else none
theorem deps_product.calls (A0 : Option Addr) (c0 : Nat) (l0 : List (S48)) (a1 : Int) (a2 : Int) (r1 : Int) (r2 : Bool) (w : World) (hr0 : Kd.C k48 w A0 l0.length l0) (hc0 : l0.length ≤ c0) (h : deps_product.f l0 a1 a2 = some (r1, r2)) :
    Calls Try.prog 25 #[.slice A0 l0.length c0, .int .u8 a1, .int .i64 a2] w fun e w' => e = .returned (.tuple #[.int .i64 r1, .bool r2]) ∧ Below w.heap.size w w' := by
  unfold deps_product.f at h
  split at h
  · rename_i hc
    obtain h := Option.some.inj h
    have e1 : r1 = (prodF a1 a2 l0).1 := by rw [h]
    have e2 : r2 = (prodF a1 a2 l0).2 := by rw [h]
    rw [e1, e2]
    exact product_any A0 c0 l0 a1 a2 w hr0 (fun x hx => List.all_eq_true.1 hc x hx)
  · cases h
def carillonref01_Mul.f (a0 : Int) (a1 : Int) : Option (Int × Bool) := if in64 a0 = true ∧ in64 a1 = true then some (fitV (a0 * a1), fitB (a0 * a1)) else none
theorem carillonref01_Mul.calls (a0 : Int) (a1 : Int) (r1 : Int) (r2 : Bool) (w : World) (h : carillonref01_Mul.f a0 a1 = some (r1, r2)) :
    Calls Try.prog 28 #[.int .i64 a0, .int .i64 a1] w fun e w' => e = .returned (.tuple #[.int .i64 r1, .bool r2]) ∧ Below w.heap.size w w' := by
  unfold carillonref01_Mul.f at h
  split at h
  · rename_i hc
    cases h
    have h1 := in64_iff.1 hc.1
    have h2 := in64_iff.1 hc.2
    exact ref_mul a0 a1 w h1.1 h1.2 h2.1 h2.2
  · cases h
def carillonref01_Add.f (a0 : Int) (a1 : Int) : Option (Int × Bool) := if in64 a0 = true ∧ in64 a1 = true then some (fitV (a0 + a1), fitB (a0 + a1)) else none
theorem carillonref01_Add.calls (a0 : Int) (a1 : Int) (r1 : Int) (r2 : Bool) (w : World) (h : carillonref01_Add.f a0 a1 = some (r1, r2)) :
    Calls Try.prog 30 #[.int .i64 a0, .int .i64 a1] w fun e w' => e = .returned (.tuple #[.int .i64 r1, .bool r2]) ∧ Below w.heap.size w w' := by
  unfold carillonref01_Add.f at h
  split at h
  · rename_i hc
    cases h
    have h1 := in64_iff.1 hc.1
    have h2 := in64_iff.1 hc.2
    exact ref_add a0 a1 w h1.1 h1.2 h2.1 h2.2
  · cases h
def deps_At.f (l0_0 : List (S26)) (l0_1 : List (S26)) (a0_2 : Int) (a1 : Int) : Option (Bool × Int × Int × Int) := if a1 ≤ 9223372036854775807 then some (atD l0_0 l0_1 a0_2 a1) else none
theorem deps_At.calls (A0_0 : Option Addr) (c0_0 : Nat) (l0_0 : List (S26)) (A0_1 : Option Addr) (c0_1 : Nat) (l0_1 : List (S26)) (a0_2 : Int) (a1 : Int) (r1 : Bool) (r2 : Int) (r3 : Int) (r4 : Int) (w : World) (hr0_0 : Kd.C k26 w A0_0 l0_0.length l0_0) (hc0_0 : l0_0.length ≤ c0_0) (hr0_1 : Kd.C k26 w A0_1 l0_1.length l0_1) (hc0_1 : l0_1.length ≤ c0_1) (h : deps_At.f l0_0 l0_1 a0_2 a1 = some (r1, r2, r3, r4)) :
    Calls Try.prog 15 #[.agg #[.slice A0_0 l0_0.length c0_0, .slice A0_1 l0_1.length c0_1, .int .i64 a0_2], .int .i64 a1] w fun e w' => e = .returned (.tuple #[.agg #[.bool r1, .int .i64 r2, .int .i64 r3], .int .i64 r4]) ∧ Below w.heap.size w w' := by
  unfold deps_At.f at h
  split at h
  · rename_i hc
    obtain h := Option.some.inj h
    have e1 : r1 = (atD l0_0 l0_1 a0_2 a1).1 := by rw [h]
    have e2 : r2 = (atD l0_0 l0_1 a0_2 a1).2.1 := by rw [h]
    have e3 : r3 = (atD l0_0 l0_1 a0_2 a1).2.2.1 := by rw [h]
    have e4 : r4 = (atD l0_0 l0_1 a0_2 a1).2.2.2 := by rw [h]
    rw [e1, e2, e3, e4]
    exact At_any A0_0 A0_1 c0_0 c0_1 l0_0 l0_1 a0_2 a1 w hc hr0_0 hr0_1
  · cases h
def deps_Last.f (l0_0 : List (S26)) (l0_1 : List (S26)) (a0_2 : Int) (a1 : Int) : Option (Int × Bool × Int) := some (lastD l0_0 l0_1 a0_2 a1)
theorem deps_Last.calls (A0_0 : Option Addr) (c0_0 : Nat) (l0_0 : List (S26)) (A0_1 : Option Addr) (c0_1 : Nat) (l0_1 : List (S26)) (a0_2 : Int) (a1 : Int) (r1 : Int) (r2 : Bool) (r3 : Int) (w : World) (hr0_0 : Kd.C k26 w A0_0 l0_0.length l0_0) (hc0_0 : l0_0.length ≤ c0_0) (hr0_1 : Kd.C k26 w A0_1 l0_1.length l0_1) (hc0_1 : l0_1.length ≤ c0_1) (h : deps_Last.f l0_0 l0_1 a0_2 a1 = some (r1, r2, r3)) :
    Calls Try.prog 16 #[.agg #[.slice A0_0 l0_0.length c0_0, .slice A0_1 l0_1.length c0_1, .int .i64 a0_2], .int .i64 a1] w fun e w' => e = .returned (.tuple #[.int .i64 r1, .bool r2, .int .i64 r3]) ∧ Below w.heap.size w w' := by
  obtain h := Option.some.inj h
  have e1 : r1 = (lastD l0_0 l0_1 a0_2 a1).1 := by rw [h]
  have e2 : r2 = (lastD l0_0 l0_1 a0_2 a1).2.1 := by rw [h]
  have e3 : r3 = (lastD l0_0 l0_1 a0_2 a1).2.2 := by rw [h]
  rw [e1, e2, e3]
  exact Last_any A0_0 A0_1 c0_0 c0_1 l0_0 l0_1 a0_2 a1 w hr0_0 hr0_1
def carillonref13_May.f (l0_0 : List (S26)) (l0_1 : List (S26)) (a0_2 : Int) : Option (Bool) := some (mayD l0_0 l0_1 a0_2)
theorem carillonref13_May.calls (A0_0 : Option Addr) (c0_0 : Nat) (l0_0 : List (S26)) (A0_1 : Option Addr) (c0_1 : Nat) (l0_1 : List (S26)) (a0_2 : Int) (r : Bool) (w : World) (hr0_0 : Kd.C k26 w A0_0 l0_0.length l0_0) (hc0_0 : l0_0.length ≤ c0_0) (hr0_1 : Kd.C k26 w A0_1 l0_1.length l0_1) (hc0_1 : l0_1.length ≤ c0_1) (h : carillonref13_May.f l0_0 l0_1 a0_2 = some r) :
    Calls Try.prog 17 #[.agg #[.slice A0_0 l0_0.length c0_0, .slice A0_1 l0_1.length c0_1, .int .i64 a0_2]] w fun e w' => e = .returned (.bool r) ∧ Below w.heap.size w w' := by
  cases h
  exact RMay_any A0_0 A0_1 c0_0 c0_1 l0_0 l0_1 a0_2 w hr0_0 hr0_1
def deps_May.f (l0_0 : List (S26)) (l0_1 : List (S26)) (a0_2 : Int) : Option (Bool) := some (mayD l0_0 l0_1 a0_2)
theorem deps_May.calls (A0_0 : Option Addr) (c0_0 : Nat) (l0_0 : List (S26)) (A0_1 : Option Addr) (c0_1 : Nat) (l0_1 : List (S26)) (a0_2 : Int) (r : Bool) (w : World) (hr0_0 : Kd.C k26 w A0_0 l0_0.length l0_0) (hc0_0 : l0_0.length ≤ c0_0) (hr0_1 : Kd.C k26 w A0_1 l0_1.length l0_1) (hc0_1 : l0_1.length ≤ c0_1) (h : deps_May.f l0_0 l0_1 a0_2 = some r) :
    Calls Try.prog 18 #[.agg #[.slice A0_0 l0_0.length c0_0, .slice A0_1 l0_1.length c0_1, .int .i64 a0_2]] w fun e w' => e = .returned (.bool r) ∧ Below w.heap.size w w' := by
  cases h
  exact May_any A0_0 A0_1 c0_0 c0_1 l0_0 l0_1 a0_2 w hr0_0 hr0_1
end Go.Proofs.Ytdfpoemghnhlfaa.P
