/-
  Contracts of the functions that no print takes, in the print's own form: out of this project's walks.
  Conditions: each theorem's own.
-/
import Derived.Test.YtkabmpbfabgkfaaPx0
import Derived.Test.YtkabmpbfabgkfaaDj
import Derived.Test.YtkabmpbfabgkfaaCf
import Derived.Test.YtkabmpbfabgkfaaUe
import Derived.Test.YtkabmpbfabgkfaaRq
namespace Go.Proofs.Ytkabmpbfabgkfaa.P
open Go.RowKit Go.Proofs.YtkabmpbfabgkfaaW.PrintWords Go.Proofs.YtkabmpbfabgkfaaW.PrintLast Go.Proofs.YtkabmpbfabgkfaaW.PrintMore
attribute [local go_sem] max2_int min2_int max_two min_two max_three min_three max_four min_four   -- for this text's walks alone
set_option linter.unusedVariables false
set_option linter.unusedSimpArgs false


def unfold_Count.f (a0_0 : Int) (a0_1 : Int) (a1_0 : Int) (a1_1 : Int) : Option (Int × Int × Int) := if in64 a1_0 = true ∧ in64 a1_1 = true ∧ in64 a0_0 = true ∧ in64 a0_1 = true then some (cntH a0_0 a0_1 a1_0 a1_1, cntL a0_0 a0_1 a1_0 a1_1, cntE a0_0 a0_1 a1_0 a1_1) else none
theorem unfold_Count.calls (a0_0 : Int) (a0_1 : Int) (a1_0 : Int) (a1_1 : Int) (r1 : Int) (r2 : Int) (r3 : Int) (w : World) (h : unfold_Count.f a0_0 a0_1 a1_0 a1_1 = some (r1, r2, r3)) :
    Calls Try.prog 6 #[.agg #[.int .i64 a0_0, .int .i64 a0_1], .agg #[.int .i64 a1_0, .int .i64 a1_1]] w fun e w' => e = .returned (.tuple #[.int .i64 r1, .int .i64 r2, .int .i64 r3]) ∧ Below w.heap.size w w' := by
  unfold unfold_Count.f at h
  split at h
  · rename_i hc
    cases h
    exact count_any w a0_0 a0_1 a1_0 a1_1 (in64_iff.1 hc.1).1 (in64_iff.1 hc.1).2 (in64_iff.1 hc.2.1).1 (in64_iff.1 hc.2.1).2 (in64_iff.1 hc.2.2.1).1 (in64_iff.1 hc.2.2.1).2 (in64_iff.1 hc.2.2.2).1 (in64_iff.1 hc.2.2.2).2 
  · cases h
def unfold_Fold.f (a0_0 : Int) (a0_1 : Int) (a1_0 : Int) (a1_1 : Int) (a2 : Int) : Option (Int × Int × Int) := if in64 a1_0 = true ∧ in64 a1_1 = true ∧ in64 a0_0 = true ∧ in64 a0_1 = true ∧ in64 a2 = true then some (foldN a0_0 a0_1 a1_0 a1_1 a2, foldM a0_0 a0_1 a1_0 a1_1 a2, foldE a0_0 a0_1 a1_0 a1_1 a2) else none
theorem unfold_Fold.calls (a0_0 : Int) (a0_1 : Int) (a1_0 : Int) (a1_1 : Int) (a2 : Int) (r1 : Int) (r2 : Int) (r3 : Int) (w : World) (h : unfold_Fold.f a0_0 a0_1 a1_0 a1_1 a2 = some (r1, r2, r3)) :
    Calls Try.prog 7 #[.agg #[.int .i64 a0_0, .int .i64 a0_1], .agg #[.int .i64 a1_0, .int .i64 a1_1], .int .i64 a2] w fun e w' => e = .returned (.tuple #[.int .i64 r1, .int .i64 r2, .int .i64 r3]) ∧ Below w.heap.size w w' := by
  unfold unfold_Fold.f at h
  split at h
  · rename_i hc
    cases h
    exact fold_any w a0_0 a0_1 a1_0 a1_1 a2 (in64_iff.1 hc.1).1 (in64_iff.1 hc.1).2 (in64_iff.1 hc.2.1).1 (in64_iff.1 hc.2.1).2 (in64_iff.1 hc.2.2.1).1 (in64_iff.1 hc.2.2.1).2 (in64_iff.1 hc.2.2.2.1).1 (in64_iff.1 hc.2.2.2.1).2 (in64_iff.1 hc.2.2.2.2).1 (in64_iff.1 hc.2.2.2.2).2 
  · cases h
def carillonref10_May.f (a0_0 : Int) (a0_1 : Int) : Option (Bool) := some (mayC a0_0 a0_1)
theorem carillonref10_May.calls (a0_0 : Int) (a0_1 : Int) (r : Bool) (w : World) (h : carillonref10_May.f a0_0 a0_1 = some r) :
    Calls Try.prog 21 #[.agg #[.int .i64 a0_0, .int .i64 a0_1]] w fun e w' => e = .returned (.bool r) ∧ Below w.heap.size w w' := by
  cases h
  exact rmay_clock w a0_0 a0_1
def api_Clock.f (l0 : List (S25)) : Option (Bool) := if l0.all ok25 = true then some (l0.any bad25) else none
theorem api_Clock.calls (A0 : Option Addr) (c0 : Nat) (l0 : List (S25)) (r : Bool) (w : World) (hr0 : Kd.C k25 w A0 l0.length l0) (hc0 : l0.length ≤ c0) (h : api_Clock.f l0 = some r) :
    Calls Try.prog 41 #[.slice A0 l0.length c0, .func (.func 42) #[] #[]] w fun e w' => e = .returned (.bool r) ∧ Below w.heap.size w w' := by
  unfold api_Clock.f at h
  split at h
  · rename_i hc
    cases h
    exact cf_25 A0 c0 l0 w (fun x hx => List.all_eq_true.1 hc x hx) hr0
  · cases h
def tasks_mayClock.f (a0_0 : Int) (a0_1 : Int) : Option (Bool) := if in64 a0_0 = true ∧ in64 a0_1 = true then some (mayC a0_0 a0_1) else none
theorem tasks_mayClock.calls (a0_0 : Int) (a0_1 : Int) (r : Bool) (w : World) (h : tasks_mayClock.f a0_0 a0_1 = some r) :
    Calls Try.prog 43 #[.agg #[.int .i64 a0_0, .int .i64 a0_1]] w fun e w' => e = .returned (.bool r) ∧ Below w.heap.size w w' := by
  unfold tasks_mayClock.f at h
  split at h
  · rename_i hc
    cases h
    exact tmay_clock w a0_0 a0_1 (in64_iff.1 hc.1).1 (in64_iff.1 hc.1).2 (in64_iff.1 hc.2).1 (in64_iff.1 hc.2).2 
  · cases h
def deps_May.f (l0_0 : List (S79)) (l0_1 : List (S79)) (a0_2 : Int) : Option (Bool) := some (mayD l0_0 l0_1 a0_2)
theorem deps_May.calls (A0_0 : Option Addr) (c0_0 : Nat) (l0_0 : List (S79)) (A0_1 : Option Addr) (c0_1 : Nat) (l0_1 : List (S79)) (a0_2 : Int) (r : Bool) (w : World) (hr0_0 : Kd.C k79 w A0_0 l0_0.length l0_0) (hc0_0 : l0_0.length ≤ c0_0) (hr0_1 : Kd.C k79 w A0_1 l0_1.length l0_1) (hc0_1 : l0_1.length ≤ c0_1) (h : deps_May.f l0_0 l0_1 a0_2 = some r) :
    Calls Try.prog 30 #[.agg #[.slice A0_0 l0_0.length c0_0, .slice A0_1 l0_1.length c0_1, .int .i64 a0_2]] w fun e w' => e = .returned (.bool r) ∧ Below w.heap.size w w' := by
  cases h
  exact May_any A0_0 A0_1 c0_0 c0_1 l0_0 l0_1 a0_2 w hr0_0 hr0_1
def deps_At.f (l0_0 : List (S79)) (l0_1 : List (S79)) (a0_2 : Int) (a1 : Int) : Option (Bool × Int × Int × Int) := if a1 ≤ 9223372036854775807 then some (atD l0_0 l0_1 a0_2 a1) else none
theorem deps_At.calls (A0_0 : Option Addr) (c0_0 : Nat) (l0_0 : List (S79)) (A0_1 : Option Addr) (c0_1 : Nat) (l0_1 : List (S79)) (a0_2 : Int) (a1 : Int) (r1 : Bool) (r2 : Int) (r3 : Int) (r4 : Int) (w : World) (hr0_0 : Kd.C k79 w A0_0 l0_0.length l0_0) (hc0_0 : l0_0.length ≤ c0_0) (hr0_1 : Kd.C k79 w A0_1 l0_1.length l0_1) (hc0_1 : l0_1.length ≤ c0_1) (h : deps_At.f l0_0 l0_1 a0_2 a1 = some (r1, r2, r3, r4)) :
    Calls Try.prog 31 #[.agg #[.slice A0_0 l0_0.length c0_0, .slice A0_1 l0_1.length c0_1, .int .i64 a0_2], .int .i64 a1] w fun e w' => e = .returned (.tuple #[.agg #[.bool r1, .int .i64 r2, .int .i64 r3], .int .i64 r4]) ∧ Below w.heap.size w w' := by
  unfold deps_At.f at h
  split at h
  · rename_i hc
    obtain h := Option.some.inj h
    have e1 : r1 = (atD l0_0 l0_1 a0_2 a1).1 := by rw [h]
    have e2 : r2 = (atD l0_0 l0_1 a0_2 a1).2.1 := by rw [h]
    have e3 : r3 = (atD l0_0 l0_1 a0_2 a1).2.2.1 := by rw [h]
    have e4 : r4 = (atD l0_0 l0_1 a0_2 a1).2.2.2 := by rw [h]
    rw [e1, e2, e3, e4]
    exact At_any A0_0 A0_1 c0_0 c0_1 l0_0 l0_1 a0_2 a1 w hc hr0_0 hr0_1
  · cases h
def clocks_Date.f (a0_0 : Int) (a0_1 : Int) (a1 : Int) : Option (Int × Bool) := if in64 a0_0 = true ∧ in64 a0_1 = true ∧ in64 a1 = true then some (dateV a0_0 a0_1 a1, dateB a0_0 a0_1 a1) else none
theorem clocks_Date.calls (a0_0 : Int) (a0_1 : Int) (a1 : Int) (r1 : Int) (r2 : Bool) (w : World) (h : clocks_Date.f a0_0 a0_1 a1 = some (r1, r2)) :
    Calls Try.prog 40 #[.agg #[.int .i64 a0_0, .int .i64 a0_1], .int .i64 a1] w fun e w' => e = .returned (.tuple #[.int .i64 r1, .bool r2]) ∧ Below w.heap.size w w' := by
  unfold clocks_Date.f at h
  split at h
  · rename_i hc
    cases h
    exact date_any w a0_0 a0_1 a1 (in64_iff.1 hc.1).1 (in64_iff.1 hc.1).2 (in64_iff.1 hc.2.1).1 (in64_iff.1 hc.2.1).2 (in64_iff.1 hc.2.2).1 (in64_iff.1 hc.2.2).2 
  · cases h
def num_Mul.f (a0 : Int) (a1 : Int) : Option (Int × Bool) := if in64 a0 = true ∧ in64 a1 = true then some (fitV (a0 * a1), fitB (a0 * a1)) else none
theorem num_Mul.calls (a0 : Int) (a1 : Int) (r1 : Int) (r2 : Bool) (w : World) (h : num_Mul.f a0 a1 = some (r1, r2)) :
    Calls Try.prog 57 #[.int .i64 a0, .int .i64 a1] w fun e w' => e = .returned (.tuple #[.int .i64 r1, .bool r2]) ∧ Below w.heap.size w w' := by
  unfold num_Mul.f at h
  split at h
  · rename_i hc
    cases h
    have h1 := in64_iff.1 hc.1
    have h2 := in64_iff.1 hc.2
    exact (num_mul a0 a1 w h1.1 h1.2 h2.1 h2.2).mono (fun e w1 hh => ⟨hh.1, hh.2 ▸ Below.refl _ _⟩)
  · cases h
def carillonref13_May.f (l0_0 : List (S79)) (l0_1 : List (S79)) (a0_2 : Int) : Option (Bool) := some (mayD l0_0 l0_1 a0_2)
theorem carillonref13_May.calls (A0_0 : Option Addr) (c0_0 : Nat) (l0_0 : List (S79)) (A0_1 : Option Addr) (c0_1 : Nat) (l0_1 : List (S79)) (a0_2 : Int) (r : Bool) (w : World) (hr0_0 : Kd.C k79 w A0_0 l0_0.length l0_0) (hc0_0 : l0_0.length ≤ c0_0) (hr0_1 : Kd.C k79 w A0_1 l0_1.length l0_1) (hc0_1 : l0_1.length ≤ c0_1) (h : carillonref13_May.f l0_0 l0_1 a0_2 = some r) :
    Calls Try.prog 51 #[.agg #[.slice A0_0 l0_0.length c0_0, .slice A0_1 l0_1.length c0_1, .int .i64 a0_2]] w fun e w' => e = .returned (.bool r) ∧ Below w.heap.size w w' := by
  cases h
  exact RMay_any A0_0 A0_1 c0_0 c0_1 l0_0 l0_1 a0_2 w hr0_0 hr0_1
def carillonref01_Mul.f (a0 : Int) (a1 : Int) : Option (Int × Bool) := if in64 a0 = true ∧ in64 a1 = true then some (fitV (a0 * a1), fitB (a0 * a1)) else none
theorem carillonref01_Mul.calls (a0 : Int) (a1 : Int) (r1 : Int) (r2 : Bool) (w : World) (h : carillonref01_Mul.f a0 a1 = some (r1, r2)) :
    Calls Try.prog 52 #[.int .i64 a0, .int .i64 a1] w fun e w' => e = .returned (.tuple #[.int .i64 r1, .bool r2]) ∧ Below w.heap.size w w' := by
  unfold carillonref01_Mul.f at h
  split at h
  · rename_i hc
    cases h
    have h1 := in64_iff.1 hc.1
    have h2 := in64_iff.1 hc.2
    exact ref_mul a0 a1 w h1.1 h1.2 h2.1 h2.2
  · cases h
def carillonref01_Add.f (a0 : Int) (a1 : Int) : Option (Int × Bool) := if in64 a0 = true ∧ in64 a1 = true then some (fitV (a0 + a1), fitB (a0 + a1)) else none
theorem carillonref01_Add.calls (a0 : Int) (a1 : Int) (r1 : Int) (r2 : Bool) (w : World) (h : carillonref01_Add.f a0 a1 = some (r1, r2)) :
    Calls Try.prog 54 #[.int .i64 a0, .int .i64 a1] w fun e w' => e = .returned (.tuple #[.int .i64 r1, .bool r2]) ∧ Below w.heap.size w w' := by
  unfold carillonref01_Add.f at h
  split at h
  · rename_i hc
    cases h
    have h1 := in64_iff.1 hc.1
    have h2 := in64_iff.1 hc.2
    exact ref_add a0 a1 w h1.1 h1.2 h2.1 h2.2
  · cases h
def api_Read.f (l0 : List (S69)) : Option (Bool) := if l0.all ok69 = true then some (l0.any bad69) else none
theorem api_Read.calls (A0 : Option Addr) (c0 : Nat) (l0 : List (S69)) (r : Bool) (w : World) (hr0 : Kd.C k69 w A0 l0.length l0) (hc0 : l0.length ≤ c0) (h : api_Read.f l0 = some r) :
    Calls Try.prog 28 #[.slice A0 l0.length c0, .func (.func 29) #[] #[]] w fun e w' => e = .returned (.bool r) ∧ Below w.heap.size w w' := by
  unfold api_Read.f at h
  split at h
  · rename_i hc
    cases h
    exact cf_69 A0 c0 l0 w (fun x hx => List.all_eq_true.1 hc x hx) hr0
  · cases h
end Go.Proofs.Ytkabmpbfabgkfaa.P
