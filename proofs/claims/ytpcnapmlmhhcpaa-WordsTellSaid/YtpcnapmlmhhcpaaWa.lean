/-
  Rows of numbers in memory; words.May, at, At; slices.Equal and Clone.
  Conditions: the rows lie in memory.
-/
import Derived.Test.YtpcnapmlmhhcpaaAux
import Derived.WalkKit
import Derived.WalkSpells
import Derived.WalkLawsBesides
import Derived.Deep.QuietTactic
import Derived.BigQuiet
import Derived.Lib.Hide
import Derived.Handy
import Derived.Deep.AppendLies
import Derived.Maps.AppendAt
import Derived.OwnWalk
import Derived.Lib.LazyBuf
import Derived.Deep.DeepCutAuto
import Derived.Deep.RegionLaw
import Derived.Deep.RegionHeld3
import Derived.Deep.RegionWith
import Derived.BigRegion
set_option linter.unusedVariables false
set_option linter.unusedSimpArgs false
namespace Go.Proofs.Ytpcnapmlmhhcpaa
open Go.RowKit 
attribute [local go_sem] setCell_drewN alloc_drewN size_ext ext_ext ext_drewN ext_drew drewN_ext drew_ext cell?_ext frozen?_ext setCell_ext cell?_past1 frozen?_past1 setCell_past1 cell?_past2 frozen?_past2 setCell_past2 cell?_past3 frozen?_past3 setCell_past3 cell?_past4 frozen?_past4 setCell_past4 cell?_past5 frozen?_past5 setCell_past5 cell?_past6 frozen?_past6 setCell_past6 cell?_past7 frozen?_past7 setCell_past7 cell?_past8 frozen?_past8 setCell_past8

def at_ (xs : List Int) (i : Nat) : Int := xs.getD i 0
theorem at_eq (xs : List Int) (i : Nat) (h : i < xs.length) : at_ xs i = xs[i] := by simp [at_, h]
/-- Numbers in a row at block g from cell o on. -/
def Ints (w : World) (g o : Nat) (xs : List Int) : Prop := ∀ i, i < xs.length → w.cell? ⟨g, o + i, none⟩ = some (.int .i64 (at_ xs i))
theorem Ints.below {w w' : World} {g o : Nat} {xs : List Int} (h : Ints w g o xs) (hb : Below w.heap.size w w') (hg : g < w.heap.size) : Ints w' g o xs := fun i hi => (hb.cell (p := ⟨g, _, none⟩) hg).trans (h i hi)
theorem Ints.take {w : World} {g o : Nat} {xs : List Int} (h : Ints w g o xs) (m : Nat) : Ints w g o (xs.take m) := by
  intro i hi
  rw [List.length_take] at hi
  rw [show at_ (xs.take m) i = at_ xs i by simp [at_, List.getElem?_take, show i < m by omega]]
  exact h i (by omega)
theorem Ints.drop {w : World} {g o : Nat} {xs : List Int} (h : Ints w g o xs) (m : Nat) : Ints w g (o + m) (xs.drop m) := by
  intro i hi
  rw [List.length_drop] at hi
  rw [show at_ (xs.drop m) i = at_ xs (m + i) by simp [at_], Nat.add_assoc]
  exact h (m + i) (by omega)
/-- The value v is a slice of just these numbers. -/
def RowAt (w : World) (v : Value) (xs : List Int) : Prop :=
  ∃ p cap, v = .slice p xs.length cap ∧ xs.length ≤ cap ∧ xs.length ≤ maxLen ∧ (p = none → xs.length = 0) ∧ (0 < xs.length → ∃ g o, p = some ⟨g, o, none⟩ ∧ g < w.heap.size ∧ Ints w g o xs)
theorem RowAt.below {w w' : World} {v : Value} {xs : List Int} (h : RowAt w v xs) (hb : Below w.heap.size w w') : RowAt w' v xs := by
  obtain ⟨p, cap, h1, h2, h3, h4, h5⟩ := h
  refine ⟨p, cap, h1, h2, h3, h4, fun h0 => ?_⟩
  obtain ⟨g, o, hp, hg, hi⟩ := h5 h0
  exact ⟨g, o, hp, Nat.lt_of_lt_of_le hg hb.size, hi.below hb hg⟩
theorem RowAt.nil (w : World) : RowAt w (.slice none 0 0) [] := ⟨none, 0, rfl, Nat.le_refl _, Nat.zero_le _, fun _ => rfl, fun h => absurd h (by simp)⟩
def may (h l : List Int) : Bool := decide (1 ≤ l.length) && (decide (l.length ≤ 4096) && decide (h.length ≤ 4096))
set_option maxHeartbeats 1000000 in
theorem may_any (w : World) (vh vl : Value) (h l : List Int) (h1 : RowAt w vh h) (h2 : RowAt w vl l) : Calls Try.prog 24 #[.agg #[vh, vl]] w fun e w' => e = .returned (.bool (may h l)) ∧ Below w.heap.size w w' := by
  obtain ⟨p1, c1, rfl, _⟩ := h1
  obtain ⟨p2, c2, rfl, _⟩ := h2
  by_cases a1 : 1 ≤ l.length
  · have e1 : decide ((l.length : Int) ≥ 1) = true := decide_eq_true (by omega)
    have e2 : (1 : Int) ≤ l.length := by omega
    by_cases a2 : l.length ≤ 4096
    · have e3 : decide ((l.length : Int) ≤ 4096) = true := decide_eq_true (by omega)
      have e4 : (l.length : Int) ≤ 4096 := by omega
      have H := Lib.hid (show decide ((h.length : Int) ≤ 4096) = may h l by
        unfold may
        rw [decide_eq_true a1, decide_eq_true a2, Bool.true_and, Bool.true_and]
        exact decide_eq_decide.2 (by omega))
      clear a1 a2
      generalize h.length = n1 at *
      generalize l.length = n2 at *
      go_enter Try.func24, Try.ntmps24
      go_wp2
      go_ret
      exact ⟨ret_b (by first | exact H.out | (rw [← H.out]; exact decide_eq_decide.2 (by omega))), by repeat (first | (with_reducible exact Below.refl _ _) | (with_reducible assumption) | (with_reducible refine below_drewN ?_ _) | (with_reducible refine Below.drew ?_) | (with_reducible refine below_ext_of ?_ (by first | exact Nat.le_refl _ | assumption | (simp only [World.size_alloc, World.size_setCell, size_ext, World.heap_drewN]; omega)) _ _) | (with_reducible refine Below.alloc ?_ (by first | exact Nat.le_refl _ | assumption | (simp only [World.size_alloc, World.size_setCell, size_ext, World.heap_drewN]; omega)) _) | (with_reducible refine Below.setCell ?_ (by first | exact Nat.le_refl _ | assumption | (simp only [World.size_alloc, World.size_setCell, size_ext, World.heap_drewN]; omega)) _))⟩
    · have e3 : decide ((l.length : Int) ≤ 4096) = false := decide_eq_false (by omega)
      have e4 : ¬ ((l.length : Int) ≤ 4096) := by omega
      have H := Lib.hid (show false = may h l by unfold may; rw [decide_eq_false a2, Bool.false_and, Bool.and_false])
      clear a1 a2
      generalize h.length = n1 at *
      generalize l.length = n2 at *
      go_enter Try.func24, Try.ntmps24
      go_wp2
      go_ret
      exact ⟨ret_b H.out, by repeat (first | (with_reducible exact Below.refl _ _) | (with_reducible assumption) | (with_reducible refine below_drewN ?_ _) | (with_reducible refine Below.drew ?_) | (with_reducible refine below_ext_of ?_ (by first | exact Nat.le_refl _ | assumption | (simp only [World.size_alloc, World.size_setCell, size_ext, World.heap_drewN]; omega)) _ _) | (with_reducible refine Below.alloc ?_ (by first | exact Nat.le_refl _ | assumption | (simp only [World.size_alloc, World.size_setCell, size_ext, World.heap_drewN]; omega)) _) | (with_reducible refine Below.setCell ?_ (by first | exact Nat.le_refl _ | assumption | (simp only [World.size_alloc, World.size_setCell, size_ext, World.heap_drewN]; omega)) _))⟩
  · have e1 : decide ((l.length : Int) ≥ 1) = false := decide_eq_false (by omega)
    have e2 : ¬ ((1 : Int) ≤ l.length) := by omega
    have H := Lib.hid (show false = may h l by unfold may; rw [decide_eq_false a1, Bool.false_and])
    clear a1
    generalize h.length = n1 at *
    generalize l.length = n2 at *
    go_enter Try.func24, Try.ntmps24
    go_wp2
    go_ret
    exact ⟨ret_b H.out, by repeat (first | (with_reducible exact Below.refl _ _) | (with_reducible assumption) | (with_reducible refine below_drewN ?_ _) | (with_reducible refine Below.drew ?_) | (with_reducible refine below_ext_of ?_ (by first | exact Nat.le_refl _ | assumption | (simp only [World.size_alloc, World.size_setCell, size_ext, World.heap_drewN]; omega)) _ _) | (with_reducible refine Below.alloc ?_ (by first | exact Nat.le_refl _ | assumption | (simp only [World.size_alloc, World.size_setCell, size_ext, World.heap_drewN]; omega)) _) | (with_reducible refine Below.setCell ?_ (by first | exact Nat.le_refl _ | assumption | (simp only [World.size_alloc, World.size_setCell, size_ext, World.heap_drewN]; omega)) _))⟩
end Go.Proofs.Ytpcnapmlmhhcpaa
