/-
  words.at, At; slices.Equal, Clone: contracts.
  Conditions: the rows lie in memory; the word has a loop.
-/
import Derived.Test.YtpcnapmlmhhcpaaWa
import Derived.WalkKit
import Derived.WalkSpells
import Derived.WalkLawsBesides
import Derived.Deep.QuietTactic
import Derived.BigQuiet
import Derived.Lib.Hide
import Derived.Handy
import Derived.Deep.AppendLies
import Derived.Maps.AppendAt
import Derived.OwnWalk
import Derived.Lib.LazyBuf
import Derived.Deep.DeepCutAuto
import Derived.Deep.RegionLaw
import Derived.Deep.RegionHeld3
import Derived.Deep.RegionWith
import Derived.BigRegion
set_option linter.unusedVariables false
set_option linter.unusedSimpArgs false
namespace Go.Proofs.Ytpcnapmlmhhcpaa
open Go.RowKit 
attribute [local go_sem] setCell_drewN alloc_drewN size_ext ext_ext ext_drewN ext_drew drewN_ext drew_ext cell?_ext frozen?_ext setCell_ext cell?_past1 frozen?_past1 setCell_past1 cell?_past2 frozen?_past2 setCell_past2 cell?_past3 frozen?_past3 setCell_past3 cell?_past4 frozen?_past4 setCell_past4 cell?_past5 frozen?_past5 setCell_past5 cell?_past6 frozen?_past6 setCell_past6 cell?_past7 frozen?_past7 setCell_past7 cell?_past8 frozen?_past8 setCell_past8

theorem infoI : (Try.prog.info? 2).map (fun i => (i.zero, i.size, i.bytes)) = some (some (.int .i64 0), 1, 8) := by kernel_rfl
/-- The number of a word at a place. -/
def num (h l : List Int) (n : Nat) : Int := if n < h.length then at_ h n else at_ l ((n - h.length) % l.length)
set_option maxHeartbeats 1000000 in
theorem at_any (w : World) (vh vl : Value) (h l : List Int) (n : Nat) (h1 : RowAt w vh h) (h2 : RowAt w vl l) (hl : 0 < l.length) (hn : n < 9223372036854775808) (hh : h.length < 9223372036854775808) : Calls Try.prog 37 #[.agg #[vh, vl], .int .i64 n] w fun e w' => e = .returned (.int .i64 (num h l n)) ∧ Below w.heap.size w w' := by
  obtain ⟨p1, c1, rfl, _, _, _, r1⟩ := h1
  obtain ⟨p2, c2, rfl, _, _, _, r2⟩ := h2
  by_cases hlt : n < h.length
  · obtain ⟨g, o, rfl, hg, hi⟩ := r1 (by omega)
    have e1 : decide ((n : Int) ≥ h.length) = false := decide_eq_false (by omega)
    have e2 : ¬ ((h.length : Int) ≤ n) := by omega
    have e3 : (n : Int) < h.length := by omega
    have e4 : (0 : Int) ≤ n := by omega
    have s1 := hi n hlt
    have H := Lib.hid (show at_ h n = num h l n by unfold num; rw [if_pos hlt])
    generalize at_ h n = x at *
    clear r2 hi
    generalize h.length = n1 at *
    go_enter Try.func37, Try.ntmps37
    go_wp2
    go_ret
    exact ⟨ret_i H.out, by repeat (first | (with_reducible exact Below.refl _ _) | (with_reducible assumption) | (with_reducible refine below_drewN ?_ _) | (with_reducible refine Below.drew ?_) | (with_reducible refine below_ext_of ?_ (by first | exact Nat.le_refl _ | assumption | (simp only [World.size_alloc, World.size_setCell, size_ext, World.heap_drewN]; omega)) _ _) | (with_reducible refine Below.alloc ?_ (by first | exact Nat.le_refl _ | assumption | (simp only [World.size_alloc, World.size_setCell, size_ext, World.heap_drewN]; omega)) _) | (with_reducible refine Below.setCell ?_ (by first | exact Nat.le_refl _ | assumption | (simp only [World.size_alloc, World.size_setCell, size_ext, World.heap_drewN]; omega)) _))⟩
  · obtain ⟨g, o, rfl, hg, hi⟩ := r2 hl
    have e1 : decide ((n : Int) ≥ h.length) = true := decide_eq_true (by omega)
    have e2 : ((h.length : Int) ≤ n) := by omega
    have H := Lib.hid (show at_ l ((n - h.length) % l.length) = num h l n by unfold num; rw [if_neg hlt])
    have s1 := hi ((n - h.length) % l.length) (Nat.mod_lt _ hl)
    have t0 : IntKind.i64.wrap ((n : Int) - h.length) = ((n - h.length : Nat) : Int) := by rw [IntKind.wrap_i64]; omega
    have t1 : Int.tmod ((n - h.length : Nat) : Int) (l.length : Int) = (((n - h.length) % l.length : Nat) : Int) := by rw [Int.tmod_eq_emod_of_nonneg (by omega)]; omega
    obtain ⟨q, hq⟩ : ∃ q, q = (n - h.length) % l.length := ⟨_, rfl⟩
    have hq2 : q < l.length := by rw [hq]; exact Nat.mod_lt _ hl
    rw [← hq] at s1 t1 H
    have t2 : (q : Int) < l.length := by omega
    have t3 : (0 : Int) ≤ q := by omega
    have t4 : ¬ ((l.length : Int) = 0) := by omega
    have t5 : ((l.length : Int) == 0) = false := beq_false_of_ne t4
    have t6 : ((n : Int) - h.length) = ((n - h.length : Nat) : Int) := by omega
    generalize hmm : n - h.length = m at *
    generalize at_ l q = x at *
    clear r1 hi hq hlt hmm
    generalize h.length = n1 at *
    generalize l.length = n2 at *
    go_enter Try.func37, Try.ntmps37
    go_wp2_with fail
    go_region
    all_goals
      go_wp2_with fail
      go_ret
      exact ⟨ret_i H.out, by repeat (first | (with_reducible exact Below.refl _ _) | (with_reducible assumption) | (with_reducible refine below_drewN ?_ _) | (with_reducible refine Below.drew ?_) | (with_reducible refine below_ext_of ?_ (by first | exact Nat.le_refl _ | assumption | (simp only [World.size_alloc, World.size_setCell, size_ext, World.heap_drewN]; omega)) _ _) | (with_reducible refine Below.alloc ?_ (by first | exact Nat.le_refl _ | assumption | (simp only [World.size_alloc, World.size_setCell, size_ext, World.heap_drewN]; omega)) _) | (with_reducible refine Below.setCell ?_ (by first | exact Nat.le_refl _ | assumption | (simp only [World.size_alloc, World.size_setCell, size_ext, World.heap_drewN]; omega)) _))⟩
end Go.Proofs.Ytpcnapmlmhhcpaa
