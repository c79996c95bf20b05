/-
  words.Bounds, Up of a word that may not be: contracts.
  Conditions: the rows lie in memory.
-/
import Derived.Test.YtpcnapmlmhhcpaaWi
import Derived.WalkKit
import Derived.WalkSpells
import Derived.WalkLawsBesides
import Derived.Deep.QuietTactic
import Derived.BigQuiet
import Derived.Lib.Hide
import Derived.Handy
import Derived.Deep.AppendLies
import Derived.Maps.AppendAt
import Derived.OwnWalk
import Derived.Lib.LazyBuf
import Derived.Deep.DeepCutAuto
import Derived.Deep.RegionLaw
import Derived.Deep.RegionHeld3
import Derived.Deep.RegionWith
import Derived.BigRegion
set_option linter.unusedVariables false
set_option linter.unusedSimpArgs false
namespace Go.Proofs.Ytpcnapmlmhhcpaa
open Go.RowKit 
attribute [local go_sem] setCell_drewN alloc_drewN size_ext ext_ext ext_drewN ext_drew drewN_ext drew_ext cell?_ext frozen?_ext setCell_ext cell?_past1 frozen?_past1 setCell_past1 cell?_past2 frozen?_past2 setCell_past2 cell?_past3 frozen?_past3 setCell_past3 cell?_past4 frozen?_past4 setCell_past4 cell?_past5 frozen?_past5 setCell_past5 cell?_past6 frozen?_past6 setCell_past6 cell?_past7 frozen?_past7 setCell_past7 cell?_past8 frozen?_past8 setCell_past8

set_option maxHeartbeats 2000000 in
theorem bounds_no (w : World) (vh vl : Value) (h l : List Int) (h1 : RowAt w vh h) (h2 : RowAt w vl l) (hm : may h l = false) : Calls Try.prog 31 #[.agg #[vh, vl]] w fun e w' => e = .returned (.tuple #[.int .i64 0, .int .i64 0, .int .i64 2]) ∧ Below w.heap.size w w' := by
  have Hm := Lib.hid hm
  have H1 := Lib.hid h1
  have H2 := Lib.hid h2
  obtain ⟨ph, ch, rfl, rh⟩ := h1
  obtain ⟨pl, cl, rfl, rl⟩ := h2
  clear rh rl hm
  go_enter Try.func31, Try.ntmps31
  go_wp2_with fail
  refine (may_any _ _ _ h l (H1.out.below (by repeat (first | (with_reducible exact Below.refl _ _) | (with_reducible assumption) | (with_reducible refine below_drewN ?_ _) | (with_reducible refine Below.drew ?_) | (with_reducible refine below_ext_of ?_ (by first | exact Nat.le_refl _ | assumption | (simp only [World.size_alloc, World.size_setCell, size_ext, World.heap_drewN]; omega)) _ _) | (with_reducible refine Below.alloc ?_ (by first | exact Nat.le_refl _ | assumption | (simp only [World.size_alloc, World.size_setCell, size_ext, World.heap_drewN]; omega)) _) | (with_reducible refine Below.setCell ?_ (by first | exact Nat.le_refl _ | assumption | (simp only [World.size_alloc, World.size_setCell, size_ext, World.heap_drewN]; omega)) _)))) (H2.out.below (by repeat (first | (with_reducible exact Below.refl _ _) | (with_reducible assumption) | (with_reducible refine below_drewN ?_ _) | (with_reducible refine Below.drew ?_) | (with_reducible refine below_ext_of ?_ (by first | exact Nat.le_refl _ | assumption | (simp only [World.size_alloc, World.size_setCell, size_ext, World.heap_drewN]; omega)) _ _) | (with_reducible refine Below.alloc ?_ (by first | exact Nat.le_refl _ | assumption | (simp only [World.size_alloc, World.size_setCell, size_ext, World.heap_drewN]; omega)) _) | (with_reducible refine Below.setCell ?_ (by first | exact Nat.le_refl _ | assumption | (simp only [World.size_alloc, World.size_setCell, size_ext, World.heap_drewN]; omega)) _))))).mono ?_
  rintro e w1 ⟨rfl, hb⟩
  rw [Hm.out]
  obtain ⟨X, d, rfl⟩ := below_ext hb
  clear hb
  go_wp2_with fail
  refine bodyPost_ret (v := .tuple #[.int .i64 0, .int .i64 0, .int .i64 2]) (by simp [results, Try.results31, go_sem]) rfl ⟨rfl, ?_⟩
  repeat (first | (with_reducible exact Below.refl _ _) | (with_reducible assumption) | (with_reducible refine below_drewN ?_ _) | (with_reducible refine Below.drew ?_) | (with_reducible refine below_ext_of ?_ (by first | exact Nat.le_refl _ | assumption | (simp only [World.size_alloc, World.size_setCell, size_ext, World.heap_drewN]; omega)) _ _) | (with_reducible refine Below.alloc ?_ (by first | exact Nat.le_refl _ | assumption | (simp only [World.size_alloc, World.size_setCell, size_ext, World.heap_drewN]; omega)) _) | (with_reducible refine Below.setCell ?_ (by first | exact Nat.le_refl _ | assumption | (simp only [World.size_alloc, World.size_setCell, size_ext, World.heap_drewN]; omega)) _))
set_option maxHeartbeats 2000000 in
theorem up_no (w : World) (vh vl : Value) (h l : List Int) (k : Int) (h1 : RowAt w vh h) (h2 : RowAt w vl l) (hm : may h l = false) : Calls Try.prog 15 #[.agg #[vh, vl], .int .i64 k] w fun e w' => e = .returned (.tuple #[.agg #[.slice none 0 0, .slice none 0 0], .int .i64 2]) ∧ Below w.heap.size w w' := by
  have Hm := Lib.hid hm
  have H1 := Lib.hid h1
  have H2 := Lib.hid h2
  obtain ⟨ph, ch, rfl, rh⟩ := h1
  obtain ⟨pl, cl, rfl, rl⟩ := h2
  clear rh rl hm
  by_cases hk : k < 1
  · have d1 := decide_eq_true hk
    go_enter Try.func15, Try.ntmps15
    go_wp2_with fail
    refine bodyPost_ret (v := .tuple #[.agg #[.slice none 0 0, .slice none 0 0], .int .i64 2]) (by simp [results, Try.results15, go_sem]) rfl ⟨rfl, ?_⟩
    repeat (first | (with_reducible exact Below.refl _ _) | (with_reducible assumption) | (with_reducible refine below_drewN ?_ _) | (with_reducible refine Below.drew ?_) | (with_reducible refine below_ext_of ?_ (by first | exact Nat.le_refl _ | assumption | (simp only [World.size_alloc, World.size_setCell, size_ext, World.heap_drewN]; omega)) _ _) | (with_reducible refine Below.alloc ?_ (by first | exact Nat.le_refl _ | assumption | (simp only [World.size_alloc, World.size_setCell, size_ext, World.heap_drewN]; omega)) _) | (with_reducible refine Below.setCell ?_ (by first | exact Nat.le_refl _ | assumption | (simp only [World.size_alloc, World.size_setCell, size_ext, World.heap_drewN]; omega)) _))
  · have d1 := decide_eq_false hk
    go_enter Try.func15, Try.ntmps15
    go_wp2_with fail
    refine (norm_no _ _ _ h l (H1.out.below (by repeat (first | (with_reducible exact Below.refl _ _) | (with_reducible assumption) | (with_reducible refine below_drewN ?_ _) | (with_reducible refine Below.drew ?_) | (with_reducible refine below_ext_of ?_ (by first | exact Nat.le_refl _ | assumption | (simp only [World.size_alloc, World.size_setCell, size_ext, World.heap_drewN]; omega)) _ _) | (with_reducible refine Below.alloc ?_ (by first | exact Nat.le_refl _ | assumption | (simp only [World.size_alloc, World.size_setCell, size_ext, World.heap_drewN]; omega)) _) | (with_reducible refine Below.setCell ?_ (by first | exact Nat.le_refl _ | assumption | (simp only [World.size_alloc, World.size_setCell, size_ext, World.heap_drewN]; omega)) _)))) (H2.out.below (by repeat (first | (with_reducible exact Below.refl _ _) | (with_reducible assumption) | (with_reducible refine below_drewN ?_ _) | (with_reducible refine Below.drew ?_) | (with_reducible refine below_ext_of ?_ (by first | exact Nat.le_refl _ | assumption | (simp only [World.size_alloc, World.size_setCell, size_ext, World.heap_drewN]; omega)) _ _) | (with_reducible refine Below.alloc ?_ (by first | exact Nat.le_refl _ | assumption | (simp only [World.size_alloc, World.size_setCell, size_ext, World.heap_drewN]; omega)) _) | (with_reducible refine Below.setCell ?_ (by first | exact Nat.le_refl _ | assumption | (simp only [World.size_alloc, World.size_setCell, size_ext, World.heap_drewN]; omega)) _)))) Hm.out).mono ?_
    rintro e w1 ⟨rfl, hb⟩
    obtain ⟨X, d, rfl⟩ := below_ext hb
    clear hb
    go_wp2_with fail
    go_region
    go_wp2_with fail
    refine bodyPost_ret (v := .tuple #[.agg #[.slice none 0 0, .slice none 0 0], .int .i64 2]) (by simp [results, Try.results15, go_sem]) rfl ⟨rfl, ?_⟩
    repeat (first | (with_reducible exact Below.refl _ _) | (with_reducible assumption) | (with_reducible refine below_drewN ?_ _) | (with_reducible refine Below.drew ?_) | (with_reducible refine below_ext_of ?_ (by first | exact Nat.le_refl _ | assumption | (simp only [World.size_alloc, World.size_setCell, size_ext, World.heap_drewN]; omega)) _ _) | (with_reducible refine Below.alloc ?_ (by first | exact Nat.le_refl _ | assumption | (simp only [World.size_alloc, World.size_setCell, size_ext, World.heap_drewN]; omega)) _) | (with_reducible refine Below.setCell ?_ (by first | exact Nat.le_refl _ | assumption | (simp only [World.size_alloc, World.size_setCell, size_ext, World.heap_drewN]; omega)) _))
end Go.Proofs.Ytpcnapmlmhhcpaa
