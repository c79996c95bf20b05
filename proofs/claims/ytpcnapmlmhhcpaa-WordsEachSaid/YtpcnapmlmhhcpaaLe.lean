/-
  The law WordsEach: true of every two words, and every number and place.
  Conditions: the words lie in memory; their numbers are int64s.
-/
import Derived.Test.YtpcnapmlmhhcpaaLe2
import Derived.WalkKit
import Derived.WalkSpells
import Derived.WalkLawsBesides
import Derived.Deep.QuietTactic
import Derived.BigQuiet
import Derived.Lib.Hide
import Derived.Handy
set_option linter.unusedVariables false
set_option linter.unusedSimpArgs false
namespace Go.Proofs.Ytpcnapmlmhhcpaa
open Go.RowKit 
open Big
attribute [local go_sem] setCell_drewN alloc_drewN size_ext ext_ext ext_drewN ext_drew drewN_ext drew_ext cell?_ext frozen?_ext setCell_ext cell?_past1 frozen?_past1 setCell_past1 cell?_past2 frozen?_past2 setCell_past2 cell?_past3 frozen?_past3 setCell_past3 cell?_past4 frozen?_past4 setCell_past4 cell?_past5 frozen?_past5 setCell_past5 cell?_past6 frozen?_past6 setCell_past6 cell?_past7 frozen?_past7 setCell_past7 cell?_past8 frozen?_past8 setCell_past8
attribute [local go_sem] min_ab max_ab
set_option maxRecDepth 100000 in
set_option maxHeartbeats 40000000 in
theorem WordsEach_any (w : World) (va1 va2 vb1 vb2 : Value) (a1 a2 b1 b2 : List Int) (k n : Nat) (v : Int) (hk2 : k ≤ 255) (hn2 : n ≤ 65535) (h1 : RowAt w va1 a1) (h2 : RowAt w va2 a2) (h3 : RowAt w vb1 b1) (h4 : RowAt w vb2 b2) (i1 : in64W a1 a2) (i2 : in64W b1 b2) :
    Calls Try.prog 5 #[.agg #[va1, va2], .agg #[vb1, vb2], .int .u8 (k : Int), .int .i64 v, .int .u16 (n : Int)] w fun e w' => e = .returned (.bool true) ∧ Below w.heap.size w w' := by
  have RA1 := Lib.hid h1
  have RA2 := Lib.hid h2
  have RB1 := Lib.hid h3
  have RB2 := Lib.hid h4
  have I_a1 := Lib.hid i1
  have I_b1 := Lib.hid i2
  obtain ⟨ra, hra⟩ : ∃ r, heavyB a1 a2 = r := ⟨_, rfl⟩
  obtain ⟨rb, hrb⟩ : ∃ r, heavyB b1 b2 = r := ⟨_, rfl⟩
  obtain ⟨ma, hma⟩ : ∃ r, may a1 a2 = r := ⟨_, rfl⟩
  obtain ⟨mb, hmb⟩ : ∃ r, may b1 b2 = r := ⟨_, rfl⟩
  have HRA := Lib.hid hra
  have HRB := Lib.hid hrb
  have HMA := Lib.hid hma
  have HMB := Lib.hid hmb
  obtain ⟨pa1, ca1, rfl, _⟩ := h1
  obtain ⟨pa2, ca2, rfl, _⟩ := h2
  obtain ⟨pb1, cb1, rfl, _⟩ := h3
  obtain ⟨pb2, cb2, rfl, _⟩ := h4
  clear i1 i2 hra hrb hma hmb
  go_enter Try.func5, Try.ntmps5
  go_wp2_with fail
  refine (heavy_is _ _ _ a1 a2 ra (RA1.out.below (by repeat (first | (with_reducible exact Below.refl _ _) | (with_reducible assumption) | (with_reducible refine below_drewN ?_ _) | (with_reducible refine Below.drew ?_) | (with_reducible refine below_ext_of ?_ (by first | exact Nat.le_refl _ | assumption | (simp only [World.size_alloc, World.size_setCell, size_ext, World.heap_drewN]; omega)) _ _) | (with_reducible refine Below.alloc ?_ (by first | exact Nat.le_refl _ | assumption | (simp only [World.size_alloc, World.size_setCell, size_ext, World.heap_drewN]; omega)) _) | (with_reducible refine Below.setCell ?_ (by first | exact Nat.le_refl _ | assumption | (simp only [World.size_alloc, World.size_setCell, size_ext, World.heap_drewN]; omega)) _)))) (RA2.out.below (by repeat (first | (with_reducible exact Below.refl _ _) | (with_reducible assumption) | (with_reducible refine below_drewN ?_ _) | (with_reducible refine Below.drew ?_) | (with_reducible refine below_ext_of ?_ (by first | exact Nat.le_refl _ | assumption | (simp only [World.size_alloc, World.size_setCell, size_ext, World.heap_drewN]; omega)) _ _) | (with_reducible refine Below.alloc ?_ (by first | exact Nat.le_refl _ | assumption | (simp only [World.size_alloc, World.size_setCell, size_ext, World.heap_drewN]; omega)) _) | (with_reducible refine Below.setCell ?_ (by first | exact Nat.le_refl _ | assumption | (simp only [World.size_alloc, World.size_setCell, size_ext, World.heap_drewN]; omega)) _)))) HRA.out).mono ?_
  rintro e W1 ⟨rfl, hb⟩
  have hB : Below w.heap.size w W1 := Below.trans (by repeat (first | (with_reducible exact Below.refl _ _) | (with_reducible assumption) | (with_reducible refine below_drewN ?_ _) | (with_reducible refine Below.drew ?_) | (with_reducible refine below_ext_of ?_ (by first | exact Nat.le_refl _ | assumption | (simp only [World.size_alloc, World.size_setCell, size_ext, World.heap_drewN]; omega)) _ _) | (with_reducible refine Below.alloc ?_ (by first | exact Nat.le_refl _ | assumption | (simp only [World.size_alloc, World.size_setCell, size_ext, World.heap_drewN]; omega)) _) | (with_reducible refine Below.setCell ?_ (by first | exact Nat.le_refl _ | assumption | (simp only [World.size_alloc, World.size_setCell, size_ext, World.heap_drewN]; omega)) _))) (hb.mono (by simp [go_sem] <;> omega))
  replace RA1 := Lib.hid (RA1.out.below hB)
  replace RA2 := Lib.hid (RA2.out.below hB)
  replace RB1 := Lib.hid (RB1.out.below hB)
  replace RB2 := Lib.hid (RB2.out.below hB)
  have HVB := Lib.hid hB
  have Ka0 : W1.cell? ⟨w.heap.size, 0, none⟩ = some (.slice pa1 a1.length ca1) := keep_cell hb (by simp [go_sem] <;> omega) (by simp [go_sem])
  have Ka1 : W1.cell? ⟨w.heap.size, 1, none⟩ = some (.slice pa2 a2.length ca2) := keep_cell hb (by simp [go_sem] <;> omega) (by simp [go_sem])
  have Na : w.heap.size < W1.heap.size := Nat.lt_of_lt_of_le (by simp [go_sem] <;> omega) hb.size
  have Kb0 : W1.cell? ⟨w.heap.size + 1, 0, none⟩ = some (.slice pb1 b1.length cb1) := keep_cell hb (by simp [go_sem] <;> omega) (by simp [go_sem])
  have Kb1 : W1.cell? ⟨w.heap.size + 1, 1, none⟩ = some (.slice pb2 b2.length cb2) := keep_cell hb (by simp [go_sem] <;> omega) (by simp [go_sem])
  have Nb : w.heap.size + 1 < W1.heap.size := Nat.lt_of_lt_of_le (by simp [go_sem] <;> omega) hb.size
  obtain ⟨Bb, hkb⟩ : ∃ b, b = w.heap.size + 1 := ⟨_, rfl⟩
  rw [← hkb] at Kb0 Kb1 Nb ⊢
  clear hkb
  obtain ⟨Ba, hka⟩ : ∃ b, b = w.heap.size := ⟨_, rfl⟩
  rw [← hka] at Ka0 Ka1 Na ⊢
  clear hka
  clear hb hB
  cases ra with
  | true =>
    go_wp2_with fail
    refine (works_any _).mono ?_
    rintro e W2 ⟨rfl, hb⟩
    have hB : Below W1.heap.size W1 W2 := Below.trans (by repeat (first | (with_reducible exact Below.refl _ _) | (with_reducible assumption) | (with_reducible refine below_drewN ?_ _) | (with_reducible refine Below.drew ?_) | (with_reducible refine below_ext_of ?_ (by first | exact Nat.le_refl _ | assumption | (simp only [World.size_alloc, World.size_setCell, size_ext, World.heap_drewN]; omega)) _ _) | (with_reducible refine Below.alloc ?_ (by first | exact Nat.le_refl _ | assumption | (simp only [World.size_alloc, World.size_setCell, size_ext, World.heap_drewN]; omega)) _) | (with_reducible refine Below.setCell ?_ (by first | exact Nat.le_refl _ | assumption | (simp only [World.size_alloc, World.size_setCell, size_ext, World.heap_drewN]; omega)) _))) (hb.mono (by simp [go_sem] <;> omega))
    replace RA1 := Lib.hid (RA1.out.below hB)
    replace RA2 := Lib.hid (RA2.out.below hB)
    replace RB1 := Lib.hid (RB1.out.below hB)
    replace RB2 := Lib.hid (RB2.out.below hB)
    replace HVB := Lib.hid (HVB.out.trans (hB.mono HVB.out.size))
    replace Kb0 := keep_cell hB Nb Kb0
    replace Kb1 := keep_cell hB Nb Kb1
    replace Nb := Nat.lt_of_lt_of_le Nb hB.size
    replace Ka0 := keep_cell hB Na Ka0
    replace Ka1 := keep_cell hB Na Ka1
    replace Na := Nat.lt_of_lt_of_le Na hB.size
    clear hb hB
    go_wp2_with fail
    go_ret
    exact ⟨rfl, HVB.out⟩
  | false =>
    go_wp2_with fail
    refine (heavy_is _ _ _ b1 b2 rb (RB1.out.below (by repeat (first | (with_reducible exact Below.refl _ _) | (with_reducible assumption) | (with_reducible refine below_drewN ?_ _) | (with_reducible refine Below.drew ?_) | (with_reducible refine below_ext_of ?_ (by first | exact Nat.le_refl _ | assumption | (simp only [World.size_alloc, World.size_setCell, size_ext, World.heap_drewN]; omega)) _ _) | (with_reducible refine Below.alloc ?_ (by first | exact Nat.le_refl _ | assumption | (simp only [World.size_alloc, World.size_setCell, size_ext, World.heap_drewN]; omega)) _) | (with_reducible refine Below.setCell ?_ (by first | exact Nat.le_refl _ | assumption | (simp only [World.size_alloc, World.size_setCell, size_ext, World.heap_drewN]; omega)) _)))) (RB2.out.below (by repeat (first | (with_reducible exact Below.refl _ _) | (with_reducible assumption) | (with_reducible refine below_drewN ?_ _) | (with_reducible refine Below.drew ?_) | (with_reducible refine below_ext_of ?_ (by first | exact Nat.le_refl _ | assumption | (simp only [World.size_alloc, World.size_setCell, size_ext, World.heap_drewN]; omega)) _ _) | (with_reducible refine Below.alloc ?_ (by first | exact Nat.le_refl _ | assumption | (simp only [World.size_alloc, World.size_setCell, size_ext, World.heap_drewN]; omega)) _) | (with_reducible refine Below.setCell ?_ (by first | exact Nat.le_refl _ | assumption | (simp only [World.size_alloc, World.size_setCell, size_ext, World.heap_drewN]; omega)) _)))) HRB.out).mono ?_
    rintro e W2 ⟨rfl, hb⟩
    have hB : Below W1.heap.size W1 W2 := Below.trans (by repeat (first | (with_reducible exact Below.refl _ _) | (with_reducible assumption) | (with_reducible refine below_drewN ?_ _) | (with_reducible refine Below.drew ?_) | (with_reducible refine below_ext_of ?_ (by first | exact Nat.le_refl _ | assumption | (simp only [World.size_alloc, World.size_setCell, size_ext, World.heap_drewN]; omega)) _ _) | (with_reducible refine Below.alloc ?_ (by first | exact Nat.le_refl _ | assumption | (simp only [World.size_alloc, World.size_setCell, size_ext, World.heap_drewN]; omega)) _) | (with_reducible refine Below.setCell ?_ (by first | exact Nat.le_refl _ | assumption | (simp only [World.size_alloc, World.size_setCell, size_ext, World.heap_drewN]; omega)) _))) (hb.mono (by simp [go_sem] <;> omega))
    replace RA1 := Lib.hid (RA1.out.below hB)
    replace RA2 := Lib.hid (RA2.out.below hB)
    replace RB1 := Lib.hid (RB1.out.below hB)
    replace RB2 := Lib.hid (RB2.out.below hB)
    replace HVB := Lib.hid (HVB.out.trans (hB.mono HVB.out.size))
    replace Kb0 := keep_cell hB Nb Kb0
    replace Kb1 := keep_cell hB Nb Kb1
    replace Nb := Nat.lt_of_lt_of_le Nb hB.size
    replace Ka0 := keep_cell hB Na Ka0
    replace Ka1 := keep_cell hB Na Ka1
    replace Na := Nat.lt_of_lt_of_le Na hB.size
    clear hb hB
    cases rb with
    | true =>
      go_wp2_with fail
      refine (works_any _).mono ?_
      rintro e W3 ⟨rfl, hb⟩
      have hB : Below W2.heap.size W2 W3 := Below.trans (by repeat (first | (with_reducible exact Below.refl _ _) | (with_reducible assumption) | (with_reducible refine below_drewN ?_ _) | (with_reducible refine Below.drew ?_) | (with_reducible refine below_ext_of ?_ (by first | exact Nat.le_refl _ | assumption | (simp only [World.size_alloc, World.size_setCell, size_ext, World.heap_drewN]; omega)) _ _) | (with_reducible refine Below.alloc ?_ (by first | exact Nat.le_refl _ | assumption | (simp only [World.size_alloc, World.size_setCell, size_ext, World.heap_drewN]; omega)) _) | (with_reducible refine Below.setCell ?_ (by first | exact Nat.le_refl _ | assumption | (simp only [World.size_alloc, World.size_setCell, size_ext, World.heap_drewN]; omega)) _))) (hb.mono (by simp [go_sem] <;> omega))
      replace RA1 := Lib.hid (RA1.out.below hB)
      replace RA2 := Lib.hid (RA2.out.below hB)
      replace RB1 := Lib.hid (RB1.out.below hB)
      replace RB2 := Lib.hid (RB2.out.below hB)
      replace HVB := Lib.hid (HVB.out.trans (hB.mono HVB.out.size))
      replace Kb0 := keep_cell hB Nb Kb0
      replace Kb1 := keep_cell hB Nb Kb1
      replace Nb := Nat.lt_of_lt_of_le Nb hB.size
      replace Ka0 := keep_cell hB Na Ka0
      replace Ka1 := keep_cell hB Na Ka1
      replace Na := Nat.lt_of_lt_of_le Na hB.size
      clear hb hB
      go_wp2_with fail
      go_ret
      exact ⟨rfl, HVB.out⟩
    | false =>
      go_wp2_with fail
      refine (may_is _ _ _ a1 a2 ma (RA1.out.below (by repeat (first | (with_reducible exact Below.refl _ _) | (with_reducible assumption) | (with_reducible refine below_drewN ?_ _) | (with_reducible refine Below.drew ?_) | (with_reducible refine below_ext_of ?_ (by first | exact Nat.le_refl _ | assumption | (simp only [World.size_alloc, World.size_setCell, size_ext, World.heap_drewN]; omega)) _ _) | (with_reducible refine Below.alloc ?_ (by first | exact Nat.le_refl _ | assumption | (simp only [World.size_alloc, World.size_setCell, size_ext, World.heap_drewN]; omega)) _) | (with_reducible refine Below.setCell ?_ (by first | exact Nat.le_refl _ | assumption | (simp only [World.size_alloc, World.size_setCell, size_ext, World.heap_drewN]; omega)) _)))) (RA2.out.below (by repeat (first | (with_reducible exact Below.refl _ _) | (with_reducible assumption) | (with_reducible refine below_drewN ?_ _) | (with_reducible refine Below.drew ?_) | (with_reducible refine below_ext_of ?_ (by first | exact Nat.le_refl _ | assumption | (simp only [World.size_alloc, World.size_setCell, size_ext, World.heap_drewN]; omega)) _ _) | (with_reducible refine Below.alloc ?_ (by first | exact Nat.le_refl _ | assumption | (simp only [World.size_alloc, World.size_setCell, size_ext, World.heap_drewN]; omega)) _) | (with_reducible refine Below.setCell ?_ (by first | exact Nat.le_refl _ | assumption | (simp only [World.size_alloc, World.size_setCell, size_ext, World.heap_drewN]; omega)) _)))) HMA.out).mono ?_
      rintro e W3 ⟨rfl, hb⟩
      have hB : Below W2.heap.size W2 W3 := Below.trans (by repeat (first | (with_reducible exact Below.refl _ _) | (with_reducible assumption) | (with_reducible refine below_drewN ?_ _) | (with_reducible refine Below.drew ?_) | (with_reducible refine below_ext_of ?_ (by first | exact Nat.le_refl _ | assumption | (simp only [World.size_alloc, World.size_setCell, size_ext, World.heap_drewN]; omega)) _ _) | (with_reducible refine Below.alloc ?_ (by first | exact Nat.le_refl _ | assumption | (simp only [World.size_alloc, World.size_setCell, size_ext, World.heap_drewN]; omega)) _) | (with_reducible refine Below.setCell ?_ (by first | exact Nat.le_refl _ | assumption | (simp only [World.size_alloc, World.size_setCell, size_ext, World.heap_drewN]; omega)) _))) (hb.mono (by simp [go_sem] <;> omega))
      replace RA1 := Lib.hid (RA1.out.below hB)
      replace RA2 := Lib.hid (RA2.out.below hB)
      replace RB1 := Lib.hid (RB1.out.below hB)
      replace RB2 := Lib.hid (RB2.out.below hB)
      replace HVB := Lib.hid (HVB.out.trans (hB.mono HVB.out.size))
      replace Kb0 := keep_cell hB Nb Kb0
      replace Kb1 := keep_cell hB Nb Kb1
      replace Nb := Nat.lt_of_lt_of_le Nb hB.size
      replace Ka0 := keep_cell hB Na Ka0
      replace Ka1 := keep_cell hB Na Ka1
      replace Na := Nat.lt_of_lt_of_le Na hB.size
      clear hb hB
      cases ma with
      | false =>
        go_wp2_with fail
        refine (works_any _).mono ?_
        rintro e W4 ⟨rfl, hb⟩
        have hB : Below W3.heap.size W3 W4 := Below.trans (by repeat (first | (with_reducible exact Below.refl _ _) | (with_reducible assumption) | (with_reducible refine below_drewN ?_ _) | (with_reducible refine Below.drew ?_) | (with_reducible refine below_ext_of ?_ (by first | exact Nat.le_refl _ | assumption | (simp only [World.size_alloc, World.size_setCell, size_ext, World.heap_drewN]; omega)) _ _) | (with_reducible refine Below.alloc ?_ (by first | exact Nat.le_refl _ | assumption | (simp only [World.size_alloc, World.size_setCell, size_ext, World.heap_drewN]; omega)) _) | (with_reducible refine Below.setCell ?_ (by first | exact Nat.le_refl _ | assumption | (simp only [World.size_alloc, World.size_setCell, size_ext, World.heap_drewN]; omega)) _))) (hb.mono (by simp [go_sem] <;> omega))
        replace RA1 := Lib.hid (RA1.out.below hB)
        replace RA2 := Lib.hid (RA2.out.below hB)
        replace RB1 := Lib.hid (RB1.out.below hB)
        replace RB2 := Lib.hid (RB2.out.below hB)
        replace HVB := Lib.hid (HVB.out.trans (hB.mono HVB.out.size))
        replace Kb0 := keep_cell hB Nb Kb0
        replace Kb1 := keep_cell hB Nb Kb1
        replace Nb := Nat.lt_of_lt_of_le Nb hB.size
        replace Ka0 := keep_cell hB Na Ka0
        replace Ka1 := keep_cell hB Na Ka1
        replace Na := Nat.lt_of_lt_of_le Na hB.size
        clear hb hB
        go_wp2_with fail
        go_ret
        exact ⟨rfl, HVB.out⟩
      | true =>
        go_wp2_with fail
        refine (may_is _ _ _ b1 b2 mb (RB1.out.below (by repeat (first | (with_reducible exact Below.refl _ _) | (with_reducible assumption) | (with_reducible refine below_drewN ?_ _) | (with_reducible refine Below.drew ?_) | (with_reducible refine below_ext_of ?_ (by first | exact Nat.le_refl _ | assumption | (simp only [World.size_alloc, World.size_setCell, size_ext, World.heap_drewN]; omega)) _ _) | (with_reducible refine Below.alloc ?_ (by first | exact Nat.le_refl _ | assumption | (simp only [World.size_alloc, World.size_setCell, size_ext, World.heap_drewN]; omega)) _) | (with_reducible refine Below.setCell ?_ (by first | exact Nat.le_refl _ | assumption | (simp only [World.size_alloc, World.size_setCell, size_ext, World.heap_drewN]; omega)) _)))) (RB2.out.below (by repeat (first | (with_reducible exact Below.refl _ _) | (with_reducible assumption) | (with_reducible refine below_drewN ?_ _) | (with_reducible refine Below.drew ?_) | (with_reducible refine below_ext_of ?_ (by first | exact Nat.le_refl _ | assumption | (simp only [World.size_alloc, World.size_setCell, size_ext, World.heap_drewN]; omega)) _ _) | (with_reducible refine Below.alloc ?_ (by first | exact Nat.le_refl _ | assumption | (simp only [World.size_alloc, World.size_setCell, size_ext, World.heap_drewN]; omega)) _) | (with_reducible refine Below.setCell ?_ (by first | exact Nat.le_refl _ | assumption | (simp only [World.size_alloc, World.size_setCell, size_ext, World.heap_drewN]; omega)) _)))) HMB.out).mono ?_
        rintro e W4 ⟨rfl, hb⟩
        have hB : Below W3.heap.size W3 W4 := Below.trans (by repeat (first | (with_reducible exact Below.refl _ _) | (with_reducible assumption) | (with_reducible refine below_drewN ?_ _) | (with_reducible refine Below.drew ?_) | (with_reducible refine below_ext_of ?_ (by first | exact Nat.le_refl _ | assumption | (simp only [World.size_alloc, World.size_setCell, size_ext, World.heap_drewN]; omega)) _ _) | (with_reducible refine Below.alloc ?_ (by first | exact Nat.le_refl _ | assumption | (simp only [World.size_alloc, World.size_setCell, size_ext, World.heap_drewN]; omega)) _) | (with_reducible refine Below.setCell ?_ (by first | exact Nat.le_refl _ | assumption | (simp only [World.size_alloc, World.size_setCell, size_ext, World.heap_drewN]; omega)) _))) (hb.mono (by simp [go_sem] <;> omega))
        replace RA1 := Lib.hid (RA1.out.below hB)
        replace RA2 := Lib.hid (RA2.out.below hB)
        replace RB1 := Lib.hid (RB1.out.below hB)
        replace RB2 := Lib.hid (RB2.out.below hB)
        replace HVB := Lib.hid (HVB.out.trans (hB.mono HVB.out.size))
        replace Kb0 := keep_cell hB Nb Kb0
        replace Kb1 := keep_cell hB Nb Kb1
        replace Nb := Nat.lt_of_lt_of_le Nb hB.size
        replace Ka0 := keep_cell hB Na Ka0
        replace Ka1 := keep_cell hB Na Ka1
        replace Na := Nat.lt_of_lt_of_le Na hB.size
        clear hb hB
        cases mb with
        | false =>
          go_wp2_with fail
          refine (works_any _).mono ?_
          rintro e W5 ⟨rfl, hb⟩
          have hB : Below W4.heap.size W4 W5 := Below.trans (by repeat (first | (with_reducible exact Below.refl _ _) | (with_reducible assumption) | (with_reducible refine below_drewN ?_ _) | (with_reducible refine Below.drew ?_) | (with_reducible refine below_ext_of ?_ (by first | exact Nat.le_refl _ | assumption | (simp only [World.size_alloc, World.size_setCell, size_ext, World.heap_drewN]; omega)) _ _) | (with_reducible refine Below.alloc ?_ (by first | exact Nat.le_refl _ | assumption | (simp only [World.size_alloc, World.size_setCell, size_ext, World.heap_drewN]; omega)) _) | (with_reducible refine Below.setCell ?_ (by first | exact Nat.le_refl _ | assumption | (simp only [World.size_alloc, World.size_setCell, size_ext, World.heap_drewN]; omega)) _))) (hb.mono (by simp [go_sem] <;> omega))
          replace RA1 := Lib.hid (RA1.out.below hB)
          replace RA2 := Lib.hid (RA2.out.below hB)
          replace RB1 := Lib.hid (RB1.out.below hB)
          replace RB2 := Lib.hid (RB2.out.below hB)
          replace HVB := Lib.hid (HVB.out.trans (hB.mono HVB.out.size))
          replace Kb0 := keep_cell hB Nb Kb0
          replace Kb1 := keep_cell hB Nb Kb1
          replace Nb := Nat.lt_of_lt_of_le Nb hB.size
          replace Ka0 := keep_cell hB Na Ka0
          replace Ka1 := keep_cell hB Na Ka1
          replace Na := Nat.lt_of_lt_of_le Na hB.size
          clear hb hB
          go_wp2_with fail
          go_ret
          exact ⟨rfl, HVB.out⟩
        | true =>
          have la := not_heavy HRA.out
          have lb := not_heavy HRB.out
          have MA := HMA
          have MB := HMB
          obtain ⟨m, hm⟩ : ∃ m, m = k + 1 := ⟨_, rfl⟩
          obtain ⟨S1, hS1⟩ : ∃ S, S = n + m := ⟨_, rfl⟩
          obtain ⟨S2, hS2⟩ : ∃ S, S = n + 1 := ⟨_, rfl⟩
          obtain ⟨S3, hS3⟩ : ∃ S, S = n * m := ⟨_, rfl⟩
          obtain ⟨S4, hS4⟩ : ∃ S, S = n / m := ⟨_, rfl⟩
          have hmb : m ≤ 256 := by omega
          have hm0 : 0 < m := by omega
          have b3 : S3 ≤ 65535 * 256 := by rw [hS3]; exact Nat.mul_le_mul hn2 hmb
          have b4 : S4 ≤ n := by rw [hS4]; exact Nat.div_le_self _ _
          have e1 : ((k : Int) + 1) = (m : Int) := by omega
          have e1' : IntKind.i64.wrap ((k : Int) + 1) = (m : Int) := by rw [IntKind.wrap_i64]; omega
          have e1'' : IntKind.i64.wrap (m : Int) = (m : Int) := by rw [IntKind.wrap_i64]; omega
          have e2 : ((n : Int) + (m : Int)) = (S1 : Int) := by omega
          have e2' : IntKind.i64.wrap ((n : Int) + (m : Int)) = (S1 : Int) := by rw [IntKind.wrap_i64]; omega
          have e2'' : IntKind.i64.wrap (S1 : Int) = (S1 : Int) := by rw [IntKind.wrap_i64]; omega
          have e3 : ((n : Int) + 1) = (S2 : Int) := by omega
          have e3' : IntKind.i64.wrap ((n : Int) + 1) = (S2 : Int) := by rw [IntKind.wrap_i64]; omega
          have e3'' : IntKind.i64.wrap (S2 : Int) = (S2 : Int) := by rw [IntKind.wrap_i64]; omega
          have e4 : ((n : Int) * (m : Int)) = (S3 : Int) := by rw [hS3]; exact (Int.natCast_mul n m).symm
          have e4' : IntKind.i64.wrap ((n : Int) * (m : Int)) = (S3 : Int) := by rw [e4, IntKind.wrap_i64]; omega
          have e4'' : IntKind.i64.wrap (S3 : Int) = (S3 : Int) := by rw [IntKind.wrap_i64]; omega
          have e5 : Int.tdiv (n : Int) (m : Int) = (S4 : Int) := by rw [hS4]; rfl
          have e5' : ((n : Int) / (m : Int)) = (S4 : Int) := by rw [hS4]; rfl
          have e5'' : IntKind.i64.wrap (S4 : Int) = (S4 : Int) := by rw [IntKind.wrap_i64]; omega
          have e6 : ¬ ((m : Int) = 0) := by omega
          have e6' : ¬ (m = 0) := by omega
          have e7 : IntKind.i64.wrap (k : Int) = (k : Int) := by rw [IntKind.wrap_i64]; omega
          have e8 : IntKind.i64.wrap (n : Int) = (n : Int) := by rw [IntKind.wrap_i64]; omega
          have HSm := Lib.hid hm
          have HS1 := Lib.hid hS1
          have HS2 := Lib.hid hS2
          have HS3 := Lib.hid hS3
          have HS4 := Lib.hid hS4
          have HLA := Lib.hid la
          have HLB := Lib.hid lb
          clear hm hS1 hS2 hS3 hS4 la lb
          obtain ⟨⟨d1, d2, E1⟩, hd⟩ : ∃ r, dropT a1 a2 m = r := ⟨_, rfl⟩
          have MD : Made _ (d1, d2, E1) := hd ▸ drop_made MA.out m
          obtain rfl : E1 = 0 := MD.e
          obtain ⟨⟨c1, c2, E2⟩, hc⟩ : ∃ r, outT (v :: a1) a2 = r := ⟨_, rfl⟩
          have MC : Made _ (c1, c2, E2) := hc ▸ cons_made v MA.out (by have := HLA.out.1; omega)
          obtain rfl : E2 = 0 := MC.e
          obtain ⟨⟨w1_, w2_, E3⟩, hw⟩ : ∃ r, downT a1 a2 m = r := ⟨_, rfl⟩
          have MW : Made _ (w1_, w2_, E3) := hw ▸ down_made MA.out hm0
          obtain rfl : E3 = 0 := MW.e
          obtain ⟨⟨u1, u2, E4⟩, hu⟩ : ∃ r, upOut (nH a1 a2) (nL a1 a2) m = r := ⟨_, rfl⟩
          have sz := may_sizes MA.out
          have MU : Made (fun i => num a1 a2 (i / m)) (u1, u2, E4) ∨ (u1, u2, E4) = ([], [], 4) := hu ▸ up_made (norm_is MA.out) sz.1 sz.2.2 hm0
          have NC := may_of_is MC.is MC.hl MC.ll
          obtain ⟨⟨k1, k2, E5⟩, hk⟩ : ∃ r, dropT c1 c2 1 = r := ⟨_, rfl⟩
          have MK : Made _ (k1, k2, E5) := hk ▸ drop_made NC 1
          obtain rfl : E5 = 0 := MK.e
          have HD := Lib.hid hd
          have HC := Lib.hid hc
          have HW := Lib.hid hw
          have HU := Lib.hid hu
          have HK := Lib.hid hk
          have HMD := Lib.hid MD
          have HMC := Lib.hid MC
          have HMW := Lib.hid MW
          have HMU := Lib.hid MU
          have HMK := Lib.hid MK
          have ND := Lib.hid (may_of_is MD.is MD.hl MD.ll)
          have NW := Lib.hid (may_of_is MW.is MW.hl MW.ll)
          have NCh := Lib.hid NC
          have KS := Lib.hid (show same k1 k2 a1 a2 = true from same_is MA.out (by
            have w := MK.is
            rw [MC.is.num] at w
            have e : (fun i => if i + 1 = 0 then v else num a1 a2 (i + 1 - 1)) = num a1 a2 := by funext i; rw [if_neg (by omega), Nat.add_sub_cancel]
            rw [e] at w
            exact w) MK.hl MK.ll)
          have r1 : num d1 d2 n = num a1 a2 S1 := by rw [MD.is.num, HS1.out]
          have r2 : num c1 c2 S2 = num a1 a2 n := by
            rw [MC.is.num, HS2.out]
            show (if n + 1 = 0 then v else num a1 a2 (n + 1 - 1)) = _
            rw [if_neg (by omega), Nat.add_sub_cancel]
          have r3 : num c1 c2 0 = v := by
            rw [MC.is.num]
            exact if_pos rfl
          have r4 : num w1_ w2_ n = num a1 a2 S3 := by rw [MW.is.num, HS3.out]
          have HR1 := Lib.hid r1
          have HR2 := Lib.hid r2
          have HR3 := Lib.hid r3
          have HR4 := Lib.hid r4
          clear hd hc hw hu hk MD MC MW MU MK NC sz r1 r2 r3 r4
          have g0 : (E4 != 0 && E4 != 4) = false := by
            rcases HMU.out with h | h
            · have := h.e; simp only at this; rw [this]; rfl
            · injection h with _ h; injection h with _ h; rw [h]; rfl
          have HG := Lib.hid g0
          clear g0
          go_wp2_with fail
          refine (drop_call _ _ _ a1 a2 d1 d2 0 m (by omega) (RA1.out.below (by repeat (first | (with_reducible exact Below.refl _ _) | (with_reducible assumption) | (with_reducible refine below_drewN ?_ _) | (with_reducible refine Below.drew ?_) | (with_reducible refine below_ext_of ?_ (by first | exact Nat.le_refl _ | assumption | (simp only [World.size_alloc, World.size_setCell, size_ext, World.heap_drewN]; omega)) _ _) | (with_reducible refine Below.alloc ?_ (by first | exact Nat.le_refl _ | assumption | (simp only [World.size_alloc, World.size_setCell, size_ext, World.heap_drewN]; omega)) _) | (with_reducible refine Below.setCell ?_ (by first | exact Nat.le_refl _ | assumption | (simp only [World.size_alloc, World.size_setCell, size_ext, World.heap_drewN]; omega)) _)))) (RA2.out.below (by repeat (first | (with_reducible exact Below.refl _ _) | (with_reducible assumption) | (with_reducible refine below_drewN ?_ _) | (with_reducible refine Below.drew ?_) | (with_reducible refine below_ext_of ?_ (by first | exact Nat.le_refl _ | assumption | (simp only [World.size_alloc, World.size_setCell, size_ext, World.heap_drewN]; omega)) _ _) | (with_reducible refine Below.alloc ?_ (by first | exact Nat.le_refl _ | assumption | (simp only [World.size_alloc, World.size_setCell, size_ext, World.heap_drewN]; omega)) _) | (with_reducible refine Below.setCell ?_ (by first | exact Nat.le_refl _ | assumption | (simp only [World.size_alloc, World.size_setCell, size_ext, World.heap_drewN]; omega)) _)))) MA.out HD.out).mono ?_
          rintro e W5 ⟨hb, pd, sd, qd, td, rfl, r1, r2⟩
          have hB : Below W4.heap.size W4 W5 := Below.trans (by repeat (first | (with_reducible exact Below.refl _ _) | (with_reducible assumption) | (with_reducible refine below_drewN ?_ _) | (with_reducible refine Below.drew ?_) | (with_reducible refine below_ext_of ?_ (by first | exact Nat.le_refl _ | assumption | (simp only [World.size_alloc, World.size_setCell, size_ext, World.heap_drewN]; omega)) _ _) | (with_reducible refine Below.alloc ?_ (by first | exact Nat.le_refl _ | assumption | (simp only [World.size_alloc, World.size_setCell, size_ext, World.heap_drewN]; omega)) _) | (with_reducible refine Below.setCell ?_ (by first | exact Nat.le_refl _ | assumption | (simp only [World.size_alloc, World.size_setCell, size_ext, World.heap_drewN]; omega)) _))) (hb.mono (by simp [go_sem] <;> omega))
          replace RA1 := Lib.hid (RA1.out.below hB)
          replace RA2 := Lib.hid (RA2.out.below hB)
          replace RB1 := Lib.hid (RB1.out.below hB)
          replace RB2 := Lib.hid (RB2.out.below hB)
          replace HVB := Lib.hid (HVB.out.trans (hB.mono HVB.out.size))
          replace Kb0 := keep_cell hB Nb Kb0
          replace Kb1 := keep_cell hB Nb Kb1
          replace Nb := Nat.lt_of_lt_of_le Nb hB.size
          replace Ka0 := keep_cell hB Na Ka0
          replace Ka1 := keep_cell hB Na Ka1
          replace Na := Nat.lt_of_lt_of_le Na hB.size
          have RD1 := Lib.hid r1
          have RD2 := Lib.hid r2
          clear r1 r2
          clear hb hB
          go_wp2_with fail
          refine (cons_call _ _ _ a1 a2 c1 c2 0 v (RA1.out.below (by repeat (first | (with_reducible exact Below.refl _ _) | (with_reducible assumption) | (with_reducible refine below_drewN ?_ _) | (with_reducible refine Below.drew ?_) | (with_reducible refine below_ext_of ?_ (by first | exact Nat.le_refl _ | assumption | (simp only [World.size_alloc, World.size_setCell, size_ext, World.heap_drewN]; omega)) _ _) | (with_reducible refine Below.alloc ?_ (by first | exact Nat.le_refl _ | assumption | (simp only [World.size_alloc, World.size_setCell, size_ext, World.heap_drewN]; omega)) _) | (with_reducible refine Below.setCell ?_ (by first | exact Nat.le_refl _ | assumption | (simp only [World.size_alloc, World.size_setCell, size_ext, World.heap_drewN]; omega)) _)))) (RA2.out.below (by repeat (first | (with_reducible exact Below.refl _ _) | (with_reducible assumption) | (with_reducible refine below_drewN ?_ _) | (with_reducible refine Below.drew ?_) | (with_reducible refine below_ext_of ?_ (by first | exact Nat.le_refl _ | assumption | (simp only [World.size_alloc, World.size_setCell, size_ext, World.heap_drewN]; omega)) _ _) | (with_reducible refine Below.alloc ?_ (by first | exact Nat.le_refl _ | assumption | (simp only [World.size_alloc, World.size_setCell, size_ext, World.heap_drewN]; omega)) _) | (with_reducible refine Below.setCell ?_ (by first | exact Nat.le_refl _ | assumption | (simp only [World.size_alloc, World.size_setCell, size_ext, World.heap_drewN]; omega)) _)))) MA.out HC.out).mono ?_
          rintro e W6 ⟨hb, pc, sc, qc, tc, rfl, r1, r2⟩
          have hB : Below W5.heap.size W5 W6 := Below.trans (by repeat (first | (with_reducible exact Below.refl _ _) | (with_reducible assumption) | (with_reducible refine below_drewN ?_ _) | (with_reducible refine Below.drew ?_) | (with_reducible refine below_ext_of ?_ (by first | exact Nat.le_refl _ | assumption | (simp only [World.size_alloc, World.size_setCell, size_ext, World.heap_drewN]; omega)) _ _) | (with_reducible refine Below.alloc ?_ (by first | exact Nat.le_refl _ | assumption | (simp only [World.size_alloc, World.size_setCell, size_ext, World.heap_drewN]; omega)) _) | (with_reducible refine Below.setCell ?_ (by first | exact Nat.le_refl _ | assumption | (simp only [World.size_alloc, World.size_setCell, size_ext, World.heap_drewN]; omega)) _))) (hb.mono (by simp [go_sem] <;> omega))
          replace RA1 := Lib.hid (RA1.out.below hB)
          replace RA2 := Lib.hid (RA2.out.below hB)
          replace RB1 := Lib.hid (RB1.out.below hB)
          replace RB2 := Lib.hid (RB2.out.below hB)
          replace RD1 := Lib.hid (RD1.out.below hB)
          replace RD2 := Lib.hid (RD2.out.below hB)
          replace HVB := Lib.hid (HVB.out.trans (hB.mono HVB.out.size))
          replace Kb0 := keep_cell hB Nb Kb0
          replace Kb1 := keep_cell hB Nb Kb1
          replace Nb := Nat.lt_of_lt_of_le Nb hB.size
          replace Ka0 := keep_cell hB Na Ka0
          replace Ka1 := keep_cell hB Na Ka1
          replace Na := Nat.lt_of_lt_of_le Na hB.size
          have Kd0 : W6.cell? ⟨W5.heap.size, 0, none⟩ = some (.slice pd d1.length sd) := keep_cell hb (by simp [go_sem] <;> omega) (by simp [go_sem])
          have Kd1 : W6.cell? ⟨W5.heap.size, 1, none⟩ = some (.slice qd d2.length td) := keep_cell hb (by simp [go_sem] <;> omega) (by simp [go_sem])
          have Nd : W5.heap.size < W6.heap.size := Nat.lt_of_lt_of_le (by simp [go_sem] <;> omega) hb.size
          have RC1 := Lib.hid r1
          have RC2 := Lib.hid r2
          clear r1 r2
          obtain ⟨Bd, hkd⟩ : ∃ b, b = W5.heap.size := ⟨_, rfl⟩
          rw [← hkd] at Kd0 Kd1 Nd ⊢
          clear hkd
          clear hb hB
          go_wp2_with fail
          refine (up_call _ _ _ a1 a2 u1 u2 E4 m hm0 (by omega) (RA1.out.below (by repeat (first | (with_reducible exact Below.refl _ _) | (with_reducible assumption) | (with_reducible refine below_drewN ?_ _) | (with_reducible refine Below.drew ?_) | (with_reducible refine below_ext_of ?_ (by first | exact Nat.le_refl _ | assumption | (simp only [World.size_alloc, World.size_setCell, size_ext, World.heap_drewN]; omega)) _ _) | (with_reducible refine Below.alloc ?_ (by first | exact Nat.le_refl _ | assumption | (simp only [World.size_alloc, World.size_setCell, size_ext, World.heap_drewN]; omega)) _) | (with_reducible refine Below.setCell ?_ (by first | exact Nat.le_refl _ | assumption | (simp only [World.size_alloc, World.size_setCell, size_ext, World.heap_drewN]; omega)) _)))) (RA2.out.below (by repeat (first | (with_reducible exact Below.refl _ _) | (with_reducible assumption) | (with_reducible refine below_drewN ?_ _) | (with_reducible refine Below.drew ?_) | (with_reducible refine below_ext_of ?_ (by first | exact Nat.le_refl _ | assumption | (simp only [World.size_alloc, World.size_setCell, size_ext, World.heap_drewN]; omega)) _ _) | (with_reducible refine Below.alloc ?_ (by first | exact Nat.le_refl _ | assumption | (simp only [World.size_alloc, World.size_setCell, size_ext, World.heap_drewN]; omega)) _) | (with_reducible refine Below.setCell ?_ (by first | exact Nat.le_refl _ | assumption | (simp only [World.size_alloc, World.size_setCell, size_ext, World.heap_drewN]; omega)) _)))) MA.out HU.out).mono ?_
          rintro e W7 ⟨hb, pu, su, qu, tu, rfl, r1, r2⟩
          have hB : Below W6.heap.size W6 W7 := Below.trans (by repeat (first | (with_reducible exact Below.refl _ _) | (with_reducible assumption) | (with_reducible refine below_drewN ?_ _) | (with_reducible refine Below.drew ?_) | (with_reducible refine below_ext_of ?_ (by first | exact Nat.le_refl _ | assumption | (simp only [World.size_alloc, World.size_setCell, size_ext, World.heap_drewN]; omega)) _ _) | (with_reducible refine Below.alloc ?_ (by first | exact Nat.le_refl _ | assumption | (simp only [World.size_alloc, World.size_setCell, size_ext, World.heap_drewN]; omega)) _) | (with_reducible refine Below.setCell ?_ (by first | exact Nat.le_refl _ | assumption | (simp only [World.size_alloc, World.size_setCell, size_ext, World.heap_drewN]; omega)) _))) (hb.mono (by simp [go_sem] <;> omega))
          replace RA1 := Lib.hid (RA1.out.below hB)
          replace RA2 := Lib.hid (RA2.out.below hB)
          replace RB1 := Lib.hid (RB1.out.below hB)
          replace RB2 := Lib.hid (RB2.out.below hB)
          replace RD1 := Lib.hid (RD1.out.below hB)
          replace RD2 := Lib.hid (RD2.out.below hB)
          replace RC1 := Lib.hid (RC1.out.below hB)
          replace RC2 := Lib.hid (RC2.out.below hB)
          replace HVB := Lib.hid (HVB.out.trans (hB.mono HVB.out.size))
          replace Kb0 := keep_cell hB Nb Kb0
          replace Kb1 := keep_cell hB Nb Kb1
          replace Nb := Nat.lt_of_lt_of_le Nb hB.size
          replace Ka0 := keep_cell hB Na Ka0
          replace Ka1 := keep_cell hB Na Ka1
          replace Na := Nat.lt_of_lt_of_le Na hB.size
          replace Kd0 := keep_cell hB Nd Kd0
          replace Kd1 := keep_cell hB Nd Kd1
          replace Nd := Nat.lt_of_lt_of_le Nd hB.size
          have Kc0 : W7.cell? ⟨W6.heap.size, 0, none⟩ = some (.slice pc c1.length sc) := keep_cell hb (by simp [go_sem] <;> omega) (by simp [go_sem])
          have Kc1 : W7.cell? ⟨W6.heap.size, 1, none⟩ = some (.slice qc c2.length tc) := keep_cell hb (by simp [go_sem] <;> omega) (by simp [go_sem])
          have Nc : W6.heap.size < W7.heap.size := Nat.lt_of_lt_of_le (by simp [go_sem] <;> omega) hb.size
          have RU1 := Lib.hid r1
          have RU2 := Lib.hid r2
          clear r1 r2
          obtain ⟨Bc, hkc⟩ : ∃ b, b = W6.heap.size := ⟨_, rfl⟩
          rw [← hkc] at Kc0 Kc1 Nc ⊢
          clear hkc
          clear hb hB
          go_wp2_with fail
          refine (down_call _ _ _ a1 a2 w1_ w2_ 0 m hm0 (by omega) (RA1.out.below (by repeat (first | (with_reducible exact Below.refl _ _) | (with_reducible assumption) | (with_reducible refine below_drewN ?_ _) | (with_reducible refine Below.drew ?_) | (with_reducible refine below_ext_of ?_ (by first | exact Nat.le_refl _ | assumption | (simp only [World.size_alloc, World.size_setCell, size_ext, World.heap_drewN]; omega)) _ _) | (with_reducible refine Below.alloc ?_ (by first | exact Nat.le_refl _ | assumption | (simp only [World.size_alloc, World.size_setCell, size_ext, World.heap_drewN]; omega)) _) | (with_reducible refine Below.setCell ?_ (by first | exact Nat.le_refl _ | assumption | (simp only [World.size_alloc, World.size_setCell, size_ext, World.heap_drewN]; omega)) _)))) (RA2.out.below (by repeat (first | (with_reducible exact Below.refl _ _) | (with_reducible assumption) | (with_reducible refine below_drewN ?_ _) | (with_reducible refine Below.drew ?_) | (with_reducible refine below_ext_of ?_ (by first | exact Nat.le_refl _ | assumption | (simp only [World.size_alloc, World.size_setCell, size_ext, World.heap_drewN]; omega)) _ _) | (with_reducible refine Below.alloc ?_ (by first | exact Nat.le_refl _ | assumption | (simp only [World.size_alloc, World.size_setCell, size_ext, World.heap_drewN]; omega)) _) | (with_reducible refine Below.setCell ?_ (by first | exact Nat.le_refl _ | assumption | (simp only [World.size_alloc, World.size_setCell, size_ext, World.heap_drewN]; omega)) _)))) MA.out HW.out).mono ?_
          rintro e W8 ⟨hb, pw, sw, qw, tw, rfl, r1, r2⟩
          have hB : Below W7.heap.size W7 W8 := Below.trans (by repeat (first | (with_reducible exact Below.refl _ _) | (with_reducible assumption) | (with_reducible refine below_drewN ?_ _) | (with_reducible refine Below.drew ?_) | (with_reducible refine below_ext_of ?_ (by first | exact Nat.le_refl _ | assumption | (simp only [World.size_alloc, World.size_setCell, size_ext, World.heap_drewN]; omega)) _ _) | (with_reducible refine Below.alloc ?_ (by first | exact Nat.le_refl _ | assumption | (simp only [World.size_alloc, World.size_setCell, size_ext, World.heap_drewN]; omega)) _) | (with_reducible refine Below.setCell ?_ (by first | exact Nat.le_refl _ | assumption | (simp only [World.size_alloc, World.size_setCell, size_ext, World.heap_drewN]; omega)) _))) (hb.mono (by simp [go_sem] <;> omega))
          replace RA1 := Lib.hid (RA1.out.below hB)
          replace RA2 := Lib.hid (RA2.out.below hB)
          replace RB1 := Lib.hid (RB1.out.below hB)
          replace RB2 := Lib.hid (RB2.out.below hB)
          replace RD1 := Lib.hid (RD1.out.below hB)
          replace RD2 := Lib.hid (RD2.out.below hB)
          replace RC1 := Lib.hid (RC1.out.below hB)
          replace RC2 := Lib.hid (RC2.out.below hB)
          replace RU1 := Lib.hid (RU1.out.below hB)
          replace RU2 := Lib.hid (RU2.out.below hB)
          replace HVB := Lib.hid (HVB.out.trans (hB.mono HVB.out.size))
          replace Kb0 := keep_cell hB Nb Kb0
          replace Kb1 := keep_cell hB Nb Kb1
          replace Nb := Nat.lt_of_lt_of_le Nb hB.size
          replace Ka0 := keep_cell hB Na Ka0
          replace Ka1 := keep_cell hB Na Ka1
          replace Na := Nat.lt_of_lt_of_le Na hB.size
          replace Kd0 := keep_cell hB Nd Kd0
          replace Kd1 := keep_cell hB Nd Kd1
          replace Nd := Nat.lt_of_lt_of_le Nd hB.size
          replace Kc0 := keep_cell hB Nc Kc0
          replace Kc1 := keep_cell hB Nc Kc1
          replace Nc := Nat.lt_of_lt_of_le Nc hB.size
          have Ku0 : W8.cell? ⟨W7.heap.size, 0, none⟩ = some (.slice pu u1.length su) := keep_cell hb (by simp [go_sem] <;> omega) (by simp [go_sem])
          have Ku1 : W8.cell? ⟨W7.heap.size, 1, none⟩ = some (.slice qu u2.length tu) := keep_cell hb (by simp [go_sem] <;> omega) (by simp [go_sem])
          have Nu : W7.heap.size < W8.heap.size := Nat.lt_of_lt_of_le (by simp [go_sem] <;> omega) hb.size
          have RW1 := Lib.hid r1
          have RW2 := Lib.hid r2
          clear r1 r2
          obtain ⟨Bu, hku⟩ : ∃ b, b = W7.heap.size := ⟨_, rfl⟩
          rw [← hku] at Ku0 Ku1 Nu ⊢
          clear hku
          clear hb hB
          have g1 : E4 = 0 ∨ E4 = 4 := by
            rcases HMU.out with h | h
            · exact .inl h.e
            · injection h with _ h; injection h with _ h; exact .inr h
          go_upto_region 9 with (fail)
          obtain ⟨V1, hV1⟩ : ∃ V, V = (W8).alloc (.cells #[.slice pw w1_.length sw, .slice qw w2_.length tw] 24) := ⟨_, rfl⟩
          rw [← hV1]
          have hB : Below W8.heap.size W8 V1 := by rw [hV1]; repeat (first | (with_reducible exact Below.refl _ _) | (with_reducible assumption) | (with_reducible refine below_drewN ?_ _) | (with_reducible refine Below.drew ?_) | (with_reducible refine below_ext_of ?_ (by first | exact Nat.le_refl _ | assumption | (simp only [World.size_alloc, World.size_setCell, size_ext, World.heap_drewN]; omega)) _ _) | (with_reducible refine Below.alloc ?_ (by first | exact Nat.le_refl _ | assumption | (simp only [World.size_alloc, World.size_setCell, size_ext, World.heap_drewN]; omega)) _) | (with_reducible refine Below.setCell ?_ (by first | exact Nat.le_refl _ | assumption | (simp only [World.size_alloc, World.size_setCell, size_ext, World.heap_drewN]; omega)) _))
          replace RA1 := Lib.hid (RA1.out.below hB)
          replace RA2 := Lib.hid (RA2.out.below hB)
          replace RB1 := Lib.hid (RB1.out.below hB)
          replace RB2 := Lib.hid (RB2.out.below hB)
          replace RD1 := Lib.hid (RD1.out.below hB)
          replace RD2 := Lib.hid (RD2.out.below hB)
          replace RC1 := Lib.hid (RC1.out.below hB)
          replace RC2 := Lib.hid (RC2.out.below hB)
          replace RU1 := Lib.hid (RU1.out.below hB)
          replace RU2 := Lib.hid (RU2.out.below hB)
          replace RW1 := Lib.hid (RW1.out.below hB)
          replace RW2 := Lib.hid (RW2.out.below hB)
          replace HVB := Lib.hid (HVB.out.trans (hB.mono HVB.out.size))
          replace Kb0 := keep_cell hB Nb Kb0
          replace Kb1 := keep_cell hB Nb Kb1
          replace Nb := Nat.lt_of_lt_of_le Nb hB.size
          replace Ka0 := keep_cell hB Na Ka0
          replace Ka1 := keep_cell hB Na Ka1
          replace Na := Nat.lt_of_lt_of_le Na hB.size
          replace Kd0 := keep_cell hB Nd Kd0
          replace Kd1 := keep_cell hB Nd Kd1
          replace Nd := Nat.lt_of_lt_of_le Nd hB.size
          replace Kc0 := keep_cell hB Nc Kc0
          replace Kc1 := keep_cell hB Nc Kc1
          replace Nc := Nat.lt_of_lt_of_le Nc hB.size
          replace Ku0 := keep_cell hB Nu Ku0
          replace Ku1 := keep_cell hB Nu Ku1
          replace Nu := Nat.lt_of_lt_of_le Nu hB.size
          have Kw0 : V1.cell? ⟨W8.heap.size, 0, none⟩ = some (.slice pw w1_.length sw) := by rw [hV1]; simp [go_sem]
          have Kw1 : V1.cell? ⟨W8.heap.size, 1, none⟩ = some (.slice qw w2_.length tw) := by rw [hV1]; simp [go_sem]
          have Nw : W8.heap.size < V1.heap.size := by rw [hV1]; simp [go_sem] <;> omega
          obtain ⟨Bw, hkw⟩ : ∃ b, b = W8.heap.size := ⟨_, rfl⟩
          rw [← hkw] at Kw0 Kw1 Nw ⊢
          clear hkw
          clear hB hV1
          go_cut [94] (fun sl wc => sl = .bool false ∧ V1 = wc)
          case first =>
            rcases g1 with hg | hg
            · subst hg
              go_wp2_with fail
              go_meet
              case rel => exact ⟨rfl, rfl⟩
            · subst hg
              go_wp2_with fail
              go_meet
              case rel => exact ⟨rfl, rfl⟩
          case rest =>
          obtain ⟨rfl, rfl⟩ := hcut
          clear HG
          go_upto_region 11 with (fail)
          go_cut [130] (fun sl wc => sl = .bool false ∧ ∃ W9, W9 = wc ∧ Below V1.heap.size V1 W9)
          case first =>
            have HBR := Lib.hid (Below.refl V1.heap.size V1)
            refine wp_region_held_drew (S := (fun W' => W'.cell? ⟨Ba, 0, none⟩ = some (.slice pa1 a1.length ca1) ∧ W'.cell? ⟨Ba, 1, none⟩ = some (.slice pa2 a2.length ca2) ∧ W'.cell? ⟨Bd, 0, none⟩ = some (.slice pd d1.length sd) ∧ W'.cell? ⟨Bd, 1, none⟩ = some (.slice qd d2.length td) ∧ W'.cell? ⟨Bc, 0, none⟩ = some (.slice pc c1.length sc) ∧ W'.cell? ⟨Bc, 1, none⟩ = some (.slice qc c2.length tc) ∧ W'.cell? ⟨Bw, 0, none⟩ = some (.slice pw w1_.length sw) ∧ W'.cell? ⟨Bw, 1, none⟩ = some (.slice qw w2_.length tw))) (by kernel_rfl) ?hS178 (fun hHeld => ?go178)
            case hS178 =>
              (try dsimp only)
              try go_simp
            case go178 =>
            refine' wpAnyH_take (i := 0) (oi := ⟨_, _, _, _, _, _⟩) (v := ?v179) rfl (by kernel_rfl) (by kernel_rfl) (by kernel_rfl) (fun _ _ _ h => h) (Or.inl ⟨by rfl, ?hy179⟩) (by assumption) ?rest179
            case hy179 =>
              intro w hSw
              (try dsimp only at hSw)
              go_simp
              try (with_reducible rfl)
            case rest179 =>
            (try simp only [Act.put, List.setIfInBounds_toArray, List.set_cons_zero, List.set_cons_succ])
            refine' wpAnyH_take (i := 1) (oi := ⟨_, _, _, _, _, _⟩) (v := ?v180) rfl (by kernel_rfl) (by kernel_rfl) (by kernel_rfl) (fun _ _ _ h => h) (Or.inl ⟨by rfl, ?hy180⟩) (by assumption) ?rest180
            case hy180 =>
              intro w hSw
              (try dsimp only at hSw)
              go_simp
              try (with_reducible rfl)
            case rest180 =>
            (try simp only [Act.put, List.setIfInBounds_toArray, List.set_cons_zero, List.set_cons_succ])
            refine' wpAnyH_take (i := 3) (oi := ⟨_, _, _, _, _, _⟩) (v := ?v181) rfl (by kernel_rfl) (by kernel_rfl) (by kernel_rfl) (fun _ _ _ h => h) (Or.inl ⟨by rfl, ?hy181⟩) (by assumption) ?rest181
            case hy181 =>
              intro w hSw
              (try dsimp only at hSw)
              go_simp
              try (with_reducible rfl)
            case rest181 =>
            (try simp only [Act.put, List.setIfInBounds_toArray, List.set_cons_zero, List.set_cons_succ])
            refine' wpAnyH_take (i := 4) (oi := ⟨_, _, _, _, _, _⟩) (v := ?v182) rfl (by kernel_rfl) (by kernel_rfl) (by kernel_rfl) (fun _ _ _ h => h) (Or.inl ⟨by rfl, ?hy182⟩) (by assumption) ?rest182
            case hy182 =>
              intro w hSw
              (try dsimp only at hSw)
              go_simp
              try (with_reducible rfl)
            case rest182 =>
            (try simp only [Act.put, List.setIfInBounds_toArray, List.set_cons_zero, List.set_cons_succ])
            refine' wpAnyH_take (i := 5) (oi := ⟨_, _, _, _, _, _⟩) (v := ?v183) rfl (by kernel_rfl) (by kernel_rfl) (by kernel_rfl) (fun _ _ _ h => h) (Or.inl ⟨by rfl, ?hy183⟩) (by assumption) ?rest183
            case hy183 =>
              intro w hSw
              (try dsimp only at hSw)
              go_simp
              try (with_reducible rfl)
            case rest183 =>
            (try simp only [Act.put, List.setIfInBounds_toArray, List.set_cons_zero, List.set_cons_succ])
            refine' wpAnyH_take (i := 6) (oi := ⟨_, _, _, _, _, _⟩) (v := ?v184) rfl (by kernel_rfl) (by kernel_rfl) (by kernel_rfl) (fun _ _ _ h => h) (Or.inl ⟨by rfl, ?hy184⟩) (by assumption) ?rest184
            case hy184 =>
              intro w hSw
              (try dsimp only at hSw)
              go_simp
              try (with_reducible rfl)
            case rest184 =>
            (try simp only [Act.put, List.setIfInBounds_toArray, List.set_cons_zero, List.set_cons_succ])
            refine wpAnyH_ready (rs := [2]) (by kernel_rfl) (by simp) ?_
            refine AllReadyH.cons (o := ⟨_, _, _, _, _, _⟩) rfl (fun K hK => ?_) AllReadyH.nil
            go_simp
            (go_at_call 25; refine (number_is _ _ _ d1 d2 n _ (RD1.out.below (by repeat (first | (with_reducible exact Below.refl _ _) | (with_reducible assumption) | (with_reducible refine below_drewN ?_ _) | (with_reducible refine Below.drew ?_) | (with_reducible refine below_ext_of ?_ (by first | exact Nat.le_refl _ | assumption | (simp only [World.size_alloc, World.size_setCell, size_ext, World.heap_drewN]; omega)) _ _) | (with_reducible refine Below.alloc ?_ (by first | exact Nat.le_refl _ | assumption | (simp only [World.size_alloc, World.size_setCell, size_ext, World.heap_drewN]; omega)) _) | (with_reducible refine Below.setCell ?_ (by first | exact Nat.le_refl _ | assumption | (simp only [World.size_alloc, World.size_setCell, size_ext, World.heap_drewN]; omega)) _)))) (RD2.out.below (by repeat (first | (with_reducible exact Below.refl _ _) | (with_reducible assumption) | (with_reducible refine below_drewN ?_ _) | (with_reducible refine Below.drew ?_) | (with_reducible refine below_ext_of ?_ (by first | exact Nat.le_refl _ | assumption | (simp only [World.size_alloc, World.size_setCell, size_ext, World.heap_drewN]; omega)) _ _) | (with_reducible refine Below.alloc ?_ (by first | exact Nat.le_refl _ | assumption | (simp only [World.size_alloc, World.size_setCell, size_ext, World.heap_drewN]; omega)) _) | (with_reducible refine Below.setCell ?_ (by first | exact Nat.le_refl _ | assumption | (simp only [World.size_alloc, World.size_setCell, size_ext, World.heap_drewN]; omega)) _)))) ND.out (by omega) HR1.out).mono ?_; rintro e wx ⟨rfl, hbx⟩; obtain ⟨Xx, dx, rfl⟩ := below_ext hbx; clear hbx; go_simp)
            refine hK.out _ _ ?hS185 (fun hHeld2 => ?go185)
            case hS185 =>
              (try dsimp only)
              try go_simp
            case go185 =>
            clear hK K
            clear hHeld
            have hHeld := hHeld2
            clear hHeld2
            (try simp only [Act.put, List.setIfInBounds_toArray, List.set_cons_zero, List.set_cons_succ])
            refine wpAnyH_ready (rs := [7]) (by kernel_rfl) (by simp) ?_
            refine AllReadyH.cons (o := ⟨_, _, _, _, _, _⟩) rfl (fun K hK => ?_) AllReadyH.nil
            go_simp
            (go_at_call 25; refine (number_is _ _ _ a1 a2 S1 _ (RA1.out.below (by repeat (first | (with_reducible exact Below.refl _ _) | (with_reducible assumption) | (with_reducible refine below_drewN ?_ _) | (with_reducible refine Below.drew ?_) | (with_reducible refine below_ext_of ?_ (by first | exact Nat.le_refl _ | assumption | (simp only [World.size_alloc, World.size_setCell, size_ext, World.heap_drewN]; omega)) _ _) | (with_reducible refine Below.alloc ?_ (by first | exact Nat.le_refl _ | assumption | (simp only [World.size_alloc, World.size_setCell, size_ext, World.heap_drewN]; omega)) _) | (with_reducible refine Below.setCell ?_ (by first | exact Nat.le_refl _ | assumption | (simp only [World.size_alloc, World.size_setCell, size_ext, World.heap_drewN]; omega)) _)))) (RA2.out.below (by repeat (first | (with_reducible exact Below.refl _ _) | (with_reducible assumption) | (with_reducible refine below_drewN ?_ _) | (with_reducible refine Below.drew ?_) | (with_reducible refine below_ext_of ?_ (by first | exact Nat.le_refl _ | assumption | (simp only [World.size_alloc, World.size_setCell, size_ext, World.heap_drewN]; omega)) _ _) | (with_reducible refine Below.alloc ?_ (by first | exact Nat.le_refl _ | assumption | (simp only [World.size_alloc, World.size_setCell, size_ext, World.heap_drewN]; omega)) _) | (with_reducible refine Below.setCell ?_ (by first | exact Nat.le_refl _ | assumption | (simp only [World.size_alloc, World.size_setCell, size_ext, World.heap_drewN]; omega)) _)))) MA.out (by omega) rfl).mono ?_; rintro e wx ⟨rfl, hbx⟩; obtain ⟨Xx, dx, rfl⟩ := below_ext hbx; clear hbx; go_simp)
            refine hK.out _ _ ?hS186 (fun hHeld2 => ?go186)
            case hS186 =>
              (try dsimp only)
              try go_simp
            case go186 =>
            clear hK K
            clear hHeld
            have hHeld := hHeld2
            clear hHeld2
            (try simp only [Act.put, List.setIfInBounds_toArray, List.set_cons_zero, List.set_cons_succ])
            refine' wpAnyH_take (i := 8) (oi := ⟨_, _, _, _, _, _⟩) (v := ?v187) rfl (by kernel_rfl) (by kernel_rfl) (by kernel_rfl) (fun _ _ _ h => h) (Or.inl ⟨by rfl, ?hy187⟩) (by assumption) ?rest187
            case hy187 =>
              intro w hSw
              (try dsimp only at hSw)
              go_simp
              try (with_reducible rfl)
            case rest187 =>
            (try simp only [Act.put, List.setIfInBounds_toArray, List.set_cons_zero, List.set_cons_succ])
            refine' wpAnyH_take (i := 9) (oi := ⟨_, _, _, _, _, _⟩) (v := ?v188) rfl (by kernel_rfl) (by kernel_rfl) (by kernel_rfl) (fun _ _ _ h => h) (Or.inl ⟨by rfl, ?hy188⟩) (by assumption) ?rest188
            case hy188 =>
              intro w hSw
              (try dsimp only at hSw)
              go_simp
              try (with_reducible rfl)
            case rest188 =>
            (try simp only [Act.put, List.setIfInBounds_toArray, List.set_cons_zero, List.set_cons_succ])
            refine' wpAnyH_take (i := 10) (oi := ⟨_, _, _, _, _, _⟩) (v := ?v189) rfl (by kernel_rfl) (by kernel_rfl) (by kernel_rfl) (fun _ _ _ h => h) (Or.inl ⟨by rfl, ?hy189⟩) (by assumption) ?rest189
            case hy189 =>
              intro w hSw
              (try dsimp only at hSw)
              go_simp
              try (with_reducible rfl)
            case rest189 =>
            (try simp only [Act.put, List.setIfInBounds_toArray, List.set_cons_zero, List.set_cons_succ])
            refine' wpAnyH_take (i := 11) (oi := ⟨_, _, _, _, _, _⟩) (v := ?v190) rfl (by kernel_rfl) (by kernel_rfl) (by kernel_rfl) (fun _ _ _ h => h) (Or.inl ⟨by rfl, ?hy190⟩) (by assumption) ?rest190
            case hy190 =>
              intro w hSw
              (try dsimp only at hSw)
              go_simp
              try (with_reducible rfl)
            case rest190 =>
            (try simp only [Act.put, List.setIfInBounds_toArray, List.set_cons_zero, List.set_cons_succ])
            refine' wpAnyH_take (i := 12) (oi := ⟨_, _, _, _, _, _⟩) (v := ?v191) rfl (by kernel_rfl) (by kernel_rfl) (by kernel_rfl) (fun _ _ _ h => h) (Or.inl ⟨by rfl, ?hy191⟩) (by assumption) ?rest191
            case hy191 =>
              intro w hSw
              (try dsimp only at hSw)
              go_simp
              try (with_reducible rfl)
            case rest191 =>
            (try simp only [Act.put, List.setIfInBounds_toArray, List.set_cons_zero, List.set_cons_succ])
            refine' wpAnyH_take (i := 14) (oi := ⟨_, _, _, _, _, _⟩) (v := ?v192) rfl (by kernel_rfl) (by kernel_rfl) (by kernel_rfl) (fun _ _ _ h => h) (Or.inl ⟨by rfl, ?hy192⟩) (by assumption) ?rest192
            case hy192 =>
              intro w hSw
              (try dsimp only at hSw)
              go_simp
              try (with_reducible rfl)
            case rest192 =>
            (try simp only [Act.put, List.setIfInBounds_toArray, List.set_cons_zero, List.set_cons_succ])
            refine' wpAnyH_take (i := 15) (oi := ⟨_, _, _, _, _, _⟩) (v := ?v193) rfl (by kernel_rfl) (by kernel_rfl) (by kernel_rfl) (fun _ _ _ h => h) (Or.inl ⟨by rfl, ?hy193⟩) (by assumption) ?rest193
            case hy193 =>
              intro w hSw
              (try dsimp only at hSw)
              go_simp
              try (with_reducible rfl)
            case rest193 =>
            (try simp only [Act.put, List.setIfInBounds_toArray, List.set_cons_zero, List.set_cons_succ])
            refine wpAnyH_ready (rs := [13]) (by kernel_rfl) (by simp) ?_
            refine AllReadyH.cons (o := ⟨_, _, _, _, _, _⟩) rfl (fun K hK => ?_) AllReadyH.nil
            go_simp
            (go_at_call 25; refine (number_is _ _ _ c1 c2 S2 _ (RC1.out.below (by repeat (first | (with_reducible exact Below.refl _ _) | (with_reducible assumption) | (with_reducible refine below_drewN ?_ _) | (with_reducible refine Below.drew ?_) | (with_reducible refine below_ext_of ?_ (by first | exact Nat.le_refl _ | assumption | (simp only [World.size_alloc, World.size_setCell, size_ext, World.heap_drewN]; omega)) _ _) | (with_reducible refine Below.alloc ?_ (by first | exact Nat.le_refl _ | assumption | (simp only [World.size_alloc, World.size_setCell, size_ext, World.heap_drewN]; omega)) _) | (with_reducible refine Below.setCell ?_ (by first | exact Nat.le_refl _ | assumption | (simp only [World.size_alloc, World.size_setCell, size_ext, World.heap_drewN]; omega)) _)))) (RC2.out.below (by repeat (first | (with_reducible exact Below.refl _ _) | (with_reducible assumption) | (with_reducible refine below_drewN ?_ _) | (with_reducible refine Below.drew ?_) | (with_reducible refine below_ext_of ?_ (by first | exact Nat.le_refl _ | assumption | (simp only [World.size_alloc, World.size_setCell, size_ext, World.heap_drewN]; omega)) _ _) | (with_reducible refine Below.alloc ?_ (by first | exact Nat.le_refl _ | assumption | (simp only [World.size_alloc, World.size_setCell, size_ext, World.heap_drewN]; omega)) _) | (with_reducible refine Below.setCell ?_ (by first | exact Nat.le_refl _ | assumption | (simp only [World.size_alloc, World.size_setCell, size_ext, World.heap_drewN]; omega)) _)))) NCh.out (by omega) HR2.out).mono ?_; rintro e wx ⟨rfl, hbx⟩; obtain ⟨Xx, dx, rfl⟩ := below_ext hbx; clear hbx; go_simp)
            refine hK.out _ _ ?hS194 (fun hHeld2 => ?go194)
            case hS194 =>
              (try dsimp only)
              try go_simp
            case go194 =>
            clear hK K
            clear hHeld
            have hHeld := hHeld2
            clear hHeld2
            (try simp only [Act.put, List.setIfInBounds_toArray, List.set_cons_zero, List.set_cons_succ])
            refine wpAnyH_ready (rs := [16]) (by kernel_rfl) (by simp) ?_
            refine AllReadyH.cons (o := ⟨_, _, _, _, _, _⟩) rfl (fun K hK => ?_) AllReadyH.nil
            go_simp
            (go_at_call 25; refine (number_is _ _ _ a1 a2 n _ (RA1.out.below (by repeat (first | (with_reducible exact Below.refl _ _) | (with_reducible assumption) | (with_reducible refine below_drewN ?_ _) | (with_reducible refine Below.drew ?_) | (with_reducible refine below_ext_of ?_ (by first | exact Nat.le_refl _ | assumption | (simp only [World.size_alloc, World.size_setCell, size_ext, World.heap_drewN]; omega)) _ _) | (with_reducible refine Below.alloc ?_ (by first | exact Nat.le_refl _ | assumption | (simp only [World.size_alloc, World.size_setCell, size_ext, World.heap_drewN]; omega)) _) | (with_reducible refine Below.setCell ?_ (by first | exact Nat.le_refl _ | assumption | (simp only [World.size_alloc, World.size_setCell, size_ext, World.heap_drewN]; omega)) _)))) (RA2.out.below (by repeat (first | (with_reducible exact Below.refl _ _) | (with_reducible assumption) | (with_reducible refine below_drewN ?_ _) | (with_reducible refine Below.drew ?_) | (with_reducible refine below_ext_of ?_ (by first | exact Nat.le_refl _ | assumption | (simp only [World.size_alloc, World.size_setCell, size_ext, World.heap_drewN]; omega)) _ _) | (with_reducible refine Below.alloc ?_ (by first | exact Nat.le_refl _ | assumption | (simp only [World.size_alloc, World.size_setCell, size_ext, World.heap_drewN]; omega)) _) | (with_reducible refine Below.setCell ?_ (by first | exact Nat.le_refl _ | assumption | (simp only [World.size_alloc, World.size_setCell, size_ext, World.heap_drewN]; omega)) _)))) MA.out (by omega) rfl).mono ?_; rintro e wx ⟨rfl, hbx⟩; obtain ⟨Xx, dx, rfl⟩ := below_ext hbx; clear hbx; go_simp)
            refine hK.out _ _ ?hS195 (fun hHeld2 => ?go195)
            case hS195 =>
              (try dsimp only)
              try go_simp
            case go195 =>
            clear hK K
            clear hHeld
            have hHeld := hHeld2
            clear hHeld2
            (try simp only [Act.put, List.setIfInBounds_toArray, List.set_cons_zero, List.set_cons_succ])
            refine' wpAnyH_take (i := 17) (oi := ⟨_, _, _, _, _, _⟩) (v := ?v196) rfl (by kernel_rfl) (by kernel_rfl) (by kernel_rfl) (fun _ _ _ h => h) (Or.inl ⟨by rfl, ?hy196⟩) (by assumption) ?rest196
            case hy196 =>
              intro w hSw
              (try dsimp only at hSw)
              go_simp
              try (with_reducible rfl)
            case rest196 =>
            (try simp only [Act.put, List.setIfInBounds_toArray, List.set_cons_zero, List.set_cons_succ])
            refine' wpAnyH_take (i := 18) (oi := ⟨_, _, _, _, _, _⟩) (v := ?v197) rfl (by kernel_rfl) (by kernel_rfl) (by kernel_rfl) (fun _ _ _ h => h) (Or.inl ⟨by rfl, ?hy197⟩) (by assumption) ?rest197
            case hy197 =>
              intro w hSw
              (try dsimp only at hSw)
              go_simp
              try (with_reducible rfl)
            case rest197 =>
            (try simp only [Act.put, List.setIfInBounds_toArray, List.set_cons_zero, List.set_cons_succ])
            refine' wpAnyH_take (i := 19) (oi := ⟨_, _, _, _, _, _⟩) (v := ?v198) rfl (by kernel_rfl) (by kernel_rfl) (by kernel_rfl) (fun _ _ _ h => h) (Or.inl ⟨by rfl, ?hy198⟩) (by assumption) ?rest198
            case hy198 =>
              intro w hSw
              (try dsimp only at hSw)
              go_simp
              try (with_reducible rfl)
            case rest198 =>
            (try simp only [Act.put, List.setIfInBounds_toArray, List.set_cons_zero, List.set_cons_succ])
            refine' wpAnyH_take (i := 20) (oi := ⟨_, _, _, _, _, _⟩) (v := ?v199) rfl (by kernel_rfl) (by kernel_rfl) (by kernel_rfl) (fun _ _ _ h => h) (Or.inl ⟨by rfl, ?hy199⟩) (by assumption) ?rest199
            case hy199 =>
              intro w hSw
              (try dsimp only at hSw)
              go_simp
              try (with_reducible rfl)
            case rest199 =>
            (try simp only [Act.put, List.setIfInBounds_toArray, List.set_cons_zero, List.set_cons_succ])
            refine' wpAnyH_take (i := 22) (oi := ⟨_, _, _, _, _, _⟩) (v := ?v200) rfl (by kernel_rfl) (by kernel_rfl) (by kernel_rfl) (fun _ _ _ h => h) (Or.inl ⟨by rfl, ?hy200⟩) (by assumption) ?rest200
            case hy200 =>
              intro w hSw
              (try dsimp only at hSw)
              go_simp
              try (with_reducible rfl)
            case rest200 =>
            (try simp only [Act.put, List.setIfInBounds_toArray, List.set_cons_zero, List.set_cons_succ])
            refine wpAnyH_ready (rs := [21]) (by kernel_rfl) (by simp) ?_
            refine AllReadyH.cons (o := ⟨_, _, _, _, _, _⟩) rfl (fun K hK => ?_) AllReadyH.nil
            go_simp
            (go_at_call 25; refine (number_is _ _ _ c1 c2 0 _ (RC1.out.below (by repeat (first | (with_reducible exact Below.refl _ _) | (with_reducible assumption) | (with_reducible refine below_drewN ?_ _) | (with_reducible refine Below.drew ?_) | (with_reducible refine below_ext_of ?_ (by first | exact Nat.le_refl _ | assumption | (simp only [World.size_alloc, World.size_setCell, size_ext, World.heap_drewN]; omega)) _ _) | (with_reducible refine Below.alloc ?_ (by first | exact Nat.le_refl _ | assumption | (simp only [World.size_alloc, World.size_setCell, size_ext, World.heap_drewN]; omega)) _) | (with_reducible refine Below.setCell ?_ (by first | exact Nat.le_refl _ | assumption | (simp only [World.size_alloc, World.size_setCell, size_ext, World.heap_drewN]; omega)) _)))) (RC2.out.below (by repeat (first | (with_reducible exact Below.refl _ _) | (with_reducible assumption) | (with_reducible refine below_drewN ?_ _) | (with_reducible refine Below.drew ?_) | (with_reducible refine below_ext_of ?_ (by first | exact Nat.le_refl _ | assumption | (simp only [World.size_alloc, World.size_setCell, size_ext, World.heap_drewN]; omega)) _ _) | (with_reducible refine Below.alloc ?_ (by first | exact Nat.le_refl _ | assumption | (simp only [World.size_alloc, World.size_setCell, size_ext, World.heap_drewN]; omega)) _) | (with_reducible refine Below.setCell ?_ (by first | exact Nat.le_refl _ | assumption | (simp only [World.size_alloc, World.size_setCell, size_ext, World.heap_drewN]; omega)) _)))) NCh.out (by omega) HR3.out).mono ?_; rintro e wx ⟨rfl, hbx⟩; obtain ⟨Xx, dx, rfl⟩ := below_ext hbx; clear hbx; go_simp)
            refine hK.out _ _ ?hS201 (fun hHeld2 => ?go201)
            case hS201 =>
              (try dsimp only)
              try go_simp
            case go201 =>
            clear hK K
            clear hHeld
            have hHeld := hHeld2
            clear hHeld2
            (try simp only [Act.put, List.setIfInBounds_toArray, List.set_cons_zero, List.set_cons_succ])
            refine' wpAnyH_take (i := 23) (oi := ⟨_, _, _, _, _, _⟩) (v := ?v202) rfl (by kernel_rfl) (by kernel_rfl) (by kernel_rfl) (fun _ _ _ h => h) (Or.inl ⟨by rfl, ?hy202⟩) (by assumption) ?rest202
            case hy202 =>
              intro w hSw
              (try dsimp only at hSw)
              go_simp
              try (with_reducible rfl)
            case rest202 =>
            (try simp only [Act.put, List.setIfInBounds_toArray, List.set_cons_zero, List.set_cons_succ])
            refine' wpAnyH_take (i := 24) (oi := ⟨_, _, _, _, _, _⟩) (v := ?v203) rfl (by kernel_rfl) (by kernel_rfl) (by kernel_rfl) (fun _ _ _ h => h) (Or.inl ⟨by rfl, ?hy203⟩) (by assumption) ?rest203
            case hy203 =>
              intro w hSw
              (try dsimp only at hSw)
              go_simp
              try (with_reducible rfl)
            case rest203 =>
            (try simp only [Act.put, List.setIfInBounds_toArray, List.set_cons_zero, List.set_cons_succ])
            refine' wpAnyH_take (i := 25) (oi := ⟨_, _, _, _, _, _⟩) (v := ?v204) rfl (by kernel_rfl) (by kernel_rfl) (by kernel_rfl) (fun _ _ _ h => h) (Or.inl ⟨by rfl, ?hy204⟩) (by assumption) ?rest204
            case hy204 =>
              intro w hSw
              (try dsimp only at hSw)
              go_simp
              try (with_reducible rfl)
            case rest204 =>
            (try simp only [Act.put, List.setIfInBounds_toArray, List.set_cons_zero, List.set_cons_succ])
            refine' wpAnyH_take (i := 26) (oi := ⟨_, _, _, _, _, _⟩) (v := ?v205) rfl (by kernel_rfl) (by kernel_rfl) (by kernel_rfl) (fun _ _ _ h => h) (Or.inl ⟨by rfl, ?hy205⟩) (by assumption) ?rest205
            case hy205 =>
              intro w hSw
              (try dsimp only at hSw)
              go_simp
              try (with_reducible rfl)
            case rest205 =>
            (try simp only [Act.put, List.setIfInBounds_toArray, List.set_cons_zero, List.set_cons_succ])
            refine' wpAnyH_take (i := 27) (oi := ⟨_, _, _, _, _, _⟩) (v := ?v206) rfl (by kernel_rfl) (by kernel_rfl) (by kernel_rfl) (fun _ _ _ h => h) (Or.inl ⟨by rfl, ?hy206⟩) (by assumption) ?rest206
            case hy206 =>
              intro w hSw
              (try dsimp only at hSw)
              go_simp
              try (with_reducible rfl)
            case rest206 =>
            (try simp only [Act.put, List.setIfInBounds_toArray, List.set_cons_zero, List.set_cons_succ])
            refine' wpAnyH_take (i := 29) (oi := ⟨_, _, _, _, _, _⟩) (v := ?v207) rfl (by kernel_rfl) (by kernel_rfl) (by kernel_rfl) (fun _ _ _ h => h) (Or.inl ⟨by rfl, ?hy207⟩) (by assumption) ?rest207
            case hy207 =>
              intro w hSw
              (try dsimp only at hSw)
              go_simp
              try (with_reducible rfl)
            case rest207 =>
            (try simp only [Act.put, List.setIfInBounds_toArray, List.set_cons_zero, List.set_cons_succ])
            refine' wpAnyH_take (i := 30) (oi := ⟨_, _, _, _, _, _⟩) (v := ?v208) rfl (by kernel_rfl) (by kernel_rfl) (by kernel_rfl) (fun _ _ _ h => h) (Or.inl ⟨by rfl, ?hy208⟩) (by assumption) ?rest208
            case hy208 =>
              intro w hSw
              (try dsimp only at hSw)
              go_simp
              try (with_reducible rfl)
            case rest208 =>
            (try simp only [Act.put, List.setIfInBounds_toArray, List.set_cons_zero, List.set_cons_succ])
            refine' wpAnyH_take (i := 31) (oi := ⟨_, _, _, _, _, _⟩) (v := ?v209) rfl (by kernel_rfl) (by kernel_rfl) (by kernel_rfl) (fun _ _ _ h => h) (Or.inl ⟨by rfl, ?hy209⟩) (by assumption) ?rest209
            case hy209 =>
              intro w hSw
              (try dsimp only at hSw)
              go_simp
              try (with_reducible rfl)
            case rest209 =>
            (try simp only [Act.put, List.setIfInBounds_toArray, List.set_cons_zero, List.set_cons_succ])
            refine' wpAnyH_take (i := 32) (oi := ⟨_, _, _, _, _, _⟩) (v := ?v210) rfl (by kernel_rfl) (by kernel_rfl) (by kernel_rfl) (fun _ _ _ h => h) (Or.inl ⟨by rfl, ?hy210⟩) (by assumption) ?rest210
            case hy210 =>
              intro w hSw
              (try dsimp only at hSw)
              go_simp
              try (with_reducible rfl)
            case rest210 =>
            (try simp only [Act.put, List.setIfInBounds_toArray, List.set_cons_zero, List.set_cons_succ])
            refine wpAnyH_ready (rs := [28]) (by kernel_rfl) (by simp) ?_
            refine AllReadyH.cons (o := ⟨_, _, _, _, _, _⟩) rfl (fun K hK => ?_) AllReadyH.nil
            go_simp
            (go_at_call 25; refine (number_is _ _ _ w1_ w2_ n _ (RW1.out.below (by repeat (first | (with_reducible exact Below.refl _ _) | (with_reducible assumption) | (with_reducible refine below_drewN ?_ _) | (with_reducible refine Below.drew ?_) | (with_reducible refine below_ext_of ?_ (by first | exact Nat.le_refl _ | assumption | (simp only [World.size_alloc, World.size_setCell, size_ext, World.heap_drewN]; omega)) _ _) | (with_reducible refine Below.alloc ?_ (by first | exact Nat.le_refl _ | assumption | (simp only [World.size_alloc, World.size_setCell, size_ext, World.heap_drewN]; omega)) _) | (with_reducible refine Below.setCell ?_ (by first | exact Nat.le_refl _ | assumption | (simp only [World.size_alloc, World.size_setCell, size_ext, World.heap_drewN]; omega)) _)))) (RW2.out.below (by repeat (first | (with_reducible exact Below.refl _ _) | (with_reducible assumption) | (with_reducible refine below_drewN ?_ _) | (with_reducible refine Below.drew ?_) | (with_reducible refine below_ext_of ?_ (by first | exact Nat.le_refl _ | assumption | (simp only [World.size_alloc, World.size_setCell, size_ext, World.heap_drewN]; omega)) _ _) | (with_reducible refine Below.alloc ?_ (by first | exact Nat.le_refl _ | assumption | (simp only [World.size_alloc, World.size_setCell, size_ext, World.heap_drewN]; omega)) _) | (with_reducible refine Below.setCell ?_ (by first | exact Nat.le_refl _ | assumption | (simp only [World.size_alloc, World.size_setCell, size_ext, World.heap_drewN]; omega)) _)))) NW.out (by omega) HR4.out).mono ?_; rintro e wx ⟨rfl, hbx⟩; obtain ⟨Xx, dx, rfl⟩ := below_ext hbx; clear hbx; go_simp)
            refine hK.out _ _ ?hS211 (fun hHeld2 => ?go211)
            case hS211 =>
              (try dsimp only)
              try go_simp
            case go211 =>
            clear hK K
            clear hHeld
            have hHeld := hHeld2
            clear hHeld2
            (try simp only [Act.put, List.setIfInBounds_toArray, List.set_cons_zero, List.set_cons_succ])
            refine wpAnyH_ready (rs := [33]) (by kernel_rfl) (by simp) ?_
            refine AllReadyH.cons (o := ⟨_, _, _, _, _, _⟩) rfl (fun K hK => ?_) AllReadyH.nil
            go_simp
            (go_at_call 25; refine (number_is _ _ _ a1 a2 S3 _ (RA1.out.below (by repeat (first | (with_reducible exact Below.refl _ _) | (with_reducible assumption) | (with_reducible refine below_drewN ?_ _) | (with_reducible refine Below.drew ?_) | (with_reducible refine below_ext_of ?_ (by first | exact Nat.le_refl _ | assumption | (simp only [World.size_alloc, World.size_setCell, size_ext, World.heap_drewN]; omega)) _ _) | (with_reducible refine Below.alloc ?_ (by first | exact Nat.le_refl _ | assumption | (simp only [World.size_alloc, World.size_setCell, size_ext, World.heap_drewN]; omega)) _) | (with_reducible refine Below.setCell ?_ (by first | exact Nat.le_refl _ | assumption | (simp only [World.size_alloc, World.size_setCell, size_ext, World.heap_drewN]; omega)) _)))) (RA2.out.below (by repeat (first | (with_reducible exact Below.refl _ _) | (with_reducible assumption) | (with_reducible refine below_drewN ?_ _) | (with_reducible refine Below.drew ?_) | (with_reducible refine below_ext_of ?_ (by first | exact Nat.le_refl _ | assumption | (simp only [World.size_alloc, World.size_setCell, size_ext, World.heap_drewN]; omega)) _ _) | (with_reducible refine Below.alloc ?_ (by first | exact Nat.le_refl _ | assumption | (simp only [World.size_alloc, World.size_setCell, size_ext, World.heap_drewN]; omega)) _) | (with_reducible refine Below.setCell ?_ (by first | exact Nat.le_refl _ | assumption | (simp only [World.size_alloc, World.size_setCell, size_ext, World.heap_drewN]; omega)) _)))) MA.out (by omega) rfl).mono ?_; rintro e wx ⟨rfl, hbx⟩; obtain ⟨Xx, dx, rfl⟩ := below_ext hbx; clear hbx; go_simp)
            refine hK.out _ _ ?hS212 (fun hHeld2 => ?go212)
            case hS212 =>
              (try dsimp only)
              try go_simp
            case go212 =>
            clear hK K
            clear hHeld
            have hHeld := hHeld2
            clear hHeld2
            (try simp only [Act.put, List.setIfInBounds_toArray, List.set_cons_zero, List.set_cons_succ])
            refine' wpAnyH_take (i := 34) (oi := ⟨_, _, _, _, _, _⟩) (v := ?v213) rfl (by kernel_rfl) (by kernel_rfl) (by kernel_rfl) (fun _ _ _ h => h) (Or.inl ⟨by rfl, ?hy213⟩) (by assumption) ?rest213
            case hy213 =>
              intro w hSw
              (try dsimp only at hSw)
              go_simp
              try (with_reducible rfl)
            case rest213 =>
            (try simp only [Act.put, List.setIfInBounds_toArray, List.set_cons_zero, List.set_cons_succ])
            refine' wpAnyH_take (i := 35) (oi := ⟨_, _, _, _, _, _⟩) (v := ?v214) rfl (by kernel_rfl) (by kernel_rfl) (by kernel_rfl) (fun _ _ _ h => h) (Or.inl ⟨by rfl, ?hy214⟩) (by assumption) ?rest214
            case hy214 =>
              intro w hSw
              (try dsimp only at hSw)
              go_simp
              try (with_reducible rfl)
            case rest214 =>
            (try simp only [Act.put, List.setIfInBounds_toArray, List.set_cons_zero, List.set_cons_succ])
            refine wpAnyH_done (by kernel_rfl) ?_ _
            go_wp2_with fail
            go_meet
            case rel => exact ⟨rfl, _, rfl, HBR.out.trans (Below.mono (by repeat (first | (with_reducible exact Below.refl _ _) | (with_reducible assumption) | (with_reducible refine below_drewN ?_ _) | (with_reducible refine Below.drew ?_) | (with_reducible refine below_ext_of ?_ (by first | exact Nat.le_refl _ | assumption | (simp only [World.size_alloc, World.size_setCell, size_ext, World.heap_drewN]; omega)) _ _) | (with_reducible refine Below.alloc ?_ (by first | exact Nat.le_refl _ | assumption | (simp only [World.size_alloc, World.size_setCell, size_ext, World.heap_drewN]; omega)) _) | (with_reducible refine Below.setCell ?_ (by first | exact Nat.le_refl _ | assumption | (simp only [World.size_alloc, World.size_setCell, size_ext, World.heap_drewN]; omega)) _))) HBR.out.size)⟩
          case rest =>
          obtain ⟨rfl, Y1, rfl, hB⟩ := hcut
          replace RA1 := Lib.hid (RA1.out.below hB)
          replace RA2 := Lib.hid (RA2.out.below hB)
          replace RB1 := Lib.hid (RB1.out.below hB)
          replace RB2 := Lib.hid (RB2.out.below hB)
          replace RD1 := Lib.hid (RD1.out.below hB)
          replace RD2 := Lib.hid (RD2.out.below hB)
          replace RC1 := Lib.hid (RC1.out.below hB)
          replace RC2 := Lib.hid (RC2.out.below hB)
          replace RU1 := Lib.hid (RU1.out.below hB)
          replace RU2 := Lib.hid (RU2.out.below hB)
          replace RW1 := Lib.hid (RW1.out.below hB)
          replace RW2 := Lib.hid (RW2.out.below hB)
          replace HVB := Lib.hid (HVB.out.trans (hB.mono HVB.out.size))
          replace Kb0 := keep_cell hB Nb Kb0
          replace Kb1 := keep_cell hB Nb Kb1
          replace Nb := Nat.lt_of_lt_of_le Nb hB.size
          replace Ka0 := keep_cell hB Na Ka0
          replace Ka1 := keep_cell hB Na Ka1
          replace Na := Nat.lt_of_lt_of_le Na hB.size
          replace Kd0 := keep_cell hB Nd Kd0
          replace Kd1 := keep_cell hB Nd Kd1
          replace Nd := Nat.lt_of_lt_of_le Nd hB.size
          replace Kc0 := keep_cell hB Nc Kc0
          replace Kc1 := keep_cell hB Nc Kc1
          replace Nc := Nat.lt_of_lt_of_le Nc hB.size
          replace Ku0 := keep_cell hB Nu Ku0
          replace Ku1 := keep_cell hB Nu Ku1
          replace Nu := Nat.lt_of_lt_of_le Nu hB.size
          replace Kw0 := keep_cell hB Nw Kw0
          replace Kw1 := keep_cell hB Nw Kw1
          replace Nw := Nat.lt_of_lt_of_le Nw hB.size
          clear hB
          go_upto_if 130 with (fail)
          go_cut [] (fun wc => ∃ W9, W9 = wc ∧ Below Y1.heap.size Y1 W9)
          case first =>
            have HBR := Lib.hid (Below.refl Y1.heap.size Y1)
            go_wp2_with fail
            go_meet
            case rel => exact ⟨_, rfl, HBR.out.trans (Below.mono (by repeat (first | (with_reducible exact Below.refl _ _) | (with_reducible assumption) | (with_reducible refine below_drewN ?_ _) | (with_reducible refine Below.drew ?_) | (with_reducible refine below_ext_of ?_ (by first | exact Nat.le_refl _ | assumption | (simp only [World.size_alloc, World.size_setCell, size_ext, World.heap_drewN]; omega)) _ _) | (with_reducible refine Below.alloc ?_ (by first | exact Nat.le_refl _ | assumption | (simp only [World.size_alloc, World.size_setCell, size_ext, World.heap_drewN]; omega)) _) | (with_reducible refine Below.setCell ?_ (by first | exact Nat.le_refl _ | assumption | (simp only [World.size_alloc, World.size_setCell, size_ext, World.heap_drewN]; omega)) _))) HBR.out.size)⟩
          case rest =>
          obtain ⟨Y2, rfl, hB⟩ := hcut
          replace RA1 := Lib.hid (RA1.out.below hB)
          replace RA2 := Lib.hid (RA2.out.below hB)
          replace RB1 := Lib.hid (RB1.out.below hB)
          replace RB2 := Lib.hid (RB2.out.below hB)
          replace RD1 := Lib.hid (RD1.out.below hB)
          replace RD2 := Lib.hid (RD2.out.below hB)
          replace RC1 := Lib.hid (RC1.out.below hB)
          replace RC2 := Lib.hid (RC2.out.below hB)
          replace RU1 := Lib.hid (RU1.out.below hB)
          replace RU2 := Lib.hid (RU2.out.below hB)
          replace RW1 := Lib.hid (RW1.out.below hB)
          replace RW2 := Lib.hid (RW2.out.below hB)
          replace HVB := Lib.hid (HVB.out.trans (hB.mono HVB.out.size))
          replace Kb0 := keep_cell hB Nb Kb0
          replace Kb1 := keep_cell hB Nb Kb1
          replace Nb := Nat.lt_of_lt_of_le Nb hB.size
          replace Ka0 := keep_cell hB Na Ka0
          replace Ka1 := keep_cell hB Na Ka1
          replace Na := Nat.lt_of_lt_of_le Na hB.size
          replace Kd0 := keep_cell hB Nd Kd0
          replace Kd1 := keep_cell hB Nd Kd1
          replace Nd := Nat.lt_of_lt_of_le Nd hB.size
          replace Kc0 := keep_cell hB Nc Kc0
          replace Kc1 := keep_cell hB Nc Kc1
          replace Nc := Nat.lt_of_lt_of_le Nc hB.size
          replace Ku0 := keep_cell hB Nu Ku0
          replace Ku1 := keep_cell hB Nu Ku1
          replace Nu := Nat.lt_of_lt_of_le Nu hB.size
          replace Kw0 := keep_cell hB Nw Kw0
          replace Kw1 := keep_cell hB Nw Kw1
          replace Nw := Nat.lt_of_lt_of_le Nw hB.size
          clear hB
          have SD := Lib.hid (norm_of_is HMD.out.is HMD.out.hl HMD.out.ll)
          have SC := Lib.hid (norm_of_is HMC.out.is HMC.out.hl HMC.out.ll)
          have SW := Lib.hid (norm_of_is HMW.out.is HMW.out.hl HMW.out.ll)
          apply_assumption
          exact each2 w Y2 HVB a1 a2 b1 b2 pa1 pa2 pb1 pb2 ca1 ca2 cb1 cb2 RA1 RA2 Ba Ka0 Ka1 Na RB1 RB2 Bb Kb0 Kb1 Nb n hn2 I_a1 I_b1 MA MB HLA HLB d1 d2 c1 c2 u1 u2 w1_ w2_ k1 k2 pd pc pu pw qd qc qu qw sd sc su sw td tc tu tw RD1 RD2 Bd Kd0 Kd1 Nd RC1 RC2 Bc Kc0 Kc1 Nc RU1 RU2 Bu Ku0 Ku1 Nu RW1 RW2 Bw Kw0 Kw1 Nw m S4 E4 hm0 hmb b4 e5 e5' e5'' e6 e6' e8 HS4 NCh HK KS SD SC SW HMU g1 _ _ _ _ _ _ _ _ _ _ _ _ _ _ _ _ _ _ _ _ _ _ _ _ _ _ _ _ _ _ _ _ _ _ _ _ _ _ _ _ _ _ _ _ _ _ _ _ _ _ _ _ _ _ _ _ _ _ _ _ _ _ _ _ _ _ _ _ _ _ _ _ _ _ _ _ _ _ _ _ _ _ _ _ _ _ _ _ _ _ _ _ _ _ _ _ _ _ _ _ _ _ _ _ _ _ _ _ _ _ _ _ _ _ _ _ _ _ _ _ _ _ _ _ _ _ _ _ _ _ _ _ _ _ _ _ _ _ _ _ _ _ _ _ _ _ _ _ _ _ _ _ _ _ _ _ _ _ _ _ _ _ _ _ _ _ _ _ _ _ _ _ _ _ _ _ _ _ _ _ _ _ _ _ _ _ _ _ _ _ _ _ _ _ _ _ _ _ _ _ _ _ _ _ _ _ _ _ _ _ _ _ _ _ _ _ _ _ _ _ _ _ _ _ _ _ _ _ _ _ _ _ _ _ _ _ _ _ _ _ _ _ _ _ _ _ _ _ _ _ _ _ _ _
end Go.Proofs.Ytpcnapmlmhhcpaa
