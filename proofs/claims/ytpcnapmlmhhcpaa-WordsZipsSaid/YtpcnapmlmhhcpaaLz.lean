/-
  The law WordsZips: true of every three words.
  Conditions: the words lie in memory; their numbers are int64s.
-/
import Derived.Test.YtpcnapmlmhhcpaaCc
import Derived.WalkKit
import Derived.WalkSpells
import Derived.WalkLawsBesides
import Derived.Deep.QuietTactic
import Derived.BigQuiet
import Derived.Lib.Hide
import Derived.Handy
set_option linter.unusedVariables false
set_option linter.unusedSimpArgs false
namespace Go.Proofs.Ytpcnapmlmhhcpaa
open Go.RowKit 
open Big
attribute [local go_sem] setCell_drewN alloc_drewN size_ext ext_ext ext_drewN ext_drew drewN_ext drew_ext cell?_ext frozen?_ext setCell_ext cell?_past1 frozen?_past1 setCell_past1 cell?_past2 frozen?_past2 setCell_past2 cell?_past3 frozen?_past3 setCell_past3 cell?_past4 frozen?_past4 setCell_past4 cell?_past5 frozen?_past5 setCell_past5 cell?_past6 frozen?_past6 setCell_past6 cell?_past7 frozen?_past7 setCell_past7 cell?_past8 frozen?_past8 setCell_past8

set_option maxRecDepth 100000 in
set_option maxHeartbeats 40000000 in
theorem WordsZips_any (w : World) (va1 va2 vb1 vb2 vc1 vc2 : Value) (a1 a2 b1 b2 c1 c2 : List Int) (h1 : RowAt w va1 a1) (h2 : RowAt w va2 a2) (h3 : RowAt w vb1 b1) (h4 : RowAt w vb2 b2) (h5 : RowAt w vc1 c1) (h6 : RowAt w vc2 c2) (i1 : in64W a1 a2) (i2 : in64W b1 b2) (i3 : in64W c1 c2) :
    Calls Try.prog 3 #[.agg #[va1, va2], .agg #[vb1, vb2], .agg #[vc1, vc2]] w fun e w' => e = .returned (.bool true) ∧ Below w.heap.size w w' := by
  have RA1 := Lib.hid h1
  have RA2 := Lib.hid h2
  have RB1 := Lib.hid h3
  have RB2 := Lib.hid h4
  have RC1 := Lib.hid h5
  have RC2 := Lib.hid h6
  have I_a1 := Lib.hid i1
  have I_b1 := Lib.hid i2
  have I_c1 := Lib.hid i3
  obtain ⟨ra, hra⟩ : ∃ r, heavyB a1 a2 = r := ⟨_, rfl⟩
  obtain ⟨rb, hrb⟩ : ∃ r, heavyB b1 b2 = r := ⟨_, rfl⟩
  obtain ⟨rc, hrc⟩ : ∃ r, heavyB c1 c2 = r := ⟨_, rfl⟩
  have HRA := Lib.hid hra
  have HRB := Lib.hid hrb
  have HRC := Lib.hid hrc
  obtain ⟨pa1, ca1, rfl, _⟩ := h1
  obtain ⟨pa2, ca2, rfl, _⟩ := h2
  obtain ⟨pb1, cb1, rfl, _⟩ := h3
  obtain ⟨pb2, cb2, rfl, _⟩ := h4
  obtain ⟨pc1, cc1, rfl, _⟩ := h5
  obtain ⟨pc2, cc2, rfl, _⟩ := h6
  clear i1 i2 i3 hra hrb hrc
  go_enter Try.func3, Try.ntmps3
  go_wp2_with fail
  refine (heavy_is _ _ _ a1 a2 ra (RA1.out.below (by repeat (first | (with_reducible exact Below.refl _ _) | (with_reducible assumption) | (with_reducible refine below_drewN ?_ _) | (with_reducible refine Below.drew ?_) | (with_reducible refine below_ext_of ?_ (by first | exact Nat.le_refl _ | assumption | (simp only [World.size_alloc, World.size_setCell, size_ext, World.heap_drewN]; omega)) _ _) | (with_reducible refine Below.alloc ?_ (by first | exact Nat.le_refl _ | assumption | (simp only [World.size_alloc, World.size_setCell, size_ext, World.heap_drewN]; omega)) _) | (with_reducible refine Below.setCell ?_ (by first | exact Nat.le_refl _ | assumption | (simp only [World.size_alloc, World.size_setCell, size_ext, World.heap_drewN]; omega)) _)))) (RA2.out.below (by repeat (first | (with_reducible exact Below.refl _ _) | (with_reducible assumption) | (with_reducible refine below_drewN ?_ _) | (with_reducible refine Below.drew ?_) | (with_reducible refine below_ext_of ?_ (by first | exact Nat.le_refl _ | assumption | (simp only [World.size_alloc, World.size_setCell, size_ext, World.heap_drewN]; omega)) _ _) | (with_reducible refine Below.alloc ?_ (by first | exact Nat.le_refl _ | assumption | (simp only [World.size_alloc, World.size_setCell, size_ext, World.heap_drewN]; omega)) _) | (with_reducible refine Below.setCell ?_ (by first | exact Nat.le_refl _ | assumption | (simp only [World.size_alloc, World.size_setCell, size_ext, World.heap_drewN]; omega)) _)))) HRA.out).mono ?_
  rintro e W1 ⟨rfl, hb⟩
  have hB : Below w.heap.size w W1 := Below.trans (by repeat (first | (with_reducible exact Below.refl _ _) | (with_reducible assumption) | (with_reducible refine below_drewN ?_ _) | (with_reducible refine Below.drew ?_) | (with_reducible refine below_ext_of ?_ (by first | exact Nat.le_refl _ | assumption | (simp only [World.size_alloc, World.size_setCell, size_ext, World.heap_drewN]; omega)) _ _) | (with_reducible refine Below.alloc ?_ (by first | exact Nat.le_refl _ | assumption | (simp only [World.size_alloc, World.size_setCell, size_ext, World.heap_drewN]; omega)) _) | (with_reducible refine Below.setCell ?_ (by first | exact Nat.le_refl _ | assumption | (simp only [World.size_alloc, World.size_setCell, size_ext, World.heap_drewN]; omega)) _))) (hb.mono (by simp [go_sem] <;> omega))
  replace RA1 := Lib.hid (RA1.out.below hB)
  replace RA2 := Lib.hid (RA2.out.below hB)
  replace RB1 := Lib.hid (RB1.out.below hB)
  replace RB2 := Lib.hid (RB2.out.below hB)
  replace RC1 := Lib.hid (RC1.out.below hB)
  replace RC2 := Lib.hid (RC2.out.below hB)
  have HVB := Lib.hid hB
  have Ka0 : W1.cell? ⟨w.heap.size, 0, none⟩ = some (.slice pa1 a1.length ca1) := keep_cell hb (by simp [go_sem] <;> omega) (by simp [go_sem])
  have Ka1 : W1.cell? ⟨w.heap.size, 1, none⟩ = some (.slice pa2 a2.length ca2) := keep_cell hb (by simp [go_sem] <;> omega) (by simp [go_sem])
  have Na : w.heap.size < W1.heap.size := Nat.lt_of_lt_of_le (by simp [go_sem] <;> omega) hb.size
  have Kb0 : W1.cell? ⟨w.heap.size + 1, 0, none⟩ = some (.slice pb1 b1.length cb1) := keep_cell hb (by simp [go_sem] <;> omega) (by simp [go_sem])
  have Kb1 : W1.cell? ⟨w.heap.size + 1, 1, none⟩ = some (.slice pb2 b2.length cb2) := keep_cell hb (by simp [go_sem] <;> omega) (by simp [go_sem])
  have Nb : w.heap.size + 1 < W1.heap.size := Nat.lt_of_lt_of_le (by simp [go_sem] <;> omega) hb.size
  have Kc0 : W1.cell? ⟨w.heap.size + 1 + 1, 0, none⟩ = some (.slice pc1 c1.length cc1) := keep_cell hb (by simp [go_sem] <;> omega) (by simp [go_sem])
  have Kc1 : W1.cell? ⟨w.heap.size + 1 + 1, 1, none⟩ = some (.slice pc2 c2.length cc2) := keep_cell hb (by simp [go_sem] <;> omega) (by simp [go_sem])
  have Nc : w.heap.size + 1 + 1 < W1.heap.size := Nat.lt_of_lt_of_le (by simp [go_sem] <;> omega) hb.size
  obtain ⟨Bc, hkc⟩ : ∃ b, b = w.heap.size + 1 + 1 := ⟨_, rfl⟩
  rw [← hkc] at Kc0 Kc1 Nc ⊢
  clear hkc
  obtain ⟨Bb, hkb⟩ : ∃ b, b = w.heap.size + 1 := ⟨_, rfl⟩
  rw [← hkb] at Kb0 Kb1 Nb ⊢
  clear hkb
  obtain ⟨Ba, hka⟩ : ∃ b, b = w.heap.size := ⟨_, rfl⟩
  rw [← hka] at Ka0 Ka1 Na ⊢
  clear hka
  clear hb hB
  cases ra with
  | true =>
    go_wp2_with fail
    refine (works_any _).mono ?_
    rintro e W2 ⟨rfl, hb⟩
    have hB : Below W1.heap.size W1 W2 := Below.trans (by repeat (first | (with_reducible exact Below.refl _ _) | (with_reducible assumption) | (with_reducible refine below_drewN ?_ _) | (with_reducible refine Below.drew ?_) | (with_reducible refine below_ext_of ?_ (by first | exact Nat.le_refl _ | assumption | (simp only [World.size_alloc, World.size_setCell, size_ext, World.heap_drewN]; omega)) _ _) | (with_reducible refine Below.alloc ?_ (by first | exact Nat.le_refl _ | assumption | (simp only [World.size_alloc, World.size_setCell, size_ext, World.heap_drewN]; omega)) _) | (with_reducible refine Below.setCell ?_ (by first | exact Nat.le_refl _ | assumption | (simp only [World.size_alloc, World.size_setCell, size_ext, World.heap_drewN]; omega)) _))) (hb.mono (by simp [go_sem] <;> omega))
    replace RA1 := Lib.hid (RA1.out.below hB)
    replace RA2 := Lib.hid (RA2.out.below hB)
    replace RB1 := Lib.hid (RB1.out.below hB)
    replace RB2 := Lib.hid (RB2.out.below hB)
    replace RC1 := Lib.hid (RC1.out.below hB)
    replace RC2 := Lib.hid (RC2.out.below hB)
    replace HVB := Lib.hid (HVB.out.trans (hB.mono HVB.out.size))
    replace Kc0 := keep_cell hB Nc Kc0
    replace Kc1 := keep_cell hB Nc Kc1
    replace Nc := Nat.lt_of_lt_of_le Nc hB.size
    replace Kb0 := keep_cell hB Nb Kb0
    replace Kb1 := keep_cell hB Nb Kb1
    replace Nb := Nat.lt_of_lt_of_le Nb hB.size
    replace Ka0 := keep_cell hB Na Ka0
    replace Ka1 := keep_cell hB Na Ka1
    replace Na := Nat.lt_of_lt_of_le Na hB.size
    clear hb hB
    go_wp2_with fail
    go_ret
    exact ⟨rfl, HVB.out⟩
  | false =>
    go_wp2_with fail
    refine (heavy_is _ _ _ b1 b2 rb (RB1.out.below (by repeat (first | (with_reducible exact Below.refl _ _) | (with_reducible assumption) | (with_reducible refine below_drewN ?_ _) | (with_reducible refine Below.drew ?_) | (with_reducible refine below_ext_of ?_ (by first | exact Nat.le_refl _ | assumption | (simp only [World.size_alloc, World.size_setCell, size_ext, World.heap_drewN]; omega)) _ _) | (with_reducible refine Below.alloc ?_ (by first | exact Nat.le_refl _ | assumption | (simp only [World.size_alloc, World.size_setCell, size_ext, World.heap_drewN]; omega)) _) | (with_reducible refine Below.setCell ?_ (by first | exact Nat.le_refl _ | assumption | (simp only [World.size_alloc, World.size_setCell, size_ext, World.heap_drewN]; omega)) _)))) (RB2.out.below (by repeat (first | (with_reducible exact Below.refl _ _) | (with_reducible assumption) | (with_reducible refine below_drewN ?_ _) | (with_reducible refine Below.drew ?_) | (with_reducible refine below_ext_of ?_ (by first | exact Nat.le_refl _ | assumption | (simp only [World.size_alloc, World.size_setCell, size_ext, World.heap_drewN]; omega)) _ _) | (with_reducible refine Below.alloc ?_ (by first | exact Nat.le_refl _ | assumption | (simp only [World.size_alloc, World.size_setCell, size_ext, World.heap_drewN]; omega)) _) | (with_reducible refine Below.setCell ?_ (by first | exact Nat.le_refl _ | assumption | (simp only [World.size_alloc, World.size_setCell, size_ext, World.heap_drewN]; omega)) _)))) HRB.out).mono ?_
    rintro e W2 ⟨rfl, hb⟩
    have hB : Below W1.heap.size W1 W2 := Below.trans (by repeat (first | (with_reducible exact Below.refl _ _) | (with_reducible assumption) | (with_reducible refine below_drewN ?_ _) | (with_reducible refine Below.drew ?_) | (with_reducible refine below_ext_of ?_ (by first | exact Nat.le_refl _ | assumption | (simp only [World.size_alloc, World.size_setCell, size_ext, World.heap_drewN]; omega)) _ _) | (with_reducible refine Below.alloc ?_ (by first | exact Nat.le_refl _ | assumption | (simp only [World.size_alloc, World.size_setCell, size_ext, World.heap_drewN]; omega)) _) | (with_reducible refine Below.setCell ?_ (by first | exact Nat.le_refl _ | assumption | (simp only [World.size_alloc, World.size_setCell, size_ext, World.heap_drewN]; omega)) _))) (hb.mono (by simp [go_sem] <;> omega))
    replace RA1 := Lib.hid (RA1.out.below hB)
    replace RA2 := Lib.hid (RA2.out.below hB)
    replace RB1 := Lib.hid (RB1.out.below hB)
    replace RB2 := Lib.hid (RB2.out.below hB)
    replace RC1 := Lib.hid (RC1.out.below hB)
    replace RC2 := Lib.hid (RC2.out.below hB)
    replace HVB := Lib.hid (HVB.out.trans (hB.mono HVB.out.size))
    replace Kc0 := keep_cell hB Nc Kc0
    replace Kc1 := keep_cell hB Nc Kc1
    replace Nc := Nat.lt_of_lt_of_le Nc hB.size
    replace Kb0 := keep_cell hB Nb Kb0
    replace Kb1 := keep_cell hB Nb Kb1
    replace Nb := Nat.lt_of_lt_of_le Nb hB.size
    replace Ka0 := keep_cell hB Na Ka0
    replace Ka1 := keep_cell hB Na Ka1
    replace Na := Nat.lt_of_lt_of_le Na hB.size
    clear hb hB
    cases rb with
    | true =>
      go_wp2_with fail
      refine (works_any _).mono ?_
      rintro e W3 ⟨rfl, hb⟩
      have hB : Below W2.heap.size W2 W3 := Below.trans (by repeat (first | (with_reducible exact Below.refl _ _) | (with_reducible assumption) | (with_reducible refine below_drewN ?_ _) | (with_reducible refine Below.drew ?_) | (with_reducible refine below_ext_of ?_ (by first | exact Nat.le_refl _ | assumption | (simp only [World.size_alloc, World.size_setCell, size_ext, World.heap_drewN]; omega)) _ _) | (with_reducible refine Below.alloc ?_ (by first | exact Nat.le_refl _ | assumption | (simp only [World.size_alloc, World.size_setCell, size_ext, World.heap_drewN]; omega)) _) | (with_reducible refine Below.setCell ?_ (by first | exact Nat.le_refl _ | assumption | (simp only [World.size_alloc, World.size_setCell, size_ext, World.heap_drewN]; omega)) _))) (hb.mono (by simp [go_sem] <;> omega))
      replace RA1 := Lib.hid (RA1.out.below hB)
      replace RA2 := Lib.hid (RA2.out.below hB)
      replace RB1 := Lib.hid (RB1.out.below hB)
      replace RB2 := Lib.hid (RB2.out.below hB)
      replace RC1 := Lib.hid (RC1.out.below hB)
      replace RC2 := Lib.hid (RC2.out.below hB)
      replace HVB := Lib.hid (HVB.out.trans (hB.mono HVB.out.size))
      replace Kc0 := keep_cell hB Nc Kc0
      replace Kc1 := keep_cell hB Nc Kc1
      replace Nc := Nat.lt_of_lt_of_le Nc hB.size
      replace Kb0 := keep_cell hB Nb Kb0
      replace Kb1 := keep_cell hB Nb Kb1
      replace Nb := Nat.lt_of_lt_of_le Nb hB.size
      replace Ka0 := keep_cell hB Na Ka0
      replace Ka1 := keep_cell hB Na Ka1
      replace Na := Nat.lt_of_lt_of_le Na hB.size
      clear hb hB
      go_wp2_with fail
      go_ret
      exact ⟨rfl, HVB.out⟩
    | false =>
      go_wp2_with fail
      refine (heavy_is _ _ _ c1 c2 rc (RC1.out.below (by repeat (first | (with_reducible exact Below.refl _ _) | (with_reducible assumption) | (with_reducible refine below_drewN ?_ _) | (with_reducible refine Below.drew ?_) | (with_reducible refine below_ext_of ?_ (by first | exact Nat.le_refl _ | assumption | (simp only [World.size_alloc, World.size_setCell, size_ext, World.heap_drewN]; omega)) _ _) | (with_reducible refine Below.alloc ?_ (by first | exact Nat.le_refl _ | assumption | (simp only [World.size_alloc, World.size_setCell, size_ext, World.heap_drewN]; omega)) _) | (with_reducible refine Below.setCell ?_ (by first | exact Nat.le_refl _ | assumption | (simp only [World.size_alloc, World.size_setCell, size_ext, World.heap_drewN]; omega)) _)))) (RC2.out.below (by repeat (first | (with_reducible exact Below.refl _ _) | (with_reducible assumption) | (with_reducible refine below_drewN ?_ _) | (with_reducible refine Below.drew ?_) | (with_reducible refine below_ext_of ?_ (by first | exact Nat.le_refl _ | assumption | (simp only [World.size_alloc, World.size_setCell, size_ext, World.heap_drewN]; omega)) _ _) | (with_reducible refine Below.alloc ?_ (by first | exact Nat.le_refl _ | assumption | (simp only [World.size_alloc, World.size_setCell, size_ext, World.heap_drewN]; omega)) _) | (with_reducible refine Below.setCell ?_ (by first | exact Nat.le_refl _ | assumption | (simp only [World.size_alloc, World.size_setCell, size_ext, World.heap_drewN]; omega)) _)))) HRC.out).mono ?_
      rintro e W3 ⟨rfl, hb⟩
      have hB : Below W2.heap.size W2 W3 := Below.trans (by repeat (first | (with_reducible exact Below.refl _ _) | (with_reducible assumption) | (with_reducible refine below_drewN ?_ _) | (with_reducible refine Below.drew ?_) | (with_reducible refine below_ext_of ?_ (by first | exact Nat.le_refl _ | assumption | (simp only [World.size_alloc, World.size_setCell, size_ext, World.heap_drewN]; omega)) _ _) | (with_reducible refine Below.alloc ?_ (by first | exact Nat.le_refl _ | assumption | (simp only [World.size_alloc, World.size_setCell, size_ext, World.heap_drewN]; omega)) _) | (with_reducible refine Below.setCell ?_ (by first | exact Nat.le_refl _ | assumption | (simp only [World.size_alloc, World.size_setCell, size_ext, World.heap_drewN]; omega)) _))) (hb.mono (by simp [go_sem] <;> omega))
      replace RA1 := Lib.hid (RA1.out.below hB)
      replace RA2 := Lib.hid (RA2.out.below hB)
      replace RB1 := Lib.hid (RB1.out.below hB)
      replace RB2 := Lib.hid (RB2.out.below hB)
      replace RC1 := Lib.hid (RC1.out.below hB)
      replace RC2 := Lib.hid (RC2.out.below hB)
      replace HVB := Lib.hid (HVB.out.trans (hB.mono HVB.out.size))
      replace Kc0 := keep_cell hB Nc Kc0
      replace Kc1 := keep_cell hB Nc Kc1
      replace Nc := Nat.lt_of_lt_of_le Nc hB.size
      replace Kb0 := keep_cell hB Nb Kb0
      replace Kb1 := keep_cell hB Nb Kb1
      replace Nb := Nat.lt_of_lt_of_le Nb hB.size
      replace Ka0 := keep_cell hB Na Ka0
      replace Ka1 := keep_cell hB Na Ka1
      replace Na := Nat.lt_of_lt_of_le Na hB.size
      clear hb hB
      cases rc with
      | true =>
        go_wp2_with fail
        refine (works_any _).mono ?_
        rintro e W4 ⟨rfl, hb⟩
        have hB : Below W3.heap.size W3 W4 := Below.trans (by repeat (first | (with_reducible exact Below.refl _ _) | (with_reducible assumption) | (with_reducible refine below_drewN ?_ _) | (with_reducible refine Below.drew ?_) | (with_reducible refine below_ext_of ?_ (by first | exact Nat.le_refl _ | assumption | (simp only [World.size_alloc, World.size_setCell, size_ext, World.heap_drewN]; omega)) _ _) | (with_reducible refine Below.alloc ?_ (by first | exact Nat.le_refl _ | assumption | (simp only [World.size_alloc, World.size_setCell, size_ext, World.heap_drewN]; omega)) _) | (with_reducible refine Below.setCell ?_ (by first | exact Nat.le_refl _ | assumption | (simp only [World.size_alloc, World.size_setCell, size_ext, World.heap_drewN]; omega)) _))) (hb.mono (by simp [go_sem] <;> omega))
        replace RA1 := Lib.hid (RA1.out.below hB)
        replace RA2 := Lib.hid (RA2.out.below hB)
        replace RB1 := Lib.hid (RB1.out.below hB)
        replace RB2 := Lib.hid (RB2.out.below hB)
        replace RC1 := Lib.hid (RC1.out.below hB)
        replace RC2 := Lib.hid (RC2.out.below hB)
        replace HVB := Lib.hid (HVB.out.trans (hB.mono HVB.out.size))
        replace Kc0 := keep_cell hB Nc Kc0
        replace Kc1 := keep_cell hB Nc Kc1
        replace Nc := Nat.lt_of_lt_of_le Nc hB.size
        replace Kb0 := keep_cell hB Nb Kb0
        replace Kb1 := keep_cell hB Nb Kb1
        replace Nb := Nat.lt_of_lt_of_le Nb hB.size
        replace Ka0 := keep_cell hB Na Ka0
        replace Ka1 := keep_cell hB Na Ka1
        replace Na := Nat.lt_of_lt_of_le Na hB.size
        clear hb hB
        go_wp2_with fail
        go_ret
        exact ⟨rfl, HVB.out⟩
      | false =>
        obtain ⟨na, hna⟩ : ∃ n, n = a2.length := ⟨_, rfl⟩
        obtain ⟨nb, hnb⟩ : ∃ n, n = b2.length := ⟨_, rfl⟩
        obtain ⟨nc, hnc⟩ : ∃ n, n = c2.length := ⟨_, rfl⟩
        have la := (not_heavy HRA.out).2
        have lb := (not_heavy HRB.out).2
        have lc := (not_heavy HRC.out).2
        have m1 : a2.length * b2.length ≤ 200 * 200 := Nat.mul_le_mul la lb
        have m2 : a2.length * b2.length * c2.length ≤ 200 * 200 * 200 := Nat.mul_le_mul m1 lc
        obtain ⟨M1, hM1⟩ : ∃ M, M = a2.length * b2.length := ⟨_, rfl⟩
        obtain ⟨M2, hM2⟩ : ∃ M, M = a2.length * b2.length * c2.length := ⟨_, rfl⟩
        rw [← hM2] at m2
        rw [← hM1] at m1 hM2
        have f1 : ((a2.length : Int) * (b2.length : Int)) = (M1 : Int) := by rw [hM1]; exact (Int.natCast_mul _ _).symm
        have f2 : IntKind.i64.wrap ((a2.length : Int) * (b2.length : Int)) = (M1 : Int) := by rw [f1, IntKind.wrap_i64]; omega
        have f2' : IntKind.i64.wrap (M1 : Int) = (M1 : Int) := by rw [IntKind.wrap_i64]; omega
        have f3 : ((M1 : Int) * (c2.length : Int)) = (M2 : Int) := by rw [hM2]; exact (Int.natCast_mul _ _).symm
        have f4 : IntKind.i64.wrap ((M1 : Int) * (c2.length : Int)) = (M2 : Int) := by rw [f3, IntKind.wrap_i64]; omega
        have f4' : IntKind.i64.wrap (M2 : Int) = (M2 : Int) := by rw [IntKind.wrap_i64]; omega
        clear hM1 hM2 hna hnb hnc la lb lc
        by_cases hbig : 2000 < M2
        · have g1 : (2000 : Int) < M2 := by omega
          have g2 := decide_eq_true g1
          have g3 : decide ((M2 : Int) > 2000) = true := g2
          have g4 := decide_eq_true hbig
          go_wp2_with fail
          refine (works_any _).mono ?_
          rintro e W4 ⟨rfl, hb⟩
          have hB : Below W3.heap.size W3 W4 := Below.trans (by repeat (first | (with_reducible exact Below.refl _ _) | (with_reducible assumption) | (with_reducible refine below_drewN ?_ _) | (with_reducible refine Below.drew ?_) | (with_reducible refine below_ext_of ?_ (by first | exact Nat.le_refl _ | assumption | (simp only [World.size_alloc, World.size_setCell, size_ext, World.heap_drewN]; omega)) _ _) | (with_reducible refine Below.alloc ?_ (by first | exact Nat.le_refl _ | assumption | (simp only [World.size_alloc, World.size_setCell, size_ext, World.heap_drewN]; omega)) _) | (with_reducible refine Below.setCell ?_ (by first | exact Nat.le_refl _ | assumption | (simp only [World.size_alloc, World.size_setCell, size_ext, World.heap_drewN]; omega)) _))) (hb.mono (by simp [go_sem] <;> omega))
          replace RA1 := Lib.hid (RA1.out.below hB)
          replace RA2 := Lib.hid (RA2.out.below hB)
          replace RB1 := Lib.hid (RB1.out.below hB)
          replace RB2 := Lib.hid (RB2.out.below hB)
          replace RC1 := Lib.hid (RC1.out.below hB)
          replace RC2 := Lib.hid (RC2.out.below hB)
          replace HVB := Lib.hid (HVB.out.trans (hB.mono HVB.out.size))
          replace Kc0 := keep_cell hB Nc Kc0
          replace Kc1 := keep_cell hB Nc Kc1
          replace Nc := Nat.lt_of_lt_of_le Nc hB.size
          replace Kb0 := keep_cell hB Nb Kb0
          replace Kb1 := keep_cell hB Nb Kb1
          replace Nb := Nat.lt_of_lt_of_le Nb hB.size
          replace Ka0 := keep_cell hB Na Ka0
          replace Ka1 := keep_cell hB Na Ka1
          replace Na := Nat.lt_of_lt_of_le Na hB.size
          clear hb hB
          go_wp2_with fail
          go_ret
          exact ⟨rfl, HVB.out⟩
        · have g1 : ¬ ((2000 : Int) < M2) := by omega
          have g2 := decide_eq_false g1
          have g3 : decide ((M2 : Int) > 2000) = false := g2
          have g4 := decide_eq_false hbig
          clear m1 m2
          go_wp2_with fail
          clear f1 f2 f2' f3 f4 f4' g1 g2 g3 g4 hbig
          go_loopw [7] (fun i wr => ∃ (op : Int), i = .int .u8 op ∧ 1 ≤ op ∧ op ≤ 5 ∧ Hid (Below W3.heap.size W3 wr)) (fun i _ => 6 - (intOf i).toNat)
          case atStart => exact ⟨1, rfl, by decide, by decide, Lib.hid (Below.refl _ _)⟩
          case round =>
          obtain ⟨op, rfl, ho1, ho2, hB⟩ := hrel
          obtain rfl | rfl | rfl | rfl | rfl : op = 1 ∨ op = 2 ∨ op = 3 ∨ op = 4 ∨ op = 5 := by omega
          · clear ho1 ho2
            replace RA1 := Lib.hid (RA1.out.below hB.out)
            replace RA2 := Lib.hid (RA2.out.below hB.out)
            replace RB1 := Lib.hid (RB1.out.below hB.out)
            replace RB2 := Lib.hid (RB2.out.below hB.out)
            replace RC1 := Lib.hid (RC1.out.below hB.out)
            replace RC2 := Lib.hid (RC2.out.below hB.out)
            replace Ka0 := keep_cell hB.out Na Ka0
            replace Ka1 := keep_cell hB.out Na Ka1
            replace Na := Nat.lt_of_lt_of_le Na hB.out.size
            replace Kb0 := keep_cell hB.out Nb Kb0
            replace Kb1 := keep_cell hB.out Nb Kb1
            replace Nb := Nat.lt_of_lt_of_le Nb hB.out.size
            replace Kc0 := keep_cell hB.out Nc Kc0
            replace Kc1 := keep_cell hB.out Nc Kc1
            replace Nc := Nat.lt_of_lt_of_le Nc hB.out.size
            replace HVB := Lib.hid (HVB.out.trans (hB.out.mono HVB.out.size))
            have HBR := Lib.hid hB.out
            clear hB
            obtain ⟨⟨x1, y1, E1⟩, hz1⟩ : ∃ r, zipF 1 a1 a2 b1 b2 = r := ⟨_, rfl⟩
            have HZ1 := Lib.hid hz1
            clear hz1
            go_wp2_with fail
            refine (zip_any1 _ _ _ _ _ a1 a2 b1 b2 x1 y1 E1 (RA1.out.below (by repeat (first | (with_reducible exact Below.refl _ _) | (with_reducible assumption) | (with_reducible refine below_drewN ?_ _) | (with_reducible refine Below.drew ?_) | (with_reducible refine below_ext_of ?_ (by first | exact Nat.le_refl _ | assumption | (simp only [World.size_alloc, World.size_setCell, size_ext, World.heap_drewN]; omega)) _ _) | (with_reducible refine Below.alloc ?_ (by first | exact Nat.le_refl _ | assumption | (simp only [World.size_alloc, World.size_setCell, size_ext, World.heap_drewN]; omega)) _) | (with_reducible refine Below.setCell ?_ (by first | exact Nat.le_refl _ | assumption | (simp only [World.size_alloc, World.size_setCell, size_ext, World.heap_drewN]; omega)) _)))) (RA2.out.below (by repeat (first | (with_reducible exact Below.refl _ _) | (with_reducible assumption) | (with_reducible refine below_drewN ?_ _) | (with_reducible refine Below.drew ?_) | (with_reducible refine below_ext_of ?_ (by first | exact Nat.le_refl _ | assumption | (simp only [World.size_alloc, World.size_setCell, size_ext, World.heap_drewN]; omega)) _ _) | (with_reducible refine Below.alloc ?_ (by first | exact Nat.le_refl _ | assumption | (simp only [World.size_alloc, World.size_setCell, size_ext, World.heap_drewN]; omega)) _) | (with_reducible refine Below.setCell ?_ (by first | exact Nat.le_refl _ | assumption | (simp only [World.size_alloc, World.size_setCell, size_ext, World.heap_drewN]; omega)) _)))) (RB1.out.below (by repeat (first | (with_reducible exact Below.refl _ _) | (with_reducible assumption) | (with_reducible refine below_drewN ?_ _) | (with_reducible refine Below.drew ?_) | (with_reducible refine below_ext_of ?_ (by first | exact Nat.le_refl _ | assumption | (simp only [World.size_alloc, World.size_setCell, size_ext, World.heap_drewN]; omega)) _ _) | (with_reducible refine Below.alloc ?_ (by first | exact Nat.le_refl _ | assumption | (simp only [World.size_alloc, World.size_setCell, size_ext, World.heap_drewN]; omega)) _) | (with_reducible refine Below.setCell ?_ (by first | exact Nat.le_refl _ | assumption | (simp only [World.size_alloc, World.size_setCell, size_ext, World.heap_drewN]; omega)) _)))) (RB2.out.below (by repeat (first | (with_reducible exact Below.refl _ _) | (with_reducible assumption) | (with_reducible refine below_drewN ?_ _) | (with_reducible refine Below.drew ?_) | (with_reducible refine below_ext_of ?_ (by first | exact Nat.le_refl _ | assumption | (simp only [World.size_alloc, World.size_setCell, size_ext, World.heap_drewN]; omega)) _ _) | (with_reducible refine Below.alloc ?_ (by first | exact Nat.le_refl _ | assumption | (simp only [World.size_alloc, World.size_setCell, size_ext, World.heap_drewN]; omega)) _) | (with_reducible refine Below.setCell ?_ (by first | exact Nat.le_refl _ | assumption | (simp only [World.size_alloc, World.size_setCell, size_ext, World.heap_drewN]; omega)) _)))) I_a1.out I_b1.out HZ1.out).mono ?_
            rintro e W1 ⟨hb, p1, s1, q1, t1, rfl, r1, r2⟩
            have hB : Below wr.heap.size wr W1 := Below.trans (by repeat (first | (with_reducible exact Below.refl _ _) | (with_reducible assumption) | (with_reducible refine below_drewN ?_ _) | (with_reducible refine Below.drew ?_) | (with_reducible refine below_ext_of ?_ (by first | exact Nat.le_refl _ | assumption | (simp only [World.size_alloc, World.size_setCell, size_ext, World.heap_drewN]; omega)) _ _) | (with_reducible refine Below.alloc ?_ (by first | exact Nat.le_refl _ | assumption | (simp only [World.size_alloc, World.size_setCell, size_ext, World.heap_drewN]; omega)) _) | (with_reducible refine Below.setCell ?_ (by first | exact Nat.le_refl _ | assumption | (simp only [World.size_alloc, World.size_setCell, size_ext, World.heap_drewN]; omega)) _))) (hb.mono (by simp [go_sem] <;> omega))
            replace RA1 := Lib.hid (RA1.out.below hB)
            replace RA2 := Lib.hid (RA2.out.below hB)
            replace RB1 := Lib.hid (RB1.out.below hB)
            replace RB2 := Lib.hid (RB2.out.below hB)
            replace RC1 := Lib.hid (RC1.out.below hB)
            replace RC2 := Lib.hid (RC2.out.below hB)
            replace HVB := Lib.hid (HVB.out.trans (hB.mono HVB.out.size))
            replace Ka0 := keep_cell hB Na Ka0
            replace Ka1 := keep_cell hB Na Ka1
            replace Na := Nat.lt_of_lt_of_le Na hB.size
            replace Kb0 := keep_cell hB Nb Kb0
            replace Kb1 := keep_cell hB Nb Kb1
            replace Nb := Nat.lt_of_lt_of_le Nb hB.size
            replace Kc0 := keep_cell hB Nc Kc0
            replace Kc1 := keep_cell hB Nc Kc1
            replace Nc := Nat.lt_of_lt_of_le Nc hB.size
            replace HBR := Lib.hid (HBR.out.trans (hB.mono HBR.out.size))
            have RX1 := Lib.hid r1
            have RX2 := Lib.hid r2
            clear r1 r2
            clear hb hB
            go_wp2_with fail
            refine (zip_swap1 _ _ _ _ _ b1 b2 a1 a2 x1 y1 E1 (RB1.out.below (by repeat (first | (with_reducible exact Below.refl _ _) | (with_reducible assumption) | (with_reducible refine below_drewN ?_ _) | (with_reducible refine Below.drew ?_) | (with_reducible refine below_ext_of ?_ (by first | exact Nat.le_refl _ | assumption | (simp only [World.size_alloc, World.size_setCell, size_ext, World.heap_drewN]; omega)) _ _) | (with_reducible refine Below.alloc ?_ (by first | exact Nat.le_refl _ | assumption | (simp only [World.size_alloc, World.size_setCell, size_ext, World.heap_drewN]; omega)) _) | (with_reducible refine Below.setCell ?_ (by first | exact Nat.le_refl _ | assumption | (simp only [World.size_alloc, World.size_setCell, size_ext, World.heap_drewN]; omega)) _)))) (RB2.out.below (by repeat (first | (with_reducible exact Below.refl _ _) | (with_reducible assumption) | (with_reducible refine below_drewN ?_ _) | (with_reducible refine Below.drew ?_) | (with_reducible refine below_ext_of ?_ (by first | exact Nat.le_refl _ | assumption | (simp only [World.size_alloc, World.size_setCell, size_ext, World.heap_drewN]; omega)) _ _) | (with_reducible refine Below.alloc ?_ (by first | exact Nat.le_refl _ | assumption | (simp only [World.size_alloc, World.size_setCell, size_ext, World.heap_drewN]; omega)) _) | (with_reducible refine Below.setCell ?_ (by first | exact Nat.le_refl _ | assumption | (simp only [World.size_alloc, World.size_setCell, size_ext, World.heap_drewN]; omega)) _)))) (RA1.out.below (by repeat (first | (with_reducible exact Below.refl _ _) | (with_reducible assumption) | (with_reducible refine below_drewN ?_ _) | (with_reducible refine Below.drew ?_) | (with_reducible refine below_ext_of ?_ (by first | exact Nat.le_refl _ | assumption | (simp only [World.size_alloc, World.size_setCell, size_ext, World.heap_drewN]; omega)) _ _) | (with_reducible refine Below.alloc ?_ (by first | exact Nat.le_refl _ | assumption | (simp only [World.size_alloc, World.size_setCell, size_ext, World.heap_drewN]; omega)) _) | (with_reducible refine Below.setCell ?_ (by first | exact Nat.le_refl _ | assumption | (simp only [World.size_alloc, World.size_setCell, size_ext, World.heap_drewN]; omega)) _)))) (RA2.out.below (by repeat (first | (with_reducible exact Below.refl _ _) | (with_reducible assumption) | (with_reducible refine below_drewN ?_ _) | (with_reducible refine Below.drew ?_) | (with_reducible refine below_ext_of ?_ (by first | exact Nat.le_refl _ | assumption | (simp only [World.size_alloc, World.size_setCell, size_ext, World.heap_drewN]; omega)) _ _) | (with_reducible refine Below.alloc ?_ (by first | exact Nat.le_refl _ | assumption | (simp only [World.size_alloc, World.size_setCell, size_ext, World.heap_drewN]; omega)) _) | (with_reducible refine Below.setCell ?_ (by first | exact Nat.le_refl _ | assumption | (simp only [World.size_alloc, World.size_setCell, size_ext, World.heap_drewN]; omega)) _)))) I_b1.out I_a1.out HZ1.out).mono ?_
            rintro e W2 ⟨hb, p2, s2, q2, t2, rfl, r1, r2⟩
            have hB : Below W1.heap.size W1 W2 := Below.trans (by repeat (first | (with_reducible exact Below.refl _ _) | (with_reducible assumption) | (with_reducible refine below_drewN ?_ _) | (with_reducible refine Below.drew ?_) | (with_reducible refine below_ext_of ?_ (by first | exact Nat.le_refl _ | assumption | (simp only [World.size_alloc, World.size_setCell, size_ext, World.heap_drewN]; omega)) _ _) | (with_reducible refine Below.alloc ?_ (by first | exact Nat.le_refl _ | assumption | (simp only [World.size_alloc, World.size_setCell, size_ext, World.heap_drewN]; omega)) _) | (with_reducible refine Below.setCell ?_ (by first | exact Nat.le_refl _ | assumption | (simp only [World.size_alloc, World.size_setCell, size_ext, World.heap_drewN]; omega)) _))) (hb.mono (by simp [go_sem] <;> omega))
            replace RA1 := Lib.hid (RA1.out.below hB)
            replace RA2 := Lib.hid (RA2.out.below hB)
            replace RB1 := Lib.hid (RB1.out.below hB)
            replace RB2 := Lib.hid (RB2.out.below hB)
            replace RC1 := Lib.hid (RC1.out.below hB)
            replace RC2 := Lib.hid (RC2.out.below hB)
            replace RX1 := Lib.hid (RX1.out.below hB)
            replace RX2 := Lib.hid (RX2.out.below hB)
            replace HVB := Lib.hid (HVB.out.trans (hB.mono HVB.out.size))
            replace Ka0 := keep_cell hB Na Ka0
            replace Ka1 := keep_cell hB Na Ka1
            replace Na := Nat.lt_of_lt_of_le Na hB.size
            replace Kb0 := keep_cell hB Nb Kb0
            replace Kb1 := keep_cell hB Nb Kb1
            replace Nb := Nat.lt_of_lt_of_le Nb hB.size
            replace Kc0 := keep_cell hB Nc Kc0
            replace Kc1 := keep_cell hB Nc Kc1
            replace Nc := Nat.lt_of_lt_of_le Nc hB.size
            have Kx0 : W2.cell? ⟨W1.heap.size, 0, none⟩ = some (.slice p1 x1.length s1) := keep_cell hb (by simp [go_sem] <;> omega) (by simp [go_sem])
            have Kx1 : W2.cell? ⟨W1.heap.size, 1, none⟩ = some (.slice q1 y1.length t1) := keep_cell hb (by simp [go_sem] <;> omega) (by simp [go_sem])
            have Nx : W1.heap.size < W2.heap.size := Nat.lt_of_lt_of_le (by simp [go_sem] <;> omega) hb.size
            replace HBR := Lib.hid (HBR.out.trans (hB.mono HBR.out.size))
            have RY1 := Lib.hid r1
            have RY2 := Lib.hid r2
            clear r1 r2
            obtain ⟨Bx, hkx⟩ : ∃ b, b = W1.heap.size := ⟨_, rfl⟩
            rw [← hkx] at Kx0 Kx1 Nx ⊢
            clear hkx
            clear hb hB
            have eEE : (E1 != E1) = false := by simp
            go_wp2_with fail
            refine (Equal_same _ _ _ _ _ x1 y1 x1 y1 (RX1.out.below (by repeat (first | (with_reducible exact Below.refl _ _) | (with_reducible assumption) | (with_reducible refine below_drewN ?_ _) | (with_reducible refine Below.drew ?_) | (with_reducible refine below_ext_of ?_ (by first | exact Nat.le_refl _ | assumption | (simp only [World.size_alloc, World.size_setCell, size_ext, World.heap_drewN]; omega)) _ _) | (with_reducible refine Below.alloc ?_ (by first | exact Nat.le_refl _ | assumption | (simp only [World.size_alloc, World.size_setCell, size_ext, World.heap_drewN]; omega)) _) | (with_reducible refine Below.setCell ?_ (by first | exact Nat.le_refl _ | assumption | (simp only [World.size_alloc, World.size_setCell, size_ext, World.heap_drewN]; omega)) _)))) (RX2.out.below (by repeat (first | (with_reducible exact Below.refl _ _) | (with_reducible assumption) | (with_reducible refine below_drewN ?_ _) | (with_reducible refine Below.drew ?_) | (with_reducible refine below_ext_of ?_ (by first | exact Nat.le_refl _ | assumption | (simp only [World.size_alloc, World.size_setCell, size_ext, World.heap_drewN]; omega)) _ _) | (with_reducible refine Below.alloc ?_ (by first | exact Nat.le_refl _ | assumption | (simp only [World.size_alloc, World.size_setCell, size_ext, World.heap_drewN]; omega)) _) | (with_reducible refine Below.setCell ?_ (by first | exact Nat.le_refl _ | assumption | (simp only [World.size_alloc, World.size_setCell, size_ext, World.heap_drewN]; omega)) _)))) (RY1.out.below (by repeat (first | (with_reducible exact Below.refl _ _) | (with_reducible assumption) | (with_reducible refine below_drewN ?_ _) | (with_reducible refine Below.drew ?_) | (with_reducible refine below_ext_of ?_ (by first | exact Nat.le_refl _ | assumption | (simp only [World.size_alloc, World.size_setCell, size_ext, World.heap_drewN]; omega)) _ _) | (with_reducible refine Below.alloc ?_ (by first | exact Nat.le_refl _ | assumption | (simp only [World.size_alloc, World.size_setCell, size_ext, World.heap_drewN]; omega)) _) | (with_reducible refine Below.setCell ?_ (by first | exact Nat.le_refl _ | assumption | (simp only [World.size_alloc, World.size_setCell, size_ext, World.heap_drewN]; omega)) _)))) (RY2.out.below (by repeat (first | (with_reducible exact Below.refl _ _) | (with_reducible assumption) | (with_reducible refine below_drewN ?_ _) | (with_reducible refine Below.drew ?_) | (with_reducible refine below_ext_of ?_ (by first | exact Nat.le_refl _ | assumption | (simp only [World.size_alloc, World.size_setCell, size_ext, World.heap_drewN]; omega)) _ _) | (with_reducible refine Below.alloc ?_ (by first | exact Nat.le_refl _ | assumption | (simp only [World.size_alloc, World.size_setCell, size_ext, World.heap_drewN]; omega)) _) | (with_reducible refine Below.setCell ?_ (by first | exact Nat.le_refl _ | assumption | (simp only [World.size_alloc, World.size_setCell, size_ext, World.heap_drewN]; omega)) _)))) rfl rfl).mono ?_
            rintro e W3 ⟨rfl, hb⟩
            have hB : Below W2.heap.size W2 W3 := Below.trans (by repeat (first | (with_reducible exact Below.refl _ _) | (with_reducible assumption) | (with_reducible refine below_drewN ?_ _) | (with_reducible refine Below.drew ?_) | (with_reducible refine below_ext_of ?_ (by first | exact Nat.le_refl _ | assumption | (simp only [World.size_alloc, World.size_setCell, size_ext, World.heap_drewN]; omega)) _ _) | (with_reducible refine Below.alloc ?_ (by first | exact Nat.le_refl _ | assumption | (simp only [World.size_alloc, World.size_setCell, size_ext, World.heap_drewN]; omega)) _) | (with_reducible refine Below.setCell ?_ (by first | exact Nat.le_refl _ | assumption | (simp only [World.size_alloc, World.size_setCell, size_ext, World.heap_drewN]; omega)) _))) (hb.mono (by simp [go_sem] <;> omega))
            replace RA1 := Lib.hid (RA1.out.below hB)
            replace RA2 := Lib.hid (RA2.out.below hB)
            replace RB1 := Lib.hid (RB1.out.below hB)
            replace RB2 := Lib.hid (RB2.out.below hB)
            replace RC1 := Lib.hid (RC1.out.below hB)
            replace RC2 := Lib.hid (RC2.out.below hB)
            replace RX1 := Lib.hid (RX1.out.below hB)
            replace RX2 := Lib.hid (RX2.out.below hB)
            replace RY1 := Lib.hid (RY1.out.below hB)
            replace RY2 := Lib.hid (RY2.out.below hB)
            replace HVB := Lib.hid (HVB.out.trans (hB.mono HVB.out.size))
            replace Ka0 := keep_cell hB Na Ka0
            replace Ka1 := keep_cell hB Na Ka1
            replace Na := Nat.lt_of_lt_of_le Na hB.size
            replace Kb0 := keep_cell hB Nb Kb0
            replace Kb1 := keep_cell hB Nb Kb1
            replace Nb := Nat.lt_of_lt_of_le Nb hB.size
            replace Kc0 := keep_cell hB Nc Kc0
            replace Kc1 := keep_cell hB Nc Kc1
            replace Nc := Nat.lt_of_lt_of_le Nc hB.size
            replace Kx0 := keep_cell hB Nx Kx0
            replace Kx1 := keep_cell hB Nx Kx1
            replace Nx := Nat.lt_of_lt_of_le Nx hB.size
            have Ky0 : W3.cell? ⟨W2.heap.size, 0, none⟩ = some (.slice p2 x1.length s2) := keep_cell hb (by simp [go_sem] <;> omega) (by simp [go_sem])
            have Ky1 : W3.cell? ⟨W2.heap.size, 1, none⟩ = some (.slice q2 y1.length t2) := keep_cell hb (by simp [go_sem] <;> omega) (by simp [go_sem])
            have Ny : W2.heap.size < W3.heap.size := Nat.lt_of_lt_of_le (by simp [go_sem] <;> omega) hb.size
            replace HBR := Lib.hid (HBR.out.trans (hB.mono HBR.out.size))
            obtain ⟨By, hky⟩ : ∃ b, b = W2.heap.size := ⟨_, rfl⟩
            rw [← hky] at Ky0 Ky1 Ny ⊢
            clear hky
            clear hb hB
            clear eEE
            obtain ⟨⟨x3, y3, E3⟩, hz3⟩ : ∃ r, zipF 1 b1 b2 c1 c2 = r := ⟨_, rfl⟩
            have HZ3 := Lib.hid hz3
            clear hz3
            go_wp2_with fail
            refine (zip_any1 _ _ _ _ _ b1 b2 c1 c2 x3 y3 E3 (RB1.out.below (by repeat (first | (with_reducible exact Below.refl _ _) | (with_reducible assumption) | (with_reducible refine below_drewN ?_ _) | (with_reducible refine Below.drew ?_) | (with_reducible refine below_ext_of ?_ (by first | exact Nat.le_refl _ | assumption | (simp only [World.size_alloc, World.size_setCell, size_ext, World.heap_drewN]; omega)) _ _) | (with_reducible refine Below.alloc ?_ (by first | exact Nat.le_refl _ | assumption | (simp only [World.size_alloc, World.size_setCell, size_ext, World.heap_drewN]; omega)) _) | (with_reducible refine Below.setCell ?_ (by first | exact Nat.le_refl _ | assumption | (simp only [World.size_alloc, World.size_setCell, size_ext, World.heap_drewN]; omega)) _)))) (RB2.out.below (by repeat (first | (with_reducible exact Below.refl _ _) | (with_reducible assumption) | (with_reducible refine below_drewN ?_ _) | (with_reducible refine Below.drew ?_) | (with_reducible refine below_ext_of ?_ (by first | exact Nat.le_refl _ | assumption | (simp only [World.size_alloc, World.size_setCell, size_ext, World.heap_drewN]; omega)) _ _) | (with_reducible refine Below.alloc ?_ (by first | exact Nat.le_refl _ | assumption | (simp only [World.size_alloc, World.size_setCell, size_ext, World.heap_drewN]; omega)) _) | (with_reducible refine Below.setCell ?_ (by first | exact Nat.le_refl _ | assumption | (simp only [World.size_alloc, World.size_setCell, size_ext, World.heap_drewN]; omega)) _)))) (RC1.out.below (by repeat (first | (with_reducible exact Below.refl _ _) | (with_reducible assumption) | (with_reducible refine below_drewN ?_ _) | (with_reducible refine Below.drew ?_) | (with_reducible refine below_ext_of ?_ (by first | exact Nat.le_refl _ | assumption | (simp only [World.size_alloc, World.size_setCell, size_ext, World.heap_drewN]; omega)) _ _) | (with_reducible refine Below.alloc ?_ (by first | exact Nat.le_refl _ | assumption | (simp only [World.size_alloc, World.size_setCell, size_ext, World.heap_drewN]; omega)) _) | (with_reducible refine Below.setCell ?_ (by first | exact Nat.le_refl _ | assumption | (simp only [World.size_alloc, World.size_setCell, size_ext, World.heap_drewN]; omega)) _)))) (RC2.out.below (by repeat (first | (with_reducible exact Below.refl _ _) | (with_reducible assumption) | (with_reducible refine below_drewN ?_ _) | (with_reducible refine Below.drew ?_) | (with_reducible refine below_ext_of ?_ (by first | exact Nat.le_refl _ | assumption | (simp only [World.size_alloc, World.size_setCell, size_ext, World.heap_drewN]; omega)) _ _) | (with_reducible refine Below.alloc ?_ (by first | exact Nat.le_refl _ | assumption | (simp only [World.size_alloc, World.size_setCell, size_ext, World.heap_drewN]; omega)) _) | (with_reducible refine Below.setCell ?_ (by first | exact Nat.le_refl _ | assumption | (simp only [World.size_alloc, World.size_setCell, size_ext, World.heap_drewN]; omega)) _)))) I_b1.out I_c1.out HZ3.out).mono ?_
            rintro e W4 ⟨hb, p3, s3, q3, t3, rfl, r1, r2⟩
            have hB : Below W3.heap.size W3 W4 := Below.trans (by repeat (first | (with_reducible exact Below.refl _ _) | (with_reducible assumption) | (with_reducible refine below_drewN ?_ _) | (with_reducible refine Below.drew ?_) | (with_reducible refine below_ext_of ?_ (by first | exact Nat.le_refl _ | assumption | (simp only [World.size_alloc, World.size_setCell, size_ext, World.heap_drewN]; omega)) _ _) | (with_reducible refine Below.alloc ?_ (by first | exact Nat.le_refl _ | assumption | (simp only [World.size_alloc, World.size_setCell, size_ext, World.heap_drewN]; omega)) _) | (with_reducible refine Below.setCell ?_ (by first | exact Nat.le_refl _ | assumption | (simp only [World.size_alloc, World.size_setCell, size_ext, World.heap_drewN]; omega)) _))) (hb.mono (by simp [go_sem] <;> omega))
            replace RA1 := Lib.hid (RA1.out.below hB)
            replace RA2 := Lib.hid (RA2.out.below hB)
            replace RB1 := Lib.hid (RB1.out.below hB)
            replace RB2 := Lib.hid (RB2.out.below hB)
            replace RC1 := Lib.hid (RC1.out.below hB)
            replace RC2 := Lib.hid (RC2.out.below hB)
            replace RX1 := Lib.hid (RX1.out.below hB)
            replace RX2 := Lib.hid (RX2.out.below hB)
            replace RY1 := Lib.hid (RY1.out.below hB)
            replace RY2 := Lib.hid (RY2.out.below hB)
            replace HVB := Lib.hid (HVB.out.trans (hB.mono HVB.out.size))
            replace Ka0 := keep_cell hB Na Ka0
            replace Ka1 := keep_cell hB Na Ka1
            replace Na := Nat.lt_of_lt_of_le Na hB.size
            replace Kb0 := keep_cell hB Nb Kb0
            replace Kb1 := keep_cell hB Nb Kb1
            replace Nb := Nat.lt_of_lt_of_le Nb hB.size
            replace Kc0 := keep_cell hB Nc Kc0
            replace Kc1 := keep_cell hB Nc Kc1
            replace Nc := Nat.lt_of_lt_of_le Nc hB.size
            replace Kx0 := keep_cell hB Nx Kx0
            replace Kx1 := keep_cell hB Nx Kx1
            replace Nx := Nat.lt_of_lt_of_le Nx hB.size
            replace Ky0 := keep_cell hB Ny Ky0
            replace Ky1 := keep_cell hB Ny Ky1
            replace Ny := Nat.lt_of_lt_of_le Ny hB.size
            replace HBR := Lib.hid (HBR.out.trans (hB.mono HBR.out.size))
            have RZ1 := Lib.hid r1
            have RZ2 := Lib.hid r2
            clear r1 r2
            clear hb hB
            by_cases hE1 : E1 = 0
            · subst hE1
              by_cases hE3 : E3 = 0
              · subst hE3
                have I_x1 := Lib.hid (in64W_zip (op := 1) (by decide) I_a1.out I_b1.out HZ1.out)
                have I_x3 := Lib.hid (in64W_zip (op := 1) (by decide) I_b1.out I_c1.out HZ3.out)
                obtain ⟨⟨x4, y4, E4⟩, hz4⟩ : ∃ r, zipF 1 x1 y1 c1 c2 = r := ⟨_, rfl⟩
                have HZ4 := Lib.hid hz4
                clear hz4
                obtain ⟨⟨x5, y5, E5⟩, hz5⟩ : ∃ r, zipF 1 a1 a2 x3 y3 = r := ⟨_, rfl⟩
                have HZ5 := Lib.hid hz5
                clear hz5
                go_wp2_with fail
                refine (zip_any1 _ _ _ _ _ x1 y1 c1 c2 x4 y4 E4 (RX1.out.below (by repeat (first | (with_reducible exact Below.refl _ _) | (with_reducible assumption) | (with_reducible refine below_drewN ?_ _) | (with_reducible refine Below.drew ?_) | (with_reducible refine below_ext_of ?_ (by first | exact Nat.le_refl _ | assumption | (simp only [World.size_alloc, World.size_setCell, size_ext, World.heap_drewN]; omega)) _ _) | (with_reducible refine Below.alloc ?_ (by first | exact Nat.le_refl _ | assumption | (simp only [World.size_alloc, World.size_setCell, size_ext, World.heap_drewN]; omega)) _) | (with_reducible refine Below.setCell ?_ (by first | exact Nat.le_refl _ | assumption | (simp only [World.size_alloc, World.size_setCell, size_ext, World.heap_drewN]; omega)) _)))) (RX2.out.below (by repeat (first | (with_reducible exact Below.refl _ _) | (with_reducible assumption) | (with_reducible refine below_drewN ?_ _) | (with_reducible refine Below.drew ?_) | (with_reducible refine below_ext_of ?_ (by first | exact Nat.le_refl _ | assumption | (simp only [World.size_alloc, World.size_setCell, size_ext, World.heap_drewN]; omega)) _ _) | (with_reducible refine Below.alloc ?_ (by first | exact Nat.le_refl _ | assumption | (simp only [World.size_alloc, World.size_setCell, size_ext, World.heap_drewN]; omega)) _) | (with_reducible refine Below.setCell ?_ (by first | exact Nat.le_refl _ | assumption | (simp only [World.size_alloc, World.size_setCell, size_ext, World.heap_drewN]; omega)) _)))) (RC1.out.below (by repeat (first | (with_reducible exact Below.refl _ _) | (with_reducible assumption) | (with_reducible refine below_drewN ?_ _) | (with_reducible refine Below.drew ?_) | (with_reducible refine below_ext_of ?_ (by first | exact Nat.le_refl _ | assumption | (simp only [World.size_alloc, World.size_setCell, size_ext, World.heap_drewN]; omega)) _ _) | (with_reducible refine Below.alloc ?_ (by first | exact Nat.le_refl _ | assumption | (simp only [World.size_alloc, World.size_setCell, size_ext, World.heap_drewN]; omega)) _) | (with_reducible refine Below.setCell ?_ (by first | exact Nat.le_refl _ | assumption | (simp only [World.size_alloc, World.size_setCell, size_ext, World.heap_drewN]; omega)) _)))) (RC2.out.below (by repeat (first | (with_reducible exact Below.refl _ _) | (with_reducible assumption) | (with_reducible refine below_drewN ?_ _) | (with_reducible refine Below.drew ?_) | (with_reducible refine below_ext_of ?_ (by first | exact Nat.le_refl _ | assumption | (simp only [World.size_alloc, World.size_setCell, size_ext, World.heap_drewN]; omega)) _ _) | (with_reducible refine Below.alloc ?_ (by first | exact Nat.le_refl _ | assumption | (simp only [World.size_alloc, World.size_setCell, size_ext, World.heap_drewN]; omega)) _) | (with_reducible refine Below.setCell ?_ (by first | exact Nat.le_refl _ | assumption | (simp only [World.size_alloc, World.size_setCell, size_ext, World.heap_drewN]; omega)) _)))) I_x1.out I_c1.out HZ4.out).mono ?_
                rintro e W5 ⟨hb, p4, s4, q4, t4, rfl, r1, r2⟩
                have hB : Below W4.heap.size W4 W5 := Below.trans (by repeat (first | (with_reducible exact Below.refl _ _) | (with_reducible assumption) | (with_reducible refine below_drewN ?_ _) | (with_reducible refine Below.drew ?_) | (with_reducible refine below_ext_of ?_ (by first | exact Nat.le_refl _ | assumption | (simp only [World.size_alloc, World.size_setCell, size_ext, World.heap_drewN]; omega)) _ _) | (with_reducible refine Below.alloc ?_ (by first | exact Nat.le_refl _ | assumption | (simp only [World.size_alloc, World.size_setCell, size_ext, World.heap_drewN]; omega)) _) | (with_reducible refine Below.setCell ?_ (by first | exact Nat.le_refl _ | assumption | (simp only [World.size_alloc, World.size_setCell, size_ext, World.heap_drewN]; omega)) _))) (hb.mono (by simp [go_sem] <;> omega))
                replace RA1 := Lib.hid (RA1.out.below hB)
                replace RA2 := Lib.hid (RA2.out.below hB)
                replace RB1 := Lib.hid (RB1.out.below hB)
                replace RB2 := Lib.hid (RB2.out.below hB)
                replace RC1 := Lib.hid (RC1.out.below hB)
                replace RC2 := Lib.hid (RC2.out.below hB)
                replace RX1 := Lib.hid (RX1.out.below hB)
                replace RX2 := Lib.hid (RX2.out.below hB)
                replace RY1 := Lib.hid (RY1.out.below hB)
                replace RY2 := Lib.hid (RY2.out.below hB)
                replace RZ1 := Lib.hid (RZ1.out.below hB)
                replace RZ2 := Lib.hid (RZ2.out.below hB)
                replace HVB := Lib.hid (HVB.out.trans (hB.mono HVB.out.size))
                replace Ka0 := keep_cell hB Na Ka0
                replace Ka1 := keep_cell hB Na Ka1
                replace Na := Nat.lt_of_lt_of_le Na hB.size
                replace Kb0 := keep_cell hB Nb Kb0
                replace Kb1 := keep_cell hB Nb Kb1
                replace Nb := Nat.lt_of_lt_of_le Nb hB.size
                replace Kc0 := keep_cell hB Nc Kc0
                replace Kc1 := keep_cell hB Nc Kc1
                replace Nc := Nat.lt_of_lt_of_le Nc hB.size
                replace Kx0 := keep_cell hB Nx Kx0
                replace Kx1 := keep_cell hB Nx Kx1
                replace Nx := Nat.lt_of_lt_of_le Nx hB.size
                replace Ky0 := keep_cell hB Ny Ky0
                replace Ky1 := keep_cell hB Ny Ky1
                replace Ny := Nat.lt_of_lt_of_le Ny hB.size
                have Kz0 : W5.cell? ⟨W4.heap.size, 0, none⟩ = some (.slice p3 x3.length s3) := keep_cell hb (by simp [go_sem] <;> omega) (by simp [go_sem])
                have Kz1 : W5.cell? ⟨W4.heap.size, 1, none⟩ = some (.slice q3 y3.length t3) := keep_cell hb (by simp [go_sem] <;> omega) (by simp [go_sem])
                have Nz : W4.heap.size < W5.heap.size := Nat.lt_of_lt_of_le (by simp [go_sem] <;> omega) hb.size
                replace HBR := Lib.hid (HBR.out.trans (hB.mono HBR.out.size))
                have RP1 := Lib.hid r1
                have RP2 := Lib.hid r2
                clear r1 r2
                obtain ⟨Bz, hkz⟩ : ∃ b, b = W4.heap.size := ⟨_, rfl⟩
                rw [← hkz] at Kz0 Kz1 Nz ⊢
                clear hkz
                clear hb hB
                go_wp2_with fail
                refine (zip_any1 _ _ _ _ _ a1 a2 x3 y3 x5 y5 E5 (RA1.out.below (by repeat (first | (with_reducible exact Below.refl _ _) | (with_reducible assumption) | (with_reducible refine below_drewN ?_ _) | (with_reducible refine Below.drew ?_) | (with_reducible refine below_ext_of ?_ (by first | exact Nat.le_refl _ | assumption | (simp only [World.size_alloc, World.size_setCell, size_ext, World.heap_drewN]; omega)) _ _) | (with_reducible refine Below.alloc ?_ (by first | exact Nat.le_refl _ | assumption | (simp only [World.size_alloc, World.size_setCell, size_ext, World.heap_drewN]; omega)) _) | (with_reducible refine Below.setCell ?_ (by first | exact Nat.le_refl _ | assumption | (simp only [World.size_alloc, World.size_setCell, size_ext, World.heap_drewN]; omega)) _)))) (RA2.out.below (by repeat (first | (with_reducible exact Below.refl _ _) | (with_reducible assumption) | (with_reducible refine below_drewN ?_ _) | (with_reducible refine Below.drew ?_) | (with_reducible refine below_ext_of ?_ (by first | exact Nat.le_refl _ | assumption | (simp only [World.size_alloc, World.size_setCell, size_ext, World.heap_drewN]; omega)) _ _) | (with_reducible refine Below.alloc ?_ (by first | exact Nat.le_refl _ | assumption | (simp only [World.size_alloc, World.size_setCell, size_ext, World.heap_drewN]; omega)) _) | (with_reducible refine Below.setCell ?_ (by first | exact Nat.le_refl _ | assumption | (simp only [World.size_alloc, World.size_setCell, size_ext, World.heap_drewN]; omega)) _)))) (RZ1.out.below (by repeat (first | (with_reducible exact Below.refl _ _) | (with_reducible assumption) | (with_reducible refine below_drewN ?_ _) | (with_reducible refine Below.drew ?_) | (with_reducible refine below_ext_of ?_ (by first | exact Nat.le_refl _ | assumption | (simp only [World.size_alloc, World.size_setCell, size_ext, World.heap_drewN]; omega)) _ _) | (with_reducible refine Below.alloc ?_ (by first | exact Nat.le_refl _ | assumption | (simp only [World.size_alloc, World.size_setCell, size_ext, World.heap_drewN]; omega)) _) | (with_reducible refine Below.setCell ?_ (by first | exact Nat.le_refl _ | assumption | (simp only [World.size_alloc, World.size_setCell, size_ext, World.heap_drewN]; omega)) _)))) (RZ2.out.below (by repeat (first | (with_reducible exact Below.refl _ _) | (with_reducible assumption) | (with_reducible refine below_drewN ?_ _) | (with_reducible refine Below.drew ?_) | (with_reducible refine below_ext_of ?_ (by first | exact Nat.le_refl _ | assumption | (simp only [World.size_alloc, World.size_setCell, size_ext, World.heap_drewN]; omega)) _ _) | (with_reducible refine Below.alloc ?_ (by first | exact Nat.le_refl _ | assumption | (simp only [World.size_alloc, World.size_setCell, size_ext, World.heap_drewN]; omega)) _) | (with_reducible refine Below.setCell ?_ (by first | exact Nat.le_refl _ | assumption | (simp only [World.size_alloc, World.size_setCell, size_ext, World.heap_drewN]; omega)) _)))) I_a1.out I_x3.out HZ5.out).mono ?_
                rintro e W6 ⟨hb, p5, s5, q5, t5, rfl, r1, r2⟩
                have hB : Below W5.heap.size W5 W6 := Below.trans (by repeat (first | (with_reducible exact Below.refl _ _) | (with_reducible assumption) | (with_reducible refine below_drewN ?_ _) | (with_reducible refine Below.drew ?_) | (with_reducible refine below_ext_of ?_ (by first | exact Nat.le_refl _ | assumption | (simp only [World.size_alloc, World.size_setCell, size_ext, World.heap_drewN]; omega)) _ _) | (with_reducible refine Below.alloc ?_ (by first | exact Nat.le_refl _ | assumption | (simp only [World.size_alloc, World.size_setCell, size_ext, World.heap_drewN]; omega)) _) | (with_reducible refine Below.setCell ?_ (by first | exact Nat.le_refl _ | assumption | (simp only [World.size_alloc, World.size_setCell, size_ext, World.heap_drewN]; omega)) _))) (hb.mono (by simp [go_sem] <;> omega))
                replace RA1 := Lib.hid (RA1.out.below hB)
                replace RA2 := Lib.hid (RA2.out.below hB)
                replace RB1 := Lib.hid (RB1.out.below hB)
                replace RB2 := Lib.hid (RB2.out.below hB)
                replace RC1 := Lib.hid (RC1.out.below hB)
                replace RC2 := Lib.hid (RC2.out.below hB)
                replace RX1 := Lib.hid (RX1.out.below hB)
                replace RX2 := Lib.hid (RX2.out.below hB)
                replace RY1 := Lib.hid (RY1.out.below hB)
                replace RY2 := Lib.hid (RY2.out.below hB)
                replace RZ1 := Lib.hid (RZ1.out.below hB)
                replace RZ2 := Lib.hid (RZ2.out.below hB)
                replace RP1 := Lib.hid (RP1.out.below hB)
                replace RP2 := Lib.hid (RP2.out.below hB)
                replace HVB := Lib.hid (HVB.out.trans (hB.mono HVB.out.size))
                replace Ka0 := keep_cell hB Na Ka0
                replace Ka1 := keep_cell hB Na Ka1
                replace Na := Nat.lt_of_lt_of_le Na hB.size
                replace Kb0 := keep_cell hB Nb Kb0
                replace Kb1 := keep_cell hB Nb Kb1
                replace Nb := Nat.lt_of_lt_of_le Nb hB.size
                replace Kc0 := keep_cell hB Nc Kc0
                replace Kc1 := keep_cell hB Nc Kc1
                replace Nc := Nat.lt_of_lt_of_le Nc hB.size
                replace Kx0 := keep_cell hB Nx Kx0
                replace Kx1 := keep_cell hB Nx Kx1
                replace Nx := Nat.lt_of_lt_of_le Nx hB.size
                replace Ky0 := keep_cell hB Ny Ky0
                replace Ky1 := keep_cell hB Ny Ky1
                replace Ny := Nat.lt_of_lt_of_le Ny hB.size
                replace Kz0 := keep_cell hB Nz Kz0
                replace Kz1 := keep_cell hB Nz Kz1
                replace Nz := Nat.lt_of_lt_of_le Nz hB.size
                have Kp0 : W6.cell? ⟨W5.heap.size, 0, none⟩ = some (.slice p4 x4.length s4) := keep_cell hb (by simp [go_sem] <;> omega) (by simp [go_sem])
                have Kp1 : W6.cell? ⟨W5.heap.size, 1, none⟩ = some (.slice q4 y4.length t4) := keep_cell hb (by simp [go_sem] <;> omega) (by simp [go_sem])
                have Np : W5.heap.size < W6.heap.size := Nat.lt_of_lt_of_le (by simp [go_sem] <;> omega) hb.size
                replace HBR := Lib.hid (HBR.out.trans (hB.mono HBR.out.size))
                have RQ1 := Lib.hid r1
                have RQ2 := Lib.hid r2
                clear r1 r2
                obtain ⟨Bp, hkp⟩ : ∃ b, b = W5.heap.size := ⟨_, rfl⟩
                rw [← hkp] at Kp0 Kp1 Np ⊢
                clear hkp
                clear hb hB
                by_cases hE4 : E4 = 0
                · subst hE4
                  by_cases hE5 : E5 = 0
                  · subst hE5
                    have hass := zip_assoc (op := 1) (by decide) (a := a1) (b := a2) (c := b1) (d := b2) (e := c1) (f := c2) (by rw [HZ1.out]) (by rw [HZ3.out]) (by rw [HZ1.out]; show (zipF 1 x1 y1 c1 c2).2.2 = 0; rw [HZ4.out]) (by rw [HZ3.out]; show (zipF 1 a1 a2 x3 y3).2.2 = 0; rw [HZ5.out])
                    rw [HZ1.out, HZ3.out] at hass
                    have HAS : Hid (x4 = x5 ∧ y4 = y5) := Lib.hid (by
                      have h := hass
                      simp only at h
                      rw [HZ4.out, HZ5.out] at h
                      exact h)
                    clear hass
                    go_wp2_with fail
                    refine (Equal_same _ _ _ _ _ x4 y4 x5 y5 (RP1.out.below (by repeat (first | (with_reducible exact Below.refl _ _) | (with_reducible assumption) | (with_reducible refine below_drewN ?_ _) | (with_reducible refine Below.drew ?_) | (with_reducible refine below_ext_of ?_ (by first | exact Nat.le_refl _ | assumption | (simp only [World.size_alloc, World.size_setCell, size_ext, World.heap_drewN]; omega)) _ _) | (with_reducible refine Below.alloc ?_ (by first | exact Nat.le_refl _ | assumption | (simp only [World.size_alloc, World.size_setCell, size_ext, World.heap_drewN]; omega)) _) | (with_reducible refine Below.setCell ?_ (by first | exact Nat.le_refl _ | assumption | (simp only [World.size_alloc, World.size_setCell, size_ext, World.heap_drewN]; omega)) _)))) (RP2.out.below (by repeat (first | (with_reducible exact Below.refl _ _) | (with_reducible assumption) | (with_reducible refine below_drewN ?_ _) | (with_reducible refine Below.drew ?_) | (with_reducible refine below_ext_of ?_ (by first | exact Nat.le_refl _ | assumption | (simp only [World.size_alloc, World.size_setCell, size_ext, World.heap_drewN]; omega)) _ _) | (with_reducible refine Below.alloc ?_ (by first | exact Nat.le_refl _ | assumption | (simp only [World.size_alloc, World.size_setCell, size_ext, World.heap_drewN]; omega)) _) | (with_reducible refine Below.setCell ?_ (by first | exact Nat.le_refl _ | assumption | (simp only [World.size_alloc, World.size_setCell, size_ext, World.heap_drewN]; omega)) _)))) (RQ1.out.below (by repeat (first | (with_reducible exact Below.refl _ _) | (with_reducible assumption) | (with_reducible refine below_drewN ?_ _) | (with_reducible refine Below.drew ?_) | (with_reducible refine below_ext_of ?_ (by first | exact Nat.le_refl _ | assumption | (simp only [World.size_alloc, World.size_setCell, size_ext, World.heap_drewN]; omega)) _ _) | (with_reducible refine Below.alloc ?_ (by first | exact Nat.le_refl _ | assumption | (simp only [World.size_alloc, World.size_setCell, size_ext, World.heap_drewN]; omega)) _) | (with_reducible refine Below.setCell ?_ (by first | exact Nat.le_refl _ | assumption | (simp only [World.size_alloc, World.size_setCell, size_ext, World.heap_drewN]; omega)) _)))) (RQ2.out.below (by repeat (first | (with_reducible exact Below.refl _ _) | (with_reducible assumption) | (with_reducible refine below_drewN ?_ _) | (with_reducible refine Below.drew ?_) | (with_reducible refine below_ext_of ?_ (by first | exact Nat.le_refl _ | assumption | (simp only [World.size_alloc, World.size_setCell, size_ext, World.heap_drewN]; omega)) _ _) | (with_reducible refine Below.alloc ?_ (by first | exact Nat.le_refl _ | assumption | (simp only [World.size_alloc, World.size_setCell, size_ext, World.heap_drewN]; omega)) _) | (with_reducible refine Below.setCell ?_ (by first | exact Nat.le_refl _ | assumption | (simp only [World.size_alloc, World.size_setCell, size_ext, World.heap_drewN]; omega)) _)))) HAS.out.1 HAS.out.2).mono ?_
                    rintro e W7 ⟨rfl, hb⟩
                    have hB : Below W6.heap.size W6 W7 := Below.trans (by repeat (first | (with_reducible exact Below.refl _ _) | (with_reducible assumption) | (with_reducible refine below_drewN ?_ _) | (with_reducible refine Below.drew ?_) | (with_reducible refine below_ext_of ?_ (by first | exact Nat.le_refl _ | assumption | (simp only [World.size_alloc, World.size_setCell, size_ext, World.heap_drewN]; omega)) _ _) | (with_reducible refine Below.alloc ?_ (by first | exact Nat.le_refl _ | assumption | (simp only [World.size_alloc, World.size_setCell, size_ext, World.heap_drewN]; omega)) _) | (with_reducible refine Below.setCell ?_ (by first | exact Nat.le_refl _ | assumption | (simp only [World.size_alloc, World.size_setCell, size_ext, World.heap_drewN]; omega)) _))) (hb.mono (by simp [go_sem] <;> omega))
                    replace RA1 := Lib.hid (RA1.out.below hB)
                    replace RA2 := Lib.hid (RA2.out.below hB)
                    replace RB1 := Lib.hid (RB1.out.below hB)
                    replace RB2 := Lib.hid (RB2.out.below hB)
                    replace RC1 := Lib.hid (RC1.out.below hB)
                    replace RC2 := Lib.hid (RC2.out.below hB)
                    replace RX1 := Lib.hid (RX1.out.below hB)
                    replace RX2 := Lib.hid (RX2.out.below hB)
                    replace RY1 := Lib.hid (RY1.out.below hB)
                    replace RY2 := Lib.hid (RY2.out.below hB)
                    replace RZ1 := Lib.hid (RZ1.out.below hB)
                    replace RZ2 := Lib.hid (RZ2.out.below hB)
                    replace RP1 := Lib.hid (RP1.out.below hB)
                    replace RP2 := Lib.hid (RP2.out.below hB)
                    replace RQ1 := Lib.hid (RQ1.out.below hB)
                    replace RQ2 := Lib.hid (RQ2.out.below hB)
                    replace HVB := Lib.hid (HVB.out.trans (hB.mono HVB.out.size))
                    replace Ka0 := keep_cell hB Na Ka0
                    replace Ka1 := keep_cell hB Na Ka1
                    replace Na := Nat.lt_of_lt_of_le Na hB.size
                    replace Kb0 := keep_cell hB Nb Kb0
                    replace Kb1 := keep_cell hB Nb Kb1
                    replace Nb := Nat.lt_of_lt_of_le Nb hB.size
                    replace Kc0 := keep_cell hB Nc Kc0
                    replace Kc1 := keep_cell hB Nc Kc1
                    replace Nc := Nat.lt_of_lt_of_le Nc hB.size
                    replace Kx0 := keep_cell hB Nx Kx0
                    replace Kx1 := keep_cell hB Nx Kx1
                    replace Nx := Nat.lt_of_lt_of_le Nx hB.size
                    replace Ky0 := keep_cell hB Ny Ky0
                    replace Ky1 := keep_cell hB Ny Ky1
                    replace Ny := Nat.lt_of_lt_of_le Ny hB.size
                    replace Kz0 := keep_cell hB Nz Kz0
                    replace Kz1 := keep_cell hB Nz Kz1
                    replace Nz := Nat.lt_of_lt_of_le Nz hB.size
                    replace Kp0 := keep_cell hB Np Kp0
                    replace Kp1 := keep_cell hB Np Kp1
                    replace Np := Nat.lt_of_lt_of_le Np hB.size
                    have Kq0 : W7.cell? ⟨W6.heap.size, 0, none⟩ = some (.slice p5 x5.length s5) := keep_cell hb (by simp [go_sem] <;> omega) (by simp [go_sem])
                    have Kq1 : W7.cell? ⟨W6.heap.size, 1, none⟩ = some (.slice q5 y5.length t5) := keep_cell hb (by simp [go_sem] <;> omega) (by simp [go_sem])
                    have Nq : W6.heap.size < W7.heap.size := Nat.lt_of_lt_of_le (by simp [go_sem] <;> omega) hb.size
                    replace HBR := Lib.hid (HBR.out.trans (hB.mono HBR.out.size))
                    obtain ⟨Bq, hkq⟩ : ∃ b, b = W6.heap.size := ⟨_, rfl⟩
                    rw [← hkq] at Kq0 Kq1 Nq ⊢
                    clear hkq
                    clear hb hB
                    go_wp2_with fail
                    go_roundw
                    case measure => decide
                    case rel => exact ⟨2, rfl, by decide, by decide, Lib.hid (HBR.out.trans (Below.mono (by repeat (first | (with_reducible exact Below.refl _ _) | (with_reducible assumption) | (with_reducible refine below_drewN ?_ _) | (with_reducible refine Below.drew ?_) | (with_reducible refine below_ext_of ?_ (by first | exact Nat.le_refl _ | assumption | (simp only [World.size_alloc, World.size_setCell, size_ext, World.heap_drewN]; omega)) _ _) | (with_reducible refine Below.alloc ?_ (by first | exact Nat.le_refl _ | assumption | (simp only [World.size_alloc, World.size_setCell, size_ext, World.heap_drewN]; omega)) _) | (with_reducible refine Below.setCell ?_ (by first | exact Nat.le_refl _ | assumption | (simp only [World.size_alloc, World.size_setCell, size_ext, World.heap_drewN]; omega)) _))) HBR.out.size))⟩
                  · have e5a : (E5 != 0) = true := bne_iff_ne.2 hE5
                    have e5b : (E5 == 0) = false := beq_false_of_ne hE5
                    clear hE5
                    go_wp2_with fail
                    go_roundw
                    case measure => decide
                    case rel => exact ⟨2, rfl, by decide, by decide, Lib.hid (HBR.out.trans (Below.mono (by repeat (first | (with_reducible exact Below.refl _ _) | (with_reducible assumption) | (with_reducible refine below_drewN ?_ _) | (with_reducible refine Below.drew ?_) | (with_reducible refine below_ext_of ?_ (by first | exact Nat.le_refl _ | assumption | (simp only [World.size_alloc, World.size_setCell, size_ext, World.heap_drewN]; omega)) _ _) | (with_reducible refine Below.alloc ?_ (by first | exact Nat.le_refl _ | assumption | (simp only [World.size_alloc, World.size_setCell, size_ext, World.heap_drewN]; omega)) _) | (with_reducible refine Below.setCell ?_ (by first | exact Nat.le_refl _ | assumption | (simp only [World.size_alloc, World.size_setCell, size_ext, World.heap_drewN]; omega)) _))) HBR.out.size))⟩
                · have e4a : (E4 != 0) = true := bne_iff_ne.2 hE4
                  have e4b : (E4 == 0) = false := beq_false_of_ne hE4
                  clear hE4
                  go_wp2_with fail
                  go_roundw
                  case measure => decide
                  case rel => exact ⟨2, rfl, by decide, by decide, Lib.hid (HBR.out.trans (Below.mono (by repeat (first | (with_reducible exact Below.refl _ _) | (with_reducible assumption) | (with_reducible refine below_drewN ?_ _) | (with_reducible refine Below.drew ?_) | (with_reducible refine below_ext_of ?_ (by first | exact Nat.le_refl _ | assumption | (simp only [World.size_alloc, World.size_setCell, size_ext, World.heap_drewN]; omega)) _ _) | (with_reducible refine Below.alloc ?_ (by first | exact Nat.le_refl _ | assumption | (simp only [World.size_alloc, World.size_setCell, size_ext, World.heap_drewN]; omega)) _) | (with_reducible refine Below.setCell ?_ (by first | exact Nat.le_refl _ | assumption | (simp only [World.size_alloc, World.size_setCell, size_ext, World.heap_drewN]; omega)) _))) HBR.out.size))⟩
              · have e3a : (E3 != 0) = true := bne_iff_ne.2 hE3
                have e3b : (E3 == 0) = false := beq_false_of_ne hE3
                clear hE3
                go_wp2_with fail
                go_roundw
                case measure => decide
                case rel => exact ⟨2, rfl, by decide, by decide, Lib.hid (HBR.out.trans (Below.mono (by repeat (first | (with_reducible exact Below.refl _ _) | (with_reducible assumption) | (with_reducible refine below_drewN ?_ _) | (with_reducible refine Below.drew ?_) | (with_reducible refine below_ext_of ?_ (by first | exact Nat.le_refl _ | assumption | (simp only [World.size_alloc, World.size_setCell, size_ext, World.heap_drewN]; omega)) _ _) | (with_reducible refine Below.alloc ?_ (by first | exact Nat.le_refl _ | assumption | (simp only [World.size_alloc, World.size_setCell, size_ext, World.heap_drewN]; omega)) _) | (with_reducible refine Below.setCell ?_ (by first | exact Nat.le_refl _ | assumption | (simp only [World.size_alloc, World.size_setCell, size_ext, World.heap_drewN]; omega)) _))) HBR.out.size))⟩
            · have e1a : (E1 != 0) = true := bne_iff_ne.2 hE1
              have e1b : (E1 == 0) = false := beq_false_of_ne hE1
              clear hE1
              go_wp2_with fail
              go_roundw
              case measure => decide
              case rel => exact ⟨2, rfl, by decide, by decide, Lib.hid (HBR.out.trans (Below.mono (by repeat (first | (with_reducible exact Below.refl _ _) | (with_reducible assumption) | (with_reducible refine below_drewN ?_ _) | (with_reducible refine Below.drew ?_) | (with_reducible refine below_ext_of ?_ (by first | exact Nat.le_refl _ | assumption | (simp only [World.size_alloc, World.size_setCell, size_ext, World.heap_drewN]; omega)) _ _) | (with_reducible refine Below.alloc ?_ (by first | exact Nat.le_refl _ | assumption | (simp only [World.size_alloc, World.size_setCell, size_ext, World.heap_drewN]; omega)) _) | (with_reducible refine Below.setCell ?_ (by first | exact Nat.le_refl _ | assumption | (simp only [World.size_alloc, World.size_setCell, size_ext, World.heap_drewN]; omega)) _))) HBR.out.size))⟩
          · clear ho1 ho2
            replace RA1 := Lib.hid (RA1.out.below hB.out)
            replace RA2 := Lib.hid (RA2.out.below hB.out)
            replace RB1 := Lib.hid (RB1.out.below hB.out)
            replace RB2 := Lib.hid (RB2.out.below hB.out)
            replace RC1 := Lib.hid (RC1.out.below hB.out)
            replace RC2 := Lib.hid (RC2.out.below hB.out)
            replace Ka0 := keep_cell hB.out Na Ka0
            replace Ka1 := keep_cell hB.out Na Ka1
            replace Na := Nat.lt_of_lt_of_le Na hB.out.size
            replace Kb0 := keep_cell hB.out Nb Kb0
            replace Kb1 := keep_cell hB.out Nb Kb1
            replace Nb := Nat.lt_of_lt_of_le Nb hB.out.size
            replace Kc0 := keep_cell hB.out Nc Kc0
            replace Kc1 := keep_cell hB.out Nc Kc1
            replace Nc := Nat.lt_of_lt_of_le Nc hB.out.size
            replace HVB := Lib.hid (HVB.out.trans (hB.out.mono HVB.out.size))
            have HBR := Lib.hid hB.out
            clear hB
            obtain ⟨⟨x1, y1, E1⟩, hz1⟩ : ∃ r, zipF 2 a1 a2 b1 b2 = r := ⟨_, rfl⟩
            have HZ1 := Lib.hid hz1
            clear hz1
            go_wp2_with fail
            refine (zip_any2 _ _ _ _ _ a1 a2 b1 b2 x1 y1 E1 (RA1.out.below (by repeat (first | (with_reducible exact Below.refl _ _) | (with_reducible assumption) | (with_reducible refine below_drewN ?_ _) | (with_reducible refine Below.drew ?_) | (with_reducible refine below_ext_of ?_ (by first | exact Nat.le_refl _ | assumption | (simp only [World.size_alloc, World.size_setCell, size_ext, World.heap_drewN]; omega)) _ _) | (with_reducible refine Below.alloc ?_ (by first | exact Nat.le_refl _ | assumption | (simp only [World.size_alloc, World.size_setCell, size_ext, World.heap_drewN]; omega)) _) | (with_reducible refine Below.setCell ?_ (by first | exact Nat.le_refl _ | assumption | (simp only [World.size_alloc, World.size_setCell, size_ext, World.heap_drewN]; omega)) _)))) (RA2.out.below (by repeat (first | (with_reducible exact Below.refl _ _) | (with_reducible assumption) | (with_reducible refine below_drewN ?_ _) | (with_reducible refine Below.drew ?_) | (with_reducible refine below_ext_of ?_ (by first | exact Nat.le_refl _ | assumption | (simp only [World.size_alloc, World.size_setCell, size_ext, World.heap_drewN]; omega)) _ _) | (with_reducible refine Below.alloc ?_ (by first | exact Nat.le_refl _ | assumption | (simp only [World.size_alloc, World.size_setCell, size_ext, World.heap_drewN]; omega)) _) | (with_reducible refine Below.setCell ?_ (by first | exact Nat.le_refl _ | assumption | (simp only [World.size_alloc, World.size_setCell, size_ext, World.heap_drewN]; omega)) _)))) (RB1.out.below (by repeat (first | (with_reducible exact Below.refl _ _) | (with_reducible assumption) | (with_reducible refine below_drewN ?_ _) | (with_reducible refine Below.drew ?_) | (with_reducible refine below_ext_of ?_ (by first | exact Nat.le_refl _ | assumption | (simp only [World.size_alloc, World.size_setCell, size_ext, World.heap_drewN]; omega)) _ _) | (with_reducible refine Below.alloc ?_ (by first | exact Nat.le_refl _ | assumption | (simp only [World.size_alloc, World.size_setCell, size_ext, World.heap_drewN]; omega)) _) | (with_reducible refine Below.setCell ?_ (by first | exact Nat.le_refl _ | assumption | (simp only [World.size_alloc, World.size_setCell, size_ext, World.heap_drewN]; omega)) _)))) (RB2.out.below (by repeat (first | (with_reducible exact Below.refl _ _) | (with_reducible assumption) | (with_reducible refine below_drewN ?_ _) | (with_reducible refine Below.drew ?_) | (with_reducible refine below_ext_of ?_ (by first | exact Nat.le_refl _ | assumption | (simp only [World.size_alloc, World.size_setCell, size_ext, World.heap_drewN]; omega)) _ _) | (with_reducible refine Below.alloc ?_ (by first | exact Nat.le_refl _ | assumption | (simp only [World.size_alloc, World.size_setCell, size_ext, World.heap_drewN]; omega)) _) | (with_reducible refine Below.setCell ?_ (by first | exact Nat.le_refl _ | assumption | (simp only [World.size_alloc, World.size_setCell, size_ext, World.heap_drewN]; omega)) _)))) I_a1.out I_b1.out HZ1.out).mono ?_
            rintro e W1 ⟨hb, p1, s1, q1, t1, rfl, r1, r2⟩
            have hB : Below wr.heap.size wr W1 := Below.trans (by repeat (first | (with_reducible exact Below.refl _ _) | (with_reducible assumption) | (with_reducible refine below_drewN ?_ _) | (with_reducible refine Below.drew ?_) | (with_reducible refine below_ext_of ?_ (by first | exact Nat.le_refl _ | assumption | (simp only [World.size_alloc, World.size_setCell, size_ext, World.heap_drewN]; omega)) _ _) | (with_reducible refine Below.alloc ?_ (by first | exact Nat.le_refl _ | assumption | (simp only [World.size_alloc, World.size_setCell, size_ext, World.heap_drewN]; omega)) _) | (with_reducible refine Below.setCell ?_ (by first | exact Nat.le_refl _ | assumption | (simp only [World.size_alloc, World.size_setCell, size_ext, World.heap_drewN]; omega)) _))) (hb.mono (by simp [go_sem] <;> omega))
            replace RA1 := Lib.hid (RA1.out.below hB)
            replace RA2 := Lib.hid (RA2.out.below hB)
            replace RB1 := Lib.hid (RB1.out.below hB)
            replace RB2 := Lib.hid (RB2.out.below hB)
            replace RC1 := Lib.hid (RC1.out.below hB)
            replace RC2 := Lib.hid (RC2.out.below hB)
            replace HVB := Lib.hid (HVB.out.trans (hB.mono HVB.out.size))
            replace Ka0 := keep_cell hB Na Ka0
            replace Ka1 := keep_cell hB Na Ka1
            replace Na := Nat.lt_of_lt_of_le Na hB.size
            replace Kb0 := keep_cell hB Nb Kb0
            replace Kb1 := keep_cell hB Nb Kb1
            replace Nb := Nat.lt_of_lt_of_le Nb hB.size
            replace Kc0 := keep_cell hB Nc Kc0
            replace Kc1 := keep_cell hB Nc Kc1
            replace Nc := Nat.lt_of_lt_of_le Nc hB.size
            replace HBR := Lib.hid (HBR.out.trans (hB.mono HBR.out.size))
            have RX1 := Lib.hid r1
            have RX2 := Lib.hid r2
            clear r1 r2
            clear hb hB
            obtain ⟨⟨x2, y2, E2⟩, hz2⟩ : ∃ r, zipF 2 b1 b2 a1 a2 = r := ⟨_, rfl⟩
            have HZ2 := Lib.hid hz2
            clear hz2
            go_wp2_with fail
            refine (zip_any2 _ _ _ _ _ b1 b2 a1 a2 x2 y2 E2 (RB1.out.below (by repeat (first | (with_reducible exact Below.refl _ _) | (with_reducible assumption) | (with_reducible refine below_drewN ?_ _) | (with_reducible refine Below.drew ?_) | (with_reducible refine below_ext_of ?_ (by first | exact Nat.le_refl _ | assumption | (simp only [World.size_alloc, World.size_setCell, size_ext, World.heap_drewN]; omega)) _ _) | (with_reducible refine Below.alloc ?_ (by first | exact Nat.le_refl _ | assumption | (simp only [World.size_alloc, World.size_setCell, size_ext, World.heap_drewN]; omega)) _) | (with_reducible refine Below.setCell ?_ (by first | exact Nat.le_refl _ | assumption | (simp only [World.size_alloc, World.size_setCell, size_ext, World.heap_drewN]; omega)) _)))) (RB2.out.below (by repeat (first | (with_reducible exact Below.refl _ _) | (with_reducible assumption) | (with_reducible refine below_drewN ?_ _) | (with_reducible refine Below.drew ?_) | (with_reducible refine below_ext_of ?_ (by first | exact Nat.le_refl _ | assumption | (simp only [World.size_alloc, World.size_setCell, size_ext, World.heap_drewN]; omega)) _ _) | (with_reducible refine Below.alloc ?_ (by first | exact Nat.le_refl _ | assumption | (simp only [World.size_alloc, World.size_setCell, size_ext, World.heap_drewN]; omega)) _) | (with_reducible refine Below.setCell ?_ (by first | exact Nat.le_refl _ | assumption | (simp only [World.size_alloc, World.size_setCell, size_ext, World.heap_drewN]; omega)) _)))) (RA1.out.below (by repeat (first | (with_reducible exact Below.refl _ _) | (with_reducible assumption) | (with_reducible refine below_drewN ?_ _) | (with_reducible refine Below.drew ?_) | (with_reducible refine below_ext_of ?_ (by first | exact Nat.le_refl _ | assumption | (simp only [World.size_alloc, World.size_setCell, size_ext, World.heap_drewN]; omega)) _ _) | (with_reducible refine Below.alloc ?_ (by first | exact Nat.le_refl _ | assumption | (simp only [World.size_alloc, World.size_setCell, size_ext, World.heap_drewN]; omega)) _) | (with_reducible refine Below.setCell ?_ (by first | exact Nat.le_refl _ | assumption | (simp only [World.size_alloc, World.size_setCell, size_ext, World.heap_drewN]; omega)) _)))) (RA2.out.below (by repeat (first | (with_reducible exact Below.refl _ _) | (with_reducible assumption) | (with_reducible refine below_drewN ?_ _) | (with_reducible refine Below.drew ?_) | (with_reducible refine below_ext_of ?_ (by first | exact Nat.le_refl _ | assumption | (simp only [World.size_alloc, World.size_setCell, size_ext, World.heap_drewN]; omega)) _ _) | (with_reducible refine Below.alloc ?_ (by first | exact Nat.le_refl _ | assumption | (simp only [World.size_alloc, World.size_setCell, size_ext, World.heap_drewN]; omega)) _) | (with_reducible refine Below.setCell ?_ (by first | exact Nat.le_refl _ | assumption | (simp only [World.size_alloc, World.size_setCell, size_ext, World.heap_drewN]; omega)) _)))) I_b1.out I_a1.out HZ2.out).mono ?_
            rintro e W2 ⟨hb, p2, s2, q2, t2, rfl, r1, r2⟩
            have hB : Below W1.heap.size W1 W2 := Below.trans (by repeat (first | (with_reducible exact Below.refl _ _) | (with_reducible assumption) | (with_reducible refine below_drewN ?_ _) | (with_reducible refine Below.drew ?_) | (with_reducible refine below_ext_of ?_ (by first | exact Nat.le_refl _ | assumption | (simp only [World.size_alloc, World.size_setCell, size_ext, World.heap_drewN]; omega)) _ _) | (with_reducible refine Below.alloc ?_ (by first | exact Nat.le_refl _ | assumption | (simp only [World.size_alloc, World.size_setCell, size_ext, World.heap_drewN]; omega)) _) | (with_reducible refine Below.setCell ?_ (by first | exact Nat.le_refl _ | assumption | (simp only [World.size_alloc, World.size_setCell, size_ext, World.heap_drewN]; omega)) _))) (hb.mono (by simp [go_sem] <;> omega))
            replace RA1 := Lib.hid (RA1.out.below hB)
            replace RA2 := Lib.hid (RA2.out.below hB)
            replace RB1 := Lib.hid (RB1.out.below hB)
            replace RB2 := Lib.hid (RB2.out.below hB)
            replace RC1 := Lib.hid (RC1.out.below hB)
            replace RC2 := Lib.hid (RC2.out.below hB)
            replace RX1 := Lib.hid (RX1.out.below hB)
            replace RX2 := Lib.hid (RX2.out.below hB)
            replace HVB := Lib.hid (HVB.out.trans (hB.mono HVB.out.size))
            replace Ka0 := keep_cell hB Na Ka0
            replace Ka1 := keep_cell hB Na Ka1
            replace Na := Nat.lt_of_lt_of_le Na hB.size
            replace Kb0 := keep_cell hB Nb Kb0
            replace Kb1 := keep_cell hB Nb Kb1
            replace Nb := Nat.lt_of_lt_of_le Nb hB.size
            replace Kc0 := keep_cell hB Nc Kc0
            replace Kc1 := keep_cell hB Nc Kc1
            replace Nc := Nat.lt_of_lt_of_le Nc hB.size
            have Kx0 : W2.cell? ⟨W1.heap.size, 0, none⟩ = some (.slice p1 x1.length s1) := keep_cell hb (by simp [go_sem] <;> omega) (by simp [go_sem])
            have Kx1 : W2.cell? ⟨W1.heap.size, 1, none⟩ = some (.slice q1 y1.length t1) := keep_cell hb (by simp [go_sem] <;> omega) (by simp [go_sem])
            have Nx : W1.heap.size < W2.heap.size := Nat.lt_of_lt_of_le (by simp [go_sem] <;> omega) hb.size
            replace HBR := Lib.hid (HBR.out.trans (hB.mono HBR.out.size))
            have RY1 := Lib.hid r1
            have RY2 := Lib.hid r2
            clear r1 r2
            obtain ⟨Bx, hkx⟩ : ∃ b, b = W1.heap.size := ⟨_, rfl⟩
            rw [← hkx] at Kx0 Kx1 Nx ⊢
            clear hkx
            clear hb hB
            go_wp2_with fail
            go_roundw
            case measure => decide
            case rel => exact ⟨3, rfl, by decide, by decide, Lib.hid (HBR.out.trans (Below.mono (by repeat (first | (with_reducible exact Below.refl _ _) | (with_reducible assumption) | (with_reducible refine below_drewN ?_ _) | (with_reducible refine Below.drew ?_) | (with_reducible refine below_ext_of ?_ (by first | exact Nat.le_refl _ | assumption | (simp only [World.size_alloc, World.size_setCell, size_ext, World.heap_drewN]; omega)) _ _) | (with_reducible refine Below.alloc ?_ (by first | exact Nat.le_refl _ | assumption | (simp only [World.size_alloc, World.size_setCell, size_ext, World.heap_drewN]; omega)) _) | (with_reducible refine Below.setCell ?_ (by first | exact Nat.le_refl _ | assumption | (simp only [World.size_alloc, World.size_setCell, size_ext, World.heap_drewN]; omega)) _))) HBR.out.size))⟩
          · clear ho1 ho2
            replace RA1 := Lib.hid (RA1.out.below hB.out)
            replace RA2 := Lib.hid (RA2.out.below hB.out)
            replace RB1 := Lib.hid (RB1.out.below hB.out)
            replace RB2 := Lib.hid (RB2.out.below hB.out)
            replace RC1 := Lib.hid (RC1.out.below hB.out)
            replace RC2 := Lib.hid (RC2.out.below hB.out)
            replace Ka0 := keep_cell hB.out Na Ka0
            replace Ka1 := keep_cell hB.out Na Ka1
            replace Na := Nat.lt_of_lt_of_le Na hB.out.size
            replace Kb0 := keep_cell hB.out Nb Kb0
            replace Kb1 := keep_cell hB.out Nb Kb1
            replace Nb := Nat.lt_of_lt_of_le Nb hB.out.size
            replace Kc0 := keep_cell hB.out Nc Kc0
            replace Kc1 := keep_cell hB.out Nc Kc1
            replace Nc := Nat.lt_of_lt_of_le Nc hB.out.size
            replace HVB := Lib.hid (HVB.out.trans (hB.out.mono HVB.out.size))
            have HBR := Lib.hid hB.out
            clear hB
            obtain ⟨⟨x1, y1, E1⟩, hz1⟩ : ∃ r, zipF 3 a1 a2 b1 b2 = r := ⟨_, rfl⟩
            have HZ1 := Lib.hid hz1
            clear hz1
            go_wp2_with fail
            refine (zip_any3 _ _ _ _ _ a1 a2 b1 b2 x1 y1 E1 (RA1.out.below (by repeat (first | (with_reducible exact Below.refl _ _) | (with_reducible assumption) | (with_reducible refine below_drewN ?_ _) | (with_reducible refine Below.drew ?_) | (with_reducible refine below_ext_of ?_ (by first | exact Nat.le_refl _ | assumption | (simp only [World.size_alloc, World.size_setCell, size_ext, World.heap_drewN]; omega)) _ _) | (with_reducible refine Below.alloc ?_ (by first | exact Nat.le_refl _ | assumption | (simp only [World.size_alloc, World.size_setCell, size_ext, World.heap_drewN]; omega)) _) | (with_reducible refine Below.setCell ?_ (by first | exact Nat.le_refl _ | assumption | (simp only [World.size_alloc, World.size_setCell, size_ext, World.heap_drewN]; omega)) _)))) (RA2.out.below (by repeat (first | (with_reducible exact Below.refl _ _) | (with_reducible assumption) | (with_reducible refine below_drewN ?_ _) | (with_reducible refine Below.drew ?_) | (with_reducible refine below_ext_of ?_ (by first | exact Nat.le_refl _ | assumption | (simp only [World.size_alloc, World.size_setCell, size_ext, World.heap_drewN]; omega)) _ _) | (with_reducible refine Below.alloc ?_ (by first | exact Nat.le_refl _ | assumption | (simp only [World.size_alloc, World.size_setCell, size_ext, World.heap_drewN]; omega)) _) | (with_reducible refine Below.setCell ?_ (by first | exact Nat.le_refl _ | assumption | (simp only [World.size_alloc, World.size_setCell, size_ext, World.heap_drewN]; omega)) _)))) (RB1.out.below (by repeat (first | (with_reducible exact Below.refl _ _) | (with_reducible assumption) | (with_reducible refine below_drewN ?_ _) | (with_reducible refine Below.drew ?_) | (with_reducible refine below_ext_of ?_ (by first | exact Nat.le_refl _ | assumption | (simp only [World.size_alloc, World.size_setCell, size_ext, World.heap_drewN]; omega)) _ _) | (with_reducible refine Below.alloc ?_ (by first | exact Nat.le_refl _ | assumption | (simp only [World.size_alloc, World.size_setCell, size_ext, World.heap_drewN]; omega)) _) | (with_reducible refine Below.setCell ?_ (by first | exact Nat.le_refl _ | assumption | (simp only [World.size_alloc, World.size_setCell, size_ext, World.heap_drewN]; omega)) _)))) (RB2.out.below (by repeat (first | (with_reducible exact Below.refl _ _) | (with_reducible assumption) | (with_reducible refine below_drewN ?_ _) | (with_reducible refine Below.drew ?_) | (with_reducible refine below_ext_of ?_ (by first | exact Nat.le_refl _ | assumption | (simp only [World.size_alloc, World.size_setCell, size_ext, World.heap_drewN]; omega)) _ _) | (with_reducible refine Below.alloc ?_ (by first | exact Nat.le_refl _ | assumption | (simp only [World.size_alloc, World.size_setCell, size_ext, World.heap_drewN]; omega)) _) | (with_reducible refine Below.setCell ?_ (by first | exact Nat.le_refl _ | assumption | (simp only [World.size_alloc, World.size_setCell, size_ext, World.heap_drewN]; omega)) _)))) I_a1.out I_b1.out HZ1.out).mono ?_
            rintro e W1 ⟨hb, p1, s1, q1, t1, rfl, r1, r2⟩
            have hB : Below wr.heap.size wr W1 := Below.trans (by repeat (first | (with_reducible exact Below.refl _ _) | (with_reducible assumption) | (with_reducible refine below_drewN ?_ _) | (with_reducible refine Below.drew ?_) | (with_reducible refine below_ext_of ?_ (by first | exact Nat.le_refl _ | assumption | (simp only [World.size_alloc, World.size_setCell, size_ext, World.heap_drewN]; omega)) _ _) | (with_reducible refine Below.alloc ?_ (by first | exact Nat.le_refl _ | assumption | (simp only [World.size_alloc, World.size_setCell, size_ext, World.heap_drewN]; omega)) _) | (with_reducible refine Below.setCell ?_ (by first | exact Nat.le_refl _ | assumption | (simp only [World.size_alloc, World.size_setCell, size_ext, World.heap_drewN]; omega)) _))) (hb.mono (by simp [go_sem] <;> omega))
            replace RA1 := Lib.hid (RA1.out.below hB)
            replace RA2 := Lib.hid (RA2.out.below hB)
            replace RB1 := Lib.hid (RB1.out.below hB)
            replace RB2 := Lib.hid (RB2.out.below hB)
            replace RC1 := Lib.hid (RC1.out.below hB)
            replace RC2 := Lib.hid (RC2.out.below hB)
            replace HVB := Lib.hid (HVB.out.trans (hB.mono HVB.out.size))
            replace Ka0 := keep_cell hB Na Ka0
            replace Ka1 := keep_cell hB Na Ka1
            replace Na := Nat.lt_of_lt_of_le Na hB.size
            replace Kb0 := keep_cell hB Nb Kb0
            replace Kb1 := keep_cell hB Nb Kb1
            replace Nb := Nat.lt_of_lt_of_le Nb hB.size
            replace Kc0 := keep_cell hB Nc Kc0
            replace Kc1 := keep_cell hB Nc Kc1
            replace Nc := Nat.lt_of_lt_of_le Nc hB.size
            replace HBR := Lib.hid (HBR.out.trans (hB.mono HBR.out.size))
            have RX1 := Lib.hid r1
            have RX2 := Lib.hid r2
            clear r1 r2
            clear hb hB
            go_wp2_with fail
            refine (zip_swap3 _ _ _ _ _ b1 b2 a1 a2 x1 y1 E1 (RB1.out.below (by repeat (first | (with_reducible exact Below.refl _ _) | (with_reducible assumption) | (with_reducible refine below_drewN ?_ _) | (with_reducible refine Below.drew ?_) | (with_reducible refine below_ext_of ?_ (by first | exact Nat.le_refl _ | assumption | (simp only [World.size_alloc, World.size_setCell, size_ext, World.heap_drewN]; omega)) _ _) | (with_reducible refine Below.alloc ?_ (by first | exact Nat.le_refl _ | assumption | (simp only [World.size_alloc, World.size_setCell, size_ext, World.heap_drewN]; omega)) _) | (with_reducible refine Below.setCell ?_ (by first | exact Nat.le_refl _ | assumption | (simp only [World.size_alloc, World.size_setCell, size_ext, World.heap_drewN]; omega)) _)))) (RB2.out.below (by repeat (first | (with_reducible exact Below.refl _ _) | (with_reducible assumption) | (with_reducible refine below_drewN ?_ _) | (with_reducible refine Below.drew ?_) | (with_reducible refine below_ext_of ?_ (by first | exact Nat.le_refl _ | assumption | (simp only [World.size_alloc, World.size_setCell, size_ext, World.heap_drewN]; omega)) _ _) | (with_reducible refine Below.alloc ?_ (by first | exact Nat.le_refl _ | assumption | (simp only [World.size_alloc, World.size_setCell, size_ext, World.heap_drewN]; omega)) _) | (with_reducible refine Below.setCell ?_ (by first | exact Nat.le_refl _ | assumption | (simp only [World.size_alloc, World.size_setCell, size_ext, World.heap_drewN]; omega)) _)))) (RA1.out.below (by repeat (first | (with_reducible exact Below.refl _ _) | (with_reducible assumption) | (with_reducible refine below_drewN ?_ _) | (with_reducible refine Below.drew ?_) | (with_reducible refine below_ext_of ?_ (by first | exact Nat.le_refl _ | assumption | (simp only [World.size_alloc, World.size_setCell, size_ext, World.heap_drewN]; omega)) _ _) | (with_reducible refine Below.alloc ?_ (by first | exact Nat.le_refl _ | assumption | (simp only [World.size_alloc, World.size_setCell, size_ext, World.heap_drewN]; omega)) _) | (with_reducible refine Below.setCell ?_ (by first | exact Nat.le_refl _ | assumption | (simp only [World.size_alloc, World.size_setCell, size_ext, World.heap_drewN]; omega)) _)))) (RA2.out.below (by repeat (first | (with_reducible exact Below.refl _ _) | (with_reducible assumption) | (with_reducible refine below_drewN ?_ _) | (with_reducible refine Below.drew ?_) | (with_reducible refine below_ext_of ?_ (by first | exact Nat.le_refl _ | assumption | (simp only [World.size_alloc, World.size_setCell, size_ext, World.heap_drewN]; omega)) _ _) | (with_reducible refine Below.alloc ?_ (by first | exact Nat.le_refl _ | assumption | (simp only [World.size_alloc, World.size_setCell, size_ext, World.heap_drewN]; omega)) _) | (with_reducible refine Below.setCell ?_ (by first | exact Nat.le_refl _ | assumption | (simp only [World.size_alloc, World.size_setCell, size_ext, World.heap_drewN]; omega)) _)))) I_b1.out I_a1.out HZ1.out).mono ?_
            rintro e W2 ⟨hb, p2, s2, q2, t2, rfl, r1, r2⟩
            have hB : Below W1.heap.size W1 W2 := Below.trans (by repeat (first | (with_reducible exact Below.refl _ _) | (with_reducible assumption) | (with_reducible refine below_drewN ?_ _) | (with_reducible refine Below.drew ?_) | (with_reducible refine below_ext_of ?_ (by first | exact Nat.le_refl _ | assumption | (simp only [World.size_alloc, World.size_setCell, size_ext, World.heap_drewN]; omega)) _ _) | (with_reducible refine Below.alloc ?_ (by first | exact Nat.le_refl _ | assumption | (simp only [World.size_alloc, World.size_setCell, size_ext, World.heap_drewN]; omega)) _) | (with_reducible refine Below.setCell ?_ (by first | exact Nat.le_refl _ | assumption | (simp only [World.size_alloc, World.size_setCell, size_ext, World.heap_drewN]; omega)) _))) (hb.mono (by simp [go_sem] <;> omega))
            replace RA1 := Lib.hid (RA1.out.below hB)
            replace RA2 := Lib.hid (RA2.out.below hB)
            replace RB1 := Lib.hid (RB1.out.below hB)
            replace RB2 := Lib.hid (RB2.out.below hB)
            replace RC1 := Lib.hid (RC1.out.below hB)
            replace RC2 := Lib.hid (RC2.out.below hB)
            replace RX1 := Lib.hid (RX1.out.below hB)
            replace RX2 := Lib.hid (RX2.out.below hB)
            replace HVB := Lib.hid (HVB.out.trans (hB.mono HVB.out.size))
            replace Ka0 := keep_cell hB Na Ka0
            replace Ka1 := keep_cell hB Na Ka1
            replace Na := Nat.lt_of_lt_of_le Na hB.size
            replace Kb0 := keep_cell hB Nb Kb0
            replace Kb1 := keep_cell hB Nb Kb1
            replace Nb := Nat.lt_of_lt_of_le Nb hB.size
            replace Kc0 := keep_cell hB Nc Kc0
            replace Kc1 := keep_cell hB Nc Kc1
            replace Nc := Nat.lt_of_lt_of_le Nc hB.size
            have Kx0 : W2.cell? ⟨W1.heap.size, 0, none⟩ = some (.slice p1 x1.length s1) := keep_cell hb (by simp [go_sem] <;> omega) (by simp [go_sem])
            have Kx1 : W2.cell? ⟨W1.heap.size, 1, none⟩ = some (.slice q1 y1.length t1) := keep_cell hb (by simp [go_sem] <;> omega) (by simp [go_sem])
            have Nx : W1.heap.size < W2.heap.size := Nat.lt_of_lt_of_le (by simp [go_sem] <;> omega) hb.size
            replace HBR := Lib.hid (HBR.out.trans (hB.mono HBR.out.size))
            have RY1 := Lib.hid r1
            have RY2 := Lib.hid r2
            clear r1 r2
            obtain ⟨Bx, hkx⟩ : ∃ b, b = W1.heap.size := ⟨_, rfl⟩
            rw [← hkx] at Kx0 Kx1 Nx ⊢
            clear hkx
            clear hb hB
            have eEE : (E1 != E1) = false := by simp
            go_wp2_with fail
            refine (Equal_same _ _ _ _ _ x1 y1 x1 y1 (RX1.out.below (by repeat (first | (with_reducible exact Below.refl _ _) | (with_reducible assumption) | (with_reducible refine below_drewN ?_ _) | (with_reducible refine Below.drew ?_) | (with_reducible refine below_ext_of ?_ (by first | exact Nat.le_refl _ | assumption | (simp only [World.size_alloc, World.size_setCell, size_ext, World.heap_drewN]; omega)) _ _) | (with_reducible refine Below.alloc ?_ (by first | exact Nat.le_refl _ | assumption | (simp only [World.size_alloc, World.size_setCell, size_ext, World.heap_drewN]; omega)) _) | (with_reducible refine Below.setCell ?_ (by first | exact Nat.le_refl _ | assumption | (simp only [World.size_alloc, World.size_setCell, size_ext, World.heap_drewN]; omega)) _)))) (RX2.out.below (by repeat (first | (with_reducible exact Below.refl _ _) | (with_reducible assumption) | (with_reducible refine below_drewN ?_ _) | (with_reducible refine Below.drew ?_) | (with_reducible refine below_ext_of ?_ (by first | exact Nat.le_refl _ | assumption | (simp only [World.size_alloc, World.size_setCell, size_ext, World.heap_drewN]; omega)) _ _) | (with_reducible refine Below.alloc ?_ (by first | exact Nat.le_refl _ | assumption | (simp only [World.size_alloc, World.size_setCell, size_ext, World.heap_drewN]; omega)) _) | (with_reducible refine Below.setCell ?_ (by first | exact Nat.le_refl _ | assumption | (simp only [World.size_alloc, World.size_setCell, size_ext, World.heap_drewN]; omega)) _)))) (RY1.out.below (by repeat (first | (with_reducible exact Below.refl _ _) | (with_reducible assumption) | (with_reducible refine below_drewN ?_ _) | (with_reducible refine Below.drew ?_) | (with_reducible refine below_ext_of ?_ (by first | exact Nat.le_refl _ | assumption | (simp only [World.size_alloc, World.size_setCell, size_ext, World.heap_drewN]; omega)) _ _) | (with_reducible refine Below.alloc ?_ (by first | exact Nat.le_refl _ | assumption | (simp only [World.size_alloc, World.size_setCell, size_ext, World.heap_drewN]; omega)) _) | (with_reducible refine Below.setCell ?_ (by first | exact Nat.le_refl _ | assumption | (simp only [World.size_alloc, World.size_setCell, size_ext, World.heap_drewN]; omega)) _)))) (RY2.out.below (by repeat (first | (with_reducible exact Below.refl _ _) | (with_reducible assumption) | (with_reducible refine below_drewN ?_ _) | (with_reducible refine Below.drew ?_) | (with_reducible refine below_ext_of ?_ (by first | exact Nat.le_refl _ | assumption | (simp only [World.size_alloc, World.size_setCell, size_ext, World.heap_drewN]; omega)) _ _) | (with_reducible refine Below.alloc ?_ (by first | exact Nat.le_refl _ | assumption | (simp only [World.size_alloc, World.size_setCell, size_ext, World.heap_drewN]; omega)) _) | (with_reducible refine Below.setCell ?_ (by first | exact Nat.le_refl _ | assumption | (simp only [World.size_alloc, World.size_setCell, size_ext, World.heap_drewN]; omega)) _)))) rfl rfl).mono ?_
            rintro e W3 ⟨rfl, hb⟩
            have hB : Below W2.heap.size W2 W3 := Below.trans (by repeat (first | (with_reducible exact Below.refl _ _) | (with_reducible assumption) | (with_reducible refine below_drewN ?_ _) | (with_reducible refine Below.drew ?_) | (with_reducible refine below_ext_of ?_ (by first | exact Nat.le_refl _ | assumption | (simp only [World.size_alloc, World.size_setCell, size_ext, World.heap_drewN]; omega)) _ _) | (with_reducible refine Below.alloc ?_ (by first | exact Nat.le_refl _ | assumption | (simp only [World.size_alloc, World.size_setCell, size_ext, World.heap_drewN]; omega)) _) | (with_reducible refine Below.setCell ?_ (by first | exact Nat.le_refl _ | assumption | (simp only [World.size_alloc, World.size_setCell, size_ext, World.heap_drewN]; omega)) _))) (hb.mono (by simp [go_sem] <;> omega))
            replace RA1 := Lib.hid (RA1.out.below hB)
            replace RA2 := Lib.hid (RA2.out.below hB)
            replace RB1 := Lib.hid (RB1.out.below hB)
            replace RB2 := Lib.hid (RB2.out.below hB)
            replace RC1 := Lib.hid (RC1.out.below hB)
            replace RC2 := Lib.hid (RC2.out.below hB)
            replace RX1 := Lib.hid (RX1.out.below hB)
            replace RX2 := Lib.hid (RX2.out.below hB)
            replace RY1 := Lib.hid (RY1.out.below hB)
            replace RY2 := Lib.hid (RY2.out.below hB)
            replace HVB := Lib.hid (HVB.out.trans (hB.mono HVB.out.size))
            replace Ka0 := keep_cell hB Na Ka0
            replace Ka1 := keep_cell hB Na Ka1
            replace Na := Nat.lt_of_lt_of_le Na hB.size
            replace Kb0 := keep_cell hB Nb Kb0
            replace Kb1 := keep_cell hB Nb Kb1
            replace Nb := Nat.lt_of_lt_of_le Nb hB.size
            replace Kc0 := keep_cell hB Nc Kc0
            replace Kc1 := keep_cell hB Nc Kc1
            replace Nc := Nat.lt_of_lt_of_le Nc hB.size
            replace Kx0 := keep_cell hB Nx Kx0
            replace Kx1 := keep_cell hB Nx Kx1
            replace Nx := Nat.lt_of_lt_of_le Nx hB.size
            have Ky0 : W3.cell? ⟨W2.heap.size, 0, none⟩ = some (.slice p2 x1.length s2) := keep_cell hb (by simp [go_sem] <;> omega) (by simp [go_sem])
            have Ky1 : W3.cell? ⟨W2.heap.size, 1, none⟩ = some (.slice q2 y1.length t2) := keep_cell hb (by simp [go_sem] <;> omega) (by simp [go_sem])
            have Ny : W2.heap.size < W3.heap.size := Nat.lt_of_lt_of_le (by simp [go_sem] <;> omega) hb.size
            replace HBR := Lib.hid (HBR.out.trans (hB.mono HBR.out.size))
            obtain ⟨By, hky⟩ : ∃ b, b = W2.heap.size := ⟨_, rfl⟩
            rw [← hky] at Ky0 Ky1 Ny ⊢
            clear hky
            clear hb hB
            clear eEE
            obtain ⟨⟨x3, y3, E3⟩, hz3⟩ : ∃ r, zipF 3 b1 b2 c1 c2 = r := ⟨_, rfl⟩
            have HZ3 := Lib.hid hz3
            clear hz3
            go_wp2_with fail
            refine (zip_any3 _ _ _ _ _ b1 b2 c1 c2 x3 y3 E3 (RB1.out.below (by repeat (first | (with_reducible exact Below.refl _ _) | (with_reducible assumption) | (with_reducible refine below_drewN ?_ _) | (with_reducible refine Below.drew ?_) | (with_reducible refine below_ext_of ?_ (by first | exact Nat.le_refl _ | assumption | (simp only [World.size_alloc, World.size_setCell, size_ext, World.heap_drewN]; omega)) _ _) | (with_reducible refine Below.alloc ?_ (by first | exact Nat.le_refl _ | assumption | (simp only [World.size_alloc, World.size_setCell, size_ext, World.heap_drewN]; omega)) _) | (with_reducible refine Below.setCell ?_ (by first | exact Nat.le_refl _ | assumption | (simp only [World.size_alloc, World.size_setCell, size_ext, World.heap_drewN]; omega)) _)))) (RB2.out.below (by repeat (first | (with_reducible exact Below.refl _ _) | (with_reducible assumption) | (with_reducible refine below_drewN ?_ _) | (with_reducible refine Below.drew ?_) | (with_reducible refine below_ext_of ?_ (by first | exact Nat.le_refl _ | assumption | (simp only [World.size_alloc, World.size_setCell, size_ext, World.heap_drewN]; omega)) _ _) | (with_reducible refine Below.alloc ?_ (by first | exact Nat.le_refl _ | assumption | (simp only [World.size_alloc, World.size_setCell, size_ext, World.heap_drewN]; omega)) _) | (with_reducible refine Below.setCell ?_ (by first | exact Nat.le_refl _ | assumption | (simp only [World.size_alloc, World.size_setCell, size_ext, World.heap_drewN]; omega)) _)))) (RC1.out.below (by repeat (first | (with_reducible exact Below.refl _ _) | (with_reducible assumption) | (with_reducible refine below_drewN ?_ _) | (with_reducible refine Below.drew ?_) | (with_reducible refine below_ext_of ?_ (by first | exact Nat.le_refl _ | assumption | (simp only [World.size_alloc, World.size_setCell, size_ext, World.heap_drewN]; omega)) _ _) | (with_reducible refine Below.alloc ?_ (by first | exact Nat.le_refl _ | assumption | (simp only [World.size_alloc, World.size_setCell, size_ext, World.heap_drewN]; omega)) _) | (with_reducible refine Below.setCell ?_ (by first | exact Nat.le_refl _ | assumption | (simp only [World.size_alloc, World.size_setCell, size_ext, World.heap_drewN]; omega)) _)))) (RC2.out.below (by repeat (first | (with_reducible exact Below.refl _ _) | (with_reducible assumption) | (with_reducible refine below_drewN ?_ _) | (with_reducible refine Below.drew ?_) | (with_reducible refine below_ext_of ?_ (by first | exact Nat.le_refl _ | assumption | (simp only [World.size_alloc, World.size_setCell, size_ext, World.heap_drewN]; omega)) _ _) | (with_reducible refine Below.alloc ?_ (by first | exact Nat.le_refl _ | assumption | (simp only [World.size_alloc, World.size_setCell, size_ext, World.heap_drewN]; omega)) _) | (with_reducible refine Below.setCell ?_ (by first | exact Nat.le_refl _ | assumption | (simp only [World.size_alloc, World.size_setCell, size_ext, World.heap_drewN]; omega)) _)))) I_b1.out I_c1.out HZ3.out).mono ?_
            rintro e W4 ⟨hb, p3, s3, q3, t3, rfl, r1, r2⟩
            have hB : Below W3.heap.size W3 W4 := Below.trans (by repeat (first | (with_reducible exact Below.refl _ _) | (with_reducible assumption) | (with_reducible refine below_drewN ?_ _) | (with_reducible refine Below.drew ?_) | (with_reducible refine below_ext_of ?_ (by first | exact Nat.le_refl _ | assumption | (simp only [World.size_alloc, World.size_setCell, size_ext, World.heap_drewN]; omega)) _ _) | (with_reducible refine Below.alloc ?_ (by first | exact Nat.le_refl _ | assumption | (simp only [World.size_alloc, World.size_setCell, size_ext, World.heap_drewN]; omega)) _) | (with_reducible refine Below.setCell ?_ (by first | exact Nat.le_refl _ | assumption | (simp only [World.size_alloc, World.size_setCell, size_ext, World.heap_drewN]; omega)) _))) (hb.mono (by simp [go_sem] <;> omega))
            replace RA1 := Lib.hid (RA1.out.below hB)
            replace RA2 := Lib.hid (RA2.out.below hB)
            replace RB1 := Lib.hid (RB1.out.below hB)
            replace RB2 := Lib.hid (RB2.out.below hB)
            replace RC1 := Lib.hid (RC1.out.below hB)
            replace RC2 := Lib.hid (RC2.out.below hB)
            replace RX1 := Lib.hid (RX1.out.below hB)
            replace RX2 := Lib.hid (RX2.out.below hB)
            replace RY1 := Lib.hid (RY1.out.below hB)
            replace RY2 := Lib.hid (RY2.out.below hB)
            replace HVB := Lib.hid (HVB.out.trans (hB.mono HVB.out.size))
            replace Ka0 := keep_cell hB Na Ka0
            replace Ka1 := keep_cell hB Na Ka1
            replace Na := Nat.lt_of_lt_of_le Na hB.size
            replace Kb0 := keep_cell hB Nb Kb0
            replace Kb1 := keep_cell hB Nb Kb1
            replace Nb := Nat.lt_of_lt_of_le Nb hB.size
            replace Kc0 := keep_cell hB Nc Kc0
            replace Kc1 := keep_cell hB Nc Kc1
            replace Nc := Nat.lt_of_lt_of_le Nc hB.size
            replace Kx0 := keep_cell hB Nx Kx0
            replace Kx1 := keep_cell hB Nx Kx1
            replace Nx := Nat.lt_of_lt_of_le Nx hB.size
            replace Ky0 := keep_cell hB Ny Ky0
            replace Ky1 := keep_cell hB Ny Ky1
            replace Ny := Nat.lt_of_lt_of_le Ny hB.size
            replace HBR := Lib.hid (HBR.out.trans (hB.mono HBR.out.size))
            have RZ1 := Lib.hid r1
            have RZ2 := Lib.hid r2
            clear r1 r2
            clear hb hB
            by_cases hE1 : E1 = 0
            · subst hE1
              by_cases hE3 : E3 = 0
              · subst hE3
                have I_x1 := Lib.hid (in64W_zip (op := 3) (by decide) I_a1.out I_b1.out HZ1.out)
                have I_x3 := Lib.hid (in64W_zip (op := 3) (by decide) I_b1.out I_c1.out HZ3.out)
                obtain ⟨⟨x4, y4, E4⟩, hz4⟩ : ∃ r, zipF 3 x1 y1 c1 c2 = r := ⟨_, rfl⟩
                have HZ4 := Lib.hid hz4
                clear hz4
                obtain ⟨⟨x5, y5, E5⟩, hz5⟩ : ∃ r, zipF 3 a1 a2 x3 y3 = r := ⟨_, rfl⟩
                have HZ5 := Lib.hid hz5
                clear hz5
                go_wp2_with fail
                refine (zip_any3 _ _ _ _ _ x1 y1 c1 c2 x4 y4 E4 (RX1.out.below (by repeat (first | (with_reducible exact Below.refl _ _) | (with_reducible assumption) | (with_reducible refine below_drewN ?_ _) | (with_reducible refine Below.drew ?_) | (with_reducible refine below_ext_of ?_ (by first | exact Nat.le_refl _ | assumption | (simp only [World.size_alloc, World.size_setCell, size_ext, World.heap_drewN]; omega)) _ _) | (with_reducible refine Below.alloc ?_ (by first | exact Nat.le_refl _ | assumption | (simp only [World.size_alloc, World.size_setCell, size_ext, World.heap_drewN]; omega)) _) | (with_reducible refine Below.setCell ?_ (by first | exact Nat.le_refl _ | assumption | (simp only [World.size_alloc, World.size_setCell, size_ext, World.heap_drewN]; omega)) _)))) (RX2.out.below (by repeat (first | (with_reducible exact Below.refl _ _) | (with_reducible assumption) | (with_reducible refine below_drewN ?_ _) | (with_reducible refine Below.drew ?_) | (with_reducible refine below_ext_of ?_ (by first | exact Nat.le_refl _ | assumption | (simp only [World.size_alloc, World.size_setCell, size_ext, World.heap_drewN]; omega)) _ _) | (with_reducible refine Below.alloc ?_ (by first | exact Nat.le_refl _ | assumption | (simp only [World.size_alloc, World.size_setCell, size_ext, World.heap_drewN]; omega)) _) | (with_reducible refine Below.setCell ?_ (by first | exact Nat.le_refl _ | assumption | (simp only [World.size_alloc, World.size_setCell, size_ext, World.heap_drewN]; omega)) _)))) (RC1.out.below (by repeat (first | (with_reducible exact Below.refl _ _) | (with_reducible assumption) | (with_reducible refine below_drewN ?_ _) | (with_reducible refine Below.drew ?_) | (with_reducible refine below_ext_of ?_ (by first | exact Nat.le_refl _ | assumption | (simp only [World.size_alloc, World.size_setCell, size_ext, World.heap_drewN]; omega)) _ _) | (with_reducible refine Below.alloc ?_ (by first | exact Nat.le_refl _ | assumption | (simp only [World.size_alloc, World.size_setCell, size_ext, World.heap_drewN]; omega)) _) | (with_reducible refine Below.setCell ?_ (by first | exact Nat.le_refl _ | assumption | (simp only [World.size_alloc, World.size_setCell, size_ext, World.heap_drewN]; omega)) _)))) (RC2.out.below (by repeat (first | (with_reducible exact Below.refl _ _) | (with_reducible assumption) | (with_reducible refine below_drewN ?_ _) | (with_reducible refine Below.drew ?_) | (with_reducible refine below_ext_of ?_ (by first | exact Nat.le_refl _ | assumption | (simp only [World.size_alloc, World.size_setCell, size_ext, World.heap_drewN]; omega)) _ _) | (with_reducible refine Below.alloc ?_ (by first | exact Nat.le_refl _ | assumption | (simp only [World.size_alloc, World.size_setCell, size_ext, World.heap_drewN]; omega)) _) | (with_reducible refine Below.setCell ?_ (by first | exact Nat.le_refl _ | assumption | (simp only [World.size_alloc, World.size_setCell, size_ext, World.heap_drewN]; omega)) _)))) I_x1.out I_c1.out HZ4.out).mono ?_
                rintro e W5 ⟨hb, p4, s4, q4, t4, rfl, r1, r2⟩
                have hB : Below W4.heap.size W4 W5 := Below.trans (by repeat (first | (with_reducible exact Below.refl _ _) | (with_reducible assumption) | (with_reducible refine below_drewN ?_ _) | (with_reducible refine Below.drew ?_) | (with_reducible refine below_ext_of ?_ (by first | exact Nat.le_refl _ | assumption | (simp only [World.size_alloc, World.size_setCell, size_ext, World.heap_drewN]; omega)) _ _) | (with_reducible refine Below.alloc ?_ (by first | exact Nat.le_refl _ | assumption | (simp only [World.size_alloc, World.size_setCell, size_ext, World.heap_drewN]; omega)) _) | (with_reducible refine Below.setCell ?_ (by first | exact Nat.le_refl _ | assumption | (simp only [World.size_alloc, World.size_setCell, size_ext, World.heap_drewN]; omega)) _))) (hb.mono (by simp [go_sem] <;> omega))
                replace RA1 := Lib.hid (RA1.out.below hB)
                replace RA2 := Lib.hid (RA2.out.below hB)
                replace RB1 := Lib.hid (RB1.out.below hB)
                replace RB2 := Lib.hid (RB2.out.below hB)
                replace RC1 := Lib.hid (RC1.out.below hB)
                replace RC2 := Lib.hid (RC2.out.below hB)
                replace RX1 := Lib.hid (RX1.out.below hB)
                replace RX2 := Lib.hid (RX2.out.below hB)
                replace RY1 := Lib.hid (RY1.out.below hB)
                replace RY2 := Lib.hid (RY2.out.below hB)
                replace RZ1 := Lib.hid (RZ1.out.below hB)
                replace RZ2 := Lib.hid (RZ2.out.below hB)
                replace HVB := Lib.hid (HVB.out.trans (hB.mono HVB.out.size))
                replace Ka0 := keep_cell hB Na Ka0
                replace Ka1 := keep_cell hB Na Ka1
                replace Na := Nat.lt_of_lt_of_le Na hB.size
                replace Kb0 := keep_cell hB Nb Kb0
                replace Kb1 := keep_cell hB Nb Kb1
                replace Nb := Nat.lt_of_lt_of_le Nb hB.size
                replace Kc0 := keep_cell hB Nc Kc0
                replace Kc1 := keep_cell hB Nc Kc1
                replace Nc := Nat.lt_of_lt_of_le Nc hB.size
                replace Kx0 := keep_cell hB Nx Kx0
                replace Kx1 := keep_cell hB Nx Kx1
                replace Nx := Nat.lt_of_lt_of_le Nx hB.size
                replace Ky0 := keep_cell hB Ny Ky0
                replace Ky1 := keep_cell hB Ny Ky1
                replace Ny := Nat.lt_of_lt_of_le Ny hB.size
                have Kz0 : W5.cell? ⟨W4.heap.size, 0, none⟩ = some (.slice p3 x3.length s3) := keep_cell hb (by simp [go_sem] <;> omega) (by simp [go_sem])
                have Kz1 : W5.cell? ⟨W4.heap.size, 1, none⟩ = some (.slice q3 y3.length t3) := keep_cell hb (by simp [go_sem] <;> omega) (by simp [go_sem])
                have Nz : W4.heap.size < W5.heap.size := Nat.lt_of_lt_of_le (by simp [go_sem] <;> omega) hb.size
                replace HBR := Lib.hid (HBR.out.trans (hB.mono HBR.out.size))
                have RP1 := Lib.hid r1
                have RP2 := Lib.hid r2
                clear r1 r2
                obtain ⟨Bz, hkz⟩ : ∃ b, b = W4.heap.size := ⟨_, rfl⟩
                rw [← hkz] at Kz0 Kz1 Nz ⊢
                clear hkz
                clear hb hB
                go_wp2_with fail
                refine (zip_any3 _ _ _ _ _ a1 a2 x3 y3 x5 y5 E5 (RA1.out.below (by repeat (first | (with_reducible exact Below.refl _ _) | (with_reducible assumption) | (with_reducible refine below_drewN ?_ _) | (with_reducible refine Below.drew ?_) | (with_reducible refine below_ext_of ?_ (by first | exact Nat.le_refl _ | assumption | (simp only [World.size_alloc, World.size_setCell, size_ext, World.heap_drewN]; omega)) _ _) | (with_reducible refine Below.alloc ?_ (by first | exact Nat.le_refl _ | assumption | (simp only [World.size_alloc, World.size_setCell, size_ext, World.heap_drewN]; omega)) _) | (with_reducible refine Below.setCell ?_ (by first | exact Nat.le_refl _ | assumption | (simp only [World.size_alloc, World.size_setCell, size_ext, World.heap_drewN]; omega)) _)))) (RA2.out.below (by repeat (first | (with_reducible exact Below.refl _ _) | (with_reducible assumption) | (with_reducible refine below_drewN ?_ _) | (with_reducible refine Below.drew ?_) | (with_reducible refine below_ext_of ?_ (by first | exact Nat.le_refl _ | assumption | (simp only [World.size_alloc, World.size_setCell, size_ext, World.heap_drewN]; omega)) _ _) | (with_reducible refine Below.alloc ?_ (by first | exact Nat.le_refl _ | assumption | (simp only [World.size_alloc, World.size_setCell, size_ext, World.heap_drewN]; omega)) _) | (with_reducible refine Below.setCell ?_ (by first | exact Nat.le_refl _ | assumption | (simp only [World.size_alloc, World.size_setCell, size_ext, World.heap_drewN]; omega)) _)))) (RZ1.out.below (by repeat (first | (with_reducible exact Below.refl _ _) | (with_reducible assumption) | (with_reducible refine below_drewN ?_ _) | (with_reducible refine Below.drew ?_) | (with_reducible refine below_ext_of ?_ (by first | exact Nat.le_refl _ | assumption | (simp only [World.size_alloc, World.size_setCell, size_ext, World.heap_drewN]; omega)) _ _) | (with_reducible refine Below.alloc ?_ (by first | exact Nat.le_refl _ | assumption | (simp only [World.size_alloc, World.size_setCell, size_ext, World.heap_drewN]; omega)) _) | (with_reducible refine Below.setCell ?_ (by first | exact Nat.le_refl _ | assumption | (simp only [World.size_alloc, World.size_setCell, size_ext, World.heap_drewN]; omega)) _)))) (RZ2.out.below (by repeat (first | (with_reducible exact Below.refl _ _) | (with_reducible assumption) | (with_reducible refine below_drewN ?_ _) | (with_reducible refine Below.drew ?_) | (with_reducible refine below_ext_of ?_ (by first | exact Nat.le_refl _ | assumption | (simp only [World.size_alloc, World.size_setCell, size_ext, World.heap_drewN]; omega)) _ _) | (with_reducible refine Below.alloc ?_ (by first | exact Nat.le_refl _ | assumption | (simp only [World.size_alloc, World.size_setCell, size_ext, World.heap_drewN]; omega)) _) | (with_reducible refine Below.setCell ?_ (by first | exact Nat.le_refl _ | assumption | (simp only [World.size_alloc, World.size_setCell, size_ext, World.heap_drewN]; omega)) _)))) I_a1.out I_x3.out HZ5.out).mono ?_
                rintro e W6 ⟨hb, p5, s5, q5, t5, rfl, r1, r2⟩
                have hB : Below W5.heap.size W5 W6 := Below.trans (by repeat (first | (with_reducible exact Below.refl _ _) | (with_reducible assumption) | (with_reducible refine below_drewN ?_ _) | (with_reducible refine Below.drew ?_) | (with_reducible refine below_ext_of ?_ (by first | exact Nat.le_refl _ | assumption | (simp only [World.size_alloc, World.size_setCell, size_ext, World.heap_drewN]; omega)) _ _) | (with_reducible refine Below.alloc ?_ (by first | exact Nat.le_refl _ | assumption | (simp only [World.size_alloc, World.size_setCell, size_ext, World.heap_drewN]; omega)) _) | (with_reducible refine Below.setCell ?_ (by first | exact Nat.le_refl _ | assumption | (simp only [World.size_alloc, World.size_setCell, size_ext, World.heap_drewN]; omega)) _))) (hb.mono (by simp [go_sem] <;> omega))
                replace RA1 := Lib.hid (RA1.out.below hB)
                replace RA2 := Lib.hid (RA2.out.below hB)
                replace RB1 := Lib.hid (RB1.out.below hB)
                replace RB2 := Lib.hid (RB2.out.below hB)
                replace RC1 := Lib.hid (RC1.out.below hB)
                replace RC2 := Lib.hid (RC2.out.below hB)
                replace RX1 := Lib.hid (RX1.out.below hB)
                replace RX2 := Lib.hid (RX2.out.below hB)
                replace RY1 := Lib.hid (RY1.out.below hB)
                replace RY2 := Lib.hid (RY2.out.below hB)
                replace RZ1 := Lib.hid (RZ1.out.below hB)
                replace RZ2 := Lib.hid (RZ2.out.below hB)
                replace RP1 := Lib.hid (RP1.out.below hB)
                replace RP2 := Lib.hid (RP2.out.below hB)
                replace HVB := Lib.hid (HVB.out.trans (hB.mono HVB.out.size))
                replace Ka0 := keep_cell hB Na Ka0
                replace Ka1 := keep_cell hB Na Ka1
                replace Na := Nat.lt_of_lt_of_le Na hB.size
                replace Kb0 := keep_cell hB Nb Kb0
                replace Kb1 := keep_cell hB Nb Kb1
                replace Nb := Nat.lt_of_lt_of_le Nb hB.size
                replace Kc0 := keep_cell hB Nc Kc0
                replace Kc1 := keep_cell hB Nc Kc1
                replace Nc := Nat.lt_of_lt_of_le Nc hB.size
                replace Kx0 := keep_cell hB Nx Kx0
                replace Kx1 := keep_cell hB Nx Kx1
                replace Nx := Nat.lt_of_lt_of_le Nx hB.size
                replace Ky0 := keep_cell hB Ny Ky0
                replace Ky1 := keep_cell hB Ny Ky1
                replace Ny := Nat.lt_of_lt_of_le Ny hB.size
                replace Kz0 := keep_cell hB Nz Kz0
                replace Kz1 := keep_cell hB Nz Kz1
                replace Nz := Nat.lt_of_lt_of_le Nz hB.size
                have Kp0 : W6.cell? ⟨W5.heap.size, 0, none⟩ = some (.slice p4 x4.length s4) := keep_cell hb (by simp [go_sem] <;> omega) (by simp [go_sem])
                have Kp1 : W6.cell? ⟨W5.heap.size, 1, none⟩ = some (.slice q4 y4.length t4) := keep_cell hb (by simp [go_sem] <;> omega) (by simp [go_sem])
                have Np : W5.heap.size < W6.heap.size := Nat.lt_of_lt_of_le (by simp [go_sem] <;> omega) hb.size
                replace HBR := Lib.hid (HBR.out.trans (hB.mono HBR.out.size))
                have RQ1 := Lib.hid r1
                have RQ2 := Lib.hid r2
                clear r1 r2
                obtain ⟨Bp, hkp⟩ : ∃ b, b = W5.heap.size := ⟨_, rfl⟩
                rw [← hkp] at Kp0 Kp1 Np ⊢
                clear hkp
                clear hb hB
                by_cases hE4 : E4 = 0
                · subst hE4
                  by_cases hE5 : E5 = 0
                  · subst hE5
                    have hass := zip_assoc (op := 3) (by decide) (a := a1) (b := a2) (c := b1) (d := b2) (e := c1) (f := c2) (by rw [HZ1.out]) (by rw [HZ3.out]) (by rw [HZ1.out]; show (zipF 3 x1 y1 c1 c2).2.2 = 0; rw [HZ4.out]) (by rw [HZ3.out]; show (zipF 3 a1 a2 x3 y3).2.2 = 0; rw [HZ5.out])
                    rw [HZ1.out, HZ3.out] at hass
                    have HAS : Hid (x4 = x5 ∧ y4 = y5) := Lib.hid (by
                      have h := hass
                      simp only at h
                      rw [HZ4.out, HZ5.out] at h
                      exact h)
                    clear hass
                    go_wp2_with fail
                    refine (Equal_same _ _ _ _ _ x4 y4 x5 y5 (RP1.out.below (by repeat (first | (with_reducible exact Below.refl _ _) | (with_reducible assumption) | (with_reducible refine below_drewN ?_ _) | (with_reducible refine Below.drew ?_) | (with_reducible refine below_ext_of ?_ (by first | exact Nat.le_refl _ | assumption | (simp only [World.size_alloc, World.size_setCell, size_ext, World.heap_drewN]; omega)) _ _) | (with_reducible refine Below.alloc ?_ (by first | exact Nat.le_refl _ | assumption | (simp only [World.size_alloc, World.size_setCell, size_ext, World.heap_drewN]; omega)) _) | (with_reducible refine Below.setCell ?_ (by first | exact Nat.le_refl _ | assumption | (simp only [World.size_alloc, World.size_setCell, size_ext, World.heap_drewN]; omega)) _)))) (RP2.out.below (by repeat (first | (with_reducible exact Below.refl _ _) | (with_reducible assumption) | (with_reducible refine below_drewN ?_ _) | (with_reducible refine Below.drew ?_) | (with_reducible refine below_ext_of ?_ (by first | exact Nat.le_refl _ | assumption | (simp only [World.size_alloc, World.size_setCell, size_ext, World.heap_drewN]; omega)) _ _) | (with_reducible refine Below.alloc ?_ (by first | exact Nat.le_refl _ | assumption | (simp only [World.size_alloc, World.size_setCell, size_ext, World.heap_drewN]; omega)) _) | (with_reducible refine Below.setCell ?_ (by first | exact Nat.le_refl _ | assumption | (simp only [World.size_alloc, World.size_setCell, size_ext, World.heap_drewN]; omega)) _)))) (RQ1.out.below (by repeat (first | (with_reducible exact Below.refl _ _) | (with_reducible assumption) | (with_reducible refine below_drewN ?_ _) | (with_reducible refine Below.drew ?_) | (with_reducible refine below_ext_of ?_ (by first | exact Nat.le_refl _ | assumption | (simp only [World.size_alloc, World.size_setCell, size_ext, World.heap_drewN]; omega)) _ _) | (with_reducible refine Below.alloc ?_ (by first | exact Nat.le_refl _ | assumption | (simp only [World.size_alloc, World.size_setCell, size_ext, World.heap_drewN]; omega)) _) | (with_reducible refine Below.setCell ?_ (by first | exact Nat.le_refl _ | assumption | (simp only [World.size_alloc, World.size_setCell, size_ext, World.heap_drewN]; omega)) _)))) (RQ2.out.below (by repeat (first | (with_reducible exact Below.refl _ _) | (with_reducible assumption) | (with_reducible refine below_drewN ?_ _) | (with_reducible refine Below.drew ?_) | (with_reducible refine below_ext_of ?_ (by first | exact Nat.le_refl _ | assumption | (simp only [World.size_alloc, World.size_setCell, size_ext, World.heap_drewN]; omega)) _ _) | (with_reducible refine Below.alloc ?_ (by first | exact Nat.le_refl _ | assumption | (simp only [World.size_alloc, World.size_setCell, size_ext, World.heap_drewN]; omega)) _) | (with_reducible refine Below.setCell ?_ (by first | exact Nat.le_refl _ | assumption | (simp only [World.size_alloc, World.size_setCell, size_ext, World.heap_drewN]; omega)) _)))) HAS.out.1 HAS.out.2).mono ?_
                    rintro e W7 ⟨rfl, hb⟩
                    have hB : Below W6.heap.size W6 W7 := Below.trans (by repeat (first | (with_reducible exact Below.refl _ _) | (with_reducible assumption) | (with_reducible refine below_drewN ?_ _) | (with_reducible refine Below.drew ?_) | (with_reducible refine below_ext_of ?_ (by first | exact Nat.le_refl _ | assumption | (simp only [World.size_alloc, World.size_setCell, size_ext, World.heap_drewN]; omega)) _ _) | (with_reducible refine Below.alloc ?_ (by first | exact Nat.le_refl _ | assumption | (simp only [World.size_alloc, World.size_setCell, size_ext, World.heap_drewN]; omega)) _) | (with_reducible refine Below.setCell ?_ (by first | exact Nat.le_refl _ | assumption | (simp only [World.size_alloc, World.size_setCell, size_ext, World.heap_drewN]; omega)) _))) (hb.mono (by simp [go_sem] <;> omega))
                    replace RA1 := Lib.hid (RA1.out.below hB)
                    replace RA2 := Lib.hid (RA2.out.below hB)
                    replace RB1 := Lib.hid (RB1.out.below hB)
                    replace RB2 := Lib.hid (RB2.out.below hB)
                    replace RC1 := Lib.hid (RC1.out.below hB)
                    replace RC2 := Lib.hid (RC2.out.below hB)
                    replace RX1 := Lib.hid (RX1.out.below hB)
                    replace RX2 := Lib.hid (RX2.out.below hB)
                    replace RY1 := Lib.hid (RY1.out.below hB)
                    replace RY2 := Lib.hid (RY2.out.below hB)
                    replace RZ1 := Lib.hid (RZ1.out.below hB)
                    replace RZ2 := Lib.hid (RZ2.out.below hB)
                    replace RP1 := Lib.hid (RP1.out.below hB)
                    replace RP2 := Lib.hid (RP2.out.below hB)
                    replace RQ1 := Lib.hid (RQ1.out.below hB)
                    replace RQ2 := Lib.hid (RQ2.out.below hB)
                    replace HVB := Lib.hid (HVB.out.trans (hB.mono HVB.out.size))
                    replace Ka0 := keep_cell hB Na Ka0
                    replace Ka1 := keep_cell hB Na Ka1
                    replace Na := Nat.lt_of_lt_of_le Na hB.size
                    replace Kb0 := keep_cell hB Nb Kb0
                    replace Kb1 := keep_cell hB Nb Kb1
                    replace Nb := Nat.lt_of_lt_of_le Nb hB.size
                    replace Kc0 := keep_cell hB Nc Kc0
                    replace Kc1 := keep_cell hB Nc Kc1
                    replace Nc := Nat.lt_of_lt_of_le Nc hB.size
                    replace Kx0 := keep_cell hB Nx Kx0
                    replace Kx1 := keep_cell hB Nx Kx1
                    replace Nx := Nat.lt_of_lt_of_le Nx hB.size
                    replace Ky0 := keep_cell hB Ny Ky0
                    replace Ky1 := keep_cell hB Ny Ky1
                    replace Ny := Nat.lt_of_lt_of_le Ny hB.size
                    replace Kz0 := keep_cell hB Nz Kz0
                    replace Kz1 := keep_cell hB Nz Kz1
                    replace Nz := Nat.lt_of_lt_of_le Nz hB.size
                    replace Kp0 := keep_cell hB Np Kp0
                    replace Kp1 := keep_cell hB Np Kp1
                    replace Np := Nat.lt_of_lt_of_le Np hB.size
                    have Kq0 : W7.cell? ⟨W6.heap.size, 0, none⟩ = some (.slice p5 x5.length s5) := keep_cell hb (by simp [go_sem] <;> omega) (by simp [go_sem])
                    have Kq1 : W7.cell? ⟨W6.heap.size, 1, none⟩ = some (.slice q5 y5.length t5) := keep_cell hb (by simp [go_sem] <;> omega) (by simp [go_sem])
                    have Nq : W6.heap.size < W7.heap.size := Nat.lt_of_lt_of_le (by simp [go_sem] <;> omega) hb.size
                    replace HBR := Lib.hid (HBR.out.trans (hB.mono HBR.out.size))
                    obtain ⟨Bq, hkq⟩ : ∃ b, b = W6.heap.size := ⟨_, rfl⟩
                    rw [← hkq] at Kq0 Kq1 Nq ⊢
                    clear hkq
                    clear hb hB
                    go_wp2_with fail
                    go_roundw
                    case measure => decide
                    case rel => exact ⟨4, rfl, by decide, by decide, Lib.hid (HBR.out.trans (Below.mono (by repeat (first | (with_reducible exact Below.refl _ _) | (with_reducible assumption) | (with_reducible refine below_drewN ?_ _) | (with_reducible refine Below.drew ?_) | (with_reducible refine below_ext_of ?_ (by first | exact Nat.le_refl _ | assumption | (simp only [World.size_alloc, World.size_setCell, size_ext, World.heap_drewN]; omega)) _ _) | (with_reducible refine Below.alloc ?_ (by first | exact Nat.le_refl _ | assumption | (simp only [World.size_alloc, World.size_setCell, size_ext, World.heap_drewN]; omega)) _) | (with_reducible refine Below.setCell ?_ (by first | exact Nat.le_refl _ | assumption | (simp only [World.size_alloc, World.size_setCell, size_ext, World.heap_drewN]; omega)) _))) HBR.out.size))⟩
                  · have e5a : (E5 != 0) = true := bne_iff_ne.2 hE5
                    have e5b : (E5 == 0) = false := beq_false_of_ne hE5
                    clear hE5
                    go_wp2_with fail
                    go_roundw
                    case measure => decide
                    case rel => exact ⟨4, rfl, by decide, by decide, Lib.hid (HBR.out.trans (Below.mono (by repeat (first | (with_reducible exact Below.refl _ _) | (with_reducible assumption) | (with_reducible refine below_drewN ?_ _) | (with_reducible refine Below.drew ?_) | (with_reducible refine below_ext_of ?_ (by first | exact Nat.le_refl _ | assumption | (simp only [World.size_alloc, World.size_setCell, size_ext, World.heap_drewN]; omega)) _ _) | (with_reducible refine Below.alloc ?_ (by first | exact Nat.le_refl _ | assumption | (simp only [World.size_alloc, World.size_setCell, size_ext, World.heap_drewN]; omega)) _) | (with_reducible refine Below.setCell ?_ (by first | exact Nat.le_refl _ | assumption | (simp only [World.size_alloc, World.size_setCell, size_ext, World.heap_drewN]; omega)) _))) HBR.out.size))⟩
                · have e4a : (E4 != 0) = true := bne_iff_ne.2 hE4
                  have e4b : (E4 == 0) = false := beq_false_of_ne hE4
                  clear hE4
                  go_wp2_with fail
                  go_roundw
                  case measure => decide
                  case rel => exact ⟨4, rfl, by decide, by decide, Lib.hid (HBR.out.trans (Below.mono (by repeat (first | (with_reducible exact Below.refl _ _) | (with_reducible assumption) | (with_reducible refine below_drewN ?_ _) | (with_reducible refine Below.drew ?_) | (with_reducible refine below_ext_of ?_ (by first | exact Nat.le_refl _ | assumption | (simp only [World.size_alloc, World.size_setCell, size_ext, World.heap_drewN]; omega)) _ _) | (with_reducible refine Below.alloc ?_ (by first | exact Nat.le_refl _ | assumption | (simp only [World.size_alloc, World.size_setCell, size_ext, World.heap_drewN]; omega)) _) | (with_reducible refine Below.setCell ?_ (by first | exact Nat.le_refl _ | assumption | (simp only [World.size_alloc, World.size_setCell, size_ext, World.heap_drewN]; omega)) _))) HBR.out.size))⟩
              · have e3a : (E3 != 0) = true := bne_iff_ne.2 hE3
                have e3b : (E3 == 0) = false := beq_false_of_ne hE3
                clear hE3
                go_wp2_with fail
                go_roundw
                case measure => decide
                case rel => exact ⟨4, rfl, by decide, by decide, Lib.hid (HBR.out.trans (Below.mono (by repeat (first | (with_reducible exact Below.refl _ _) | (with_reducible assumption) | (with_reducible refine below_drewN ?_ _) | (with_reducible refine Below.drew ?_) | (with_reducible refine below_ext_of ?_ (by first | exact Nat.le_refl _ | assumption | (simp only [World.size_alloc, World.size_setCell, size_ext, World.heap_drewN]; omega)) _ _) | (with_reducible refine Below.alloc ?_ (by first | exact Nat.le_refl _ | assumption | (simp only [World.size_alloc, World.size_setCell, size_ext, World.heap_drewN]; omega)) _) | (with_reducible refine Below.setCell ?_ (by first | exact Nat.le_refl _ | assumption | (simp only [World.size_alloc, World.size_setCell, size_ext, World.heap_drewN]; omega)) _))) HBR.out.size))⟩
            · have e1a : (E1 != 0) = true := bne_iff_ne.2 hE1
              have e1b : (E1 == 0) = false := beq_false_of_ne hE1
              clear hE1
              go_wp2_with fail
              go_roundw
              case measure => decide
              case rel => exact ⟨4, rfl, by decide, by decide, Lib.hid (HBR.out.trans (Below.mono (by repeat (first | (with_reducible exact Below.refl _ _) | (with_reducible assumption) | (with_reducible refine below_drewN ?_ _) | (with_reducible refine Below.drew ?_) | (with_reducible refine below_ext_of ?_ (by first | exact Nat.le_refl _ | assumption | (simp only [World.size_alloc, World.size_setCell, size_ext, World.heap_drewN]; omega)) _ _) | (with_reducible refine Below.alloc ?_ (by first | exact Nat.le_refl _ | assumption | (simp only [World.size_alloc, World.size_setCell, size_ext, World.heap_drewN]; omega)) _) | (with_reducible refine Below.setCell ?_ (by first | exact Nat.le_refl _ | assumption | (simp only [World.size_alloc, World.size_setCell, size_ext, World.heap_drewN]; omega)) _))) HBR.out.size))⟩
          · clear ho1 ho2
            replace RA1 := Lib.hid (RA1.out.below hB.out)
            replace RA2 := Lib.hid (RA2.out.below hB.out)
            replace RB1 := Lib.hid (RB1.out.below hB.out)
            replace RB2 := Lib.hid (RB2.out.below hB.out)
            replace RC1 := Lib.hid (RC1.out.below hB.out)
            replace RC2 := Lib.hid (RC2.out.below hB.out)
            replace Ka0 := keep_cell hB.out Na Ka0
            replace Ka1 := keep_cell hB.out Na Ka1
            replace Na := Nat.lt_of_lt_of_le Na hB.out.size
            replace Kb0 := keep_cell hB.out Nb Kb0
            replace Kb1 := keep_cell hB.out Nb Kb1
            replace Nb := Nat.lt_of_lt_of_le Nb hB.out.size
            replace Kc0 := keep_cell hB.out Nc Kc0
            replace Kc1 := keep_cell hB.out Nc Kc1
            replace Nc := Nat.lt_of_lt_of_le Nc hB.out.size
            replace HVB := Lib.hid (HVB.out.trans (hB.out.mono HVB.out.size))
            have HBR := Lib.hid hB.out
            clear hB
            obtain ⟨⟨x1, y1, E1⟩, hz1⟩ : ∃ r, zipF 4 a1 a2 b1 b2 = r := ⟨_, rfl⟩
            have HZ1 := Lib.hid hz1
            clear hz1
            go_wp2_with fail
            refine (zip_any4 _ _ _ _ _ a1 a2 b1 b2 x1 y1 E1 (RA1.out.below (by repeat (first | (with_reducible exact Below.refl _ _) | (with_reducible assumption) | (with_reducible refine below_drewN ?_ _) | (with_reducible refine Below.drew ?_) | (with_reducible refine below_ext_of ?_ (by first | exact Nat.le_refl _ | assumption | (simp only [World.size_alloc, World.size_setCell, size_ext, World.heap_drewN]; omega)) _ _) | (with_reducible refine Below.alloc ?_ (by first | exact Nat.le_refl _ | assumption | (simp only [World.size_alloc, World.size_setCell, size_ext, World.heap_drewN]; omega)) _) | (with_reducible refine Below.setCell ?_ (by first | exact Nat.le_refl _ | assumption | (simp only [World.size_alloc, World.size_setCell, size_ext, World.heap_drewN]; omega)) _)))) (RA2.out.below (by repeat (first | (with_reducible exact Below.refl _ _) | (with_reducible assumption) | (with_reducible refine below_drewN ?_ _) | (with_reducible refine Below.drew ?_) | (with_reducible refine below_ext_of ?_ (by first | exact Nat.le_refl _ | assumption | (simp only [World.size_alloc, World.size_setCell, size_ext, World.heap_drewN]; omega)) _ _) | (with_reducible refine Below.alloc ?_ (by first | exact Nat.le_refl _ | assumption | (simp only [World.size_alloc, World.size_setCell, size_ext, World.heap_drewN]; omega)) _) | (with_reducible refine Below.setCell ?_ (by first | exact Nat.le_refl _ | assumption | (simp only [World.size_alloc, World.size_setCell, size_ext, World.heap_drewN]; omega)) _)))) (RB1.out.below (by repeat (first | (with_reducible exact Below.refl _ _) | (with_reducible assumption) | (with_reducible refine below_drewN ?_ _) | (with_reducible refine Below.drew ?_) | (with_reducible refine below_ext_of ?_ (by first | exact Nat.le_refl _ | assumption | (simp only [World.size_alloc, World.size_setCell, size_ext, World.heap_drewN]; omega)) _ _) | (with_reducible refine Below.alloc ?_ (by first | exact Nat.le_refl _ | assumption | (simp only [World.size_alloc, World.size_setCell, size_ext, World.heap_drewN]; omega)) _) | (with_reducible refine Below.setCell ?_ (by first | exact Nat.le_refl _ | assumption | (simp only [World.size_alloc, World.size_setCell, size_ext, World.heap_drewN]; omega)) _)))) (RB2.out.below (by repeat (first | (with_reducible exact Below.refl _ _) | (with_reducible assumption) | (with_reducible refine below_drewN ?_ _) | (with_reducible refine Below.drew ?_) | (with_reducible refine below_ext_of ?_ (by first | exact Nat.le_refl _ | assumption | (simp only [World.size_alloc, World.size_setCell, size_ext, World.heap_drewN]; omega)) _ _) | (with_reducible refine Below.alloc ?_ (by first | exact Nat.le_refl _ | assumption | (simp only [World.size_alloc, World.size_setCell, size_ext, World.heap_drewN]; omega)) _) | (with_reducible refine Below.setCell ?_ (by first | exact Nat.le_refl _ | assumption | (simp only [World.size_alloc, World.size_setCell, size_ext, World.heap_drewN]; omega)) _)))) I_a1.out I_b1.out HZ1.out).mono ?_
            rintro e W1 ⟨hb, p1, s1, q1, t1, rfl, r1, r2⟩
            have hB : Below wr.heap.size wr W1 := Below.trans (by repeat (first | (with_reducible exact Below.refl _ _) | (with_reducible assumption) | (with_reducible refine below_drewN ?_ _) | (with_reducible refine Below.drew ?_) | (with_reducible refine below_ext_of ?_ (by first | exact Nat.le_refl _ | assumption | (simp only [World.size_alloc, World.size_setCell, size_ext, World.heap_drewN]; omega)) _ _) | (with_reducible refine Below.alloc ?_ (by first | exact Nat.le_refl _ | assumption | (simp only [World.size_alloc, World.size_setCell, size_ext, World.heap_drewN]; omega)) _) | (with_reducible refine Below.setCell ?_ (by first | exact Nat.le_refl _ | assumption | (simp only [World.size_alloc, World.size_setCell, size_ext, World.heap_drewN]; omega)) _))) (hb.mono (by simp [go_sem] <;> omega))
            replace RA1 := Lib.hid (RA1.out.below hB)
            replace RA2 := Lib.hid (RA2.out.below hB)
            replace RB1 := Lib.hid (RB1.out.below hB)
            replace RB2 := Lib.hid (RB2.out.below hB)
            replace RC1 := Lib.hid (RC1.out.below hB)
            replace RC2 := Lib.hid (RC2.out.below hB)
            replace HVB := Lib.hid (HVB.out.trans (hB.mono HVB.out.size))
            replace Ka0 := keep_cell hB Na Ka0
            replace Ka1 := keep_cell hB Na Ka1
            replace Na := Nat.lt_of_lt_of_le Na hB.size
            replace Kb0 := keep_cell hB Nb Kb0
            replace Kb1 := keep_cell hB Nb Kb1
            replace Nb := Nat.lt_of_lt_of_le Nb hB.size
            replace Kc0 := keep_cell hB Nc Kc0
            replace Kc1 := keep_cell hB Nc Kc1
            replace Nc := Nat.lt_of_lt_of_le Nc hB.size
            replace HBR := Lib.hid (HBR.out.trans (hB.mono HBR.out.size))
            have RX1 := Lib.hid r1
            have RX2 := Lib.hid r2
            clear r1 r2
            clear hb hB
            go_wp2_with fail
            refine (zip_swap4 _ _ _ _ _ b1 b2 a1 a2 x1 y1 E1 (RB1.out.below (by repeat (first | (with_reducible exact Below.refl _ _) | (with_reducible assumption) | (with_reducible refine below_drewN ?_ _) | (with_reducible refine Below.drew ?_) | (with_reducible refine below_ext_of ?_ (by first | exact Nat.le_refl _ | assumption | (simp only [World.size_alloc, World.size_setCell, size_ext, World.heap_drewN]; omega)) _ _) | (with_reducible refine Below.alloc ?_ (by first | exact Nat.le_refl _ | assumption | (simp only [World.size_alloc, World.size_setCell, size_ext, World.heap_drewN]; omega)) _) | (with_reducible refine Below.setCell ?_ (by first | exact Nat.le_refl _ | assumption | (simp only [World.size_alloc, World.size_setCell, size_ext, World.heap_drewN]; omega)) _)))) (RB2.out.below (by repeat (first | (with_reducible exact Below.refl _ _) | (with_reducible assumption) | (with_reducible refine below_drewN ?_ _) | (with_reducible refine Below.drew ?_) | (with_reducible refine below_ext_of ?_ (by first | exact Nat.le_refl _ | assumption | (simp only [World.size_alloc, World.size_setCell, size_ext, World.heap_drewN]; omega)) _ _) | (with_reducible refine Below.alloc ?_ (by first | exact Nat.le_refl _ | assumption | (simp only [World.size_alloc, World.size_setCell, size_ext, World.heap_drewN]; omega)) _) | (with_reducible refine Below.setCell ?_ (by first | exact Nat.le_refl _ | assumption | (simp only [World.size_alloc, World.size_setCell, size_ext, World.heap_drewN]; omega)) _)))) (RA1.out.below (by repeat (first | (with_reducible exact Below.refl _ _) | (with_reducible assumption) | (with_reducible refine below_drewN ?_ _) | (with_reducible refine Below.drew ?_) | (with_reducible refine below_ext_of ?_ (by first | exact Nat.le_refl _ | assumption | (simp only [World.size_alloc, World.size_setCell, size_ext, World.heap_drewN]; omega)) _ _) | (with_reducible refine Below.alloc ?_ (by first | exact Nat.le_refl _ | assumption | (simp only [World.size_alloc, World.size_setCell, size_ext, World.heap_drewN]; omega)) _) | (with_reducible refine Below.setCell ?_ (by first | exact Nat.le_refl _ | assumption | (simp only [World.size_alloc, World.size_setCell, size_ext, World.heap_drewN]; omega)) _)))) (RA2.out.below (by repeat (first | (with_reducible exact Below.refl _ _) | (with_reducible assumption) | (with_reducible refine below_drewN ?_ _) | (with_reducible refine Below.drew ?_) | (with_reducible refine below_ext_of ?_ (by first | exact Nat.le_refl _ | assumption | (simp only [World.size_alloc, World.size_setCell, size_ext, World.heap_drewN]; omega)) _ _) | (with_reducible refine Below.alloc ?_ (by first | exact Nat.le_refl _ | assumption | (simp only [World.size_alloc, World.size_setCell, size_ext, World.heap_drewN]; omega)) _) | (with_reducible refine Below.setCell ?_ (by first | exact Nat.le_refl _ | assumption | (simp only [World.size_alloc, World.size_setCell, size_ext, World.heap_drewN]; omega)) _)))) I_b1.out I_a1.out HZ1.out).mono ?_
            rintro e W2 ⟨hb, p2, s2, q2, t2, rfl, r1, r2⟩
            have hB : Below W1.heap.size W1 W2 := Below.trans (by repeat (first | (with_reducible exact Below.refl _ _) | (with_reducible assumption) | (with_reducible refine below_drewN ?_ _) | (with_reducible refine Below.drew ?_) | (with_reducible refine below_ext_of ?_ (by first | exact Nat.le_refl _ | assumption | (simp only [World.size_alloc, World.size_setCell, size_ext, World.heap_drewN]; omega)) _ _) | (with_reducible refine Below.alloc ?_ (by first | exact Nat.le_refl _ | assumption | (simp only [World.size_alloc, World.size_setCell, size_ext, World.heap_drewN]; omega)) _) | (with_reducible refine Below.setCell ?_ (by first | exact Nat.le_refl _ | assumption | (simp only [World.size_alloc, World.size_setCell, size_ext, World.heap_drewN]; omega)) _))) (hb.mono (by simp [go_sem] <;> omega))
            replace RA1 := Lib.hid (RA1.out.below hB)
            replace RA2 := Lib.hid (RA2.out.below hB)
            replace RB1 := Lib.hid (RB1.out.below hB)
            replace RB2 := Lib.hid (RB2.out.below hB)
            replace RC1 := Lib.hid (RC1.out.below hB)
            replace RC2 := Lib.hid (RC2.out.below hB)
            replace RX1 := Lib.hid (RX1.out.below hB)
            replace RX2 := Lib.hid (RX2.out.below hB)
            replace HVB := Lib.hid (HVB.out.trans (hB.mono HVB.out.size))
            replace Ka0 := keep_cell hB Na Ka0
            replace Ka1 := keep_cell hB Na Ka1
            replace Na := Nat.lt_of_lt_of_le Na hB.size
            replace Kb0 := keep_cell hB Nb Kb0
            replace Kb1 := keep_cell hB Nb Kb1
            replace Nb := Nat.lt_of_lt_of_le Nb hB.size
            replace Kc0 := keep_cell hB Nc Kc0
            replace Kc1 := keep_cell hB Nc Kc1
            replace Nc := Nat.lt_of_lt_of_le Nc hB.size
            have Kx0 : W2.cell? ⟨W1.heap.size, 0, none⟩ = some (.slice p1 x1.length s1) := keep_cell hb (by simp [go_sem] <;> omega) (by simp [go_sem])
            have Kx1 : W2.cell? ⟨W1.heap.size, 1, none⟩ = some (.slice q1 y1.length t1) := keep_cell hb (by simp [go_sem] <;> omega) (by simp [go_sem])
            have Nx : W1.heap.size < W2.heap.size := Nat.lt_of_lt_of_le (by simp [go_sem] <;> omega) hb.size
            replace HBR := Lib.hid (HBR.out.trans (hB.mono HBR.out.size))
            have RY1 := Lib.hid r1
            have RY2 := Lib.hid r2
            clear r1 r2
            obtain ⟨Bx, hkx⟩ : ∃ b, b = W1.heap.size := ⟨_, rfl⟩
            rw [← hkx] at Kx0 Kx1 Nx ⊢
            clear hkx
            clear hb hB
            have eEE : (E1 != E1) = false := by simp
            go_wp2_with fail
            refine (Equal_same _ _ _ _ _ x1 y1 x1 y1 (RX1.out.below (by repeat (first | (with_reducible exact Below.refl _ _) | (with_reducible assumption) | (with_reducible refine below_drewN ?_ _) | (with_reducible refine Below.drew ?_) | (with_reducible refine below_ext_of ?_ (by first | exact Nat.le_refl _ | assumption | (simp only [World.size_alloc, World.size_setCell, size_ext, World.heap_drewN]; omega)) _ _) | (with_reducible refine Below.alloc ?_ (by first | exact Nat.le_refl _ | assumption | (simp only [World.size_alloc, World.size_setCell, size_ext, World.heap_drewN]; omega)) _) | (with_reducible refine Below.setCell ?_ (by first | exact Nat.le_refl _ | assumption | (simp only [World.size_alloc, World.size_setCell, size_ext, World.heap_drewN]; omega)) _)))) (RX2.out.below (by repeat (first | (with_reducible exact Below.refl _ _) | (with_reducible assumption) | (with_reducible refine below_drewN ?_ _) | (with_reducible refine Below.drew ?_) | (with_reducible refine below_ext_of ?_ (by first | exact Nat.le_refl _ | assumption | (simp only [World.size_alloc, World.size_setCell, size_ext, World.heap_drewN]; omega)) _ _) | (with_reducible refine Below.alloc ?_ (by first | exact Nat.le_refl _ | assumption | (simp only [World.size_alloc, World.size_setCell, size_ext, World.heap_drewN]; omega)) _) | (with_reducible refine Below.setCell ?_ (by first | exact Nat.le_refl _ | assumption | (simp only [World.size_alloc, World.size_setCell, size_ext, World.heap_drewN]; omega)) _)))) (RY1.out.below (by repeat (first | (with_reducible exact Below.refl _ _) | (with_reducible assumption) | (with_reducible refine below_drewN ?_ _) | (with_reducible refine Below.drew ?_) | (with_reducible refine below_ext_of ?_ (by first | exact Nat.le_refl _ | assumption | (simp only [World.size_alloc, World.size_setCell, size_ext, World.heap_drewN]; omega)) _ _) | (with_reducible refine Below.alloc ?_ (by first | exact Nat.le_refl _ | assumption | (simp only [World.size_alloc, World.size_setCell, size_ext, World.heap_drewN]; omega)) _) | (with_reducible refine Below.setCell ?_ (by first | exact Nat.le_refl _ | assumption | (simp only [World.size_alloc, World.size_setCell, size_ext, World.heap_drewN]; omega)) _)))) (RY2.out.below (by repeat (first | (with_reducible exact Below.refl _ _) | (with_reducible assumption) | (with_reducible refine below_drewN ?_ _) | (with_reducible refine Below.drew ?_) | (with_reducible refine below_ext_of ?_ (by first | exact Nat.le_refl _ | assumption | (simp only [World.size_alloc, World.size_setCell, size_ext, World.heap_drewN]; omega)) _ _) | (with_reducible refine Below.alloc ?_ (by first | exact Nat.le_refl _ | assumption | (simp only [World.size_alloc, World.size_setCell, size_ext, World.heap_drewN]; omega)) _) | (with_reducible refine Below.setCell ?_ (by first | exact Nat.le_refl _ | assumption | (simp only [World.size_alloc, World.size_setCell, size_ext, World.heap_drewN]; omega)) _)))) rfl rfl).mono ?_
            rintro e W3 ⟨rfl, hb⟩
            have hB : Below W2.heap.size W2 W3 := Below.trans (by repeat (first | (with_reducible exact Below.refl _ _) | (with_reducible assumption) | (with_reducible refine below_drewN ?_ _) | (with_reducible refine Below.drew ?_) | (with_reducible refine below_ext_of ?_ (by first | exact Nat.le_refl _ | assumption | (simp only [World.size_alloc, World.size_setCell, size_ext, World.heap_drewN]; omega)) _ _) | (with_reducible refine Below.alloc ?_ (by first | exact Nat.le_refl _ | assumption | (simp only [World.size_alloc, World.size_setCell, size_ext, World.heap_drewN]; omega)) _) | (with_reducible refine Below.setCell ?_ (by first | exact Nat.le_refl _ | assumption | (simp only [World.size_alloc, World.size_setCell, size_ext, World.heap_drewN]; omega)) _))) (hb.mono (by simp [go_sem] <;> omega))
            replace RA1 := Lib.hid (RA1.out.below hB)
            replace RA2 := Lib.hid (RA2.out.below hB)
            replace RB1 := Lib.hid (RB1.out.below hB)
            replace RB2 := Lib.hid (RB2.out.below hB)
            replace RC1 := Lib.hid (RC1.out.below hB)
            replace RC2 := Lib.hid (RC2.out.below hB)
            replace RX1 := Lib.hid (RX1.out.below hB)
            replace RX2 := Lib.hid (RX2.out.below hB)
            replace RY1 := Lib.hid (RY1.out.below hB)
            replace RY2 := Lib.hid (RY2.out.below hB)
            replace HVB := Lib.hid (HVB.out.trans (hB.mono HVB.out.size))
            replace Ka0 := keep_cell hB Na Ka0
            replace Ka1 := keep_cell hB Na Ka1
            replace Na := Nat.lt_of_lt_of_le Na hB.size
            replace Kb0 := keep_cell hB Nb Kb0
            replace Kb1 := keep_cell hB Nb Kb1
            replace Nb := Nat.lt_of_lt_of_le Nb hB.size
            replace Kc0 := keep_cell hB Nc Kc0
            replace Kc1 := keep_cell hB Nc Kc1
            replace Nc := Nat.lt_of_lt_of_le Nc hB.size
            replace Kx0 := keep_cell hB Nx Kx0
            replace Kx1 := keep_cell hB Nx Kx1
            replace Nx := Nat.lt_of_lt_of_le Nx hB.size
            have Ky0 : W3.cell? ⟨W2.heap.size, 0, none⟩ = some (.slice p2 x1.length s2) := keep_cell hb (by simp [go_sem] <;> omega) (by simp [go_sem])
            have Ky1 : W3.cell? ⟨W2.heap.size, 1, none⟩ = some (.slice q2 y1.length t2) := keep_cell hb (by simp [go_sem] <;> omega) (by simp [go_sem])
            have Ny : W2.heap.size < W3.heap.size := Nat.lt_of_lt_of_le (by simp [go_sem] <;> omega) hb.size
            replace HBR := Lib.hid (HBR.out.trans (hB.mono HBR.out.size))
            obtain ⟨By, hky⟩ : ∃ b, b = W2.heap.size := ⟨_, rfl⟩
            rw [← hky] at Ky0 Ky1 Ny ⊢
            clear hky
            clear hb hB
            clear eEE
            obtain ⟨⟨x3, y3, E3⟩, hz3⟩ : ∃ r, zipF 4 b1 b2 c1 c2 = r := ⟨_, rfl⟩
            have HZ3 := Lib.hid hz3
            clear hz3
            go_wp2_with fail
            refine (zip_any4 _ _ _ _ _ b1 b2 c1 c2 x3 y3 E3 (RB1.out.below (by repeat (first | (with_reducible exact Below.refl _ _) | (with_reducible assumption) | (with_reducible refine below_drewN ?_ _) | (with_reducible refine Below.drew ?_) | (with_reducible refine below_ext_of ?_ (by first | exact Nat.le_refl _ | assumption | (simp only [World.size_alloc, World.size_setCell, size_ext, World.heap_drewN]; omega)) _ _) | (with_reducible refine Below.alloc ?_ (by first | exact Nat.le_refl _ | assumption | (simp only [World.size_alloc, World.size_setCell, size_ext, World.heap_drewN]; omega)) _) | (with_reducible refine Below.setCell ?_ (by first | exact Nat.le_refl _ | assumption | (simp only [World.size_alloc, World.size_setCell, size_ext, World.heap_drewN]; omega)) _)))) (RB2.out.below (by repeat (first | (with_reducible exact Below.refl _ _) | (with_reducible assumption) | (with_reducible refine below_drewN ?_ _) | (with_reducible refine Below.drew ?_) | (with_reducible refine below_ext_of ?_ (by first | exact Nat.le_refl _ | assumption | (simp only [World.size_alloc, World.size_setCell, size_ext, World.heap_drewN]; omega)) _ _) | (with_reducible refine Below.alloc ?_ (by first | exact Nat.le_refl _ | assumption | (simp only [World.size_alloc, World.size_setCell, size_ext, World.heap_drewN]; omega)) _) | (with_reducible refine Below.setCell ?_ (by first | exact Nat.le_refl _ | assumption | (simp only [World.size_alloc, World.size_setCell, size_ext, World.heap_drewN]; omega)) _)))) (RC1.out.below (by repeat (first | (with_reducible exact Below.refl _ _) | (with_reducible assumption) | (with_reducible refine below_drewN ?_ _) | (with_reducible refine Below.drew ?_) | (with_reducible refine below_ext_of ?_ (by first | exact Nat.le_refl _ | assumption | (simp only [World.size_alloc, World.size_setCell, size_ext, World.heap_drewN]; omega)) _ _) | (with_reducible refine Below.alloc ?_ (by first | exact Nat.le_refl _ | assumption | (simp only [World.size_alloc, World.size_setCell, size_ext, World.heap_drewN]; omega)) _) | (with_reducible refine Below.setCell ?_ (by first | exact Nat.le_refl _ | assumption | (simp only [World.size_alloc, World.size_setCell, size_ext, World.heap_drewN]; omega)) _)))) (RC2.out.below (by repeat (first | (with_reducible exact Below.refl _ _) | (with_reducible assumption) | (with_reducible refine below_drewN ?_ _) | (with_reducible refine Below.drew ?_) | (with_reducible refine below_ext_of ?_ (by first | exact Nat.le_refl _ | assumption | (simp only [World.size_alloc, World.size_setCell, size_ext, World.heap_drewN]; omega)) _ _) | (with_reducible refine Below.alloc ?_ (by first | exact Nat.le_refl _ | assumption | (simp only [World.size_alloc, World.size_setCell, size_ext, World.heap_drewN]; omega)) _) | (with_reducible refine Below.setCell ?_ (by first | exact Nat.le_refl _ | assumption | (simp only [World.size_alloc, World.size_setCell, size_ext, World.heap_drewN]; omega)) _)))) I_b1.out I_c1.out HZ3.out).mono ?_
            rintro e W4 ⟨hb, p3, s3, q3, t3, rfl, r1, r2⟩
            have hB : Below W3.heap.size W3 W4 := Below.trans (by repeat (first | (with_reducible exact Below.refl _ _) | (with_reducible assumption) | (with_reducible refine below_drewN ?_ _) | (with_reducible refine Below.drew ?_) | (with_reducible refine below_ext_of ?_ (by first | exact Nat.le_refl _ | assumption | (simp only [World.size_alloc, World.size_setCell, size_ext, World.heap_drewN]; omega)) _ _) | (with_reducible refine Below.alloc ?_ (by first | exact Nat.le_refl _ | assumption | (simp only [World.size_alloc, World.size_setCell, size_ext, World.heap_drewN]; omega)) _) | (with_reducible refine Below.setCell ?_ (by first | exact Nat.le_refl _ | assumption | (simp only [World.size_alloc, World.size_setCell, size_ext, World.heap_drewN]; omega)) _))) (hb.mono (by simp [go_sem] <;> omega))
            replace RA1 := Lib.hid (RA1.out.below hB)
            replace RA2 := Lib.hid (RA2.out.below hB)
            replace RB1 := Lib.hid (RB1.out.below hB)
            replace RB2 := Lib.hid (RB2.out.below hB)
            replace RC1 := Lib.hid (RC1.out.below hB)
            replace RC2 := Lib.hid (RC2.out.below hB)
            replace RX1 := Lib.hid (RX1.out.below hB)
            replace RX2 := Lib.hid (RX2.out.below hB)
            replace RY1 := Lib.hid (RY1.out.below hB)
            replace RY2 := Lib.hid (RY2.out.below hB)
            replace HVB := Lib.hid (HVB.out.trans (hB.mono HVB.out.size))
            replace Ka0 := keep_cell hB Na Ka0
            replace Ka1 := keep_cell hB Na Ka1
            replace Na := Nat.lt_of_lt_of_le Na hB.size
            replace Kb0 := keep_cell hB Nb Kb0
            replace Kb1 := keep_cell hB Nb Kb1
            replace Nb := Nat.lt_of_lt_of_le Nb hB.size
            replace Kc0 := keep_cell hB Nc Kc0
            replace Kc1 := keep_cell hB Nc Kc1
            replace Nc := Nat.lt_of_lt_of_le Nc hB.size
            replace Kx0 := keep_cell hB Nx Kx0
            replace Kx1 := keep_cell hB Nx Kx1
            replace Nx := Nat.lt_of_lt_of_le Nx hB.size
            replace Ky0 := keep_cell hB Ny Ky0
            replace Ky1 := keep_cell hB Ny Ky1
            replace Ny := Nat.lt_of_lt_of_le Ny hB.size
            replace HBR := Lib.hid (HBR.out.trans (hB.mono HBR.out.size))
            have RZ1 := Lib.hid r1
            have RZ2 := Lib.hid r2
            clear r1 r2
            clear hb hB
            by_cases hE1 : E1 = 0
            · subst hE1
              by_cases hE3 : E3 = 0
              · subst hE3
                have I_x1 := Lib.hid (in64W_zip (op := 4) (by decide) I_a1.out I_b1.out HZ1.out)
                have I_x3 := Lib.hid (in64W_zip (op := 4) (by decide) I_b1.out I_c1.out HZ3.out)
                obtain ⟨⟨x4, y4, E4⟩, hz4⟩ : ∃ r, zipF 4 x1 y1 c1 c2 = r := ⟨_, rfl⟩
                have HZ4 := Lib.hid hz4
                clear hz4
                obtain ⟨⟨x5, y5, E5⟩, hz5⟩ : ∃ r, zipF 4 a1 a2 x3 y3 = r := ⟨_, rfl⟩
                have HZ5 := Lib.hid hz5
                clear hz5
                go_wp2_with fail
                refine (zip_any4 _ _ _ _ _ x1 y1 c1 c2 x4 y4 E4 (RX1.out.below (by repeat (first | (with_reducible exact Below.refl _ _) | (with_reducible assumption) | (with_reducible refine below_drewN ?_ _) | (with_reducible refine Below.drew ?_) | (with_reducible refine below_ext_of ?_ (by first | exact Nat.le_refl _ | assumption | (simp only [World.size_alloc, World.size_setCell, size_ext, World.heap_drewN]; omega)) _ _) | (with_reducible refine Below.alloc ?_ (by first | exact Nat.le_refl _ | assumption | (simp only [World.size_alloc, World.size_setCell, size_ext, World.heap_drewN]; omega)) _) | (with_reducible refine Below.setCell ?_ (by first | exact Nat.le_refl _ | assumption | (simp only [World.size_alloc, World.size_setCell, size_ext, World.heap_drewN]; omega)) _)))) (RX2.out.below (by repeat (first | (with_reducible exact Below.refl _ _) | (with_reducible assumption) | (with_reducible refine below_drewN ?_ _) | (with_reducible refine Below.drew ?_) | (with_reducible refine below_ext_of ?_ (by first | exact Nat.le_refl _ | assumption | (simp only [World.size_alloc, World.size_setCell, size_ext, World.heap_drewN]; omega)) _ _) | (with_reducible refine Below.alloc ?_ (by first | exact Nat.le_refl _ | assumption | (simp only [World.size_alloc, World.size_setCell, size_ext, World.heap_drewN]; omega)) _) | (with_reducible refine Below.setCell ?_ (by first | exact Nat.le_refl _ | assumption | (simp only [World.size_alloc, World.size_setCell, size_ext, World.heap_drewN]; omega)) _)))) (RC1.out.below (by repeat (first | (with_reducible exact Below.refl _ _) | (with_reducible assumption) | (with_reducible refine below_drewN ?_ _) | (with_reducible refine Below.drew ?_) | (with_reducible refine below_ext_of ?_ (by first | exact Nat.le_refl _ | assumption | (simp only [World.size_alloc, World.size_setCell, size_ext, World.heap_drewN]; omega)) _ _) | (with_reducible refine Below.alloc ?_ (by first | exact Nat.le_refl _ | assumption | (simp only [World.size_alloc, World.size_setCell, size_ext, World.heap_drewN]; omega)) _) | (with_reducible refine Below.setCell ?_ (by first | exact Nat.le_refl _ | assumption | (simp only [World.size_alloc, World.size_setCell, size_ext, World.heap_drewN]; omega)) _)))) (RC2.out.below (by repeat (first | (with_reducible exact Below.refl _ _) | (with_reducible assumption) | (with_reducible refine below_drewN ?_ _) | (with_reducible refine Below.drew ?_) | (with_reducible refine below_ext_of ?_ (by first | exact Nat.le_refl _ | assumption | (simp only [World.size_alloc, World.size_setCell, size_ext, World.heap_drewN]; omega)) _ _) | (with_reducible refine Below.alloc ?_ (by first | exact Nat.le_refl _ | assumption | (simp only [World.size_alloc, World.size_setCell, size_ext, World.heap_drewN]; omega)) _) | (with_reducible refine Below.setCell ?_ (by first | exact Nat.le_refl _ | assumption | (simp only [World.size_alloc, World.size_setCell, size_ext, World.heap_drewN]; omega)) _)))) I_x1.out I_c1.out HZ4.out).mono ?_
                rintro e W5 ⟨hb, p4, s4, q4, t4, rfl, r1, r2⟩
                have hB : Below W4.heap.size W4 W5 := Below.trans (by repeat (first | (with_reducible exact Below.refl _ _) | (with_reducible assumption) | (with_reducible refine below_drewN ?_ _) | (with_reducible refine Below.drew ?_) | (with_reducible refine below_ext_of ?_ (by first | exact Nat.le_refl _ | assumption | (simp only [World.size_alloc, World.size_setCell, size_ext, World.heap_drewN]; omega)) _ _) | (with_reducible refine Below.alloc ?_ (by first | exact Nat.le_refl _ | assumption | (simp only [World.size_alloc, World.size_setCell, size_ext, World.heap_drewN]; omega)) _) | (with_reducible refine Below.setCell ?_ (by first | exact Nat.le_refl _ | assumption | (simp only [World.size_alloc, World.size_setCell, size_ext, World.heap_drewN]; omega)) _))) (hb.mono (by simp [go_sem] <;> omega))
                replace RA1 := Lib.hid (RA1.out.below hB)
                replace RA2 := Lib.hid (RA2.out.below hB)
                replace RB1 := Lib.hid (RB1.out.below hB)
                replace RB2 := Lib.hid (RB2.out.below hB)
                replace RC1 := Lib.hid (RC1.out.below hB)
                replace RC2 := Lib.hid (RC2.out.below hB)
                replace RX1 := Lib.hid (RX1.out.below hB)
                replace RX2 := Lib.hid (RX2.out.below hB)
                replace RY1 := Lib.hid (RY1.out.below hB)
                replace RY2 := Lib.hid (RY2.out.below hB)
                replace RZ1 := Lib.hid (RZ1.out.below hB)
                replace RZ2 := Lib.hid (RZ2.out.below hB)
                replace HVB := Lib.hid (HVB.out.trans (hB.mono HVB.out.size))
                replace Ka0 := keep_cell hB Na Ka0
                replace Ka1 := keep_cell hB Na Ka1
                replace Na := Nat.lt_of_lt_of_le Na hB.size
                replace Kb0 := keep_cell hB Nb Kb0
                replace Kb1 := keep_cell hB Nb Kb1
                replace Nb := Nat.lt_of_lt_of_le Nb hB.size
                replace Kc0 := keep_cell hB Nc Kc0
                replace Kc1 := keep_cell hB Nc Kc1
                replace Nc := Nat.lt_of_lt_of_le Nc hB.size
                replace Kx0 := keep_cell hB Nx Kx0
                replace Kx1 := keep_cell hB Nx Kx1
                replace Nx := Nat.lt_of_lt_of_le Nx hB.size
                replace Ky0 := keep_cell hB Ny Ky0
                replace Ky1 := keep_cell hB Ny Ky1
                replace Ny := Nat.lt_of_lt_of_le Ny hB.size
                have Kz0 : W5.cell? ⟨W4.heap.size, 0, none⟩ = some (.slice p3 x3.length s3) := keep_cell hb (by simp [go_sem] <;> omega) (by simp [go_sem])
                have Kz1 : W5.cell? ⟨W4.heap.size, 1, none⟩ = some (.slice q3 y3.length t3) := keep_cell hb (by simp [go_sem] <;> omega) (by simp [go_sem])
                have Nz : W4.heap.size < W5.heap.size := Nat.lt_of_lt_of_le (by simp [go_sem] <;> omega) hb.size
                replace HBR := Lib.hid (HBR.out.trans (hB.mono HBR.out.size))
                have RP1 := Lib.hid r1
                have RP2 := Lib.hid r2
                clear r1 r2
                obtain ⟨Bz, hkz⟩ : ∃ b, b = W4.heap.size := ⟨_, rfl⟩
                rw [← hkz] at Kz0 Kz1 Nz ⊢
                clear hkz
                clear hb hB
                go_wp2_with fail
                refine (zip_any4 _ _ _ _ _ a1 a2 x3 y3 x5 y5 E5 (RA1.out.below (by repeat (first | (with_reducible exact Below.refl _ _) | (with_reducible assumption) | (with_reducible refine below_drewN ?_ _) | (with_reducible refine Below.drew ?_) | (with_reducible refine below_ext_of ?_ (by first | exact Nat.le_refl _ | assumption | (simp only [World.size_alloc, World.size_setCell, size_ext, World.heap_drewN]; omega)) _ _) | (with_reducible refine Below.alloc ?_ (by first | exact Nat.le_refl _ | assumption | (simp only [World.size_alloc, World.size_setCell, size_ext, World.heap_drewN]; omega)) _) | (with_reducible refine Below.setCell ?_ (by first | exact Nat.le_refl _ | assumption | (simp only [World.size_alloc, World.size_setCell, size_ext, World.heap_drewN]; omega)) _)))) (RA2.out.below (by repeat (first | (with_reducible exact Below.refl _ _) | (with_reducible assumption) | (with_reducible refine below_drewN ?_ _) | (with_reducible refine Below.drew ?_) | (with_reducible refine below_ext_of ?_ (by first | exact Nat.le_refl _ | assumption | (simp only [World.size_alloc, World.size_setCell, size_ext, World.heap_drewN]; omega)) _ _) | (with_reducible refine Below.alloc ?_ (by first | exact Nat.le_refl _ | assumption | (simp only [World.size_alloc, World.size_setCell, size_ext, World.heap_drewN]; omega)) _) | (with_reducible refine Below.setCell ?_ (by first | exact Nat.le_refl _ | assumption | (simp only [World.size_alloc, World.size_setCell, size_ext, World.heap_drewN]; omega)) _)))) (RZ1.out.below (by repeat (first | (with_reducible exact Below.refl _ _) | (with_reducible assumption) | (with_reducible refine below_drewN ?_ _) | (with_reducible refine Below.drew ?_) | (with_reducible refine below_ext_of ?_ (by first | exact Nat.le_refl _ | assumption | (simp only [World.size_alloc, World.size_setCell, size_ext, World.heap_drewN]; omega)) _ _) | (with_reducible refine Below.alloc ?_ (by first | exact Nat.le_refl _ | assumption | (simp only [World.size_alloc, World.size_setCell, size_ext, World.heap_drewN]; omega)) _) | (with_reducible refine Below.setCell ?_ (by first | exact Nat.le_refl _ | assumption | (simp only [World.size_alloc, World.size_setCell, size_ext, World.heap_drewN]; omega)) _)))) (RZ2.out.below (by repeat (first | (with_reducible exact Below.refl _ _) | (with_reducible assumption) | (with_reducible refine below_drewN ?_ _) | (with_reducible refine Below.drew ?_) | (with_reducible refine below_ext_of ?_ (by first | exact Nat.le_refl _ | assumption | (simp only [World.size_alloc, World.size_setCell, size_ext, World.heap_drewN]; omega)) _ _) | (with_reducible refine Below.alloc ?_ (by first | exact Nat.le_refl _ | assumption | (simp only [World.size_alloc, World.size_setCell, size_ext, World.heap_drewN]; omega)) _) | (with_reducible refine Below.setCell ?_ (by first | exact Nat.le_refl _ | assumption | (simp only [World.size_alloc, World.size_setCell, size_ext, World.heap_drewN]; omega)) _)))) I_a1.out I_x3.out HZ5.out).mono ?_
                rintro e W6 ⟨hb, p5, s5, q5, t5, rfl, r1, r2⟩
                have hB : Below W5.heap.size W5 W6 := Below.trans (by repeat (first | (with_reducible exact Below.refl _ _) | (with_reducible assumption) | (with_reducible refine below_drewN ?_ _) | (with_reducible refine Below.drew ?_) | (with_reducible refine below_ext_of ?_ (by first | exact Nat.le_refl _ | assumption | (simp only [World.size_alloc, World.size_setCell, size_ext, World.heap_drewN]; omega)) _ _) | (with_reducible refine Below.alloc ?_ (by first | exact Nat.le_refl _ | assumption | (simp only [World.size_alloc, World.size_setCell, size_ext, World.heap_drewN]; omega)) _) | (with_reducible refine Below.setCell ?_ (by first | exact Nat.le_refl _ | assumption | (simp only [World.size_alloc, World.size_setCell, size_ext, World.heap_drewN]; omega)) _))) (hb.mono (by simp [go_sem] <;> omega))
                replace RA1 := Lib.hid (RA1.out.below hB)
                replace RA2 := Lib.hid (RA2.out.below hB)
                replace RB1 := Lib.hid (RB1.out.below hB)
                replace RB2 := Lib.hid (RB2.out.below hB)
                replace RC1 := Lib.hid (RC1.out.below hB)
                replace RC2 := Lib.hid (RC2.out.below hB)
                replace RX1 := Lib.hid (RX1.out.below hB)
                replace RX2 := Lib.hid (RX2.out.below hB)
                replace RY1 := Lib.hid (RY1.out.below hB)
                replace RY2 := Lib.hid (RY2.out.below hB)
                replace RZ1 := Lib.hid (RZ1.out.below hB)
                replace RZ2 := Lib.hid (RZ2.out.below hB)
                replace RP1 := Lib.hid (RP1.out.below hB)
                replace RP2 := Lib.hid (RP2.out.below hB)
                replace HVB := Lib.hid (HVB.out.trans (hB.mono HVB.out.size))
                replace Ka0 := keep_cell hB Na Ka0
                replace Ka1 := keep_cell hB Na Ka1
                replace Na := Nat.lt_of_lt_of_le Na hB.size
                replace Kb0 := keep_cell hB Nb Kb0
                replace Kb1 := keep_cell hB Nb Kb1
                replace Nb := Nat.lt_of_lt_of_le Nb hB.size
                replace Kc0 := keep_cell hB Nc Kc0
                replace Kc1 := keep_cell hB Nc Kc1
                replace Nc := Nat.lt_of_lt_of_le Nc hB.size
                replace Kx0 := keep_cell hB Nx Kx0
                replace Kx1 := keep_cell hB Nx Kx1
                replace Nx := Nat.lt_of_lt_of_le Nx hB.size
                replace Ky0 := keep_cell hB Ny Ky0
                replace Ky1 := keep_cell hB Ny Ky1
                replace Ny := Nat.lt_of_lt_of_le Ny hB.size
                replace Kz0 := keep_cell hB Nz Kz0
                replace Kz1 := keep_cell hB Nz Kz1
                replace Nz := Nat.lt_of_lt_of_le Nz hB.size
                have Kp0 : W6.cell? ⟨W5.heap.size, 0, none⟩ = some (.slice p4 x4.length s4) := keep_cell hb (by simp [go_sem] <;> omega) (by simp [go_sem])
                have Kp1 : W6.cell? ⟨W5.heap.size, 1, none⟩ = some (.slice q4 y4.length t4) := keep_cell hb (by simp [go_sem] <;> omega) (by simp [go_sem])
                have Np : W5.heap.size < W6.heap.size := Nat.lt_of_lt_of_le (by simp [go_sem] <;> omega) hb.size
                replace HBR := Lib.hid (HBR.out.trans (hB.mono HBR.out.size))
                have RQ1 := Lib.hid r1
                have RQ2 := Lib.hid r2
                clear r1 r2
                obtain ⟨Bp, hkp⟩ : ∃ b, b = W5.heap.size := ⟨_, rfl⟩
                rw [← hkp] at Kp0 Kp1 Np ⊢
                clear hkp
                clear hb hB
                by_cases hE4 : E4 = 0
                · subst hE4
                  by_cases hE5 : E5 = 0
                  · subst hE5
                    have hass := zip_assoc (op := 4) (by decide) (a := a1) (b := a2) (c := b1) (d := b2) (e := c1) (f := c2) (by rw [HZ1.out]) (by rw [HZ3.out]) (by rw [HZ1.out]; show (zipF 4 x1 y1 c1 c2).2.2 = 0; rw [HZ4.out]) (by rw [HZ3.out]; show (zipF 4 a1 a2 x3 y3).2.2 = 0; rw [HZ5.out])
                    rw [HZ1.out, HZ3.out] at hass
                    have HAS : Hid (x4 = x5 ∧ y4 = y5) := Lib.hid (by
                      have h := hass
                      simp only at h
                      rw [HZ4.out, HZ5.out] at h
                      exact h)
                    clear hass
                    go_wp2_with fail
                    refine (Equal_same _ _ _ _ _ x4 y4 x5 y5 (RP1.out.below (by repeat (first | (with_reducible exact Below.refl _ _) | (with_reducible assumption) | (with_reducible refine below_drewN ?_ _) | (with_reducible refine Below.drew ?_) | (with_reducible refine below_ext_of ?_ (by first | exact Nat.le_refl _ | assumption | (simp only [World.size_alloc, World.size_setCell, size_ext, World.heap_drewN]; omega)) _ _) | (with_reducible refine Below.alloc ?_ (by first | exact Nat.le_refl _ | assumption | (simp only [World.size_alloc, World.size_setCell, size_ext, World.heap_drewN]; omega)) _) | (with_reducible refine Below.setCell ?_ (by first | exact Nat.le_refl _ | assumption | (simp only [World.size_alloc, World.size_setCell, size_ext, World.heap_drewN]; omega)) _)))) (RP2.out.below (by repeat (first | (with_reducible exact Below.refl _ _) | (with_reducible assumption) | (with_reducible refine below_drewN ?_ _) | (with_reducible refine Below.drew ?_) | (with_reducible refine below_ext_of ?_ (by first | exact Nat.le_refl _ | assumption | (simp only [World.size_alloc, World.size_setCell, size_ext, World.heap_drewN]; omega)) _ _) | (with_reducible refine Below.alloc ?_ (by first | exact Nat.le_refl _ | assumption | (simp only [World.size_alloc, World.size_setCell, size_ext, World.heap_drewN]; omega)) _) | (with_reducible refine Below.setCell ?_ (by first | exact Nat.le_refl _ | assumption | (simp only [World.size_alloc, World.size_setCell, size_ext, World.heap_drewN]; omega)) _)))) (RQ1.out.below (by repeat (first | (with_reducible exact Below.refl _ _) | (with_reducible assumption) | (with_reducible refine below_drewN ?_ _) | (with_reducible refine Below.drew ?_) | (with_reducible refine below_ext_of ?_ (by first | exact Nat.le_refl _ | assumption | (simp only [World.size_alloc, World.size_setCell, size_ext, World.heap_drewN]; omega)) _ _) | (with_reducible refine Below.alloc ?_ (by first | exact Nat.le_refl _ | assumption | (simp only [World.size_alloc, World.size_setCell, size_ext, World.heap_drewN]; omega)) _) | (with_reducible refine Below.setCell ?_ (by first | exact Nat.le_refl _ | assumption | (simp only [World.size_alloc, World.size_setCell, size_ext, World.heap_drewN]; omega)) _)))) (RQ2.out.below (by repeat (first | (with_reducible exact Below.refl _ _) | (with_reducible assumption) | (with_reducible refine below_drewN ?_ _) | (with_reducible refine Below.drew ?_) | (with_reducible refine below_ext_of ?_ (by first | exact Nat.le_refl _ | assumption | (simp only [World.size_alloc, World.size_setCell, size_ext, World.heap_drewN]; omega)) _ _) | (with_reducible refine Below.alloc ?_ (by first | exact Nat.le_refl _ | assumption | (simp only [World.size_alloc, World.size_setCell, size_ext, World.heap_drewN]; omega)) _) | (with_reducible refine Below.setCell ?_ (by first | exact Nat.le_refl _ | assumption | (simp only [World.size_alloc, World.size_setCell, size_ext, World.heap_drewN]; omega)) _)))) HAS.out.1 HAS.out.2).mono ?_
                    rintro e W7 ⟨rfl, hb⟩
                    have hB : Below W6.heap.size W6 W7 := Below.trans (by repeat (first | (with_reducible exact Below.refl _ _) | (with_reducible assumption) | (with_reducible refine below_drewN ?_ _) | (with_reducible refine Below.drew ?_) | (with_reducible refine below_ext_of ?_ (by first | exact Nat.le_refl _ | assumption | (simp only [World.size_alloc, World.size_setCell, size_ext, World.heap_drewN]; omega)) _ _) | (with_reducible refine Below.alloc ?_ (by first | exact Nat.le_refl _ | assumption | (simp only [World.size_alloc, World.size_setCell, size_ext, World.heap_drewN]; omega)) _) | (with_reducible refine Below.setCell ?_ (by first | exact Nat.le_refl _ | assumption | (simp only [World.size_alloc, World.size_setCell, size_ext, World.heap_drewN]; omega)) _))) (hb.mono (by simp [go_sem] <;> omega))
                    replace RA1 := Lib.hid (RA1.out.below hB)
                    replace RA2 := Lib.hid (RA2.out.below hB)
                    replace RB1 := Lib.hid (RB1.out.below hB)
                    replace RB2 := Lib.hid (RB2.out.below hB)
                    replace RC1 := Lib.hid (RC1.out.below hB)
                    replace RC2 := Lib.hid (RC2.out.below hB)
                    replace RX1 := Lib.hid (RX1.out.below hB)
                    replace RX2 := Lib.hid (RX2.out.below hB)
                    replace RY1 := Lib.hid (RY1.out.below hB)
                    replace RY2 := Lib.hid (RY2.out.below hB)
                    replace RZ1 := Lib.hid (RZ1.out.below hB)
                    replace RZ2 := Lib.hid (RZ2.out.below hB)
                    replace RP1 := Lib.hid (RP1.out.below hB)
                    replace RP2 := Lib.hid (RP2.out.below hB)
                    replace RQ1 := Lib.hid (RQ1.out.below hB)
                    replace RQ2 := Lib.hid (RQ2.out.below hB)
                    replace HVB := Lib.hid (HVB.out.trans (hB.mono HVB.out.size))
                    replace Ka0 := keep_cell hB Na Ka0
                    replace Ka1 := keep_cell hB Na Ka1
                    replace Na := Nat.lt_of_lt_of_le Na hB.size
                    replace Kb0 := keep_cell hB Nb Kb0
                    replace Kb1 := keep_cell hB Nb Kb1
                    replace Nb := Nat.lt_of_lt_of_le Nb hB.size
                    replace Kc0 := keep_cell hB Nc Kc0
                    replace Kc1 := keep_cell hB Nc Kc1
                    replace Nc := Nat.lt_of_lt_of_le Nc hB.size
                    replace Kx0 := keep_cell hB Nx Kx0
                    replace Kx1 := keep_cell hB Nx Kx1
                    replace Nx := Nat.lt_of_lt_of_le Nx hB.size
                    replace Ky0 := keep_cell hB Ny Ky0
                    replace Ky1 := keep_cell hB Ny Ky1
                    replace Ny := Nat.lt_of_lt_of_le Ny hB.size
                    replace Kz0 := keep_cell hB Nz Kz0
                    replace Kz1 := keep_cell hB Nz Kz1
                    replace Nz := Nat.lt_of_lt_of_le Nz hB.size
                    replace Kp0 := keep_cell hB Np Kp0
                    replace Kp1 := keep_cell hB Np Kp1
                    replace Np := Nat.lt_of_lt_of_le Np hB.size
                    have Kq0 : W7.cell? ⟨W6.heap.size, 0, none⟩ = some (.slice p5 x5.length s5) := keep_cell hb (by simp [go_sem] <;> omega) (by simp [go_sem])
                    have Kq1 : W7.cell? ⟨W6.heap.size, 1, none⟩ = some (.slice q5 y5.length t5) := keep_cell hb (by simp [go_sem] <;> omega) (by simp [go_sem])
                    have Nq : W6.heap.size < W7.heap.size := Nat.lt_of_lt_of_le (by simp [go_sem] <;> omega) hb.size
                    replace HBR := Lib.hid (HBR.out.trans (hB.mono HBR.out.size))
                    obtain ⟨Bq, hkq⟩ : ∃ b, b = W6.heap.size := ⟨_, rfl⟩
                    rw [← hkq] at Kq0 Kq1 Nq ⊢
                    clear hkq
                    clear hb hB
                    go_wp2_with fail
                    go_roundw
                    case measure => decide
                    case rel => exact ⟨5, rfl, by decide, by decide, Lib.hid (HBR.out.trans (Below.mono (by repeat (first | (with_reducible exact Below.refl _ _) | (with_reducible assumption) | (with_reducible refine below_drewN ?_ _) | (with_reducible refine Below.drew ?_) | (with_reducible refine below_ext_of ?_ (by first | exact Nat.le_refl _ | assumption | (simp only [World.size_alloc, World.size_setCell, size_ext, World.heap_drewN]; omega)) _ _) | (with_reducible refine Below.alloc ?_ (by first | exact Nat.le_refl _ | assumption | (simp only [World.size_alloc, World.size_setCell, size_ext, World.heap_drewN]; omega)) _) | (with_reducible refine Below.setCell ?_ (by first | exact Nat.le_refl _ | assumption | (simp only [World.size_alloc, World.size_setCell, size_ext, World.heap_drewN]; omega)) _))) HBR.out.size))⟩
                  · have e5a : (E5 != 0) = true := bne_iff_ne.2 hE5
                    have e5b : (E5 == 0) = false := beq_false_of_ne hE5
                    clear hE5
                    go_wp2_with fail
                    go_roundw
                    case measure => decide
                    case rel => exact ⟨5, rfl, by decide, by decide, Lib.hid (HBR.out.trans (Below.mono (by repeat (first | (with_reducible exact Below.refl _ _) | (with_reducible assumption) | (with_reducible refine below_drewN ?_ _) | (with_reducible refine Below.drew ?_) | (with_reducible refine below_ext_of ?_ (by first | exact Nat.le_refl _ | assumption | (simp only [World.size_alloc, World.size_setCell, size_ext, World.heap_drewN]; omega)) _ _) | (with_reducible refine Below.alloc ?_ (by first | exact Nat.le_refl _ | assumption | (simp only [World.size_alloc, World.size_setCell, size_ext, World.heap_drewN]; omega)) _) | (with_reducible refine Below.setCell ?_ (by first | exact Nat.le_refl _ | assumption | (simp only [World.size_alloc, World.size_setCell, size_ext, World.heap_drewN]; omega)) _))) HBR.out.size))⟩
                · have e4a : (E4 != 0) = true := bne_iff_ne.2 hE4
                  have e4b : (E4 == 0) = false := beq_false_of_ne hE4
                  clear hE4
                  go_wp2_with fail
                  go_roundw
                  case measure => decide
                  case rel => exact ⟨5, rfl, by decide, by decide, Lib.hid (HBR.out.trans (Below.mono (by repeat (first | (with_reducible exact Below.refl _ _) | (with_reducible assumption) | (with_reducible refine below_drewN ?_ _) | (with_reducible refine Below.drew ?_) | (with_reducible refine below_ext_of ?_ (by first | exact Nat.le_refl _ | assumption | (simp only [World.size_alloc, World.size_setCell, size_ext, World.heap_drewN]; omega)) _ _) | (with_reducible refine Below.alloc ?_ (by first | exact Nat.le_refl _ | assumption | (simp only [World.size_alloc, World.size_setCell, size_ext, World.heap_drewN]; omega)) _) | (with_reducible refine Below.setCell ?_ (by first | exact Nat.le_refl _ | assumption | (simp only [World.size_alloc, World.size_setCell, size_ext, World.heap_drewN]; omega)) _))) HBR.out.size))⟩
              · have e3a : (E3 != 0) = true := bne_iff_ne.2 hE3
                have e3b : (E3 == 0) = false := beq_false_of_ne hE3
                clear hE3
                go_wp2_with fail
                go_roundw
                case measure => decide
                case rel => exact ⟨5, rfl, by decide, by decide, Lib.hid (HBR.out.trans (Below.mono (by repeat (first | (with_reducible exact Below.refl _ _) | (with_reducible assumption) | (with_reducible refine below_drewN ?_ _) | (with_reducible refine Below.drew ?_) | (with_reducible refine below_ext_of ?_ (by first | exact Nat.le_refl _ | assumption | (simp only [World.size_alloc, World.size_setCell, size_ext, World.heap_drewN]; omega)) _ _) | (with_reducible refine Below.alloc ?_ (by first | exact Nat.le_refl _ | assumption | (simp only [World.size_alloc, World.size_setCell, size_ext, World.heap_drewN]; omega)) _) | (with_reducible refine Below.setCell ?_ (by first | exact Nat.le_refl _ | assumption | (simp only [World.size_alloc, World.size_setCell, size_ext, World.heap_drewN]; omega)) _))) HBR.out.size))⟩
            · have e1a : (E1 != 0) = true := bne_iff_ne.2 hE1
              have e1b : (E1 == 0) = false := beq_false_of_ne hE1
              clear hE1
              go_wp2_with fail
              go_roundw
              case measure => decide
              case rel => exact ⟨5, rfl, by decide, by decide, Lib.hid (HBR.out.trans (Below.mono (by repeat (first | (with_reducible exact Below.refl _ _) | (with_reducible assumption) | (with_reducible refine below_drewN ?_ _) | (with_reducible refine Below.drew ?_) | (with_reducible refine below_ext_of ?_ (by first | exact Nat.le_refl _ | assumption | (simp only [World.size_alloc, World.size_setCell, size_ext, World.heap_drewN]; omega)) _ _) | (with_reducible refine Below.alloc ?_ (by first | exact Nat.le_refl _ | assumption | (simp only [World.size_alloc, World.size_setCell, size_ext, World.heap_drewN]; omega)) _) | (with_reducible refine Below.setCell ?_ (by first | exact Nat.le_refl _ | assumption | (simp only [World.size_alloc, World.size_setCell, size_ext, World.heap_drewN]; omega)) _))) HBR.out.size))⟩
          · clear ho1 ho2
            replace RA1 := Lib.hid (RA1.out.below hB.out)
            replace RA2 := Lib.hid (RA2.out.below hB.out)
            replace RB1 := Lib.hid (RB1.out.below hB.out)
            replace RB2 := Lib.hid (RB2.out.below hB.out)
            replace RC1 := Lib.hid (RC1.out.below hB.out)
            replace RC2 := Lib.hid (RC2.out.below hB.out)
            replace Ka0 := keep_cell hB.out Na Ka0
            replace Ka1 := keep_cell hB.out Na Ka1
            replace Na := Nat.lt_of_lt_of_le Na hB.out.size
            replace Kb0 := keep_cell hB.out Nb Kb0
            replace Kb1 := keep_cell hB.out Nb Kb1
            replace Nb := Nat.lt_of_lt_of_le Nb hB.out.size
            replace Kc0 := keep_cell hB.out Nc Kc0
            replace Kc1 := keep_cell hB.out Nc Kc1
            replace Nc := Nat.lt_of_lt_of_le Nc hB.out.size
            replace HVB := Lib.hid (HVB.out.trans (hB.out.mono HVB.out.size))
            have HBR := Lib.hid hB.out
            clear hB
            obtain ⟨⟨x1, y1, E1⟩, hz1⟩ : ∃ r, zipF 3 a1 a2 b1 b2 = r := ⟨_, rfl⟩
            have HZ1 := Lib.hid hz1
            clear hz1
            obtain ⟨⟨x2, y2, E2⟩, hz2⟩ : ∃ r, zipF 4 a1 a2 b1 b2 = r := ⟨_, rfl⟩
            have HZ2 := Lib.hid hz2
            clear hz2
            obtain ⟨⟨x3, y3, E3⟩, hz3⟩ : ∃ r, zipF 1 a1 a2 b1 b2 = r := ⟨_, rfl⟩
            have HZ3 := Lib.hid hz3
            clear hz3
            go_wp2_with fail
            refine (zip_any3 _ _ _ _ _ a1 a2 b1 b2 x1 y1 E1 (RA1.out.below (by repeat (first | (with_reducible exact Below.refl _ _) | (with_reducible assumption) | (with_reducible refine below_drewN ?_ _) | (with_reducible refine Below.drew ?_) | (with_reducible refine below_ext_of ?_ (by first | exact Nat.le_refl _ | assumption | (simp only [World.size_alloc, World.size_setCell, size_ext, World.heap_drewN]; omega)) _ _) | (with_reducible refine Below.alloc ?_ (by first | exact Nat.le_refl _ | assumption | (simp only [World.size_alloc, World.size_setCell, size_ext, World.heap_drewN]; omega)) _) | (with_reducible refine Below.setCell ?_ (by first | exact Nat.le_refl _ | assumption | (simp only [World.size_alloc, World.size_setCell, size_ext, World.heap_drewN]; omega)) _)))) (RA2.out.below (by repeat (first | (with_reducible exact Below.refl _ _) | (with_reducible assumption) | (with_reducible refine below_drewN ?_ _) | (with_reducible refine Below.drew ?_) | (with_reducible refine below_ext_of ?_ (by first | exact Nat.le_refl _ | assumption | (simp only [World.size_alloc, World.size_setCell, size_ext, World.heap_drewN]; omega)) _ _) | (with_reducible refine Below.alloc ?_ (by first | exact Nat.le_refl _ | assumption | (simp only [World.size_alloc, World.size_setCell, size_ext, World.heap_drewN]; omega)) _) | (with_reducible refine Below.setCell ?_ (by first | exact Nat.le_refl _ | assumption | (simp only [World.size_alloc, World.size_setCell, size_ext, World.heap_drewN]; omega)) _)))) (RB1.out.below (by repeat (first | (with_reducible exact Below.refl _ _) | (with_reducible assumption) | (with_reducible refine below_drewN ?_ _) | (with_reducible refine Below.drew ?_) | (with_reducible refine below_ext_of ?_ (by first | exact Nat.le_refl _ | assumption | (simp only [World.size_alloc, World.size_setCell, size_ext, World.heap_drewN]; omega)) _ _) | (with_reducible refine Below.alloc ?_ (by first | exact Nat.le_refl _ | assumption | (simp only [World.size_alloc, World.size_setCell, size_ext, World.heap_drewN]; omega)) _) | (with_reducible refine Below.setCell ?_ (by first | exact Nat.le_refl _ | assumption | (simp only [World.size_alloc, World.size_setCell, size_ext, World.heap_drewN]; omega)) _)))) (RB2.out.below (by repeat (first | (with_reducible exact Below.refl _ _) | (with_reducible assumption) | (with_reducible refine below_drewN ?_ _) | (with_reducible refine Below.drew ?_) | (with_reducible refine below_ext_of ?_ (by first | exact Nat.le_refl _ | assumption | (simp only [World.size_alloc, World.size_setCell, size_ext, World.heap_drewN]; omega)) _ _) | (with_reducible refine Below.alloc ?_ (by first | exact Nat.le_refl _ | assumption | (simp only [World.size_alloc, World.size_setCell, size_ext, World.heap_drewN]; omega)) _) | (with_reducible refine Below.setCell ?_ (by first | exact Nat.le_refl _ | assumption | (simp only [World.size_alloc, World.size_setCell, size_ext, World.heap_drewN]; omega)) _)))) I_a1.out I_b1.out HZ1.out).mono ?_
            rintro e W1 ⟨hb, p1, s1, q1, t1, rfl, r1, r2⟩
            have hB : Below wr.heap.size wr W1 := Below.trans (by repeat (first | (with_reducible exact Below.refl _ _) | (with_reducible assumption) | (with_reducible refine below_drewN ?_ _) | (with_reducible refine Below.drew ?_) | (with_reducible refine below_ext_of ?_ (by first | exact Nat.le_refl _ | assumption | (simp only [World.size_alloc, World.size_setCell, size_ext, World.heap_drewN]; omega)) _ _) | (with_reducible refine Below.alloc ?_ (by first | exact Nat.le_refl _ | assumption | (simp only [World.size_alloc, World.size_setCell, size_ext, World.heap_drewN]; omega)) _) | (with_reducible refine Below.setCell ?_ (by first | exact Nat.le_refl _ | assumption | (simp only [World.size_alloc, World.size_setCell, size_ext, World.heap_drewN]; omega)) _))) (hb.mono (by simp [go_sem] <;> omega))
            replace RA1 := Lib.hid (RA1.out.below hB)
            replace RA2 := Lib.hid (RA2.out.below hB)
            replace RB1 := Lib.hid (RB1.out.below hB)
            replace RB2 := Lib.hid (RB2.out.below hB)
            replace RC1 := Lib.hid (RC1.out.below hB)
            replace RC2 := Lib.hid (RC2.out.below hB)
            replace HVB := Lib.hid (HVB.out.trans (hB.mono HVB.out.size))
            replace Ka0 := keep_cell hB Na Ka0
            replace Ka1 := keep_cell hB Na Ka1
            replace Na := Nat.lt_of_lt_of_le Na hB.size
            replace Kb0 := keep_cell hB Nb Kb0
            replace Kb1 := keep_cell hB Nb Kb1
            replace Nb := Nat.lt_of_lt_of_le Nb hB.size
            replace Kc0 := keep_cell hB Nc Kc0
            replace Kc1 := keep_cell hB Nc Kc1
            replace Nc := Nat.lt_of_lt_of_le Nc hB.size
            have RX1 := Lib.hid r1
            have RX2 := Lib.hid r2
            clear r1 r2
            clear hb hB
            go_wp2_with fail
            refine (zip_any4 _ _ _ _ _ a1 a2 b1 b2 x2 y2 E2 (RA1.out.below (by repeat (first | (with_reducible exact Below.refl _ _) | (with_reducible assumption) | (with_reducible refine below_drewN ?_ _) | (with_reducible refine Below.drew ?_) | (with_reducible refine below_ext_of ?_ (by first | exact Nat.le_refl _ | assumption | (simp only [World.size_alloc, World.size_setCell, size_ext, World.heap_drewN]; omega)) _ _) | (with_reducible refine Below.alloc ?_ (by first | exact Nat.le_refl _ | assumption | (simp only [World.size_alloc, World.size_setCell, size_ext, World.heap_drewN]; omega)) _) | (with_reducible refine Below.setCell ?_ (by first | exact Nat.le_refl _ | assumption | (simp only [World.size_alloc, World.size_setCell, size_ext, World.heap_drewN]; omega)) _)))) (RA2.out.below (by repeat (first | (with_reducible exact Below.refl _ _) | (with_reducible assumption) | (with_reducible refine below_drewN ?_ _) | (with_reducible refine Below.drew ?_) | (with_reducible refine below_ext_of ?_ (by first | exact Nat.le_refl _ | assumption | (simp only [World.size_alloc, World.size_setCell, size_ext, World.heap_drewN]; omega)) _ _) | (with_reducible refine Below.alloc ?_ (by first | exact Nat.le_refl _ | assumption | (simp only [World.size_alloc, World.size_setCell, size_ext, World.heap_drewN]; omega)) _) | (with_reducible refine Below.setCell ?_ (by first | exact Nat.le_refl _ | assumption | (simp only [World.size_alloc, World.size_setCell, size_ext, World.heap_drewN]; omega)) _)))) (RB1.out.below (by repeat (first | (with_reducible exact Below.refl _ _) | (with_reducible assumption) | (with_reducible refine below_drewN ?_ _) | (with_reducible refine Below.drew ?_) | (with_reducible refine below_ext_of ?_ (by first | exact Nat.le_refl _ | assumption | (simp only [World.size_alloc, World.size_setCell, size_ext, World.heap_drewN]; omega)) _ _) | (with_reducible refine Below.alloc ?_ (by first | exact Nat.le_refl _ | assumption | (simp only [World.size_alloc, World.size_setCell, size_ext, World.heap_drewN]; omega)) _) | (with_reducible refine Below.setCell ?_ (by first | exact Nat.le_refl _ | assumption | (simp only [World.size_alloc, World.size_setCell, size_ext, World.heap_drewN]; omega)) _)))) (RB2.out.below (by repeat (first | (with_reducible exact Below.refl _ _) | (with_reducible assumption) | (with_reducible refine below_drewN ?_ _) | (with_reducible refine Below.drew ?_) | (with_reducible refine below_ext_of ?_ (by first | exact Nat.le_refl _ | assumption | (simp only [World.size_alloc, World.size_setCell, size_ext, World.heap_drewN]; omega)) _ _) | (with_reducible refine Below.alloc ?_ (by first | exact Nat.le_refl _ | assumption | (simp only [World.size_alloc, World.size_setCell, size_ext, World.heap_drewN]; omega)) _) | (with_reducible refine Below.setCell ?_ (by first | exact Nat.le_refl _ | assumption | (simp only [World.size_alloc, World.size_setCell, size_ext, World.heap_drewN]; omega)) _)))) I_a1.out I_b1.out HZ2.out).mono ?_
            rintro e W2 ⟨hb, p2, s2, q2, t2, rfl, r1, r2⟩
            have hB : Below W1.heap.size W1 W2 := Below.trans (by repeat (first | (with_reducible exact Below.refl _ _) | (with_reducible assumption) | (with_reducible refine below_drewN ?_ _) | (with_reducible refine Below.drew ?_) | (with_reducible refine below_ext_of ?_ (by first | exact Nat.le_refl _ | assumption | (simp only [World.size_alloc, World.size_setCell, size_ext, World.heap_drewN]; omega)) _ _) | (with_reducible refine Below.alloc ?_ (by first | exact Nat.le_refl _ | assumption | (simp only [World.size_alloc, World.size_setCell, size_ext, World.heap_drewN]; omega)) _) | (with_reducible refine Below.setCell ?_ (by first | exact Nat.le_refl _ | assumption | (simp only [World.size_alloc, World.size_setCell, size_ext, World.heap_drewN]; omega)) _))) (hb.mono (by simp [go_sem] <;> omega))
            replace RA1 := Lib.hid (RA1.out.below hB)
            replace RA2 := Lib.hid (RA2.out.below hB)
            replace RB1 := Lib.hid (RB1.out.below hB)
            replace RB2 := Lib.hid (RB2.out.below hB)
            replace RC1 := Lib.hid (RC1.out.below hB)
            replace RC2 := Lib.hid (RC2.out.below hB)
            replace RX1 := Lib.hid (RX1.out.below hB)
            replace RX2 := Lib.hid (RX2.out.below hB)
            replace HVB := Lib.hid (HVB.out.trans (hB.mono HVB.out.size))
            replace Ka0 := keep_cell hB Na Ka0
            replace Ka1 := keep_cell hB Na Ka1
            replace Na := Nat.lt_of_lt_of_le Na hB.size
            replace Kb0 := keep_cell hB Nb Kb0
            replace Kb1 := keep_cell hB Nb Kb1
            replace Nb := Nat.lt_of_lt_of_le Nb hB.size
            replace Kc0 := keep_cell hB Nc Kc0
            replace Kc1 := keep_cell hB Nc Kc1
            replace Nc := Nat.lt_of_lt_of_le Nc hB.size
            have Kx0 : W2.cell? ⟨W1.heap.size, 0, none⟩ = some (.slice p1 x1.length s1) := keep_cell hb (by simp [go_sem] <;> omega) (by simp [go_sem])
            have Kx1 : W2.cell? ⟨W1.heap.size, 1, none⟩ = some (.slice q1 y1.length t1) := keep_cell hb (by simp [go_sem] <;> omega) (by simp [go_sem])
            have Nx : W1.heap.size < W2.heap.size := Nat.lt_of_lt_of_le (by simp [go_sem] <;> omega) hb.size
            have RY1 := Lib.hid r1
            have RY2 := Lib.hid r2
            clear r1 r2
            obtain ⟨Bx, hkx⟩ : ∃ b, b = W1.heap.size := ⟨_, rfl⟩
            rw [← hkx] at Kx0 Kx1 Nx ⊢
            clear hkx
            clear hb hB
            go_wp2_with fail
            refine (zip_any1 _ _ _ _ _ a1 a2 b1 b2 x3 y3 E3 (RA1.out.below (by repeat (first | (with_reducible exact Below.refl _ _) | (with_reducible assumption) | (with_reducible refine below_drewN ?_ _) | (with_reducible refine Below.drew ?_) | (with_reducible refine below_ext_of ?_ (by first | exact Nat.le_refl _ | assumption | (simp only [World.size_alloc, World.size_setCell, size_ext, World.heap_drewN]; omega)) _ _) | (with_reducible refine Below.alloc ?_ (by first | exact Nat.le_refl _ | assumption | (simp only [World.size_alloc, World.size_setCell, size_ext, World.heap_drewN]; omega)) _) | (with_reducible refine Below.setCell ?_ (by first | exact Nat.le_refl _ | assumption | (simp only [World.size_alloc, World.size_setCell, size_ext, World.heap_drewN]; omega)) _)))) (RA2.out.below (by repeat (first | (with_reducible exact Below.refl _ _) | (with_reducible assumption) | (with_reducible refine below_drewN ?_ _) | (with_reducible refine Below.drew ?_) | (with_reducible refine below_ext_of ?_ (by first | exact Nat.le_refl _ | assumption | (simp only [World.size_alloc, World.size_setCell, size_ext, World.heap_drewN]; omega)) _ _) | (with_reducible refine Below.alloc ?_ (by first | exact Nat.le_refl _ | assumption | (simp only [World.size_alloc, World.size_setCell, size_ext, World.heap_drewN]; omega)) _) | (with_reducible refine Below.setCell ?_ (by first | exact Nat.le_refl _ | assumption | (simp only [World.size_alloc, World.size_setCell, size_ext, World.heap_drewN]; omega)) _)))) (RB1.out.below (by repeat (first | (with_reducible exact Below.refl _ _) | (with_reducible assumption) | (with_reducible refine below_drewN ?_ _) | (with_reducible refine Below.drew ?_) | (with_reducible refine below_ext_of ?_ (by first | exact Nat.le_refl _ | assumption | (simp only [World.size_alloc, World.size_setCell, size_ext, World.heap_drewN]; omega)) _ _) | (with_reducible refine Below.alloc ?_ (by first | exact Nat.le_refl _ | assumption | (simp only [World.size_alloc, World.size_setCell, size_ext, World.heap_drewN]; omega)) _) | (with_reducible refine Below.setCell ?_ (by first | exact Nat.le_refl _ | assumption | (simp only [World.size_alloc, World.size_setCell, size_ext, World.heap_drewN]; omega)) _)))) (RB2.out.below (by repeat (first | (with_reducible exact Below.refl _ _) | (with_reducible assumption) | (with_reducible refine below_drewN ?_ _) | (with_reducible refine Below.drew ?_) | (with_reducible refine below_ext_of ?_ (by first | exact Nat.le_refl _ | assumption | (simp only [World.size_alloc, World.size_setCell, size_ext, World.heap_drewN]; omega)) _ _) | (with_reducible refine Below.alloc ?_ (by first | exact Nat.le_refl _ | assumption | (simp only [World.size_alloc, World.size_setCell, size_ext, World.heap_drewN]; omega)) _) | (with_reducible refine Below.setCell ?_ (by first | exact Nat.le_refl _ | assumption | (simp only [World.size_alloc, World.size_setCell, size_ext, World.heap_drewN]; omega)) _)))) I_a1.out I_b1.out HZ3.out).mono ?_
            rintro e W3 ⟨hb, p3, s3, q3, t3, rfl, r1, r2⟩
            have hB : Below W2.heap.size W2 W3 := Below.trans (by repeat (first | (with_reducible exact Below.refl _ _) | (with_reducible assumption) | (with_reducible refine below_drewN ?_ _) | (with_reducible refine Below.drew ?_) | (with_reducible refine below_ext_of ?_ (by first | exact Nat.le_refl _ | assumption | (simp only [World.size_alloc, World.size_setCell, size_ext, World.heap_drewN]; omega)) _ _) | (with_reducible refine Below.alloc ?_ (by first | exact Nat.le_refl _ | assumption | (simp only [World.size_alloc, World.size_setCell, size_ext, World.heap_drewN]; omega)) _) | (with_reducible refine Below.setCell ?_ (by first | exact Nat.le_refl _ | assumption | (simp only [World.size_alloc, World.size_setCell, size_ext, World.heap_drewN]; omega)) _))) (hb.mono (by simp [go_sem] <;> omega))
            replace RA1 := Lib.hid (RA1.out.below hB)
            replace RA2 := Lib.hid (RA2.out.below hB)
            replace RB1 := Lib.hid (RB1.out.below hB)
            replace RB2 := Lib.hid (RB2.out.below hB)
            replace RC1 := Lib.hid (RC1.out.below hB)
            replace RC2 := Lib.hid (RC2.out.below hB)
            replace RX1 := Lib.hid (RX1.out.below hB)
            replace RX2 := Lib.hid (RX2.out.below hB)
            replace RY1 := Lib.hid (RY1.out.below hB)
            replace RY2 := Lib.hid (RY2.out.below hB)
            replace HVB := Lib.hid (HVB.out.trans (hB.mono HVB.out.size))
            replace Ka0 := keep_cell hB Na Ka0
            replace Ka1 := keep_cell hB Na Ka1
            replace Na := Nat.lt_of_lt_of_le Na hB.size
            replace Kb0 := keep_cell hB Nb Kb0
            replace Kb1 := keep_cell hB Nb Kb1
            replace Nb := Nat.lt_of_lt_of_le Nb hB.size
            replace Kc0 := keep_cell hB Nc Kc0
            replace Kc1 := keep_cell hB Nc Kc1
            replace Nc := Nat.lt_of_lt_of_le Nc hB.size
            replace Kx0 := keep_cell hB Nx Kx0
            replace Kx1 := keep_cell hB Nx Kx1
            replace Nx := Nat.lt_of_lt_of_le Nx hB.size
            have Ky0 : W3.cell? ⟨W2.heap.size, 0, none⟩ = some (.slice p2 x2.length s2) := keep_cell hb (by simp [go_sem] <;> omega) (by simp [go_sem])
            have Ky1 : W3.cell? ⟨W2.heap.size, 1, none⟩ = some (.slice q2 y2.length t2) := keep_cell hb (by simp [go_sem] <;> omega) (by simp [go_sem])
            have Ny : W2.heap.size < W3.heap.size := Nat.lt_of_lt_of_le (by simp [go_sem] <;> omega) hb.size
            have RZ1 := Lib.hid r1
            have RZ2 := Lib.hid r2
            clear r1 r2
            obtain ⟨By, hky⟩ : ∃ b, b = W2.heap.size := ⟨_, rfl⟩
            rw [← hky] at Ky0 Ky1 Ny ⊢
            clear hky
            clear hb hB
            by_cases hE1 : E1 = 0
            · subst hE1
              by_cases hE2 : E2 = 0
              · subst hE2
                by_cases hE3 : E3 = 0
                · subst hE3
                  have I_x1 := Lib.hid (in64W_zip (op := 3) (by decide) I_a1.out I_b1.out HZ1.out)
                  have I_x2 := Lib.hid (in64W_zip (op := 4) (by decide) I_a1.out I_b1.out HZ2.out)
                  have HSUM : Hid (zipF 1 x1 y1 x2 y2 = (x3, y3, 0)) := Lib.hid (by
                    have h := zip_sum (a := a1) (b := a2) (c := b1) (d := b2) (by rw [HZ1.out]) (by rw [HZ2.out]) (by rw [HZ3.out])
                    rw [HZ1.out, HZ2.out, HZ3.out] at h
                    exact h)
                  go_wp2_with fail
                  refine (zip_any1 _ _ _ _ _ x1 y1 x2 y2 x3 y3 0 (RX1.out.below (by repeat (first | (with_reducible exact Below.refl _ _) | (with_reducible assumption) | (with_reducible refine below_drewN ?_ _) | (with_reducible refine Below.drew ?_) | (with_reducible refine below_ext_of ?_ (by first | exact Nat.le_refl _ | assumption | (simp only [World.size_alloc, World.size_setCell, size_ext, World.heap_drewN]; omega)) _ _) | (with_reducible refine Below.alloc ?_ (by first | exact Nat.le_refl _ | assumption | (simp only [World.size_alloc, World.size_setCell, size_ext, World.heap_drewN]; omega)) _) | (with_reducible refine Below.setCell ?_ (by first | exact Nat.le_refl _ | assumption | (simp only [World.size_alloc, World.size_setCell, size_ext, World.heap_drewN]; omega)) _)))) (RX2.out.below (by repeat (first | (with_reducible exact Below.refl _ _) | (with_reducible assumption) | (with_reducible refine below_drewN ?_ _) | (with_reducible refine Below.drew ?_) | (with_reducible refine below_ext_of ?_ (by first | exact Nat.le_refl _ | assumption | (simp only [World.size_alloc, World.size_setCell, size_ext, World.heap_drewN]; omega)) _ _) | (with_reducible refine Below.alloc ?_ (by first | exact Nat.le_refl _ | assumption | (simp only [World.size_alloc, World.size_setCell, size_ext, World.heap_drewN]; omega)) _) | (with_reducible refine Below.setCell ?_ (by first | exact Nat.le_refl _ | assumption | (simp only [World.size_alloc, World.size_setCell, size_ext, World.heap_drewN]; omega)) _)))) (RY1.out.below (by repeat (first | (with_reducible exact Below.refl _ _) | (with_reducible assumption) | (with_reducible refine below_drewN ?_ _) | (with_reducible refine Below.drew ?_) | (with_reducible refine below_ext_of ?_ (by first | exact Nat.le_refl _ | assumption | (simp only [World.size_alloc, World.size_setCell, size_ext, World.heap_drewN]; omega)) _ _) | (with_reducible refine Below.alloc ?_ (by first | exact Nat.le_refl _ | assumption | (simp only [World.size_alloc, World.size_setCell, size_ext, World.heap_drewN]; omega)) _) | (with_reducible refine Below.setCell ?_ (by first | exact Nat.le_refl _ | assumption | (simp only [World.size_alloc, World.size_setCell, size_ext, World.heap_drewN]; omega)) _)))) (RY2.out.below (by repeat (first | (with_reducible exact Below.refl _ _) | (with_reducible assumption) | (with_reducible refine below_drewN ?_ _) | (with_reducible refine Below.drew ?_) | (with_reducible refine below_ext_of ?_ (by first | exact Nat.le_refl _ | assumption | (simp only [World.size_alloc, World.size_setCell, size_ext, World.heap_drewN]; omega)) _ _) | (with_reducible refine Below.alloc ?_ (by first | exact Nat.le_refl _ | assumption | (simp only [World.size_alloc, World.size_setCell, size_ext, World.heap_drewN]; omega)) _) | (with_reducible refine Below.setCell ?_ (by first | exact Nat.le_refl _ | assumption | (simp only [World.size_alloc, World.size_setCell, size_ext, World.heap_drewN]; omega)) _)))) I_x1.out I_x2.out HSUM.out).mono ?_
                  rintro e W4 ⟨hb, p4, s4, q4, t4, rfl, r1, r2⟩
                  have hB : Below W3.heap.size W3 W4 := Below.trans (by repeat (first | (with_reducible exact Below.refl _ _) | (with_reducible assumption) | (with_reducible refine below_drewN ?_ _) | (with_reducible refine Below.drew ?_) | (with_reducible refine below_ext_of ?_ (by first | exact Nat.le_refl _ | assumption | (simp only [World.size_alloc, World.size_setCell, size_ext, World.heap_drewN]; omega)) _ _) | (with_reducible refine Below.alloc ?_ (by first | exact Nat.le_refl _ | assumption | (simp only [World.size_alloc, World.size_setCell, size_ext, World.heap_drewN]; omega)) _) | (with_reducible refine Below.setCell ?_ (by first | exact Nat.le_refl _ | assumption | (simp only [World.size_alloc, World.size_setCell, size_ext, World.heap_drewN]; omega)) _))) (hb.mono (by simp [go_sem] <;> omega))
                  replace RA1 := Lib.hid (RA1.out.below hB)
                  replace RA2 := Lib.hid (RA2.out.below hB)
                  replace RB1 := Lib.hid (RB1.out.below hB)
                  replace RB2 := Lib.hid (RB2.out.below hB)
                  replace RC1 := Lib.hid (RC1.out.below hB)
                  replace RC2 := Lib.hid (RC2.out.below hB)
                  replace RX1 := Lib.hid (RX1.out.below hB)
                  replace RX2 := Lib.hid (RX2.out.below hB)
                  replace RY1 := Lib.hid (RY1.out.below hB)
                  replace RY2 := Lib.hid (RY2.out.below hB)
                  replace RZ1 := Lib.hid (RZ1.out.below hB)
                  replace RZ2 := Lib.hid (RZ2.out.below hB)
                  replace HVB := Lib.hid (HVB.out.trans (hB.mono HVB.out.size))
                  replace Ka0 := keep_cell hB Na Ka0
                  replace Ka1 := keep_cell hB Na Ka1
                  replace Na := Nat.lt_of_lt_of_le Na hB.size
                  replace Kb0 := keep_cell hB Nb Kb0
                  replace Kb1 := keep_cell hB Nb Kb1
                  replace Nb := Nat.lt_of_lt_of_le Nb hB.size
                  replace Kc0 := keep_cell hB Nc Kc0
                  replace Kc1 := keep_cell hB Nc Kc1
                  replace Nc := Nat.lt_of_lt_of_le Nc hB.size
                  replace Kx0 := keep_cell hB Nx Kx0
                  replace Kx1 := keep_cell hB Nx Kx1
                  replace Nx := Nat.lt_of_lt_of_le Nx hB.size
                  replace Ky0 := keep_cell hB Ny Ky0
                  replace Ky1 := keep_cell hB Ny Ky1
                  replace Ny := Nat.lt_of_lt_of_le Ny hB.size
                  have Kz0 : W4.cell? ⟨W3.heap.size, 0, none⟩ = some (.slice p3 x3.length s3) := keep_cell hb (by simp [go_sem] <;> omega) (by simp [go_sem])
                  have Kz1 : W4.cell? ⟨W3.heap.size, 1, none⟩ = some (.slice q3 y3.length t3) := keep_cell hb (by simp [go_sem] <;> omega) (by simp [go_sem])
                  have Nz : W3.heap.size < W4.heap.size := Nat.lt_of_lt_of_le (by simp [go_sem] <;> omega) hb.size
                  have RT1 := Lib.hid r1
                  have RT2 := Lib.hid r2
                  clear r1 r2
                  obtain ⟨Bz, hkz⟩ : ∃ b, b = W3.heap.size := ⟨_, rfl⟩
                  rw [← hkz] at Kz0 Kz1 Nz ⊢
                  clear hkz
                  clear hb hB
                  go_wp2_with fail
                  refine (Equal_same _ _ _ _ _ x3 y3 x3 y3 (RZ1.out.below (by repeat (first | (with_reducible exact Below.refl _ _) | (with_reducible assumption) | (with_reducible refine below_drewN ?_ _) | (with_reducible refine Below.drew ?_) | (with_reducible refine below_ext_of ?_ (by first | exact Nat.le_refl _ | assumption | (simp only [World.size_alloc, World.size_setCell, size_ext, World.heap_drewN]; omega)) _ _) | (with_reducible refine Below.alloc ?_ (by first | exact Nat.le_refl _ | assumption | (simp only [World.size_alloc, World.size_setCell, size_ext, World.heap_drewN]; omega)) _) | (with_reducible refine Below.setCell ?_ (by first | exact Nat.le_refl _ | assumption | (simp only [World.size_alloc, World.size_setCell, size_ext, World.heap_drewN]; omega)) _)))) (RZ2.out.below (by repeat (first | (with_reducible exact Below.refl _ _) | (with_reducible assumption) | (with_reducible refine below_drewN ?_ _) | (with_reducible refine Below.drew ?_) | (with_reducible refine below_ext_of ?_ (by first | exact Nat.le_refl _ | assumption | (simp only [World.size_alloc, World.size_setCell, size_ext, World.heap_drewN]; omega)) _ _) | (with_reducible refine Below.alloc ?_ (by first | exact Nat.le_refl _ | assumption | (simp only [World.size_alloc, World.size_setCell, size_ext, World.heap_drewN]; omega)) _) | (with_reducible refine Below.setCell ?_ (by first | exact Nat.le_refl _ | assumption | (simp only [World.size_alloc, World.size_setCell, size_ext, World.heap_drewN]; omega)) _)))) (RT1.out.below (by repeat (first | (with_reducible exact Below.refl _ _) | (with_reducible assumption) | (with_reducible refine below_drewN ?_ _) | (with_reducible refine Below.drew ?_) | (with_reducible refine below_ext_of ?_ (by first | exact Nat.le_refl _ | assumption | (simp only [World.size_alloc, World.size_setCell, size_ext, World.heap_drewN]; omega)) _ _) | (with_reducible refine Below.alloc ?_ (by first | exact Nat.le_refl _ | assumption | (simp only [World.size_alloc, World.size_setCell, size_ext, World.heap_drewN]; omega)) _) | (with_reducible refine Below.setCell ?_ (by first | exact Nat.le_refl _ | assumption | (simp only [World.size_alloc, World.size_setCell, size_ext, World.heap_drewN]; omega)) _)))) (RT2.out.below (by repeat (first | (with_reducible exact Below.refl _ _) | (with_reducible assumption) | (with_reducible refine below_drewN ?_ _) | (with_reducible refine Below.drew ?_) | (with_reducible refine below_ext_of ?_ (by first | exact Nat.le_refl _ | assumption | (simp only [World.size_alloc, World.size_setCell, size_ext, World.heap_drewN]; omega)) _ _) | (with_reducible refine Below.alloc ?_ (by first | exact Nat.le_refl _ | assumption | (simp only [World.size_alloc, World.size_setCell, size_ext, World.heap_drewN]; omega)) _) | (with_reducible refine Below.setCell ?_ (by first | exact Nat.le_refl _ | assumption | (simp only [World.size_alloc, World.size_setCell, size_ext, World.heap_drewN]; omega)) _)))) rfl rfl).mono ?_
                  rintro e W5 ⟨rfl, hb⟩
                  have hB : Below W4.heap.size W4 W5 := Below.trans (by repeat (first | (with_reducible exact Below.refl _ _) | (with_reducible assumption) | (with_reducible refine below_drewN ?_ _) | (with_reducible refine Below.drew ?_) | (with_reducible refine below_ext_of ?_ (by first | exact Nat.le_refl _ | assumption | (simp only [World.size_alloc, World.size_setCell, size_ext, World.heap_drewN]; omega)) _ _) | (with_reducible refine Below.alloc ?_ (by first | exact Nat.le_refl _ | assumption | (simp only [World.size_alloc, World.size_setCell, size_ext, World.heap_drewN]; omega)) _) | (with_reducible refine Below.setCell ?_ (by first | exact Nat.le_refl _ | assumption | (simp only [World.size_alloc, World.size_setCell, size_ext, World.heap_drewN]; omega)) _))) (hb.mono (by simp [go_sem] <;> omega))
                  replace RA1 := Lib.hid (RA1.out.below hB)
                  replace RA2 := Lib.hid (RA2.out.below hB)
                  replace RB1 := Lib.hid (RB1.out.below hB)
                  replace RB2 := Lib.hid (RB2.out.below hB)
                  replace RC1 := Lib.hid (RC1.out.below hB)
                  replace RC2 := Lib.hid (RC2.out.below hB)
                  replace RX1 := Lib.hid (RX1.out.below hB)
                  replace RX2 := Lib.hid (RX2.out.below hB)
                  replace RY1 := Lib.hid (RY1.out.below hB)
                  replace RY2 := Lib.hid (RY2.out.below hB)
                  replace RZ1 := Lib.hid (RZ1.out.below hB)
                  replace RZ2 := Lib.hid (RZ2.out.below hB)
                  replace RT1 := Lib.hid (RT1.out.below hB)
                  replace RT2 := Lib.hid (RT2.out.below hB)
                  replace HVB := Lib.hid (HVB.out.trans (hB.mono HVB.out.size))
                  replace Ka0 := keep_cell hB Na Ka0
                  replace Ka1 := keep_cell hB Na Ka1
                  replace Na := Nat.lt_of_lt_of_le Na hB.size
                  replace Kb0 := keep_cell hB Nb Kb0
                  replace Kb1 := keep_cell hB Nb Kb1
                  replace Nb := Nat.lt_of_lt_of_le Nb hB.size
                  replace Kc0 := keep_cell hB Nc Kc0
                  replace Kc1 := keep_cell hB Nc Kc1
                  replace Nc := Nat.lt_of_lt_of_le Nc hB.size
                  replace Kx0 := keep_cell hB Nx Kx0
                  replace Kx1 := keep_cell hB Nx Kx1
                  replace Nx := Nat.lt_of_lt_of_le Nx hB.size
                  replace Ky0 := keep_cell hB Ny Ky0
                  replace Ky1 := keep_cell hB Ny Ky1
                  replace Ny := Nat.lt_of_lt_of_le Ny hB.size
                  replace Kz0 := keep_cell hB Nz Kz0
                  replace Kz1 := keep_cell hB Nz Kz1
                  replace Nz := Nat.lt_of_lt_of_le Nz hB.size
                  have Kt0 : W5.cell? ⟨W4.heap.size, 0, none⟩ = some (.slice p4 x3.length s4) := keep_cell hb (by simp [go_sem] <;> omega) (by simp [go_sem])
                  have Kt1 : W5.cell? ⟨W4.heap.size, 1, none⟩ = some (.slice q4 y3.length t4) := keep_cell hb (by simp [go_sem] <;> omega) (by simp [go_sem])
                  have Nt : W4.heap.size < W5.heap.size := Nat.lt_of_lt_of_le (by simp [go_sem] <;> omega) hb.size
                  obtain ⟨Bt, hkt⟩ : ∃ b, b = W4.heap.size := ⟨_, rfl⟩
                  rw [← hkt] at Kt0 Kt1 Nt ⊢
                  clear hkt
                  clear hb hB
                  go_wp2_with fail
                  refine (works_any _).mono ?_
                  rintro e W6 ⟨rfl, hb⟩
                  have hB : Below W5.heap.size W5 W6 := Below.trans (by repeat (first | (with_reducible exact Below.refl _ _) | (with_reducible assumption) | (with_reducible refine below_drewN ?_ _) | (with_reducible refine Below.drew ?_) | (with_reducible refine below_ext_of ?_ (by first | exact Nat.le_refl _ | assumption | (simp only [World.size_alloc, World.size_setCell, size_ext, World.heap_drewN]; omega)) _ _) | (with_reducible refine Below.alloc ?_ (by first | exact Nat.le_refl _ | assumption | (simp only [World.size_alloc, World.size_setCell, size_ext, World.heap_drewN]; omega)) _) | (with_reducible refine Below.setCell ?_ (by first | exact Nat.le_refl _ | assumption | (simp only [World.size_alloc, World.size_setCell, size_ext, World.heap_drewN]; omega)) _))) (hb.mono (by simp [go_sem] <;> omega))
                  replace RA1 := Lib.hid (RA1.out.below hB)
                  replace RA2 := Lib.hid (RA2.out.below hB)
                  replace RB1 := Lib.hid (RB1.out.below hB)
                  replace RB2 := Lib.hid (RB2.out.below hB)
                  replace RC1 := Lib.hid (RC1.out.below hB)
                  replace RC2 := Lib.hid (RC2.out.below hB)
                  replace RX1 := Lib.hid (RX1.out.below hB)
                  replace RX2 := Lib.hid (RX2.out.below hB)
                  replace RY1 := Lib.hid (RY1.out.below hB)
                  replace RY2 := Lib.hid (RY2.out.below hB)
                  replace RZ1 := Lib.hid (RZ1.out.below hB)
                  replace RZ2 := Lib.hid (RZ2.out.below hB)
                  replace RT1 := Lib.hid (RT1.out.below hB)
                  replace RT2 := Lib.hid (RT2.out.below hB)
                  replace HVB := Lib.hid (HVB.out.trans (hB.mono HVB.out.size))
                  replace Ka0 := keep_cell hB Na Ka0
                  replace Ka1 := keep_cell hB Na Ka1
                  replace Na := Nat.lt_of_lt_of_le Na hB.size
                  replace Kb0 := keep_cell hB Nb Kb0
                  replace Kb1 := keep_cell hB Nb Kb1
                  replace Nb := Nat.lt_of_lt_of_le Nb hB.size
                  replace Kc0 := keep_cell hB Nc Kc0
                  replace Kc1 := keep_cell hB Nc Kc1
                  replace Nc := Nat.lt_of_lt_of_le Nc hB.size
                  replace Kx0 := keep_cell hB Nx Kx0
                  replace Kx1 := keep_cell hB Nx Kx1
                  replace Nx := Nat.lt_of_lt_of_le Nx hB.size
                  replace Ky0 := keep_cell hB Ny Ky0
                  replace Ky1 := keep_cell hB Ny Ky1
                  replace Ny := Nat.lt_of_lt_of_le Ny hB.size
                  replace Kz0 := keep_cell hB Nz Kz0
                  replace Kz1 := keep_cell hB Nz Kz1
                  replace Nz := Nat.lt_of_lt_of_le Nz hB.size
                  replace Kt0 := keep_cell hB Nt Kt0
                  replace Kt1 := keep_cell hB Nt Kt1
                  replace Nt := Nat.lt_of_lt_of_le Nt hB.size
                  clear hb hB
                  go_wp2_with fail
                  go_ret
                  exact ⟨rfl, HVB.out⟩
                · have e3a : (E3 != 0) = true := bne_iff_ne.2 hE3
                  have e3b : (E3 == 0) = false := beq_false_of_ne hE3
                  clear hE3
                  go_wp2_with fail
                  refine (works_any _).mono ?_
                  rintro e W4 ⟨rfl, hb⟩
                  have hB : Below W3.heap.size W3 W4 := Below.trans (by repeat (first | (with_reducible exact Below.refl _ _) | (with_reducible assumption) | (with_reducible refine below_drewN ?_ _) | (with_reducible refine Below.drew ?_) | (with_reducible refine below_ext_of ?_ (by first | exact Nat.le_refl _ | assumption | (simp only [World.size_alloc, World.size_setCell, size_ext, World.heap_drewN]; omega)) _ _) | (with_reducible refine Below.alloc ?_ (by first | exact Nat.le_refl _ | assumption | (simp only [World.size_alloc, World.size_setCell, size_ext, World.heap_drewN]; omega)) _) | (with_reducible refine Below.setCell ?_ (by first | exact Nat.le_refl _ | assumption | (simp only [World.size_alloc, World.size_setCell, size_ext, World.heap_drewN]; omega)) _))) (hb.mono (by simp [go_sem] <;> omega))
                  replace RA1 := Lib.hid (RA1.out.below hB)
                  replace RA2 := Lib.hid (RA2.out.below hB)
                  replace RB1 := Lib.hid (RB1.out.below hB)
                  replace RB2 := Lib.hid (RB2.out.below hB)
                  replace RC1 := Lib.hid (RC1.out.below hB)
                  replace RC2 := Lib.hid (RC2.out.below hB)
                  replace RX1 := Lib.hid (RX1.out.below hB)
                  replace RX2 := Lib.hid (RX2.out.below hB)
                  replace RY1 := Lib.hid (RY1.out.below hB)
                  replace RY2 := Lib.hid (RY2.out.below hB)
                  replace RZ1 := Lib.hid (RZ1.out.below hB)
                  replace RZ2 := Lib.hid (RZ2.out.below hB)
                  replace HVB := Lib.hid (HVB.out.trans (hB.mono HVB.out.size))
                  replace Ka0 := keep_cell hB Na Ka0
                  replace Ka1 := keep_cell hB Na Ka1
                  replace Na := Nat.lt_of_lt_of_le Na hB.size
                  replace Kb0 := keep_cell hB Nb Kb0
                  replace Kb1 := keep_cell hB Nb Kb1
                  replace Nb := Nat.lt_of_lt_of_le Nb hB.size
                  replace Kc0 := keep_cell hB Nc Kc0
                  replace Kc1 := keep_cell hB Nc Kc1
                  replace Nc := Nat.lt_of_lt_of_le Nc hB.size
                  replace Kx0 := keep_cell hB Nx Kx0
                  replace Kx1 := keep_cell hB Nx Kx1
                  replace Nx := Nat.lt_of_lt_of_le Nx hB.size
                  replace Ky0 := keep_cell hB Ny Ky0
                  replace Ky1 := keep_cell hB Ny Ky1
                  replace Ny := Nat.lt_of_lt_of_le Ny hB.size
                  have Kz0 : W4.cell? ⟨W3.heap.size, 0, none⟩ = some (.slice p3 x3.length s3) := keep_cell hb (by simp [go_sem] <;> omega) (by simp [go_sem])
                  have Kz1 : W4.cell? ⟨W3.heap.size, 1, none⟩ = some (.slice q3 y3.length t3) := keep_cell hb (by simp [go_sem] <;> omega) (by simp [go_sem])
                  have Nz : W3.heap.size < W4.heap.size := Nat.lt_of_lt_of_le (by simp [go_sem] <;> omega) hb.size
                  obtain ⟨Bz, hkz⟩ : ∃ b, b = W3.heap.size := ⟨_, rfl⟩
                  rw [← hkz] at Kz0 Kz1 Nz ⊢
                  clear hkz
                  clear hb hB
                  go_wp2_with fail
                  go_ret
                  exact ⟨rfl, HVB.out⟩
              · have e2a : (E2 != 0) = true := bne_iff_ne.2 hE2
                have e2b : (E2 == 0) = false := beq_false_of_ne hE2
                clear hE2
                go_wp2_with fail
                refine (works_any _).mono ?_
                rintro e W4 ⟨rfl, hb⟩
                have hB : Below W3.heap.size W3 W4 := Below.trans (by repeat (first | (with_reducible exact Below.refl _ _) | (with_reducible assumption) | (with_reducible refine below_drewN ?_ _) | (with_reducible refine Below.drew ?_) | (with_reducible refine below_ext_of ?_ (by first | exact Nat.le_refl _ | assumption | (simp only [World.size_alloc, World.size_setCell, size_ext, World.heap_drewN]; omega)) _ _) | (with_reducible refine Below.alloc ?_ (by first | exact Nat.le_refl _ | assumption | (simp only [World.size_alloc, World.size_setCell, size_ext, World.heap_drewN]; omega)) _) | (with_reducible refine Below.setCell ?_ (by first | exact Nat.le_refl _ | assumption | (simp only [World.size_alloc, World.size_setCell, size_ext, World.heap_drewN]; omega)) _))) (hb.mono (by simp [go_sem] <;> omega))
                replace RA1 := Lib.hid (RA1.out.below hB)
                replace RA2 := Lib.hid (RA2.out.below hB)
                replace RB1 := Lib.hid (RB1.out.below hB)
                replace RB2 := Lib.hid (RB2.out.below hB)
                replace RC1 := Lib.hid (RC1.out.below hB)
                replace RC2 := Lib.hid (RC2.out.below hB)
                replace RX1 := Lib.hid (RX1.out.below hB)
                replace RX2 := Lib.hid (RX2.out.below hB)
                replace RY1 := Lib.hid (RY1.out.below hB)
                replace RY2 := Lib.hid (RY2.out.below hB)
                replace RZ1 := Lib.hid (RZ1.out.below hB)
                replace RZ2 := Lib.hid (RZ2.out.below hB)
                replace HVB := Lib.hid (HVB.out.trans (hB.mono HVB.out.size))
                replace Ka0 := keep_cell hB Na Ka0
                replace Ka1 := keep_cell hB Na Ka1
                replace Na := Nat.lt_of_lt_of_le Na hB.size
                replace Kb0 := keep_cell hB Nb Kb0
                replace Kb1 := keep_cell hB Nb Kb1
                replace Nb := Nat.lt_of_lt_of_le Nb hB.size
                replace Kc0 := keep_cell hB Nc Kc0
                replace Kc1 := keep_cell hB Nc Kc1
                replace Nc := Nat.lt_of_lt_of_le Nc hB.size
                replace Kx0 := keep_cell hB Nx Kx0
                replace Kx1 := keep_cell hB Nx Kx1
                replace Nx := Nat.lt_of_lt_of_le Nx hB.size
                replace Ky0 := keep_cell hB Ny Ky0
                replace Ky1 := keep_cell hB Ny Ky1
                replace Ny := Nat.lt_of_lt_of_le Ny hB.size
                have Kz0 : W4.cell? ⟨W3.heap.size, 0, none⟩ = some (.slice p3 x3.length s3) := keep_cell hb (by simp [go_sem] <;> omega) (by simp [go_sem])
                have Kz1 : W4.cell? ⟨W3.heap.size, 1, none⟩ = some (.slice q3 y3.length t3) := keep_cell hb (by simp [go_sem] <;> omega) (by simp [go_sem])
                have Nz : W3.heap.size < W4.heap.size := Nat.lt_of_lt_of_le (by simp [go_sem] <;> omega) hb.size
                obtain ⟨Bz, hkz⟩ : ∃ b, b = W3.heap.size := ⟨_, rfl⟩
                rw [← hkz] at Kz0 Kz1 Nz ⊢
                clear hkz
                clear hb hB
                go_wp2_with fail
                go_ret
                exact ⟨rfl, HVB.out⟩
            · have e1a : (E1 != 0) = true := bne_iff_ne.2 hE1
              have e1b : (E1 == 0) = false := beq_false_of_ne hE1
              clear hE1
              go_wp2_with fail
              refine (works_any _).mono ?_
              rintro e W4 ⟨rfl, hb⟩
              have hB : Below W3.heap.size W3 W4 := Below.trans (by repeat (first | (with_reducible exact Below.refl _ _) | (with_reducible assumption) | (with_reducible refine below_drewN ?_ _) | (with_reducible refine Below.drew ?_) | (with_reducible refine below_ext_of ?_ (by first | exact Nat.le_refl _ | assumption | (simp only [World.size_alloc, World.size_setCell, size_ext, World.heap_drewN]; omega)) _ _) | (with_reducible refine Below.alloc ?_ (by first | exact Nat.le_refl _ | assumption | (simp only [World.size_alloc, World.size_setCell, size_ext, World.heap_drewN]; omega)) _) | (with_reducible refine Below.setCell ?_ (by first | exact Nat.le_refl _ | assumption | (simp only [World.size_alloc, World.size_setCell, size_ext, World.heap_drewN]; omega)) _))) (hb.mono (by simp [go_sem] <;> omega))
              replace RA1 := Lib.hid (RA1.out.below hB)
              replace RA2 := Lib.hid (RA2.out.below hB)
              replace RB1 := Lib.hid (RB1.out.below hB)
              replace RB2 := Lib.hid (RB2.out.below hB)
              replace RC1 := Lib.hid (RC1.out.below hB)
              replace RC2 := Lib.hid (RC2.out.below hB)
              replace RX1 := Lib.hid (RX1.out.below hB)
              replace RX2 := Lib.hid (RX2.out.below hB)
              replace RY1 := Lib.hid (RY1.out.below hB)
              replace RY2 := Lib.hid (RY2.out.below hB)
              replace RZ1 := Lib.hid (RZ1.out.below hB)
              replace RZ2 := Lib.hid (RZ2.out.below hB)
              replace HVB := Lib.hid (HVB.out.trans (hB.mono HVB.out.size))
              replace Ka0 := keep_cell hB Na Ka0
              replace Ka1 := keep_cell hB Na Ka1
              replace Na := Nat.lt_of_lt_of_le Na hB.size
              replace Kb0 := keep_cell hB Nb Kb0
              replace Kb1 := keep_cell hB Nb Kb1
              replace Nb := Nat.lt_of_lt_of_le Nb hB.size
              replace Kc0 := keep_cell hB Nc Kc0
              replace Kc1 := keep_cell hB Nc Kc1
              replace Nc := Nat.lt_of_lt_of_le Nc hB.size
              replace Kx0 := keep_cell hB Nx Kx0
              replace Kx1 := keep_cell hB Nx Kx1
              replace Nx := Nat.lt_of_lt_of_le Nx hB.size
              replace Ky0 := keep_cell hB Ny Ky0
              replace Ky1 := keep_cell hB Ny Ky1
              replace Ny := Nat.lt_of_lt_of_le Ny hB.size
              have Kz0 : W4.cell? ⟨W3.heap.size, 0, none⟩ = some (.slice p3 x3.length s3) := keep_cell hb (by simp [go_sem] <;> omega) (by simp [go_sem])
              have Kz1 : W4.cell? ⟨W3.heap.size, 1, none⟩ = some (.slice q3 y3.length t3) := keep_cell hb (by simp [go_sem] <;> omega) (by simp [go_sem])
              have Nz : W3.heap.size < W4.heap.size := Nat.lt_of_lt_of_le (by simp [go_sem] <;> omega) hb.size
              obtain ⟨Bz, hkz⟩ : ∃ b, b = W3.heap.size := ⟨_, rfl⟩
              rw [← hkz] at Kz0 Kz1 Nz ⊢
              clear hkz
              clear hb hB
              go_wp2_with fail
              go_ret
              exact ⟨rfl, HVB.out⟩
end Go.Proofs.Ytpcnapmlmhhcpaa
