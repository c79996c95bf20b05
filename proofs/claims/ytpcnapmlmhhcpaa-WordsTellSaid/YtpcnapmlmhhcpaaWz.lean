/-
  The law's samples (carillonlaw12.works): true.
  Conditions: none.
-/
import Derived.Test.YtpcnapmlmhhcpaaWy
import Derived.WalkKit
import Derived.WalkSpells
import Derived.WalkLawsBesides
import Derived.Deep.QuietTactic
import Derived.BigQuiet
import Derived.Lib.Hide
import Derived.Handy
set_option linter.unusedVariables false
set_option linter.unusedSimpArgs false
namespace Go.Proofs.Ytpcnapmlmhhcpaa
open Go.RowKit 
open Big
attribute [local go_sem] setCell_drewN alloc_drewN size_ext ext_ext ext_drewN ext_drew drewN_ext drew_ext cell?_ext frozen?_ext setCell_ext cell?_past1 frozen?_past1 setCell_past1 cell?_past2 frozen?_past2 setCell_past2 cell?_past3 frozen?_past3 setCell_past3 cell?_past4 frozen?_past4 setCell_past4 cell?_past5 frozen?_past5 setCell_past5 cell?_past6 frozen?_past6 setCell_past6 cell?_past7 frozen?_past7 setCell_past7 cell?_past8 frozen?_past8 setCell_past8

set_option maxRecDepth 100000 in
set_option maxHeartbeats 8000000 in
theorem works_any (w : World) : Calls Try.prog 9 #[] w fun e w' => e = .returned (.bool true) ∧ Below w.heap.size w w' := by
  go_enter Try.func9, Try.ntmps9
  go_wp2_with fail
  refine (norm_w _ _ _ (by exact row_lit [1, 2] (by decide) (by rw [heap_old _ _ _ (by simp <;> omega), heap_old _ _ _ (by simp <;> omega), heap_new _ _ _ (by simp <;> omega)]; rfl)) (by exact row_lit [1, 2, 1, 2] (by decide) (by rw [heap_old _ _ _ (by simp <;> omega), heap_new _ _ _ (by simp <;> omega)]; rfl))).mono ?_
  rintro e W1 ⟨hb, p1, c1, p2, c2, rfl, r1, r2⟩
  have hB : Below w.heap.size w W1 := Below.trans (by repeat (first | (with_reducible exact Below.refl _ _) | (with_reducible assumption) | (with_reducible refine below_drewN ?_ _) | (with_reducible refine Below.drew ?_) | (with_reducible refine below_ext_of ?_ (by first | exact Nat.le_refl _ | assumption | (simp only [World.size_alloc, World.size_setCell, size_ext, World.heap_drewN]; omega)) _ _) | (with_reducible refine Below.alloc ?_ (by first | exact Nat.le_refl _ | assumption | (simp only [World.size_alloc, World.size_setCell, size_ext, World.heap_drewN]; omega)) _) | (with_reducible refine Below.setCell ?_ (by first | exact Nat.le_refl _ | assumption | (simp only [World.size_alloc, World.size_setCell, size_ext, World.heap_drewN]; omega)) _))) (hb.mono (by simp [go_sem] <;> omega))
  have HVB := Lib.hid hB
  have Kw0 : W1.cell? ⟨w.heap.size + 1 + 1, 0, none⟩ = some (.slice (some ⟨w.heap.size, 0, none⟩) 2 2) := keep_cell hb (by simp [go_sem] <;> omega) (by simp [go_sem])
  have Kw1 : W1.cell? ⟨w.heap.size + 1 + 1, 1, none⟩ = some (.slice (some ⟨w.heap.size + 1, 0, none⟩) 4 4) := keep_cell hb (by simp [go_sem] <;> omega) (by simp [go_sem])
  have Nw : w.heap.size + 1 + 1 < W1.heap.size := Nat.lt_of_lt_of_le (by simp [go_sem] <;> omega) hb.size
  have RWH : Hid (RowAt W1 (.slice (some ⟨w.heap.size, 0, none⟩) 2 2) [1, 2]) := Lib.hid (RowAt.below (row_lit [1, 2] (by decide) (by rw [heap_old _ _ _ (by simp <;> omega), heap_old _ _ _ (by simp <;> omega), heap_new _ _ _ (by simp <;> omega)]; rfl)) hb)
  have RWL : Hid (RowAt W1 (.slice (some ⟨w.heap.size + 1, 0, none⟩) 4 4) [1, 2, 1, 2]) := Lib.hid (RowAt.below (row_lit [1, 2, 1, 2] (by decide) (by rw [heap_old _ _ _ (by simp <;> omega), heap_new _ _ _ (by simp <;> omega)]; rfl)) hb)
  clear r1 r2
  obtain ⟨Bw, hkw⟩ : ∃ b, b = w.heap.size + 1 + 1 := ⟨_, rfl⟩
  rw [← hkw] at Kw0 Kw1 Nw ⊢
  clear hkw
  clear hb hB
  go_wp2_with fail
  refine (at_w _ _ _ (RWH.out.below (by repeat (first | (with_reducible exact Below.refl _ _) | (with_reducible assumption) | (with_reducible refine below_drewN ?_ _) | (with_reducible refine Below.drew ?_) | (with_reducible refine below_ext_of ?_ (by first | exact Nat.le_refl _ | assumption | (simp only [World.size_alloc, World.size_setCell, size_ext, World.heap_drewN]; omega)) _ _) | (with_reducible refine Below.alloc ?_ (by first | exact Nat.le_refl _ | assumption | (simp only [World.size_alloc, World.size_setCell, size_ext, World.heap_drewN]; omega)) _) | (with_reducible refine Below.setCell ?_ (by first | exact Nat.le_refl _ | assumption | (simp only [World.size_alloc, World.size_setCell, size_ext, World.heap_drewN]; omega)) _)))) (RWL.out.below (by repeat (first | (with_reducible exact Below.refl _ _) | (with_reducible assumption) | (with_reducible refine below_drewN ?_ _) | (with_reducible refine Below.drew ?_) | (with_reducible refine below_ext_of ?_ (by first | exact Nat.le_refl _ | assumption | (simp only [World.size_alloc, World.size_setCell, size_ext, World.heap_drewN]; omega)) _ _) | (with_reducible refine Below.alloc ?_ (by first | exact Nat.le_refl _ | assumption | (simp only [World.size_alloc, World.size_setCell, size_ext, World.heap_drewN]; omega)) _) | (with_reducible refine Below.setCell ?_ (by first | exact Nat.le_refl _ | assumption | (simp only [World.size_alloc, World.size_setCell, size_ext, World.heap_drewN]; omega)) _))))).mono ?_
  rintro e W2 ⟨rfl, hb⟩
  have hB : Below W1.heap.size W1 W2 := Below.trans (by repeat (first | (with_reducible exact Below.refl _ _) | (with_reducible assumption) | (with_reducible refine below_drewN ?_ _) | (with_reducible refine Below.drew ?_) | (with_reducible refine below_ext_of ?_ (by first | exact Nat.le_refl _ | assumption | (simp only [World.size_alloc, World.size_setCell, size_ext, World.heap_drewN]; omega)) _ _) | (with_reducible refine Below.alloc ?_ (by first | exact Nat.le_refl _ | assumption | (simp only [World.size_alloc, World.size_setCell, size_ext, World.heap_drewN]; omega)) _) | (with_reducible refine Below.setCell ?_ (by first | exact Nat.le_refl _ | assumption | (simp only [World.size_alloc, World.size_setCell, size_ext, World.heap_drewN]; omega)) _))) (hb.mono (by simp [go_sem] <;> omega))
  replace RWH := Lib.hid (RWH.out.below hB)
  replace RWL := Lib.hid (RWL.out.below hB)
  replace HVB := Lib.hid (HVB.out.trans (hB.mono HVB.out.size))
  replace Kw0 := keep_cell hB Nw Kw0
  replace Kw1 := keep_cell hB Nw Kw1
  replace Nw := Nat.lt_of_lt_of_le Nw hB.size
  have Kn0 : W2.cell? ⟨W1.heap.size, 0, none⟩ = some (.slice p1 0 c1) := keep_cell hb (by simp [go_sem] <;> omega) (by simp [go_sem])
  have Kn1 : W2.cell? ⟨W1.heap.size, 1, none⟩ = some (.slice p2 2 c2) := keep_cell hb (by simp [go_sem] <;> omega) (by simp [go_sem])
  have Nn : W1.heap.size < W2.heap.size := Nat.lt_of_lt_of_le (by simp [go_sem] <;> omega) hb.size
  obtain ⟨Bn, hkn⟩ : ∃ b, b = W1.heap.size := ⟨_, rfl⟩
  rw [← hkn] at Kn0 Kn1 Nn ⊢
  clear hkn
  clear hb hB
  go_wp2_with fail
  refine (up_w _ _ _ (RWH.out.below (by repeat (first | (with_reducible exact Below.refl _ _) | (with_reducible assumption) | (with_reducible refine below_drewN ?_ _) | (with_reducible refine Below.drew ?_) | (with_reducible refine below_ext_of ?_ (by first | exact Nat.le_refl _ | assumption | (simp only [World.size_alloc, World.size_setCell, size_ext, World.heap_drewN]; omega)) _ _) | (with_reducible refine Below.alloc ?_ (by first | exact Nat.le_refl _ | assumption | (simp only [World.size_alloc, World.size_setCell, size_ext, World.heap_drewN]; omega)) _) | (with_reducible refine Below.setCell ?_ (by first | exact Nat.le_refl _ | assumption | (simp only [World.size_alloc, World.size_setCell, size_ext, World.heap_drewN]; omega)) _)))) (RWL.out.below (by repeat (first | (with_reducible exact Below.refl _ _) | (with_reducible assumption) | (with_reducible refine below_drewN ?_ _) | (with_reducible refine Below.drew ?_) | (with_reducible refine below_ext_of ?_ (by first | exact Nat.le_refl _ | assumption | (simp only [World.size_alloc, World.size_setCell, size_ext, World.heap_drewN]; omega)) _ _) | (with_reducible refine Below.alloc ?_ (by first | exact Nat.le_refl _ | assumption | (simp only [World.size_alloc, World.size_setCell, size_ext, World.heap_drewN]; omega)) _) | (with_reducible refine Below.setCell ?_ (by first | exact Nat.le_refl _ | assumption | (simp only [World.size_alloc, World.size_setCell, size_ext, World.heap_drewN]; omega)) _))))).mono ?_
  rintro e W3 ⟨hb, p3, c3, p4, c4, rfl, r3, r4⟩
  have hB : Below W2.heap.size W2 W3 := Below.trans (by repeat (first | (with_reducible exact Below.refl _ _) | (with_reducible assumption) | (with_reducible refine below_drewN ?_ _) | (with_reducible refine Below.drew ?_) | (with_reducible refine below_ext_of ?_ (by first | exact Nat.le_refl _ | assumption | (simp only [World.size_alloc, World.size_setCell, size_ext, World.heap_drewN]; omega)) _ _) | (with_reducible refine Below.alloc ?_ (by first | exact Nat.le_refl _ | assumption | (simp only [World.size_alloc, World.size_setCell, size_ext, World.heap_drewN]; omega)) _) | (with_reducible refine Below.setCell ?_ (by first | exact Nat.le_refl _ | assumption | (simp only [World.size_alloc, World.size_setCell, size_ext, World.heap_drewN]; omega)) _))) (hb.mono (by simp [go_sem] <;> omega))
  replace RWH := Lib.hid (RWH.out.below hB)
  replace RWL := Lib.hid (RWL.out.below hB)
  replace HVB := Lib.hid (HVB.out.trans (hB.mono HVB.out.size))
  replace Kw0 := keep_cell hB Nw Kw0
  replace Kw1 := keep_cell hB Nw Kw1
  replace Nw := Nat.lt_of_lt_of_le Nw hB.size
  replace Kn0 := keep_cell hB Nn Kn0
  replace Kn1 := keep_cell hB Nn Kn1
  replace Nn := Nat.lt_of_lt_of_le Nn hB.size
  have RU1 := Lib.hid r3
  have RU2 := Lib.hid r4
  clear r3 r4
  clear hb hB
  go_wp2_with fail
  refine (down_w _ _ _ (RU1.out.below (by repeat (first | (with_reducible exact Below.refl _ _) | (with_reducible assumption) | (with_reducible refine below_drewN ?_ _) | (with_reducible refine Below.drew ?_) | (with_reducible refine below_ext_of ?_ (by first | exact Nat.le_refl _ | assumption | (simp only [World.size_alloc, World.size_setCell, size_ext, World.heap_drewN]; omega)) _ _) | (with_reducible refine Below.alloc ?_ (by first | exact Nat.le_refl _ | assumption | (simp only [World.size_alloc, World.size_setCell, size_ext, World.heap_drewN]; omega)) _) | (with_reducible refine Below.setCell ?_ (by first | exact Nat.le_refl _ | assumption | (simp only [World.size_alloc, World.size_setCell, size_ext, World.heap_drewN]; omega)) _)))) (RU2.out.below (by repeat (first | (with_reducible exact Below.refl _ _) | (with_reducible assumption) | (with_reducible refine below_drewN ?_ _) | (with_reducible refine Below.drew ?_) | (with_reducible refine below_ext_of ?_ (by first | exact Nat.le_refl _ | assumption | (simp only [World.size_alloc, World.size_setCell, size_ext, World.heap_drewN]; omega)) _ _) | (with_reducible refine Below.alloc ?_ (by first | exact Nat.le_refl _ | assumption | (simp only [World.size_alloc, World.size_setCell, size_ext, World.heap_drewN]; omega)) _) | (with_reducible refine Below.setCell ?_ (by first | exact Nat.le_refl _ | assumption | (simp only [World.size_alloc, World.size_setCell, size_ext, World.heap_drewN]; omega)) _))))).mono ?_
  rintro e W4 ⟨hb, p5, c5, p6, c6, rfl, r5, r6⟩
  have hB : Below W3.heap.size W3 W4 := Below.trans (by repeat (first | (with_reducible exact Below.refl _ _) | (with_reducible assumption) | (with_reducible refine below_drewN ?_ _) | (with_reducible refine Below.drew ?_) | (with_reducible refine below_ext_of ?_ (by first | exact Nat.le_refl _ | assumption | (simp only [World.size_alloc, World.size_setCell, size_ext, World.heap_drewN]; omega)) _ _) | (with_reducible refine Below.alloc ?_ (by first | exact Nat.le_refl _ | assumption | (simp only [World.size_alloc, World.size_setCell, size_ext, World.heap_drewN]; omega)) _) | (with_reducible refine Below.setCell ?_ (by first | exact Nat.le_refl _ | assumption | (simp only [World.size_alloc, World.size_setCell, size_ext, World.heap_drewN]; omega)) _))) (hb.mono (by simp [go_sem] <;> omega))
  replace RWH := Lib.hid (RWH.out.below hB)
  replace RWL := Lib.hid (RWL.out.below hB)
  replace RU1 := Lib.hid (RU1.out.below hB)
  replace RU2 := Lib.hid (RU2.out.below hB)
  replace HVB := Lib.hid (HVB.out.trans (hB.mono HVB.out.size))
  replace Kw0 := keep_cell hB Nw Kw0
  replace Kw1 := keep_cell hB Nw Kw1
  replace Nw := Nat.lt_of_lt_of_le Nw hB.size
  replace Kn0 := keep_cell hB Nn Kn0
  replace Kn1 := keep_cell hB Nn Kn1
  replace Nn := Nat.lt_of_lt_of_le Nn hB.size
  have Ku0 : W4.cell? ⟨W3.heap.size, 0, none⟩ = some (.slice p3 0 c3) := keep_cell hb (by simp [go_sem] <;> omega) (by simp [go_sem])
  have Ku1 : W4.cell? ⟨W3.heap.size, 1, none⟩ = some (.slice p4 4 c4) := keep_cell hb (by simp [go_sem] <;> omega) (by simp [go_sem])
  have Nu : W3.heap.size < W4.heap.size := Nat.lt_of_lt_of_le (by simp [go_sem] <;> omega) hb.size
  have RD1 := Lib.hid r5
  have RD2 := Lib.hid r6
  clear r5 r6
  obtain ⟨Bu, hku⟩ : ∃ b, b = W3.heap.size := ⟨_, rfl⟩
  rw [← hku] at Ku0 Ku1 Nu ⊢
  clear hku
  clear hb hB
  go_wp2_with fail
  refine (zip_w _ _ _ _ _ (RWH.out.below (by repeat (first | (with_reducible exact Below.refl _ _) | (with_reducible assumption) | (with_reducible refine below_drewN ?_ _) | (with_reducible refine Below.drew ?_) | (with_reducible refine below_ext_of ?_ (by first | exact Nat.le_refl _ | assumption | (simp only [World.size_alloc, World.size_setCell, size_ext, World.heap_drewN]; omega)) _ _) | (with_reducible refine Below.alloc ?_ (by first | exact Nat.le_refl _ | assumption | (simp only [World.size_alloc, World.size_setCell, size_ext, World.heap_drewN]; omega)) _) | (with_reducible refine Below.setCell ?_ (by first | exact Nat.le_refl _ | assumption | (simp only [World.size_alloc, World.size_setCell, size_ext, World.heap_drewN]; omega)) _)))) (RWL.out.below (by repeat (first | (with_reducible exact Below.refl _ _) | (with_reducible assumption) | (with_reducible refine below_drewN ?_ _) | (with_reducible refine Below.drew ?_) | (with_reducible refine below_ext_of ?_ (by first | exact Nat.le_refl _ | assumption | (simp only [World.size_alloc, World.size_setCell, size_ext, World.heap_drewN]; omega)) _ _) | (with_reducible refine Below.alloc ?_ (by first | exact Nat.le_refl _ | assumption | (simp only [World.size_alloc, World.size_setCell, size_ext, World.heap_drewN]; omega)) _) | (with_reducible refine Below.setCell ?_ (by first | exact Nat.le_refl _ | assumption | (simp only [World.size_alloc, World.size_setCell, size_ext, World.heap_drewN]; omega)) _)))) (RowAt.nil _) (by exact row_lit [10, 20, 30] (by decide) (by rw [heap_new _ _ _ (by simp <;> omega)]; rfl))).mono ?_
  rintro e W5 ⟨hb, p7, c7, p8, c8, rfl, r7, r8⟩
  have hB : Below W4.heap.size W4 W5 := Below.trans (by repeat (first | (with_reducible exact Below.refl _ _) | (with_reducible assumption) | (with_reducible refine below_drewN ?_ _) | (with_reducible refine Below.drew ?_) | (with_reducible refine below_ext_of ?_ (by first | exact Nat.le_refl _ | assumption | (simp only [World.size_alloc, World.size_setCell, size_ext, World.heap_drewN]; omega)) _ _) | (with_reducible refine Below.alloc ?_ (by first | exact Nat.le_refl _ | assumption | (simp only [World.size_alloc, World.size_setCell, size_ext, World.heap_drewN]; omega)) _) | (with_reducible refine Below.setCell ?_ (by first | exact Nat.le_refl _ | assumption | (simp only [World.size_alloc, World.size_setCell, size_ext, World.heap_drewN]; omega)) _))) (hb.mono (by simp [go_sem] <;> omega))
  replace RWH := Lib.hid (RWH.out.below hB)
  replace RWL := Lib.hid (RWL.out.below hB)
  replace RU1 := Lib.hid (RU1.out.below hB)
  replace RU2 := Lib.hid (RU2.out.below hB)
  replace RD1 := Lib.hid (RD1.out.below hB)
  replace RD2 := Lib.hid (RD2.out.below hB)
  replace HVB := Lib.hid (HVB.out.trans (hB.mono HVB.out.size))
  replace Kw0 := keep_cell hB Nw Kw0
  replace Kw1 := keep_cell hB Nw Kw1
  replace Nw := Nat.lt_of_lt_of_le Nw hB.size
  replace Kn0 := keep_cell hB Nn Kn0
  replace Kn1 := keep_cell hB Nn Kn1
  replace Nn := Nat.lt_of_lt_of_le Nn hB.size
  replace Ku0 := keep_cell hB Nu Ku0
  replace Ku1 := keep_cell hB Nu Ku1
  replace Nu := Nat.lt_of_lt_of_le Nu hB.size
  have Kd0 : W5.cell? ⟨W4.heap.size, 0, none⟩ = some (.slice p5 0 c5) := keep_cell hb (by simp [go_sem] <;> omega) (by simp [go_sem])
  have Kd1 : W5.cell? ⟨W4.heap.size, 1, none⟩ = some (.slice p6 2 c6) := keep_cell hb (by simp [go_sem] <;> omega) (by simp [go_sem])
  have Nd : W4.heap.size < W5.heap.size := Nat.lt_of_lt_of_le (by simp [go_sem] <;> omega) hb.size
  obtain ⟨_, _, hz, _, _, _, hzi⟩ := r8
  cases hz
  obtain ⟨gz, oz, rfl, hgz, hii⟩ := hzi (by decide)
  have CZ : W5.cell? ⟨gz, oz + 2, none⟩ = some (.int .i64 31) := hii 2 (by decide)
  clear r7 hii hzi
  obtain ⟨Bd, hkd⟩ : ∃ b, b = W4.heap.size := ⟨_, rfl⟩
  rw [← hkd] at Kd0 Kd1 Nd ⊢
  clear hkd
  clear hb hB
  go_wp2_with fail
  refine (norm_0 _).mono ?_
  rintro e W6 ⟨rfl, hb⟩
  have hB : Below W5.heap.size W5 W6 := Below.trans (by repeat (first | (with_reducible exact Below.refl _ _) | (with_reducible assumption) | (with_reducible refine below_drewN ?_ _) | (with_reducible refine Below.drew ?_) | (with_reducible refine below_ext_of ?_ (by first | exact Nat.le_refl _ | assumption | (simp only [World.size_alloc, World.size_setCell, size_ext, World.heap_drewN]; omega)) _ _) | (with_reducible refine Below.alloc ?_ (by first | exact Nat.le_refl _ | assumption | (simp only [World.size_alloc, World.size_setCell, size_ext, World.heap_drewN]; omega)) _) | (with_reducible refine Below.setCell ?_ (by first | exact Nat.le_refl _ | assumption | (simp only [World.size_alloc, World.size_setCell, size_ext, World.heap_drewN]; omega)) _))) (hb.mono (by simp [go_sem] <;> omega))
  replace RWH := Lib.hid (RWH.out.below hB)
  replace RWL := Lib.hid (RWL.out.below hB)
  replace RU1 := Lib.hid (RU1.out.below hB)
  replace RU2 := Lib.hid (RU2.out.below hB)
  replace RD1 := Lib.hid (RD1.out.below hB)
  replace RD2 := Lib.hid (RD2.out.below hB)
  replace HVB := Lib.hid (HVB.out.trans (hB.mono HVB.out.size))
  replace Kw0 := keep_cell hB Nw Kw0
  replace Kw1 := keep_cell hB Nw Kw1
  replace Nw := Nat.lt_of_lt_of_le Nw hB.size
  replace Kn0 := keep_cell hB Nn Kn0
  replace Kn1 := keep_cell hB Nn Kn1
  replace Nn := Nat.lt_of_lt_of_le Nn hB.size
  replace Ku0 := keep_cell hB Nu Ku0
  replace Ku1 := keep_cell hB Nu Ku1
  replace Nu := Nat.lt_of_lt_of_le Nu hB.size
  replace Kd0 := keep_cell hB Nd Kd0
  replace Kd1 := keep_cell hB Nd Kd1
  replace Nd := Nat.lt_of_lt_of_le Nd hB.size
  have Kz0 : W6.cell? ⟨W5.heap.size, 0, none⟩ = some (.slice p7 0 c7) := keep_cell hb (by simp [go_sem] <;> omega) (by simp [go_sem])
  have Kz1 : W6.cell? ⟨W5.heap.size, 1, none⟩ = some (.slice (some ⟨gz, oz, none⟩) 6 c8) := keep_cell hb (by simp [go_sem] <;> omega) (by simp [go_sem])
  have Nz : W5.heap.size < W6.heap.size := Nat.lt_of_lt_of_le (by simp [go_sem] <;> omega) hb.size
  replace CZ := keep_cell hB hgz CZ
  replace hgz := Nat.lt_of_lt_of_le hgz hB.size
  obtain ⟨Bz, hkz⟩ : ∃ b, b = W5.heap.size := ⟨_, rfl⟩
  rw [← hkz] at Kz0 Kz1 Nz ⊢
  clear hkz
  clear hb hB
  go_wp2_with fail
  refine (same_w _ _ _ _ _ (RD1.out.below (by repeat (first | (with_reducible exact Below.refl _ _) | (with_reducible assumption) | (with_reducible refine below_drewN ?_ _) | (with_reducible refine Below.drew ?_) | (with_reducible refine below_ext_of ?_ (by first | exact Nat.le_refl _ | assumption | (simp only [World.size_alloc, World.size_setCell, size_ext, World.heap_drewN]; omega)) _ _) | (with_reducible refine Below.alloc ?_ (by first | exact Nat.le_refl _ | assumption | (simp only [World.size_alloc, World.size_setCell, size_ext, World.heap_drewN]; omega)) _) | (with_reducible refine Below.setCell ?_ (by first | exact Nat.le_refl _ | assumption | (simp only [World.size_alloc, World.size_setCell, size_ext, World.heap_drewN]; omega)) _)))) (RD2.out.below (by repeat (first | (with_reducible exact Below.refl _ _) | (with_reducible assumption) | (with_reducible refine below_drewN ?_ _) | (with_reducible refine Below.drew ?_) | (with_reducible refine below_ext_of ?_ (by first | exact Nat.le_refl _ | assumption | (simp only [World.size_alloc, World.size_setCell, size_ext, World.heap_drewN]; omega)) _ _) | (with_reducible refine Below.alloc ?_ (by first | exact Nat.le_refl _ | assumption | (simp only [World.size_alloc, World.size_setCell, size_ext, World.heap_drewN]; omega)) _) | (with_reducible refine Below.setCell ?_ (by first | exact Nat.le_refl _ | assumption | (simp only [World.size_alloc, World.size_setCell, size_ext, World.heap_drewN]; omega)) _)))) (RWH.out.below (by repeat (first | (with_reducible exact Below.refl _ _) | (with_reducible assumption) | (with_reducible refine below_drewN ?_ _) | (with_reducible refine Below.drew ?_) | (with_reducible refine below_ext_of ?_ (by first | exact Nat.le_refl _ | assumption | (simp only [World.size_alloc, World.size_setCell, size_ext, World.heap_drewN]; omega)) _ _) | (with_reducible refine Below.alloc ?_ (by first | exact Nat.le_refl _ | assumption | (simp only [World.size_alloc, World.size_setCell, size_ext, World.heap_drewN]; omega)) _) | (with_reducible refine Below.setCell ?_ (by first | exact Nat.le_refl _ | assumption | (simp only [World.size_alloc, World.size_setCell, size_ext, World.heap_drewN]; omega)) _)))) (RWL.out.below (by repeat (first | (with_reducible exact Below.refl _ _) | (with_reducible assumption) | (with_reducible refine below_drewN ?_ _) | (with_reducible refine Below.drew ?_) | (with_reducible refine below_ext_of ?_ (by first | exact Nat.le_refl _ | assumption | (simp only [World.size_alloc, World.size_setCell, size_ext, World.heap_drewN]; omega)) _ _) | (with_reducible refine Below.alloc ?_ (by first | exact Nat.le_refl _ | assumption | (simp only [World.size_alloc, World.size_setCell, size_ext, World.heap_drewN]; omega)) _) | (with_reducible refine Below.setCell ?_ (by first | exact Nat.le_refl _ | assumption | (simp only [World.size_alloc, World.size_setCell, size_ext, World.heap_drewN]; omega)) _))))).mono ?_
  rintro e W7 ⟨rfl, hb⟩
  have hB : Below W6.heap.size W6 W7 := Below.trans (by repeat (first | (with_reducible exact Below.refl _ _) | (with_reducible assumption) | (with_reducible refine below_drewN ?_ _) | (with_reducible refine Below.drew ?_) | (with_reducible refine below_ext_of ?_ (by first | exact Nat.le_refl _ | assumption | (simp only [World.size_alloc, World.size_setCell, size_ext, World.heap_drewN]; omega)) _ _) | (with_reducible refine Below.alloc ?_ (by first | exact Nat.le_refl _ | assumption | (simp only [World.size_alloc, World.size_setCell, size_ext, World.heap_drewN]; omega)) _) | (with_reducible refine Below.setCell ?_ (by first | exact Nat.le_refl _ | assumption | (simp only [World.size_alloc, World.size_setCell, size_ext, World.heap_drewN]; omega)) _))) (hb.mono (by simp [go_sem] <;> omega))
  replace RWH := Lib.hid (RWH.out.below hB)
  replace RWL := Lib.hid (RWL.out.below hB)
  replace RU1 := Lib.hid (RU1.out.below hB)
  replace RU2 := Lib.hid (RU2.out.below hB)
  replace RD1 := Lib.hid (RD1.out.below hB)
  replace RD2 := Lib.hid (RD2.out.below hB)
  replace HVB := Lib.hid (HVB.out.trans (hB.mono HVB.out.size))
  replace Kw0 := keep_cell hB Nw Kw0
  replace Kw1 := keep_cell hB Nw Kw1
  replace Nw := Nat.lt_of_lt_of_le Nw hB.size
  replace Kn0 := keep_cell hB Nn Kn0
  replace Kn1 := keep_cell hB Nn Kn1
  replace Nn := Nat.lt_of_lt_of_le Nn hB.size
  replace Ku0 := keep_cell hB Nu Ku0
  replace Ku1 := keep_cell hB Nu Ku1
  replace Nu := Nat.lt_of_lt_of_le Nu hB.size
  replace Kd0 := keep_cell hB Nd Kd0
  replace Kd1 := keep_cell hB Nd Kd1
  replace Nd := Nat.lt_of_lt_of_le Nd hB.size
  replace Kz0 := keep_cell hB Nz Kz0
  replace Kz1 := keep_cell hB Nz Kz1
  replace Nz := Nat.lt_of_lt_of_le Nz hB.size
  have Ko0 : W7.cell? ⟨W6.heap.size, 0, none⟩ = some (.slice none 0 0) := keep_cell hb (by simp [go_sem] <;> omega) (by simp [go_sem])
  have Ko1 : W7.cell? ⟨W6.heap.size, 1, none⟩ = some (.slice none 0 0) := keep_cell hb (by simp [go_sem] <;> omega) (by simp [go_sem])
  have No : W6.heap.size < W7.heap.size := Nat.lt_of_lt_of_le (by simp [go_sem] <;> omega) hb.size
  replace CZ := keep_cell hB hgz CZ
  replace hgz := Nat.lt_of_lt_of_le hgz hB.size
  obtain ⟨Bo, hko⟩ : ∃ b, b = W6.heap.size := ⟨_, rfl⟩
  rw [← hko] at Ko0 Ko1 No ⊢
  clear hko
  clear hb hB
  go_wp2_with fail
  refine (may_w _ _ _ (RWH.out.below (by repeat (first | (with_reducible exact Below.refl _ _) | (with_reducible assumption) | (with_reducible refine below_drewN ?_ _) | (with_reducible refine Below.drew ?_) | (with_reducible refine below_ext_of ?_ (by first | exact Nat.le_refl _ | assumption | (simp only [World.size_alloc, World.size_setCell, size_ext, World.heap_drewN]; omega)) _ _) | (with_reducible refine Below.alloc ?_ (by first | exact Nat.le_refl _ | assumption | (simp only [World.size_alloc, World.size_setCell, size_ext, World.heap_drewN]; omega)) _) | (with_reducible refine Below.setCell ?_ (by first | exact Nat.le_refl _ | assumption | (simp only [World.size_alloc, World.size_setCell, size_ext, World.heap_drewN]; omega)) _)))) (RWL.out.below (by repeat (first | (with_reducible exact Below.refl _ _) | (with_reducible assumption) | (with_reducible refine below_drewN ?_ _) | (with_reducible refine Below.drew ?_) | (with_reducible refine below_ext_of ?_ (by first | exact Nat.le_refl _ | assumption | (simp only [World.size_alloc, World.size_setCell, size_ext, World.heap_drewN]; omega)) _ _) | (with_reducible refine Below.alloc ?_ (by first | exact Nat.le_refl _ | assumption | (simp only [World.size_alloc, World.size_setCell, size_ext, World.heap_drewN]; omega)) _) | (with_reducible refine Below.setCell ?_ (by first | exact Nat.le_refl _ | assumption | (simp only [World.size_alloc, World.size_setCell, size_ext, World.heap_drewN]; omega)) _))))).mono ?_
  rintro e W8 ⟨rfl, hb⟩
  have hB : Below W7.heap.size W7 W8 := Below.trans (by repeat (first | (with_reducible exact Below.refl _ _) | (with_reducible assumption) | (with_reducible refine below_drewN ?_ _) | (with_reducible refine Below.drew ?_) | (with_reducible refine below_ext_of ?_ (by first | exact Nat.le_refl _ | assumption | (simp only [World.size_alloc, World.size_setCell, size_ext, World.heap_drewN]; omega)) _ _) | (with_reducible refine Below.alloc ?_ (by first | exact Nat.le_refl _ | assumption | (simp only [World.size_alloc, World.size_setCell, size_ext, World.heap_drewN]; omega)) _) | (with_reducible refine Below.setCell ?_ (by first | exact Nat.le_refl _ | assumption | (simp only [World.size_alloc, World.size_setCell, size_ext, World.heap_drewN]; omega)) _))) (hb.mono (by simp [go_sem] <;> omega))
  replace RWH := Lib.hid (RWH.out.below hB)
  replace RWL := Lib.hid (RWL.out.below hB)
  replace RU1 := Lib.hid (RU1.out.below hB)
  replace RU2 := Lib.hid (RU2.out.below hB)
  replace RD1 := Lib.hid (RD1.out.below hB)
  replace RD2 := Lib.hid (RD2.out.below hB)
  replace HVB := Lib.hid (HVB.out.trans (hB.mono HVB.out.size))
  replace Kw0 := keep_cell hB Nw Kw0
  replace Kw1 := keep_cell hB Nw Kw1
  replace Nw := Nat.lt_of_lt_of_le Nw hB.size
  replace Kn0 := keep_cell hB Nn Kn0
  replace Kn1 := keep_cell hB Nn Kn1
  replace Nn := Nat.lt_of_lt_of_le Nn hB.size
  replace Ku0 := keep_cell hB Nu Ku0
  replace Ku1 := keep_cell hB Nu Ku1
  replace Nu := Nat.lt_of_lt_of_le Nu hB.size
  replace Kd0 := keep_cell hB Nd Kd0
  replace Kd1 := keep_cell hB Nd Kd1
  replace Nd := Nat.lt_of_lt_of_le Nd hB.size
  replace Kz0 := keep_cell hB Nz Kz0
  replace Kz1 := keep_cell hB Nz Kz1
  replace Nz := Nat.lt_of_lt_of_le Nz hB.size
  replace Ko0 := keep_cell hB No Ko0
  replace Ko1 := keep_cell hB No Ko1
  replace No := Nat.lt_of_lt_of_le No hB.size
  replace CZ := keep_cell hB hgz CZ
  replace hgz := Nat.lt_of_lt_of_le hgz hB.size
  clear hb hB
  go_wp2_with fail
  go_ret
  exact ⟨rfl, HVB.out⟩
end Go.Proofs.Ytpcnapmlmhhcpaa
