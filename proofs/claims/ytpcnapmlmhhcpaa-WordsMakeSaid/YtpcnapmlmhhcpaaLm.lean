/-
  The law WordsMake: true of every two words, every numbers and every op.
  Conditions: the words lie in memory; their numbers are int64s.
-/
import Derived.Test.YtpcnapmlmhhcpaaLmE
import Derived.WalkKit
import Derived.WalkSpells
import Derived.WalkLawsBesides
import Derived.Deep.QuietTactic
import Derived.BigQuiet
import Derived.Lib.Hide
import Derived.Handy
import Derived.Deep.CutBlock
set_option linter.unusedVariables false
set_option linter.unusedSimpArgs false
namespace Go.Proofs.Ytpcnapmlmhhcpaa
open Go.RowKit 
open Big
attribute [local go_sem] setCell_drewN alloc_drewN size_ext ext_ext ext_drewN ext_drew drewN_ext drew_ext cell?_ext frozen?_ext setCell_ext cell?_past1 frozen?_past1 setCell_past1 cell?_past2 frozen?_past2 setCell_past2 cell?_past3 frozen?_past3 setCell_past3 cell?_past4 frozen?_past4 setCell_past4 cell?_past5 frozen?_past5 setCell_past5 cell?_past6 frozen?_past6 setCell_past6 cell?_past7 frozen?_past7 setCell_past7 cell?_past8 frozen?_past8 setCell_past8
attribute [local go_sem] min_ab max_ab
set_option maxRecDepth 100000 in
set_option maxHeartbeats 40000000 in
theorem WordsMake_any (w : World) (va1 va2 vb1 vb2 : Value) (a1 a2 b1 b2 : List Int) (k v : Int) (op : Nat) (hk2 : k < 9223372036854775808) (hop : op < 256) (h1 : RowAt w va1 a1) (h2 : RowAt w va2 a2) (h3 : RowAt w vb1 b1) (h4 : RowAt w vb2 b2) (i1 : in64W a1 a2) (i2 : in64W b1 b2) :
    Calls Try.prog 4 #[.agg #[va1, va2], .agg #[vb1, vb2], .int .i64 k, .int .i64 v, .int .u8 (op : Int)] w fun e w' => e = .returned (.bool true) ∧ Below w.heap.size w w' := by
  have RA1 := Lib.hid h1
  have RA2 := Lib.hid h2
  have RB1 := Lib.hid h3
  have RB2 := Lib.hid h4
  have I_a1 := Lib.hid i1
  have I_b1 := Lib.hid i2
  replace hk2 := Lib.hid hk2
  obtain ⟨ra, hra⟩ : ∃ r, heavyB a1 a2 = r := ⟨_, rfl⟩
  obtain ⟨rb, hrb⟩ : ∃ r, heavyB b1 b2 = r := ⟨_, rfl⟩
  obtain ⟨⟨d1, d2, Ed⟩, hzd⟩ : ∃ r, dropZ a1 a2 k = r := ⟨_, rfl⟩
  obtain ⟨⟨c1, c2, Ec⟩, hzc⟩ : ∃ r, consZ v a1 a2 = r := ⟨_, rfl⟩
  obtain ⟨⟨u1, u2, Eu⟩, hzu⟩ : ∃ r, upZ a1 a2 k = r := ⟨_, rfl⟩
  obtain ⟨⟨g1, g2, Eg⟩, hzg⟩ : ∃ r, downZ a1 a2 k = r := ⟨_, rfl⟩
  obtain ⟨⟨z1, z2, Ez⟩, hzz⟩ : ∃ r, zipZ op a1 a2 b1 b2 = r := ⟨_, rfl⟩
  have HRA := Lib.hid hra
  have HRB := Lib.hid hrb
  have HZd := Lib.hid hzd
  have HZc := Lib.hid hzc
  have HZu := Lib.hid hzu
  have HZg := Lib.hid hzg
  have HZz := Lib.hid hzz
  obtain ⟨pa, sa, rfl, _⟩ := h1
  obtain ⟨qa, ta, rfl, _⟩ := h2
  obtain ⟨pb, sb, rfl, _⟩ := h3
  obtain ⟨qb, tb, rfl, _⟩ := h4
  rename_i h1 h2 h3 h4
  clear i1 i2 hra hrb hzd hzc hzu hzg hzz h1 h2 h3 h4
  go_enter Try.func4, Try.ntmps4
  go_wp2_with fail
  refine (heavy_is _ _ _ a1 a2 ra (RA1.out.below (by repeat (first | (with_reducible exact Below.refl _ _) | (with_reducible assumption) | (with_reducible refine below_drewN ?_ _) | (with_reducible refine Below.drew ?_) | (with_reducible refine below_ext_of ?_ (by first | exact Nat.le_refl _ | assumption | (simp only [World.size_alloc, World.size_setCell, size_ext, World.heap_drewN]; omega)) _ _) | (with_reducible refine Below.alloc ?_ (by first | exact Nat.le_refl _ | assumption | (simp only [World.size_alloc, World.size_setCell, size_ext, World.heap_drewN]; omega)) _) | (with_reducible refine Below.setCell ?_ (by first | exact Nat.le_refl _ | assumption | (simp only [World.size_alloc, World.size_setCell, size_ext, World.heap_drewN]; omega)) _)))) (RA2.out.below (by repeat (first | (with_reducible exact Below.refl _ _) | (with_reducible assumption) | (with_reducible refine below_drewN ?_ _) | (with_reducible refine Below.drew ?_) | (with_reducible refine below_ext_of ?_ (by first | exact Nat.le_refl _ | assumption | (simp only [World.size_alloc, World.size_setCell, size_ext, World.heap_drewN]; omega)) _ _) | (with_reducible refine Below.alloc ?_ (by first | exact Nat.le_refl _ | assumption | (simp only [World.size_alloc, World.size_setCell, size_ext, World.heap_drewN]; omega)) _) | (with_reducible refine Below.setCell ?_ (by first | exact Nat.le_refl _ | assumption | (simp only [World.size_alloc, World.size_setCell, size_ext, World.heap_drewN]; omega)) _)))) HRA.out).mono ?_
  rintro e W1 ⟨rfl, hb⟩
  have hB : Below w.heap.size w W1 := Below.trans (by repeat (first | (with_reducible exact Below.refl _ _) | (with_reducible assumption) | (with_reducible refine below_drewN ?_ _) | (with_reducible refine Below.drew ?_) | (with_reducible refine below_ext_of ?_ (by first | exact Nat.le_refl _ | assumption | (simp only [World.size_alloc, World.size_setCell, size_ext, World.heap_drewN]; omega)) _ _) | (with_reducible refine Below.alloc ?_ (by first | exact Nat.le_refl _ | assumption | (simp only [World.size_alloc, World.size_setCell, size_ext, World.heap_drewN]; omega)) _) | (with_reducible refine Below.setCell ?_ (by first | exact Nat.le_refl _ | assumption | (simp only [World.size_alloc, World.size_setCell, size_ext, World.heap_drewN]; omega)) _))) (hb.mono (by simp [go_sem] <;> omega))
  replace RA1 := Lib.hid (RA1.out.below hB)
  replace RA2 := Lib.hid (RA2.out.below hB)
  replace RB1 := Lib.hid (RB1.out.below hB)
  replace RB2 := Lib.hid (RB2.out.below hB)
  have HVB := Lib.hid hB
  have Ka0 : W1.cell? ⟨w.heap.size, 0, none⟩ = some (.slice pa a1.length sa) := keep_cell hb (by simp [go_sem] <;> omega) (by simp [go_sem])
  have Ka1 : W1.cell? ⟨w.heap.size, 1, none⟩ = some (.slice qa a2.length ta) := keep_cell hb (by simp [go_sem] <;> omega) (by simp [go_sem])
  have Na : w.heap.size < W1.heap.size := Nat.lt_of_lt_of_le (by simp [go_sem] <;> omega) hb.size
  have Kb0 : W1.cell? ⟨w.heap.size + 1, 0, none⟩ = some (.slice pb b1.length sb) := keep_cell hb (by simp [go_sem] <;> omega) (by simp [go_sem])
  have Kb1 : W1.cell? ⟨w.heap.size + 1, 1, none⟩ = some (.slice qb b2.length tb) := keep_cell hb (by simp [go_sem] <;> omega) (by simp [go_sem])
  have Nb : w.heap.size + 1 < W1.heap.size := Nat.lt_of_lt_of_le (by simp [go_sem] <;> omega) hb.size
  obtain ⟨Bb, hkb⟩ : ∃ b, b = w.heap.size + 1 := ⟨_, rfl⟩
  rw [← hkb] at Kb0 Kb1 Nb ⊢
  clear hkb
  obtain ⟨Ba, hka⟩ : ∃ b, b = w.heap.size := ⟨_, rfl⟩
  rw [← hka] at Ka0 Ka1 Na ⊢
  clear hka
  clear hb hB
  cases ra with
  | true =>
    go_wp2_with fail
    refine (works_any _).mono ?_
    rintro e W2 ⟨rfl, hb⟩
    have hB : Below W1.heap.size W1 W2 := Below.trans (by repeat (first | (with_reducible exact Below.refl _ _) | (with_reducible assumption) | (with_reducible refine below_drewN ?_ _) | (with_reducible refine Below.drew ?_) | (with_reducible refine below_ext_of ?_ (by first | exact Nat.le_refl _ | assumption | (simp only [World.size_alloc, World.size_setCell, size_ext, World.heap_drewN]; omega)) _ _) | (with_reducible refine Below.alloc ?_ (by first | exact Nat.le_refl _ | assumption | (simp only [World.size_alloc, World.size_setCell, size_ext, World.heap_drewN]; omega)) _) | (with_reducible refine Below.setCell ?_ (by first | exact Nat.le_refl _ | assumption | (simp only [World.size_alloc, World.size_setCell, size_ext, World.heap_drewN]; omega)) _))) (hb.mono (by simp [go_sem] <;> omega))
    replace RA1 := Lib.hid (RA1.out.below hB)
    replace RA2 := Lib.hid (RA2.out.below hB)
    replace RB1 := Lib.hid (RB1.out.below hB)
    replace RB2 := Lib.hid (RB2.out.below hB)
    replace HVB := Lib.hid (HVB.out.trans (hB.mono HVB.out.size))
    replace Kb0 := keep_cell hB Nb Kb0
    replace Kb1 := keep_cell hB Nb Kb1
    replace Nb := Nat.lt_of_lt_of_le Nb hB.size
    replace Ka0 := keep_cell hB Na Ka0
    replace Ka1 := keep_cell hB Na Ka1
    replace Na := Nat.lt_of_lt_of_le Na hB.size
    clear hb hB
    go_wp2_with fail
    go_ret
    exact ⟨rfl, HVB.out⟩
  | false =>
    go_wp2_with fail
    refine (heavy_is _ _ _ b1 b2 rb (RB1.out.below (by repeat (first | (with_reducible exact Below.refl _ _) | (with_reducible assumption) | (with_reducible refine below_drewN ?_ _) | (with_reducible refine Below.drew ?_) | (with_reducible refine below_ext_of ?_ (by first | exact Nat.le_refl _ | assumption | (simp only [World.size_alloc, World.size_setCell, size_ext, World.heap_drewN]; omega)) _ _) | (with_reducible refine Below.alloc ?_ (by first | exact Nat.le_refl _ | assumption | (simp only [World.size_alloc, World.size_setCell, size_ext, World.heap_drewN]; omega)) _) | (with_reducible refine Below.setCell ?_ (by first | exact Nat.le_refl _ | assumption | (simp only [World.size_alloc, World.size_setCell, size_ext, World.heap_drewN]; omega)) _)))) (RB2.out.below (by repeat (first | (with_reducible exact Below.refl _ _) | (with_reducible assumption) | (with_reducible refine below_drewN ?_ _) | (with_reducible refine Below.drew ?_) | (with_reducible refine below_ext_of ?_ (by first | exact Nat.le_refl _ | assumption | (simp only [World.size_alloc, World.size_setCell, size_ext, World.heap_drewN]; omega)) _ _) | (with_reducible refine Below.alloc ?_ (by first | exact Nat.le_refl _ | assumption | (simp only [World.size_alloc, World.size_setCell, size_ext, World.heap_drewN]; omega)) _) | (with_reducible refine Below.setCell ?_ (by first | exact Nat.le_refl _ | assumption | (simp only [World.size_alloc, World.size_setCell, size_ext, World.heap_drewN]; omega)) _)))) HRB.out).mono ?_
    rintro e W2 ⟨rfl, hb⟩
    have hB : Below W1.heap.size W1 W2 := Below.trans (by repeat (first | (with_reducible exact Below.refl _ _) | (with_reducible assumption) | (with_reducible refine below_drewN ?_ _) | (with_reducible refine Below.drew ?_) | (with_reducible refine below_ext_of ?_ (by first | exact Nat.le_refl _ | assumption | (simp only [World.size_alloc, World.size_setCell, size_ext, World.heap_drewN]; omega)) _ _) | (with_reducible refine Below.alloc ?_ (by first | exact Nat.le_refl _ | assumption | (simp only [World.size_alloc, World.size_setCell, size_ext, World.heap_drewN]; omega)) _) | (with_reducible refine Below.setCell ?_ (by first | exact Nat.le_refl _ | assumption | (simp only [World.size_alloc, World.size_setCell, size_ext, World.heap_drewN]; omega)) _))) (hb.mono (by simp [go_sem] <;> omega))
    replace RA1 := Lib.hid (RA1.out.below hB)
    replace RA2 := Lib.hid (RA2.out.below hB)
    replace RB1 := Lib.hid (RB1.out.below hB)
    replace RB2 := Lib.hid (RB2.out.below hB)
    replace HVB := Lib.hid (HVB.out.trans (hB.mono HVB.out.size))
    replace Kb0 := keep_cell hB Nb Kb0
    replace Kb1 := keep_cell hB Nb Kb1
    replace Nb := Nat.lt_of_lt_of_le Nb hB.size
    replace Ka0 := keep_cell hB Na Ka0
    replace Ka1 := keep_cell hB Na Ka1
    replace Na := Nat.lt_of_lt_of_le Na hB.size
    clear hb hB
    cases rb with
    | true =>
      go_wp2_with fail
      refine (works_any _).mono ?_
      rintro e W3 ⟨rfl, hb⟩
      have hB : Below W2.heap.size W2 W3 := Below.trans (by repeat (first | (with_reducible exact Below.refl _ _) | (with_reducible assumption) | (with_reducible refine below_drewN ?_ _) | (with_reducible refine Below.drew ?_) | (with_reducible refine below_ext_of ?_ (by first | exact Nat.le_refl _ | assumption | (simp only [World.size_alloc, World.size_setCell, size_ext, World.heap_drewN]; omega)) _ _) | (with_reducible refine Below.alloc ?_ (by first | exact Nat.le_refl _ | assumption | (simp only [World.size_alloc, World.size_setCell, size_ext, World.heap_drewN]; omega)) _) | (with_reducible refine Below.setCell ?_ (by first | exact Nat.le_refl _ | assumption | (simp only [World.size_alloc, World.size_setCell, size_ext, World.heap_drewN]; omega)) _))) (hb.mono (by simp [go_sem] <;> omega))
      replace RA1 := Lib.hid (RA1.out.below hB)
      replace RA2 := Lib.hid (RA2.out.below hB)
      replace RB1 := Lib.hid (RB1.out.below hB)
      replace RB2 := Lib.hid (RB2.out.below hB)
      replace HVB := Lib.hid (HVB.out.trans (hB.mono HVB.out.size))
      replace Kb0 := keep_cell hB Nb Kb0
      replace Kb1 := keep_cell hB Nb Kb1
      replace Nb := Nat.lt_of_lt_of_le Nb hB.size
      replace Ka0 := keep_cell hB Na Ka0
      replace Ka1 := keep_cell hB Na Ka1
      replace Na := Nat.lt_of_lt_of_le Na hB.size
      clear hb hB
      go_wp2_with fail
      go_ret
      exact ⟨rfl, HVB.out⟩
    | false =>
      have HLA := Lib.hid (not_heavy HRA.out)
      have HLB := Lib.hid (not_heavy HRB.out)
      go_wp2_with fail
      refine (copied_call _ _ _ a1 a2 (RA1.out.below (by repeat (first | (with_reducible exact Below.refl _ _) | (with_reducible assumption) | (with_reducible refine below_drewN ?_ _) | (with_reducible refine Below.drew ?_) | (with_reducible refine below_ext_of ?_ (by first | exact Nat.le_refl _ | assumption | (simp only [World.size_alloc, World.size_setCell, size_ext, World.heap_drewN]; omega)) _ _) | (with_reducible refine Below.alloc ?_ (by first | exact Nat.le_refl _ | assumption | (simp only [World.size_alloc, World.size_setCell, size_ext, World.heap_drewN]; omega)) _) | (with_reducible refine Below.setCell ?_ (by first | exact Nat.le_refl _ | assumption | (simp only [World.size_alloc, World.size_setCell, size_ext, World.heap_drewN]; omega)) _)))) (RA2.out.below (by repeat (first | (with_reducible exact Below.refl _ _) | (with_reducible assumption) | (with_reducible refine below_drewN ?_ _) | (with_reducible refine Below.drew ?_) | (with_reducible refine below_ext_of ?_ (by first | exact Nat.le_refl _ | assumption | (simp only [World.size_alloc, World.size_setCell, size_ext, World.heap_drewN]; omega)) _ _) | (with_reducible refine Below.alloc ?_ (by first | exact Nat.le_refl _ | assumption | (simp only [World.size_alloc, World.size_setCell, size_ext, World.heap_drewN]; omega)) _) | (with_reducible refine Below.setCell ?_ (by first | exact Nat.le_refl _ | assumption | (simp only [World.size_alloc, World.size_setCell, size_ext, World.heap_drewN]; omega)) _)))) (Nat.le_trans HLA.out.1 (by decide)) (Nat.le_trans HLA.out.2 (by decide))).mono ?_
      rintro e W3 ⟨hb, px, sx, qx, tx, rfl, r1, r2⟩
      have hB : Below W2.heap.size W2 W3 := Below.trans (by repeat (first | (with_reducible exact Below.refl _ _) | (with_reducible assumption) | (with_reducible refine below_drewN ?_ _) | (with_reducible refine Below.drew ?_) | (with_reducible refine below_ext_of ?_ (by first | exact Nat.le_refl _ | assumption | (simp only [World.size_alloc, World.size_setCell, size_ext, World.heap_drewN]; omega)) _ _) | (with_reducible refine Below.alloc ?_ (by first | exact Nat.le_refl _ | assumption | (simp only [World.size_alloc, World.size_setCell, size_ext, World.heap_drewN]; omega)) _) | (with_reducible refine Below.setCell ?_ (by first | exact Nat.le_refl _ | assumption | (simp only [World.size_alloc, World.size_setCell, size_ext, World.heap_drewN]; omega)) _))) (hb.mono (by simp [go_sem] <;> omega))
      replace RA1 := Lib.hid (RA1.out.below hB)
      replace RA2 := Lib.hid (RA2.out.below hB)
      replace RB1 := Lib.hid (RB1.out.below hB)
      replace RB2 := Lib.hid (RB2.out.below hB)
      replace HVB := Lib.hid (HVB.out.trans (hB.mono HVB.out.size))
      replace Kb0 := keep_cell hB Nb Kb0
      replace Kb1 := keep_cell hB Nb Kb1
      replace Nb := Nat.lt_of_lt_of_le Nb hB.size
      replace Ka0 := keep_cell hB Na Ka0
      replace Ka1 := keep_cell hB Na Ka1
      replace Na := Nat.lt_of_lt_of_le Na hB.size
      have RX1 := Lib.hid r1
      have RX2 := Lib.hid r2
      clear r1 r2
      clear hb hB
      go_wp2_with fail
      refine (drop_gen _ _ _ a1 a2 d1 d2 Ed k hk2.out (RX1.out.below (by repeat (first | (with_reducible exact Below.refl _ _) | (with_reducible assumption) | (with_reducible refine below_drewN ?_ _) | (with_reducible refine Below.drew ?_) | (with_reducible refine below_ext_of ?_ (by first | exact Nat.le_refl _ | assumption | (simp only [World.size_alloc, World.size_setCell, size_ext, World.heap_drewN]; omega)) _ _) | (with_reducible refine Below.alloc ?_ (by first | exact Nat.le_refl _ | assumption | (simp only [World.size_alloc, World.size_setCell, size_ext, World.heap_drewN]; omega)) _) | (with_reducible refine Below.setCell ?_ (by first | exact Nat.le_refl _ | assumption | (simp only [World.size_alloc, World.size_setCell, size_ext, World.heap_drewN]; omega)) _)))) (RX2.out.below (by repeat (first | (with_reducible exact Below.refl _ _) | (with_reducible assumption) | (with_reducible refine below_drewN ?_ _) | (with_reducible refine Below.drew ?_) | (with_reducible refine below_ext_of ?_ (by first | exact Nat.le_refl _ | assumption | (simp only [World.size_alloc, World.size_setCell, size_ext, World.heap_drewN]; omega)) _ _) | (with_reducible refine Below.alloc ?_ (by first | exact Nat.le_refl _ | assumption | (simp only [World.size_alloc, World.size_setCell, size_ext, World.heap_drewN]; omega)) _) | (with_reducible refine Below.setCell ?_ (by first | exact Nat.le_refl _ | assumption | (simp only [World.size_alloc, World.size_setCell, size_ext, World.heap_drewN]; omega)) _)))) HZd.out).mono ?_
      rintro e W4 ⟨hb, pd, sd, qd, td, rfl, r1, r2⟩
      have hB : Below W3.heap.size W3 W4 := Below.trans (by repeat (first | (with_reducible exact Below.refl _ _) | (with_reducible assumption) | (with_reducible refine below_drewN ?_ _) | (with_reducible refine Below.drew ?_) | (with_reducible refine below_ext_of ?_ (by first | exact Nat.le_refl _ | assumption | (simp only [World.size_alloc, World.size_setCell, size_ext, World.heap_drewN]; omega)) _ _) | (with_reducible refine Below.alloc ?_ (by first | exact Nat.le_refl _ | assumption | (simp only [World.size_alloc, World.size_setCell, size_ext, World.heap_drewN]; omega)) _) | (with_reducible refine Below.setCell ?_ (by first | exact Nat.le_refl _ | assumption | (simp only [World.size_alloc, World.size_setCell, size_ext, World.heap_drewN]; omega)) _))) (hb.mono (by simp [go_sem] <;> omega))
      replace RA1 := Lib.hid (RA1.out.below hB)
      replace RA2 := Lib.hid (RA2.out.below hB)
      replace RB1 := Lib.hid (RB1.out.below hB)
      replace RB2 := Lib.hid (RB2.out.below hB)
      replace RX1 := Lib.hid (RX1.out.below hB)
      replace RX2 := Lib.hid (RX2.out.below hB)
      replace HVB := Lib.hid (HVB.out.trans (hB.mono HVB.out.size))
      replace Kb0 := keep_cell hB Nb Kb0
      replace Kb1 := keep_cell hB Nb Kb1
      replace Nb := Nat.lt_of_lt_of_le Nb hB.size
      replace Ka0 := keep_cell hB Na Ka0
      replace Ka1 := keep_cell hB Na Ka1
      replace Na := Nat.lt_of_lt_of_le Na hB.size
      have Kx0 : W4.cell? ⟨W3.heap.size, 0, none⟩ = some (.slice px a1.length sx) := keep_cell hb (by simp [go_sem] <;> omega) (by simp [go_sem])
      have Kx1 : W4.cell? ⟨W3.heap.size, 1, none⟩ = some (.slice qx a2.length tx) := keep_cell hb (by simp [go_sem] <;> omega) (by simp [go_sem])
      have Nx : W3.heap.size < W4.heap.size := Nat.lt_of_lt_of_le (by simp [go_sem] <;> omega) hb.size
      have RD1 := Lib.hid r1
      have RD2 := Lib.hid r2
      clear r1 r2
      obtain ⟨Bx, hkx⟩ : ∃ b, b = W3.heap.size := ⟨_, rfl⟩
      rw [← hkx] at Kx0 Kx1 Nx ⊢
      clear hkx
      clear hb hB
      go_wp2_with fail
      refine (cons_gen _ _ _ a1 a2 c1 c2 Ec v (RX1.out.below (by repeat (first | (with_reducible exact Below.refl _ _) | (with_reducible assumption) | (with_reducible refine below_drewN ?_ _) | (with_reducible refine Below.drew ?_) | (with_reducible refine below_ext_of ?_ (by first | exact Nat.le_refl _ | assumption | (simp only [World.size_alloc, World.size_setCell, size_ext, World.heap_drewN]; omega)) _ _) | (with_reducible refine Below.alloc ?_ (by first | exact Nat.le_refl _ | assumption | (simp only [World.size_alloc, World.size_setCell, size_ext, World.heap_drewN]; omega)) _) | (with_reducible refine Below.setCell ?_ (by first | exact Nat.le_refl _ | assumption | (simp only [World.size_alloc, World.size_setCell, size_ext, World.heap_drewN]; omega)) _)))) (RX2.out.below (by repeat (first | (with_reducible exact Below.refl _ _) | (with_reducible assumption) | (with_reducible refine below_drewN ?_ _) | (with_reducible refine Below.drew ?_) | (with_reducible refine below_ext_of ?_ (by first | exact Nat.le_refl _ | assumption | (simp only [World.size_alloc, World.size_setCell, size_ext, World.heap_drewN]; omega)) _ _) | (with_reducible refine Below.alloc ?_ (by first | exact Nat.le_refl _ | assumption | (simp only [World.size_alloc, World.size_setCell, size_ext, World.heap_drewN]; omega)) _) | (with_reducible refine Below.setCell ?_ (by first | exact Nat.le_refl _ | assumption | (simp only [World.size_alloc, World.size_setCell, size_ext, World.heap_drewN]; omega)) _)))) HZc.out).mono ?_
      rintro e W5 ⟨hb, pc, sc, qc, tc, rfl, r1, r2⟩
      have hB : Below W4.heap.size W4 W5 := Below.trans (by repeat (first | (with_reducible exact Below.refl _ _) | (with_reducible assumption) | (with_reducible refine below_drewN ?_ _) | (with_reducible refine Below.drew ?_) | (with_reducible refine below_ext_of ?_ (by first | exact Nat.le_refl _ | assumption | (simp only [World.size_alloc, World.size_setCell, size_ext, World.heap_drewN]; omega)) _ _) | (with_reducible refine Below.alloc ?_ (by first | exact Nat.le_refl _ | assumption | (simp only [World.size_alloc, World.size_setCell, size_ext, World.heap_drewN]; omega)) _) | (with_reducible refine Below.setCell ?_ (by first | exact Nat.le_refl _ | assumption | (simp only [World.size_alloc, World.size_setCell, size_ext, World.heap_drewN]; omega)) _))) (hb.mono (by simp [go_sem] <;> omega))
      replace RA1 := Lib.hid (RA1.out.below hB)
      replace RA2 := Lib.hid (RA2.out.below hB)
      replace RB1 := Lib.hid (RB1.out.below hB)
      replace RB2 := Lib.hid (RB2.out.below hB)
      replace RX1 := Lib.hid (RX1.out.below hB)
      replace RX2 := Lib.hid (RX2.out.below hB)
      replace RD1 := Lib.hid (RD1.out.below hB)
      replace RD2 := Lib.hid (RD2.out.below hB)
      replace HVB := Lib.hid (HVB.out.trans (hB.mono HVB.out.size))
      replace Kb0 := keep_cell hB Nb Kb0
      replace Kb1 := keep_cell hB Nb Kb1
      replace Nb := Nat.lt_of_lt_of_le Nb hB.size
      replace Ka0 := keep_cell hB Na Ka0
      replace Ka1 := keep_cell hB Na Ka1
      replace Na := Nat.lt_of_lt_of_le Na hB.size
      replace Kx0 := keep_cell hB Nx Kx0
      replace Kx1 := keep_cell hB Nx Kx1
      replace Nx := Nat.lt_of_lt_of_le Nx hB.size
      have Kd0 : W5.cell? ⟨W4.heap.size, 0, none⟩ = some (.slice pd d1.length sd) := keep_cell hb (by simp [go_sem] <;> omega) (by simp [go_sem])
      have Kd1 : W5.cell? ⟨W4.heap.size, 1, none⟩ = some (.slice qd d2.length td) := keep_cell hb (by simp [go_sem] <;> omega) (by simp [go_sem])
      have Nd : W4.heap.size < W5.heap.size := Nat.lt_of_lt_of_le (by simp [go_sem] <;> omega) hb.size
      have RC1 := Lib.hid r1
      have RC2 := Lib.hid r2
      clear r1 r2
      obtain ⟨Bd, hkd⟩ : ∃ b, b = W4.heap.size := ⟨_, rfl⟩
      rw [← hkd] at Kd0 Kd1 Nd ⊢
      clear hkd
      clear hb hB
      go_wp2_with fail
      refine (up_gen _ _ _ a1 a2 u1 u2 Eu k hk2.out (RX1.out.below (by repeat (first | (with_reducible exact Below.refl _ _) | (with_reducible assumption) | (with_reducible refine below_drewN ?_ _) | (with_reducible refine Below.drew ?_) | (with_reducible refine below_ext_of ?_ (by first | exact Nat.le_refl _ | assumption | (simp only [World.size_alloc, World.size_setCell, size_ext, World.heap_drewN]; omega)) _ _) | (with_reducible refine Below.alloc ?_ (by first | exact Nat.le_refl _ | assumption | (simp only [World.size_alloc, World.size_setCell, size_ext, World.heap_drewN]; omega)) _) | (with_reducible refine Below.setCell ?_ (by first | exact Nat.le_refl _ | assumption | (simp only [World.size_alloc, World.size_setCell, size_ext, World.heap_drewN]; omega)) _)))) (RX2.out.below (by repeat (first | (with_reducible exact Below.refl _ _) | (with_reducible assumption) | (with_reducible refine below_drewN ?_ _) | (with_reducible refine Below.drew ?_) | (with_reducible refine below_ext_of ?_ (by first | exact Nat.le_refl _ | assumption | (simp only [World.size_alloc, World.size_setCell, size_ext, World.heap_drewN]; omega)) _ _) | (with_reducible refine Below.alloc ?_ (by first | exact Nat.le_refl _ | assumption | (simp only [World.size_alloc, World.size_setCell, size_ext, World.heap_drewN]; omega)) _) | (with_reducible refine Below.setCell ?_ (by first | exact Nat.le_refl _ | assumption | (simp only [World.size_alloc, World.size_setCell, size_ext, World.heap_drewN]; omega)) _)))) HZu.out).mono ?_
      rintro e W6 ⟨hb, pu, su, qu, tu, rfl, r1, r2⟩
      have hB : Below W5.heap.size W5 W6 := Below.trans (by repeat (first | (with_reducible exact Below.refl _ _) | (with_reducible assumption) | (with_reducible refine below_drewN ?_ _) | (with_reducible refine Below.drew ?_) | (with_reducible refine below_ext_of ?_ (by first | exact Nat.le_refl _ | assumption | (simp only [World.size_alloc, World.size_setCell, size_ext, World.heap_drewN]; omega)) _ _) | (with_reducible refine Below.alloc ?_ (by first | exact Nat.le_refl _ | assumption | (simp only [World.size_alloc, World.size_setCell, size_ext, World.heap_drewN]; omega)) _) | (with_reducible refine Below.setCell ?_ (by first | exact Nat.le_refl _ | assumption | (simp only [World.size_alloc, World.size_setCell, size_ext, World.heap_drewN]; omega)) _))) (hb.mono (by simp [go_sem] <;> omega))
      replace RA1 := Lib.hid (RA1.out.below hB)
      replace RA2 := Lib.hid (RA2.out.below hB)
      replace RB1 := Lib.hid (RB1.out.below hB)
      replace RB2 := Lib.hid (RB2.out.below hB)
      replace RX1 := Lib.hid (RX1.out.below hB)
      replace RX2 := Lib.hid (RX2.out.below hB)
      replace RD1 := Lib.hid (RD1.out.below hB)
      replace RD2 := Lib.hid (RD2.out.below hB)
      replace RC1 := Lib.hid (RC1.out.below hB)
      replace RC2 := Lib.hid (RC2.out.below hB)
      replace HVB := Lib.hid (HVB.out.trans (hB.mono HVB.out.size))
      replace Kb0 := keep_cell hB Nb Kb0
      replace Kb1 := keep_cell hB Nb Kb1
      replace Nb := Nat.lt_of_lt_of_le Nb hB.size
      replace Ka0 := keep_cell hB Na Ka0
      replace Ka1 := keep_cell hB Na Ka1
      replace Na := Nat.lt_of_lt_of_le Na hB.size
      replace Kx0 := keep_cell hB Nx Kx0
      replace Kx1 := keep_cell hB Nx Kx1
      replace Nx := Nat.lt_of_lt_of_le Nx hB.size
      replace Kd0 := keep_cell hB Nd Kd0
      replace Kd1 := keep_cell hB Nd Kd1
      replace Nd := Nat.lt_of_lt_of_le Nd hB.size
      have Kc0 : W6.cell? ⟨W5.heap.size, 0, none⟩ = some (.slice pc c1.length sc) := keep_cell hb (by simp [go_sem] <;> omega) (by simp [go_sem])
      have Kc1 : W6.cell? ⟨W5.heap.size, 1, none⟩ = some (.slice qc c2.length tc) := keep_cell hb (by simp [go_sem] <;> omega) (by simp [go_sem])
      have Nc : W5.heap.size < W6.heap.size := Nat.lt_of_lt_of_le (by simp [go_sem] <;> omega) hb.size
      have RU1 := Lib.hid r1
      have RU2 := Lib.hid r2
      clear r1 r2
      obtain ⟨Bc, hkc⟩ : ∃ b, b = W5.heap.size := ⟨_, rfl⟩
      rw [← hkc] at Kc0 Kc1 Nc ⊢
      clear hkc
      clear hb hB
      go_wp2_with fail
      refine (down_gen _ _ _ a1 a2 g1 g2 Eg k (RX1.out.below (by repeat (first | (with_reducible exact Below.refl _ _) | (with_reducible assumption) | (with_reducible refine below_drewN ?_ _) | (with_reducible refine Below.drew ?_) | (with_reducible refine below_ext_of ?_ (by first | exact Nat.le_refl _ | assumption | (simp only [World.size_alloc, World.size_setCell, size_ext, World.heap_drewN]; omega)) _ _) | (with_reducible refine Below.alloc ?_ (by first | exact Nat.le_refl _ | assumption | (simp only [World.size_alloc, World.size_setCell, size_ext, World.heap_drewN]; omega)) _) | (with_reducible refine Below.setCell ?_ (by first | exact Nat.le_refl _ | assumption | (simp only [World.size_alloc, World.size_setCell, size_ext, World.heap_drewN]; omega)) _)))) (RX2.out.below (by repeat (first | (with_reducible exact Below.refl _ _) | (with_reducible assumption) | (with_reducible refine below_drewN ?_ _) | (with_reducible refine Below.drew ?_) | (with_reducible refine below_ext_of ?_ (by first | exact Nat.le_refl _ | assumption | (simp only [World.size_alloc, World.size_setCell, size_ext, World.heap_drewN]; omega)) _ _) | (with_reducible refine Below.alloc ?_ (by first | exact Nat.le_refl _ | assumption | (simp only [World.size_alloc, World.size_setCell, size_ext, World.heap_drewN]; omega)) _) | (with_reducible refine Below.setCell ?_ (by first | exact Nat.le_refl _ | assumption | (simp only [World.size_alloc, World.size_setCell, size_ext, World.heap_drewN]; omega)) _)))) HZg.out).mono ?_
      rintro e W7 ⟨hb, pg, sg, qg, tg, rfl, r1, r2⟩
      have hB : Below W6.heap.size W6 W7 := Below.trans (by repeat (first | (with_reducible exact Below.refl _ _) | (with_reducible assumption) | (with_reducible refine below_drewN ?_ _) | (with_reducible refine Below.drew ?_) | (with_reducible refine below_ext_of ?_ (by first | exact Nat.le_refl _ | assumption | (simp only [World.size_alloc, World.size_setCell, size_ext, World.heap_drewN]; omega)) _ _) | (with_reducible refine Below.alloc ?_ (by first | exact Nat.le_refl _ | assumption | (simp only [World.size_alloc, World.size_setCell, size_ext, World.heap_drewN]; omega)) _) | (with_reducible refine Below.setCell ?_ (by first | exact Nat.le_refl _ | assumption | (simp only [World.size_alloc, World.size_setCell, size_ext, World.heap_drewN]; omega)) _))) (hb.mono (by simp [go_sem] <;> omega))
      replace RA1 := Lib.hid (RA1.out.below hB)
      replace RA2 := Lib.hid (RA2.out.below hB)
      replace RB1 := Lib.hid (RB1.out.below hB)
      replace RB2 := Lib.hid (RB2.out.below hB)
      replace RX1 := Lib.hid (RX1.out.below hB)
      replace RX2 := Lib.hid (RX2.out.below hB)
      replace RD1 := Lib.hid (RD1.out.below hB)
      replace RD2 := Lib.hid (RD2.out.below hB)
      replace RC1 := Lib.hid (RC1.out.below hB)
      replace RC2 := Lib.hid (RC2.out.below hB)
      replace RU1 := Lib.hid (RU1.out.below hB)
      replace RU2 := Lib.hid (RU2.out.below hB)
      replace HVB := Lib.hid (HVB.out.trans (hB.mono HVB.out.size))
      replace Kb0 := keep_cell hB Nb Kb0
      replace Kb1 := keep_cell hB Nb Kb1
      replace Nb := Nat.lt_of_lt_of_le Nb hB.size
      replace Ka0 := keep_cell hB Na Ka0
      replace Ka1 := keep_cell hB Na Ka1
      replace Na := Nat.lt_of_lt_of_le Na hB.size
      replace Kx0 := keep_cell hB Nx Kx0
      replace Kx1 := keep_cell hB Nx Kx1
      replace Nx := Nat.lt_of_lt_of_le Nx hB.size
      replace Kd0 := keep_cell hB Nd Kd0
      replace Kd1 := keep_cell hB Nd Kd1
      replace Nd := Nat.lt_of_lt_of_le Nd hB.size
      replace Kc0 := keep_cell hB Nc Kc0
      replace Kc1 := keep_cell hB Nc Kc1
      replace Nc := Nat.lt_of_lt_of_le Nc hB.size
      have Ku0 : W7.cell? ⟨W6.heap.size, 0, none⟩ = some (.slice pu u1.length su) := keep_cell hb (by simp [go_sem] <;> omega) (by simp [go_sem])
      have Ku1 : W7.cell? ⟨W6.heap.size, 1, none⟩ = some (.slice qu u2.length tu) := keep_cell hb (by simp [go_sem] <;> omega) (by simp [go_sem])
      have Nu : W6.heap.size < W7.heap.size := Nat.lt_of_lt_of_le (by simp [go_sem] <;> omega) hb.size
      have RG1 := Lib.hid r1
      have RG2 := Lib.hid r2
      clear r1 r2
      obtain ⟨Bu, hku⟩ : ∃ b, b = W6.heap.size := ⟨_, rfl⟩
      rw [← hku] at Ku0 Ku1 Nu ⊢
      clear hku
      clear hb hB
      go_upto_region 8 with (fail)
      obtain ⟨V1, hV1⟩ : ∃ V, V = (W7).alloc (.cells #[.slice pg g1.length sg, .slice qg g2.length tg] 24) := ⟨_, rfl⟩
      rw [← hV1]
      have hB : Below W7.heap.size W7 V1 := by rw [hV1]; repeat (first | (with_reducible exact Below.refl _ _) | (with_reducible assumption) | (with_reducible refine below_drewN ?_ _) | (with_reducible refine Below.drew ?_) | (with_reducible refine below_ext_of ?_ (by first | exact Nat.le_refl _ | assumption | (simp only [World.size_alloc, World.size_setCell, size_ext, World.heap_drewN]; omega)) _ _) | (with_reducible refine Below.alloc ?_ (by first | exact Nat.le_refl _ | assumption | (simp only [World.size_alloc, World.size_setCell, size_ext, World.heap_drewN]; omega)) _) | (with_reducible refine Below.setCell ?_ (by first | exact Nat.le_refl _ | assumption | (simp only [World.size_alloc, World.size_setCell, size_ext, World.heap_drewN]; omega)) _))
      replace RA1 := Lib.hid (RA1.out.below hB)
      replace RA2 := Lib.hid (RA2.out.below hB)
      replace RB1 := Lib.hid (RB1.out.below hB)
      replace RB2 := Lib.hid (RB2.out.below hB)
      replace RX1 := Lib.hid (RX1.out.below hB)
      replace RX2 := Lib.hid (RX2.out.below hB)
      replace RD1 := Lib.hid (RD1.out.below hB)
      replace RD2 := Lib.hid (RD2.out.below hB)
      replace RC1 := Lib.hid (RC1.out.below hB)
      replace RC2 := Lib.hid (RC2.out.below hB)
      replace RU1 := Lib.hid (RU1.out.below hB)
      replace RU2 := Lib.hid (RU2.out.below hB)
      replace RG1 := Lib.hid (RG1.out.below hB)
      replace RG2 := Lib.hid (RG2.out.below hB)
      replace HVB := Lib.hid (HVB.out.trans (hB.mono HVB.out.size))
      replace Kb0 := keep_cell hB Nb Kb0
      replace Kb1 := keep_cell hB Nb Kb1
      replace Nb := Nat.lt_of_lt_of_le Nb hB.size
      replace Ka0 := keep_cell hB Na Ka0
      replace Ka1 := keep_cell hB Na Ka1
      replace Na := Nat.lt_of_lt_of_le Na hB.size
      replace Kx0 := keep_cell hB Nx Kx0
      replace Kx1 := keep_cell hB Nx Kx1
      replace Nx := Nat.lt_of_lt_of_le Nx hB.size
      replace Kd0 := keep_cell hB Nd Kd0
      replace Kd1 := keep_cell hB Nd Kd1
      replace Nd := Nat.lt_of_lt_of_le Nd hB.size
      replace Kc0 := keep_cell hB Nc Kc0
      replace Kc1 := keep_cell hB Nc Kc1
      replace Nc := Nat.lt_of_lt_of_le Nc hB.size
      replace Ku0 := keep_cell hB Nu Ku0
      replace Ku1 := keep_cell hB Nu Ku1
      replace Nu := Nat.lt_of_lt_of_le Nu hB.size
      have Kg0 : V1.cell? ⟨W7.heap.size, 0, none⟩ = some (.slice pg g1.length sg) := by rw [hV1]; simp [go_sem]
      have Kg1 : V1.cell? ⟨W7.heap.size, 1, none⟩ = some (.slice qg g2.length tg) := by rw [hV1]; simp [go_sem]
      have Ng : W7.heap.size < V1.heap.size := by rw [hV1]; simp [go_sem] <;> omega
      obtain ⟨Bg, hkg⟩ : ∃ b, b = W7.heap.size := ⟨_, rfl⟩
      rw [← hkg] at Kg0 Kg1 Ng ⊢
      clear hkg
      clear hB hV1
      go_cut [20, 21] (fun s20 s21 wc => s21 = .int .i64 Ez ∧ ∃ Bz V pz qz sz tz, s20 = .pointer (some ⟨Bz, 0, none⟩) ∧ V = wc ∧ Below V1.heap.size V1 V ∧ V1.heap.size ≤ Bz ∧ Bz < V.heap.size ∧ V.cell? ⟨Bz, 0, none⟩ = some (.slice pz z1.length sz) ∧ V.cell? ⟨Bz, 1, none⟩ = some (.slice qz z2.length tz) ∧ Hid (RowAt V (.slice pz z1.length sz) z1) ∧ Hid (RowAt V (.slice qz z2.length tz) z2))
      case first =>
        refine wp_region_held_drew (S := (fun W' => W'.cell? ⟨Bx, 0, none⟩ = some (.slice px a1.length sx) ∧ W'.cell? ⟨Bx, 1, none⟩ = some (.slice qx a2.length tx) ∧ W'.cell? ⟨Bb, 0, none⟩ = some (.slice pb b1.length sb) ∧ W'.cell? ⟨Bb, 1, none⟩ = some (.slice qb b2.length tb))) (by kernel_rfl) ?hS1 (fun hHeld => ?go1)
        case hS1 =>
          (try dsimp only)
          try go_simp
        case go1 =>
        refine' wpAnyH_take (i := 0) (oi := ⟨_, _, _, _, _, _⟩) (v := ?v2) rfl (by kernel_rfl) (by kernel_rfl) (by kernel_rfl) (fun _ _ _ h => h) (Or.inl ⟨by rfl, ?hy2⟩) (by assumption) ?rest2
        case hy2 =>
          intro w hSw
          (try dsimp only at hSw)
          go_simp
          try (with_reducible rfl)
        case rest2 =>
        (try simp only [Act.put, List.setIfInBounds_toArray, List.set_cons_zero, List.set_cons_succ])
        refine' wpAnyH_take (i := 1) (oi := ⟨_, _, _, _, _, _⟩) (v := ?v3) rfl (by kernel_rfl) (by kernel_rfl) (by kernel_rfl) (fun _ _ _ h => h) (Or.inl ⟨by rfl, ?hy3⟩) (by assumption) ?rest3
        case hy3 =>
          intro w hSw
          (try dsimp only at hSw)
          go_simp
          try (with_reducible rfl)
        case rest3 =>
        (try simp only [Act.put, List.setIfInBounds_toArray, List.set_cons_zero, List.set_cons_succ])
        refine' wpAnyH_take (i := 2) (oi := ⟨_, _, _, _, _, _⟩) (v := ?v4) rfl (by kernel_rfl) (by kernel_rfl) (by kernel_rfl) (fun _ _ _ h => h) (Or.inl ⟨by rfl, ?hy4⟩) (by assumption) ?rest4
        case hy4 =>
          intro w hSw
          (try dsimp only at hSw)
          go_simp
          try (with_reducible rfl)
        case rest4 =>
        (try simp only [Act.put, List.setIfInBounds_toArray, List.set_cons_zero, List.set_cons_succ])
        refine wpAnyH_ready (rs := [3, 8]) (by kernel_rfl) (by simp) ?_
        refine (AllReadyH.cons (o := ⟨_, _, _, _, _, _⟩) rfl (fun K hK => ?_) (AllReadyH.cons (o := ⟨_, _, _, _, _, _⟩) rfl (fun K hK => ?_) AllReadyH.nil))
        · go_simp
          go_at_call 12
          refine (copied_call _ _ _ b1 b2 (RB1.out.below (by repeat (first | (with_reducible exact Below.refl _ _) | (with_reducible assumption) | (with_reducible refine below_drewN ?_ _) | (with_reducible refine Below.drew ?_) | (with_reducible refine below_ext_of ?_ (by first | exact Nat.le_refl _ | assumption | (simp only [World.size_alloc, World.size_setCell, size_ext, World.heap_drewN]; omega)) _ _) | (with_reducible refine Below.alloc ?_ (by first | exact Nat.le_refl _ | assumption | (simp only [World.size_alloc, World.size_setCell, size_ext, World.heap_drewN]; omega)) _) | (with_reducible refine Below.setCell ?_ (by first | exact Nat.le_refl _ | assumption | (simp only [World.size_alloc, World.size_setCell, size_ext, World.heap_drewN]; omega)) _)))) (RB2.out.below (by repeat (first | (with_reducible exact Below.refl _ _) | (with_reducible assumption) | (with_reducible refine below_drewN ?_ _) | (with_reducible refine Below.drew ?_) | (with_reducible refine below_ext_of ?_ (by first | exact Nat.le_refl _ | assumption | (simp only [World.size_alloc, World.size_setCell, size_ext, World.heap_drewN]; omega)) _ _) | (with_reducible refine Below.alloc ?_ (by first | exact Nat.le_refl _ | assumption | (simp only [World.size_alloc, World.size_setCell, size_ext, World.heap_drewN]; omega)) _) | (with_reducible refine Below.setCell ?_ (by first | exact Nat.le_refl _ | assumption | (simp only [World.size_alloc, World.size_setCell, size_ext, World.heap_drewN]; omega)) _)))) (Nat.le_trans HLB.out.1 (by decide)) (Nat.le_trans HLB.out.2 (by decide))).mono ?_
          rintro e w3 ⟨hb, pv, sv, qv, tv, rfl, r1, r2⟩
          have hbw3 : Below V1.heap.size V1 w3 := Below.trans (by repeat (first | (with_reducible exact Below.refl _ _) | (with_reducible assumption) | (with_reducible refine below_drewN ?_ _) | (with_reducible refine Below.drew ?_) | (with_reducible refine below_ext_of ?_ (by first | exact Nat.le_refl _ | assumption | (simp only [World.size_alloc, World.size_setCell, size_ext, World.heap_drewN]; omega)) _ _) | (with_reducible refine Below.alloc ?_ (by first | exact Nat.le_refl _ | assumption | (simp only [World.size_alloc, World.size_setCell, size_ext, World.heap_drewN]; omega)) _) | (with_reducible refine Below.setCell ?_ (by first | exact Nat.le_refl _ | assumption | (simp only [World.size_alloc, World.size_setCell, size_ext, World.heap_drewN]; omega)) _))) (hb.mono (by simp [go_sem] <;> omega))
          have RV1 := Lib.hid r1
          have RV2 := Lib.hid r2
          clear hb r1 r2
          have Jw3x0 := keep_cell hbw3 Nx Kx0
          have Jw3x1 := keep_cell hbw3 Nx Kx1
          have Jw3b0 := keep_cell hbw3 Nb Kb0
          have Jw3b1 := keep_cell hbw3 Nb Kb1
          have Mw3x : Bx < w3.heap.size := Nat.lt_of_lt_of_le Nx hbw3.size
          have Mw3b : Bb < w3.heap.size := Nat.lt_of_lt_of_le Nb hbw3.size
          have HBw3 := Lib.hid hbw3
          clear hbw3
          go_simp
          refine hK.out _ _ ?hS6 (fun hHeld2 => ?go6)
          case hS6 =>
            (try dsimp only)
            try go_simp
          case go6 =>
          clear hK K
          clear hHeld
          have hHeld := hHeld2
          clear hHeld2
          (try simp only [Act.put, List.setIfInBounds_toArray, List.set_cons_zero, List.set_cons_succ])
          refine wpAnyH_ready (rs := [4, 8]) (by kernel_rfl) (by simp) ?_
          refine (AllReadyH.cons (o := ⟨_, _, _, _, _, _⟩) rfl (fun K hK => ?_) (AllReadyH.cons (o := ⟨_, _, _, _, _, _⟩) rfl (fun K hK => ?_) AllReadyH.nil))
          · go_simp
            go_at_call 10
            refine (zip_gen _ op _ _ _ _ a1 a2 b1 b2 z1 z2 Ez (RX1.out.below (HBw3.out.trans (Below.mono (by repeat (first | (with_reducible exact Below.refl _ _) | (with_reducible assumption) | (with_reducible refine below_drewN ?_ _) | (with_reducible refine Below.drew ?_) | (with_reducible refine below_ext_of ?_ (by first | exact Nat.le_refl _ | assumption | (simp only [World.size_alloc, World.size_setCell, size_ext, World.heap_drewN]; omega)) _ _) | (with_reducible refine Below.alloc ?_ (by first | exact Nat.le_refl _ | assumption | (simp only [World.size_alloc, World.size_setCell, size_ext, World.heap_drewN]; omega)) _) | (with_reducible refine Below.setCell ?_ (by first | exact Nat.le_refl _ | assumption | (simp only [World.size_alloc, World.size_setCell, size_ext, World.heap_drewN]; omega)) _))) HBw3.out.size))) (RX2.out.below (HBw3.out.trans (Below.mono (by repeat (first | (with_reducible exact Below.refl _ _) | (with_reducible assumption) | (with_reducible refine below_drewN ?_ _) | (with_reducible refine Below.drew ?_) | (with_reducible refine below_ext_of ?_ (by first | exact Nat.le_refl _ | assumption | (simp only [World.size_alloc, World.size_setCell, size_ext, World.heap_drewN]; omega)) _ _) | (with_reducible refine Below.alloc ?_ (by first | exact Nat.le_refl _ | assumption | (simp only [World.size_alloc, World.size_setCell, size_ext, World.heap_drewN]; omega)) _) | (with_reducible refine Below.setCell ?_ (by first | exact Nat.le_refl _ | assumption | (simp only [World.size_alloc, World.size_setCell, size_ext, World.heap_drewN]; omega)) _))) HBw3.out.size))) (RV1.out.below (by repeat (first | (with_reducible exact Below.refl _ _) | (with_reducible assumption) | (with_reducible refine below_drewN ?_ _) | (with_reducible refine Below.drew ?_) | (with_reducible refine below_ext_of ?_ (by first | exact Nat.le_refl _ | assumption | (simp only [World.size_alloc, World.size_setCell, size_ext, World.heap_drewN]; omega)) _ _) | (with_reducible refine Below.alloc ?_ (by first | exact Nat.le_refl _ | assumption | (simp only [World.size_alloc, World.size_setCell, size_ext, World.heap_drewN]; omega)) _) | (with_reducible refine Below.setCell ?_ (by first | exact Nat.le_refl _ | assumption | (simp only [World.size_alloc, World.size_setCell, size_ext, World.heap_drewN]; omega)) _)))) (RV2.out.below (by repeat (first | (with_reducible exact Below.refl _ _) | (with_reducible assumption) | (with_reducible refine below_drewN ?_ _) | (with_reducible refine Below.drew ?_) | (with_reducible refine below_ext_of ?_ (by first | exact Nat.le_refl _ | assumption | (simp only [World.size_alloc, World.size_setCell, size_ext, World.heap_drewN]; omega)) _ _) | (with_reducible refine Below.alloc ?_ (by first | exact Nat.le_refl _ | assumption | (simp only [World.size_alloc, World.size_setCell, size_ext, World.heap_drewN]; omega)) _) | (with_reducible refine Below.setCell ?_ (by first | exact Nat.le_refl _ | assumption | (simp only [World.size_alloc, World.size_setCell, size_ext, World.heap_drewN]; omega)) _)))) I_a1.out I_b1.out HZz.out).mono ?_
            rintro e w4 ⟨hb, pz, sz, qz, tz, rfl, r1, r2⟩
            have hbw4 : Below V1.heap.size V1 w4 := HBw3.out.trans (Below.mono (Below.trans (by repeat (first | (with_reducible exact Below.refl _ _) | (with_reducible assumption) | (with_reducible refine below_drewN ?_ _) | (with_reducible refine Below.drew ?_) | (with_reducible refine below_ext_of ?_ (by first | exact Nat.le_refl _ | assumption | (simp only [World.size_alloc, World.size_setCell, size_ext, World.heap_drewN]; omega)) _ _) | (with_reducible refine Below.alloc ?_ (by first | exact Nat.le_refl _ | assumption | (simp only [World.size_alloc, World.size_setCell, size_ext, World.heap_drewN]; omega)) _) | (with_reducible refine Below.setCell ?_ (by first | exact Nat.le_refl _ | assumption | (simp only [World.size_alloc, World.size_setCell, size_ext, World.heap_drewN]; omega)) _))) (hb.mono (by simp [go_sem] <;> omega))) HBw3.out.size)
            have RZ1 := Lib.hid r1
            have RZ2 := Lib.hid r2
            clear hb r1 r2
            have Jw4x0 := keep_cell hbw4 Nx Kx0
            have Jw4x1 := keep_cell hbw4 Nx Kx1
            have Jw4b0 := keep_cell hbw4 Nb Kb0
            have Jw4b1 := keep_cell hbw4 Nb Kb1
            have Mw4x : Bx < w4.heap.size := Nat.lt_of_lt_of_le Nx hbw4.size
            have Mw4b : Bb < w4.heap.size := Nat.lt_of_lt_of_le Nb hbw4.size
            have HBw4 := Lib.hid hbw4
            clear hbw4
            go_simp
            refine hK.out _ _ ?hS8 (fun hHeld2 => ?go8)
            case hS8 =>
              (try dsimp only)
              try go_simp
            case go8 =>
            clear hK K
            clear hHeld
            have hHeld := hHeld2
            clear hHeld2
            (try simp only [Act.put, List.setIfInBounds_toArray, List.set_cons_zero, List.set_cons_succ])
            refine' wpAnyH_take (i := 5) (oi := ⟨_, _, _, _, _, _⟩) (v := ?v9) rfl (by kernel_rfl) (by kernel_rfl) (by kernel_rfl) (fun _ _ _ h => h) (Or.inl ⟨by rfl, ?hy9⟩) (by assumption) ?rest9
            case hy9 =>
              intro w hSw
              (try dsimp only at hSw)
              go_simp
              try (with_reducible rfl)
            case rest9 =>
            (try simp only [Act.put, List.setIfInBounds_toArray, List.set_cons_zero, List.set_cons_succ])
            refine' wpAnyH_take (i := 6) (oi := ⟨_, _, _, _, _, _⟩) (v := ?v10) rfl (by kernel_rfl) (by kernel_rfl) (by kernel_rfl) (fun _ _ _ h => h) (Or.inl ⟨by rfl, ?hy10⟩) (by assumption) ?rest10
            case hy10 =>
              intro w hSw
              (try dsimp only at hSw)
              go_simp
              try (with_reducible rfl)
            case rest10 =>
            (try simp only [Act.put, List.setIfInBounds_toArray, List.set_cons_zero, List.set_cons_succ])
            refine' wpAnyH_take (i := 7) (oi := ⟨_, _, _, _, _, _⟩) (v := ?v11) rfl (by kernel_rfl) (by kernel_rfl) (by kernel_rfl) (fun _ _ _ h => h) (Or.inl ⟨by rfl, ?hy11⟩) (by assumption) ?rest11
            case hy11 =>
              intro w hSw
              (try dsimp only at hSw)
              go_simp
              try (with_reducible rfl)
            case rest11 =>
            (try simp only [Act.put, List.setIfInBounds_toArray, List.set_cons_zero, List.set_cons_succ])
            refine wpAnyH_ready (rs := [8]) (by kernel_rfl) (by simp) ?_
            refine (AllReadyH.cons (o := ⟨_, _, _, _, _, _⟩) rfl (fun K hK => ?_) AllReadyH.nil)
            go_simp
            skip
            refine hK.out _ _ ?hS13 (fun hHeld2 => ?go13)
            case hS13 =>
              (try dsimp only)
              try go_simp
            case go13 =>
            clear hK K
            clear hHeld
            have hHeld := hHeld2
            clear hHeld2
            (try simp only [Act.put, List.setIfInBounds_toArray, List.set_cons_zero, List.set_cons_succ])
            refine wpAnyH_ready (rs := [9]) (by kernel_rfl) (by simp) ?_
            refine (AllReadyH.cons (o := ⟨_, _, _, _, _, _⟩) rfl (fun K hK => ?_) AllReadyH.nil)
            go_simp
            skip
            refine hK.out _ _ ?hS15 (fun hHeld2 => ?go15)
            case hS15 =>
              (try dsimp only)
              try go_simp
            case go15 =>
            clear hK K
            clear hHeld
            have hHeld := hHeld2
            clear hHeld2
            (try simp only [Act.put, List.setIfInBounds_toArray, List.set_cons_zero, List.set_cons_succ])
            refine' wpAnyH_take (i := 10) (oi := ⟨_, _, _, _, _, _⟩) (v := ?v16) rfl (by kernel_rfl) (by kernel_rfl) (by kernel_rfl) (fun _ _ _ h => h) (Or.inl ⟨by rfl, ?hy16⟩) (by assumption) ?rest16
            case hy16 =>
              intro w hSw
              (try dsimp only at hSw)
              go_simp
              try (with_reducible rfl)
            case rest16 =>
            (try simp only [Act.put, List.setIfInBounds_toArray, List.set_cons_zero, List.set_cons_succ])
            refine wpAnyH_done (by kernel_rfl) ?_ _
            go_wp2_with fail
            go_meet
            case rel =>
              refine ⟨rfl, _, _, _, _, _, _, rfl, rfl, HBw4.out.alloc HBw4.out.size _, HBw4.out.size, by simp [go_sem], by simp [go_sem], by simp [go_sem], Lib.hid (RZ1.out.below ((Below.refl _ _).alloc (Nat.le_refl _) _)), Lib.hid (RZ2.out.below ((Below.refl _ _).alloc (Nat.le_refl _) _))⟩
          · go_simp
            obtain ⟨BZ, hBZ⟩ : ∃ BZ, BZ = w3.heap.size := ⟨_, rfl⟩
            have HZ3 : Hid ((w3.alloc (.cells #[.slice none 0 0, .slice none 0 0] 24)).heap[BZ]? = some (.cells #[.slice none 0 0, .slice none 0 0] 24)) := Lib.hid (by rw [hBZ]; exact heap_alloc_new w3 _)
            have LZ : Hid (V1.heap.size ≤ BZ) := Lib.hid (by rw [hBZ]; exact HBw3.out.size)
            have NZ3 : Hid (BZ < (w3.alloc (.cells #[.slice none 0 0, .slice none 0 0] 24)).heap.size) := Lib.hid (by rw [hBZ, World.size_alloc]; omega)
            rw [← hBZ]
            clear hBZ
            refine hK.out _ _ ?hS18 (fun hHeld2 => ?go18)
            case hS18 =>
              (try dsimp only)
              try go_simp
            case go18 =>
            clear hK K
            clear hHeld
            have hHeld := hHeld2
            clear hHeld2
            (try simp only [Act.put, List.setIfInBounds_toArray, List.set_cons_zero, List.set_cons_succ])
            refine wpAnyH_ready (rs := [4]) (by kernel_rfl) (by simp) ?_
            refine (AllReadyH.cons (o := ⟨_, _, _, _, _, _⟩) rfl (fun K hK => ?_) AllReadyH.nil)
            go_simp
            go_at_call 10
            refine (zip_gen _ op _ _ _ _ a1 a2 b1 b2 z1 z2 Ez (RX1.out.below (HBw3.out.trans (Below.mono (by repeat (first | (with_reducible exact Below.refl _ _) | (with_reducible assumption) | (with_reducible refine below_drewN ?_ _) | (with_reducible refine Below.drew ?_) | (with_reducible refine below_ext_of ?_ (by first | exact Nat.le_refl _ | assumption | (simp only [World.size_alloc, World.size_setCell, size_ext, World.heap_drewN]; omega)) _ _) | (with_reducible refine Below.alloc ?_ (by first | exact Nat.le_refl _ | assumption | (simp only [World.size_alloc, World.size_setCell, size_ext, World.heap_drewN]; omega)) _) | (with_reducible refine Below.setCell ?_ (by first | exact Nat.le_refl _ | assumption | (simp only [World.size_alloc, World.size_setCell, size_ext, World.heap_drewN]; omega)) _))) HBw3.out.size))) (RX2.out.below (HBw3.out.trans (Below.mono (by repeat (first | (with_reducible exact Below.refl _ _) | (with_reducible assumption) | (with_reducible refine below_drewN ?_ _) | (with_reducible refine Below.drew ?_) | (with_reducible refine below_ext_of ?_ (by first | exact Nat.le_refl _ | assumption | (simp only [World.size_alloc, World.size_setCell, size_ext, World.heap_drewN]; omega)) _ _) | (with_reducible refine Below.alloc ?_ (by first | exact Nat.le_refl _ | assumption | (simp only [World.size_alloc, World.size_setCell, size_ext, World.heap_drewN]; omega)) _) | (with_reducible refine Below.setCell ?_ (by first | exact Nat.le_refl _ | assumption | (simp only [World.size_alloc, World.size_setCell, size_ext, World.heap_drewN]; omega)) _))) HBw3.out.size))) (RV1.out.below (by repeat (first | (with_reducible exact Below.refl _ _) | (with_reducible assumption) | (with_reducible refine below_drewN ?_ _) | (with_reducible refine Below.drew ?_) | (with_reducible refine below_ext_of ?_ (by first | exact Nat.le_refl _ | assumption | (simp only [World.size_alloc, World.size_setCell, size_ext, World.heap_drewN]; omega)) _ _) | (with_reducible refine Below.alloc ?_ (by first | exact Nat.le_refl _ | assumption | (simp only [World.size_alloc, World.size_setCell, size_ext, World.heap_drewN]; omega)) _) | (with_reducible refine Below.setCell ?_ (by first | exact Nat.le_refl _ | assumption | (simp only [World.size_alloc, World.size_setCell, size_ext, World.heap_drewN]; omega)) _)))) (RV2.out.below (by repeat (first | (with_reducible exact Below.refl _ _) | (with_reducible assumption) | (with_reducible refine below_drewN ?_ _) | (with_reducible refine Below.drew ?_) | (with_reducible refine below_ext_of ?_ (by first | exact Nat.le_refl _ | assumption | (simp only [World.size_alloc, World.size_setCell, size_ext, World.heap_drewN]; omega)) _ _) | (with_reducible refine Below.alloc ?_ (by first | exact Nat.le_refl _ | assumption | (simp only [World.size_alloc, World.size_setCell, size_ext, World.heap_drewN]; omega)) _) | (with_reducible refine Below.setCell ?_ (by first | exact Nat.le_refl _ | assumption | (simp only [World.size_alloc, World.size_setCell, size_ext, World.heap_drewN]; omega)) _)))) I_a1.out I_b1.out HZz.out).mono ?_
            rintro e w4 ⟨hb, pz, sz, qz, tz, rfl, r1, r2⟩
            have hbw4 : Below V1.heap.size V1 w4 := HBw3.out.trans (Below.mono (Below.trans (by repeat (first | (with_reducible exact Below.refl _ _) | (with_reducible assumption) | (with_reducible refine below_drewN ?_ _) | (with_reducible refine Below.drew ?_) | (with_reducible refine below_ext_of ?_ (by first | exact Nat.le_refl _ | assumption | (simp only [World.size_alloc, World.size_setCell, size_ext, World.heap_drewN]; omega)) _ _) | (with_reducible refine Below.alloc ?_ (by first | exact Nat.le_refl _ | assumption | (simp only [World.size_alloc, World.size_setCell, size_ext, World.heap_drewN]; omega)) _) | (with_reducible refine Below.setCell ?_ (by first | exact Nat.le_refl _ | assumption | (simp only [World.size_alloc, World.size_setCell, size_ext, World.heap_drewN]; omega)) _))) (hb.mono (by simp [go_sem] <;> omega))) HBw3.out.size)
            have RZ1 := Lib.hid r1
            have RZ2 := Lib.hid r2
            have HZ4 := Lib.hid ((hb.block _ NZ3.out).trans HZ3.out)
            have NZ4 := Lib.hid (Nat.lt_of_lt_of_le NZ3.out hb.size)
            obtain ⟨o0, o1⟩ := cell_of HZ4.out
            have oF := frozen_of HZ4.out
            have o2 := NZ4.out
            clear hb r1 r2
            have Jw4x0 := keep_cell hbw4 Nx Kx0
            have Jw4x1 := keep_cell hbw4 Nx Kx1
            have Jw4b0 := keep_cell hbw4 Nb Kb0
            have Jw4b1 := keep_cell hbw4 Nb Kb1
            have Mw4x : Bx < w4.heap.size := Nat.lt_of_lt_of_le Nx hbw4.size
            have Mw4b : Bb < w4.heap.size := Nat.lt_of_lt_of_le Nb hbw4.size
            have HBw4 := Lib.hid hbw4
            clear hbw4
            have nzx : BZ ≠ Bx := by have := LZ.out; omega
            have Px0 := (cell_oth (W := w4) (i := 0) (j := 0) (v := (.slice pz z1.length sz)) nzx).trans Jw4x0
            have Px1 := ((cell_oth (W := w4.setCell ⟨BZ, 0, none⟩ (.slice pz z1.length sz)) (i := 1) (j := 1) (v := (.slice qz z2.length tz)) nzx).trans (cell_oth (W := w4) (i := 0) (j := 1) (v := (.slice pz z1.length sz)) nzx)).trans Jw4x1
            have nzb : BZ ≠ Bb := by have := LZ.out; omega
            have Pb0 := (cell_oth (W := w4) (i := 0) (j := 0) (v := (.slice pz z1.length sz)) nzb).trans Jw4b0
            have Pb1 := ((cell_oth (W := w4.setCell ⟨BZ, 0, none⟩ (.slice pz z1.length sz)) (i := 1) (j := 1) (v := (.slice qz z2.length tz)) nzb).trans (cell_oth (W := w4) (i := 0) (j := 1) (v := (.slice pz z1.length sz)) nzb)).trans Jw4b1
            go_simp
            refine hK.out _ _ ?hS20 (fun hHeld2 => ?go20)
            case hS20 =>
              (try dsimp only)
              try go_simp
            case go20 =>
            clear hK K
            clear hHeld
            have hHeld := hHeld2
            clear hHeld2
            (try simp only [Act.put, List.setIfInBounds_toArray, List.set_cons_zero, List.set_cons_succ])
            refine' wpAnyH_take (i := 5) (oi := ⟨_, _, _, _, _, _⟩) (v := ?v21) rfl (by kernel_rfl) (by kernel_rfl) (by kernel_rfl) (fun _ _ _ h => h) (Or.inl ⟨by rfl, ?hy21⟩) (by assumption) ?rest21
            case hy21 =>
              intro w hSw
              (try dsimp only at hSw)
              go_simp
              try (with_reducible rfl)
            case rest21 =>
            (try simp only [Act.put, List.setIfInBounds_toArray, List.set_cons_zero, List.set_cons_succ])
            refine' wpAnyH_take (i := 6) (oi := ⟨_, _, _, _, _, _⟩) (v := ?v22) rfl (by kernel_rfl) (by kernel_rfl) (by kernel_rfl) (fun _ _ _ h => h) (Or.inl ⟨by rfl, ?hy22⟩) (by assumption) ?rest22
            case hy22 =>
              intro w hSw
              (try dsimp only at hSw)
              go_simp
              try (with_reducible rfl)
            case rest22 =>
            (try simp only [Act.put, List.setIfInBounds_toArray, List.set_cons_zero, List.set_cons_succ])
            refine' wpAnyH_take (i := 7) (oi := ⟨_, _, _, _, _, _⟩) (v := ?v23) rfl (by kernel_rfl) (by kernel_rfl) (by kernel_rfl) (fun _ _ _ h => h) (Or.inl ⟨by rfl, ?hy23⟩) (by assumption) ?rest23
            case hy23 =>
              intro w hSw
              (try dsimp only at hSw)
              go_simp
              try (with_reducible rfl)
            case rest23 =>
            (try simp only [Act.put, List.setIfInBounds_toArray, List.set_cons_zero, List.set_cons_succ])
            refine wpAnyH_ready (rs := [9]) (by kernel_rfl) (by simp) ?_
            refine (AllReadyH.cons (o := ⟨_, _, _, _, _, _⟩) rfl (fun K hK => ?_) AllReadyH.nil)
            go_simp
            skip
            refine hK.out _ _ ?hS25 (fun hHeld2 => ?go25)
            case hS25 =>
              (try dsimp only)
              try go_simp
            case go25 =>
            clear hK K
            clear hHeld
            have hHeld := hHeld2
            clear hHeld2
            (try simp only [Act.put, List.setIfInBounds_toArray, List.set_cons_zero, List.set_cons_succ])
            refine' wpAnyH_take (i := 10) (oi := ⟨_, _, _, _, _, _⟩) (v := ?v26) rfl (by kernel_rfl) (by kernel_rfl) (by kernel_rfl) (fun _ _ _ h => h) (Or.inl ⟨by rfl, ?hy26⟩) (by assumption) ?rest26
            case hy26 =>
              intro w hSw
              (try dsimp only at hSw)
              go_simp
              try (with_reducible rfl)
            case rest26 =>
            (try simp only [Act.put, List.setIfInBounds_toArray, List.set_cons_zero, List.set_cons_succ])
            refine wpAnyH_done (by kernel_rfl) ?_ _
            go_wp2_with fail
            go_meet
            case rel =>
              have g0 := set_word0 HZ4.out (.slice pz z1.length sz)
              have g1 := set_word1 g0 (.slice qz z2.length tz)
              obtain ⟨y0, y1⟩ := cell_of g1
              refine ⟨rfl, _, _, _, _, _, _, rfl, rfl, (HBw4.out.setCell LZ.out _).setCell LZ.out _, LZ.out, by rw [World.size_setCell, World.size_setCell]; exact NZ4.out, y0, y1, Lib.hid ((RZ1.out.put HZ4.out 0 _).put g0 1 _), Lib.hid ((RZ2.out.put HZ4.out 0 _).put g0 1 _)⟩
        · go_simp
          obtain ⟨BZ, hBZ⟩ : ∃ BZ, BZ = V1.heap.size := ⟨_, rfl⟩
          have HZ2 : Hid ((V1.drew.alloc (.cells #[.slice none 0 0, .slice none 0 0] 24)).heap[BZ]? = some (.cells #[.slice none 0 0, .slice none 0 0] 24)) := Lib.hid (by rw [hBZ]; exact heap_alloc_new V1.drew _)
          have LZ : Hid (V1.heap.size ≤ BZ) := Lib.hid (by rw [hBZ]; exact Nat.le_refl _)
          have NZ2 : Hid (BZ < (V1.drew.alloc (.cells #[.slice none 0 0, .slice none 0 0] 24)).heap.size) := Lib.hid (by rw [hBZ, World.size_alloc]; exact Nat.lt_succ_self _)
          rw [← hBZ]
          clear hBZ
          refine hK.out _ _ ?hS28 (fun hHeld2 => ?go28)
          case hS28 =>
            (try dsimp only)
            try go_simp
          case go28 =>
          clear hK K
          clear hHeld
          have hHeld := hHeld2
          clear hHeld2
          (try simp only [Act.put, List.setIfInBounds_toArray, List.set_cons_zero, List.set_cons_succ])
          refine wpAnyH_ready (rs := [3]) (by kernel_rfl) (by simp) ?_
          refine (AllReadyH.cons (o := ⟨_, _, _, _, _, _⟩) rfl (fun K hK => ?_) AllReadyH.nil)
          go_simp
          go_at_call 12
          refine (copied_call _ _ _ b1 b2 (RB1.out.below (by repeat (first | (with_reducible exact Below.refl _ _) | (with_reducible assumption) | (with_reducible refine below_drewN ?_ _) | (with_reducible refine Below.drew ?_) | (with_reducible refine below_ext_of ?_ (by first | exact Nat.le_refl _ | assumption | (simp only [World.size_alloc, World.size_setCell, size_ext, World.heap_drewN]; omega)) _ _) | (with_reducible refine Below.alloc ?_ (by first | exact Nat.le_refl _ | assumption | (simp only [World.size_alloc, World.size_setCell, size_ext, World.heap_drewN]; omega)) _) | (with_reducible refine Below.setCell ?_ (by first | exact Nat.le_refl _ | assumption | (simp only [World.size_alloc, World.size_setCell, size_ext, World.heap_drewN]; omega)) _)))) (RB2.out.below (by repeat (first | (with_reducible exact Below.refl _ _) | (with_reducible assumption) | (with_reducible refine below_drewN ?_ _) | (with_reducible refine Below.drew ?_) | (with_reducible refine below_ext_of ?_ (by first | exact Nat.le_refl _ | assumption | (simp only [World.size_alloc, World.size_setCell, size_ext, World.heap_drewN]; omega)) _ _) | (with_reducible refine Below.alloc ?_ (by first | exact Nat.le_refl _ | assumption | (simp only [World.size_alloc, World.size_setCell, size_ext, World.heap_drewN]; omega)) _) | (with_reducible refine Below.setCell ?_ (by first | exact Nat.le_refl _ | assumption | (simp only [World.size_alloc, World.size_setCell, size_ext, World.heap_drewN]; omega)) _)))) (Nat.le_trans HLB.out.1 (by decide)) (Nat.le_trans HLB.out.2 (by decide))).mono ?_
          rintro e w3 ⟨hb, pv, sv, qv, tv, rfl, r1, r2⟩
          have hbw3 : Below V1.heap.size V1 w3 := Below.trans (by repeat (first | (with_reducible exact Below.refl _ _) | (with_reducible assumption) | (with_reducible refine below_drewN ?_ _) | (with_reducible refine Below.drew ?_) | (with_reducible refine below_ext_of ?_ (by first | exact Nat.le_refl _ | assumption | (simp only [World.size_alloc, World.size_setCell, size_ext, World.heap_drewN]; omega)) _ _) | (with_reducible refine Below.alloc ?_ (by first | exact Nat.le_refl _ | assumption | (simp only [World.size_alloc, World.size_setCell, size_ext, World.heap_drewN]; omega)) _) | (with_reducible refine Below.setCell ?_ (by first | exact Nat.le_refl _ | assumption | (simp only [World.size_alloc, World.size_setCell, size_ext, World.heap_drewN]; omega)) _))) (hb.mono (by simp [go_sem] <;> omega))
          have RV1 := Lib.hid r1
          have RV2 := Lib.hid r2
          have HZ3 := Lib.hid ((hb.block _ NZ2.out).trans HZ2.out)
          have NZ3 := Lib.hid (Nat.lt_of_lt_of_le NZ2.out hb.size)
          clear hb r1 r2
          have Jw3x0 := keep_cell hbw3 Nx Kx0
          have Jw3x1 := keep_cell hbw3 Nx Kx1
          have Jw3b0 := keep_cell hbw3 Nb Kb0
          have Jw3b1 := keep_cell hbw3 Nb Kb1
          have Mw3x : Bx < w3.heap.size := Nat.lt_of_lt_of_le Nx hbw3.size
          have Mw3b : Bb < w3.heap.size := Nat.lt_of_lt_of_le Nb hbw3.size
          have HBw3 := Lib.hid hbw3
          clear hbw3
          go_simp
          refine hK.out _ _ ?hS30 (fun hHeld2 => ?go30)
          case hS30 =>
            (try dsimp only)
            try go_simp
          case go30 =>
          clear hK K
          clear hHeld
          have hHeld := hHeld2
          clear hHeld2
          (try simp only [Act.put, List.setIfInBounds_toArray, List.set_cons_zero, List.set_cons_succ])
          refine wpAnyH_ready (rs := [4]) (by kernel_rfl) (by simp) ?_
          refine (AllReadyH.cons (o := ⟨_, _, _, _, _, _⟩) rfl (fun K hK => ?_) AllReadyH.nil)
          go_simp
          go_at_call 10
          refine (zip_gen _ op _ _ _ _ a1 a2 b1 b2 z1 z2 Ez (RX1.out.below (HBw3.out.trans (Below.mono (by repeat (first | (with_reducible exact Below.refl _ _) | (with_reducible assumption) | (with_reducible refine below_drewN ?_ _) | (with_reducible refine Below.drew ?_) | (with_reducible refine below_ext_of ?_ (by first | exact Nat.le_refl _ | assumption | (simp only [World.size_alloc, World.size_setCell, size_ext, World.heap_drewN]; omega)) _ _) | (with_reducible refine Below.alloc ?_ (by first | exact Nat.le_refl _ | assumption | (simp only [World.size_alloc, World.size_setCell, size_ext, World.heap_drewN]; omega)) _) | (with_reducible refine Below.setCell ?_ (by first | exact Nat.le_refl _ | assumption | (simp only [World.size_alloc, World.size_setCell, size_ext, World.heap_drewN]; omega)) _))) HBw3.out.size))) (RX2.out.below (HBw3.out.trans (Below.mono (by repeat (first | (with_reducible exact Below.refl _ _) | (with_reducible assumption) | (with_reducible refine below_drewN ?_ _) | (with_reducible refine Below.drew ?_) | (with_reducible refine below_ext_of ?_ (by first | exact Nat.le_refl _ | assumption | (simp only [World.size_alloc, World.size_setCell, size_ext, World.heap_drewN]; omega)) _ _) | (with_reducible refine Below.alloc ?_ (by first | exact Nat.le_refl _ | assumption | (simp only [World.size_alloc, World.size_setCell, size_ext, World.heap_drewN]; omega)) _) | (with_reducible refine Below.setCell ?_ (by first | exact Nat.le_refl _ | assumption | (simp only [World.size_alloc, World.size_setCell, size_ext, World.heap_drewN]; omega)) _))) HBw3.out.size))) (RV1.out.below (by repeat (first | (with_reducible exact Below.refl _ _) | (with_reducible assumption) | (with_reducible refine below_drewN ?_ _) | (with_reducible refine Below.drew ?_) | (with_reducible refine below_ext_of ?_ (by first | exact Nat.le_refl _ | assumption | (simp only [World.size_alloc, World.size_setCell, size_ext, World.heap_drewN]; omega)) _ _) | (with_reducible refine Below.alloc ?_ (by first | exact Nat.le_refl _ | assumption | (simp only [World.size_alloc, World.size_setCell, size_ext, World.heap_drewN]; omega)) _) | (with_reducible refine Below.setCell ?_ (by first | exact Nat.le_refl _ | assumption | (simp only [World.size_alloc, World.size_setCell, size_ext, World.heap_drewN]; omega)) _)))) (RV2.out.below (by repeat (first | (with_reducible exact Below.refl _ _) | (with_reducible assumption) | (with_reducible refine below_drewN ?_ _) | (with_reducible refine Below.drew ?_) | (with_reducible refine below_ext_of ?_ (by first | exact Nat.le_refl _ | assumption | (simp only [World.size_alloc, World.size_setCell, size_ext, World.heap_drewN]; omega)) _ _) | (with_reducible refine Below.alloc ?_ (by first | exact Nat.le_refl _ | assumption | (simp only [World.size_alloc, World.size_setCell, size_ext, World.heap_drewN]; omega)) _) | (with_reducible refine Below.setCell ?_ (by first | exact Nat.le_refl _ | assumption | (simp only [World.size_alloc, World.size_setCell, size_ext, World.heap_drewN]; omega)) _)))) I_a1.out I_b1.out HZz.out).mono ?_
          rintro e w4 ⟨hb, pz, sz, qz, tz, rfl, r1, r2⟩
          have hbw4 : Below V1.heap.size V1 w4 := HBw3.out.trans (Below.mono (Below.trans (by repeat (first | (with_reducible exact Below.refl _ _) | (with_reducible assumption) | (with_reducible refine below_drewN ?_ _) | (with_reducible refine Below.drew ?_) | (with_reducible refine below_ext_of ?_ (by first | exact Nat.le_refl _ | assumption | (simp only [World.size_alloc, World.size_setCell, size_ext, World.heap_drewN]; omega)) _ _) | (with_reducible refine Below.alloc ?_ (by first | exact Nat.le_refl _ | assumption | (simp only [World.size_alloc, World.size_setCell, size_ext, World.heap_drewN]; omega)) _) | (with_reducible refine Below.setCell ?_ (by first | exact Nat.le_refl _ | assumption | (simp only [World.size_alloc, World.size_setCell, size_ext, World.heap_drewN]; omega)) _))) (hb.mono (by simp [go_sem] <;> omega))) HBw3.out.size)
          have RZ1 := Lib.hid r1
          have RZ2 := Lib.hid r2
          have HZ4 := Lib.hid ((hb.block _ NZ3.out).trans HZ3.out)
          have NZ4 := Lib.hid (Nat.lt_of_lt_of_le NZ3.out hb.size)
          obtain ⟨o0, o1⟩ := cell_of HZ4.out
          have oF := frozen_of HZ4.out
          have o2 := NZ4.out
          clear hb r1 r2
          have Jw4x0 := keep_cell hbw4 Nx Kx0
          have Jw4x1 := keep_cell hbw4 Nx Kx1
          have Jw4b0 := keep_cell hbw4 Nb Kb0
          have Jw4b1 := keep_cell hbw4 Nb Kb1
          have Mw4x : Bx < w4.heap.size := Nat.lt_of_lt_of_le Nx hbw4.size
          have Mw4b : Bb < w4.heap.size := Nat.lt_of_lt_of_le Nb hbw4.size
          have HBw4 := Lib.hid hbw4
          clear hbw4
          have nzx : BZ ≠ Bx := by have := LZ.out; omega
          have Px0 := (cell_oth (W := w4) (i := 0) (j := 0) (v := (.slice pz z1.length sz)) nzx).trans Jw4x0
          have Px1 := ((cell_oth (W := w4.setCell ⟨BZ, 0, none⟩ (.slice pz z1.length sz)) (i := 1) (j := 1) (v := (.slice qz z2.length tz)) nzx).trans (cell_oth (W := w4) (i := 0) (j := 1) (v := (.slice pz z1.length sz)) nzx)).trans Jw4x1
          have nzb : BZ ≠ Bb := by have := LZ.out; omega
          have Pb0 := (cell_oth (W := w4) (i := 0) (j := 0) (v := (.slice pz z1.length sz)) nzb).trans Jw4b0
          have Pb1 := ((cell_oth (W := w4.setCell ⟨BZ, 0, none⟩ (.slice pz z1.length sz)) (i := 1) (j := 1) (v := (.slice qz z2.length tz)) nzb).trans (cell_oth (W := w4) (i := 0) (j := 1) (v := (.slice pz z1.length sz)) nzb)).trans Jw4b1
          go_simp
          refine hK.out _ _ ?hS32 (fun hHeld2 => ?go32)
          case hS32 =>
            (try dsimp only)
            try go_simp
          case go32 =>
          clear hK K
          clear hHeld
          have hHeld := hHeld2
          clear hHeld2
          (try simp only [Act.put, List.setIfInBounds_toArray, List.set_cons_zero, List.set_cons_succ])
          refine' wpAnyH_take (i := 5) (oi := ⟨_, _, _, _, _, _⟩) (v := ?v33) rfl (by kernel_rfl) (by kernel_rfl) (by kernel_rfl) (fun _ _ _ h => h) (Or.inl ⟨by rfl, ?hy33⟩) (by assumption) ?rest33
          case hy33 =>
            intro w hSw
            (try dsimp only at hSw)
            go_simp
            try (with_reducible rfl)
          case rest33 =>
          (try simp only [Act.put, List.setIfInBounds_toArray, List.set_cons_zero, List.set_cons_succ])
          refine' wpAnyH_take (i := 6) (oi := ⟨_, _, _, _, _, _⟩) (v := ?v34) rfl (by kernel_rfl) (by kernel_rfl) (by kernel_rfl) (fun _ _ _ h => h) (Or.inl ⟨by rfl, ?hy34⟩) (by assumption) ?rest34
          case hy34 =>
            intro w hSw
            (try dsimp only at hSw)
            go_simp
            try (with_reducible rfl)
          case rest34 =>
          (try simp only [Act.put, List.setIfInBounds_toArray, List.set_cons_zero, List.set_cons_succ])
          refine' wpAnyH_take (i := 7) (oi := ⟨_, _, _, _, _, _⟩) (v := ?v35) rfl (by kernel_rfl) (by kernel_rfl) (by kernel_rfl) (fun _ _ _ h => h) (Or.inl ⟨by rfl, ?hy35⟩) (by assumption) ?rest35
          case hy35 =>
            intro w hSw
            (try dsimp only at hSw)
            go_simp
            try (with_reducible rfl)
          case rest35 =>
          (try simp only [Act.put, List.setIfInBounds_toArray, List.set_cons_zero, List.set_cons_succ])
          refine wpAnyH_ready (rs := [9]) (by kernel_rfl) (by simp) ?_
          refine (AllReadyH.cons (o := ⟨_, _, _, _, _, _⟩) rfl (fun K hK => ?_) AllReadyH.nil)
          go_simp
          skip
          refine hK.out _ _ ?hS37 (fun hHeld2 => ?go37)
          case hS37 =>
            (try dsimp only)
            try go_simp
          case go37 =>
          clear hK K
          clear hHeld
          have hHeld := hHeld2
          clear hHeld2
          (try simp only [Act.put, List.setIfInBounds_toArray, List.set_cons_zero, List.set_cons_succ])
          refine' wpAnyH_take (i := 10) (oi := ⟨_, _, _, _, _, _⟩) (v := ?v38) rfl (by kernel_rfl) (by kernel_rfl) (by kernel_rfl) (fun _ _ _ h => h) (Or.inl ⟨by rfl, ?hy38⟩) (by assumption) ?rest38
          case hy38 =>
            intro w hSw
            (try dsimp only at hSw)
            go_simp
            try (with_reducible rfl)
          case rest38 =>
          (try simp only [Act.put, List.setIfInBounds_toArray, List.set_cons_zero, List.set_cons_succ])
          refine wpAnyH_done (by kernel_rfl) ?_ _
          go_wp2_with fail
          go_meet
          case rel =>
            have g0 := set_word0 HZ4.out (.slice pz z1.length sz)
            have g1 := set_word1 g0 (.slice qz z2.length tz)
            obtain ⟨y0, y1⟩ := cell_of g1
            refine ⟨rfl, _, _, _, _, _, _, rfl, rfl, (HBw4.out.setCell LZ.out _).setCell LZ.out _, LZ.out, by rw [World.size_setCell, World.size_setCell]; exact NZ4.out, y0, y1, Lib.hid ((RZ1.out.put HZ4.out 0 _).put g0 1 _), Lib.hid ((RZ2.out.put HZ4.out 0 _).put g0 1 _)⟩
      case rest =>
      obtain ⟨rfl, Bz, V, pz, qz, sz, tz, rfl, rfl, hB, lz, Nz, Kz0, Kz1, RZ1, RZ2⟩ := hcut
      replace RA1 := Lib.hid (RA1.out.below hB)
      replace RA2 := Lib.hid (RA2.out.below hB)
      replace RB1 := Lib.hid (RB1.out.below hB)
      replace RB2 := Lib.hid (RB2.out.below hB)
      replace RX1 := Lib.hid (RX1.out.below hB)
      replace RX2 := Lib.hid (RX2.out.below hB)
      replace RD1 := Lib.hid (RD1.out.below hB)
      replace RD2 := Lib.hid (RD2.out.below hB)
      replace RC1 := Lib.hid (RC1.out.below hB)
      replace RC2 := Lib.hid (RC2.out.below hB)
      replace RU1 := Lib.hid (RU1.out.below hB)
      replace RU2 := Lib.hid (RU2.out.below hB)
      replace RG1 := Lib.hid (RG1.out.below hB)
      replace RG2 := Lib.hid (RG2.out.below hB)
      replace HVB := Lib.hid (HVB.out.trans (hB.mono HVB.out.size))
      replace Kb0 := keep_cell hB Nb Kb0
      replace Kb1 := keep_cell hB Nb Kb1
      replace Nb := Nat.lt_of_lt_of_le Nb hB.size
      replace Ka0 := keep_cell hB Na Ka0
      replace Ka1 := keep_cell hB Na Ka1
      replace Na := Nat.lt_of_lt_of_le Na hB.size
      replace Kx0 := keep_cell hB Nx Kx0
      replace Kx1 := keep_cell hB Nx Kx1
      replace Nx := Nat.lt_of_lt_of_le Nx hB.size
      replace Kd0 := keep_cell hB Nd Kd0
      replace Kd1 := keep_cell hB Nd Kd1
      replace Nd := Nat.lt_of_lt_of_le Nd hB.size
      replace Kc0 := keep_cell hB Nc Kc0
      replace Kc1 := keep_cell hB Nc Kc1
      replace Nc := Nat.lt_of_lt_of_le Nc hB.size
      replace Ku0 := keep_cell hB Nu Ku0
      replace Ku1 := keep_cell hB Nu Ku1
      replace Nu := Nat.lt_of_lt_of_le Nu hB.size
      replace Kg0 := keep_cell hB Ng Kg0
      replace Kg1 := keep_cell hB Ng Kg1
      replace Ng := Nat.lt_of_lt_of_le Ng hB.size
      clear hB lz
      cases hma : may a1 a2 with
      | false =>
        have HMA := Lib.hid hma
        have hno : ¬ (may a1 a2 = true) := by rw [hma]; decide
        have ed := HZd.out
        unfold dropZ at ed
        rw [if_neg (fun h => hno h.1)] at ed
        obtain ⟨rfl, rfl, rfl⟩ := trip ed
        have eu := HZu.out
        unfold upZ at eu
        rw [if_neg (fun h => hno h.1)] at eu
        obtain ⟨rfl, rfl, rfl⟩ := trip eu
        have eg := HZg.out
        unfold downZ at eg
        rw [if_neg (fun h => hno h.1)] at eg
        obtain ⟨rfl, rfl, rfl⟩ := trip eg
        have ec := HZc.out
        unfold consZ at ec
        rw [if_neg hno] at ec
        obtain ⟨rfl, rfl, rfl⟩ := trip ec
        have ez := HZz.out
        unfold zipZ zipF at ez
        have hn : ¬ (nE a1 a2 = 0 ∧ nE b1 b2 = 0) := fun h => hno (nE_may h.1)
        rw [if_neg hn, ite_self] at ez
        obtain ⟨rfl, rfl, rfl⟩ := trip ez
        clear hno hma ed eu eg ec ez
        go_wp2_with fail
        refine (rmay_any _ _ _ a1 a2 (RA1.out.below (by repeat (first | (with_reducible exact Below.refl _ _) | (with_reducible assumption) | (with_reducible refine below_drewN ?_ _) | (with_reducible refine Below.drew ?_) | (with_reducible refine below_ext_of ?_ (by first | exact Nat.le_refl _ | assumption | (simp only [World.size_alloc, World.size_setCell, size_ext, World.heap_drewN]; omega)) _ _) | (with_reducible refine Below.alloc ?_ (by first | exact Nat.le_refl _ | assumption | (simp only [World.size_alloc, World.size_setCell, size_ext, World.heap_drewN]; omega)) _) | (with_reducible refine Below.setCell ?_ (by first | exact Nat.le_refl _ | assumption | (simp only [World.size_alloc, World.size_setCell, size_ext, World.heap_drewN]; omega)) _)))) (RA2.out.below (by repeat (first | (with_reducible exact Below.refl _ _) | (with_reducible assumption) | (with_reducible refine below_drewN ?_ _) | (with_reducible refine Below.drew ?_) | (with_reducible refine below_ext_of ?_ (by first | exact Nat.le_refl _ | assumption | (simp only [World.size_alloc, World.size_setCell, size_ext, World.heap_drewN]; omega)) _ _) | (with_reducible refine Below.alloc ?_ (by first | exact Nat.le_refl _ | assumption | (simp only [World.size_alloc, World.size_setCell, size_ext, World.heap_drewN]; omega)) _) | (with_reducible refine Below.setCell ?_ (by first | exact Nat.le_refl _ | assumption | (simp only [World.size_alloc, World.size_setCell, size_ext, World.heap_drewN]; omega)) _))))).mono ?_
        rintro e W8 ⟨rfl, hb⟩
        have hB : Below V.heap.size V W8 := Below.trans (by repeat (first | (with_reducible exact Below.refl _ _) | (with_reducible assumption) | (with_reducible refine below_drewN ?_ _) | (with_reducible refine Below.drew ?_) | (with_reducible refine below_ext_of ?_ (by first | exact Nat.le_refl _ | assumption | (simp only [World.size_alloc, World.size_setCell, size_ext, World.heap_drewN]; omega)) _ _) | (with_reducible refine Below.alloc ?_ (by first | exact Nat.le_refl _ | assumption | (simp only [World.size_alloc, World.size_setCell, size_ext, World.heap_drewN]; omega)) _) | (with_reducible refine Below.setCell ?_ (by first | exact Nat.le_refl _ | assumption | (simp only [World.size_alloc, World.size_setCell, size_ext, World.heap_drewN]; omega)) _))) (hb.mono (by simp [go_sem] <;> omega))
        replace RA1 := Lib.hid (RA1.out.below hB)
        replace RA2 := Lib.hid (RA2.out.below hB)
        replace RB1 := Lib.hid (RB1.out.below hB)
        replace RB2 := Lib.hid (RB2.out.below hB)
        replace RX1 := Lib.hid (RX1.out.below hB)
        replace RX2 := Lib.hid (RX2.out.below hB)
        replace RD1 := Lib.hid (RD1.out.below hB)
        replace RD2 := Lib.hid (RD2.out.below hB)
        replace RC1 := Lib.hid (RC1.out.below hB)
        replace RC2 := Lib.hid (RC2.out.below hB)
        replace RU1 := Lib.hid (RU1.out.below hB)
        replace RU2 := Lib.hid (RU2.out.below hB)
        replace RG1 := Lib.hid (RG1.out.below hB)
        replace RG2 := Lib.hid (RG2.out.below hB)
        replace RZ1 := Lib.hid (RZ1.out.below hB)
        replace RZ2 := Lib.hid (RZ2.out.below hB)
        replace HVB := Lib.hid (HVB.out.trans (hB.mono HVB.out.size))
        replace Kb0 := keep_cell hB Nb Kb0
        replace Kb1 := keep_cell hB Nb Kb1
        replace Nb := Nat.lt_of_lt_of_le Nb hB.size
        replace Ka0 := keep_cell hB Na Ka0
        replace Ka1 := keep_cell hB Na Ka1
        replace Na := Nat.lt_of_lt_of_le Na hB.size
        replace Kx0 := keep_cell hB Nx Kx0
        replace Kx1 := keep_cell hB Nx Kx1
        replace Nx := Nat.lt_of_lt_of_le Nx hB.size
        replace Kd0 := keep_cell hB Nd Kd0
        replace Kd1 := keep_cell hB Nd Kd1
        replace Nd := Nat.lt_of_lt_of_le Nd hB.size
        replace Kc0 := keep_cell hB Nc Kc0
        replace Kc1 := keep_cell hB Nc Kc1
        replace Nc := Nat.lt_of_lt_of_le Nc hB.size
        replace Ku0 := keep_cell hB Nu Ku0
        replace Ku1 := keep_cell hB Nu Ku1
        replace Nu := Nat.lt_of_lt_of_le Nu hB.size
        replace Kg0 := keep_cell hB Ng Kg0
        replace Kg1 := keep_cell hB Ng Kg1
        replace Ng := Nat.lt_of_lt_of_le Ng hB.size
        replace Kz0 := keep_cell hB Nz Kz0
        replace Kz1 := keep_cell hB Nz Kz1
        replace Nz := Nat.lt_of_lt_of_le Nz hB.size
        rw [HMA.out]
        clear hb hB
        go_wp2_with fail
        refine (works_any _).mono ?_
        rintro e W9 ⟨rfl, hb⟩
        have hB : Below W8.heap.size W8 W9 := Below.trans (by repeat (first | (with_reducible exact Below.refl _ _) | (with_reducible assumption) | (with_reducible refine below_drewN ?_ _) | (with_reducible refine Below.drew ?_) | (with_reducible refine below_ext_of ?_ (by first | exact Nat.le_refl _ | assumption | (simp only [World.size_alloc, World.size_setCell, size_ext, World.heap_drewN]; omega)) _ _) | (with_reducible refine Below.alloc ?_ (by first | exact Nat.le_refl _ | assumption | (simp only [World.size_alloc, World.size_setCell, size_ext, World.heap_drewN]; omega)) _) | (with_reducible refine Below.setCell ?_ (by first | exact Nat.le_refl _ | assumption | (simp only [World.size_alloc, World.size_setCell, size_ext, World.heap_drewN]; omega)) _))) (hb.mono (by simp [go_sem] <;> omega))
        replace RA1 := Lib.hid (RA1.out.below hB)
        replace RA2 := Lib.hid (RA2.out.below hB)
        replace RB1 := Lib.hid (RB1.out.below hB)
        replace RB2 := Lib.hid (RB2.out.below hB)
        replace RX1 := Lib.hid (RX1.out.below hB)
        replace RX2 := Lib.hid (RX2.out.below hB)
        replace RD1 := Lib.hid (RD1.out.below hB)
        replace RD2 := Lib.hid (RD2.out.below hB)
        replace RC1 := Lib.hid (RC1.out.below hB)
        replace RC2 := Lib.hid (RC2.out.below hB)
        replace RU1 := Lib.hid (RU1.out.below hB)
        replace RU2 := Lib.hid (RU2.out.below hB)
        replace RG1 := Lib.hid (RG1.out.below hB)
        replace RG2 := Lib.hid (RG2.out.below hB)
        replace RZ1 := Lib.hid (RZ1.out.below hB)
        replace RZ2 := Lib.hid (RZ2.out.below hB)
        replace HVB := Lib.hid (HVB.out.trans (hB.mono HVB.out.size))
        replace Kb0 := keep_cell hB Nb Kb0
        replace Kb1 := keep_cell hB Nb Kb1
        replace Nb := Nat.lt_of_lt_of_le Nb hB.size
        replace Ka0 := keep_cell hB Na Ka0
        replace Ka1 := keep_cell hB Na Ka1
        replace Na := Nat.lt_of_lt_of_le Na hB.size
        replace Kx0 := keep_cell hB Nx Kx0
        replace Kx1 := keep_cell hB Nx Kx1
        replace Nx := Nat.lt_of_lt_of_le Nx hB.size
        replace Kd0 := keep_cell hB Nd Kd0
        replace Kd1 := keep_cell hB Nd Kd1
        replace Nd := Nat.lt_of_lt_of_le Nd hB.size
        replace Kc0 := keep_cell hB Nc Kc0
        replace Kc1 := keep_cell hB Nc Kc1
        replace Nc := Nat.lt_of_lt_of_le Nc hB.size
        replace Ku0 := keep_cell hB Nu Ku0
        replace Ku1 := keep_cell hB Nu Ku1
        replace Nu := Nat.lt_of_lt_of_le Nu hB.size
        replace Kg0 := keep_cell hB Ng Kg0
        replace Kg1 := keep_cell hB Ng Kg1
        replace Ng := Nat.lt_of_lt_of_le Ng hB.size
        replace Kz0 := keep_cell hB Nz Kz0
        replace Kz1 := keep_cell hB Nz Kz1
        replace Nz := Nat.lt_of_lt_of_le Nz hB.size
        clear hb hB
        go_wp2_with fail
        go_ret
        exact ⟨rfl, HVB.out⟩
      | true =>
        have MA := Lib.hid hma
        have hz := HZc.out
        unfold consZ at hz
        rw [if_pos hma] at hz
        have HY := Lib.hid hz
        clear hz hma
        go_wp2_with fail
        refine (rmay_any _ _ _ a1 a2 (RA1.out.below (by repeat (first | (with_reducible exact Below.refl _ _) | (with_reducible assumption) | (with_reducible refine below_drewN ?_ _) | (with_reducible refine Below.drew ?_) | (with_reducible refine below_ext_of ?_ (by first | exact Nat.le_refl _ | assumption | (simp only [World.size_alloc, World.size_setCell, size_ext, World.heap_drewN]; omega)) _ _) | (with_reducible refine Below.alloc ?_ (by first | exact Nat.le_refl _ | assumption | (simp only [World.size_alloc, World.size_setCell, size_ext, World.heap_drewN]; omega)) _) | (with_reducible refine Below.setCell ?_ (by first | exact Nat.le_refl _ | assumption | (simp only [World.size_alloc, World.size_setCell, size_ext, World.heap_drewN]; omega)) _)))) (RA2.out.below (by repeat (first | (with_reducible exact Below.refl _ _) | (with_reducible assumption) | (with_reducible refine below_drewN ?_ _) | (with_reducible refine Below.drew ?_) | (with_reducible refine below_ext_of ?_ (by first | exact Nat.le_refl _ | assumption | (simp only [World.size_alloc, World.size_setCell, size_ext, World.heap_drewN]; omega)) _ _) | (with_reducible refine Below.alloc ?_ (by first | exact Nat.le_refl _ | assumption | (simp only [World.size_alloc, World.size_setCell, size_ext, World.heap_drewN]; omega)) _) | (with_reducible refine Below.setCell ?_ (by first | exact Nat.le_refl _ | assumption | (simp only [World.size_alloc, World.size_setCell, size_ext, World.heap_drewN]; omega)) _))))).mono ?_
        rintro e W8 ⟨rfl, hb⟩
        have hB : Below V.heap.size V W8 := Below.trans (by repeat (first | (with_reducible exact Below.refl _ _) | (with_reducible assumption) | (with_reducible refine below_drewN ?_ _) | (with_reducible refine Below.drew ?_) | (with_reducible refine below_ext_of ?_ (by first | exact Nat.le_refl _ | assumption | (simp only [World.size_alloc, World.size_setCell, size_ext, World.heap_drewN]; omega)) _ _) | (with_reducible refine Below.alloc ?_ (by first | exact Nat.le_refl _ | assumption | (simp only [World.size_alloc, World.size_setCell, size_ext, World.heap_drewN]; omega)) _) | (with_reducible refine Below.setCell ?_ (by first | exact Nat.le_refl _ | assumption | (simp only [World.size_alloc, World.size_setCell, size_ext, World.heap_drewN]; omega)) _))) (hb.mono (by simp [go_sem] <;> omega))
        replace RA1 := Lib.hid (RA1.out.below hB)
        replace RA2 := Lib.hid (RA2.out.below hB)
        replace RB1 := Lib.hid (RB1.out.below hB)
        replace RB2 := Lib.hid (RB2.out.below hB)
        replace RX1 := Lib.hid (RX1.out.below hB)
        replace RX2 := Lib.hid (RX2.out.below hB)
        replace RD1 := Lib.hid (RD1.out.below hB)
        replace RD2 := Lib.hid (RD2.out.below hB)
        replace RC1 := Lib.hid (RC1.out.below hB)
        replace RC2 := Lib.hid (RC2.out.below hB)
        replace RU1 := Lib.hid (RU1.out.below hB)
        replace RU2 := Lib.hid (RU2.out.below hB)
        replace RG1 := Lib.hid (RG1.out.below hB)
        replace RG2 := Lib.hid (RG2.out.below hB)
        replace RZ1 := Lib.hid (RZ1.out.below hB)
        replace RZ2 := Lib.hid (RZ2.out.below hB)
        replace HVB := Lib.hid (HVB.out.trans (hB.mono HVB.out.size))
        replace Kb0 := keep_cell hB Nb Kb0
        replace Kb1 := keep_cell hB Nb Kb1
        replace Nb := Nat.lt_of_lt_of_le Nb hB.size
        replace Ka0 := keep_cell hB Na Ka0
        replace Ka1 := keep_cell hB Na Ka1
        replace Na := Nat.lt_of_lt_of_le Na hB.size
        replace Kx0 := keep_cell hB Nx Kx0
        replace Kx1 := keep_cell hB Nx Kx1
        replace Nx := Nat.lt_of_lt_of_le Nx hB.size
        replace Kd0 := keep_cell hB Nd Kd0
        replace Kd1 := keep_cell hB Nd Kd1
        replace Nd := Nat.lt_of_lt_of_le Nd hB.size
        replace Kc0 := keep_cell hB Nc Kc0
        replace Kc1 := keep_cell hB Nc Kc1
        replace Nc := Nat.lt_of_lt_of_le Nc hB.size
        replace Ku0 := keep_cell hB Nu Ku0
        replace Ku1 := keep_cell hB Nu Ku1
        replace Nu := Nat.lt_of_lt_of_le Nu hB.size
        replace Kg0 := keep_cell hB Ng Kg0
        replace Kg1 := keep_cell hB Ng Kg1
        replace Ng := Nat.lt_of_lt_of_le Ng hB.size
        replace Kz0 := keep_cell hB Nz Kz0
        replace Kz1 := keep_cell hB Nz Kz1
        replace Nz := Nat.lt_of_lt_of_le Nz hB.size
        rw [MA.out]
        clear hb hB
        go_wp2_with fail
        refine (Equal_same _ _ _ _ _ a1 a2 a1 a2 (RX1.out.below (by repeat (first | (with_reducible exact Below.refl _ _) | (with_reducible assumption) | (with_reducible refine below_drewN ?_ _) | (with_reducible refine Below.drew ?_) | (with_reducible refine below_ext_of ?_ (by first | exact Nat.le_refl _ | assumption | (simp only [World.size_alloc, World.size_setCell, size_ext, World.heap_drewN]; omega)) _ _) | (with_reducible refine Below.alloc ?_ (by first | exact Nat.le_refl _ | assumption | (simp only [World.size_alloc, World.size_setCell, size_ext, World.heap_drewN]; omega)) _) | (with_reducible refine Below.setCell ?_ (by first | exact Nat.le_refl _ | assumption | (simp only [World.size_alloc, World.size_setCell, size_ext, World.heap_drewN]; omega)) _)))) (RX2.out.below (by repeat (first | (with_reducible exact Below.refl _ _) | (with_reducible assumption) | (with_reducible refine below_drewN ?_ _) | (with_reducible refine Below.drew ?_) | (with_reducible refine below_ext_of ?_ (by first | exact Nat.le_refl _ | assumption | (simp only [World.size_alloc, World.size_setCell, size_ext, World.heap_drewN]; omega)) _ _) | (with_reducible refine Below.alloc ?_ (by first | exact Nat.le_refl _ | assumption | (simp only [World.size_alloc, World.size_setCell, size_ext, World.heap_drewN]; omega)) _) | (with_reducible refine Below.setCell ?_ (by first | exact Nat.le_refl _ | assumption | (simp only [World.size_alloc, World.size_setCell, size_ext, World.heap_drewN]; omega)) _)))) (RA1.out.below (by repeat (first | (with_reducible exact Below.refl _ _) | (with_reducible assumption) | (with_reducible refine below_drewN ?_ _) | (with_reducible refine Below.drew ?_) | (with_reducible refine below_ext_of ?_ (by first | exact Nat.le_refl _ | assumption | (simp only [World.size_alloc, World.size_setCell, size_ext, World.heap_drewN]; omega)) _ _) | (with_reducible refine Below.alloc ?_ (by first | exact Nat.le_refl _ | assumption | (simp only [World.size_alloc, World.size_setCell, size_ext, World.heap_drewN]; omega)) _) | (with_reducible refine Below.setCell ?_ (by first | exact Nat.le_refl _ | assumption | (simp only [World.size_alloc, World.size_setCell, size_ext, World.heap_drewN]; omega)) _)))) (RA2.out.below (by repeat (first | (with_reducible exact Below.refl _ _) | (with_reducible assumption) | (with_reducible refine below_drewN ?_ _) | (with_reducible refine Below.drew ?_) | (with_reducible refine below_ext_of ?_ (by first | exact Nat.le_refl _ | assumption | (simp only [World.size_alloc, World.size_setCell, size_ext, World.heap_drewN]; omega)) _ _) | (with_reducible refine Below.alloc ?_ (by first | exact Nat.le_refl _ | assumption | (simp only [World.size_alloc, World.size_setCell, size_ext, World.heap_drewN]; omega)) _) | (with_reducible refine Below.setCell ?_ (by first | exact Nat.le_refl _ | assumption | (simp only [World.size_alloc, World.size_setCell, size_ext, World.heap_drewN]; omega)) _)))) rfl rfl).mono ?_
        rintro e W9 ⟨rfl, hb⟩
        have hB : Below W8.heap.size W8 W9 := Below.trans (by repeat (first | (with_reducible exact Below.refl _ _) | (with_reducible assumption) | (with_reducible refine below_drewN ?_ _) | (with_reducible refine Below.drew ?_) | (with_reducible refine below_ext_of ?_ (by first | exact Nat.le_refl _ | assumption | (simp only [World.size_alloc, World.size_setCell, size_ext, World.heap_drewN]; omega)) _ _) | (with_reducible refine Below.alloc ?_ (by first | exact Nat.le_refl _ | assumption | (simp only [World.size_alloc, World.size_setCell, size_ext, World.heap_drewN]; omega)) _) | (with_reducible refine Below.setCell ?_ (by first | exact Nat.le_refl _ | assumption | (simp only [World.size_alloc, World.size_setCell, size_ext, World.heap_drewN]; omega)) _))) (hb.mono (by simp [go_sem] <;> omega))
        replace RA1 := Lib.hid (RA1.out.below hB)
        replace RA2 := Lib.hid (RA2.out.below hB)
        replace RB1 := Lib.hid (RB1.out.below hB)
        replace RB2 := Lib.hid (RB2.out.below hB)
        replace RX1 := Lib.hid (RX1.out.below hB)
        replace RX2 := Lib.hid (RX2.out.below hB)
        replace RD1 := Lib.hid (RD1.out.below hB)
        replace RD2 := Lib.hid (RD2.out.below hB)
        replace RC1 := Lib.hid (RC1.out.below hB)
        replace RC2 := Lib.hid (RC2.out.below hB)
        replace RU1 := Lib.hid (RU1.out.below hB)
        replace RU2 := Lib.hid (RU2.out.below hB)
        replace RG1 := Lib.hid (RG1.out.below hB)
        replace RG2 := Lib.hid (RG2.out.below hB)
        replace RZ1 := Lib.hid (RZ1.out.below hB)
        replace RZ2 := Lib.hid (RZ2.out.below hB)
        replace HVB := Lib.hid (HVB.out.trans (hB.mono HVB.out.size))
        replace Kb0 := keep_cell hB Nb Kb0
        replace Kb1 := keep_cell hB Nb Kb1
        replace Nb := Nat.lt_of_lt_of_le Nb hB.size
        replace Ka0 := keep_cell hB Na Ka0
        replace Ka1 := keep_cell hB Na Ka1
        replace Na := Nat.lt_of_lt_of_le Na hB.size
        replace Kx0 := keep_cell hB Nx Kx0
        replace Kx1 := keep_cell hB Nx Kx1
        replace Nx := Nat.lt_of_lt_of_le Nx hB.size
        replace Kd0 := keep_cell hB Nd Kd0
        replace Kd1 := keep_cell hB Nd Kd1
        replace Nd := Nat.lt_of_lt_of_le Nd hB.size
        replace Kc0 := keep_cell hB Nc Kc0
        replace Kc1 := keep_cell hB Nc Kc1
        replace Nc := Nat.lt_of_lt_of_le Nc hB.size
        replace Ku0 := keep_cell hB Nu Ku0
        replace Ku1 := keep_cell hB Nu Ku1
        replace Nu := Nat.lt_of_lt_of_le Nu hB.size
        replace Kg0 := keep_cell hB Ng Kg0
        replace Kg1 := keep_cell hB Ng Kg1
        replace Ng := Nat.lt_of_lt_of_le Ng hB.size
        replace Kz0 := keep_cell hB Nz Kz0
        replace Kz1 := keep_cell hB Nz Kz1
        replace Nz := Nat.lt_of_lt_of_le Nz hB.size
        clear hb hB
        go_wp2_with fail
        refine (rcons_call _ _ _ a1 a2 c1 c2 Ec v (RA1.out.below (by repeat (first | (with_reducible exact Below.refl _ _) | (with_reducible assumption) | (with_reducible refine below_drewN ?_ _) | (with_reducible refine Below.drew ?_) | (with_reducible refine below_ext_of ?_ (by first | exact Nat.le_refl _ | assumption | (simp only [World.size_alloc, World.size_setCell, size_ext, World.heap_drewN]; omega)) _ _) | (with_reducible refine Below.alloc ?_ (by first | exact Nat.le_refl _ | assumption | (simp only [World.size_alloc, World.size_setCell, size_ext, World.heap_drewN]; omega)) _) | (with_reducible refine Below.setCell ?_ (by first | exact Nat.le_refl _ | assumption | (simp only [World.size_alloc, World.size_setCell, size_ext, World.heap_drewN]; omega)) _)))) (RA2.out.below (by repeat (first | (with_reducible exact Below.refl _ _) | (with_reducible assumption) | (with_reducible refine below_drewN ?_ _) | (with_reducible refine Below.drew ?_) | (with_reducible refine below_ext_of ?_ (by first | exact Nat.le_refl _ | assumption | (simp only [World.size_alloc, World.size_setCell, size_ext, World.heap_drewN]; omega)) _ _) | (with_reducible refine Below.alloc ?_ (by first | exact Nat.le_refl _ | assumption | (simp only [World.size_alloc, World.size_setCell, size_ext, World.heap_drewN]; omega)) _) | (with_reducible refine Below.setCell ?_ (by first | exact Nat.le_refl _ | assumption | (simp only [World.size_alloc, World.size_setCell, size_ext, World.heap_drewN]; omega)) _)))) MA.out HY.out).mono ?_
        rintro e W10 ⟨hb, xp, xc, xq, xt, rfl, r1, r2⟩
        have hB : Below W9.heap.size W9 W10 := Below.trans (by repeat (first | (with_reducible exact Below.refl _ _) | (with_reducible assumption) | (with_reducible refine below_drewN ?_ _) | (with_reducible refine Below.drew ?_) | (with_reducible refine below_ext_of ?_ (by first | exact Nat.le_refl _ | assumption | (simp only [World.size_alloc, World.size_setCell, size_ext, World.heap_drewN]; omega)) _ _) | (with_reducible refine Below.alloc ?_ (by first | exact Nat.le_refl _ | assumption | (simp only [World.size_alloc, World.size_setCell, size_ext, World.heap_drewN]; omega)) _) | (with_reducible refine Below.setCell ?_ (by first | exact Nat.le_refl _ | assumption | (simp only [World.size_alloc, World.size_setCell, size_ext, World.heap_drewN]; omega)) _))) (hb.mono (by simp [go_sem] <;> omega))
        replace RA1 := Lib.hid (RA1.out.below hB)
        replace RA2 := Lib.hid (RA2.out.below hB)
        replace RB1 := Lib.hid (RB1.out.below hB)
        replace RB2 := Lib.hid (RB2.out.below hB)
        replace RX1 := Lib.hid (RX1.out.below hB)
        replace RX2 := Lib.hid (RX2.out.below hB)
        replace RD1 := Lib.hid (RD1.out.below hB)
        replace RD2 := Lib.hid (RD2.out.below hB)
        replace RC1 := Lib.hid (RC1.out.below hB)
        replace RC2 := Lib.hid (RC2.out.below hB)
        replace RU1 := Lib.hid (RU1.out.below hB)
        replace RU2 := Lib.hid (RU2.out.below hB)
        replace RG1 := Lib.hid (RG1.out.below hB)
        replace RG2 := Lib.hid (RG2.out.below hB)
        replace RZ1 := Lib.hid (RZ1.out.below hB)
        replace RZ2 := Lib.hid (RZ2.out.below hB)
        replace HVB := Lib.hid (HVB.out.trans (hB.mono HVB.out.size))
        replace Kb0 := keep_cell hB Nb Kb0
        replace Kb1 := keep_cell hB Nb Kb1
        replace Nb := Nat.lt_of_lt_of_le Nb hB.size
        replace Ka0 := keep_cell hB Na Ka0
        replace Ka1 := keep_cell hB Na Ka1
        replace Na := Nat.lt_of_lt_of_le Na hB.size
        replace Kx0 := keep_cell hB Nx Kx0
        replace Kx1 := keep_cell hB Nx Kx1
        replace Nx := Nat.lt_of_lt_of_le Nx hB.size
        replace Kd0 := keep_cell hB Nd Kd0
        replace Kd1 := keep_cell hB Nd Kd1
        replace Nd := Nat.lt_of_lt_of_le Nd hB.size
        replace Kc0 := keep_cell hB Nc Kc0
        replace Kc1 := keep_cell hB Nc Kc1
        replace Nc := Nat.lt_of_lt_of_le Nc hB.size
        replace Ku0 := keep_cell hB Nu Ku0
        replace Ku1 := keep_cell hB Nu Ku1
        replace Nu := Nat.lt_of_lt_of_le Nu hB.size
        replace Kg0 := keep_cell hB Ng Kg0
        replace Kg1 := keep_cell hB Ng Kg1
        replace Ng := Nat.lt_of_lt_of_le Ng hB.size
        replace Kz0 := keep_cell hB Nz Kz0
        replace Kz1 := keep_cell hB Nz Kz1
        replace Nz := Nat.lt_of_lt_of_le Nz hB.size
        have RT1 := Lib.hid r1
        have RT2 := Lib.hid r2
        clear r1 r2
        clear hb hB
        go_upto_region 14 with (fail)
        have La := Na
        have Lb := Nb
        have Ld := Nd
        have Lu := Nu
        have Lg := Ng
        have Lz := Nz
        have Lt := HVB.out.size
        obtain ⟨V2, hV2⟩ : ∃ V, V = W10.alloc (.cells #[.slice xp c1.length xc, .slice xq c2.length xt] 24) := ⟨_, rfl⟩
        rw [← hV2]
        have hB : Below W10.heap.size W10 V2 := by rw [hV2]; exact (Below.refl _ _).alloc (Nat.le_refl _) _
        have HT : Hid (V2.heap[W10.heap.size]? = some (.cells #[.slice xp c1.length xc, .slice xq c2.length xt] 24)) := Lib.hid (by rw [hV2]; exact heap_alloc_new _ _)
        have Nt : W10.heap.size < V2.heap.size := by rw [hV2, World.size_alloc]; omega
        replace RA1 := Lib.hid (RA1.out.below hB)
        replace RA2 := Lib.hid (RA2.out.below hB)
        replace RB1 := Lib.hid (RB1.out.below hB)
        replace RB2 := Lib.hid (RB2.out.below hB)
        replace RX1 := Lib.hid (RX1.out.below hB)
        replace RX2 := Lib.hid (RX2.out.below hB)
        replace RD1 := Lib.hid (RD1.out.below hB)
        replace RD2 := Lib.hid (RD2.out.below hB)
        replace RC1 := Lib.hid (RC1.out.below hB)
        replace RC2 := Lib.hid (RC2.out.below hB)
        replace RU1 := Lib.hid (RU1.out.below hB)
        replace RU2 := Lib.hid (RU2.out.below hB)
        replace RG1 := Lib.hid (RG1.out.below hB)
        replace RG2 := Lib.hid (RG2.out.below hB)
        replace RZ1 := Lib.hid (RZ1.out.below hB)
        replace RZ2 := Lib.hid (RZ2.out.below hB)
        replace RT1 := Lib.hid (RT1.out.below hB)
        replace RT2 := Lib.hid (RT2.out.below hB)
        replace HVB := Lib.hid (HVB.out.trans (hB.mono HVB.out.size))
        replace Kb0 := keep_cell hB Nb Kb0
        replace Kb1 := keep_cell hB Nb Kb1
        replace Nb := Nat.lt_of_lt_of_le Nb hB.size
        replace Ka0 := keep_cell hB Na Ka0
        replace Ka1 := keep_cell hB Na Ka1
        replace Na := Nat.lt_of_lt_of_le Na hB.size
        replace Kx0 := keep_cell hB Nx Kx0
        replace Kx1 := keep_cell hB Nx Kx1
        replace Nx := Nat.lt_of_lt_of_le Nx hB.size
        replace Kd0 := keep_cell hB Nd Kd0
        replace Kd1 := keep_cell hB Nd Kd1
        replace Nd := Nat.lt_of_lt_of_le Nd hB.size
        replace Kc0 := keep_cell hB Nc Kc0
        replace Kc1 := keep_cell hB Nc Kc1
        replace Nc := Nat.lt_of_lt_of_le Nc hB.size
        replace Ku0 := keep_cell hB Nu Ku0
        replace Ku1 := keep_cell hB Nu Ku1
        replace Nu := Nat.lt_of_lt_of_le Nu hB.size
        replace Kg0 := keep_cell hB Ng Kg0
        replace Kg1 := keep_cell hB Ng Kg1
        replace Ng := Nat.lt_of_lt_of_le Ng hB.size
        replace Kz0 := keep_cell hB Nz Kz0
        replace Kz1 := keep_cell hB Nz Kz1
        replace Nz := Nat.lt_of_lt_of_le Nz hB.size
        obtain ⟨Bt, hBt⟩ : ∃ B, B = W10.heap.size := ⟨_, rfl⟩
        rw [← hBt] at HT Nt Lt La Lb Ld Lu Lg Lz ⊢
        clear hBt hV2 hB
        obtain ⟨T0, T1⟩ := cell_of HT.out
        have TF := frozen_of HT.out
        go_wp2_with fail
        refine (lsame_true _ _ _ _ _ c1 c2 Ec (RC1.out.below (by repeat (first | (with_reducible exact Below.refl _ _) | (with_reducible assumption) | (with_reducible refine below_drewN ?_ _) | (with_reducible refine Below.drew ?_) | (with_reducible refine below_ext_of ?_ (by first | exact Nat.le_refl _ | assumption | (simp only [World.size_alloc, World.size_setCell, size_ext, World.heap_drewN]; omega)) _ _) | (with_reducible refine Below.alloc ?_ (by first | exact Nat.le_refl _ | assumption | (simp only [World.size_alloc, World.size_setCell, size_ext, World.heap_drewN]; omega)) _) | (with_reducible refine Below.setCell ?_ (by first | exact Nat.le_refl _ | assumption | (simp only [World.size_alloc, World.size_setCell, size_ext, World.heap_drewN]; omega)) _)))) (RC2.out.below (by repeat (first | (with_reducible exact Below.refl _ _) | (with_reducible assumption) | (with_reducible refine below_drewN ?_ _) | (with_reducible refine Below.drew ?_) | (with_reducible refine below_ext_of ?_ (by first | exact Nat.le_refl _ | assumption | (simp only [World.size_alloc, World.size_setCell, size_ext, World.heap_drewN]; omega)) _ _) | (with_reducible refine Below.alloc ?_ (by first | exact Nat.le_refl _ | assumption | (simp only [World.size_alloc, World.size_setCell, size_ext, World.heap_drewN]; omega)) _) | (with_reducible refine Below.setCell ?_ (by first | exact Nat.le_refl _ | assumption | (simp only [World.size_alloc, World.size_setCell, size_ext, World.heap_drewN]; omega)) _)))) (RT1.out.below (by repeat (first | (with_reducible exact Below.refl _ _) | (with_reducible assumption) | (with_reducible refine below_drewN ?_ _) | (with_reducible refine Below.drew ?_) | (with_reducible refine below_ext_of ?_ (by first | exact Nat.le_refl _ | assumption | (simp only [World.size_alloc, World.size_setCell, size_ext, World.heap_drewN]; omega)) _ _) | (with_reducible refine Below.alloc ?_ (by first | exact Nat.le_refl _ | assumption | (simp only [World.size_alloc, World.size_setCell, size_ext, World.heap_drewN]; omega)) _) | (with_reducible refine Below.setCell ?_ (by first | exact Nat.le_refl _ | assumption | (simp only [World.size_alloc, World.size_setCell, size_ext, World.heap_drewN]; omega)) _)))) (RT2.out.below (by repeat (first | (with_reducible exact Below.refl _ _) | (with_reducible assumption) | (with_reducible refine below_drewN ?_ _) | (with_reducible refine Below.drew ?_) | (with_reducible refine below_ext_of ?_ (by first | exact Nat.le_refl _ | assumption | (simp only [World.size_alloc, World.size_setCell, size_ext, World.heap_drewN]; omega)) _ _) | (with_reducible refine Below.alloc ?_ (by first | exact Nat.le_refl _ | assumption | (simp only [World.size_alloc, World.size_setCell, size_ext, World.heap_drewN]; omega)) _) | (with_reducible refine Below.setCell ?_ (by first | exact Nat.le_refl _ | assumption | (simp only [World.size_alloc, World.size_setCell, size_ext, World.heap_drewN]; omega)) _))))).mono ?_
        rintro e W11 ⟨rfl, hb⟩
        have hB : Below V2.heap.size V2 W11 := Below.trans (by repeat (first | (with_reducible exact Below.refl _ _) | (with_reducible assumption) | (with_reducible refine below_drewN ?_ _) | (with_reducible refine Below.drew ?_) | (with_reducible refine below_ext_of ?_ (by first | exact Nat.le_refl _ | assumption | (simp only [World.size_alloc, World.size_setCell, size_ext, World.heap_drewN]; omega)) _ _) | (with_reducible refine Below.alloc ?_ (by first | exact Nat.le_refl _ | assumption | (simp only [World.size_alloc, World.size_setCell, size_ext, World.heap_drewN]; omega)) _) | (with_reducible refine Below.setCell ?_ (by first | exact Nat.le_refl _ | assumption | (simp only [World.size_alloc, World.size_setCell, size_ext, World.heap_drewN]; omega)) _))) (hb.mono (by simp [go_sem] <;> omega))
        replace RA1 := Lib.hid (RA1.out.below hB)
        replace RA2 := Lib.hid (RA2.out.below hB)
        replace RB1 := Lib.hid (RB1.out.below hB)
        replace RB2 := Lib.hid (RB2.out.below hB)
        replace RX1 := Lib.hid (RX1.out.below hB)
        replace RX2 := Lib.hid (RX2.out.below hB)
        replace RD1 := Lib.hid (RD1.out.below hB)
        replace RD2 := Lib.hid (RD2.out.below hB)
        replace RC1 := Lib.hid (RC1.out.below hB)
        replace RC2 := Lib.hid (RC2.out.below hB)
        replace RU1 := Lib.hid (RU1.out.below hB)
        replace RU2 := Lib.hid (RU2.out.below hB)
        replace RG1 := Lib.hid (RG1.out.below hB)
        replace RG2 := Lib.hid (RG2.out.below hB)
        replace RZ1 := Lib.hid (RZ1.out.below hB)
        replace RZ2 := Lib.hid (RZ2.out.below hB)
        replace RT1 := Lib.hid (RT1.out.below hB)
        replace RT2 := Lib.hid (RT2.out.below hB)
        replace HVB := Lib.hid (HVB.out.trans (hB.mono HVB.out.size))
        replace Kb0 := keep_cell hB Nb Kb0
        replace Kb1 := keep_cell hB Nb Kb1
        replace Nb := Nat.lt_of_lt_of_le Nb hB.size
        replace Ka0 := keep_cell hB Na Ka0
        replace Ka1 := keep_cell hB Na Ka1
        replace Na := Nat.lt_of_lt_of_le Na hB.size
        replace Kx0 := keep_cell hB Nx Kx0
        replace Kx1 := keep_cell hB Nx Kx1
        replace Nx := Nat.lt_of_lt_of_le Nx hB.size
        replace Kd0 := keep_cell hB Nd Kd0
        replace Kd1 := keep_cell hB Nd Kd1
        replace Nd := Nat.lt_of_lt_of_le Nd hB.size
        replace Kc0 := keep_cell hB Nc Kc0
        replace Kc1 := keep_cell hB Nc Kc1
        replace Nc := Nat.lt_of_lt_of_le Nc hB.size
        replace Ku0 := keep_cell hB Nu Ku0
        replace Ku1 := keep_cell hB Nu Ku1
        replace Nu := Nat.lt_of_lt_of_le Nu hB.size
        replace Kg0 := keep_cell hB Ng Kg0
        replace Kg1 := keep_cell hB Ng Kg1
        replace Ng := Nat.lt_of_lt_of_le Ng hB.size
        replace Kz0 := keep_cell hB Nz Kz0
        replace Kz1 := keep_cell hB Nz Kz1
        replace Nz := Nat.lt_of_lt_of_le Nz hB.size
        replace HT := Lib.hid ((hB.block _ Nt).trans HT.out)
        replace Nt := Nat.lt_of_lt_of_le Nt hB.size
        clear T0 T1 TF
        clear hb hB
        go_upto_if 104 with (fail)
        go_cut [] (fun wc => W11 = wc)
        case first =>
          go_wp2_with fail
          go_meet
          case rel => rfl
        case rest =>
        obtain rfl := hcut
        apply_assumption
        exact make12 w W11 HVB _ _ _ _ _ _ _ _ _ _ _ _ _ _ _ _ _ _ _ _ _ _ _ _ _ _ _ _ _ _ _ _ _ _ _ _ Bt _ _ _ _ _ _ HT Nt Lt RA1 RA2 Ba Ka0 Ka1 Na La RB1 RB2 Bb Kb0 Kb1 Nb Lb RD1 RD2 Bd Kd0 Kd1 Nd Ld RU1 RU2 Bu Ku0 Ku1 Nu Lu RG1 RG2 Bg Kg0 Kg1 Ng Lg RZ1 RZ2 Bz Kz0 Kz1 Nz Lz _ op _ _ _ _ hk2 hop MA HLA HLB I_a1 I_b1 HZd HZu HZg HZz _ _ _ _ _ _ _ _ _ _ _ _ _ _ _ _ _ _ _ _ _ _ _ _ _ _ _ _ _ _ _ _ _ _ _ _ _ _ _ _ _ _ _ _ _ _ _ _ _ _ _ _ _ _ _ _ _ _ _ _ _ _ _ _ _ _ _ _ _ _ _ _ _ _ _ _ _ _ _ _ _ _ _ _ _ _ _ _ _ _ _ _ _ _ _ _ _ _ _ _ _ _ _ _ _ _ _ _ _ _ _ _ _ _ _ _ _ _ _ _ _ _ _ _ _ _ _ _ _ _ _ _ _ _ _ _ _ _ _ _ _ _ _ _ _ _ _ _ _ _ _ _ _ _ _ _ _ _ _ _ _ _ _ _ _ _ _
end Go.Proofs.Ytpcnapmlmhhcpaa
