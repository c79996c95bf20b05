/-
  The law WordsNone: true of every head, number and op.
  Conditions: the head lies in memory.
-/
import Derived.Test.YtpcnapmlmhhcpaaWz
import Derived.WalkKit
import Derived.WalkSpells
import Derived.WalkLawsBesides
import Derived.Deep.QuietTactic
import Derived.BigQuiet
import Derived.Lib.Hide
import Derived.Handy
import Derived.Test.YtpcnapmlmhhcpaaWv
import Derived.Test.YtpcnapmlmhhcpaaWl
set_option linter.unusedVariables false
set_option linter.unusedSimpArgs false
namespace Go.Proofs.Ytpcnapmlmhhcpaa
open Go.RowKit 
open Big
attribute [local go_sem] setCell_drewN alloc_drewN size_ext ext_ext ext_drewN ext_drew drewN_ext drew_ext cell?_ext frozen?_ext setCell_ext cell?_past1 frozen?_past1 setCell_past1 cell?_past2 frozen?_past2 setCell_past2 cell?_past3 frozen?_past3 setCell_past3 cell?_past4 frozen?_past4 setCell_past4 cell?_past5 frozen?_past5 setCell_past5 cell?_past6 frozen?_past6 setCell_past6 cell?_past7 frozen?_past7 setCell_past7 cell?_past8 frozen?_past8 setCell_past8

theorem may_nil (xs : List Int) : may xs [] = false := by unfold may; simp
theorem nE_nil (xs : List Int) : nE xs [] ≠ 0 := by unfold nE; rw [may_nil, if_neg (by decide)]; decide
theorem may_none (w : World) (v1 v2 : Value) (xs : List Int) (h1 : RowAt w v1 xs) (h2 : RowAt w v2 []) : Calls Try.prog 24 #[.agg #[v1, v2]] w fun e w' => e = .returned (.bool false) ∧ Below w.heap.size w w' := by
  have := may_any w v1 v2 xs [] h1 h2
  rwa [may_nil] at this
theorem same_none (w : World) (v1 v2 v3 v4 : Value) (xs : List Int) (h1 : RowAt w v1 xs) (h2 : RowAt w v2 []) (h3 : RowAt w v3 xs) (h4 : RowAt w v4 []) : Calls Try.prog 26 #[.agg #[v1, v2], .agg #[v3, v4]] w fun e w' => e = .returned (.bool false) ∧ Below w.heap.size w w' := by
  have := same_any w v1 v2 v3 v4 xs [] xs [] h1 h2 h3 h4
  rwa [show same xs [] xs [] = false by unfold same; rw [decide_eq_false (nE_nil xs), Bool.false_and]] at this
set_option maxRecDepth 100000 in
set_option maxHeartbeats 16000000 in
theorem WordsNone_any (w : World) (A : Option Addr) (c : Nat) (xs : List Int) (k op : Int) (h : RowAt w (.slice A xs.length c) xs) : Calls Try.prog 7 #[.slice A xs.length c, .int .i64 k, .int .u8 op] w fun e w' => e = .returned (.bool true) ∧ Below w.heap.size w w' := by
  by_cases hbig : 5000 < xs.length
  · have g1 : (5000 : Int) < xs.length := by omega
    have g2 := decide_eq_true g1
    have g3 : decide ((xs.length : Int) > 5000) = true := g2
    have g4 := decide_eq_true hbig
    generalize xs.length = n at *
    go_enter Try.func7, Try.ntmps7
    go_wp2_with fail
    refine (works_any _).mono ?_
    rintro e w1 ⟨rfl, hb⟩
    go_wp2_with fail
    go_ret
    exact ⟨rfl, hb⟩
  · have g1 : ¬ ((5000 : Int) < xs.length) := by omega
    have g2 := decide_eq_false g1
    have g3 : decide ((xs.length : Int) > 5000) = false := g2
    have g4 := decide_eq_false hbig
    have HMY := Lib.hid (may_nil xs)
    have HNE := Lib.hid (nE_nil xs)
    have HR := Lib.hid h
    have HLN : Hid (xs.length ≤ 5000) := Lib.hid (by omega)
    clear h hbig
    go_enter Try.func7, Try.ntmps7
    go_wp2_with (first
      | (at_builtin; refine wpList_append_row (by rfl) _ _ (by rfl) w.heap.size (.slice none 0 0) [] xs A xs.length c (by rfl) (by rfl) (Fresh.nil _ _) HR.out (by have := HLN.out; simp; omega) (Nat.le_refl _) ?_
         intro v1 w1 hf hg
         have hb1 : Below w.heap.size w w1 := Below.grown (Below.refl _ _) hg (Nat.le_refl _) (fun k hk => by cases hk)
         have HVB := Lib.hid hb1
         rw [List.nil_append] at hf
         have r1 := hf.row
         have RX := Lib.hid r1
         obtain ⟨p1, c1, rfl, _⟩ := r1
         clear hf hg hb1))
    go_wp2_with fail
    refine (At_no _ _ _ xs [] 0 (RX.out.below (by repeat (first | (with_reducible exact Below.refl _ _) | (with_reducible assumption) | (with_reducible refine below_drewN ?_ _) | (with_reducible refine Below.drew ?_) | (with_reducible refine below_ext_of ?_ (by first | exact Nat.le_refl _ | assumption | (simp only [World.size_alloc, World.size_setCell, size_ext, World.heap_drewN]; omega)) _ _) | (with_reducible refine Below.alloc ?_ (by first | exact Nat.le_refl _ | assumption | (simp only [World.size_alloc, World.size_setCell, size_ext, World.heap_drewN]; omega)) _) | (with_reducible refine Below.setCell ?_ (by first | exact Nat.le_refl _ | assumption | (simp only [World.size_alloc, World.size_setCell, size_ext, World.heap_drewN]; omega)) _)))) (RowAt.nil _) (Or.inl HMY.out)).mono ?_
    rintro e W1 ⟨rfl, hb⟩
    have hB : Below w1.heap.size w1 W1 := Below.trans (by repeat (first | (with_reducible exact Below.refl _ _) | (with_reducible assumption) | (with_reducible refine below_drewN ?_ _) | (with_reducible refine Below.drew ?_) | (with_reducible refine below_ext_of ?_ (by first | exact Nat.le_refl _ | assumption | (simp only [World.size_alloc, World.size_setCell, size_ext, World.heap_drewN]; omega)) _ _) | (with_reducible refine Below.alloc ?_ (by first | exact Nat.le_refl _ | assumption | (simp only [World.size_alloc, World.size_setCell, size_ext, World.heap_drewN]; omega)) _) | (with_reducible refine Below.setCell ?_ (by first | exact Nat.le_refl _ | assumption | (simp only [World.size_alloc, World.size_setCell, size_ext, World.heap_drewN]; omega)) _))) (hb.mono (by simp [go_sem] <;> omega))
    replace RX := Lib.hid (RX.out.below hB)
    replace HVB := Lib.hid (HVB.out.trans (hB.mono HVB.out.size))
    have Kw0 : W1.cell? ⟨w1.heap.size, 0, none⟩ = some (.slice p1 xs.length c1) := keep_cell hb (by simp [go_sem] <;> omega) (by simp [go_sem])
    have Kw1 : W1.cell? ⟨w1.heap.size, 1, none⟩ = some (.slice none 0 0) := keep_cell hb (by simp [go_sem] <;> omega) (by simp [go_sem])
    have Nw : w1.heap.size < W1.heap.size := Nat.lt_of_lt_of_le (by simp [go_sem] <;> omega) hb.size
    have Kf0 : W1.cell? ⟨w1.heap.size + 1 + 1, 0, none⟩ = some (.slice none 0 0) := keep_cell hb (by simp [go_sem] <;> omega) (by simp [go_sem])
    have Kf1 : W1.cell? ⟨w1.heap.size + 1 + 1, 1, none⟩ = some (.slice (some ⟨w1.heap.size + 1, 0, none⟩) 1 1) := keep_cell hb (by simp [go_sem] <;> omega) (by simp [go_sem])
    have Nf : w1.heap.size + 1 + 1 < W1.heap.size := Nat.lt_of_lt_of_le (by simp [go_sem] <;> omega) hb.size
    have RF : Hid (RowAt W1 (.slice (some ⟨w1.heap.size + 1, 0, none⟩) 1 1) [1]) := Lib.hid (RowAt.below (row_lit [1] (by decide) (by rw [heap_old _ _ _ (by simp <;> omega), heap_new _ _ _ (by simp <;> omega)]; rfl)) hb)
    obtain ⟨Bf, hkf⟩ : ∃ b, b = w1.heap.size + 1 + 1 := ⟨_, rfl⟩
    rw [← hkf] at Kf0 Kf1 Nf ⊢
    clear hkf
    obtain ⟨Bw, hkw⟩ : ∃ b, b = w1.heap.size := ⟨_, rfl⟩
    rw [← hkw] at Kw0 Kw1 Nw ⊢
    clear hkw
    clear hb hB
    go_wp2_with fail
    refine (norm_no _ _ _ xs [] (RX.out.below (by repeat (first | (with_reducible exact Below.refl _ _) | (with_reducible assumption) | (with_reducible refine below_drewN ?_ _) | (with_reducible refine Below.drew ?_) | (with_reducible refine below_ext_of ?_ (by first | exact Nat.le_refl _ | assumption | (simp only [World.size_alloc, World.size_setCell, size_ext, World.heap_drewN]; omega)) _ _) | (with_reducible refine Below.alloc ?_ (by first | exact Nat.le_refl _ | assumption | (simp only [World.size_alloc, World.size_setCell, size_ext, World.heap_drewN]; omega)) _) | (with_reducible refine Below.setCell ?_ (by first | exact Nat.le_refl _ | assumption | (simp only [World.size_alloc, World.size_setCell, size_ext, World.heap_drewN]; omega)) _)))) (RowAt.nil _) HMY.out).mono ?_
    rintro e W2 ⟨rfl, hb⟩
    have hB : Below W1.heap.size W1 W2 := Below.trans (by repeat (first | (with_reducible exact Below.refl _ _) | (with_reducible assumption) | (with_reducible refine below_drewN ?_ _) | (with_reducible refine Below.drew ?_) | (with_reducible refine below_ext_of ?_ (by first | exact Nat.le_refl _ | assumption | (simp only [World.size_alloc, World.size_setCell, size_ext, World.heap_drewN]; omega)) _ _) | (with_reducible refine Below.alloc ?_ (by first | exact Nat.le_refl _ | assumption | (simp only [World.size_alloc, World.size_setCell, size_ext, World.heap_drewN]; omega)) _) | (with_reducible refine Below.setCell ?_ (by first | exact Nat.le_refl _ | assumption | (simp only [World.size_alloc, World.size_setCell, size_ext, World.heap_drewN]; omega)) _))) (hb.mono (by simp [go_sem] <;> omega))
    replace RX := Lib.hid (RX.out.below hB)
    replace RF := Lib.hid (RF.out.below hB)
    replace HVB := Lib.hid (HVB.out.trans (hB.mono HVB.out.size))
    replace Kf0 := keep_cell hB Nf Kf0
    replace Kf1 := keep_cell hB Nf Kf1
    replace Nf := Nat.lt_of_lt_of_le Nf hB.size
    replace Kw0 := keep_cell hB Nw Kw0
    replace Kw1 := keep_cell hB Nw Kw1
    replace Nw := Nat.lt_of_lt_of_le Nw hB.size
    clear hb hB
    go_wp2_with fail
    refine (drop_no _ _ _ xs [] k (RX.out.below (by repeat (first | (with_reducible exact Below.refl _ _) | (with_reducible assumption) | (with_reducible refine below_drewN ?_ _) | (with_reducible refine Below.drew ?_) | (with_reducible refine below_ext_of ?_ (by first | exact Nat.le_refl _ | assumption | (simp only [World.size_alloc, World.size_setCell, size_ext, World.heap_drewN]; omega)) _ _) | (with_reducible refine Below.alloc ?_ (by first | exact Nat.le_refl _ | assumption | (simp only [World.size_alloc, World.size_setCell, size_ext, World.heap_drewN]; omega)) _) | (with_reducible refine Below.setCell ?_ (by first | exact Nat.le_refl _ | assumption | (simp only [World.size_alloc, World.size_setCell, size_ext, World.heap_drewN]; omega)) _)))) (RowAt.nil _) HMY.out).mono ?_
    rintro e W3 ⟨rfl, hb⟩
    have hB : Below W2.heap.size W2 W3 := Below.trans (by repeat (first | (with_reducible exact Below.refl _ _) | (with_reducible assumption) | (with_reducible refine below_drewN ?_ _) | (with_reducible refine Below.drew ?_) | (with_reducible refine below_ext_of ?_ (by first | exact Nat.le_refl _ | assumption | (simp only [World.size_alloc, World.size_setCell, size_ext, World.heap_drewN]; omega)) _ _) | (with_reducible refine Below.alloc ?_ (by first | exact Nat.le_refl _ | assumption | (simp only [World.size_alloc, World.size_setCell, size_ext, World.heap_drewN]; omega)) _) | (with_reducible refine Below.setCell ?_ (by first | exact Nat.le_refl _ | assumption | (simp only [World.size_alloc, World.size_setCell, size_ext, World.heap_drewN]; omega)) _))) (hb.mono (by simp [go_sem] <;> omega))
    replace RX := Lib.hid (RX.out.below hB)
    replace RF := Lib.hid (RF.out.below hB)
    replace HVB := Lib.hid (HVB.out.trans (hB.mono HVB.out.size))
    replace Kf0 := keep_cell hB Nf Kf0
    replace Kf1 := keep_cell hB Nf Kf1
    replace Nf := Nat.lt_of_lt_of_le Nf hB.size
    replace Kw0 := keep_cell hB Nw Kw0
    replace Kw1 := keep_cell hB Nw Kw1
    replace Nw := Nat.lt_of_lt_of_le Nw hB.size
    have Kx0 : W3.cell? ⟨W2.heap.size, 0, none⟩ = some (.slice none 0 0) := keep_cell hb (by simp [go_sem] <;> omega) (by simp [go_sem])
    have Kx1 : W3.cell? ⟨W2.heap.size, 1, none⟩ = some (.slice none 0 0) := keep_cell hb (by simp [go_sem] <;> omega) (by simp [go_sem])
    have Nx : W2.heap.size < W3.heap.size := Nat.lt_of_lt_of_le (by simp [go_sem] <;> omega) hb.size
    obtain ⟨Bx, hkx⟩ : ∃ b, b = W2.heap.size := ⟨_, rfl⟩
    rw [← hkx] at Kx0 Kx1 Nx ⊢
    clear hkx
    clear hb hB
    go_wp2_with fail
    refine (cons_no _ _ _ xs [] k (RX.out.below (by repeat (first | (with_reducible exact Below.refl _ _) | (with_reducible assumption) | (with_reducible refine below_drewN ?_ _) | (with_reducible refine Below.drew ?_) | (with_reducible refine below_ext_of ?_ (by first | exact Nat.le_refl _ | assumption | (simp only [World.size_alloc, World.size_setCell, size_ext, World.heap_drewN]; omega)) _ _) | (with_reducible refine Below.alloc ?_ (by first | exact Nat.le_refl _ | assumption | (simp only [World.size_alloc, World.size_setCell, size_ext, World.heap_drewN]; omega)) _) | (with_reducible refine Below.setCell ?_ (by first | exact Nat.le_refl _ | assumption | (simp only [World.size_alloc, World.size_setCell, size_ext, World.heap_drewN]; omega)) _)))) (RowAt.nil _) HMY.out).mono ?_
    rintro e W4 ⟨rfl, hb⟩
    have hB : Below W3.heap.size W3 W4 := Below.trans (by repeat (first | (with_reducible exact Below.refl _ _) | (with_reducible assumption) | (with_reducible refine below_drewN ?_ _) | (with_reducible refine Below.drew ?_) | (with_reducible refine below_ext_of ?_ (by first | exact Nat.le_refl _ | assumption | (simp only [World.size_alloc, World.size_setCell, size_ext, World.heap_drewN]; omega)) _ _) | (with_reducible refine Below.alloc ?_ (by first | exact Nat.le_refl _ | assumption | (simp only [World.size_alloc, World.size_setCell, size_ext, World.heap_drewN]; omega)) _) | (with_reducible refine Below.setCell ?_ (by first | exact Nat.le_refl _ | assumption | (simp only [World.size_alloc, World.size_setCell, size_ext, World.heap_drewN]; omega)) _))) (hb.mono (by simp [go_sem] <;> omega))
    replace RX := Lib.hid (RX.out.below hB)
    replace RF := Lib.hid (RF.out.below hB)
    replace HVB := Lib.hid (HVB.out.trans (hB.mono HVB.out.size))
    replace Kf0 := keep_cell hB Nf Kf0
    replace Kf1 := keep_cell hB Nf Kf1
    replace Nf := Nat.lt_of_lt_of_le Nf hB.size
    replace Kw0 := keep_cell hB Nw Kw0
    replace Kw1 := keep_cell hB Nw Kw1
    replace Nw := Nat.lt_of_lt_of_le Nw hB.size
    replace Kx0 := keep_cell hB Nx Kx0
    replace Kx1 := keep_cell hB Nx Kx1
    replace Nx := Nat.lt_of_lt_of_le Nx hB.size
    have Ky0 : W4.cell? ⟨W3.heap.size, 0, none⟩ = some (.slice none 0 0) := keep_cell hb (by simp [go_sem] <;> omega) (by simp [go_sem])
    have Ky1 : W4.cell? ⟨W3.heap.size, 1, none⟩ = some (.slice none 0 0) := keep_cell hb (by simp [go_sem] <;> omega) (by simp [go_sem])
    have Ny : W3.heap.size < W4.heap.size := Nat.lt_of_lt_of_le (by simp [go_sem] <;> omega) hb.size
    obtain ⟨By, hky⟩ : ∃ b, b = W3.heap.size := ⟨_, rfl⟩
    rw [← hky] at Ky0 Ky1 Ny ⊢
    clear hky
    clear hb hB
    go_wp2_with fail
    refine (up_no _ _ _ xs [] k (RX.out.below (by repeat (first | (with_reducible exact Below.refl _ _) | (with_reducible assumption) | (with_reducible refine below_drewN ?_ _) | (with_reducible refine Below.drew ?_) | (with_reducible refine below_ext_of ?_ (by first | exact Nat.le_refl _ | assumption | (simp only [World.size_alloc, World.size_setCell, size_ext, World.heap_drewN]; omega)) _ _) | (with_reducible refine Below.alloc ?_ (by first | exact Nat.le_refl _ | assumption | (simp only [World.size_alloc, World.size_setCell, size_ext, World.heap_drewN]; omega)) _) | (with_reducible refine Below.setCell ?_ (by first | exact Nat.le_refl _ | assumption | (simp only [World.size_alloc, World.size_setCell, size_ext, World.heap_drewN]; omega)) _)))) (RowAt.nil _) HMY.out).mono ?_
    rintro e W5 ⟨rfl, hb⟩
    have hB : Below W4.heap.size W4 W5 := Below.trans (by repeat (first | (with_reducible exact Below.refl _ _) | (with_reducible assumption) | (with_reducible refine below_drewN ?_ _) | (with_reducible refine Below.drew ?_) | (with_reducible refine below_ext_of ?_ (by first | exact Nat.le_refl _ | assumption | (simp only [World.size_alloc, World.size_setCell, size_ext, World.heap_drewN]; omega)) _ _) | (with_reducible refine Below.alloc ?_ (by first | exact Nat.le_refl _ | assumption | (simp only [World.size_alloc, World.size_setCell, size_ext, World.heap_drewN]; omega)) _) | (with_reducible refine Below.setCell ?_ (by first | exact Nat.le_refl _ | assumption | (simp only [World.size_alloc, World.size_setCell, size_ext, World.heap_drewN]; omega)) _))) (hb.mono (by simp [go_sem] <;> omega))
    replace RX := Lib.hid (RX.out.below hB)
    replace RF := Lib.hid (RF.out.below hB)
    replace HVB := Lib.hid (HVB.out.trans (hB.mono HVB.out.size))
    replace Kf0 := keep_cell hB Nf Kf0
    replace Kf1 := keep_cell hB Nf Kf1
    replace Nf := Nat.lt_of_lt_of_le Nf hB.size
    replace Kw0 := keep_cell hB Nw Kw0
    replace Kw1 := keep_cell hB Nw Kw1
    replace Nw := Nat.lt_of_lt_of_le Nw hB.size
    replace Kx0 := keep_cell hB Nx Kx0
    replace Kx1 := keep_cell hB Nx Kx1
    replace Nx := Nat.lt_of_lt_of_le Nx hB.size
    replace Ky0 := keep_cell hB Ny Ky0
    replace Ky1 := keep_cell hB Ny Ky1
    replace Ny := Nat.lt_of_lt_of_le Ny hB.size
    have Kz0 : W5.cell? ⟨W4.heap.size, 0, none⟩ = some (.slice none 0 0) := keep_cell hb (by simp [go_sem] <;> omega) (by simp [go_sem])
    have Kz1 : W5.cell? ⟨W4.heap.size, 1, none⟩ = some (.slice none 0 0) := keep_cell hb (by simp [go_sem] <;> omega) (by simp [go_sem])
    have Nz : W4.heap.size < W5.heap.size := Nat.lt_of_lt_of_le (by simp [go_sem] <;> omega) hb.size
    obtain ⟨Bz, hkz⟩ : ∃ b, b = W4.heap.size := ⟨_, rfl⟩
    rw [← hkz] at Kz0 Kz1 Nz ⊢
    clear hkz
    clear hb hB
    go_wp2_with fail
    refine (down_no _ _ _ xs [] k (RX.out.below (by repeat (first | (with_reducible exact Below.refl _ _) | (with_reducible assumption) | (with_reducible refine below_drewN ?_ _) | (with_reducible refine Below.drew ?_) | (with_reducible refine below_ext_of ?_ (by first | exact Nat.le_refl _ | assumption | (simp only [World.size_alloc, World.size_setCell, size_ext, World.heap_drewN]; omega)) _ _) | (with_reducible refine Below.alloc ?_ (by first | exact Nat.le_refl _ | assumption | (simp only [World.size_alloc, World.size_setCell, size_ext, World.heap_drewN]; omega)) _) | (with_reducible refine Below.setCell ?_ (by first | exact Nat.le_refl _ | assumption | (simp only [World.size_alloc, World.size_setCell, size_ext, World.heap_drewN]; omega)) _)))) (RowAt.nil _) HMY.out).mono ?_
    rintro e W6 ⟨rfl, hb⟩
    have hB : Below W5.heap.size W5 W6 := Below.trans (by repeat (first | (with_reducible exact Below.refl _ _) | (with_reducible assumption) | (with_reducible refine below_drewN ?_ _) | (with_reducible refine Below.drew ?_) | (with_reducible refine below_ext_of ?_ (by first | exact Nat.le_refl _ | assumption | (simp only [World.size_alloc, World.size_setCell, size_ext, World.heap_drewN]; omega)) _ _) | (with_reducible refine Below.alloc ?_ (by first | exact Nat.le_refl _ | assumption | (simp only [World.size_alloc, World.size_setCell, size_ext, World.heap_drewN]; omega)) _) | (with_reducible refine Below.setCell ?_ (by first | exact Nat.le_refl _ | assumption | (simp only [World.size_alloc, World.size_setCell, size_ext, World.heap_drewN]; omega)) _))) (hb.mono (by simp [go_sem] <;> omega))
    replace RX := Lib.hid (RX.out.below hB)
    replace RF := Lib.hid (RF.out.below hB)
    replace HVB := Lib.hid (HVB.out.trans (hB.mono HVB.out.size))
    replace Kf0 := keep_cell hB Nf Kf0
    replace Kf1 := keep_cell hB Nf Kf1
    replace Nf := Nat.lt_of_lt_of_le Nf hB.size
    replace Kw0 := keep_cell hB Nw Kw0
    replace Kw1 := keep_cell hB Nw Kw1
    replace Nw := Nat.lt_of_lt_of_le Nw hB.size
    replace Kx0 := keep_cell hB Nx Kx0
    replace Kx1 := keep_cell hB Nx Kx1
    replace Nx := Nat.lt_of_lt_of_le Nx hB.size
    replace Ky0 := keep_cell hB Ny Ky0
    replace Ky1 := keep_cell hB Ny Ky1
    replace Ny := Nat.lt_of_lt_of_le Ny hB.size
    replace Kz0 := keep_cell hB Nz Kz0
    replace Kz1 := keep_cell hB Nz Kz1
    replace Nz := Nat.lt_of_lt_of_le Nz hB.size
    have Ku0 : W6.cell? ⟨W5.heap.size, 0, none⟩ = some (.slice none 0 0) := keep_cell hb (by simp [go_sem] <;> omega) (by simp [go_sem])
    have Ku1 : W6.cell? ⟨W5.heap.size, 1, none⟩ = some (.slice none 0 0) := keep_cell hb (by simp [go_sem] <;> omega) (by simp [go_sem])
    have Nu : W5.heap.size < W6.heap.size := Nat.lt_of_lt_of_le (by simp [go_sem] <;> omega) hb.size
    obtain ⟨Bu, hku⟩ : ∃ b, b = W5.heap.size := ⟨_, rfl⟩
    rw [← hku] at Ku0 Ku1 Nu ⊢
    clear hku
    clear hb hB
    go_wp2_with fail
    refine (zip_no _ op _ _ _ _ xs [] [] [1] (RX.out.below (by repeat (first | (with_reducible exact Below.refl _ _) | (with_reducible assumption) | (with_reducible refine below_drewN ?_ _) | (with_reducible refine Below.drew ?_) | (with_reducible refine below_ext_of ?_ (by first | exact Nat.le_refl _ | assumption | (simp only [World.size_alloc, World.size_setCell, size_ext, World.heap_drewN]; omega)) _ _) | (with_reducible refine Below.alloc ?_ (by first | exact Nat.le_refl _ | assumption | (simp only [World.size_alloc, World.size_setCell, size_ext, World.heap_drewN]; omega)) _) | (with_reducible refine Below.setCell ?_ (by first | exact Nat.le_refl _ | assumption | (simp only [World.size_alloc, World.size_setCell, size_ext, World.heap_drewN]; omega)) _)))) (RowAt.nil _) (RowAt.nil _) (RF.out.below (by repeat (first | (with_reducible exact Below.refl _ _) | (with_reducible assumption) | (with_reducible refine below_drewN ?_ _) | (with_reducible refine Below.drew ?_) | (with_reducible refine below_ext_of ?_ (by first | exact Nat.le_refl _ | assumption | (simp only [World.size_alloc, World.size_setCell, size_ext, World.heap_drewN]; omega)) _ _) | (with_reducible refine Below.alloc ?_ (by first | exact Nat.le_refl _ | assumption | (simp only [World.size_alloc, World.size_setCell, size_ext, World.heap_drewN]; omega)) _) | (with_reducible refine Below.setCell ?_ (by first | exact Nat.le_refl _ | assumption | (simp only [World.size_alloc, World.size_setCell, size_ext, World.heap_drewN]; omega)) _)))) (Or.inl HNE.out)).mono ?_
    rintro e W7 ⟨rfl, hb⟩
    have hB : Below W6.heap.size W6 W7 := Below.trans (by repeat (first | (with_reducible exact Below.refl _ _) | (with_reducible assumption) | (with_reducible refine below_drewN ?_ _) | (with_reducible refine Below.drew ?_) | (with_reducible refine below_ext_of ?_ (by first | exact Nat.le_refl _ | assumption | (simp only [World.size_alloc, World.size_setCell, size_ext, World.heap_drewN]; omega)) _ _) | (with_reducible refine Below.alloc ?_ (by first | exact Nat.le_refl _ | assumption | (simp only [World.size_alloc, World.size_setCell, size_ext, World.heap_drewN]; omega)) _) | (with_reducible refine Below.setCell ?_ (by first | exact Nat.le_refl _ | assumption | (simp only [World.size_alloc, World.size_setCell, size_ext, World.heap_drewN]; omega)) _))) (hb.mono (by simp [go_sem] <;> omega))
    replace RX := Lib.hid (RX.out.below hB)
    replace RF := Lib.hid (RF.out.below hB)
    replace HVB := Lib.hid (HVB.out.trans (hB.mono HVB.out.size))
    replace Kf0 := keep_cell hB Nf Kf0
    replace Kf1 := keep_cell hB Nf Kf1
    replace Nf := Nat.lt_of_lt_of_le Nf hB.size
    replace Kw0 := keep_cell hB Nw Kw0
    replace Kw1 := keep_cell hB Nw Kw1
    replace Nw := Nat.lt_of_lt_of_le Nw hB.size
    replace Kx0 := keep_cell hB Nx Kx0
    replace Kx1 := keep_cell hB Nx Kx1
    replace Nx := Nat.lt_of_lt_of_le Nx hB.size
    replace Ky0 := keep_cell hB Ny Ky0
    replace Ky1 := keep_cell hB Ny Ky1
    replace Ny := Nat.lt_of_lt_of_le Ny hB.size
    replace Kz0 := keep_cell hB Nz Kz0
    replace Kz1 := keep_cell hB Nz Kz1
    replace Nz := Nat.lt_of_lt_of_le Nz hB.size
    replace Ku0 := keep_cell hB Nu Ku0
    replace Ku1 := keep_cell hB Nu Ku1
    replace Nu := Nat.lt_of_lt_of_le Nu hB.size
    have Kv0 : W7.cell? ⟨W6.heap.size, 0, none⟩ = some (.slice none 0 0) := keep_cell hb (by simp [go_sem] <;> omega) (by simp [go_sem])
    have Kv1 : W7.cell? ⟨W6.heap.size, 1, none⟩ = some (.slice none 0 0) := keep_cell hb (by simp [go_sem] <;> omega) (by simp [go_sem])
    have Nv : W6.heap.size < W7.heap.size := Nat.lt_of_lt_of_le (by simp [go_sem] <;> omega) hb.size
    obtain ⟨Bv, hkv⟩ : ∃ b, b = W6.heap.size := ⟨_, rfl⟩
    rw [← hkv] at Kv0 Kv1 Nv ⊢
    clear hkv
    clear hb hB
    go_wp2_with fail
    refine (zip_no _ op _ _ _ _ [] [1] xs [] (RowAt.nil _) (RF.out.below (by repeat (first | (with_reducible exact Below.refl _ _) | (with_reducible assumption) | (with_reducible refine below_drewN ?_ _) | (with_reducible refine Below.drew ?_) | (with_reducible refine below_ext_of ?_ (by first | exact Nat.le_refl _ | assumption | (simp only [World.size_alloc, World.size_setCell, size_ext, World.heap_drewN]; omega)) _ _) | (with_reducible refine Below.alloc ?_ (by first | exact Nat.le_refl _ | assumption | (simp only [World.size_alloc, World.size_setCell, size_ext, World.heap_drewN]; omega)) _) | (with_reducible refine Below.setCell ?_ (by first | exact Nat.le_refl _ | assumption | (simp only [World.size_alloc, World.size_setCell, size_ext, World.heap_drewN]; omega)) _)))) (RX.out.below (by repeat (first | (with_reducible exact Below.refl _ _) | (with_reducible assumption) | (with_reducible refine below_drewN ?_ _) | (with_reducible refine Below.drew ?_) | (with_reducible refine below_ext_of ?_ (by first | exact Nat.le_refl _ | assumption | (simp only [World.size_alloc, World.size_setCell, size_ext, World.heap_drewN]; omega)) _ _) | (with_reducible refine Below.alloc ?_ (by first | exact Nat.le_refl _ | assumption | (simp only [World.size_alloc, World.size_setCell, size_ext, World.heap_drewN]; omega)) _) | (with_reducible refine Below.setCell ?_ (by first | exact Nat.le_refl _ | assumption | (simp only [World.size_alloc, World.size_setCell, size_ext, World.heap_drewN]; omega)) _)))) (RowAt.nil _) (Or.inr HNE.out)).mono ?_
    rintro e W8 ⟨rfl, hb⟩
    have hB : Below W7.heap.size W7 W8 := Below.trans (by repeat (first | (with_reducible exact Below.refl _ _) | (with_reducible assumption) | (with_reducible refine below_drewN ?_ _) | (with_reducible refine Below.drew ?_) | (with_reducible refine below_ext_of ?_ (by first | exact Nat.le_refl _ | assumption | (simp only [World.size_alloc, World.size_setCell, size_ext, World.heap_drewN]; omega)) _ _) | (with_reducible refine Below.alloc ?_ (by first | exact Nat.le_refl _ | assumption | (simp only [World.size_alloc, World.size_setCell, size_ext, World.heap_drewN]; omega)) _) | (with_reducible refine Below.setCell ?_ (by first | exact Nat.le_refl _ | assumption | (simp only [World.size_alloc, World.size_setCell, size_ext, World.heap_drewN]; omega)) _))) (hb.mono (by simp [go_sem] <;> omega))
    replace RX := Lib.hid (RX.out.below hB)
    replace RF := Lib.hid (RF.out.below hB)
    replace HVB := Lib.hid (HVB.out.trans (hB.mono HVB.out.size))
    replace Kf0 := keep_cell hB Nf Kf0
    replace Kf1 := keep_cell hB Nf Kf1
    replace Nf := Nat.lt_of_lt_of_le Nf hB.size
    replace Kw0 := keep_cell hB Nw Kw0
    replace Kw1 := keep_cell hB Nw Kw1
    replace Nw := Nat.lt_of_lt_of_le Nw hB.size
    replace Kx0 := keep_cell hB Nx Kx0
    replace Kx1 := keep_cell hB Nx Kx1
    replace Nx := Nat.lt_of_lt_of_le Nx hB.size
    replace Ky0 := keep_cell hB Ny Ky0
    replace Ky1 := keep_cell hB Ny Ky1
    replace Ny := Nat.lt_of_lt_of_le Ny hB.size
    replace Kz0 := keep_cell hB Nz Kz0
    replace Kz1 := keep_cell hB Nz Kz1
    replace Nz := Nat.lt_of_lt_of_le Nz hB.size
    replace Ku0 := keep_cell hB Nu Ku0
    replace Ku1 := keep_cell hB Nu Ku1
    replace Nu := Nat.lt_of_lt_of_le Nu hB.size
    replace Kv0 := keep_cell hB Nv Kv0
    replace Kv1 := keep_cell hB Nv Kv1
    replace Nv := Nat.lt_of_lt_of_le Nv hB.size
    have Kp0 : W8.cell? ⟨W7.heap.size, 0, none⟩ = some (.slice none 0 0) := keep_cell hb (by simp [go_sem] <;> omega) (by simp [go_sem])
    have Kp1 : W8.cell? ⟨W7.heap.size, 1, none⟩ = some (.slice none 0 0) := keep_cell hb (by simp [go_sem] <;> omega) (by simp [go_sem])
    have Np : W7.heap.size < W8.heap.size := Nat.lt_of_lt_of_le (by simp [go_sem] <;> omega) hb.size
    obtain ⟨Bp, hkp⟩ : ∃ b, b = W7.heap.size := ⟨_, rfl⟩
    rw [← hkp] at Kp0 Kp1 Np ⊢
    clear hkp
    clear hb hB
    go_wp2_with fail
    refine (bounds_no _ _ _ xs [] (RX.out.below (by repeat (first | (with_reducible exact Below.refl _ _) | (with_reducible assumption) | (with_reducible refine below_drewN ?_ _) | (with_reducible refine Below.drew ?_) | (with_reducible refine below_ext_of ?_ (by first | exact Nat.le_refl _ | assumption | (simp only [World.size_alloc, World.size_setCell, size_ext, World.heap_drewN]; omega)) _ _) | (with_reducible refine Below.alloc ?_ (by first | exact Nat.le_refl _ | assumption | (simp only [World.size_alloc, World.size_setCell, size_ext, World.heap_drewN]; omega)) _) | (with_reducible refine Below.setCell ?_ (by first | exact Nat.le_refl _ | assumption | (simp only [World.size_alloc, World.size_setCell, size_ext, World.heap_drewN]; omega)) _)))) (RowAt.nil _) HMY.out).mono ?_
    rintro e W9 ⟨rfl, hb⟩
    have hB : Below W8.heap.size W8 W9 := Below.trans (by repeat (first | (with_reducible exact Below.refl _ _) | (with_reducible assumption) | (with_reducible refine below_drewN ?_ _) | (with_reducible refine Below.drew ?_) | (with_reducible refine below_ext_of ?_ (by first | exact Nat.le_refl _ | assumption | (simp only [World.size_alloc, World.size_setCell, size_ext, World.heap_drewN]; omega)) _ _) | (with_reducible refine Below.alloc ?_ (by first | exact Nat.le_refl _ | assumption | (simp only [World.size_alloc, World.size_setCell, size_ext, World.heap_drewN]; omega)) _) | (with_reducible refine Below.setCell ?_ (by first | exact Nat.le_refl _ | assumption | (simp only [World.size_alloc, World.size_setCell, size_ext, World.heap_drewN]; omega)) _))) (hb.mono (by simp [go_sem] <;> omega))
    replace RX := Lib.hid (RX.out.below hB)
    replace RF := Lib.hid (RF.out.below hB)
    replace HVB := Lib.hid (HVB.out.trans (hB.mono HVB.out.size))
    replace Kf0 := keep_cell hB Nf Kf0
    replace Kf1 := keep_cell hB Nf Kf1
    replace Nf := Nat.lt_of_lt_of_le Nf hB.size
    replace Kw0 := keep_cell hB Nw Kw0
    replace Kw1 := keep_cell hB Nw Kw1
    replace Nw := Nat.lt_of_lt_of_le Nw hB.size
    replace Kx0 := keep_cell hB Nx Kx0
    replace Kx1 := keep_cell hB Nx Kx1
    replace Nx := Nat.lt_of_lt_of_le Nx hB.size
    replace Ky0 := keep_cell hB Ny Ky0
    replace Ky1 := keep_cell hB Ny Ky1
    replace Ny := Nat.lt_of_lt_of_le Ny hB.size
    replace Kz0 := keep_cell hB Nz Kz0
    replace Kz1 := keep_cell hB Nz Kz1
    replace Nz := Nat.lt_of_lt_of_le Nz hB.size
    replace Ku0 := keep_cell hB Nu Ku0
    replace Ku1 := keep_cell hB Nu Ku1
    replace Nu := Nat.lt_of_lt_of_le Nu hB.size
    replace Kv0 := keep_cell hB Nv Kv0
    replace Kv1 := keep_cell hB Nv Kv1
    replace Nv := Nat.lt_of_lt_of_le Nv hB.size
    replace Kp0 := keep_cell hB Np Kp0
    replace Kp1 := keep_cell hB Np Kp1
    replace Np := Nat.lt_of_lt_of_le Np hB.size
    have Kq0 : W9.cell? ⟨W8.heap.size, 0, none⟩ = some (.slice none 0 0) := keep_cell hb (by simp [go_sem] <;> omega) (by simp [go_sem])
    have Kq1 : W9.cell? ⟨W8.heap.size, 1, none⟩ = some (.slice none 0 0) := keep_cell hb (by simp [go_sem] <;> omega) (by simp [go_sem])
    have Nq : W8.heap.size < W9.heap.size := Nat.lt_of_lt_of_le (by simp [go_sem] <;> omega) hb.size
    obtain ⟨Bq, hkq⟩ : ∃ b, b = W8.heap.size := ⟨_, rfl⟩
    rw [← hkq] at Kq0 Kq1 Nq ⊢
    clear hkq
    clear hb hB
    go_wp2_with fail
    refine (may_none _ _ _ xs (RX.out.below (by repeat (first | (with_reducible exact Below.refl _ _) | (with_reducible assumption) | (with_reducible refine below_drewN ?_ _) | (with_reducible refine Below.drew ?_) | (with_reducible refine below_ext_of ?_ (by first | exact Nat.le_refl _ | assumption | (simp only [World.size_alloc, World.size_setCell, size_ext, World.heap_drewN]; omega)) _ _) | (with_reducible refine Below.alloc ?_ (by first | exact Nat.le_refl _ | assumption | (simp only [World.size_alloc, World.size_setCell, size_ext, World.heap_drewN]; omega)) _) | (with_reducible refine Below.setCell ?_ (by first | exact Nat.le_refl _ | assumption | (simp only [World.size_alloc, World.size_setCell, size_ext, World.heap_drewN]; omega)) _)))) (RowAt.nil _)).mono ?_
    rintro e W10 ⟨rfl, hb⟩
    have hB : Below W9.heap.size W9 W10 := Below.trans (by repeat (first | (with_reducible exact Below.refl _ _) | (with_reducible assumption) | (with_reducible refine below_drewN ?_ _) | (with_reducible refine Below.drew ?_) | (with_reducible refine below_ext_of ?_ (by first | exact Nat.le_refl _ | assumption | (simp only [World.size_alloc, World.size_setCell, size_ext, World.heap_drewN]; omega)) _ _) | (with_reducible refine Below.alloc ?_ (by first | exact Nat.le_refl _ | assumption | (simp only [World.size_alloc, World.size_setCell, size_ext, World.heap_drewN]; omega)) _) | (with_reducible refine Below.setCell ?_ (by first | exact Nat.le_refl _ | assumption | (simp only [World.size_alloc, World.size_setCell, size_ext, World.heap_drewN]; omega)) _))) (hb.mono (by simp [go_sem] <;> omega))
    replace RX := Lib.hid (RX.out.below hB)
    replace RF := Lib.hid (RF.out.below hB)
    replace HVB := Lib.hid (HVB.out.trans (hB.mono HVB.out.size))
    replace Kf0 := keep_cell hB Nf Kf0
    replace Kf1 := keep_cell hB Nf Kf1
    replace Nf := Nat.lt_of_lt_of_le Nf hB.size
    replace Kw0 := keep_cell hB Nw Kw0
    replace Kw1 := keep_cell hB Nw Kw1
    replace Nw := Nat.lt_of_lt_of_le Nw hB.size
    replace Kx0 := keep_cell hB Nx Kx0
    replace Kx1 := keep_cell hB Nx Kx1
    replace Nx := Nat.lt_of_lt_of_le Nx hB.size
    replace Ky0 := keep_cell hB Ny Ky0
    replace Ky1 := keep_cell hB Ny Ky1
    replace Ny := Nat.lt_of_lt_of_le Ny hB.size
    replace Kz0 := keep_cell hB Nz Kz0
    replace Kz1 := keep_cell hB Nz Kz1
    replace Nz := Nat.lt_of_lt_of_le Nz hB.size
    replace Ku0 := keep_cell hB Nu Ku0
    replace Ku1 := keep_cell hB Nu Ku1
    replace Nu := Nat.lt_of_lt_of_le Nu hB.size
    replace Kv0 := keep_cell hB Nv Kv0
    replace Kv1 := keep_cell hB Nv Kv1
    replace Nv := Nat.lt_of_lt_of_le Nv hB.size
    replace Kp0 := keep_cell hB Np Kp0
    replace Kp1 := keep_cell hB Np Kp1
    replace Np := Nat.lt_of_lt_of_le Np hB.size
    replace Kq0 := keep_cell hB Nq Kq0
    replace Kq1 := keep_cell hB Nq Kq1
    replace Nq := Nat.lt_of_lt_of_le Nq hB.size
    clear hb hB
    go_wp2_with fail
    refine (same_none _ _ _ _ _ xs (RX.out.below (by repeat (first | (with_reducible exact Below.refl _ _) | (with_reducible assumption) | (with_reducible refine below_drewN ?_ _) | (with_reducible refine Below.drew ?_) | (with_reducible refine below_ext_of ?_ (by first | exact Nat.le_refl _ | assumption | (simp only [World.size_alloc, World.size_setCell, size_ext, World.heap_drewN]; omega)) _ _) | (with_reducible refine Below.alloc ?_ (by first | exact Nat.le_refl _ | assumption | (simp only [World.size_alloc, World.size_setCell, size_ext, World.heap_drewN]; omega)) _) | (with_reducible refine Below.setCell ?_ (by first | exact Nat.le_refl _ | assumption | (simp only [World.size_alloc, World.size_setCell, size_ext, World.heap_drewN]; omega)) _)))) (RowAt.nil _) (RX.out.below (by repeat (first | (with_reducible exact Below.refl _ _) | (with_reducible assumption) | (with_reducible refine below_drewN ?_ _) | (with_reducible refine Below.drew ?_) | (with_reducible refine below_ext_of ?_ (by first | exact Nat.le_refl _ | assumption | (simp only [World.size_alloc, World.size_setCell, size_ext, World.heap_drewN]; omega)) _ _) | (with_reducible refine Below.alloc ?_ (by first | exact Nat.le_refl _ | assumption | (simp only [World.size_alloc, World.size_setCell, size_ext, World.heap_drewN]; omega)) _) | (with_reducible refine Below.setCell ?_ (by first | exact Nat.le_refl _ | assumption | (simp only [World.size_alloc, World.size_setCell, size_ext, World.heap_drewN]; omega)) _)))) (RowAt.nil _)).mono ?_
    rintro e W11 ⟨rfl, hb⟩
    have hB : Below W10.heap.size W10 W11 := Below.trans (by repeat (first | (with_reducible exact Below.refl _ _) | (with_reducible assumption) | (with_reducible refine below_drewN ?_ _) | (with_reducible refine Below.drew ?_) | (with_reducible refine below_ext_of ?_ (by first | exact Nat.le_refl _ | assumption | (simp only [World.size_alloc, World.size_setCell, size_ext, World.heap_drewN]; omega)) _ _) | (with_reducible refine Below.alloc ?_ (by first | exact Nat.le_refl _ | assumption | (simp only [World.size_alloc, World.size_setCell, size_ext, World.heap_drewN]; omega)) _) | (with_reducible refine Below.setCell ?_ (by first | exact Nat.le_refl _ | assumption | (simp only [World.size_alloc, World.size_setCell, size_ext, World.heap_drewN]; omega)) _))) (hb.mono (by simp [go_sem] <;> omega))
    replace RX := Lib.hid (RX.out.below hB)
    replace RF := Lib.hid (RF.out.below hB)
    replace HVB := Lib.hid (HVB.out.trans (hB.mono HVB.out.size))
    replace Kf0 := keep_cell hB Nf Kf0
    replace Kf1 := keep_cell hB Nf Kf1
    replace Nf := Nat.lt_of_lt_of_le Nf hB.size
    replace Kw0 := keep_cell hB Nw Kw0
    replace Kw1 := keep_cell hB Nw Kw1
    replace Nw := Nat.lt_of_lt_of_le Nw hB.size
    replace Kx0 := keep_cell hB Nx Kx0
    replace Kx1 := keep_cell hB Nx Kx1
    replace Nx := Nat.lt_of_lt_of_le Nx hB.size
    replace Ky0 := keep_cell hB Ny Ky0
    replace Ky1 := keep_cell hB Ny Ky1
    replace Ny := Nat.lt_of_lt_of_le Ny hB.size
    replace Kz0 := keep_cell hB Nz Kz0
    replace Kz1 := keep_cell hB Nz Kz1
    replace Nz := Nat.lt_of_lt_of_le Nz hB.size
    replace Ku0 := keep_cell hB Nu Ku0
    replace Ku1 := keep_cell hB Nu Ku1
    replace Nu := Nat.lt_of_lt_of_le Nu hB.size
    replace Kv0 := keep_cell hB Nv Kv0
    replace Kv1 := keep_cell hB Nv Kv1
    replace Nv := Nat.lt_of_lt_of_le Nv hB.size
    replace Kp0 := keep_cell hB Np Kp0
    replace Kp1 := keep_cell hB Np Kp1
    replace Np := Nat.lt_of_lt_of_le Np hB.size
    replace Kq0 := keep_cell hB Nq Kq0
    replace Kq1 := keep_cell hB Nq Kq1
    replace Nq := Nat.lt_of_lt_of_le Nq hB.size
    clear hb hB
    go_wp2_with fail
    refine (works_any _).mono ?_
    rintro e W12 ⟨rfl, hb⟩
    have hB : Below W11.heap.size W11 W12 := Below.trans (by repeat (first | (with_reducible exact Below.refl _ _) | (with_reducible assumption) | (with_reducible refine below_drewN ?_ _) | (with_reducible refine Below.drew ?_) | (with_reducible refine below_ext_of ?_ (by first | exact Nat.le_refl _ | assumption | (simp only [World.size_alloc, World.size_setCell, size_ext, World.heap_drewN]; omega)) _ _) | (with_reducible refine Below.alloc ?_ (by first | exact Nat.le_refl _ | assumption | (simp only [World.size_alloc, World.size_setCell, size_ext, World.heap_drewN]; omega)) _) | (with_reducible refine Below.setCell ?_ (by first | exact Nat.le_refl _ | assumption | (simp only [World.size_alloc, World.size_setCell, size_ext, World.heap_drewN]; omega)) _))) (hb.mono (by simp [go_sem] <;> omega))
    replace RX := Lib.hid (RX.out.below hB)
    replace RF := Lib.hid (RF.out.below hB)
    replace HVB := Lib.hid (HVB.out.trans (hB.mono HVB.out.size))
    replace Kf0 := keep_cell hB Nf Kf0
    replace Kf1 := keep_cell hB Nf Kf1
    replace Nf := Nat.lt_of_lt_of_le Nf hB.size
    replace Kw0 := keep_cell hB Nw Kw0
    replace Kw1 := keep_cell hB Nw Kw1
    replace Nw := Nat.lt_of_lt_of_le Nw hB.size
    replace Kx0 := keep_cell hB Nx Kx0
    replace Kx1 := keep_cell hB Nx Kx1
    replace Nx := Nat.lt_of_lt_of_le Nx hB.size
    replace Ky0 := keep_cell hB Ny Ky0
    replace Ky1 := keep_cell hB Ny Ky1
    replace Ny := Nat.lt_of_lt_of_le Ny hB.size
    replace Kz0 := keep_cell hB Nz Kz0
    replace Kz1 := keep_cell hB Nz Kz1
    replace Nz := Nat.lt_of_lt_of_le Nz hB.size
    replace Ku0 := keep_cell hB Nu Ku0
    replace Ku1 := keep_cell hB Nu Ku1
    replace Nu := Nat.lt_of_lt_of_le Nu hB.size
    replace Kv0 := keep_cell hB Nv Kv0
    replace Kv1 := keep_cell hB Nv Kv1
    replace Nv := Nat.lt_of_lt_of_le Nv hB.size
    replace Kp0 := keep_cell hB Np Kp0
    replace Kp1 := keep_cell hB Np Kp1
    replace Np := Nat.lt_of_lt_of_le Np hB.size
    replace Kq0 := keep_cell hB Nq Kq0
    replace Kq1 := keep_cell hB Nq Kq1
    replace Nq := Nat.lt_of_lt_of_le Nq hB.size
    clear hb hB
    go_wp2_with fail
    go_ret
    exact ⟨rfl, HVB.out⟩
end Go.Proofs.Ytpcnapmlmhhcpaa
