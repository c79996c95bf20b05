/-
  The law WordsTell: true of every two words and every number.
  Conditions: the words lie in memory.
-/
import Derived.Test.YtpcnapmlmhhcpaaGj
import Derived.Test.YtpcnapmlmhhcpaaGh
import Derived.Test.YtpcnapmlmhhcpaaGb
import Derived.Test.YtpcnapmlmhhcpaaCe
import Derived.WalkKit
import Derived.WalkSpells
import Derived.WalkLawsBesides
import Derived.Deep.QuietTactic
import Derived.BigQuiet
import Derived.Lib.Hide
import Derived.Handy
import Derived.Deep.CutBlock
set_option linter.unusedVariables false
set_option linter.unusedSimpArgs false
namespace Go.Proofs.Ytpcnapmlmhhcpaa
open Go.RowKit 
open Big
attribute [local go_sem] setCell_drewN alloc_drewN size_ext ext_ext ext_drewN ext_drew drewN_ext drew_ext cell?_ext frozen?_ext setCell_ext cell?_past1 frozen?_past1 setCell_past1 cell?_past2 frozen?_past2 setCell_past2 cell?_past3 frozen?_past3 setCell_past3 cell?_past4 frozen?_past4 setCell_past4 cell?_past5 frozen?_past5 setCell_past5 cell?_past6 frozen?_past6 setCell_past6 cell?_past7 frozen?_past7 setCell_past7 cell?_past8 frozen?_past8 setCell_past8
attribute [local go_sem] min_ab max_ab
theorem norm_yes (w : World) (vh vl : Value) (h l x y : List Int) (h1 : RowAt w vh h) (h2 : RowAt w vl l) (hm : may h l = true) (hx : nH h l = x) (hy : nL h l = y) :
    Calls Try.prog 30 #[.agg #[vh, vl]] w fun e w' => Below w.heap.size w w' ∧ ∃ p1 c1 p2 c2, e = .returned (.tuple #[.agg #[.slice p1 x.length c1, .slice p2 y.length c2], .int .i64 0]) ∧ RowAt w' (.slice p1 x.length c1) x ∧ RowAt w' (.slice p2 y.length c2) y := by
  refine (norm_any w vh vl h l h1 h2).mono ?_
  rintro e w' ⟨hb, v1, v2, rfl, o1, o2, _⟩
  have r1 := o1.row
  have r2 := o2.row
  rw [hx] at r1
  rw [hy] at r2
  rw [(may_norm hm).1]
  obtain ⟨p1, c1, rfl, q1⟩ := id r1
  obtain ⟨p2, c2, rfl, q2⟩ := id r2
  exact ⟨hb, p1, c1, p2, c2, rfl, r1, r2⟩
theorem rmay_is (w : World) (v1 v2 : Value) (a b : List Int) (r : Bool) (h1 : RowAt w v1 a) (h2 : RowAt w v2 b) (hr : may a b = r) : Calls Try.prog 17 #[.agg #[v1, v2]] w fun e w' => e = .returned (.bool r) ∧ Below w.heap.size w w' := by
  subst hr; exact rmay_any w v1 v2 a b h1 h2
theorem wsame_is (w : World) (va vb vc vd : Value) (a b c d : List Int) (r : Bool) (h1 : RowAt w va a) (h2 : RowAt w vb b) (h3 : RowAt w vc c) (h4 : RowAt w vd d) (hr : same a b c d = r) : Calls Try.prog 26 #[.agg #[va, vb], .agg #[vc, vd]] w fun e w' => e = .returned (.bool r) ∧ Below w.heap.size w w' := by
  subst hr; exact same_any w va vb vc vd a b c d h1 h2 h3 h4
set_option maxRecDepth 100000 in
set_option maxHeartbeats 40000000 in
theorem WordsTell_any (w : World) (va1 va2 vb1 vb2 : Value) (a1 a2 b1 b2 : List Int) (n : Int) (hn : n < 9223372036854775808) (h1 : RowAt w va1 a1) (h2 : RowAt w va2 a2) (h3 : RowAt w vb1 b1) (h4 : RowAt w vb2 b2) :
    Calls Try.prog 6 #[.agg #[va1, va2], .agg #[vb1, vb2], .int .i64 n] w fun e w' => e = .returned (.bool true) ∧ Below w.heap.size w w' := by
  have RA1 := Lib.hid h1
  have RA2 := Lib.hid h2
  have RB1 := Lib.hid h3
  have RB2 := Lib.hid h4
  have HN := Lib.hid hn
  obtain ⟨ra, hra⟩ : ∃ r, heavyB a1 a2 = r := ⟨_, rfl⟩
  obtain ⟨rb, hrb⟩ : ∃ r, heavyB b1 b2 = r := ⟨_, rfl⟩
  obtain ⟨ma, hma⟩ : ∃ r, may a1 a2 = r := ⟨_, rfl⟩
  obtain ⟨sm, hsm⟩ : ∃ r, same a1 a2 b1 b2 = r := ⟨_, rfl⟩
  have HRA := Lib.hid hra
  have HRB := Lib.hid hrb
  have HMA := Lib.hid hma
  have HSM := Lib.hid hsm
  obtain ⟨pa, sa, rfl, _⟩ := h1
  obtain ⟨qa, ta, rfl, _⟩ := h2
  obtain ⟨pb, sb, rfl, _⟩ := h3
  obtain ⟨qb, tb, rfl, _⟩ := h4
  rename_i h1 h2 h3 h4
  clear hra hrb hma hsm hn h1 h2 h3 h4
  go_enter Try.func6, Try.ntmps6
  go_wp2_with fail
  refine (heavy_is _ _ _ a1 a2 ra (RA1.out.below (by repeat (first | (with_reducible exact Below.refl _ _) | (with_reducible assumption) | (with_reducible refine below_drewN ?_ _) | (with_reducible refine Below.drew ?_) | (with_reducible refine below_ext_of ?_ (by first | exact Nat.le_refl _ | assumption | (simp only [World.size_alloc, World.size_setCell, size_ext, World.heap_drewN]; omega)) _ _) | (with_reducible refine Below.alloc ?_ (by first | exact Nat.le_refl _ | assumption | (simp only [World.size_alloc, World.size_setCell, size_ext, World.heap_drewN]; omega)) _) | (with_reducible refine Below.setCell ?_ (by first | exact Nat.le_refl _ | assumption | (simp only [World.size_alloc, World.size_setCell, size_ext, World.heap_drewN]; omega)) _)))) (RA2.out.below (by repeat (first | (with_reducible exact Below.refl _ _) | (with_reducible assumption) | (with_reducible refine below_drewN ?_ _) | (with_reducible refine Below.drew ?_) | (with_reducible refine below_ext_of ?_ (by first | exact Nat.le_refl _ | assumption | (simp only [World.size_alloc, World.size_setCell, size_ext, World.heap_drewN]; omega)) _ _) | (with_reducible refine Below.alloc ?_ (by first | exact Nat.le_refl _ | assumption | (simp only [World.size_alloc, World.size_setCell, size_ext, World.heap_drewN]; omega)) _) | (with_reducible refine Below.setCell ?_ (by first | exact Nat.le_refl _ | assumption | (simp only [World.size_alloc, World.size_setCell, size_ext, World.heap_drewN]; omega)) _)))) HRA.out).mono ?_
  rintro e W1 ⟨rfl, hb⟩
  have hB : Below w.heap.size w W1 := Below.trans (by repeat (first | (with_reducible exact Below.refl _ _) | (with_reducible assumption) | (with_reducible refine below_drewN ?_ _) | (with_reducible refine Below.drew ?_) | (with_reducible refine below_ext_of ?_ (by first | exact Nat.le_refl _ | assumption | (simp only [World.size_alloc, World.size_setCell, size_ext, World.heap_drewN]; omega)) _ _) | (with_reducible refine Below.alloc ?_ (by first | exact Nat.le_refl _ | assumption | (simp only [World.size_alloc, World.size_setCell, size_ext, World.heap_drewN]; omega)) _) | (with_reducible refine Below.setCell ?_ (by first | exact Nat.le_refl _ | assumption | (simp only [World.size_alloc, World.size_setCell, size_ext, World.heap_drewN]; omega)) _))) (hb.mono (by simp [go_sem] <;> omega))
  replace RA1 := Lib.hid (RA1.out.below hB)
  replace RA2 := Lib.hid (RA2.out.below hB)
  replace RB1 := Lib.hid (RB1.out.below hB)
  replace RB2 := Lib.hid (RB2.out.below hB)
  have HVB := Lib.hid hB
  have Ka0 : W1.cell? ⟨w.heap.size, 0, none⟩ = some (.slice pa a1.length sa) := keep_cell hb (by simp [go_sem] <;> omega) (by simp [go_sem])
  have Ka1 : W1.cell? ⟨w.heap.size, 1, none⟩ = some (.slice qa a2.length ta) := keep_cell hb (by simp [go_sem] <;> omega) (by simp [go_sem])
  have Na : w.heap.size < W1.heap.size := Nat.lt_of_lt_of_le (by simp [go_sem] <;> omega) hb.size
  have Kb0 : W1.cell? ⟨w.heap.size + 1, 0, none⟩ = some (.slice pb b1.length sb) := keep_cell hb (by simp [go_sem] <;> omega) (by simp [go_sem])
  have Kb1 : W1.cell? ⟨w.heap.size + 1, 1, none⟩ = some (.slice qb b2.length tb) := keep_cell hb (by simp [go_sem] <;> omega) (by simp [go_sem])
  have Nb : w.heap.size + 1 < W1.heap.size := Nat.lt_of_lt_of_le (by simp [go_sem] <;> omega) hb.size
  obtain ⟨Bb, hkb⟩ : ∃ b, b = w.heap.size + 1 := ⟨_, rfl⟩
  rw [← hkb] at Kb0 Kb1 Nb ⊢
  clear hkb
  obtain ⟨Ba, hka⟩ : ∃ b, b = w.heap.size := ⟨_, rfl⟩
  rw [← hka] at Ka0 Ka1 Na ⊢
  clear hka
  clear hb hB
  cases ra with
  | true =>
    go_wp2_with fail
    refine (works_any _).mono ?_
    rintro e W2 ⟨rfl, hb⟩
    have hB : Below W1.heap.size W1 W2 := Below.trans (by repeat (first | (with_reducible exact Below.refl _ _) | (with_reducible assumption) | (with_reducible refine below_drewN ?_ _) | (with_reducible refine Below.drew ?_) | (with_reducible refine below_ext_of ?_ (by first | exact Nat.le_refl _ | assumption | (simp only [World.size_alloc, World.size_setCell, size_ext, World.heap_drewN]; omega)) _ _) | (with_reducible refine Below.alloc ?_ (by first | exact Nat.le_refl _ | assumption | (simp only [World.size_alloc, World.size_setCell, size_ext, World.heap_drewN]; omega)) _) | (with_reducible refine Below.setCell ?_ (by first | exact Nat.le_refl _ | assumption | (simp only [World.size_alloc, World.size_setCell, size_ext, World.heap_drewN]; omega)) _))) (hb.mono (by simp [go_sem] <;> omega))
    replace RA1 := Lib.hid (RA1.out.below hB)
    replace RA2 := Lib.hid (RA2.out.below hB)
    replace RB1 := Lib.hid (RB1.out.below hB)
    replace RB2 := Lib.hid (RB2.out.below hB)
    replace HVB := Lib.hid (HVB.out.trans (hB.mono HVB.out.size))
    replace Kb0 := keep_cell hB Nb Kb0
    replace Kb1 := keep_cell hB Nb Kb1
    replace Nb := Nat.lt_of_lt_of_le Nb hB.size
    replace Ka0 := keep_cell hB Na Ka0
    replace Ka1 := keep_cell hB Na Ka1
    replace Na := Nat.lt_of_lt_of_le Na hB.size
    clear hb hB
    go_wp2_with fail
    go_ret
    exact ⟨rfl, HVB.out⟩
  | false =>
    go_wp2_with fail
    refine (heavy_is _ _ _ b1 b2 rb (RB1.out.below (by repeat (first | (with_reducible exact Below.refl _ _) | (with_reducible assumption) | (with_reducible refine below_drewN ?_ _) | (with_reducible refine Below.drew ?_) | (with_reducible refine below_ext_of ?_ (by first | exact Nat.le_refl _ | assumption | (simp only [World.size_alloc, World.size_setCell, size_ext, World.heap_drewN]; omega)) _ _) | (with_reducible refine Below.alloc ?_ (by first | exact Nat.le_refl _ | assumption | (simp only [World.size_alloc, World.size_setCell, size_ext, World.heap_drewN]; omega)) _) | (with_reducible refine Below.setCell ?_ (by first | exact Nat.le_refl _ | assumption | (simp only [World.size_alloc, World.size_setCell, size_ext, World.heap_drewN]; omega)) _)))) (RB2.out.below (by repeat (first | (with_reducible exact Below.refl _ _) | (with_reducible assumption) | (with_reducible refine below_drewN ?_ _) | (with_reducible refine Below.drew ?_) | (with_reducible refine below_ext_of ?_ (by first | exact Nat.le_refl _ | assumption | (simp only [World.size_alloc, World.size_setCell, size_ext, World.heap_drewN]; omega)) _ _) | (with_reducible refine Below.alloc ?_ (by first | exact Nat.le_refl _ | assumption | (simp only [World.size_alloc, World.size_setCell, size_ext, World.heap_drewN]; omega)) _) | (with_reducible refine Below.setCell ?_ (by first | exact Nat.le_refl _ | assumption | (simp only [World.size_alloc, World.size_setCell, size_ext, World.heap_drewN]; omega)) _)))) HRB.out).mono ?_
    rintro e W2 ⟨rfl, hb⟩
    have hB : Below W1.heap.size W1 W2 := Below.trans (by repeat (first | (with_reducible exact Below.refl _ _) | (with_reducible assumption) | (with_reducible refine below_drewN ?_ _) | (with_reducible refine Below.drew ?_) | (with_reducible refine below_ext_of ?_ (by first | exact Nat.le_refl _ | assumption | (simp only [World.size_alloc, World.size_setCell, size_ext, World.heap_drewN]; omega)) _ _) | (with_reducible refine Below.alloc ?_ (by first | exact Nat.le_refl _ | assumption | (simp only [World.size_alloc, World.size_setCell, size_ext, World.heap_drewN]; omega)) _) | (with_reducible refine Below.setCell ?_ (by first | exact Nat.le_refl _ | assumption | (simp only [World.size_alloc, World.size_setCell, size_ext, World.heap_drewN]; omega)) _))) (hb.mono (by simp [go_sem] <;> omega))
    replace RA1 := Lib.hid (RA1.out.below hB)
    replace RA2 := Lib.hid (RA2.out.below hB)
    replace RB1 := Lib.hid (RB1.out.below hB)
    replace RB2 := Lib.hid (RB2.out.below hB)
    replace HVB := Lib.hid (HVB.out.trans (hB.mono HVB.out.size))
    replace Kb0 := keep_cell hB Nb Kb0
    replace Kb1 := keep_cell hB Nb Kb1
    replace Nb := Nat.lt_of_lt_of_le Nb hB.size
    replace Ka0 := keep_cell hB Na Ka0
    replace Ka1 := keep_cell hB Na Ka1
    replace Na := Nat.lt_of_lt_of_le Na hB.size
    clear hb hB
    cases rb with
    | true =>
      go_wp2_with fail
      refine (works_any _).mono ?_
      rintro e W3 ⟨rfl, hb⟩
      have hB : Below W2.heap.size W2 W3 := Below.trans (by repeat (first | (with_reducible exact Below.refl _ _) | (with_reducible assumption) | (with_reducible refine below_drewN ?_ _) | (with_reducible refine Below.drew ?_) | (with_reducible refine below_ext_of ?_ (by first | exact Nat.le_refl _ | assumption | (simp only [World.size_alloc, World.size_setCell, size_ext, World.heap_drewN]; omega)) _ _) | (with_reducible refine Below.alloc ?_ (by first | exact Nat.le_refl _ | assumption | (simp only [World.size_alloc, World.size_setCell, size_ext, World.heap_drewN]; omega)) _) | (with_reducible refine Below.setCell ?_ (by first | exact Nat.le_refl _ | assumption | (simp only [World.size_alloc, World.size_setCell, size_ext, World.heap_drewN]; omega)) _))) (hb.mono (by simp [go_sem] <;> omega))
      replace RA1 := Lib.hid (RA1.out.below hB)
      replace RA2 := Lib.hid (RA2.out.below hB)
      replace RB1 := Lib.hid (RB1.out.below hB)
      replace RB2 := Lib.hid (RB2.out.below hB)
      replace HVB := Lib.hid (HVB.out.trans (hB.mono HVB.out.size))
      replace Kb0 := keep_cell hB Nb Kb0
      replace Kb1 := keep_cell hB Nb Kb1
      replace Nb := Nat.lt_of_lt_of_le Nb hB.size
      replace Ka0 := keep_cell hB Na Ka0
      replace Ka1 := keep_cell hB Na Ka1
      replace Na := Nat.lt_of_lt_of_le Na hB.size
      clear hb hB
      go_wp2_with fail
      go_ret
      exact ⟨rfl, HVB.out⟩
    | false =>
      have HLA := Lib.hid (not_heavy HRA.out)
      have HLB := Lib.hid (not_heavy HRB.out)
      go_wp2_with fail
      refine (copied_call _ _ _ a1 a2 (RA1.out.below (by repeat (first | (with_reducible exact Below.refl _ _) | (with_reducible assumption) | (with_reducible refine below_drewN ?_ _) | (with_reducible refine Below.drew ?_) | (with_reducible refine below_ext_of ?_ (by first | exact Nat.le_refl _ | assumption | (simp only [World.size_alloc, World.size_setCell, size_ext, World.heap_drewN]; omega)) _ _) | (with_reducible refine Below.alloc ?_ (by first | exact Nat.le_refl _ | assumption | (simp only [World.size_alloc, World.size_setCell, size_ext, World.heap_drewN]; omega)) _) | (with_reducible refine Below.setCell ?_ (by first | exact Nat.le_refl _ | assumption | (simp only [World.size_alloc, World.size_setCell, size_ext, World.heap_drewN]; omega)) _)))) (RA2.out.below (by repeat (first | (with_reducible exact Below.refl _ _) | (with_reducible assumption) | (with_reducible refine below_drewN ?_ _) | (with_reducible refine Below.drew ?_) | (with_reducible refine below_ext_of ?_ (by first | exact Nat.le_refl _ | assumption | (simp only [World.size_alloc, World.size_setCell, size_ext, World.heap_drewN]; omega)) _ _) | (with_reducible refine Below.alloc ?_ (by first | exact Nat.le_refl _ | assumption | (simp only [World.size_alloc, World.size_setCell, size_ext, World.heap_drewN]; omega)) _) | (with_reducible refine Below.setCell ?_ (by first | exact Nat.le_refl _ | assumption | (simp only [World.size_alloc, World.size_setCell, size_ext, World.heap_drewN]; omega)) _)))) (Nat.le_trans HLA.out.1 (by decide)) (Nat.le_trans HLA.out.2 (by decide))).mono ?_
      rintro e W3 ⟨hb, px, sx, qx, tx, rfl, r1, r2⟩
      have hB : Below W2.heap.size W2 W3 := Below.trans (by repeat (first | (with_reducible exact Below.refl _ _) | (with_reducible assumption) | (with_reducible refine below_drewN ?_ _) | (with_reducible refine Below.drew ?_) | (with_reducible refine below_ext_of ?_ (by first | exact Nat.le_refl _ | assumption | (simp only [World.size_alloc, World.size_setCell, size_ext, World.heap_drewN]; omega)) _ _) | (with_reducible refine Below.alloc ?_ (by first | exact Nat.le_refl _ | assumption | (simp only [World.size_alloc, World.size_setCell, size_ext, World.heap_drewN]; omega)) _) | (with_reducible refine Below.setCell ?_ (by first | exact Nat.le_refl _ | assumption | (simp only [World.size_alloc, World.size_setCell, size_ext, World.heap_drewN]; omega)) _))) (hb.mono (by simp [go_sem] <;> omega))
      replace RA1 := Lib.hid (RA1.out.below hB)
      replace RA2 := Lib.hid (RA2.out.below hB)
      replace RB1 := Lib.hid (RB1.out.below hB)
      replace RB2 := Lib.hid (RB2.out.below hB)
      replace HVB := Lib.hid (HVB.out.trans (hB.mono HVB.out.size))
      replace Kb0 := keep_cell hB Nb Kb0
      replace Kb1 := keep_cell hB Nb Kb1
      replace Nb := Nat.lt_of_lt_of_le Nb hB.size
      replace Ka0 := keep_cell hB Na Ka0
      replace Ka1 := keep_cell hB Na Ka1
      replace Na := Nat.lt_of_lt_of_le Na hB.size
      have RX1 := Lib.hid r1
      have RX2 := Lib.hid r2
      clear r1 r2
      clear hb hB
      go_upto_region 4 with (fail)
      obtain ⟨V1, hV1⟩ : ∃ V, V = (W3).alloc (.cells #[.slice px a1.length sx, .slice qx a2.length tx] 24) := ⟨_, rfl⟩
      rw [← hV1]
      have hB : Below W3.heap.size W3 V1 := by rw [hV1]; repeat (first | (with_reducible exact Below.refl _ _) | (with_reducible assumption) | (with_reducible refine below_drewN ?_ _) | (with_reducible refine Below.drew ?_) | (with_reducible refine below_ext_of ?_ (by first | exact Nat.le_refl _ | assumption | (simp only [World.size_alloc, World.size_setCell, size_ext, World.heap_drewN]; omega)) _ _) | (with_reducible refine Below.alloc ?_ (by first | exact Nat.le_refl _ | assumption | (simp only [World.size_alloc, World.size_setCell, size_ext, World.heap_drewN]; omega)) _) | (with_reducible refine Below.setCell ?_ (by first | exact Nat.le_refl _ | assumption | (simp only [World.size_alloc, World.size_setCell, size_ext, World.heap_drewN]; omega)) _))
      replace RA1 := Lib.hid (RA1.out.below hB)
      replace RA2 := Lib.hid (RA2.out.below hB)
      replace RB1 := Lib.hid (RB1.out.below hB)
      replace RB2 := Lib.hid (RB2.out.below hB)
      replace RX1 := Lib.hid (RX1.out.below hB)
      replace RX2 := Lib.hid (RX2.out.below hB)
      replace HVB := Lib.hid (HVB.out.trans (hB.mono HVB.out.size))
      replace Kb0 := keep_cell hB Nb Kb0
      replace Kb1 := keep_cell hB Nb Kb1
      replace Nb := Nat.lt_of_lt_of_le Nb hB.size
      replace Ka0 := keep_cell hB Na Ka0
      replace Ka1 := keep_cell hB Na Ka1
      replace Na := Nat.lt_of_lt_of_le Na hB.size
      have Kx0 : V1.cell? ⟨W3.heap.size, 0, none⟩ = some (.slice px a1.length sx) := by rw [hV1]; simp [go_sem]
      have Kx1 : V1.cell? ⟨W3.heap.size, 1, none⟩ = some (.slice qx a2.length tx) := by rw [hV1]; simp [go_sem]
      have Nx : W3.heap.size < V1.heap.size := by rw [hV1]; simp [go_sem] <;> omega
      obtain ⟨Bx, hkx⟩ : ∃ b, b = W3.heap.size := ⟨_, rfl⟩
      rw [← hkx] at Kx0 Kx1 Nx ⊢
      clear hkx
      clear hB hV1
      go_cut [40] (fun sl wc => sl = .bool false ∧ ∃ W9, W9 = wc ∧ Below V1.heap.size V1 W9)
      case first =>
        have HBR := Lib.hid (Below.refl V1.heap.size V1)
        refine wp_region_held_drew (S := (fun W' => W'.cell? ⟨Bx, 0, none⟩ = some (.slice px a1.length sx) ∧ W'.cell? ⟨Bx, 1, none⟩ = some (.slice qx a2.length tx) ∧ W'.cell? ⟨Ba, 0, none⟩ = some (.slice pa a1.length sa) ∧ W'.cell? ⟨Ba, 1, none⟩ = some (.slice qa a2.length ta) ∧ W'.cell? ⟨Bb, 0, none⟩ = some (.slice pb b1.length sb) ∧ W'.cell? ⟨Bb, 1, none⟩ = some (.slice qb b2.length tb))) (by kernel_rfl) ?hS1 (fun hHeld => ?go1)
        case hS1 =>
          (try dsimp only)
          try go_simp
        case go1 =>
        refine' wpAnyH_take (i := 0) (oi := ⟨_, _, _, _, _, _⟩) (v := ?v2) rfl (by kernel_rfl) (by kernel_rfl) (by kernel_rfl) (fun _ _ _ h => h) (Or.inl ⟨by rfl, ?hy2⟩) (by assumption) ?rest2
        case hy2 =>
          intro w hSw
          (try dsimp only at hSw)
          go_simp
          try (with_reducible rfl)
        case rest2 =>
        (try simp only [Act.put, List.setIfInBounds_toArray, List.set_cons_zero, List.set_cons_succ])
        refine' wpAnyH_take (i := 2) (oi := ⟨_, _, _, _, _, _⟩) (v := ?v3) rfl (by kernel_rfl) (by kernel_rfl) (by kernel_rfl) (fun _ _ _ h => h) (Or.inl ⟨by rfl, ?hy3⟩) (by assumption) ?rest3
        case hy3 =>
          intro w hSw
          (try dsimp only at hSw)
          go_simp
          try (with_reducible rfl)
        case rest3 =>
        (try simp only [Act.put, List.setIfInBounds_toArray, List.set_cons_zero, List.set_cons_succ])
        refine wpAnyH_ready (rs := [1]) (by kernel_rfl) (by simp) ?_
        refine AllReadyH.cons (o := ⟨_, _, _, _, _, _⟩) rfl (fun K hK => ?_) AllReadyH.nil
        go_simp
        (go_at_call 24; refine (may_is _ _ _ a1 a2 ma (RX1.out.below (by repeat (first | (with_reducible exact Below.refl _ _) | (with_reducible assumption) | (with_reducible refine below_drewN ?_ _) | (with_reducible refine Below.drew ?_) | (with_reducible refine below_ext_of ?_ (by first | exact Nat.le_refl _ | assumption | (simp only [World.size_alloc, World.size_setCell, size_ext, World.heap_drewN]; omega)) _ _) | (with_reducible refine Below.alloc ?_ (by first | exact Nat.le_refl _ | assumption | (simp only [World.size_alloc, World.size_setCell, size_ext, World.heap_drewN]; omega)) _) | (with_reducible refine Below.setCell ?_ (by first | exact Nat.le_refl _ | assumption | (simp only [World.size_alloc, World.size_setCell, size_ext, World.heap_drewN]; omega)) _)))) (RX2.out.below (by repeat (first | (with_reducible exact Below.refl _ _) | (with_reducible assumption) | (with_reducible refine below_drewN ?_ _) | (with_reducible refine Below.drew ?_) | (with_reducible refine below_ext_of ?_ (by first | exact Nat.le_refl _ | assumption | (simp only [World.size_alloc, World.size_setCell, size_ext, World.heap_drewN]; omega)) _ _) | (with_reducible refine Below.alloc ?_ (by first | exact Nat.le_refl _ | assumption | (simp only [World.size_alloc, World.size_setCell, size_ext, World.heap_drewN]; omega)) _) | (with_reducible refine Below.setCell ?_ (by first | exact Nat.le_refl _ | assumption | (simp only [World.size_alloc, World.size_setCell, size_ext, World.heap_drewN]; omega)) _)))) HMA.out).mono ?_; rintro e wx ⟨rfl, hbx⟩; obtain ⟨Xx, dx, rfl⟩ := below_ext hbx; clear hbx; go_simp)
        refine hK.out _ _ ?hS4 (fun hHeld2 => ?go4)
        case hS4 =>
          (try dsimp only)
          try go_simp
        case go4 =>
        clear hK K
        clear hHeld
        have hHeld := hHeld2
        clear hHeld2
        (try simp only [Act.put, List.setIfInBounds_toArray, List.set_cons_zero, List.set_cons_succ])
        refine wpAnyH_ready (rs := [3]) (by kernel_rfl) (by simp) ?_
        refine AllReadyH.cons (o := ⟨_, _, _, _, _, _⟩) rfl (fun K hK => ?_) AllReadyH.nil
        go_simp
        (go_at_call 17; refine (rmay_is _ _ _ a1 a2 ma (RA1.out.below (by repeat (first | (with_reducible exact Below.refl _ _) | (with_reducible assumption) | (with_reducible refine below_drewN ?_ _) | (with_reducible refine Below.drew ?_) | (with_reducible refine below_ext_of ?_ (by first | exact Nat.le_refl _ | assumption | (simp only [World.size_alloc, World.size_setCell, size_ext, World.heap_drewN]; omega)) _ _) | (with_reducible refine Below.alloc ?_ (by first | exact Nat.le_refl _ | assumption | (simp only [World.size_alloc, World.size_setCell, size_ext, World.heap_drewN]; omega)) _) | (with_reducible refine Below.setCell ?_ (by first | exact Nat.le_refl _ | assumption | (simp only [World.size_alloc, World.size_setCell, size_ext, World.heap_drewN]; omega)) _)))) (RA2.out.below (by repeat (first | (with_reducible exact Below.refl _ _) | (with_reducible assumption) | (with_reducible refine below_drewN ?_ _) | (with_reducible refine Below.drew ?_) | (with_reducible refine below_ext_of ?_ (by first | exact Nat.le_refl _ | assumption | (simp only [World.size_alloc, World.size_setCell, size_ext, World.heap_drewN]; omega)) _ _) | (with_reducible refine Below.alloc ?_ (by first | exact Nat.le_refl _ | assumption | (simp only [World.size_alloc, World.size_setCell, size_ext, World.heap_drewN]; omega)) _) | (with_reducible refine Below.setCell ?_ (by first | exact Nat.le_refl _ | assumption | (simp only [World.size_alloc, World.size_setCell, size_ext, World.heap_drewN]; omega)) _)))) HMA.out).mono ?_; rintro e wx ⟨rfl, hbx⟩; obtain ⟨Xx, dx, rfl⟩ := below_ext hbx; clear hbx; go_simp)
        refine hK.out _ _ ?hS5 (fun hHeld2 => ?go5)
        case hS5 =>
          (try dsimp only)
          try go_simp
        case go5 =>
        clear hK K
        clear hHeld
        have hHeld := hHeld2
        clear hHeld2
        (try simp only [Act.put, List.setIfInBounds_toArray, List.set_cons_zero, List.set_cons_succ])
        refine' wpAnyH_take (i := 4) (oi := ⟨_, _, _, _, _, _⟩) (v := ?v6) rfl (by kernel_rfl) (by kernel_rfl) (by kernel_rfl) (fun _ _ _ h => h) (Or.inl ⟨by rfl, ?hy6⟩) (by assumption) ?rest6
        case hy6 =>
          intro w hSw
          (try dsimp only at hSw)
          go_simp
          try (with_reducible rfl)
        case rest6 =>
        (try simp only [Act.put, List.setIfInBounds_toArray, List.set_cons_zero, List.set_cons_succ])
        refine' wpAnyH_take (i := 5) (oi := ⟨_, _, _, _, _, _⟩) (v := ?v7) rfl (by kernel_rfl) (by kernel_rfl) (by kernel_rfl) (fun _ _ _ h => h) (Or.inl ⟨by rfl, ?hy7⟩) (by assumption) ?rest7
        case hy7 =>
          intro w hSw
          (try dsimp only at hSw)
          go_simp
          try (with_reducible rfl)
        case rest7 =>
        (try simp only [Act.put, List.setIfInBounds_toArray, List.set_cons_zero, List.set_cons_succ])
        refine' wpAnyH_take (i := 6) (oi := ⟨_, _, _, _, _, _⟩) (v := ?v8) rfl (by kernel_rfl) (by kernel_rfl) (by kernel_rfl) (fun _ _ _ h => h) (Or.inl ⟨by rfl, ?hy8⟩) (by assumption) ?rest8
        case hy8 =>
          intro w hSw
          (try dsimp only at hSw)
          go_simp
          try (with_reducible rfl)
        case rest8 =>
        (try simp only [Act.put, List.setIfInBounds_toArray, List.set_cons_zero, List.set_cons_succ])
        refine' wpAnyH_take (i := 7) (oi := ⟨_, _, _, _, _, _⟩) (v := ?v9) rfl (by kernel_rfl) (by kernel_rfl) (by kernel_rfl) (fun _ _ _ h => h) (Or.inl ⟨by rfl, ?hy9⟩) (by assumption) ?rest9
        case hy9 =>
          intro w hSw
          (try dsimp only at hSw)
          go_simp
          try (with_reducible rfl)
        case rest9 =>
        (try simp only [Act.put, List.setIfInBounds_toArray, List.set_cons_zero, List.set_cons_succ])
        refine' wpAnyH_take (i := 10) (oi := ⟨_, _, _, _, _, _⟩) (v := ?v10) rfl (by kernel_rfl) (by kernel_rfl) (by kernel_rfl) (fun _ _ _ h => h) (Or.inl ⟨by rfl, ?hy10⟩) (by assumption) ?rest10
        case hy10 =>
          intro w hSw
          (try dsimp only at hSw)
          go_simp
          try (with_reducible rfl)
        case rest10 =>
        (try simp only [Act.put, List.setIfInBounds_toArray, List.set_cons_zero, List.set_cons_succ])
        refine' wpAnyH_take (i := 11) (oi := ⟨_, _, _, _, _, _⟩) (v := ?v11) rfl (by kernel_rfl) (by kernel_rfl) (by kernel_rfl) (fun _ _ _ h => h) (Or.inl ⟨by rfl, ?hy11⟩) (by assumption) ?rest11
        case hy11 =>
          intro w hSw
          (try dsimp only at hSw)
          go_simp
          try (with_reducible rfl)
        case rest11 =>
        (try simp only [Act.put, List.setIfInBounds_toArray, List.set_cons_zero, List.set_cons_succ])
        refine wpAnyH_ready (rs := [8]) (by kernel_rfl) (by simp) ?_
        refine AllReadyH.cons (o := ⟨_, _, _, _, _, _⟩) rfl (fun K hK => ?_) AllReadyH.nil
        go_simp
        (go_at_call 12; refine (copied_call _ _ _ b1 b2 (RB1.out.below (by repeat (first | (with_reducible exact Below.refl _ _) | (with_reducible assumption) | (with_reducible refine below_drewN ?_ _) | (with_reducible refine Below.drew ?_) | (with_reducible refine below_ext_of ?_ (by first | exact Nat.le_refl _ | assumption | (simp only [World.size_alloc, World.size_setCell, size_ext, World.heap_drewN]; omega)) _ _) | (with_reducible refine Below.alloc ?_ (by first | exact Nat.le_refl _ | assumption | (simp only [World.size_alloc, World.size_setCell, size_ext, World.heap_drewN]; omega)) _) | (with_reducible refine Below.setCell ?_ (by first | exact Nat.le_refl _ | assumption | (simp only [World.size_alloc, World.size_setCell, size_ext, World.heap_drewN]; omega)) _)))) (RB2.out.below (by repeat (first | (with_reducible exact Below.refl _ _) | (with_reducible assumption) | (with_reducible refine below_drewN ?_ _) | (with_reducible refine Below.drew ?_) | (with_reducible refine below_ext_of ?_ (by first | exact Nat.le_refl _ | assumption | (simp only [World.size_alloc, World.size_setCell, size_ext, World.heap_drewN]; omega)) _ _) | (with_reducible refine Below.alloc ?_ (by first | exact Nat.le_refl _ | assumption | (simp only [World.size_alloc, World.size_setCell, size_ext, World.heap_drewN]; omega)) _) | (with_reducible refine Below.setCell ?_ (by first | exact Nat.le_refl _ | assumption | (simp only [World.size_alloc, World.size_setCell, size_ext, World.heap_drewN]; omega)) _)))) (Nat.le_trans HLB.out.1 (by decide)) (Nat.le_trans HLB.out.2 (by decide))).mono ?_; rintro e wx ⟨hbx, pv, sv, qv, tv, rfl, r1, r2⟩; obtain ⟨Xx, dx, rfl⟩ := below_ext hbx; clear hbx; (try simp only [ext_ext, ext_drew, ext_drewN, drew_ext, drewN_ext, Array.append_assoc] at r1 r2); have RV1 := Lib.hid r1; have RV2 := Lib.hid r2; clear r1 r2; go_simp)
        refine hK.out _ _ ?hS12 (fun hHeld2 => ?go12)
        case hS12 =>
          (try dsimp only)
          try go_simp
        case go12 =>
        clear hK K
        clear hHeld
        have hHeld := hHeld2
        clear hHeld2
        (try simp only [Act.put, List.setIfInBounds_toArray, List.set_cons_zero, List.set_cons_succ])
        refine wpAnyH_ready (rs := [9]) (by kernel_rfl) (by simp) ?_
        refine AllReadyH.cons (o := ⟨_, _, _, _, _, _⟩) rfl (fun K hK => ?_) AllReadyH.nil
        go_simp
        (go_at_call 26; refine (wsame_is _ _ _ _ _ a1 a2 b1 b2 sm (RX1.out.below (by repeat (first | (with_reducible exact Below.refl _ _) | (with_reducible assumption) | (with_reducible refine below_drewN ?_ _) | (with_reducible refine Below.drew ?_) | (with_reducible refine below_ext_of ?_ (by first | exact Nat.le_refl _ | assumption | (simp only [World.size_alloc, World.size_setCell, size_ext, World.heap_drewN]; omega)) _ _) | (with_reducible refine Below.alloc ?_ (by first | exact Nat.le_refl _ | assumption | (simp only [World.size_alloc, World.size_setCell, size_ext, World.heap_drewN]; omega)) _) | (with_reducible refine Below.setCell ?_ (by first | exact Nat.le_refl _ | assumption | (simp only [World.size_alloc, World.size_setCell, size_ext, World.heap_drewN]; omega)) _)))) (RX2.out.below (by repeat (first | (with_reducible exact Below.refl _ _) | (with_reducible assumption) | (with_reducible refine below_drewN ?_ _) | (with_reducible refine Below.drew ?_) | (with_reducible refine below_ext_of ?_ (by first | exact Nat.le_refl _ | assumption | (simp only [World.size_alloc, World.size_setCell, size_ext, World.heap_drewN]; omega)) _ _) | (with_reducible refine Below.alloc ?_ (by first | exact Nat.le_refl _ | assumption | (simp only [World.size_alloc, World.size_setCell, size_ext, World.heap_drewN]; omega)) _) | (with_reducible refine Below.setCell ?_ (by first | exact Nat.le_refl _ | assumption | (simp only [World.size_alloc, World.size_setCell, size_ext, World.heap_drewN]; omega)) _)))) (RV1.out.below (by repeat (first | (with_reducible exact Below.refl _ _) | (with_reducible assumption) | (with_reducible refine below_drewN ?_ _) | (with_reducible refine Below.drew ?_) | (with_reducible refine below_ext_of ?_ (by first | exact Nat.le_refl _ | assumption | (simp only [World.size_alloc, World.size_setCell, size_ext, World.heap_drewN]; omega)) _ _) | (with_reducible refine Below.alloc ?_ (by first | exact Nat.le_refl _ | assumption | (simp only [World.size_alloc, World.size_setCell, size_ext, World.heap_drewN]; omega)) _) | (with_reducible refine Below.setCell ?_ (by first | exact Nat.le_refl _ | assumption | (simp only [World.size_alloc, World.size_setCell, size_ext, World.heap_drewN]; omega)) _)))) (RV2.out.below (by repeat (first | (with_reducible exact Below.refl _ _) | (with_reducible assumption) | (with_reducible refine below_drewN ?_ _) | (with_reducible refine Below.drew ?_) | (with_reducible refine below_ext_of ?_ (by first | exact Nat.le_refl _ | assumption | (simp only [World.size_alloc, World.size_setCell, size_ext, World.heap_drewN]; omega)) _ _) | (with_reducible refine Below.alloc ?_ (by first | exact Nat.le_refl _ | assumption | (simp only [World.size_alloc, World.size_setCell, size_ext, World.heap_drewN]; omega)) _) | (with_reducible refine Below.setCell ?_ (by first | exact Nat.le_refl _ | assumption | (simp only [World.size_alloc, World.size_setCell, size_ext, World.heap_drewN]; omega)) _)))) HSM.out).mono ?_; rintro e wx ⟨rfl, hbx⟩; obtain ⟨Xx, dx, rfl⟩ := below_ext hbx; clear hbx; go_simp)
        refine hK.out _ _ ?hS13 (fun hHeld2 => ?go13)
        case hS13 =>
          (try dsimp only)
          try go_simp
        case go13 =>
        clear hK K
        clear hHeld
        have hHeld := hHeld2
        clear hHeld2
        (try simp only [Act.put, List.setIfInBounds_toArray, List.set_cons_zero, List.set_cons_succ])
        refine wpAnyH_ready (rs := [12]) (by kernel_rfl) (by simp) ?_
        refine AllReadyH.cons (o := ⟨_, _, _, _, _, _⟩) rfl (fun K hK => ?_) AllReadyH.nil
        go_simp
        (go_at_call 28; refine (rsame_call _ _ _ _ _ a1 a2 b1 b2 sm (RA1.out.below (by repeat (first | (with_reducible exact Below.refl _ _) | (with_reducible assumption) | (with_reducible refine below_drewN ?_ _) | (with_reducible refine Below.drew ?_) | (with_reducible refine below_ext_of ?_ (by first | exact Nat.le_refl _ | assumption | (simp only [World.size_alloc, World.size_setCell, size_ext, World.heap_drewN]; omega)) _ _) | (with_reducible refine Below.alloc ?_ (by first | exact Nat.le_refl _ | assumption | (simp only [World.size_alloc, World.size_setCell, size_ext, World.heap_drewN]; omega)) _) | (with_reducible refine Below.setCell ?_ (by first | exact Nat.le_refl _ | assumption | (simp only [World.size_alloc, World.size_setCell, size_ext, World.heap_drewN]; omega)) _)))) (RA2.out.below (by repeat (first | (with_reducible exact Below.refl _ _) | (with_reducible assumption) | (with_reducible refine below_drewN ?_ _) | (with_reducible refine Below.drew ?_) | (with_reducible refine below_ext_of ?_ (by first | exact Nat.le_refl _ | assumption | (simp only [World.size_alloc, World.size_setCell, size_ext, World.heap_drewN]; omega)) _ _) | (with_reducible refine Below.alloc ?_ (by first | exact Nat.le_refl _ | assumption | (simp only [World.size_alloc, World.size_setCell, size_ext, World.heap_drewN]; omega)) _) | (with_reducible refine Below.setCell ?_ (by first | exact Nat.le_refl _ | assumption | (simp only [World.size_alloc, World.size_setCell, size_ext, World.heap_drewN]; omega)) _)))) (RB1.out.below (by repeat (first | (with_reducible exact Below.refl _ _) | (with_reducible assumption) | (with_reducible refine below_drewN ?_ _) | (with_reducible refine Below.drew ?_) | (with_reducible refine below_ext_of ?_ (by first | exact Nat.le_refl _ | assumption | (simp only [World.size_alloc, World.size_setCell, size_ext, World.heap_drewN]; omega)) _ _) | (with_reducible refine Below.alloc ?_ (by first | exact Nat.le_refl _ | assumption | (simp only [World.size_alloc, World.size_setCell, size_ext, World.heap_drewN]; omega)) _) | (with_reducible refine Below.setCell ?_ (by first | exact Nat.le_refl _ | assumption | (simp only [World.size_alloc, World.size_setCell, size_ext, World.heap_drewN]; omega)) _)))) (RB2.out.below (by repeat (first | (with_reducible exact Below.refl _ _) | (with_reducible assumption) | (with_reducible refine below_drewN ?_ _) | (with_reducible refine Below.drew ?_) | (with_reducible refine below_ext_of ?_ (by first | exact Nat.le_refl _ | assumption | (simp only [World.size_alloc, World.size_setCell, size_ext, World.heap_drewN]; omega)) _ _) | (with_reducible refine Below.alloc ?_ (by first | exact Nat.le_refl _ | assumption | (simp only [World.size_alloc, World.size_setCell, size_ext, World.heap_drewN]; omega)) _) | (with_reducible refine Below.setCell ?_ (by first | exact Nat.le_refl _ | assumption | (simp only [World.size_alloc, World.size_setCell, size_ext, World.heap_drewN]; omega)) _)))) HSM.out).mono ?_; rintro e wx ⟨rfl, hbx⟩; obtain ⟨Xx, dx, rfl⟩ := below_ext hbx; clear hbx; go_simp)
        refine hK.out _ _ ?hS14 (fun hHeld2 => ?go14)
        case hS14 =>
          (try dsimp only)
          try go_simp
        case go14 =>
        clear hK K
        clear hHeld
        have hHeld := hHeld2
        clear hHeld2
        (try simp only [Act.put, List.setIfInBounds_toArray, List.set_cons_zero, List.set_cons_succ])
        refine' wpAnyH_take (i := 13) (oi := ⟨_, _, _, _, _, _⟩) (v := ?v15) rfl (by kernel_rfl) (by kernel_rfl) (by kernel_rfl) (fun _ _ _ h => h) (Or.inl ⟨by rfl, ?hy15⟩) (by assumption) ?rest15
        case hy15 =>
          intro w hSw
          (try dsimp only at hSw)
          go_simp
          try (with_reducible rfl)
        case rest15 =>
        (try simp only [Act.put, List.setIfInBounds_toArray, List.set_cons_zero, List.set_cons_succ])
        refine' wpAnyH_take (i := 14) (oi := ⟨_, _, _, _, _, _⟩) (v := ?v16) rfl (by kernel_rfl) (by kernel_rfl) (by kernel_rfl) (fun _ _ _ h => h) (Or.inl ⟨by rfl, ?hy16⟩) (by assumption) ?rest16
        case hy16 =>
          intro w hSw
          (try dsimp only at hSw)
          go_simp
          try (with_reducible rfl)
        case rest16 =>
        (try simp only [Act.put, List.setIfInBounds_toArray, List.set_cons_zero, List.set_cons_succ])
        refine wpAnyH_done (by kernel_rfl) ?_ _
        go_wp2_with fail
        go_meet
        case rel => exact ⟨rfl, _, rfl, HBR.out.trans (Below.mono (by repeat (first | (with_reducible exact Below.refl _ _) | (with_reducible assumption) | (with_reducible refine below_drewN ?_ _) | (with_reducible refine Below.drew ?_) | (with_reducible refine below_ext_of ?_ (by first | exact Nat.le_refl _ | assumption | (simp only [World.size_alloc, World.size_setCell, size_ext, World.heap_drewN]; omega)) _ _) | (with_reducible refine Below.alloc ?_ (by first | exact Nat.le_refl _ | assumption | (simp only [World.size_alloc, World.size_setCell, size_ext, World.heap_drewN]; omega)) _) | (with_reducible refine Below.setCell ?_ (by first | exact Nat.le_refl _ | assumption | (simp only [World.size_alloc, World.size_setCell, size_ext, World.heap_drewN]; omega)) _))) HBR.out.size)⟩
      case rest =>
      obtain ⟨rfl, V2, rfl, hB⟩ := hcut
      replace RA1 := Lib.hid (RA1.out.below hB)
      replace RA2 := Lib.hid (RA2.out.below hB)
      replace RB1 := Lib.hid (RB1.out.below hB)
      replace RB2 := Lib.hid (RB2.out.below hB)
      replace RX1 := Lib.hid (RX1.out.below hB)
      replace RX2 := Lib.hid (RX2.out.below hB)
      replace HVB := Lib.hid (HVB.out.trans (hB.mono HVB.out.size))
      replace Kb0 := keep_cell hB Nb Kb0
      replace Kb1 := keep_cell hB Nb Kb1
      replace Nb := Nat.lt_of_lt_of_le Nb hB.size
      replace Ka0 := keep_cell hB Na Ka0
      replace Ka1 := keep_cell hB Na Ka1
      replace Na := Nat.lt_of_lt_of_le Na hB.size
      replace Kx0 := keep_cell hB Nx Kx0
      replace Kx1 := keep_cell hB Nx Kx1
      replace Nx := Nat.lt_of_lt_of_le Nx hB.size
      clear hB
      cases ma with
      | false =>
        go_wp2_with fail
        refine (At_no _ _ _ a1 a2 n (RX1.out.below (by repeat (first | (with_reducible exact Below.refl _ _) | (with_reducible assumption) | (with_reducible refine below_drewN ?_ _) | (with_reducible refine Below.drew ?_) | (with_reducible refine below_ext_of ?_ (by first | exact Nat.le_refl _ | assumption | (simp only [World.size_alloc, World.size_setCell, size_ext, World.heap_drewN]; omega)) _ _) | (with_reducible refine Below.alloc ?_ (by first | exact Nat.le_refl _ | assumption | (simp only [World.size_alloc, World.size_setCell, size_ext, World.heap_drewN]; omega)) _) | (with_reducible refine Below.setCell ?_ (by first | exact Nat.le_refl _ | assumption | (simp only [World.size_alloc, World.size_setCell, size_ext, World.heap_drewN]; omega)) _)))) (RX2.out.below (by repeat (first | (with_reducible exact Below.refl _ _) | (with_reducible assumption) | (with_reducible refine below_drewN ?_ _) | (with_reducible refine Below.drew ?_) | (with_reducible refine below_ext_of ?_ (by first | exact Nat.le_refl _ | assumption | (simp only [World.size_alloc, World.size_setCell, size_ext, World.heap_drewN]; omega)) _ _) | (with_reducible refine Below.alloc ?_ (by first | exact Nat.le_refl _ | assumption | (simp only [World.size_alloc, World.size_setCell, size_ext, World.heap_drewN]; omega)) _) | (with_reducible refine Below.setCell ?_ (by first | exact Nat.le_refl _ | assumption | (simp only [World.size_alloc, World.size_setCell, size_ext, World.heap_drewN]; omega)) _)))) (Or.inl HMA.out)).mono ?_
        rintro e W4 ⟨rfl, hb⟩
        have hB : Below V2.heap.size V2 W4 := Below.trans (by repeat (first | (with_reducible exact Below.refl _ _) | (with_reducible assumption) | (with_reducible refine below_drewN ?_ _) | (with_reducible refine Below.drew ?_) | (with_reducible refine below_ext_of ?_ (by first | exact Nat.le_refl _ | assumption | (simp only [World.size_alloc, World.size_setCell, size_ext, World.heap_drewN]; omega)) _ _) | (with_reducible refine Below.alloc ?_ (by first | exact Nat.le_refl _ | assumption | (simp only [World.size_alloc, World.size_setCell, size_ext, World.heap_drewN]; omega)) _) | (with_reducible refine Below.setCell ?_ (by first | exact Nat.le_refl _ | assumption | (simp only [World.size_alloc, World.size_setCell, size_ext, World.heap_drewN]; omega)) _))) (hb.mono (by simp [go_sem] <;> omega))
        replace RA1 := Lib.hid (RA1.out.below hB)
        replace RA2 := Lib.hid (RA2.out.below hB)
        replace RB1 := Lib.hid (RB1.out.below hB)
        replace RB2 := Lib.hid (RB2.out.below hB)
        replace RX1 := Lib.hid (RX1.out.below hB)
        replace RX2 := Lib.hid (RX2.out.below hB)
        replace HVB := Lib.hid (HVB.out.trans (hB.mono HVB.out.size))
        replace Kb0 := keep_cell hB Nb Kb0
        replace Kb1 := keep_cell hB Nb Kb1
        replace Nb := Nat.lt_of_lt_of_le Nb hB.size
        replace Ka0 := keep_cell hB Na Ka0
        replace Ka1 := keep_cell hB Na Ka1
        replace Na := Nat.lt_of_lt_of_le Na hB.size
        replace Kx0 := keep_cell hB Nx Kx0
        replace Kx1 := keep_cell hB Nx Kx1
        replace Nx := Nat.lt_of_lt_of_le Nx hB.size
        clear hb hB
        go_wp2_with fail
        refine (norm_no _ _ _ a1 a2 (RX1.out.below (by repeat (first | (with_reducible exact Below.refl _ _) | (with_reducible assumption) | (with_reducible refine below_drewN ?_ _) | (with_reducible refine Below.drew ?_) | (with_reducible refine below_ext_of ?_ (by first | exact Nat.le_refl _ | assumption | (simp only [World.size_alloc, World.size_setCell, size_ext, World.heap_drewN]; omega)) _ _) | (with_reducible refine Below.alloc ?_ (by first | exact Nat.le_refl _ | assumption | (simp only [World.size_alloc, World.size_setCell, size_ext, World.heap_drewN]; omega)) _) | (with_reducible refine Below.setCell ?_ (by first | exact Nat.le_refl _ | assumption | (simp only [World.size_alloc, World.size_setCell, size_ext, World.heap_drewN]; omega)) _)))) (RX2.out.below (by repeat (first | (with_reducible exact Below.refl _ _) | (with_reducible assumption) | (with_reducible refine below_drewN ?_ _) | (with_reducible refine Below.drew ?_) | (with_reducible refine below_ext_of ?_ (by first | exact Nat.le_refl _ | assumption | (simp only [World.size_alloc, World.size_setCell, size_ext, World.heap_drewN]; omega)) _ _) | (with_reducible refine Below.alloc ?_ (by first | exact Nat.le_refl _ | assumption | (simp only [World.size_alloc, World.size_setCell, size_ext, World.heap_drewN]; omega)) _) | (with_reducible refine Below.setCell ?_ (by first | exact Nat.le_refl _ | assumption | (simp only [World.size_alloc, World.size_setCell, size_ext, World.heap_drewN]; omega)) _)))) HMA.out).mono ?_
        rintro e W5 ⟨rfl, hb⟩
        have hB : Below W4.heap.size W4 W5 := Below.trans (by repeat (first | (with_reducible exact Below.refl _ _) | (with_reducible assumption) | (with_reducible refine below_drewN ?_ _) | (with_reducible refine Below.drew ?_) | (with_reducible refine below_ext_of ?_ (by first | exact Nat.le_refl _ | assumption | (simp only [World.size_alloc, World.size_setCell, size_ext, World.heap_drewN]; omega)) _ _) | (with_reducible refine Below.alloc ?_ (by first | exact Nat.le_refl _ | assumption | (simp only [World.size_alloc, World.size_setCell, size_ext, World.heap_drewN]; omega)) _) | (with_reducible refine Below.setCell ?_ (by first | exact Nat.le_refl _ | assumption | (simp only [World.size_alloc, World.size_setCell, size_ext, World.heap_drewN]; omega)) _))) (hb.mono (by simp [go_sem] <;> omega))
        replace RA1 := Lib.hid (RA1.out.below hB)
        replace RA2 := Lib.hid (RA2.out.below hB)
        replace RB1 := Lib.hid (RB1.out.below hB)
        replace RB2 := Lib.hid (RB2.out.below hB)
        replace RX1 := Lib.hid (RX1.out.below hB)
        replace RX2 := Lib.hid (RX2.out.below hB)
        replace HVB := Lib.hid (HVB.out.trans (hB.mono HVB.out.size))
        replace Kb0 := keep_cell hB Nb Kb0
        replace Kb1 := keep_cell hB Nb Kb1
        replace Nb := Nat.lt_of_lt_of_le Nb hB.size
        replace Ka0 := keep_cell hB Na Ka0
        replace Ka1 := keep_cell hB Na Ka1
        replace Na := Nat.lt_of_lt_of_le Na hB.size
        replace Kx0 := keep_cell hB Nx Kx0
        replace Kx1 := keep_cell hB Nx Kx1
        replace Nx := Nat.lt_of_lt_of_le Nx hB.size
        clear hb hB
        go_wp2_with fail
        refine (bounds_no _ _ _ a1 a2 (RX1.out.below (by repeat (first | (with_reducible exact Below.refl _ _) | (with_reducible assumption) | (with_reducible refine below_drewN ?_ _) | (with_reducible refine Below.drew ?_) | (with_reducible refine below_ext_of ?_ (by first | exact Nat.le_refl _ | assumption | (simp only [World.size_alloc, World.size_setCell, size_ext, World.heap_drewN]; omega)) _ _) | (with_reducible refine Below.alloc ?_ (by first | exact Nat.le_refl _ | assumption | (simp only [World.size_alloc, World.size_setCell, size_ext, World.heap_drewN]; omega)) _) | (with_reducible refine Below.setCell ?_ (by first | exact Nat.le_refl _ | assumption | (simp only [World.size_alloc, World.size_setCell, size_ext, World.heap_drewN]; omega)) _)))) (RX2.out.below (by repeat (first | (with_reducible exact Below.refl _ _) | (with_reducible assumption) | (with_reducible refine below_drewN ?_ _) | (with_reducible refine Below.drew ?_) | (with_reducible refine below_ext_of ?_ (by first | exact Nat.le_refl _ | assumption | (simp only [World.size_alloc, World.size_setCell, size_ext, World.heap_drewN]; omega)) _ _) | (with_reducible refine Below.alloc ?_ (by first | exact Nat.le_refl _ | assumption | (simp only [World.size_alloc, World.size_setCell, size_ext, World.heap_drewN]; omega)) _) | (with_reducible refine Below.setCell ?_ (by first | exact Nat.le_refl _ | assumption | (simp only [World.size_alloc, World.size_setCell, size_ext, World.heap_drewN]; omega)) _)))) HMA.out).mono ?_
        rintro e W6 ⟨rfl, hb⟩
        have hB : Below W5.heap.size W5 W6 := Below.trans (by repeat (first | (with_reducible exact Below.refl _ _) | (with_reducible assumption) | (with_reducible refine below_drewN ?_ _) | (with_reducible refine Below.drew ?_) | (with_reducible refine below_ext_of ?_ (by first | exact Nat.le_refl _ | assumption | (simp only [World.size_alloc, World.size_setCell, size_ext, World.heap_drewN]; omega)) _ _) | (with_reducible refine Below.alloc ?_ (by first | exact Nat.le_refl _ | assumption | (simp only [World.size_alloc, World.size_setCell, size_ext, World.heap_drewN]; omega)) _) | (with_reducible refine Below.setCell ?_ (by first | exact Nat.le_refl _ | assumption | (simp only [World.size_alloc, World.size_setCell, size_ext, World.heap_drewN]; omega)) _))) (hb.mono (by simp [go_sem] <;> omega))
        replace RA1 := Lib.hid (RA1.out.below hB)
        replace RA2 := Lib.hid (RA2.out.below hB)
        replace RB1 := Lib.hid (RB1.out.below hB)
        replace RB2 := Lib.hid (RB2.out.below hB)
        replace RX1 := Lib.hid (RX1.out.below hB)
        replace RX2 := Lib.hid (RX2.out.below hB)
        replace HVB := Lib.hid (HVB.out.trans (hB.mono HVB.out.size))
        replace Kb0 := keep_cell hB Nb Kb0
        replace Kb1 := keep_cell hB Nb Kb1
        replace Nb := Nat.lt_of_lt_of_le Nb hB.size
        replace Ka0 := keep_cell hB Na Ka0
        replace Ka1 := keep_cell hB Na Ka1
        replace Na := Nat.lt_of_lt_of_le Na hB.size
        replace Kx0 := keep_cell hB Nx Kx0
        replace Kx1 := keep_cell hB Nx Kx1
        replace Nx := Nat.lt_of_lt_of_le Nx hB.size
        have Kn0 : W6.cell? ⟨W5.heap.size, 0, none⟩ = some (.slice none 0 0) := keep_cell hb (by simp [go_sem] <;> omega) (by simp [go_sem])
        have Kn1 : W6.cell? ⟨W5.heap.size, 1, none⟩ = some (.slice none 0 0) := keep_cell hb (by simp [go_sem] <;> omega) (by simp [go_sem])
        have Nn : W5.heap.size < W6.heap.size := Nat.lt_of_lt_of_le (by simp [go_sem] <;> omega) hb.size
        obtain ⟨Bn, hkn⟩ : ∃ b, b = W5.heap.size := ⟨_, rfl⟩
        rw [← hkn] at Kn0 Kn1 Nn ⊢
        clear hkn
        clear hb hB
        go_wp2_with fail
        refine (rmay_is _ _ _ a1 a2 false (RA1.out.below (by repeat (first | (with_reducible exact Below.refl _ _) | (with_reducible assumption) | (with_reducible refine below_drewN ?_ _) | (with_reducible refine Below.drew ?_) | (with_reducible refine below_ext_of ?_ (by first | exact Nat.le_refl _ | assumption | (simp only [World.size_alloc, World.size_setCell, size_ext, World.heap_drewN]; omega)) _ _) | (with_reducible refine Below.alloc ?_ (by first | exact Nat.le_refl _ | assumption | (simp only [World.size_alloc, World.size_setCell, size_ext, World.heap_drewN]; omega)) _) | (with_reducible refine Below.setCell ?_ (by first | exact Nat.le_refl _ | assumption | (simp only [World.size_alloc, World.size_setCell, size_ext, World.heap_drewN]; omega)) _)))) (RA2.out.below (by repeat (first | (with_reducible exact Below.refl _ _) | (with_reducible assumption) | (with_reducible refine below_drewN ?_ _) | (with_reducible refine Below.drew ?_) | (with_reducible refine below_ext_of ?_ (by first | exact Nat.le_refl _ | assumption | (simp only [World.size_alloc, World.size_setCell, size_ext, World.heap_drewN]; omega)) _ _) | (with_reducible refine Below.alloc ?_ (by first | exact Nat.le_refl _ | assumption | (simp only [World.size_alloc, World.size_setCell, size_ext, World.heap_drewN]; omega)) _) | (with_reducible refine Below.setCell ?_ (by first | exact Nat.le_refl _ | assumption | (simp only [World.size_alloc, World.size_setCell, size_ext, World.heap_drewN]; omega)) _)))) HMA.out).mono ?_
        rintro e W7 ⟨rfl, hb⟩
        have hB : Below W6.heap.size W6 W7 := Below.trans (by repeat (first | (with_reducible exact Below.refl _ _) | (with_reducible assumption) | (with_reducible refine below_drewN ?_ _) | (with_reducible refine Below.drew ?_) | (with_reducible refine below_ext_of ?_ (by first | exact Nat.le_refl _ | assumption | (simp only [World.size_alloc, World.size_setCell, size_ext, World.heap_drewN]; omega)) _ _) | (with_reducible refine Below.alloc ?_ (by first | exact Nat.le_refl _ | assumption | (simp only [World.size_alloc, World.size_setCell, size_ext, World.heap_drewN]; omega)) _) | (with_reducible refine Below.setCell ?_ (by first | exact Nat.le_refl _ | assumption | (simp only [World.size_alloc, World.size_setCell, size_ext, World.heap_drewN]; omega)) _))) (hb.mono (by simp [go_sem] <;> omega))
        replace RA1 := Lib.hid (RA1.out.below hB)
        replace RA2 := Lib.hid (RA2.out.below hB)
        replace RB1 := Lib.hid (RB1.out.below hB)
        replace RB2 := Lib.hid (RB2.out.below hB)
        replace RX1 := Lib.hid (RX1.out.below hB)
        replace RX2 := Lib.hid (RX2.out.below hB)
        replace HVB := Lib.hid (HVB.out.trans (hB.mono HVB.out.size))
        replace Kb0 := keep_cell hB Nb Kb0
        replace Kb1 := keep_cell hB Nb Kb1
        replace Nb := Nat.lt_of_lt_of_le Nb hB.size
        replace Ka0 := keep_cell hB Na Ka0
        replace Ka1 := keep_cell hB Na Ka1
        replace Na := Nat.lt_of_lt_of_le Na hB.size
        replace Kx0 := keep_cell hB Nx Kx0
        replace Kx1 := keep_cell hB Nx Kx1
        replace Nx := Nat.lt_of_lt_of_le Nx hB.size
        replace Kn0 := keep_cell hB Nn Kn0
        replace Kn1 := keep_cell hB Nn Kn1
        replace Nn := Nat.lt_of_lt_of_le Nn hB.size
        clear hb hB
        go_wp2_with fail
        refine (works_any _).mono ?_
        rintro e W8 ⟨rfl, hb⟩
        have hB : Below W7.heap.size W7 W8 := Below.trans (by repeat (first | (with_reducible exact Below.refl _ _) | (with_reducible assumption) | (with_reducible refine below_drewN ?_ _) | (with_reducible refine Below.drew ?_) | (with_reducible refine below_ext_of ?_ (by first | exact Nat.le_refl _ | assumption | (simp only [World.size_alloc, World.size_setCell, size_ext, World.heap_drewN]; omega)) _ _) | (with_reducible refine Below.alloc ?_ (by first | exact Nat.le_refl _ | assumption | (simp only [World.size_alloc, World.size_setCell, size_ext, World.heap_drewN]; omega)) _) | (with_reducible refine Below.setCell ?_ (by first | exact Nat.le_refl _ | assumption | (simp only [World.size_alloc, World.size_setCell, size_ext, World.heap_drewN]; omega)) _))) (hb.mono (by simp [go_sem] <;> omega))
        replace RA1 := Lib.hid (RA1.out.below hB)
        replace RA2 := Lib.hid (RA2.out.below hB)
        replace RB1 := Lib.hid (RB1.out.below hB)
        replace RB2 := Lib.hid (RB2.out.below hB)
        replace RX1 := Lib.hid (RX1.out.below hB)
        replace RX2 := Lib.hid (RX2.out.below hB)
        replace HVB := Lib.hid (HVB.out.trans (hB.mono HVB.out.size))
        replace Kb0 := keep_cell hB Nb Kb0
        replace Kb1 := keep_cell hB Nb Kb1
        replace Nb := Nat.lt_of_lt_of_le Nb hB.size
        replace Ka0 := keep_cell hB Na Ka0
        replace Ka1 := keep_cell hB Na Ka1
        replace Na := Nat.lt_of_lt_of_le Na hB.size
        replace Kx0 := keep_cell hB Nx Kx0
        replace Kx1 := keep_cell hB Nx Kx1
        replace Nx := Nat.lt_of_lt_of_le Nx hB.size
        replace Kn0 := keep_cell hB Nn Kn0
        replace Kn1 := keep_cell hB Nn Kn1
        replace Nn := Nat.lt_of_lt_of_le Nn hB.size
        clear hb hB
        go_wp2_with fail
        go_ret
        exact ⟨rfl, HVB.out⟩
      | true =>
        by_cases hneg : n < 0
        · have MA := HMA
          obtain ⟨m1, hm1⟩ : ∃ r, nH a1 a2 = r := ⟨_, rfl⟩
          obtain ⟨m2, hm2⟩ : ∃ r, nL a1 a2 = r := ⟨_, rfl⟩
          obtain ⟨bx, hbx⟩ : ∃ r, loB a1 a2 (a1.length + a2.length) = r := ⟨_, rfl⟩
          obtain ⟨by_, hby⟩ : ∃ r, hiB a1 a2 (a1.length + a2.length) = r := ⟨_, rfl⟩
          have HM1 := Lib.hid hm1
          have HM2 := Lib.hid hm2
          have HBX := Lib.hid hbx
          have HBY := Lib.hid hby
          have HML := Lib.hid (may_len MA.out)
          clear hm1 hm2 hbx hby
          have k1 : n < 0 := hneg
          have k2 : decide (n < 0) = true := decide_eq_true k1
          go_wp2_with fail
          refine (At_no _ _ _ a1 a2 n (RX1.out.below (by repeat (first | (with_reducible exact Below.refl _ _) | (with_reducible assumption) | (with_reducible refine below_drewN ?_ _) | (with_reducible refine Below.drew ?_) | (with_reducible refine below_ext_of ?_ (by first | exact Nat.le_refl _ | assumption | (simp only [World.size_alloc, World.size_setCell, size_ext, World.heap_drewN]; omega)) _ _) | (with_reducible refine Below.alloc ?_ (by first | exact Nat.le_refl _ | assumption | (simp only [World.size_alloc, World.size_setCell, size_ext, World.heap_drewN]; omega)) _) | (with_reducible refine Below.setCell ?_ (by first | exact Nat.le_refl _ | assumption | (simp only [World.size_alloc, World.size_setCell, size_ext, World.heap_drewN]; omega)) _)))) (RX2.out.below (by repeat (first | (with_reducible exact Below.refl _ _) | (with_reducible assumption) | (with_reducible refine below_drewN ?_ _) | (with_reducible refine Below.drew ?_) | (with_reducible refine below_ext_of ?_ (by first | exact Nat.le_refl _ | assumption | (simp only [World.size_alloc, World.size_setCell, size_ext, World.heap_drewN]; omega)) _ _) | (with_reducible refine Below.alloc ?_ (by first | exact Nat.le_refl _ | assumption | (simp only [World.size_alloc, World.size_setCell, size_ext, World.heap_drewN]; omega)) _) | (with_reducible refine Below.setCell ?_ (by first | exact Nat.le_refl _ | assumption | (simp only [World.size_alloc, World.size_setCell, size_ext, World.heap_drewN]; omega)) _)))) (Or.inr hneg)).mono ?_
          rintro e W4 ⟨rfl, hb⟩
          have hB : Below V2.heap.size V2 W4 := Below.trans (by repeat (first | (with_reducible exact Below.refl _ _) | (with_reducible assumption) | (with_reducible refine below_drewN ?_ _) | (with_reducible refine Below.drew ?_) | (with_reducible refine below_ext_of ?_ (by first | exact Nat.le_refl _ | assumption | (simp only [World.size_alloc, World.size_setCell, size_ext, World.heap_drewN]; omega)) _ _) | (with_reducible refine Below.alloc ?_ (by first | exact Nat.le_refl _ | assumption | (simp only [World.size_alloc, World.size_setCell, size_ext, World.heap_drewN]; omega)) _) | (with_reducible refine Below.setCell ?_ (by first | exact Nat.le_refl _ | assumption | (simp only [World.size_alloc, World.size_setCell, size_ext, World.heap_drewN]; omega)) _))) (hb.mono (by simp [go_sem] <;> omega))
          replace RA1 := Lib.hid (RA1.out.below hB)
          replace RA2 := Lib.hid (RA2.out.below hB)
          replace RB1 := Lib.hid (RB1.out.below hB)
          replace RB2 := Lib.hid (RB2.out.below hB)
          replace RX1 := Lib.hid (RX1.out.below hB)
          replace RX2 := Lib.hid (RX2.out.below hB)
          replace HVB := Lib.hid (HVB.out.trans (hB.mono HVB.out.size))
          replace Kb0 := keep_cell hB Nb Kb0
          replace Kb1 := keep_cell hB Nb Kb1
          replace Nb := Nat.lt_of_lt_of_le Nb hB.size
          replace Ka0 := keep_cell hB Na Ka0
          replace Ka1 := keep_cell hB Na Ka1
          replace Na := Nat.lt_of_lt_of_le Na hB.size
          replace Kx0 := keep_cell hB Nx Kx0
          replace Kx1 := keep_cell hB Nx Kx1
          replace Nx := Nat.lt_of_lt_of_le Nx hB.size
          clear hb hB
          go_wp2_with fail
          refine (norm_yes _ _ _ a1 a2 m1 m2 (RX1.out.below (by repeat (first | (with_reducible exact Below.refl _ _) | (with_reducible assumption) | (with_reducible refine below_drewN ?_ _) | (with_reducible refine Below.drew ?_) | (with_reducible refine below_ext_of ?_ (by first | exact Nat.le_refl _ | assumption | (simp only [World.size_alloc, World.size_setCell, size_ext, World.heap_drewN]; omega)) _ _) | (with_reducible refine Below.alloc ?_ (by first | exact Nat.le_refl _ | assumption | (simp only [World.size_alloc, World.size_setCell, size_ext, World.heap_drewN]; omega)) _) | (with_reducible refine Below.setCell ?_ (by first | exact Nat.le_refl _ | assumption | (simp only [World.size_alloc, World.size_setCell, size_ext, World.heap_drewN]; omega)) _)))) (RX2.out.below (by repeat (first | (with_reducible exact Below.refl _ _) | (with_reducible assumption) | (with_reducible refine below_drewN ?_ _) | (with_reducible refine Below.drew ?_) | (with_reducible refine below_ext_of ?_ (by first | exact Nat.le_refl _ | assumption | (simp only [World.size_alloc, World.size_setCell, size_ext, World.heap_drewN]; omega)) _ _) | (with_reducible refine Below.alloc ?_ (by first | exact Nat.le_refl _ | assumption | (simp only [World.size_alloc, World.size_setCell, size_ext, World.heap_drewN]; omega)) _) | (with_reducible refine Below.setCell ?_ (by first | exact Nat.le_refl _ | assumption | (simp only [World.size_alloc, World.size_setCell, size_ext, World.heap_drewN]; omega)) _)))) MA.out HM1.out HM2.out).mono ?_
          rintro e W5 ⟨hb, pn, sn, qn, tn, rfl, r1, r2⟩
          have hB : Below W4.heap.size W4 W5 := Below.trans (by repeat (first | (with_reducible exact Below.refl _ _) | (with_reducible assumption) | (with_reducible refine below_drewN ?_ _) | (with_reducible refine Below.drew ?_) | (with_reducible refine below_ext_of ?_ (by first | exact Nat.le_refl _ | assumption | (simp only [World.size_alloc, World.size_setCell, size_ext, World.heap_drewN]; omega)) _ _) | (with_reducible refine Below.alloc ?_ (by first | exact Nat.le_refl _ | assumption | (simp only [World.size_alloc, World.size_setCell, size_ext, World.heap_drewN]; omega)) _) | (with_reducible refine Below.setCell ?_ (by first | exact Nat.le_refl _ | assumption | (simp only [World.size_alloc, World.size_setCell, size_ext, World.heap_drewN]; omega)) _))) (hb.mono (by simp [go_sem] <;> omega))
          replace RA1 := Lib.hid (RA1.out.below hB)
          replace RA2 := Lib.hid (RA2.out.below hB)
          replace RB1 := Lib.hid (RB1.out.below hB)
          replace RB2 := Lib.hid (RB2.out.below hB)
          replace RX1 := Lib.hid (RX1.out.below hB)
          replace RX2 := Lib.hid (RX2.out.below hB)
          replace HVB := Lib.hid (HVB.out.trans (hB.mono HVB.out.size))
          replace Kb0 := keep_cell hB Nb Kb0
          replace Kb1 := keep_cell hB Nb Kb1
          replace Nb := Nat.lt_of_lt_of_le Nb hB.size
          replace Ka0 := keep_cell hB Na Ka0
          replace Ka1 := keep_cell hB Na Ka1
          replace Na := Nat.lt_of_lt_of_le Na hB.size
          replace Kx0 := keep_cell hB Nx Kx0
          replace Kx1 := keep_cell hB Nx Kx1
          replace Nx := Nat.lt_of_lt_of_le Nx hB.size
          have RN1 := Lib.hid r1
          have RN2 := Lib.hid r2
          clear r1 r2
          clear hb hB
          go_wp2_with fail
          refine (bounds_call _ _ _ a1 a2 bx by_ (RX1.out.below (by repeat (first | (with_reducible exact Below.refl _ _) | (with_reducible assumption) | (with_reducible refine below_drewN ?_ _) | (with_reducible refine Below.drew ?_) | (with_reducible refine below_ext_of ?_ (by first | exact Nat.le_refl _ | assumption | (simp only [World.size_alloc, World.size_setCell, size_ext, World.heap_drewN]; omega)) _ _) | (with_reducible refine Below.alloc ?_ (by first | exact Nat.le_refl _ | assumption | (simp only [World.size_alloc, World.size_setCell, size_ext, World.heap_drewN]; omega)) _) | (with_reducible refine Below.setCell ?_ (by first | exact Nat.le_refl _ | assumption | (simp only [World.size_alloc, World.size_setCell, size_ext, World.heap_drewN]; omega)) _)))) (RX2.out.below (by repeat (first | (with_reducible exact Below.refl _ _) | (with_reducible assumption) | (with_reducible refine below_drewN ?_ _) | (with_reducible refine Below.drew ?_) | (with_reducible refine below_ext_of ?_ (by first | exact Nat.le_refl _ | assumption | (simp only [World.size_alloc, World.size_setCell, size_ext, World.heap_drewN]; omega)) _ _) | (with_reducible refine Below.alloc ?_ (by first | exact Nat.le_refl _ | assumption | (simp only [World.size_alloc, World.size_setCell, size_ext, World.heap_drewN]; omega)) _) | (with_reducible refine Below.setCell ?_ (by first | exact Nat.le_refl _ | assumption | (simp only [World.size_alloc, World.size_setCell, size_ext, World.heap_drewN]; omega)) _)))) MA.out HBX.out HBY.out).mono ?_
          rintro e W6 ⟨rfl, hb⟩
          have hB : Below W5.heap.size W5 W6 := Below.trans (by repeat (first | (with_reducible exact Below.refl _ _) | (with_reducible assumption) | (with_reducible refine below_drewN ?_ _) | (with_reducible refine Below.drew ?_) | (with_reducible refine below_ext_of ?_ (by first | exact Nat.le_refl _ | assumption | (simp only [World.size_alloc, World.size_setCell, size_ext, World.heap_drewN]; omega)) _ _) | (with_reducible refine Below.alloc ?_ (by first | exact Nat.le_refl _ | assumption | (simp only [World.size_alloc, World.size_setCell, size_ext, World.heap_drewN]; omega)) _) | (with_reducible refine Below.setCell ?_ (by first | exact Nat.le_refl _ | assumption | (simp only [World.size_alloc, World.size_setCell, size_ext, World.heap_drewN]; omega)) _))) (hb.mono (by simp [go_sem] <;> omega))
          replace RA1 := Lib.hid (RA1.out.below hB)
          replace RA2 := Lib.hid (RA2.out.below hB)
          replace RB1 := Lib.hid (RB1.out.below hB)
          replace RB2 := Lib.hid (RB2.out.below hB)
          replace RX1 := Lib.hid (RX1.out.below hB)
          replace RX2 := Lib.hid (RX2.out.below hB)
          replace RN1 := Lib.hid (RN1.out.below hB)
          replace RN2 := Lib.hid (RN2.out.below hB)
          replace HVB := Lib.hid (HVB.out.trans (hB.mono HVB.out.size))
          replace Kb0 := keep_cell hB Nb Kb0
          replace Kb1 := keep_cell hB Nb Kb1
          replace Nb := Nat.lt_of_lt_of_le Nb hB.size
          replace Ka0 := keep_cell hB Na Ka0
          replace Ka1 := keep_cell hB Na Ka1
          replace Na := Nat.lt_of_lt_of_le Na hB.size
          replace Kx0 := keep_cell hB Nx Kx0
          replace Kx1 := keep_cell hB Nx Kx1
          replace Nx := Nat.lt_of_lt_of_le Nx hB.size
          have Kn0 : W6.cell? ⟨W5.heap.size, 0, none⟩ = some (.slice pn m1.length sn) := keep_cell hb (by simp [go_sem] <;> omega) (by simp [go_sem])
          have Kn1 : W6.cell? ⟨W5.heap.size, 1, none⟩ = some (.slice qn m2.length tn) := keep_cell hb (by simp [go_sem] <;> omega) (by simp [go_sem])
          have Nn : W5.heap.size < W6.heap.size := Nat.lt_of_lt_of_le (by simp [go_sem] <;> omega) hb.size
          obtain ⟨Bn, hkn⟩ : ∃ b, b = W5.heap.size := ⟨_, rfl⟩
          rw [← hkn] at Kn0 Kn1 Nn ⊢
          clear hkn
          clear hb hB
          go_wp2_with fail
          refine (rmay_is _ _ _ a1 a2 true (RA1.out.below (by repeat (first | (with_reducible exact Below.refl _ _) | (with_reducible assumption) | (with_reducible refine below_drewN ?_ _) | (with_reducible refine Below.drew ?_) | (with_reducible refine below_ext_of ?_ (by first | exact Nat.le_refl _ | assumption | (simp only [World.size_alloc, World.size_setCell, size_ext, World.heap_drewN]; omega)) _ _) | (with_reducible refine Below.alloc ?_ (by first | exact Nat.le_refl _ | assumption | (simp only [World.size_alloc, World.size_setCell, size_ext, World.heap_drewN]; omega)) _) | (with_reducible refine Below.setCell ?_ (by first | exact Nat.le_refl _ | assumption | (simp only [World.size_alloc, World.size_setCell, size_ext, World.heap_drewN]; omega)) _)))) (RA2.out.below (by repeat (first | (with_reducible exact Below.refl _ _) | (with_reducible assumption) | (with_reducible refine below_drewN ?_ _) | (with_reducible refine Below.drew ?_) | (with_reducible refine below_ext_of ?_ (by first | exact Nat.le_refl _ | assumption | (simp only [World.size_alloc, World.size_setCell, size_ext, World.heap_drewN]; omega)) _ _) | (with_reducible refine Below.alloc ?_ (by first | exact Nat.le_refl _ | assumption | (simp only [World.size_alloc, World.size_setCell, size_ext, World.heap_drewN]; omega)) _) | (with_reducible refine Below.setCell ?_ (by first | exact Nat.le_refl _ | assumption | (simp only [World.size_alloc, World.size_setCell, size_ext, World.heap_drewN]; omega)) _)))) MA.out).mono ?_
          rintro e W7 ⟨rfl, hb⟩
          have hB : Below W6.heap.size W6 W7 := Below.trans (by repeat (first | (with_reducible exact Below.refl _ _) | (with_reducible assumption) | (with_reducible refine below_drewN ?_ _) | (with_reducible refine Below.drew ?_) | (with_reducible refine below_ext_of ?_ (by first | exact Nat.le_refl _ | assumption | (simp only [World.size_alloc, World.size_setCell, size_ext, World.heap_drewN]; omega)) _ _) | (with_reducible refine Below.alloc ?_ (by first | exact Nat.le_refl _ | assumption | (simp only [World.size_alloc, World.size_setCell, size_ext, World.heap_drewN]; omega)) _) | (with_reducible refine Below.setCell ?_ (by first | exact Nat.le_refl _ | assumption | (simp only [World.size_alloc, World.size_setCell, size_ext, World.heap_drewN]; omega)) _))) (hb.mono (by simp [go_sem] <;> omega))
          replace RA1 := Lib.hid (RA1.out.below hB)
          replace RA2 := Lib.hid (RA2.out.below hB)
          replace RB1 := Lib.hid (RB1.out.below hB)
          replace RB2 := Lib.hid (RB2.out.below hB)
          replace RX1 := Lib.hid (RX1.out.below hB)
          replace RX2 := Lib.hid (RX2.out.below hB)
          replace RN1 := Lib.hid (RN1.out.below hB)
          replace RN2 := Lib.hid (RN2.out.below hB)
          replace HVB := Lib.hid (HVB.out.trans (hB.mono HVB.out.size))
          replace Kb0 := keep_cell hB Nb Kb0
          replace Kb1 := keep_cell hB Nb Kb1
          replace Nb := Nat.lt_of_lt_of_le Nb hB.size
          replace Ka0 := keep_cell hB Na Ka0
          replace Ka1 := keep_cell hB Na Ka1
          replace Na := Nat.lt_of_lt_of_le Na hB.size
          replace Kx0 := keep_cell hB Nx Kx0
          replace Kx1 := keep_cell hB Nx Kx1
          replace Nx := Nat.lt_of_lt_of_le Nx hB.size
          replace Kn0 := keep_cell hB Nn Kn0
          replace Kn1 := keep_cell hB Nn Kn1
          replace Nn := Nat.lt_of_lt_of_le Nn hB.size
          clear hb hB
          go_wp2_with fail
          refine (rbounds_call _ _ _ a1 a2 bx by_ (RA1.out.below (by repeat (first | (with_reducible exact Below.refl _ _) | (with_reducible assumption) | (with_reducible refine below_drewN ?_ _) | (with_reducible refine Below.drew ?_) | (with_reducible refine below_ext_of ?_ (by first | exact Nat.le_refl _ | assumption | (simp only [World.size_alloc, World.size_setCell, size_ext, World.heap_drewN]; omega)) _ _) | (with_reducible refine Below.alloc ?_ (by first | exact Nat.le_refl _ | assumption | (simp only [World.size_alloc, World.size_setCell, size_ext, World.heap_drewN]; omega)) _) | (with_reducible refine Below.setCell ?_ (by first | exact Nat.le_refl _ | assumption | (simp only [World.size_alloc, World.size_setCell, size_ext, World.heap_drewN]; omega)) _)))) (RA2.out.below (by repeat (first | (with_reducible exact Below.refl _ _) | (with_reducible assumption) | (with_reducible refine below_drewN ?_ _) | (with_reducible refine Below.drew ?_) | (with_reducible refine below_ext_of ?_ (by first | exact Nat.le_refl _ | assumption | (simp only [World.size_alloc, World.size_setCell, size_ext, World.heap_drewN]; omega)) _ _) | (with_reducible refine Below.alloc ?_ (by first | exact Nat.le_refl _ | assumption | (simp only [World.size_alloc, World.size_setCell, size_ext, World.heap_drewN]; omega)) _) | (with_reducible refine Below.setCell ?_ (by first | exact Nat.le_refl _ | assumption | (simp only [World.size_alloc, World.size_setCell, size_ext, World.heap_drewN]; omega)) _)))) MA.out HBX.out HBY.out).mono ?_
          rintro e W8 ⟨rfl, hb⟩
          have hB : Below W7.heap.size W7 W8 := Below.trans (by repeat (first | (with_reducible exact Below.refl _ _) | (with_reducible assumption) | (with_reducible refine below_drewN ?_ _) | (with_reducible refine Below.drew ?_) | (with_reducible refine below_ext_of ?_ (by first | exact Nat.le_refl _ | assumption | (simp only [World.size_alloc, World.size_setCell, size_ext, World.heap_drewN]; omega)) _ _) | (with_reducible refine Below.alloc ?_ (by first | exact Nat.le_refl _ | assumption | (simp only [World.size_alloc, World.size_setCell, size_ext, World.heap_drewN]; omega)) _) | (with_reducible refine Below.setCell ?_ (by first | exact Nat.le_refl _ | assumption | (simp only [World.size_alloc, World.size_setCell, size_ext, World.heap_drewN]; omega)) _))) (hb.mono (by simp [go_sem] <;> omega))
          replace RA1 := Lib.hid (RA1.out.below hB)
          replace RA2 := Lib.hid (RA2.out.below hB)
          replace RB1 := Lib.hid (RB1.out.below hB)
          replace RB2 := Lib.hid (RB2.out.below hB)
          replace RX1 := Lib.hid (RX1.out.below hB)
          replace RX2 := Lib.hid (RX2.out.below hB)
          replace RN1 := Lib.hid (RN1.out.below hB)
          replace RN2 := Lib.hid (RN2.out.below hB)
          replace HVB := Lib.hid (HVB.out.trans (hB.mono HVB.out.size))
          replace Kb0 := keep_cell hB Nb Kb0
          replace Kb1 := keep_cell hB Nb Kb1
          replace Nb := Nat.lt_of_lt_of_le Nb hB.size
          replace Ka0 := keep_cell hB Na Ka0
          replace Ka1 := keep_cell hB Na Ka1
          replace Na := Nat.lt_of_lt_of_le Na hB.size
          replace Kx0 := keep_cell hB Nx Kx0
          replace Kx1 := keep_cell hB Nx Kx1
          replace Nx := Nat.lt_of_lt_of_le Nx hB.size
          replace Kn0 := keep_cell hB Nn Kn0
          replace Kn1 := keep_cell hB Nn Kn1
          replace Nn := Nat.lt_of_lt_of_le Nn hB.size
          clear hb hB
          go_upto_region 12 with (fail)
          go_cut [125] (fun sl wc => sl = .bool false ∧ ∃ W9, W9 = wc ∧ Below W8.heap.size W8 W9)
          case first =>
            have HBR := Lib.hid (Below.refl W8.heap.size W8)
            refine wp_region_held_drew (S := (fun W' => W'.cell? ⟨Bx, 0, none⟩ = some (.slice px a1.length sx) ∧ W'.cell? ⟨Bx, 1, none⟩ = some (.slice qx a2.length tx) ∧ W'.cell? ⟨Ba, 0, none⟩ = some (.slice pa a1.length sa) ∧ W'.cell? ⟨Ba, 1, none⟩ = some (.slice qa a2.length ta) ∧ W'.cell? ⟨Bn, 0, none⟩ = some (.slice pn m1.length sn) ∧ W'.cell? ⟨Bn, 1, none⟩ = some (.slice qn m2.length tn))) (by kernel_rfl) ?hS17 (fun hHeld => ?go17)
            case hS17 =>
              (try dsimp only)
              try go_simp
            case go17 =>
            refine' wpAnyH_take (i := 0) (oi := ⟨_, _, _, _, _, _⟩) (v := ?v18) rfl (by kernel_rfl) (by kernel_rfl) (by kernel_rfl) (fun _ _ _ h => h) (Or.inl ⟨by rfl, ?hy18⟩) (by assumption) ?rest18
            case hy18 =>
              intro w hSw
              (try dsimp only at hSw)
              go_simp
              try (with_reducible rfl)
            case rest18 =>
            (try simp only [Act.put, List.setIfInBounds_toArray, List.set_cons_zero, List.set_cons_succ])
            refine' wpAnyH_take (i := 1) (oi := ⟨_, _, _, _, _, _⟩) (v := ?v19) rfl (by kernel_rfl) (by kernel_rfl) (by kernel_rfl) (fun _ _ _ h => h) (Or.inl ⟨by rfl, ?hy19⟩) (by assumption) ?rest19
            case hy19 =>
              intro w hSw
              (try dsimp only at hSw)
              go_simp
              try (with_reducible rfl)
            case rest19 =>
            (try simp only [Act.put, List.setIfInBounds_toArray, List.set_cons_zero, List.set_cons_succ])
            refine' wpAnyH_take (i := 2) (oi := ⟨_, _, _, _, _, _⟩) (v := ?v20) rfl (by kernel_rfl) (by kernel_rfl) (by kernel_rfl) (fun _ _ _ h => h) (Or.inl ⟨by rfl, ?hy20⟩) (by assumption) ?rest20
            case hy20 =>
              intro w hSw
              (try dsimp only at hSw)
              go_simp
              try (with_reducible rfl)
            case rest20 =>
            (try simp only [Act.put, List.setIfInBounds_toArray, List.set_cons_zero, List.set_cons_succ])
            refine' wpAnyH_take (i := 3) (oi := ⟨_, _, _, _, _, _⟩) (v := ?v21) rfl (by kernel_rfl) (by kernel_rfl) (by kernel_rfl) (fun _ _ _ h => h) (Or.inl ⟨by rfl, ?hy21⟩) (by assumption) ?rest21
            case hy21 =>
              intro w hSw
              (try dsimp only at hSw)
              go_simp
              try (with_reducible rfl)
            case rest21 =>
            (try simp only [Act.put, List.setIfInBounds_toArray, List.set_cons_zero, List.set_cons_succ])
            refine' wpAnyH_take (i := 4) (oi := ⟨_, _, _, _, _, _⟩) (v := ?v22) rfl (by kernel_rfl) (by kernel_rfl) (by kernel_rfl) (fun _ _ _ h => h) (Or.inl ⟨by rfl, ?hy22⟩) (by assumption) ?rest22
            case hy22 =>
              intro w hSw
              (try dsimp only at hSw)
              go_simp
              try (with_reducible rfl)
            case rest22 =>
            (try simp only [Act.put, List.setIfInBounds_toArray, List.set_cons_zero, List.set_cons_succ])
            refine wpAnyH_ready (rs := [5]) (by kernel_rfl) (by simp) ?_
            refine AllReadyH.cons (o := ⟨_, _, _, _, _, _⟩) rfl (fun K hK => ?_) AllReadyH.nil
            go_simp
            (go_at_call 33; refine (rnorm_call _ _ _ a1 a2 m1 m2 (RA1.out.below (by repeat (first | (with_reducible exact Below.refl _ _) | (with_reducible assumption) | (with_reducible refine below_drewN ?_ _) | (with_reducible refine Below.drew ?_) | (with_reducible refine below_ext_of ?_ (by first | exact Nat.le_refl _ | assumption | (simp only [World.size_alloc, World.size_setCell, size_ext, World.heap_drewN]; omega)) _ _) | (with_reducible refine Below.alloc ?_ (by first | exact Nat.le_refl _ | assumption | (simp only [World.size_alloc, World.size_setCell, size_ext, World.heap_drewN]; omega)) _) | (with_reducible refine Below.setCell ?_ (by first | exact Nat.le_refl _ | assumption | (simp only [World.size_alloc, World.size_setCell, size_ext, World.heap_drewN]; omega)) _)))) (RA2.out.below (by repeat (first | (with_reducible exact Below.refl _ _) | (with_reducible assumption) | (with_reducible refine below_drewN ?_ _) | (with_reducible refine Below.drew ?_) | (with_reducible refine below_ext_of ?_ (by first | exact Nat.le_refl _ | assumption | (simp only [World.size_alloc, World.size_setCell, size_ext, World.heap_drewN]; omega)) _ _) | (with_reducible refine Below.alloc ?_ (by first | exact Nat.le_refl _ | assumption | (simp only [World.size_alloc, World.size_setCell, size_ext, World.heap_drewN]; omega)) _) | (with_reducible refine Below.setCell ?_ (by first | exact Nat.le_refl _ | assumption | (simp only [World.size_alloc, World.size_setCell, size_ext, World.heap_drewN]; omega)) _)))) MA.out HM1.out HM2.out).mono ?_; rintro e wx ⟨hbx, pv, sv, qv, tv, rfl, r1, r2⟩; obtain ⟨Xx, dx, rfl⟩ := below_ext hbx; clear hbx; (try simp only [ext_ext, ext_drew, ext_drewN, drew_ext, drewN_ext, Array.append_assoc] at r1 r2); have RV1 := Lib.hid r1; have RV2 := Lib.hid r2; clear r1 r2; go_simp)
            refine hK.out _ _ ?hS23 (fun hHeld2 => ?go23)
            case hS23 =>
              (try dsimp only)
              try go_simp
            case go23 =>
            clear hK K
            clear hHeld
            have hHeld := hHeld2
            clear hHeld2
            (try simp only [Act.put, List.setIfInBounds_toArray, List.set_cons_zero, List.set_cons_succ])
            refine wpAnyH_ready (rs := [6]) (by kernel_rfl) (by simp) ?_
            refine AllReadyH.cons (o := ⟨_, _, _, _, _, _⟩) rfl (fun K hK => ?_) AllReadyH.nil
            go_simp
            (go_at_call 11; refine (Equal_same _ _ _ _ _ m1 m2 m1 m2 (RN1.out.below (by repeat (first | (with_reducible exact Below.refl _ _) | (with_reducible assumption) | (with_reducible refine below_drewN ?_ _) | (with_reducible refine Below.drew ?_) | (with_reducible refine below_ext_of ?_ (by first | exact Nat.le_refl _ | assumption | (simp only [World.size_alloc, World.size_setCell, size_ext, World.heap_drewN]; omega)) _ _) | (with_reducible refine Below.alloc ?_ (by first | exact Nat.le_refl _ | assumption | (simp only [World.size_alloc, World.size_setCell, size_ext, World.heap_drewN]; omega)) _) | (with_reducible refine Below.setCell ?_ (by first | exact Nat.le_refl _ | assumption | (simp only [World.size_alloc, World.size_setCell, size_ext, World.heap_drewN]; omega)) _)))) (RN2.out.below (by repeat (first | (with_reducible exact Below.refl _ _) | (with_reducible assumption) | (with_reducible refine below_drewN ?_ _) | (with_reducible refine Below.drew ?_) | (with_reducible refine below_ext_of ?_ (by first | exact Nat.le_refl _ | assumption | (simp only [World.size_alloc, World.size_setCell, size_ext, World.heap_drewN]; omega)) _ _) | (with_reducible refine Below.alloc ?_ (by first | exact Nat.le_refl _ | assumption | (simp only [World.size_alloc, World.size_setCell, size_ext, World.heap_drewN]; omega)) _) | (with_reducible refine Below.setCell ?_ (by first | exact Nat.le_refl _ | assumption | (simp only [World.size_alloc, World.size_setCell, size_ext, World.heap_drewN]; omega)) _)))) (RV1.out.below (by repeat (first | (with_reducible exact Below.refl _ _) | (with_reducible assumption) | (with_reducible refine below_drewN ?_ _) | (with_reducible refine Below.drew ?_) | (with_reducible refine below_ext_of ?_ (by first | exact Nat.le_refl _ | assumption | (simp only [World.size_alloc, World.size_setCell, size_ext, World.heap_drewN]; omega)) _ _) | (with_reducible refine Below.alloc ?_ (by first | exact Nat.le_refl _ | assumption | (simp only [World.size_alloc, World.size_setCell, size_ext, World.heap_drewN]; omega)) _) | (with_reducible refine Below.setCell ?_ (by first | exact Nat.le_refl _ | assumption | (simp only [World.size_alloc, World.size_setCell, size_ext, World.heap_drewN]; omega)) _)))) (RV2.out.below (by repeat (first | (with_reducible exact Below.refl _ _) | (with_reducible assumption) | (with_reducible refine below_drewN ?_ _) | (with_reducible refine Below.drew ?_) | (with_reducible refine below_ext_of ?_ (by first | exact Nat.le_refl _ | assumption | (simp only [World.size_alloc, World.size_setCell, size_ext, World.heap_drewN]; omega)) _ _) | (with_reducible refine Below.alloc ?_ (by first | exact Nat.le_refl _ | assumption | (simp only [World.size_alloc, World.size_setCell, size_ext, World.heap_drewN]; omega)) _) | (with_reducible refine Below.setCell ?_ (by first | exact Nat.le_refl _ | assumption | (simp only [World.size_alloc, World.size_setCell, size_ext, World.heap_drewN]; omega)) _)))) rfl rfl).mono ?_; rintro e wx ⟨rfl, hbx⟩; obtain ⟨Xx, dx, rfl⟩ := below_ext hbx; clear hbx; go_simp)
            refine hK.out _ _ ?hS24 (fun hHeld2 => ?go24)
            case hS24 =>
              (try dsimp only)
              try go_simp
            case go24 =>
            clear hK K
            clear hHeld
            have hHeld := hHeld2
            clear hHeld2
            (try simp only [Act.put, List.setIfInBounds_toArray, List.set_cons_zero, List.set_cons_succ])
            refine' wpAnyH_take (i := 7) (oi := ⟨_, _, _, _, _, _⟩) (v := ?v25) rfl (by kernel_rfl) (by kernel_rfl) (by kernel_rfl) (fun _ _ _ h => h) (Or.inl ⟨by rfl, ?hy25⟩) (by assumption) ?rest25
            case hy25 =>
              intro w hSw
              (try dsimp only at hSw)
              go_simp
              try (with_reducible rfl)
            case rest25 =>
            (try simp only [Act.put, List.setIfInBounds_toArray, List.set_cons_zero, List.set_cons_succ])
            refine' wpAnyH_take (i := 8) (oi := ⟨_, _, _, _, _, _⟩) (v := ?v26) rfl (by kernel_rfl) (by kernel_rfl) (by kernel_rfl) (fun _ _ _ h => h) (Or.inl ⟨by rfl, ?hy26⟩) (by assumption) ?rest26
            case hy26 =>
              intro w hSw
              (try dsimp only at hSw)
              go_simp
              try (with_reducible rfl)
            case rest26 =>
            (try simp only [Act.put, List.setIfInBounds_toArray, List.set_cons_zero, List.set_cons_succ])
            refine' wpAnyH_take (i := 9) (oi := ⟨_, _, _, _, _, _⟩) (v := ?v27) rfl (by kernel_rfl) (by kernel_rfl) (by kernel_rfl) (fun _ _ _ h => h) (Or.inl ⟨by rfl, ?hy27⟩) (by assumption) ?rest27
            case hy27 =>
              intro w hSw
              (try dsimp only at hSw)
              go_simp
              try (with_reducible rfl)
            case rest27 =>
            (try simp only [Act.put, List.setIfInBounds_toArray, List.set_cons_zero, List.set_cons_succ])
            refine' wpAnyH_take (i := 10) (oi := ⟨_, _, _, _, _, _⟩) (v := ?v28) rfl (by kernel_rfl) (by kernel_rfl) (by kernel_rfl) (fun _ _ _ h => h) (Or.inl ⟨by rfl, ?hy28⟩) (by assumption) ?rest28
            case hy28 =>
              intro w hSw
              (try dsimp only at hSw)
              go_simp
              try (with_reducible rfl)
            case rest28 =>
            (try simp only [Act.put, List.setIfInBounds_toArray, List.set_cons_zero, List.set_cons_succ])
            refine' wpAnyH_take (i := 11) (oi := ⟨_, _, _, _, _, _⟩) (v := ?v29) rfl (by kernel_rfl) (by kernel_rfl) (by kernel_rfl) (fun _ _ _ h => h) (Or.inl ⟨by rfl, ?hy29⟩) (by assumption) ?rest29
            case hy29 =>
              intro w hSw
              (try dsimp only at hSw)
              go_simp
              try (with_reducible rfl)
            case rest29 =>
            (try simp only [Act.put, List.setIfInBounds_toArray, List.set_cons_zero, List.set_cons_succ])
            refine' wpAnyH_take (i := 12) (oi := ⟨_, _, _, _, _, _⟩) (v := ?v30) rfl (by kernel_rfl) (by kernel_rfl) (by kernel_rfl) (fun _ _ _ h => h) (Or.inl ⟨by rfl, ?hy30⟩) (by assumption) ?rest30
            case hy30 =>
              intro w hSw
              (try dsimp only at hSw)
              go_simp
              try (with_reducible rfl)
            case rest30 =>
            (try simp only [Act.put, List.setIfInBounds_toArray, List.set_cons_zero, List.set_cons_succ])
            refine' wpAnyH_take (i := 13) (oi := ⟨_, _, _, _, _, _⟩) (v := ?v31) rfl (by kernel_rfl) (by kernel_rfl) (by kernel_rfl) (fun _ _ _ h => h) (Or.inl ⟨by rfl, ?hy31⟩) (by assumption) ?rest31
            case hy31 =>
              intro w hSw
              (try dsimp only at hSw)
              go_simp
              try (with_reducible rfl)
            case rest31 =>
            (try simp only [Act.put, List.setIfInBounds_toArray, List.set_cons_zero, List.set_cons_succ])
            refine' wpAnyH_take (i := 14) (oi := ⟨_, _, _, _, _, _⟩) (v := ?v32) rfl (by kernel_rfl) (by kernel_rfl) (by kernel_rfl) (fun _ _ _ h => h) (Or.inl ⟨by rfl, ?hy32⟩) (by assumption) ?rest32
            case hy32 =>
              intro w hSw
              (try dsimp only at hSw)
              go_simp
              try (with_reducible rfl)
            case rest32 =>
            (try simp only [Act.put, List.setIfInBounds_toArray, List.set_cons_zero, List.set_cons_succ])
            refine' wpAnyH_take (i := 15) (oi := ⟨_, _, _, _, _, _⟩) (v := ?v33) rfl (by kernel_rfl) (by kernel_rfl) (by kernel_rfl) (fun _ _ _ h => h) (Or.inl ⟨by rfl, ?hy33⟩) (by assumption) ?rest33
            case hy33 =>
              intro w hSw
              (try dsimp only at hSw)
              go_simp
              try (with_reducible rfl)
            case rest33 =>
            (try simp only [Act.put, List.setIfInBounds_toArray, List.set_cons_zero, List.set_cons_succ])
            refine' wpAnyH_take (i := 16) (oi := ⟨_, _, _, _, _, _⟩) (v := ?v34) rfl (by kernel_rfl) (by kernel_rfl) (by kernel_rfl) (fun _ _ _ h => h) (Or.inl ⟨by rfl, ?hy34⟩) (by assumption) ?rest34
            case hy34 =>
              intro w hSw
              (try dsimp only at hSw)
              go_simp
              try (with_reducible rfl)
            case rest34 =>
            (try simp only [Act.put, List.setIfInBounds_toArray, List.set_cons_zero, List.set_cons_succ])
            refine' wpAnyH_take (i := 17) (oi := ⟨_, _, _, _, _, _⟩) (v := ?v35) rfl (by kernel_rfl) (by kernel_rfl) (by kernel_rfl) (fun _ _ _ h => h) (Or.inl ⟨by rfl, ?hy35⟩) (by assumption) ?rest35
            case hy35 =>
              intro w hSw
              (try dsimp only at hSw)
              go_simp
              try (with_reducible rfl)
            case rest35 =>
            (try simp only [Act.put, List.setIfInBounds_toArray, List.set_cons_zero, List.set_cons_succ])
            refine' wpAnyH_take (i := 18) (oi := ⟨_, _, _, _, _, _⟩) (v := ?v36) rfl (by kernel_rfl) (by kernel_rfl) (by kernel_rfl) (fun _ _ _ h => h) (Or.inl ⟨by rfl, ?hy36⟩) (by assumption) ?rest36
            case hy36 =>
              intro w hSw
              (try dsimp only at hSw)
              go_simp
              try (with_reducible rfl)
            case rest36 =>
            (try simp only [Act.put, List.setIfInBounds_toArray, List.set_cons_zero, List.set_cons_succ])
            refine' wpAnyH_take (i := 19) (oi := ⟨_, _, _, _, _, _⟩) (v := ?v37) rfl (by kernel_rfl) (by kernel_rfl) (by kernel_rfl) (fun _ _ _ h => h) (Or.inl ⟨by rfl, ?hy37⟩) (by assumption) ?rest37
            case hy37 =>
              intro w hSw
              (try dsimp only at hSw)
              go_simp
              try (with_reducible rfl)
            case rest37 =>
            (try simp only [Act.put, List.setIfInBounds_toArray, List.set_cons_zero, List.set_cons_succ])
            refine' wpAnyH_take (i := 20) (oi := ⟨_, _, _, _, _, _⟩) (v := ?v38) rfl (by kernel_rfl) (by kernel_rfl) (by kernel_rfl) (fun _ _ _ h => h) (Or.inl ⟨by rfl, ?hy38⟩) (by assumption) ?rest38
            case hy38 =>
              intro w hSw
              (try dsimp only at hSw)
              go_simp
              try (with_reducible rfl)
            case rest38 =>
            (try simp only [Act.put, List.setIfInBounds_toArray, List.set_cons_zero, List.set_cons_succ])
            refine' wpAnyH_take (i := 21) (oi := ⟨_, _, _, _, _, _⟩) (v := ?v39) rfl (by kernel_rfl) (by kernel_rfl) (by kernel_rfl) (fun _ _ _ h => h) (Or.inl ⟨by rfl, ?hy39⟩) (by assumption) ?rest39
            case hy39 =>
              intro w hSw
              (try dsimp only at hSw)
              go_simp
              try (with_reducible rfl)
            case rest39 =>
            (try simp only [Act.put, List.setIfInBounds_toArray, List.set_cons_zero, List.set_cons_succ])
            refine' wpAnyH_take (i := 22) (oi := ⟨_, _, _, _, _, _⟩) (v := ?v40) rfl (by kernel_rfl) (by kernel_rfl) (by kernel_rfl) (fun _ _ _ h => h) (Or.inl ⟨by rfl, ?hy40⟩) (by assumption) ?rest40
            case hy40 =>
              intro w hSw
              (try dsimp only at hSw)
              go_simp
              try (with_reducible rfl)
            case rest40 =>
            (try simp only [Act.put, List.setIfInBounds_toArray, List.set_cons_zero, List.set_cons_succ])
            refine' wpAnyH_take (i := 23) (oi := ⟨_, _, _, _, _, _⟩) (v := ?v41) rfl (by kernel_rfl) (by kernel_rfl) (by kernel_rfl) (fun _ _ _ h => h) (Or.inl ⟨by rfl, ?hy41⟩) (by assumption) ?rest41
            case hy41 =>
              intro w hSw
              (try dsimp only at hSw)
              go_simp
              try (with_reducible rfl)
            case rest41 =>
            (try simp only [Act.put, List.setIfInBounds_toArray, List.set_cons_zero, List.set_cons_succ])
            refine' wpAnyH_take (i := 24) (oi := ⟨_, _, _, _, _, _⟩) (v := ?v42) rfl (by kernel_rfl) (by kernel_rfl) (by kernel_rfl) (fun _ _ _ h => h) (Or.inl ⟨by rfl, ?hy42⟩) (by assumption) ?rest42
            case hy42 =>
              intro w hSw
              (try dsimp only at hSw)
              go_simp
              try (with_reducible rfl)
            case rest42 =>
            (try simp only [Act.put, List.setIfInBounds_toArray, List.set_cons_zero, List.set_cons_succ])
            refine' wpAnyH_take (i := 25) (oi := ⟨_, _, _, _, _, _⟩) (v := ?v43) rfl (by kernel_rfl) (by kernel_rfl) (by kernel_rfl) (fun _ _ _ h => h) (Or.inl ⟨by rfl, ?hy43⟩) (by assumption) ?rest43
            case hy43 =>
              intro w hSw
              (try dsimp only at hSw)
              go_simp
              try (with_reducible rfl)
            case rest43 =>
            (try simp only [Act.put, List.setIfInBounds_toArray, List.set_cons_zero, List.set_cons_succ])
            refine wpAnyH_ready (rs := [26]) (by kernel_rfl) (by simp) ?_
            refine AllReadyH.cons (o := ⟨_, _, _, _, _, _⟩) rfl (fun K hK => ?_) AllReadyH.nil
            go_simp
            (go_at_call 11; refine (Equal_same _ _ _ _ _ a1 a2 a1 a2 (RX1.out.below (by repeat (first | (with_reducible exact Below.refl _ _) | (with_reducible assumption) | (with_reducible refine below_drewN ?_ _) | (with_reducible refine Below.drew ?_) | (with_reducible refine below_ext_of ?_ (by first | exact Nat.le_refl _ | assumption | (simp only [World.size_alloc, World.size_setCell, size_ext, World.heap_drewN]; omega)) _ _) | (with_reducible refine Below.alloc ?_ (by first | exact Nat.le_refl _ | assumption | (simp only [World.size_alloc, World.size_setCell, size_ext, World.heap_drewN]; omega)) _) | (with_reducible refine Below.setCell ?_ (by first | exact Nat.le_refl _ | assumption | (simp only [World.size_alloc, World.size_setCell, size_ext, World.heap_drewN]; omega)) _)))) (RX2.out.below (by repeat (first | (with_reducible exact Below.refl _ _) | (with_reducible assumption) | (with_reducible refine below_drewN ?_ _) | (with_reducible refine Below.drew ?_) | (with_reducible refine below_ext_of ?_ (by first | exact Nat.le_refl _ | assumption | (simp only [World.size_alloc, World.size_setCell, size_ext, World.heap_drewN]; omega)) _ _) | (with_reducible refine Below.alloc ?_ (by first | exact Nat.le_refl _ | assumption | (simp only [World.size_alloc, World.size_setCell, size_ext, World.heap_drewN]; omega)) _) | (with_reducible refine Below.setCell ?_ (by first | exact Nat.le_refl _ | assumption | (simp only [World.size_alloc, World.size_setCell, size_ext, World.heap_drewN]; omega)) _)))) (RA1.out.below (by repeat (first | (with_reducible exact Below.refl _ _) | (with_reducible assumption) | (with_reducible refine below_drewN ?_ _) | (with_reducible refine Below.drew ?_) | (with_reducible refine below_ext_of ?_ (by first | exact Nat.le_refl _ | assumption | (simp only [World.size_alloc, World.size_setCell, size_ext, World.heap_drewN]; omega)) _ _) | (with_reducible refine Below.alloc ?_ (by first | exact Nat.le_refl _ | assumption | (simp only [World.size_alloc, World.size_setCell, size_ext, World.heap_drewN]; omega)) _) | (with_reducible refine Below.setCell ?_ (by first | exact Nat.le_refl _ | assumption | (simp only [World.size_alloc, World.size_setCell, size_ext, World.heap_drewN]; omega)) _)))) (RA2.out.below (by repeat (first | (with_reducible exact Below.refl _ _) | (with_reducible assumption) | (with_reducible refine below_drewN ?_ _) | (with_reducible refine Below.drew ?_) | (with_reducible refine below_ext_of ?_ (by first | exact Nat.le_refl _ | assumption | (simp only [World.size_alloc, World.size_setCell, size_ext, World.heap_drewN]; omega)) _ _) | (with_reducible refine Below.alloc ?_ (by first | exact Nat.le_refl _ | assumption | (simp only [World.size_alloc, World.size_setCell, size_ext, World.heap_drewN]; omega)) _) | (with_reducible refine Below.setCell ?_ (by first | exact Nat.le_refl _ | assumption | (simp only [World.size_alloc, World.size_setCell, size_ext, World.heap_drewN]; omega)) _)))) rfl rfl).mono ?_; rintro e wx ⟨rfl, hbx⟩; obtain ⟨Xx, dx, rfl⟩ := below_ext hbx; clear hbx; go_simp)
            refine hK.out _ _ ?hS44 (fun hHeld2 => ?go44)
            case hS44 =>
              (try dsimp only)
              try go_simp
            case go44 =>
            clear hK K
            clear hHeld
            have hHeld := hHeld2
            clear hHeld2
            (try simp only [Act.put, List.setIfInBounds_toArray, List.set_cons_zero, List.set_cons_succ])
            refine' wpAnyH_take (i := 27) (oi := ⟨_, _, _, _, _, _⟩) (v := ?v45) rfl (by kernel_rfl) (by kernel_rfl) (by kernel_rfl) (fun _ _ _ h => h) (Or.inl ⟨by rfl, ?hy45⟩) (by assumption) ?rest45
            case hy45 =>
              intro w hSw
              (try dsimp only at hSw)
              go_simp
              try (with_reducible rfl)
            case rest45 =>
            (try simp only [Act.put, List.setIfInBounds_toArray, List.set_cons_zero, List.set_cons_succ])
            refine' wpAnyH_take (i := 28) (oi := ⟨_, _, _, _, _, _⟩) (v := ?v46) rfl (by kernel_rfl) (by kernel_rfl) (by kernel_rfl) (fun _ _ _ h => h) (Or.inl ⟨by rfl, ?hy46⟩) (by assumption) ?rest46
            case hy46 =>
              intro w hSw
              (try dsimp only at hSw)
              go_simp
              try (with_reducible rfl)
            case rest46 =>
            (try simp only [Act.put, List.setIfInBounds_toArray, List.set_cons_zero, List.set_cons_succ])
            refine wpAnyH_done (by kernel_rfl) ?_ _
            go_wp2_with fail
            go_meet
            case rel => exact ⟨rfl, _, rfl, HBR.out.trans (Below.mono (by repeat (first | (with_reducible exact Below.refl _ _) | (with_reducible assumption) | (with_reducible refine below_drewN ?_ _) | (with_reducible refine Below.drew ?_) | (with_reducible refine below_ext_of ?_ (by first | exact Nat.le_refl _ | assumption | (simp only [World.size_alloc, World.size_setCell, size_ext, World.heap_drewN]; omega)) _ _) | (with_reducible refine Below.alloc ?_ (by first | exact Nat.le_refl _ | assumption | (simp only [World.size_alloc, World.size_setCell, size_ext, World.heap_drewN]; omega)) _) | (with_reducible refine Below.setCell ?_ (by first | exact Nat.le_refl _ | assumption | (simp only [World.size_alloc, World.size_setCell, size_ext, World.heap_drewN]; omega)) _))) HBR.out.size)⟩
          case rest =>
          obtain ⟨rfl, V3, rfl, hB⟩ := hcut
          replace RA1 := Lib.hid (RA1.out.below hB)
          replace RA2 := Lib.hid (RA2.out.below hB)
          replace RB1 := Lib.hid (RB1.out.below hB)
          replace RB2 := Lib.hid (RB2.out.below hB)
          replace RX1 := Lib.hid (RX1.out.below hB)
          replace RX2 := Lib.hid (RX2.out.below hB)
          replace RN1 := Lib.hid (RN1.out.below hB)
          replace RN2 := Lib.hid (RN2.out.below hB)
          replace HVB := Lib.hid (HVB.out.trans (hB.mono HVB.out.size))
          replace Kb0 := keep_cell hB Nb Kb0
          replace Kb1 := keep_cell hB Nb Kb1
          replace Nb := Nat.lt_of_lt_of_le Nb hB.size
          replace Ka0 := keep_cell hB Na Ka0
          replace Ka1 := keep_cell hB Na Ka1
          replace Na := Nat.lt_of_lt_of_le Na hB.size
          replace Kx0 := keep_cell hB Nx Kx0
          replace Kx1 := keep_cell hB Nx Kx1
          replace Nx := Nat.lt_of_lt_of_le Nx hB.size
          replace Kn0 := keep_cell hB Nn Kn0
          replace Kn1 := keep_cell hB Nn Kn1
          replace Nn := Nat.lt_of_lt_of_le Nn hB.size
          clear hB
          go_wp2_with fail
          refine (works_any _).mono ?_
          rintro e W9 ⟨rfl, hb⟩
          have hB : Below V3.heap.size V3 W9 := Below.trans (by repeat (first | (with_reducible exact Below.refl _ _) | (with_reducible assumption) | (with_reducible refine below_drewN ?_ _) | (with_reducible refine Below.drew ?_) | (with_reducible refine below_ext_of ?_ (by first | exact Nat.le_refl _ | assumption | (simp only [World.size_alloc, World.size_setCell, size_ext, World.heap_drewN]; omega)) _ _) | (with_reducible refine Below.alloc ?_ (by first | exact Nat.le_refl _ | assumption | (simp only [World.size_alloc, World.size_setCell, size_ext, World.heap_drewN]; omega)) _) | (with_reducible refine Below.setCell ?_ (by first | exact Nat.le_refl _ | assumption | (simp only [World.size_alloc, World.size_setCell, size_ext, World.heap_drewN]; omega)) _))) (hb.mono (by simp [go_sem] <;> omega))
          replace RA1 := Lib.hid (RA1.out.below hB)
          replace RA2 := Lib.hid (RA2.out.below hB)
          replace RB1 := Lib.hid (RB1.out.below hB)
          replace RB2 := Lib.hid (RB2.out.below hB)
          replace RX1 := Lib.hid (RX1.out.below hB)
          replace RX2 := Lib.hid (RX2.out.below hB)
          replace RN1 := Lib.hid (RN1.out.below hB)
          replace RN2 := Lib.hid (RN2.out.below hB)
          replace HVB := Lib.hid (HVB.out.trans (hB.mono HVB.out.size))
          replace Kb0 := keep_cell hB Nb Kb0
          replace Kb1 := keep_cell hB Nb Kb1
          replace Nb := Nat.lt_of_lt_of_le Nb hB.size
          replace Ka0 := keep_cell hB Na Ka0
          replace Ka1 := keep_cell hB Na Ka1
          replace Na := Nat.lt_of_lt_of_le Na hB.size
          replace Kx0 := keep_cell hB Nx Kx0
          replace Kx1 := keep_cell hB Nx Kx1
          replace Nx := Nat.lt_of_lt_of_le Nx hB.size
          replace Kn0 := keep_cell hB Nn Kn0
          replace Kn1 := keep_cell hB Nn Kn1
          replace Nn := Nat.lt_of_lt_of_le Nn hB.size
          clear hb hB
          go_wp2_with fail
          go_ret
          exact ⟨rfl, HVB.out⟩
        · have MA := HMA
          obtain ⟨m1, hm1⟩ : ∃ r, nH a1 a2 = r := ⟨_, rfl⟩
          obtain ⟨m2, hm2⟩ : ∃ r, nL a1 a2 = r := ⟨_, rfl⟩
          obtain ⟨bx, hbx⟩ : ∃ r, loB a1 a2 (a1.length + a2.length) = r := ⟨_, rfl⟩
          obtain ⟨by_, hby⟩ : ∃ r, hiB a1 a2 (a1.length + a2.length) = r := ⟨_, rfl⟩
          have HM1 := Lib.hid hm1
          have HM2 := Lib.hid hm2
          have HBX := Lib.hid hbx
          have HBY := Lib.hid hby
          have HML := Lib.hid (may_len MA.out)
          clear hm1 hm2 hbx hby
          obtain ⟨m, rfl⟩ : ∃ m : Nat, n = (m : Int) := ⟨n.toNat, by omega⟩
          have k1 : ¬ ((m : Int) < 0) := hneg
          have k2 : decide ((m : Int) < 0) = false := decide_eq_false k1
          obtain ⟨z, hz⟩ : ∃ z, num a1 a2 m = z := ⟨_, rfl⟩
          have HZ := Lib.hid hz
          clear hz
          go_wp2_with fail
          refine (At_ok _ _ _ a1 a2 m (RX1.out.below (by repeat (first | (with_reducible exact Below.refl _ _) | (with_reducible assumption) | (with_reducible refine below_drewN ?_ _) | (with_reducible refine Below.drew ?_) | (with_reducible refine below_ext_of ?_ (by first | exact Nat.le_refl _ | assumption | (simp only [World.size_alloc, World.size_setCell, size_ext, World.heap_drewN]; omega)) _ _) | (with_reducible refine Below.alloc ?_ (by first | exact Nat.le_refl _ | assumption | (simp only [World.size_alloc, World.size_setCell, size_ext, World.heap_drewN]; omega)) _) | (with_reducible refine Below.setCell ?_ (by first | exact Nat.le_refl _ | assumption | (simp only [World.size_alloc, World.size_setCell, size_ext, World.heap_drewN]; omega)) _)))) (RX2.out.below (by repeat (first | (with_reducible exact Below.refl _ _) | (with_reducible assumption) | (with_reducible refine below_drewN ?_ _) | (with_reducible refine Below.drew ?_) | (with_reducible refine below_ext_of ?_ (by first | exact Nat.le_refl _ | assumption | (simp only [World.size_alloc, World.size_setCell, size_ext, World.heap_drewN]; omega)) _ _) | (with_reducible refine Below.alloc ?_ (by first | exact Nat.le_refl _ | assumption | (simp only [World.size_alloc, World.size_setCell, size_ext, World.heap_drewN]; omega)) _) | (with_reducible refine Below.setCell ?_ (by first | exact Nat.le_refl _ | assumption | (simp only [World.size_alloc, World.size_setCell, size_ext, World.heap_drewN]; omega)) _)))) MA.out (by have := HN.out; omega)).mono ?_
          rintro e W4 ⟨rfl, hb⟩
          have hB : Below V2.heap.size V2 W4 := Below.trans (by repeat (first | (with_reducible exact Below.refl _ _) | (with_reducible assumption) | (with_reducible refine below_drewN ?_ _) | (with_reducible refine Below.drew ?_) | (with_reducible refine below_ext_of ?_ (by first | exact Nat.le_refl _ | assumption | (simp only [World.size_alloc, World.size_setCell, size_ext, World.heap_drewN]; omega)) _ _) | (with_reducible refine Below.alloc ?_ (by first | exact Nat.le_refl _ | assumption | (simp only [World.size_alloc, World.size_setCell, size_ext, World.heap_drewN]; omega)) _) | (with_reducible refine Below.setCell ?_ (by first | exact Nat.le_refl _ | assumption | (simp only [World.size_alloc, World.size_setCell, size_ext, World.heap_drewN]; omega)) _))) (hb.mono (by simp [go_sem] <;> omega))
          replace RA1 := Lib.hid (RA1.out.below hB)
          replace RA2 := Lib.hid (RA2.out.below hB)
          replace RB1 := Lib.hid (RB1.out.below hB)
          replace RB2 := Lib.hid (RB2.out.below hB)
          replace RX1 := Lib.hid (RX1.out.below hB)
          replace RX2 := Lib.hid (RX2.out.below hB)
          replace HVB := Lib.hid (HVB.out.trans (hB.mono HVB.out.size))
          replace Kb0 := keep_cell hB Nb Kb0
          replace Kb1 := keep_cell hB Nb Kb1
          replace Nb := Nat.lt_of_lt_of_le Nb hB.size
          replace Ka0 := keep_cell hB Na Ka0
          replace Ka1 := keep_cell hB Na Ka1
          replace Na := Nat.lt_of_lt_of_le Na hB.size
          replace Kx0 := keep_cell hB Nx Kx0
          replace Kx1 := keep_cell hB Nx Kx1
          replace Nx := Nat.lt_of_lt_of_le Nx hB.size
          rw [HZ.out]
          clear hb hB
          go_wp2_with fail
          refine (norm_yes _ _ _ a1 a2 m1 m2 (RX1.out.below (by repeat (first | (with_reducible exact Below.refl _ _) | (with_reducible assumption) | (with_reducible refine below_drewN ?_ _) | (with_reducible refine Below.drew ?_) | (with_reducible refine below_ext_of ?_ (by first | exact Nat.le_refl _ | assumption | (simp only [World.size_alloc, World.size_setCell, size_ext, World.heap_drewN]; omega)) _ _) | (with_reducible refine Below.alloc ?_ (by first | exact Nat.le_refl _ | assumption | (simp only [World.size_alloc, World.size_setCell, size_ext, World.heap_drewN]; omega)) _) | (with_reducible refine Below.setCell ?_ (by first | exact Nat.le_refl _ | assumption | (simp only [World.size_alloc, World.size_setCell, size_ext, World.heap_drewN]; omega)) _)))) (RX2.out.below (by repeat (first | (with_reducible exact Below.refl _ _) | (with_reducible assumption) | (with_reducible refine below_drewN ?_ _) | (with_reducible refine Below.drew ?_) | (with_reducible refine below_ext_of ?_ (by first | exact Nat.le_refl _ | assumption | (simp only [World.size_alloc, World.size_setCell, size_ext, World.heap_drewN]; omega)) _ _) | (with_reducible refine Below.alloc ?_ (by first | exact Nat.le_refl _ | assumption | (simp only [World.size_alloc, World.size_setCell, size_ext, World.heap_drewN]; omega)) _) | (with_reducible refine Below.setCell ?_ (by first | exact Nat.le_refl _ | assumption | (simp only [World.size_alloc, World.size_setCell, size_ext, World.heap_drewN]; omega)) _)))) MA.out HM1.out HM2.out).mono ?_
          rintro e W5 ⟨hb, pn, sn, qn, tn, rfl, r1, r2⟩
          have hB : Below W4.heap.size W4 W5 := Below.trans (by repeat (first | (with_reducible exact Below.refl _ _) | (with_reducible assumption) | (with_reducible refine below_drewN ?_ _) | (with_reducible refine Below.drew ?_) | (with_reducible refine below_ext_of ?_ (by first | exact Nat.le_refl _ | assumption | (simp only [World.size_alloc, World.size_setCell, size_ext, World.heap_drewN]; omega)) _ _) | (with_reducible refine Below.alloc ?_ (by first | exact Nat.le_refl _ | assumption | (simp only [World.size_alloc, World.size_setCell, size_ext, World.heap_drewN]; omega)) _) | (with_reducible refine Below.setCell ?_ (by first | exact Nat.le_refl _ | assumption | (simp only [World.size_alloc, World.size_setCell, size_ext, World.heap_drewN]; omega)) _))) (hb.mono (by simp [go_sem] <;> omega))
          replace RA1 := Lib.hid (RA1.out.below hB)
          replace RA2 := Lib.hid (RA2.out.below hB)
          replace RB1 := Lib.hid (RB1.out.below hB)
          replace RB2 := Lib.hid (RB2.out.below hB)
          replace RX1 := Lib.hid (RX1.out.below hB)
          replace RX2 := Lib.hid (RX2.out.below hB)
          replace HVB := Lib.hid (HVB.out.trans (hB.mono HVB.out.size))
          replace Kb0 := keep_cell hB Nb Kb0
          replace Kb1 := keep_cell hB Nb Kb1
          replace Nb := Nat.lt_of_lt_of_le Nb hB.size
          replace Ka0 := keep_cell hB Na Ka0
          replace Ka1 := keep_cell hB Na Ka1
          replace Na := Nat.lt_of_lt_of_le Na hB.size
          replace Kx0 := keep_cell hB Nx Kx0
          replace Kx1 := keep_cell hB Nx Kx1
          replace Nx := Nat.lt_of_lt_of_le Nx hB.size
          have RN1 := Lib.hid r1
          have RN2 := Lib.hid r2
          clear r1 r2
          clear hb hB
          go_wp2_with fail
          refine (bounds_call _ _ _ a1 a2 bx by_ (RX1.out.below (by repeat (first | (with_reducible exact Below.refl _ _) | (with_reducible assumption) | (with_reducible refine below_drewN ?_ _) | (with_reducible refine Below.drew ?_) | (with_reducible refine below_ext_of ?_ (by first | exact Nat.le_refl _ | assumption | (simp only [World.size_alloc, World.size_setCell, size_ext, World.heap_drewN]; omega)) _ _) | (with_reducible refine Below.alloc ?_ (by first | exact Nat.le_refl _ | assumption | (simp only [World.size_alloc, World.size_setCell, size_ext, World.heap_drewN]; omega)) _) | (with_reducible refine Below.setCell ?_ (by first | exact Nat.le_refl _ | assumption | (simp only [World.size_alloc, World.size_setCell, size_ext, World.heap_drewN]; omega)) _)))) (RX2.out.below (by repeat (first | (with_reducible exact Below.refl _ _) | (with_reducible assumption) | (with_reducible refine below_drewN ?_ _) | (with_reducible refine Below.drew ?_) | (with_reducible refine below_ext_of ?_ (by first | exact Nat.le_refl _ | assumption | (simp only [World.size_alloc, World.size_setCell, size_ext, World.heap_drewN]; omega)) _ _) | (with_reducible refine Below.alloc ?_ (by first | exact Nat.le_refl _ | assumption | (simp only [World.size_alloc, World.size_setCell, size_ext, World.heap_drewN]; omega)) _) | (with_reducible refine Below.setCell ?_ (by first | exact Nat.le_refl _ | assumption | (simp only [World.size_alloc, World.size_setCell, size_ext, World.heap_drewN]; omega)) _)))) MA.out HBX.out HBY.out).mono ?_
          rintro e W6 ⟨rfl, hb⟩
          have hB : Below W5.heap.size W5 W6 := Below.trans (by repeat (first | (with_reducible exact Below.refl _ _) | (with_reducible assumption) | (with_reducible refine below_drewN ?_ _) | (with_reducible refine Below.drew ?_) | (with_reducible refine below_ext_of ?_ (by first | exact Nat.le_refl _ | assumption | (simp only [World.size_alloc, World.size_setCell, size_ext, World.heap_drewN]; omega)) _ _) | (with_reducible refine Below.alloc ?_ (by first | exact Nat.le_refl _ | assumption | (simp only [World.size_alloc, World.size_setCell, size_ext, World.heap_drewN]; omega)) _) | (with_reducible refine Below.setCell ?_ (by first | exact Nat.le_refl _ | assumption | (simp only [World.size_alloc, World.size_setCell, size_ext, World.heap_drewN]; omega)) _))) (hb.mono (by simp [go_sem] <;> omega))
          replace RA1 := Lib.hid (RA1.out.below hB)
          replace RA2 := Lib.hid (RA2.out.below hB)
          replace RB1 := Lib.hid (RB1.out.below hB)
          replace RB2 := Lib.hid (RB2.out.below hB)
          replace RX1 := Lib.hid (RX1.out.below hB)
          replace RX2 := Lib.hid (RX2.out.below hB)
          replace RN1 := Lib.hid (RN1.out.below hB)
          replace RN2 := Lib.hid (RN2.out.below hB)
          replace HVB := Lib.hid (HVB.out.trans (hB.mono HVB.out.size))
          replace Kb0 := keep_cell hB Nb Kb0
          replace Kb1 := keep_cell hB Nb Kb1
          replace Nb := Nat.lt_of_lt_of_le Nb hB.size
          replace Ka0 := keep_cell hB Na Ka0
          replace Ka1 := keep_cell hB Na Ka1
          replace Na := Nat.lt_of_lt_of_le Na hB.size
          replace Kx0 := keep_cell hB Nx Kx0
          replace Kx1 := keep_cell hB Nx Kx1
          replace Nx := Nat.lt_of_lt_of_le Nx hB.size
          have Kn0 : W6.cell? ⟨W5.heap.size, 0, none⟩ = some (.slice pn m1.length sn) := keep_cell hb (by simp [go_sem] <;> omega) (by simp [go_sem])
          have Kn1 : W6.cell? ⟨W5.heap.size, 1, none⟩ = some (.slice qn m2.length tn) := keep_cell hb (by simp [go_sem] <;> omega) (by simp [go_sem])
          have Nn : W5.heap.size < W6.heap.size := Nat.lt_of_lt_of_le (by simp [go_sem] <;> omega) hb.size
          obtain ⟨Bn, hkn⟩ : ∃ b, b = W5.heap.size := ⟨_, rfl⟩
          rw [← hkn] at Kn0 Kn1 Nn ⊢
          clear hkn
          clear hb hB
          go_wp2_with fail
          refine (rmay_is _ _ _ a1 a2 true (RA1.out.below (by repeat (first | (with_reducible exact Below.refl _ _) | (with_reducible assumption) | (with_reducible refine below_drewN ?_ _) | (with_reducible refine Below.drew ?_) | (with_reducible refine below_ext_of ?_ (by first | exact Nat.le_refl _ | assumption | (simp only [World.size_alloc, World.size_setCell, size_ext, World.heap_drewN]; omega)) _ _) | (with_reducible refine Below.alloc ?_ (by first | exact Nat.le_refl _ | assumption | (simp only [World.size_alloc, World.size_setCell, size_ext, World.heap_drewN]; omega)) _) | (with_reducible refine Below.setCell ?_ (by first | exact Nat.le_refl _ | assumption | (simp only [World.size_alloc, World.size_setCell, size_ext, World.heap_drewN]; omega)) _)))) (RA2.out.below (by repeat (first | (with_reducible exact Below.refl _ _) | (with_reducible assumption) | (with_reducible refine below_drewN ?_ _) | (with_reducible refine Below.drew ?_) | (with_reducible refine below_ext_of ?_ (by first | exact Nat.le_refl _ | assumption | (simp only [World.size_alloc, World.size_setCell, size_ext, World.heap_drewN]; omega)) _ _) | (with_reducible refine Below.alloc ?_ (by first | exact Nat.le_refl _ | assumption | (simp only [World.size_alloc, World.size_setCell, size_ext, World.heap_drewN]; omega)) _) | (with_reducible refine Below.setCell ?_ (by first | exact Nat.le_refl _ | assumption | (simp only [World.size_alloc, World.size_setCell, size_ext, World.heap_drewN]; omega)) _)))) MA.out).mono ?_
          rintro e W7 ⟨rfl, hb⟩
          have hB : Below W6.heap.size W6 W7 := Below.trans (by repeat (first | (with_reducible exact Below.refl _ _) | (with_reducible assumption) | (with_reducible refine below_drewN ?_ _) | (with_reducible refine Below.drew ?_) | (with_reducible refine below_ext_of ?_ (by first | exact Nat.le_refl _ | assumption | (simp only [World.size_alloc, World.size_setCell, size_ext, World.heap_drewN]; omega)) _ _) | (with_reducible refine Below.alloc ?_ (by first | exact Nat.le_refl _ | assumption | (simp only [World.size_alloc, World.size_setCell, size_ext, World.heap_drewN]; omega)) _) | (with_reducible refine Below.setCell ?_ (by first | exact Nat.le_refl _ | assumption | (simp only [World.size_alloc, World.size_setCell, size_ext, World.heap_drewN]; omega)) _))) (hb.mono (by simp [go_sem] <;> omega))
          replace RA1 := Lib.hid (RA1.out.below hB)
          replace RA2 := Lib.hid (RA2.out.below hB)
          replace RB1 := Lib.hid (RB1.out.below hB)
          replace RB2 := Lib.hid (RB2.out.below hB)
          replace RX1 := Lib.hid (RX1.out.below hB)
          replace RX2 := Lib.hid (RX2.out.below hB)
          replace RN1 := Lib.hid (RN1.out.below hB)
          replace RN2 := Lib.hid (RN2.out.below hB)
          replace HVB := Lib.hid (HVB.out.trans (hB.mono HVB.out.size))
          replace Kb0 := keep_cell hB Nb Kb0
          replace Kb1 := keep_cell hB Nb Kb1
          replace Nb := Nat.lt_of_lt_of_le Nb hB.size
          replace Ka0 := keep_cell hB Na Ka0
          replace Ka1 := keep_cell hB Na Ka1
          replace Na := Nat.lt_of_lt_of_le Na hB.size
          replace Kx0 := keep_cell hB Nx Kx0
          replace Kx1 := keep_cell hB Nx Kx1
          replace Nx := Nat.lt_of_lt_of_le Nx hB.size
          replace Kn0 := keep_cell hB Nn Kn0
          replace Kn1 := keep_cell hB Nn Kn1
          replace Nn := Nat.lt_of_lt_of_le Nn hB.size
          clear hb hB
          go_wp2_with fail
          refine (rbounds_call _ _ _ a1 a2 bx by_ (RA1.out.below (by repeat (first | (with_reducible exact Below.refl _ _) | (with_reducible assumption) | (with_reducible refine below_drewN ?_ _) | (with_reducible refine Below.drew ?_) | (with_reducible refine below_ext_of ?_ (by first | exact Nat.le_refl _ | assumption | (simp only [World.size_alloc, World.size_setCell, size_ext, World.heap_drewN]; omega)) _ _) | (with_reducible refine Below.alloc ?_ (by first | exact Nat.le_refl _ | assumption | (simp only [World.size_alloc, World.size_setCell, size_ext, World.heap_drewN]; omega)) _) | (with_reducible refine Below.setCell ?_ (by first | exact Nat.le_refl _ | assumption | (simp only [World.size_alloc, World.size_setCell, size_ext, World.heap_drewN]; omega)) _)))) (RA2.out.below (by repeat (first | (with_reducible exact Below.refl _ _) | (with_reducible assumption) | (with_reducible refine below_drewN ?_ _) | (with_reducible refine Below.drew ?_) | (with_reducible refine below_ext_of ?_ (by first | exact Nat.le_refl _ | assumption | (simp only [World.size_alloc, World.size_setCell, size_ext, World.heap_drewN]; omega)) _ _) | (with_reducible refine Below.alloc ?_ (by first | exact Nat.le_refl _ | assumption | (simp only [World.size_alloc, World.size_setCell, size_ext, World.heap_drewN]; omega)) _) | (with_reducible refine Below.setCell ?_ (by first | exact Nat.le_refl _ | assumption | (simp only [World.size_alloc, World.size_setCell, size_ext, World.heap_drewN]; omega)) _)))) MA.out HBX.out HBY.out).mono ?_
          rintro e W8 ⟨rfl, hb⟩
          have hB : Below W7.heap.size W7 W8 := Below.trans (by repeat (first | (with_reducible exact Below.refl _ _) | (with_reducible assumption) | (with_reducible refine below_drewN ?_ _) | (with_reducible refine Below.drew ?_) | (with_reducible refine below_ext_of ?_ (by first | exact Nat.le_refl _ | assumption | (simp only [World.size_alloc, World.size_setCell, size_ext, World.heap_drewN]; omega)) _ _) | (with_reducible refine Below.alloc ?_ (by first | exact Nat.le_refl _ | assumption | (simp only [World.size_alloc, World.size_setCell, size_ext, World.heap_drewN]; omega)) _) | (with_reducible refine Below.setCell ?_ (by first | exact Nat.le_refl _ | assumption | (simp only [World.size_alloc, World.size_setCell, size_ext, World.heap_drewN]; omega)) _))) (hb.mono (by simp [go_sem] <;> omega))
          replace RA1 := Lib.hid (RA1.out.below hB)
          replace RA2 := Lib.hid (RA2.out.below hB)
          replace RB1 := Lib.hid (RB1.out.below hB)
          replace RB2 := Lib.hid (RB2.out.below hB)
          replace RX1 := Lib.hid (RX1.out.below hB)
          replace RX2 := Lib.hid (RX2.out.below hB)
          replace RN1 := Lib.hid (RN1.out.below hB)
          replace RN2 := Lib.hid (RN2.out.below hB)
          replace HVB := Lib.hid (HVB.out.trans (hB.mono HVB.out.size))
          replace Kb0 := keep_cell hB Nb Kb0
          replace Kb1 := keep_cell hB Nb Kb1
          replace Nb := Nat.lt_of_lt_of_le Nb hB.size
          replace Ka0 := keep_cell hB Na Ka0
          replace Ka1 := keep_cell hB Na Ka1
          replace Na := Nat.lt_of_lt_of_le Na hB.size
          replace Kx0 := keep_cell hB Nx Kx0
          replace Kx1 := keep_cell hB Nx Kx1
          replace Nx := Nat.lt_of_lt_of_le Nx hB.size
          replace Kn0 := keep_cell hB Nn Kn0
          replace Kn1 := keep_cell hB Nn Kn1
          replace Nn := Nat.lt_of_lt_of_le Nn hB.size
          clear hb hB
          go_upto_region 12 with (fail)
          go_cut [125] (fun sl wc => sl = .bool false ∧ ∃ W9, W9 = wc ∧ Below W8.heap.size W8 W9)
          case first =>
            have HBR := Lib.hid (Below.refl W8.heap.size W8)
            refine wp_region_held_drew (S := (fun W' => W'.cell? ⟨Bx, 0, none⟩ = some (.slice px a1.length sx) ∧ W'.cell? ⟨Bx, 1, none⟩ = some (.slice qx a2.length tx) ∧ W'.cell? ⟨Ba, 0, none⟩ = some (.slice pa a1.length sa) ∧ W'.cell? ⟨Ba, 1, none⟩ = some (.slice qa a2.length ta) ∧ W'.cell? ⟨Bn, 0, none⟩ = some (.slice pn m1.length sn) ∧ W'.cell? ⟨Bn, 1, none⟩ = some (.slice qn m2.length tn))) (by kernel_rfl) ?hS47 (fun hHeld => ?go47)
            case hS47 =>
              (try dsimp only)
              try go_simp
            case go47 =>
            refine' wpAnyH_take (i := 0) (oi := ⟨_, _, _, _, _, _⟩) (v := ?v48) rfl (by kernel_rfl) (by kernel_rfl) (by kernel_rfl) (fun _ _ _ h => h) (Or.inl ⟨by rfl, ?hy48⟩) (by assumption) ?rest48
            case hy48 =>
              intro w hSw
              (try dsimp only at hSw)
              go_simp
              try (with_reducible rfl)
            case rest48 =>
            (try simp only [Act.put, List.setIfInBounds_toArray, List.set_cons_zero, List.set_cons_succ])
            refine' wpAnyH_take (i := 1) (oi := ⟨_, _, _, _, _, _⟩) (v := ?v49) rfl (by kernel_rfl) (by kernel_rfl) (by kernel_rfl) (fun _ _ _ h => h) (Or.inl ⟨by rfl, ?hy49⟩) (by assumption) ?rest49
            case hy49 =>
              intro w hSw
              (try dsimp only at hSw)
              go_simp
              try (with_reducible rfl)
            case rest49 =>
            (try simp only [Act.put, List.setIfInBounds_toArray, List.set_cons_zero, List.set_cons_succ])
            refine' wpAnyH_take (i := 2) (oi := ⟨_, _, _, _, _, _⟩) (v := ?v50) rfl (by kernel_rfl) (by kernel_rfl) (by kernel_rfl) (fun _ _ _ h => h) (Or.inl ⟨by rfl, ?hy50⟩) (by assumption) ?rest50
            case hy50 =>
              intro w hSw
              (try dsimp only at hSw)
              go_simp
              try (with_reducible rfl)
            case rest50 =>
            (try simp only [Act.put, List.setIfInBounds_toArray, List.set_cons_zero, List.set_cons_succ])
            refine' wpAnyH_take (i := 3) (oi := ⟨_, _, _, _, _, _⟩) (v := ?v51) rfl (by kernel_rfl) (by kernel_rfl) (by kernel_rfl) (fun _ _ _ h => h) (Or.inl ⟨by rfl, ?hy51⟩) (by assumption) ?rest51
            case hy51 =>
              intro w hSw
              (try dsimp only at hSw)
              go_simp
              try (with_reducible rfl)
            case rest51 =>
            (try simp only [Act.put, List.setIfInBounds_toArray, List.set_cons_zero, List.set_cons_succ])
            refine' wpAnyH_take (i := 4) (oi := ⟨_, _, _, _, _, _⟩) (v := ?v52) rfl (by kernel_rfl) (by kernel_rfl) (by kernel_rfl) (fun _ _ _ h => h) (Or.inl ⟨by rfl, ?hy52⟩) (by assumption) ?rest52
            case hy52 =>
              intro w hSw
              (try dsimp only at hSw)
              go_simp
              try (with_reducible rfl)
            case rest52 =>
            (try simp only [Act.put, List.setIfInBounds_toArray, List.set_cons_zero, List.set_cons_succ])
            refine wpAnyH_ready (rs := [5]) (by kernel_rfl) (by simp) ?_
            refine AllReadyH.cons (o := ⟨_, _, _, _, _, _⟩) rfl (fun K hK => ?_) AllReadyH.nil
            go_simp
            (go_at_call 33; refine (rnorm_call _ _ _ a1 a2 m1 m2 (RA1.out.below (by repeat (first | (with_reducible exact Below.refl _ _) | (with_reducible assumption) | (with_reducible refine below_drewN ?_ _) | (with_reducible refine Below.drew ?_) | (with_reducible refine below_ext_of ?_ (by first | exact Nat.le_refl _ | assumption | (simp only [World.size_alloc, World.size_setCell, size_ext, World.heap_drewN]; omega)) _ _) | (with_reducible refine Below.alloc ?_ (by first | exact Nat.le_refl _ | assumption | (simp only [World.size_alloc, World.size_setCell, size_ext, World.heap_drewN]; omega)) _) | (with_reducible refine Below.setCell ?_ (by first | exact Nat.le_refl _ | assumption | (simp only [World.size_alloc, World.size_setCell, size_ext, World.heap_drewN]; omega)) _)))) (RA2.out.below (by repeat (first | (with_reducible exact Below.refl _ _) | (with_reducible assumption) | (with_reducible refine below_drewN ?_ _) | (with_reducible refine Below.drew ?_) | (with_reducible refine below_ext_of ?_ (by first | exact Nat.le_refl _ | assumption | (simp only [World.size_alloc, World.size_setCell, size_ext, World.heap_drewN]; omega)) _ _) | (with_reducible refine Below.alloc ?_ (by first | exact Nat.le_refl _ | assumption | (simp only [World.size_alloc, World.size_setCell, size_ext, World.heap_drewN]; omega)) _) | (with_reducible refine Below.setCell ?_ (by first | exact Nat.le_refl _ | assumption | (simp only [World.size_alloc, World.size_setCell, size_ext, World.heap_drewN]; omega)) _)))) MA.out HM1.out HM2.out).mono ?_; rintro e wx ⟨hbx, pv, sv, qv, tv, rfl, r1, r2⟩; obtain ⟨Xx, dx, rfl⟩ := below_ext hbx; clear hbx; (try simp only [ext_ext, ext_drew, ext_drewN, drew_ext, drewN_ext, Array.append_assoc] at r1 r2); have RV1 := Lib.hid r1; have RV2 := Lib.hid r2; clear r1 r2; go_simp)
            refine hK.out _ _ ?hS53 (fun hHeld2 => ?go53)
            case hS53 =>
              (try dsimp only)
              try go_simp
            case go53 =>
            clear hK K
            clear hHeld
            have hHeld := hHeld2
            clear hHeld2
            (try simp only [Act.put, List.setIfInBounds_toArray, List.set_cons_zero, List.set_cons_succ])
            refine wpAnyH_ready (rs := [6]) (by kernel_rfl) (by simp) ?_
            refine AllReadyH.cons (o := ⟨_, _, _, _, _, _⟩) rfl (fun K hK => ?_) AllReadyH.nil
            go_simp
            (go_at_call 11; refine (Equal_same _ _ _ _ _ m1 m2 m1 m2 (RN1.out.below (by repeat (first | (with_reducible exact Below.refl _ _) | (with_reducible assumption) | (with_reducible refine below_drewN ?_ _) | (with_reducible refine Below.drew ?_) | (with_reducible refine below_ext_of ?_ (by first | exact Nat.le_refl _ | assumption | (simp only [World.size_alloc, World.size_setCell, size_ext, World.heap_drewN]; omega)) _ _) | (with_reducible refine Below.alloc ?_ (by first | exact Nat.le_refl _ | assumption | (simp only [World.size_alloc, World.size_setCell, size_ext, World.heap_drewN]; omega)) _) | (with_reducible refine Below.setCell ?_ (by first | exact Nat.le_refl _ | assumption | (simp only [World.size_alloc, World.size_setCell, size_ext, World.heap_drewN]; omega)) _)))) (RN2.out.below (by repeat (first | (with_reducible exact Below.refl _ _) | (with_reducible assumption) | (with_reducible refine below_drewN ?_ _) | (with_reducible refine Below.drew ?_) | (with_reducible refine below_ext_of ?_ (by first | exact Nat.le_refl _ | assumption | (simp only [World.size_alloc, World.size_setCell, size_ext, World.heap_drewN]; omega)) _ _) | (with_reducible refine Below.alloc ?_ (by first | exact Nat.le_refl _ | assumption | (simp only [World.size_alloc, World.size_setCell, size_ext, World.heap_drewN]; omega)) _) | (with_reducible refine Below.setCell ?_ (by first | exact Nat.le_refl _ | assumption | (simp only [World.size_alloc, World.size_setCell, size_ext, World.heap_drewN]; omega)) _)))) (RV1.out.below (by repeat (first | (with_reducible exact Below.refl _ _) | (with_reducible assumption) | (with_reducible refine below_drewN ?_ _) | (with_reducible refine Below.drew ?_) | (with_reducible refine below_ext_of ?_ (by first | exact Nat.le_refl _ | assumption | (simp only [World.size_alloc, World.size_setCell, size_ext, World.heap_drewN]; omega)) _ _) | (with_reducible refine Below.alloc ?_ (by first | exact Nat.le_refl _ | assumption | (simp only [World.size_alloc, World.size_setCell, size_ext, World.heap_drewN]; omega)) _) | (with_reducible refine Below.setCell ?_ (by first | exact Nat.le_refl _ | assumption | (simp only [World.size_alloc, World.size_setCell, size_ext, World.heap_drewN]; omega)) _)))) (RV2.out.below (by repeat (first | (with_reducible exact Below.refl _ _) | (with_reducible assumption) | (with_reducible refine below_drewN ?_ _) | (with_reducible refine Below.drew ?_) | (with_reducible refine below_ext_of ?_ (by first | exact Nat.le_refl _ | assumption | (simp only [World.size_alloc, World.size_setCell, size_ext, World.heap_drewN]; omega)) _ _) | (with_reducible refine Below.alloc ?_ (by first | exact Nat.le_refl _ | assumption | (simp only [World.size_alloc, World.size_setCell, size_ext, World.heap_drewN]; omega)) _) | (with_reducible refine Below.setCell ?_ (by first | exact Nat.le_refl _ | assumption | (simp only [World.size_alloc, World.size_setCell, size_ext, World.heap_drewN]; omega)) _)))) rfl rfl).mono ?_; rintro e wx ⟨rfl, hbx⟩; obtain ⟨Xx, dx, rfl⟩ := below_ext hbx; clear hbx; go_simp)
            refine hK.out _ _ ?hS54 (fun hHeld2 => ?go54)
            case hS54 =>
              (try dsimp only)
              try go_simp
            case go54 =>
            clear hK K
            clear hHeld
            have hHeld := hHeld2
            clear hHeld2
            (try simp only [Act.put, List.setIfInBounds_toArray, List.set_cons_zero, List.set_cons_succ])
            refine' wpAnyH_take (i := 7) (oi := ⟨_, _, _, _, _, _⟩) (v := ?v55) rfl (by kernel_rfl) (by kernel_rfl) (by kernel_rfl) (fun _ _ _ h => h) (Or.inl ⟨by rfl, ?hy55⟩) (by assumption) ?rest55
            case hy55 =>
              intro w hSw
              (try dsimp only at hSw)
              go_simp
              try (with_reducible rfl)
            case rest55 =>
            (try simp only [Act.put, List.setIfInBounds_toArray, List.set_cons_zero, List.set_cons_succ])
            refine' wpAnyH_take (i := 8) (oi := ⟨_, _, _, _, _, _⟩) (v := ?v56) rfl (by kernel_rfl) (by kernel_rfl) (by kernel_rfl) (fun _ _ _ h => h) (Or.inl ⟨by rfl, ?hy56⟩) (by assumption) ?rest56
            case hy56 =>
              intro w hSw
              (try dsimp only at hSw)
              go_simp
              try (with_reducible rfl)
            case rest56 =>
            (try simp only [Act.put, List.setIfInBounds_toArray, List.set_cons_zero, List.set_cons_succ])
            refine' wpAnyH_take (i := 9) (oi := ⟨_, _, _, _, _, _⟩) (v := ?v57) rfl (by kernel_rfl) (by kernel_rfl) (by kernel_rfl) (fun _ _ _ h => h) (Or.inl ⟨by rfl, ?hy57⟩) (by assumption) ?rest57
            case hy57 =>
              intro w hSw
              (try dsimp only at hSw)
              go_simp
              try (with_reducible rfl)
            case rest57 =>
            (try simp only [Act.put, List.setIfInBounds_toArray, List.set_cons_zero, List.set_cons_succ])
            refine' wpAnyH_take (i := 10) (oi := ⟨_, _, _, _, _, _⟩) (v := ?v58) rfl (by kernel_rfl) (by kernel_rfl) (by kernel_rfl) (fun _ _ _ h => h) (Or.inl ⟨by rfl, ?hy58⟩) (by assumption) ?rest58
            case hy58 =>
              intro w hSw
              (try dsimp only at hSw)
              go_simp
              try (with_reducible rfl)
            case rest58 =>
            (try simp only [Act.put, List.setIfInBounds_toArray, List.set_cons_zero, List.set_cons_succ])
            refine' wpAnyH_take (i := 11) (oi := ⟨_, _, _, _, _, _⟩) (v := ?v59) rfl (by kernel_rfl) (by kernel_rfl) (by kernel_rfl) (fun _ _ _ h => h) (Or.inl ⟨by rfl, ?hy59⟩) (by assumption) ?rest59
            case hy59 =>
              intro w hSw
              (try dsimp only at hSw)
              go_simp
              try (with_reducible rfl)
            case rest59 =>
            (try simp only [Act.put, List.setIfInBounds_toArray, List.set_cons_zero, List.set_cons_succ])
            refine' wpAnyH_take (i := 12) (oi := ⟨_, _, _, _, _, _⟩) (v := ?v60) rfl (by kernel_rfl) (by kernel_rfl) (by kernel_rfl) (fun _ _ _ h => h) (Or.inl ⟨by rfl, ?hy60⟩) (by assumption) ?rest60
            case hy60 =>
              intro w hSw
              (try dsimp only at hSw)
              go_simp
              try (with_reducible rfl)
            case rest60 =>
            (try simp only [Act.put, List.setIfInBounds_toArray, List.set_cons_zero, List.set_cons_succ])
            refine' wpAnyH_take (i := 13) (oi := ⟨_, _, _, _, _, _⟩) (v := ?v61) rfl (by kernel_rfl) (by kernel_rfl) (by kernel_rfl) (fun _ _ _ h => h) (Or.inl ⟨by rfl, ?hy61⟩) (by assumption) ?rest61
            case hy61 =>
              intro w hSw
              (try dsimp only at hSw)
              go_simp
              try (with_reducible rfl)
            case rest61 =>
            (try simp only [Act.put, List.setIfInBounds_toArray, List.set_cons_zero, List.set_cons_succ])
            refine' wpAnyH_take (i := 14) (oi := ⟨_, _, _, _, _, _⟩) (v := ?v62) rfl (by kernel_rfl) (by kernel_rfl) (by kernel_rfl) (fun _ _ _ h => h) (Or.inl ⟨by rfl, ?hy62⟩) (by assumption) ?rest62
            case hy62 =>
              intro w hSw
              (try dsimp only at hSw)
              go_simp
              try (with_reducible rfl)
            case rest62 =>
            (try simp only [Act.put, List.setIfInBounds_toArray, List.set_cons_zero, List.set_cons_succ])
            refine' wpAnyH_take (i := 15) (oi := ⟨_, _, _, _, _, _⟩) (v := ?v63) rfl (by kernel_rfl) (by kernel_rfl) (by kernel_rfl) (fun _ _ _ h => h) (Or.inl ⟨by rfl, ?hy63⟩) (by assumption) ?rest63
            case hy63 =>
              intro w hSw
              (try dsimp only at hSw)
              go_simp
              try (with_reducible rfl)
            case rest63 =>
            (try simp only [Act.put, List.setIfInBounds_toArray, List.set_cons_zero, List.set_cons_succ])
            refine' wpAnyH_take (i := 16) (oi := ⟨_, _, _, _, _, _⟩) (v := ?v64) rfl (by kernel_rfl) (by kernel_rfl) (by kernel_rfl) (fun _ _ _ h => h) (Or.inl ⟨by rfl, ?hy64⟩) (by assumption) ?rest64
            case hy64 =>
              intro w hSw
              (try dsimp only at hSw)
              go_simp
              try (with_reducible rfl)
            case rest64 =>
            (try simp only [Act.put, List.setIfInBounds_toArray, List.set_cons_zero, List.set_cons_succ])
            refine' wpAnyH_take (i := 17) (oi := ⟨_, _, _, _, _, _⟩) (v := ?v65) rfl (by kernel_rfl) (by kernel_rfl) (by kernel_rfl) (fun _ _ _ h => h) (Or.inl ⟨by rfl, ?hy65⟩) (by assumption) ?rest65
            case hy65 =>
              intro w hSw
              (try dsimp only at hSw)
              go_simp
              try (with_reducible rfl)
            case rest65 =>
            (try simp only [Act.put, List.setIfInBounds_toArray, List.set_cons_zero, List.set_cons_succ])
            refine' wpAnyH_take (i := 18) (oi := ⟨_, _, _, _, _, _⟩) (v := ?v66) rfl (by kernel_rfl) (by kernel_rfl) (by kernel_rfl) (fun _ _ _ h => h) (Or.inl ⟨by rfl, ?hy66⟩) (by assumption) ?rest66
            case hy66 =>
              intro w hSw
              (try dsimp only at hSw)
              go_simp
              try (with_reducible rfl)
            case rest66 =>
            (try simp only [Act.put, List.setIfInBounds_toArray, List.set_cons_zero, List.set_cons_succ])
            refine' wpAnyH_take (i := 19) (oi := ⟨_, _, _, _, _, _⟩) (v := ?v67) rfl (by kernel_rfl) (by kernel_rfl) (by kernel_rfl) (fun _ _ _ h => h) (Or.inl ⟨by rfl, ?hy67⟩) (by assumption) ?rest67
            case hy67 =>
              intro w hSw
              (try dsimp only at hSw)
              go_simp
              try (with_reducible rfl)
            case rest67 =>
            (try simp only [Act.put, List.setIfInBounds_toArray, List.set_cons_zero, List.set_cons_succ])
            refine' wpAnyH_take (i := 20) (oi := ⟨_, _, _, _, _, _⟩) (v := ?v68) rfl (by kernel_rfl) (by kernel_rfl) (by kernel_rfl) (fun _ _ _ h => h) (Or.inl ⟨by rfl, ?hy68⟩) (by assumption) ?rest68
            case hy68 =>
              intro w hSw
              (try dsimp only at hSw)
              go_simp
              try (with_reducible rfl)
            case rest68 =>
            (try simp only [Act.put, List.setIfInBounds_toArray, List.set_cons_zero, List.set_cons_succ])
            refine' wpAnyH_take (i := 21) (oi := ⟨_, _, _, _, _, _⟩) (v := ?v69) rfl (by kernel_rfl) (by kernel_rfl) (by kernel_rfl) (fun _ _ _ h => h) (Or.inl ⟨by rfl, ?hy69⟩) (by assumption) ?rest69
            case hy69 =>
              intro w hSw
              (try dsimp only at hSw)
              go_simp
              try (with_reducible rfl)
            case rest69 =>
            (try simp only [Act.put, List.setIfInBounds_toArray, List.set_cons_zero, List.set_cons_succ])
            refine' wpAnyH_take (i := 22) (oi := ⟨_, _, _, _, _, _⟩) (v := ?v70) rfl (by kernel_rfl) (by kernel_rfl) (by kernel_rfl) (fun _ _ _ h => h) (Or.inl ⟨by rfl, ?hy70⟩) (by assumption) ?rest70
            case hy70 =>
              intro w hSw
              (try dsimp only at hSw)
              go_simp
              try (with_reducible rfl)
            case rest70 =>
            (try simp only [Act.put, List.setIfInBounds_toArray, List.set_cons_zero, List.set_cons_succ])
            refine' wpAnyH_take (i := 23) (oi := ⟨_, _, _, _, _, _⟩) (v := ?v71) rfl (by kernel_rfl) (by kernel_rfl) (by kernel_rfl) (fun _ _ _ h => h) (Or.inl ⟨by rfl, ?hy71⟩) (by assumption) ?rest71
            case hy71 =>
              intro w hSw
              (try dsimp only at hSw)
              go_simp
              try (with_reducible rfl)
            case rest71 =>
            (try simp only [Act.put, List.setIfInBounds_toArray, List.set_cons_zero, List.set_cons_succ])
            refine' wpAnyH_take (i := 24) (oi := ⟨_, _, _, _, _, _⟩) (v := ?v72) rfl (by kernel_rfl) (by kernel_rfl) (by kernel_rfl) (fun _ _ _ h => h) (Or.inl ⟨by rfl, ?hy72⟩) (by assumption) ?rest72
            case hy72 =>
              intro w hSw
              (try dsimp only at hSw)
              go_simp
              try (with_reducible rfl)
            case rest72 =>
            (try simp only [Act.put, List.setIfInBounds_toArray, List.set_cons_zero, List.set_cons_succ])
            refine' wpAnyH_take (i := 25) (oi := ⟨_, _, _, _, _, _⟩) (v := ?v73) rfl (by kernel_rfl) (by kernel_rfl) (by kernel_rfl) (fun _ _ _ h => h) (Or.inl ⟨by rfl, ?hy73⟩) (by assumption) ?rest73
            case hy73 =>
              intro w hSw
              (try dsimp only at hSw)
              go_simp
              try (with_reducible rfl)
            case rest73 =>
            (try simp only [Act.put, List.setIfInBounds_toArray, List.set_cons_zero, List.set_cons_succ])
            refine wpAnyH_ready (rs := [26]) (by kernel_rfl) (by simp) ?_
            refine AllReadyH.cons (o := ⟨_, _, _, _, _, _⟩) rfl (fun K hK => ?_) AllReadyH.nil
            go_simp
            (go_at_call 11; refine (Equal_same _ _ _ _ _ a1 a2 a1 a2 (RX1.out.below (by repeat (first | (with_reducible exact Below.refl _ _) | (with_reducible assumption) | (with_reducible refine below_drewN ?_ _) | (with_reducible refine Below.drew ?_) | (with_reducible refine below_ext_of ?_ (by first | exact Nat.le_refl _ | assumption | (simp only [World.size_alloc, World.size_setCell, size_ext, World.heap_drewN]; omega)) _ _) | (with_reducible refine Below.alloc ?_ (by first | exact Nat.le_refl _ | assumption | (simp only [World.size_alloc, World.size_setCell, size_ext, World.heap_drewN]; omega)) _) | (with_reducible refine Below.setCell ?_ (by first | exact Nat.le_refl _ | assumption | (simp only [World.size_alloc, World.size_setCell, size_ext, World.heap_drewN]; omega)) _)))) (RX2.out.below (by repeat (first | (with_reducible exact Below.refl _ _) | (with_reducible assumption) | (with_reducible refine below_drewN ?_ _) | (with_reducible refine Below.drew ?_) | (with_reducible refine below_ext_of ?_ (by first | exact Nat.le_refl _ | assumption | (simp only [World.size_alloc, World.size_setCell, size_ext, World.heap_drewN]; omega)) _ _) | (with_reducible refine Below.alloc ?_ (by first | exact Nat.le_refl _ | assumption | (simp only [World.size_alloc, World.size_setCell, size_ext, World.heap_drewN]; omega)) _) | (with_reducible refine Below.setCell ?_ (by first | exact Nat.le_refl _ | assumption | (simp only [World.size_alloc, World.size_setCell, size_ext, World.heap_drewN]; omega)) _)))) (RA1.out.below (by repeat (first | (with_reducible exact Below.refl _ _) | (with_reducible assumption) | (with_reducible refine below_drewN ?_ _) | (with_reducible refine Below.drew ?_) | (with_reducible refine below_ext_of ?_ (by first | exact Nat.le_refl _ | assumption | (simp only [World.size_alloc, World.size_setCell, size_ext, World.heap_drewN]; omega)) _ _) | (with_reducible refine Below.alloc ?_ (by first | exact Nat.le_refl _ | assumption | (simp only [World.size_alloc, World.size_setCell, size_ext, World.heap_drewN]; omega)) _) | (with_reducible refine Below.setCell ?_ (by first | exact Nat.le_refl _ | assumption | (simp only [World.size_alloc, World.size_setCell, size_ext, World.heap_drewN]; omega)) _)))) (RA2.out.below (by repeat (first | (with_reducible exact Below.refl _ _) | (with_reducible assumption) | (with_reducible refine below_drewN ?_ _) | (with_reducible refine Below.drew ?_) | (with_reducible refine below_ext_of ?_ (by first | exact Nat.le_refl _ | assumption | (simp only [World.size_alloc, World.size_setCell, size_ext, World.heap_drewN]; omega)) _ _) | (with_reducible refine Below.alloc ?_ (by first | exact Nat.le_refl _ | assumption | (simp only [World.size_alloc, World.size_setCell, size_ext, World.heap_drewN]; omega)) _) | (with_reducible refine Below.setCell ?_ (by first | exact Nat.le_refl _ | assumption | (simp only [World.size_alloc, World.size_setCell, size_ext, World.heap_drewN]; omega)) _)))) rfl rfl).mono ?_; rintro e wx ⟨rfl, hbx⟩; obtain ⟨Xx, dx, rfl⟩ := below_ext hbx; clear hbx; go_simp)
            refine hK.out _ _ ?hS74 (fun hHeld2 => ?go74)
            case hS74 =>
              (try dsimp only)
              try go_simp
            case go74 =>
            clear hK K
            clear hHeld
            have hHeld := hHeld2
            clear hHeld2
            (try simp only [Act.put, List.setIfInBounds_toArray, List.set_cons_zero, List.set_cons_succ])
            refine' wpAnyH_take (i := 27) (oi := ⟨_, _, _, _, _, _⟩) (v := ?v75) rfl (by kernel_rfl) (by kernel_rfl) (by kernel_rfl) (fun _ _ _ h => h) (Or.inl ⟨by rfl, ?hy75⟩) (by assumption) ?rest75
            case hy75 =>
              intro w hSw
              (try dsimp only at hSw)
              go_simp
              try (with_reducible rfl)
            case rest75 =>
            (try simp only [Act.put, List.setIfInBounds_toArray, List.set_cons_zero, List.set_cons_succ])
            refine' wpAnyH_take (i := 28) (oi := ⟨_, _, _, _, _, _⟩) (v := ?v76) rfl (by kernel_rfl) (by kernel_rfl) (by kernel_rfl) (fun _ _ _ h => h) (Or.inl ⟨by rfl, ?hy76⟩) (by assumption) ?rest76
            case hy76 =>
              intro w hSw
              (try dsimp only at hSw)
              go_simp
              try (with_reducible rfl)
            case rest76 =>
            (try simp only [Act.put, List.setIfInBounds_toArray, List.set_cons_zero, List.set_cons_succ])
            refine wpAnyH_done (by kernel_rfl) ?_ _
            go_wp2_with fail
            go_meet
            case rel => exact ⟨rfl, _, rfl, HBR.out.trans (Below.mono (by repeat (first | (with_reducible exact Below.refl _ _) | (with_reducible assumption) | (with_reducible refine below_drewN ?_ _) | (with_reducible refine Below.drew ?_) | (with_reducible refine below_ext_of ?_ (by first | exact Nat.le_refl _ | assumption | (simp only [World.size_alloc, World.size_setCell, size_ext, World.heap_drewN]; omega)) _ _) | (with_reducible refine Below.alloc ?_ (by first | exact Nat.le_refl _ | assumption | (simp only [World.size_alloc, World.size_setCell, size_ext, World.heap_drewN]; omega)) _) | (with_reducible refine Below.setCell ?_ (by first | exact Nat.le_refl _ | assumption | (simp only [World.size_alloc, World.size_setCell, size_ext, World.heap_drewN]; omega)) _))) HBR.out.size)⟩
          case rest =>
          obtain ⟨rfl, V3, rfl, hB⟩ := hcut
          replace RA1 := Lib.hid (RA1.out.below hB)
          replace RA2 := Lib.hid (RA2.out.below hB)
          replace RB1 := Lib.hid (RB1.out.below hB)
          replace RB2 := Lib.hid (RB2.out.below hB)
          replace RX1 := Lib.hid (RX1.out.below hB)
          replace RX2 := Lib.hid (RX2.out.below hB)
          replace RN1 := Lib.hid (RN1.out.below hB)
          replace RN2 := Lib.hid (RN2.out.below hB)
          replace HVB := Lib.hid (HVB.out.trans (hB.mono HVB.out.size))
          replace Kb0 := keep_cell hB Nb Kb0
          replace Kb1 := keep_cell hB Nb Kb1
          replace Nb := Nat.lt_of_lt_of_le Nb hB.size
          replace Ka0 := keep_cell hB Na Ka0
          replace Ka1 := keep_cell hB Na Ka1
          replace Na := Nat.lt_of_lt_of_le Na hB.size
          replace Kx0 := keep_cell hB Nx Kx0
          replace Kx1 := keep_cell hB Nx Kx1
          replace Nx := Nat.lt_of_lt_of_le Nx hB.size
          replace Kn0 := keep_cell hB Nn Kn0
          replace Kn1 := keep_cell hB Nn Kn1
          replace Nn := Nat.lt_of_lt_of_le Nn hB.size
          clear hB
          go_wp2_with fail
          refine (rat_any _ _ _ a1 a2 m (RA1.out.below (by repeat (first | (with_reducible exact Below.refl _ _) | (with_reducible assumption) | (with_reducible refine below_drewN ?_ _) | (with_reducible refine Below.drew ?_) | (with_reducible refine below_ext_of ?_ (by first | exact Nat.le_refl _ | assumption | (simp only [World.size_alloc, World.size_setCell, size_ext, World.heap_drewN]; omega)) _ _) | (with_reducible refine Below.alloc ?_ (by first | exact Nat.le_refl _ | assumption | (simp only [World.size_alloc, World.size_setCell, size_ext, World.heap_drewN]; omega)) _) | (with_reducible refine Below.setCell ?_ (by first | exact Nat.le_refl _ | assumption | (simp only [World.size_alloc, World.size_setCell, size_ext, World.heap_drewN]; omega)) _)))) (RA2.out.below (by repeat (first | (with_reducible exact Below.refl _ _) | (with_reducible assumption) | (with_reducible refine below_drewN ?_ _) | (with_reducible refine Below.drew ?_) | (with_reducible refine below_ext_of ?_ (by first | exact Nat.le_refl _ | assumption | (simp only [World.size_alloc, World.size_setCell, size_ext, World.heap_drewN]; omega)) _ _) | (with_reducible refine Below.alloc ?_ (by first | exact Nat.le_refl _ | assumption | (simp only [World.size_alloc, World.size_setCell, size_ext, World.heap_drewN]; omega)) _) | (with_reducible refine Below.setCell ?_ (by first | exact Nat.le_refl _ | assumption | (simp only [World.size_alloc, World.size_setCell, size_ext, World.heap_drewN]; omega)) _)))) HML.out.1 (by have := HN.out; omega) (by have := HML.out.2.2; omega)).mono ?_
          rintro e W9 ⟨rfl, hb⟩
          have hB : Below V3.heap.size V3 W9 := Below.trans (by repeat (first | (with_reducible exact Below.refl _ _) | (with_reducible assumption) | (with_reducible refine below_drewN ?_ _) | (with_reducible refine Below.drew ?_) | (with_reducible refine below_ext_of ?_ (by first | exact Nat.le_refl _ | assumption | (simp only [World.size_alloc, World.size_setCell, size_ext, World.heap_drewN]; omega)) _ _) | (with_reducible refine Below.alloc ?_ (by first | exact Nat.le_refl _ | assumption | (simp only [World.size_alloc, World.size_setCell, size_ext, World.heap_drewN]; omega)) _) | (with_reducible refine Below.setCell ?_ (by first | exact Nat.le_refl _ | assumption | (simp only [World.size_alloc, World.size_setCell, size_ext, World.heap_drewN]; omega)) _))) (hb.mono (by simp [go_sem] <;> omega))
          replace RA1 := Lib.hid (RA1.out.below hB)
          replace RA2 := Lib.hid (RA2.out.below hB)
          replace RB1 := Lib.hid (RB1.out.below hB)
          replace RB2 := Lib.hid (RB2.out.below hB)
          replace RX1 := Lib.hid (RX1.out.below hB)
          replace RX2 := Lib.hid (RX2.out.below hB)
          replace RN1 := Lib.hid (RN1.out.below hB)
          replace RN2 := Lib.hid (RN2.out.below hB)
          replace HVB := Lib.hid (HVB.out.trans (hB.mono HVB.out.size))
          replace Kb0 := keep_cell hB Nb Kb0
          replace Kb1 := keep_cell hB Nb Kb1
          replace Nb := Nat.lt_of_lt_of_le Nb hB.size
          replace Ka0 := keep_cell hB Na Ka0
          replace Ka1 := keep_cell hB Na Ka1
          replace Na := Nat.lt_of_lt_of_le Na hB.size
          replace Kx0 := keep_cell hB Nx Kx0
          replace Kx1 := keep_cell hB Nx Kx1
          replace Nx := Nat.lt_of_lt_of_le Nx hB.size
          replace Kn0 := keep_cell hB Nn Kn0
          replace Kn1 := keep_cell hB Nn Kn1
          replace Nn := Nat.lt_of_lt_of_le Nn hB.size
          rw [HZ.out]
          clear hb hB
          go_wp2_with fail
          refine (works_any _).mono ?_
          rintro e W10 ⟨rfl, hb⟩
          have hB : Below W9.heap.size W9 W10 := Below.trans (by repeat (first | (with_reducible exact Below.refl _ _) | (with_reducible assumption) | (with_reducible refine below_drewN ?_ _) | (with_reducible refine Below.drew ?_) | (with_reducible refine below_ext_of ?_ (by first | exact Nat.le_refl _ | assumption | (simp only [World.size_alloc, World.size_setCell, size_ext, World.heap_drewN]; omega)) _ _) | (with_reducible refine Below.alloc ?_ (by first | exact Nat.le_refl _ | assumption | (simp only [World.size_alloc, World.size_setCell, size_ext, World.heap_drewN]; omega)) _) | (with_reducible refine Below.setCell ?_ (by first | exact Nat.le_refl _ | assumption | (simp only [World.size_alloc, World.size_setCell, size_ext, World.heap_drewN]; omega)) _))) (hb.mono (by simp [go_sem] <;> omega))
          replace RA1 := Lib.hid (RA1.out.below hB)
          replace RA2 := Lib.hid (RA2.out.below hB)
          replace RB1 := Lib.hid (RB1.out.below hB)
          replace RB2 := Lib.hid (RB2.out.below hB)
          replace RX1 := Lib.hid (RX1.out.below hB)
          replace RX2 := Lib.hid (RX2.out.below hB)
          replace RN1 := Lib.hid (RN1.out.below hB)
          replace RN2 := Lib.hid (RN2.out.below hB)
          replace HVB := Lib.hid (HVB.out.trans (hB.mono HVB.out.size))
          replace Kb0 := keep_cell hB Nb Kb0
          replace Kb1 := keep_cell hB Nb Kb1
          replace Nb := Nat.lt_of_lt_of_le Nb hB.size
          replace Ka0 := keep_cell hB Na Ka0
          replace Ka1 := keep_cell hB Na Ka1
          replace Na := Nat.lt_of_lt_of_le Na hB.size
          replace Kx0 := keep_cell hB Nx Kx0
          replace Kx1 := keep_cell hB Nx Kx1
          replace Nx := Nat.lt_of_lt_of_le Nx hB.size
          replace Kn0 := keep_cell hB Nn Kn0
          replace Kn1 := keep_cell hB Nn Kn1
          replace Nn := Nat.lt_of_lt_of_le Nn hB.size
          clear hb hB
          go_wp2_with fail
          go_ret
          exact ⟨rfl, HVB.out⟩
end Go.Proofs.Ytpcnapmlmhhcpaa
