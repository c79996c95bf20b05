/-
  words.Norm, Same: contracts.
  Conditions: the rows lie in memory.
-/
import Derived.Test.YtpcnapmlmhhcpaaWf
import Derived.WalkKit
import Derived.WalkSpells
import Derived.WalkLawsBesides
import Derived.Deep.QuietTactic
import Derived.BigQuiet
import Derived.Lib.Hide
import Derived.Handy
import Derived.Deep.AppendLies
import Derived.Maps.AppendAt
import Derived.OwnWalk
import Derived.Lib.LazyBuf
import Derived.Deep.DeepCutAuto
import Derived.Deep.RegionLaw
import Derived.Deep.RegionHeld3
import Derived.Deep.RegionWith
import Derived.BigRegion
set_option linter.unusedVariables false
set_option linter.unusedSimpArgs false
namespace Go.Proofs.Ytpcnapmlmhhcpaa
open Go.RowKit 
attribute [local go_sem] setCell_drewN alloc_drewN size_ext ext_ext ext_drewN ext_drew drewN_ext drew_ext cell?_ext frozen?_ext setCell_ext cell?_past1 frozen?_past1 setCell_past1 cell?_past2 frozen?_past2 setCell_past2 cell?_past3 frozen?_past3 setCell_past3 cell?_past4 frozen?_past4 setCell_past4 cell?_past5 frozen?_past5 setCell_past5 cell?_past6 frozen?_past6 setCell_past6 cell?_past7 frozen?_past7 setCell_past7 cell?_past8 frozen?_past8 setCell_past8

/-- What the short one is, or the empty word where it is too long; and the error's number. -/
def outH (h l : List Int) : List Int := if fits h l = true then sHead h l else []
def outL (h l : List Int) : List Int := if fits h l = true then sLoop h l else []
def outE (h l : List Int) : Int := if fits h l = true then 0 else 4
def Norms (w' : World) (B : Nat) (h l : List Int) (e : Ending) : Prop := ∃ v1 v2, e = .returned (.tuple #[.agg #[v1, v2], .int .i64 (outE h l)]) ∧ Fresh w' B v1 (outH h l) ∧ Fresh w' B v2 (outL h l) ∧ Apart v1 v2
theorem Apart.nil : Apart (.slice none 0 0) (.slice none 0 0) := fun k h => by cases h
theorem Shorted.form {w' : World} {B : Nat} {h l : List Int} {e : Ending} (hS : Shorted w' B h l e) : Norms w' B h l e := by
  unfold Shorted at hS
  unfold Norms outH outL outE
  split at hS
  · rename_i hf
    rw [if_pos hf, if_pos hf, if_pos hf]
    exact hS
  · rename_i hf
    rw [if_neg hf, if_neg hf, if_neg hf]
    exact ⟨_, _, hS, Fresh.nil _ _, Fresh.nil _ _, Apart.nil⟩
theorem may_len {h l : List Int} (hm : may h l = true) : 0 < l.length ∧ l.length ≤ 4096 ∧ h.length ≤ 4096 := by
  unfold may at hm
  simp only [Bool.and_eq_true, decide_eq_true_eq] at hm
  omega
theorem word_below {w w' : World} {vh vl : Value} {h l : List Int} (h1 : RowAt w vh h) (h2 : RowAt w vl l) (hb : Below w.heap.size w w') : RowAt w' vh h ∧ RowAt w' vl l := ⟨h1.below hb, h2.below hb⟩
set_option maxHeartbeats 2000000 in
theorem norm_no (w : World) (vh vl : Value) (h l : List Int) (h1 : RowAt w vh h) (h2 : RowAt w vl l) (hm : may h l = false) : Calls Try.prog 30 #[.agg #[vh, vl]] w fun e w' => e = .returned (.tuple #[.agg #[.slice none 0 0, .slice none 0 0], .int .i64 2]) ∧ Below w.heap.size w w' := by
  have Hm := Lib.hid hm
  have H1 := Lib.hid h1
  have H2 := Lib.hid h2
  obtain ⟨ph, ch, rfl, rh⟩ := h1
  obtain ⟨pl, cl, rfl, rl⟩ := h2
  clear rh rl hm
  go_enter Try.func30, Try.ntmps30
  go_wp2_with fail
  refine (may_any _ _ _ h l (H1.out.below (by repeat (first | (with_reducible exact Below.refl _ _) | (with_reducible assumption) | (with_reducible refine below_drewN ?_ _) | (with_reducible refine Below.drew ?_) | (with_reducible refine below_ext_of ?_ (by first | exact Nat.le_refl _ | assumption | (simp only [World.size_alloc, World.size_setCell, size_ext, World.heap_drewN]; omega)) _ _) | (with_reducible refine Below.alloc ?_ (by first | exact Nat.le_refl _ | assumption | (simp only [World.size_alloc, World.size_setCell, size_ext, World.heap_drewN]; omega)) _) | (with_reducible refine Below.setCell ?_ (by first | exact Nat.le_refl _ | assumption | (simp only [World.size_alloc, World.size_setCell, size_ext, World.heap_drewN]; omega)) _)))) (H2.out.below (by repeat (first | (with_reducible exact Below.refl _ _) | (with_reducible assumption) | (with_reducible refine below_drewN ?_ _) | (with_reducible refine Below.drew ?_) | (with_reducible refine below_ext_of ?_ (by first | exact Nat.le_refl _ | assumption | (simp only [World.size_alloc, World.size_setCell, size_ext, World.heap_drewN]; omega)) _ _) | (with_reducible refine Below.alloc ?_ (by first | exact Nat.le_refl _ | assumption | (simp only [World.size_alloc, World.size_setCell, size_ext, World.heap_drewN]; omega)) _) | (with_reducible refine Below.setCell ?_ (by first | exact Nat.le_refl _ | assumption | (simp only [World.size_alloc, World.size_setCell, size_ext, World.heap_drewN]; omega)) _))))).mono ?_
  rintro e w1 ⟨rfl, hb⟩
  rw [Hm.out]
  obtain ⟨X, d, rfl⟩ := below_ext hb
  clear hb
  go_wp2_with fail
  refine bodyPost_ret (v := .tuple #[.agg #[.slice none 0 0, .slice none 0 0], .int .i64 2]) (by simp [results, Try.results30, go_sem]) rfl ⟨rfl, ?_⟩
  repeat (first | (with_reducible exact Below.refl _ _) | (with_reducible assumption) | (with_reducible refine below_drewN ?_ _) | (with_reducible refine Below.drew ?_) | (with_reducible refine below_ext_of ?_ (by first | exact Nat.le_refl _ | assumption | (simp only [World.size_alloc, World.size_setCell, size_ext, World.heap_drewN]; omega)) _ _) | (with_reducible refine Below.alloc ?_ (by first | exact Nat.le_refl _ | assumption | (simp only [World.size_alloc, World.size_setCell, size_ext, World.heap_drewN]; omega)) _) | (with_reducible refine Below.setCell ?_ (by first | exact Nat.le_refl _ | assumption | (simp only [World.size_alloc, World.size_setCell, size_ext, World.heap_drewN]; omega)) _))
set_option maxHeartbeats 2000000 in
theorem norm_ok (w : World) (vh vl : Value) (h l : List Int) (h1 : RowAt w vh h) (h2 : RowAt w vl l) (hm : may h l = true) : Calls Try.prog 30 #[.agg #[vh, vl]] w fun e w' => Below w.heap.size w w' ∧ Norms w' w.heap.size h l e := by
  obtain ⟨m1, m2, m3⟩ := may_len hm
  have Hm := Lib.hid hm
  have H1 := Lib.hid h1
  have H2 := Lib.hid h2
  obtain ⟨ph, ch, rfl, rh⟩ := h1
  obtain ⟨pl, cl, rfl, rl⟩ := h2
  clear rh rl hm
  go_enter Try.func30, Try.ntmps30
  go_wp2_with fail
  refine (may_any _ _ _ h l (H1.out.below (by repeat (first | (with_reducible exact Below.refl _ _) | (with_reducible assumption) | (with_reducible refine below_drewN ?_ _) | (with_reducible refine Below.drew ?_) | (with_reducible refine below_ext_of ?_ (by first | exact Nat.le_refl _ | assumption | (simp only [World.size_alloc, World.size_setCell, size_ext, World.heap_drewN]; omega)) _ _) | (with_reducible refine Below.alloc ?_ (by first | exact Nat.le_refl _ | assumption | (simp only [World.size_alloc, World.size_setCell, size_ext, World.heap_drewN]; omega)) _) | (with_reducible refine Below.setCell ?_ (by first | exact Nat.le_refl _ | assumption | (simp only [World.size_alloc, World.size_setCell, size_ext, World.heap_drewN]; omega)) _)))) (H2.out.below (by repeat (first | (with_reducible exact Below.refl _ _) | (with_reducible assumption) | (with_reducible refine below_drewN ?_ _) | (with_reducible refine Below.drew ?_) | (with_reducible refine below_ext_of ?_ (by first | exact Nat.le_refl _ | assumption | (simp only [World.size_alloc, World.size_setCell, size_ext, World.heap_drewN]; omega)) _ _) | (with_reducible refine Below.alloc ?_ (by first | exact Nat.le_refl _ | assumption | (simp only [World.size_alloc, World.size_setCell, size_ext, World.heap_drewN]; omega)) _) | (with_reducible refine Below.setCell ?_ (by first | exact Nat.le_refl _ | assumption | (simp only [World.size_alloc, World.size_setCell, size_ext, World.heap_drewN]; omega)) _))))).mono ?_
  rintro e w1 ⟨rfl, hb⟩
  rw [Hm.out]
  obtain ⟨X, d, rfl⟩ := below_ext hb
  clear hb
  go_wp2_with fail
  refine (short_any _ _ _ h l (H1.out.below (by repeat (first | (with_reducible exact Below.refl _ _) | (with_reducible assumption) | (with_reducible refine below_drewN ?_ _) | (with_reducible refine Below.drew ?_) | (with_reducible refine below_ext_of ?_ (by first | exact Nat.le_refl _ | assumption | (simp only [World.size_alloc, World.size_setCell, size_ext, World.heap_drewN]; omega)) _ _) | (with_reducible refine Below.alloc ?_ (by first | exact Nat.le_refl _ | assumption | (simp only [World.size_alloc, World.size_setCell, size_ext, World.heap_drewN]; omega)) _) | (with_reducible refine Below.setCell ?_ (by first | exact Nat.le_refl _ | assumption | (simp only [World.size_alloc, World.size_setCell, size_ext, World.heap_drewN]; omega)) _)))) (H2.out.below (by repeat (first | (with_reducible exact Below.refl _ _) | (with_reducible assumption) | (with_reducible refine below_drewN ?_ _) | (with_reducible refine Below.drew ?_) | (with_reducible refine below_ext_of ?_ (by first | exact Nat.le_refl _ | assumption | (simp only [World.size_alloc, World.size_setCell, size_ext, World.heap_drewN]; omega)) _ _) | (with_reducible refine Below.alloc ?_ (by first | exact Nat.le_refl _ | assumption | (simp only [World.size_alloc, World.size_setCell, size_ext, World.heap_drewN]; omega)) _) | (with_reducible refine Below.setCell ?_ (by first | exact Nat.le_refl _ | assumption | (simp only [World.size_alloc, World.size_setCell, size_ext, World.heap_drewN]; omega)) _)))) m1 (by omega) (by omega)).mono ?_
  rintro e w1 ⟨hb, hS⟩
  obtain ⟨v1, v2, rfl, o1, o2, hap⟩ := hS.form
  have r1 := o1.row
  have r2 := o2.row
  have R1 := Lib.hid o1
  have R2 := Lib.hid o2
  have HAP := Lib.hid hap
  clear o1 o2 hap
  obtain ⟨p1, c1, rfl, _⟩ := r1
  obtain ⟨p2, c2, rfl, _⟩ := r2
  have hbw : Below w.heap.size w w1 := Below.trans (by repeat (first | (with_reducible exact Below.refl _ _) | (with_reducible assumption) | (with_reducible refine below_drewN ?_ _) | (with_reducible refine Below.drew ?_) | (with_reducible refine below_ext_of ?_ (by first | exact Nat.le_refl _ | assumption | (simp only [World.size_alloc, World.size_setCell, size_ext, World.heap_drewN]; omega)) _ _) | (with_reducible refine Below.alloc ?_ (by first | exact Nat.le_refl _ | assumption | (simp only [World.size_alloc, World.size_setCell, size_ext, World.heap_drewN]; omega)) _) | (with_reducible refine Below.setCell ?_ (by first | exact Nat.le_refl _ | assumption | (simp only [World.size_alloc, World.size_setCell, size_ext, World.heap_drewN]; omega)) _))) (hb.mono (by simp [go_sem]; omega))
  have hblk : w1.heap[w.heap.size + 1]? = some (.cells #[.slice none 0 0, .slice none 0 0] 24) := by
    rw [hb.block _ (by simp [go_sem]; omega), (ext_below _ _ _).block _ (by simp)]
    have := heap_alloc_new (w.alloc (.cells #[.slice ph h.length ch, .slice pl l.length cl] 24)) (.cells #[.slice none 0 0, .slice none 0 0] 24)
    rwa [World.size_alloc] at this
  have k0 : w1.cell? ⟨w.heap.size + 1, 0, none⟩ = some (.slice none 0 0) := by simp [World.cell?, hblk]
  have k1 : w1.cell? ⟨w.heap.size + 1, 1, none⟩ = some (.slice none 0 0) := by simp [World.cell?, hblk]
  have kf : ∀ o, w1.frozen? ⟨w.heap.size + 1, o, none⟩ = false := fun o => by simp [World.frozen?, hblk]
  have hz : w.heap.size + 1 < w1.heap.size := (Array.getElem?_eq_some_iff.1 hblk).1
  have HB := Lib.hid hbw
  have HK := Lib.hid hblk
  clear hb hS hbw hblk
  generalize (outH h l).length = q1 at *
  generalize (outL h l).length = q2 at *
  go_wp2_with fail
  have hb2 : (w1.setCell ⟨w.heap.size + 1, 0, none⟩ (.slice p1 q1 c1)).heap[w.heap.size + 1]? = some (.cells #[.slice p1 q1 c1, .slice none 0 0] 24) := by
    simp only [World.setCell, Array.getElem?_modify, if_pos, HK.out]; rfl
  refine bodyPost_ret (v := .tuple #[.agg #[.slice p1 q1 c1, .slice p2 q2 c2], .int .i64 (outE h l)]) (by simp [results, Try.results30, go_sem, k0, k1, hz]) rfl ⟨?_, _, _, rfl, ((R1.out.put (b := w.heap.size + 1) (by simp [go_sem]; omega) 0 _).put (b := w.heap.size + 1) (by simp [go_sem]; omega) 1 _).mono (by simp [go_sem]; omega), ((R2.out.put (b := w.heap.size + 1) (by simp [go_sem]; omega) 0 _).put (b := w.heap.size + 1) (by simp [go_sem]; omega) 1 _).mono (by simp [go_sem]; omega), HAP.out⟩
  exact (HB.out.setCell (p := ⟨w.heap.size + 1, 0, none⟩) (Nat.le_succ _) _).setCell (p := ⟨w.heap.size + 1, 1, none⟩) (Nat.le_succ _) _
end Go.Proofs.Ytpcnapmlmhhcpaa
