/-
  Drop, Cons, Up and Down of words that may be, number and short of the law: contracts, by their plain answers.
  Conditions: the rows lie in memory.
-/
import Derived.Test.YtpcnapmlmhhcpaaCc
import Derived.WalkKit
import Derived.WalkSpells
import Derived.WalkLawsBesides
import Derived.Deep.QuietTactic
import Derived.BigQuiet
import Derived.Lib.Hide
import Derived.Handy
import Derived.Test.YtpcnapmlmhhcpaaCd
import Derived.Test.YtpcnapmlmhhcpaaWv2
set_option linter.unusedVariables false
set_option linter.unusedSimpArgs false
namespace Go.Proofs.Ytpcnapmlmhhcpaa
open Go.RowKit 
open Big
attribute [local go_sem] setCell_drewN alloc_drewN size_ext ext_ext ext_drewN ext_drew drewN_ext drew_ext cell?_ext frozen?_ext setCell_ext cell?_past1 frozen?_past1 setCell_past1 cell?_past2 frozen?_past2 setCell_past2 cell?_past3 frozen?_past3 setCell_past3 cell?_past4 frozen?_past4 setCell_past4 cell?_past5 frozen?_past5 setCell_past5 cell?_past6 frozen?_past6 setCell_past6 cell?_past7 frozen?_past7 setCell_past7 cell?_past8 frozen?_past8 setCell_past8

theorem norms_out {w' : World} {B : Nat} {A C x y : List Int} {z : Int} {en : Ending} (hz : outT A C = (x, y, z)) (hN : Norms w' B A C en) : ∃ p1 c1 p2 c2, en = .returned (.tuple #[.agg #[.slice p1 x.length c1, .slice p2 y.length c2], .int .i64 z]) ∧ RowAt w' (.slice p1 x.length c1) x ∧ RowAt w' (.slice p2 y.length c2) y := by
  obtain ⟨v1, v2, rfl, o1, o2, _⟩ := hN
  unfold outT at hz
  injection hz with e1 e2
  injection e2 with e2 e3
  rw [e1] at o1
  rw [e2] at o2
  rw [e3]
  have r1 := o1.row
  have r2 := o2.row
  obtain ⟨p1, c1, rfl, _⟩ := id r1
  obtain ⟨p2, c2, rfl, _⟩ := id r2
  exact ⟨p1, c1, p2, c2, rfl, r1, r2⟩
theorem drop_call (w : World) (v1 v2 : Value) (h l x y : List Int) (z : Int) (k : Nat) (hk : k < 9223372036854775808) (h1 : RowAt w v1 h) (h2 : RowAt w v2 l) (hm : may h l = true) (hz : dropT h l k = (x, y, z)) :
    Calls Try.prog 13 #[.agg #[v1, v2], .int .i64 (k : Int)] w fun en w' => Below w.heap.size w w' ∧ ∃ p1 c1 p2 c2, en = .returned (.tuple #[.agg #[.slice p1 x.length c1, .slice p2 y.length c2], .int .i64 z]) ∧ RowAt w' (.slice p1 x.length c1) x ∧ RowAt w' (.slice p2 y.length c2) y :=
  (drop_ok w v1 v2 h l k h1 h2 hm hk).mono fun e w' hN => ⟨hN.1, norms_out hz hN.2⟩
theorem cons_call (w : World) (v1 v2 : Value) (h l x y : List Int) (z : Int) (v : Int) (h1 : RowAt w v1 h) (h2 : RowAt w v2 l) (hm : may h l = true) (hz : outT (v :: h) l = (x, y, z)) :
    Calls Try.prog 14 #[.int .i64 v, .agg #[v1, v2]] w fun en w' => Below w.heap.size w w' ∧ ∃ p1 c1 p2 c2, en = .returned (.tuple #[.agg #[.slice p1 x.length c1, .slice p2 y.length c2], .int .i64 z]) ∧ RowAt w' (.slice p1 x.length c1) x ∧ RowAt w' (.slice p2 y.length c2) y :=
  (cons_ok w v v1 v2 h l h1 h2 hm).mono fun e w' hN => ⟨hN.1, norms_out hz hN.2⟩
theorem down_call (w : World) (v1 v2 : Value) (h l x y : List Int) (z : Int) (k : Nat) (hk : 0 < k) (hk2 : k ≤ 1099511627776) (h1 : RowAt w v1 h) (h2 : RowAt w v2 l) (hm : may h l = true) (hz : downT h l k = (x, y, z)) :
    Calls Try.prog 16 #[.agg #[v1, v2], .int .i64 (k : Int)] w fun en w' => Below w.heap.size w w' ∧ ∃ p1 c1 p2 c2, en = .returned (.tuple #[.agg #[.slice p1 x.length c1, .slice p2 y.length c2], .int .i64 z]) ∧ RowAt w' (.slice p1 x.length c1) x ∧ RowAt w' (.slice p2 y.length c2) y :=
  (down_ok w v1 v2 h l k h1 h2 hm hk hk2).mono fun e w' hN => ⟨hN.1, norms_out hz hN.2⟩
theorem up_call (w : World) (v1 v2 : Value) (h l x y : List Int) (z : Int) (k : Nat) (hk : 0 < k) (hk2 : k < 9223372036854775808) (h1 : RowAt w v1 h) (h2 : RowAt w v2 l) (hm : may h l = true) (hz : upOut (nH h l) (nL h l) k = (x, y, z)) :
    Calls Try.prog 15 #[.agg #[v1, v2], .int .i64 (k : Int)] w fun en w' => Below w.heap.size w w' ∧ ∃ p1 c1 p2 c2, en = .returned (.tuple #[.agg #[.slice p1 x.length c1, .slice p2 y.length c2], .int .i64 z]) ∧ RowAt w' (.slice p1 x.length c1) x ∧ RowAt w' (.slice p2 y.length c2) y := by
  refine (up_ok w v1 v2 h l k h1 h2 hm hk hk2).mono ?_
  rw [hz]
  rintro e w' ⟨hb, v1, v2, rfl, o1, o2, _⟩
  have r1 := o1.row
  have r2 := o2.row
  obtain ⟨p1, c1, rfl, _⟩ := id r1
  obtain ⟨p2, c2, rfl, _⟩ := id r2
  exact ⟨hb, p1, c1, p2, c2, rfl, r1, r2⟩
theorem number_is (w : World) (v1 v2 : Value) (h l : List Int) (n : Nat) (r : Int) (h1 : RowAt w v1 h) (h2 : RowAt w v2 l) (hm : may h l = true) (hn : n < 9223372036854775808) (hr : num h l n = r) : Calls Try.prog 25 #[.agg #[v1, v2], .int .i64 (n : Int)] w fun e w' => e = .returned (.int .i64 r) ∧ Below w.heap.size w w' := by
  subst hr
  have H1 := Lib.hid h1
  have H2 := Lib.hid h2
  obtain ⟨ph, ch, rfl, _⟩ := h1
  obtain ⟨pl, cl, rfl, _⟩ := h2
  go_enter Try.func25, Try.ntmps25
  go_wp2_with fail
  refine (At_ok _ _ _ h l n (H1.out.below (by repeat (first | (with_reducible exact Below.refl _ _) | (with_reducible assumption) | (with_reducible refine below_drewN ?_ _) | (with_reducible refine Below.drew ?_) | (with_reducible refine below_ext_of ?_ (by first | exact Nat.le_refl _ | assumption | (simp only [World.size_alloc, World.size_setCell, size_ext, World.heap_drewN]; omega)) _ _) | (with_reducible refine Below.alloc ?_ (by first | exact Nat.le_refl _ | assumption | (simp only [World.size_alloc, World.size_setCell, size_ext, World.heap_drewN]; omega)) _) | (with_reducible refine Below.setCell ?_ (by first | exact Nat.le_refl _ | assumption | (simp only [World.size_alloc, World.size_setCell, size_ext, World.heap_drewN]; omega)) _)))) (H2.out.below (by repeat (first | (with_reducible exact Below.refl _ _) | (with_reducible assumption) | (with_reducible refine below_drewN ?_ _) | (with_reducible refine Below.drew ?_) | (with_reducible refine below_ext_of ?_ (by first | exact Nat.le_refl _ | assumption | (simp only [World.size_alloc, World.size_setCell, size_ext, World.heap_drewN]; omega)) _ _) | (with_reducible refine Below.alloc ?_ (by first | exact Nat.le_refl _ | assumption | (simp only [World.size_alloc, World.size_setCell, size_ext, World.heap_drewN]; omega)) _) | (with_reducible refine Below.setCell ?_ (by first | exact Nat.le_refl _ | assumption | (simp only [World.size_alloc, World.size_setCell, size_ext, World.heap_drewN]; omega)) _)))) hm hn).mono ?_
  rintro e w1 ⟨rfl, hb⟩
  obtain ⟨X, d, rfl⟩ := below_ext hb
  clear hb
  go_wp2_with fail
  go_ret
  exact ⟨rfl, by repeat (first | (with_reducible exact Below.refl _ _) | (with_reducible assumption) | (with_reducible refine below_drewN ?_ _) | (with_reducible refine Below.drew ?_) | (with_reducible refine below_ext_of ?_ (by first | exact Nat.le_refl _ | assumption | (simp only [World.size_alloc, World.size_setCell, size_ext, World.heap_drewN]; omega)) _ _) | (with_reducible refine Below.alloc ?_ (by first | exact Nat.le_refl _ | assumption | (simp only [World.size_alloc, World.size_setCell, size_ext, World.heap_drewN]; omega)) _) | (with_reducible refine Below.setCell ?_ (by first | exact Nat.le_refl _ | assumption | (simp only [World.size_alloc, World.size_setCell, size_ext, World.heap_drewN]; omega)) _))⟩
theorem same_true (w : World) (v1 v2 v3 v4 : Value) (a b c d : List Int) (h1 : RowAt w v1 a) (h2 : RowAt w v2 b) (h3 : RowAt w v3 c) (h4 : RowAt w v4 d) (hs : same a b c d = true) : Calls Try.prog 26 #[.agg #[v1, v2], .agg #[v3, v4]] w fun e w' => e = .returned (.bool true) ∧ Below w.heap.size w w' := by
  have := same_any w v1 v2 v3 v4 a b c d h1 h2 h3 h4
  rwa [hs] at this
theorem may_is (w : World) (v1 v2 : Value) (a b : List Int) (r : Bool) (h1 : RowAt w v1 a) (h2 : RowAt w v2 b) (hr : may a b = r) : Calls Try.prog 24 #[.agg #[v1, v2]] w fun e w' => e = .returned (.bool r) ∧ Below w.heap.size w w' := by
  subst hr; exact may_any w v1 v2 a b h1 h2
set_option maxHeartbeats 4000000 in
theorem short_true (w : World) (v1 v2 : Value) (h l : List Int) (h1 : RowAt w v1 h) (h2 : RowAt w v2 l) (hn : nE h l = 0 ∧ nH h l = h ∧ nL h l = l) : Calls Try.prog 27 #[.agg #[v1, v2]] w fun e w' => e = .returned (.bool true) ∧ Below w.heap.size w w' := by
  have H1 := Lib.hid h1
  have H2 := Lib.hid h2
  have HN := Lib.hid hn
  obtain ⟨ph, ch, rfl, _⟩ := h1
  obtain ⟨pl, cl, rfl, _⟩ := h2
  clear hn
  go_enter Try.func27, Try.ntmps27
  go_wp2_with fail
  refine (norm_any _ _ _ h l (H1.out.below (by repeat (first | (with_reducible exact Below.refl _ _) | (with_reducible assumption) | (with_reducible refine below_drewN ?_ _) | (with_reducible refine Below.drew ?_) | (with_reducible refine below_ext_of ?_ (by first | exact Nat.le_refl _ | assumption | (simp only [World.size_alloc, World.size_setCell, size_ext, World.heap_drewN]; omega)) _ _) | (with_reducible refine Below.alloc ?_ (by first | exact Nat.le_refl _ | assumption | (simp only [World.size_alloc, World.size_setCell, size_ext, World.heap_drewN]; omega)) _) | (with_reducible refine Below.setCell ?_ (by first | exact Nat.le_refl _ | assumption | (simp only [World.size_alloc, World.size_setCell, size_ext, World.heap_drewN]; omega)) _)))) (H2.out.below (by repeat (first | (with_reducible exact Below.refl _ _) | (with_reducible assumption) | (with_reducible refine below_drewN ?_ _) | (with_reducible refine Below.drew ?_) | (with_reducible refine below_ext_of ?_ (by first | exact Nat.le_refl _ | assumption | (simp only [World.size_alloc, World.size_setCell, size_ext, World.heap_drewN]; omega)) _ _) | (with_reducible refine Below.alloc ?_ (by first | exact Nat.le_refl _ | assumption | (simp only [World.size_alloc, World.size_setCell, size_ext, World.heap_drewN]; omega)) _) | (with_reducible refine Below.setCell ?_ (by first | exact Nat.le_refl _ | assumption | (simp only [World.size_alloc, World.size_setCell, size_ext, World.heap_drewN]; omega)) _))))).mono ?_
  rintro e w1 ⟨hb, v1, v2, rfl, o1, o2, _⟩
  rw [HN.out.1]
  rw [HN.out.2.1] at o1
  rw [HN.out.2.2] at o2
  have r1 := o1.row
  have r2 := o2.row
  obtain ⟨X, d, rfl⟩ := below_ext hb
  clear hb o1 o2
  have R1 := Lib.hid r1
  have R2 := Lib.hid r2
  obtain ⟨p1, c1, rfl, _⟩ := r1
  obtain ⟨p2, c2, rfl, _⟩ := r2
  go_wp2_with fail
  refine (Equal_same _ _ _ _ _ h l h l (R1.out.below (by repeat (first | (with_reducible exact Below.refl _ _) | (with_reducible assumption) | (with_reducible refine below_drewN ?_ _) | (with_reducible refine Below.drew ?_) | (with_reducible refine below_ext_of ?_ (by first | exact Nat.le_refl _ | assumption | (simp only [World.size_alloc, World.size_setCell, size_ext, World.heap_drewN]; omega)) _ _) | (with_reducible refine Below.alloc ?_ (by first | exact Nat.le_refl _ | assumption | (simp only [World.size_alloc, World.size_setCell, size_ext, World.heap_drewN]; omega)) _) | (with_reducible refine Below.setCell ?_ (by first | exact Nat.le_refl _ | assumption | (simp only [World.size_alloc, World.size_setCell, size_ext, World.heap_drewN]; omega)) _)))) (R2.out.below (by repeat (first | (with_reducible exact Below.refl _ _) | (with_reducible assumption) | (with_reducible refine below_drewN ?_ _) | (with_reducible refine Below.drew ?_) | (with_reducible refine below_ext_of ?_ (by first | exact Nat.le_refl _ | assumption | (simp only [World.size_alloc, World.size_setCell, size_ext, World.heap_drewN]; omega)) _ _) | (with_reducible refine Below.alloc ?_ (by first | exact Nat.le_refl _ | assumption | (simp only [World.size_alloc, World.size_setCell, size_ext, World.heap_drewN]; omega)) _) | (with_reducible refine Below.setCell ?_ (by first | exact Nat.le_refl _ | assumption | (simp only [World.size_alloc, World.size_setCell, size_ext, World.heap_drewN]; omega)) _)))) (H1.out.below (by repeat (first | (with_reducible exact Below.refl _ _) | (with_reducible assumption) | (with_reducible refine below_drewN ?_ _) | (with_reducible refine Below.drew ?_) | (with_reducible refine below_ext_of ?_ (by first | exact Nat.le_refl _ | assumption | (simp only [World.size_alloc, World.size_setCell, size_ext, World.heap_drewN]; omega)) _ _) | (with_reducible refine Below.alloc ?_ (by first | exact Nat.le_refl _ | assumption | (simp only [World.size_alloc, World.size_setCell, size_ext, World.heap_drewN]; omega)) _) | (with_reducible refine Below.setCell ?_ (by first | exact Nat.le_refl _ | assumption | (simp only [World.size_alloc, World.size_setCell, size_ext, World.heap_drewN]; omega)) _)))) (H2.out.below (by repeat (first | (with_reducible exact Below.refl _ _) | (with_reducible assumption) | (with_reducible refine below_drewN ?_ _) | (with_reducible refine Below.drew ?_) | (with_reducible refine below_ext_of ?_ (by first | exact Nat.le_refl _ | assumption | (simp only [World.size_alloc, World.size_setCell, size_ext, World.heap_drewN]; omega)) _ _) | (with_reducible refine Below.alloc ?_ (by first | exact Nat.le_refl _ | assumption | (simp only [World.size_alloc, World.size_setCell, size_ext, World.heap_drewN]; omega)) _) | (with_reducible refine Below.setCell ?_ (by first | exact Nat.le_refl _ | assumption | (simp only [World.size_alloc, World.size_setCell, size_ext, World.heap_drewN]; omega)) _)))) rfl rfl).mono ?_
  rintro e w1 ⟨rfl, hb⟩
  obtain ⟨X1, d1, rfl⟩ := below_ext hb
  clear hb
  go_wp2_with fail
  go_ret
  exact ⟨rfl, by repeat (first | (with_reducible exact Below.refl _ _) | (with_reducible assumption) | (with_reducible refine below_drewN ?_ _) | (with_reducible refine Below.drew ?_) | (with_reducible refine below_ext_of ?_ (by first | exact Nat.le_refl _ | assumption | (simp only [World.size_alloc, World.size_setCell, size_ext, World.heap_drewN]; omega)) _ _) | (with_reducible refine Below.alloc ?_ (by first | exact Nat.le_refl _ | assumption | (simp only [World.size_alloc, World.size_setCell, size_ext, World.heap_drewN]; omega)) _) | (with_reducible refine Below.setCell ?_ (by first | exact Nat.le_refl _ | assumption | (simp only [World.size_alloc, World.size_setCell, size_ext, World.heap_drewN]; omega)) _))⟩
end Go.Proofs.Ytpcnapmlmhhcpaa
