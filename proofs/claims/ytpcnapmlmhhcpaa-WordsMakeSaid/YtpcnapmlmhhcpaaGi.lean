/-
  What Drop, Cons, Up, Down and Zip answer of any word, number and op: one contract each.
  Conditions: the rows lie in memory; their numbers are int64s.
-/
import Derived.Test.YtpcnapmlmhhcpaaCe
import Derived.Test.YtpcnapmlmhhcpaaWl
import Derived.WalkKit
import Derived.WalkSpells
import Derived.WalkLawsBesides
import Derived.Deep.QuietTactic
import Derived.BigQuiet
import Derived.Lib.Hide
import Derived.Handy
import Derived.Deep.AppendLies
import Derived.Maps.AppendAt
import Derived.OwnWalk
import Derived.Lib.LazyBuf
import Derived.Deep.DeepCutAuto
import Derived.Deep.RegionLaw
import Derived.Deep.RegionHeld3
import Derived.Deep.RegionWith
import Derived.BigRegion
import Derived.Deep.CutBlock
set_option linter.unusedVariables false
set_option linter.unusedSimpArgs false
namespace Go.Proofs.Ytpcnapmlmhhcpaa
open Go.RowKit 
open Big
attribute [local go_sem] setCell_drewN alloc_drewN size_ext ext_ext ext_drewN ext_drew drewN_ext drew_ext cell?_ext frozen?_ext setCell_ext cell?_past1 frozen?_past1 setCell_past1 cell?_past2 frozen?_past2 setCell_past2 cell?_past3 frozen?_past3 setCell_past3 cell?_past4 frozen?_past4 setCell_past4 cell?_past5 frozen?_past5 setCell_past5 cell?_past6 frozen?_past6 setCell_past6 cell?_past7 frozen?_past7 setCell_past7 cell?_past8 frozen?_past8 setCell_past8
theorem trip {α β γ : Type} {a a' : α} {b b' : β} {c c' : γ} (h : (a, b, c) = (a', b', c')) : a = a' ∧ b = b' ∧ c = c' := by
  injection h with h1 h2
  injection h2 with h2 h3
  exact ⟨h1, h2, h3⟩
def dropZ (h l : List Int) (k : Int) : List Int × List Int × Int := if may h l = true ∧ 0 ≤ k then dropT h l k.toNat else ([], [], 2)
def upZ (h l : List Int) (k : Int) : List Int × List Int × Int := if may h l = true ∧ 1 ≤ k then upOut (nH h l) (nL h l) k.toNat else ([], [], 2)
def downZ (h l : List Int) (k : Int) : List Int × List Int × Int := if may h l = true ∧ (1 ≤ k ∧ k ≤ 1099511627776) then downT h l k.toNat else ([], [], 2)
def consZ (v : Int) (h l : List Int) : List Int × List Int × Int := if may h l = true then outT (v :: h) l else ([], [], 2)
def zipZ (op : Nat) (a b c d : List Int) : List Int × List Int × Int := if op = 1 ∨ op = 2 ∨ op = 3 ∨ op = 4 then zipF op a b c d else ([], [], 2)
set_option maxHeartbeats 2000000 in
theorem drop_neg (w : World) (vh vl : Value) (h l : List Int) (k : Int) (h1 : RowAt w vh h) (h2 : RowAt w vl l) (hm : may h l = true) (hk : k < 0) : Calls Try.prog 13 #[.agg #[vh, vl], .int .i64 k] w fun e w' => e = .returned (.tuple #[.agg #[.slice none 0 0, .slice none 0 0], .int .i64 2]) ∧ Below w.heap.size w w' := by
  have Hm := Lib.hid hm
  have H1 := Lib.hid h1
  have H2 := Lib.hid h2
  obtain ⟨ph, ch, rfl, rh⟩ := h1
  obtain ⟨pl, cl, rfl, rl⟩ := h2
  clear rh rl hm
  have d1 := decide_eq_true hk
  go_enter Try.func13, Try.ntmps13
  go_wp2_with fail
  refine (may_any _ _ _ h l (H1.out.below (by repeat (first | (with_reducible exact Below.refl _ _) | (with_reducible assumption) | (with_reducible refine below_drewN ?_ _) | (with_reducible refine Below.drew ?_) | (with_reducible refine below_ext_of ?_ (by first | exact Nat.le_refl _ | assumption | (simp only [World.size_alloc, World.size_setCell, size_ext, World.heap_drewN]; omega)) _ _) | (with_reducible refine Below.alloc ?_ (by first | exact Nat.le_refl _ | assumption | (simp only [World.size_alloc, World.size_setCell, size_ext, World.heap_drewN]; omega)) _) | (with_reducible refine Below.setCell ?_ (by first | exact Nat.le_refl _ | assumption | (simp only [World.size_alloc, World.size_setCell, size_ext, World.heap_drewN]; omega)) _)))) (H2.out.below (by repeat (first | (with_reducible exact Below.refl _ _) | (with_reducible assumption) | (with_reducible refine below_drewN ?_ _) | (with_reducible refine Below.drew ?_) | (with_reducible refine below_ext_of ?_ (by first | exact Nat.le_refl _ | assumption | (simp only [World.size_alloc, World.size_setCell, size_ext, World.heap_drewN]; omega)) _ _) | (with_reducible refine Below.alloc ?_ (by first | exact Nat.le_refl _ | assumption | (simp only [World.size_alloc, World.size_setCell, size_ext, World.heap_drewN]; omega)) _) | (with_reducible refine Below.setCell ?_ (by first | exact Nat.le_refl _ | assumption | (simp only [World.size_alloc, World.size_setCell, size_ext, World.heap_drewN]; omega)) _))))).mono ?_
  rintro e w1 ⟨rfl, hb⟩
  rw [Hm.out]
  obtain ⟨X, d, rfl⟩ := below_ext hb
  clear hb
  go_wp2_with fail
  refine bodyPost_ret (v := .tuple #[.agg #[.slice none 0 0, .slice none 0 0], .int .i64 2]) (by simp [results, Try.results13, go_sem]) rfl ⟨rfl, ?_⟩
  repeat (first | (with_reducible exact Below.refl _ _) | (with_reducible assumption) | (with_reducible refine below_drewN ?_ _) | (with_reducible refine Below.drew ?_) | (with_reducible refine below_ext_of ?_ (by first | exact Nat.le_refl _ | assumption | (simp only [World.size_alloc, World.size_setCell, size_ext, World.heap_drewN]; omega)) _ _) | (with_reducible refine Below.alloc ?_ (by first | exact Nat.le_refl _ | assumption | (simp only [World.size_alloc, World.size_setCell, size_ext, World.heap_drewN]; omega)) _) | (with_reducible refine Below.setCell ?_ (by first | exact Nat.le_refl _ | assumption | (simp only [World.size_alloc, World.size_setCell, size_ext, World.heap_drewN]; omega)) _))
set_option maxHeartbeats 2000000 in
theorem up_neg (w : World) (vh vl : Value) (h l : List Int) (k : Int) (h1 : RowAt w vh h) (h2 : RowAt w vl l) (hm : may h l = true) (hk : k < 1) : Calls Try.prog 15 #[.agg #[vh, vl], .int .i64 k] w fun e w' => e = .returned (.tuple #[.agg #[.slice none 0 0, .slice none 0 0], .int .i64 2]) ∧ Below w.heap.size w w' := by
  obtain ⟨ph, ch, rfl, rh⟩ := h1
  obtain ⟨pl, cl, rfl, rl⟩ := h2
  clear rh rl hm
  have d1 := decide_eq_true hk
  go_enter Try.func15, Try.ntmps15
  go_wp2_with fail
  refine bodyPost_ret (v := .tuple #[.agg #[.slice none 0 0, .slice none 0 0], .int .i64 2]) (by simp [results, Try.results15, go_sem]) rfl ⟨rfl, ?_⟩
  repeat (first | (with_reducible exact Below.refl _ _) | (with_reducible assumption) | (with_reducible refine below_drewN ?_ _) | (with_reducible refine Below.drew ?_) | (with_reducible refine below_ext_of ?_ (by first | exact Nat.le_refl _ | assumption | (simp only [World.size_alloc, World.size_setCell, size_ext, World.heap_drewN]; omega)) _ _) | (with_reducible refine Below.alloc ?_ (by first | exact Nat.le_refl _ | assumption | (simp only [World.size_alloc, World.size_setCell, size_ext, World.heap_drewN]; omega)) _) | (with_reducible refine Below.setCell ?_ (by first | exact Nat.le_refl _ | assumption | (simp only [World.size_alloc, World.size_setCell, size_ext, World.heap_drewN]; omega)) _))
set_option maxHeartbeats 2000000 in
theorem down_lo (w : World) (vh vl : Value) (h l : List Int) (k : Int) (h1 : RowAt w vh h) (h2 : RowAt w vl l) (hm : may h l = true) (hk : k < 1) : Calls Try.prog 16 #[.agg #[vh, vl], .int .i64 k] w fun e w' => e = .returned (.tuple #[.agg #[.slice none 0 0, .slice none 0 0], .int .i64 2]) ∧ Below w.heap.size w w' := by
  have Hm := Lib.hid hm
  have H1 := Lib.hid h1
  have H2 := Lib.hid h2
  obtain ⟨ph, ch, rfl, rh⟩ := h1
  obtain ⟨pl, cl, rfl, rl⟩ := h2
  clear rh rl hm
  have d1 := decide_eq_true hk
  go_enter Try.func16, Try.ntmps16
  go_wp2_with fail
  refine (may_any _ _ _ h l (H1.out.below (by repeat (first | (with_reducible exact Below.refl _ _) | (with_reducible assumption) | (with_reducible refine below_drewN ?_ _) | (with_reducible refine Below.drew ?_) | (with_reducible refine below_ext_of ?_ (by first | exact Nat.le_refl _ | assumption | (simp only [World.size_alloc, World.size_setCell, size_ext, World.heap_drewN]; omega)) _ _) | (with_reducible refine Below.alloc ?_ (by first | exact Nat.le_refl _ | assumption | (simp only [World.size_alloc, World.size_setCell, size_ext, World.heap_drewN]; omega)) _) | (with_reducible refine Below.setCell ?_ (by first | exact Nat.le_refl _ | assumption | (simp only [World.size_alloc, World.size_setCell, size_ext, World.heap_drewN]; omega)) _)))) (H2.out.below (by repeat (first | (with_reducible exact Below.refl _ _) | (with_reducible assumption) | (with_reducible refine below_drewN ?_ _) | (with_reducible refine Below.drew ?_) | (with_reducible refine below_ext_of ?_ (by first | exact Nat.le_refl _ | assumption | (simp only [World.size_alloc, World.size_setCell, size_ext, World.heap_drewN]; omega)) _ _) | (with_reducible refine Below.alloc ?_ (by first | exact Nat.le_refl _ | assumption | (simp only [World.size_alloc, World.size_setCell, size_ext, World.heap_drewN]; omega)) _) | (with_reducible refine Below.setCell ?_ (by first | exact Nat.le_refl _ | assumption | (simp only [World.size_alloc, World.size_setCell, size_ext, World.heap_drewN]; omega)) _))))).mono ?_
  rintro e w1 ⟨rfl, hb⟩
  rw [Hm.out]
  obtain ⟨X, d, rfl⟩ := below_ext hb
  clear hb
  go_wp2_with fail
  refine bodyPost_ret (v := .tuple #[.agg #[.slice none 0 0, .slice none 0 0], .int .i64 2]) (by simp [results, Try.results16, go_sem]) rfl ⟨rfl, ?_⟩
  repeat (first | (with_reducible exact Below.refl _ _) | (with_reducible assumption) | (with_reducible refine below_drewN ?_ _) | (with_reducible refine Below.drew ?_) | (with_reducible refine below_ext_of ?_ (by first | exact Nat.le_refl _ | assumption | (simp only [World.size_alloc, World.size_setCell, size_ext, World.heap_drewN]; omega)) _ _) | (with_reducible refine Below.alloc ?_ (by first | exact Nat.le_refl _ | assumption | (simp only [World.size_alloc, World.size_setCell, size_ext, World.heap_drewN]; omega)) _) | (with_reducible refine Below.setCell ?_ (by first | exact Nat.le_refl _ | assumption | (simp only [World.size_alloc, World.size_setCell, size_ext, World.heap_drewN]; omega)) _))
set_option maxHeartbeats 2000000 in
theorem down_hi (w : World) (vh vl : Value) (h l : List Int) (k : Int) (h1 : RowAt w vh h) (h2 : RowAt w vl l) (hm : may h l = true) (hk : 1099511627776 < k) : Calls Try.prog 16 #[.agg #[vh, vl], .int .i64 k] w fun e w' => e = .returned (.tuple #[.agg #[.slice none 0 0, .slice none 0 0], .int .i64 2]) ∧ Below w.heap.size w w' := by
  have Hm := Lib.hid hm
  have H1 := Lib.hid h1
  have H2 := Lib.hid h2
  obtain ⟨ph, ch, rfl, rh⟩ := h1
  obtain ⟨pl, cl, rfl, rl⟩ := h2
  clear rh rl hm
  have d1 : decide (k < 1) = false := decide_eq_false (by omega)
  have d2 : decide (k > 1099511627776) = true := decide_eq_true hk
  have d3 : ¬ (k < 1) := by omega
  go_enter Try.func16, Try.ntmps16
  go_wp2_with fail
  refine (may_any _ _ _ h l (H1.out.below (by repeat (first | (with_reducible exact Below.refl _ _) | (with_reducible assumption) | (with_reducible refine below_drewN ?_ _) | (with_reducible refine Below.drew ?_) | (with_reducible refine below_ext_of ?_ (by first | exact Nat.le_refl _ | assumption | (simp only [World.size_alloc, World.size_setCell, size_ext, World.heap_drewN]; omega)) _ _) | (with_reducible refine Below.alloc ?_ (by first | exact Nat.le_refl _ | assumption | (simp only [World.size_alloc, World.size_setCell, size_ext, World.heap_drewN]; omega)) _) | (with_reducible refine Below.setCell ?_ (by first | exact Nat.le_refl _ | assumption | (simp only [World.size_alloc, World.size_setCell, size_ext, World.heap_drewN]; omega)) _)))) (H2.out.below (by repeat (first | (with_reducible exact Below.refl _ _) | (with_reducible assumption) | (with_reducible refine below_drewN ?_ _) | (with_reducible refine Below.drew ?_) | (with_reducible refine below_ext_of ?_ (by first | exact Nat.le_refl _ | assumption | (simp only [World.size_alloc, World.size_setCell, size_ext, World.heap_drewN]; omega)) _ _) | (with_reducible refine Below.alloc ?_ (by first | exact Nat.le_refl _ | assumption | (simp only [World.size_alloc, World.size_setCell, size_ext, World.heap_drewN]; omega)) _) | (with_reducible refine Below.setCell ?_ (by first | exact Nat.le_refl _ | assumption | (simp only [World.size_alloc, World.size_setCell, size_ext, World.heap_drewN]; omega)) _))))).mono ?_
  rintro e w1 ⟨rfl, hb⟩
  rw [Hm.out]
  obtain ⟨X, d, rfl⟩ := below_ext hb
  clear hb
  go_wp2_with fail
  refine bodyPost_ret (v := .tuple #[.agg #[.slice none 0 0, .slice none 0 0], .int .i64 2]) (by simp [results, Try.results16, go_sem]) rfl ⟨rfl, ?_⟩
  repeat (first | (with_reducible exact Below.refl _ _) | (with_reducible assumption) | (with_reducible refine below_drewN ?_ _) | (with_reducible refine Below.drew ?_) | (with_reducible refine below_ext_of ?_ (by first | exact Nat.le_refl _ | assumption | (simp only [World.size_alloc, World.size_setCell, size_ext, World.heap_drewN]; omega)) _ _) | (with_reducible refine Below.alloc ?_ (by first | exact Nat.le_refl _ | assumption | (simp only [World.size_alloc, World.size_setCell, size_ext, World.heap_drewN]; omega)) _) | (with_reducible refine Below.setCell ?_ (by first | exact Nat.le_refl _ | assumption | (simp only [World.size_alloc, World.size_setCell, size_ext, World.heap_drewN]; omega)) _))
theorem down_neg (w : World) (vh vl : Value) (h l : List Int) (k : Int) (h1 : RowAt w vh h) (h2 : RowAt w vl l) (hm : may h l = true) (hk : ¬ (1 ≤ k ∧ k ≤ 1099511627776)) : Calls Try.prog 16 #[.agg #[vh, vl], .int .i64 k] w fun e w' => e = .returned (.tuple #[.agg #[.slice none 0 0, .slice none 0 0], .int .i64 2]) ∧ Below w.heap.size w w' := by
  by_cases h : k < 1
  · exact down_lo w vh vl _ _ k h1 h2 hm h
  · exact down_hi w vh vl _ _ k h1 h2 hm (by omega)
theorem drop_gen (w : World) (vh vl : Value) (h l x y : List Int) (z : Int) (k : Int) (hk2 : k < 9223372036854775808) (h1 : RowAt w vh h) (h2 : RowAt w vl l) (hz : dropZ h l k = (x, y, z)) :
    Calls Try.prog 13 #[.agg #[vh, vl], .int .i64 k] w fun e w' => Below w.heap.size w w' ∧ ∃ p1 c1 p2 c2, e = .returned (.tuple #[.agg #[.slice p1 x.length c1, .slice p2 y.length c2], .int .i64 z]) ∧ RowAt w' (.slice p1 x.length c1) x ∧ RowAt w' (.slice p2 y.length c2) y := by
  cases hm : may h l with
  | false =>
    unfold dropZ at hz
    rw [hm, if_neg (fun h => by cases h.1)] at hz
    refine (drop_no w vh vl h l k h1 h2 hm).mono ?_
    obtain ⟨rfl, rfl, rfl⟩ := trip hz
    rintro e w' ⟨rfl, hb⟩
    exact ⟨hb, none, 0, none, 0, rfl, RowAt.nil _, RowAt.nil _⟩
  | true =>
    by_cases hk : 0 ≤ k
    · unfold dropZ at hz
      rw [hm, if_pos ⟨rfl, hk⟩] at hz
      obtain ⟨n, rfl⟩ : ∃ n : Nat, k = (n : Int) := ⟨k.toNat, by omega⟩
      rw [Int.toNat_natCast] at hz
      exact drop_call w vh vl h l x y z n (by omega) h1 h2 hm hz
    · unfold dropZ at hz
      rw [if_neg (fun h => hk h.2)] at hz
      refine (drop_neg w vh vl h l k h1 h2 hm (by omega)).mono ?_
      obtain ⟨rfl, rfl, rfl⟩ := trip hz
      rintro e w' ⟨rfl, hb⟩
      exact ⟨hb, none, 0, none, 0, rfl, RowAt.nil _, RowAt.nil _⟩
theorem up_gen (w : World) (vh vl : Value) (h l x y : List Int) (z : Int) (k : Int) (hk2 : k < 9223372036854775808) (h1 : RowAt w vh h) (h2 : RowAt w vl l) (hz : upZ h l k = (x, y, z)) :
    Calls Try.prog 15 #[.agg #[vh, vl], .int .i64 k] w fun e w' => Below w.heap.size w w' ∧ ∃ p1 c1 p2 c2, e = .returned (.tuple #[.agg #[.slice p1 x.length c1, .slice p2 y.length c2], .int .i64 z]) ∧ RowAt w' (.slice p1 x.length c1) x ∧ RowAt w' (.slice p2 y.length c2) y := by
  cases hm : may h l with
  | false =>
    unfold upZ at hz
    rw [hm, if_neg (fun h => by cases h.1)] at hz
    refine (up_no w vh vl h l k h1 h2 hm).mono ?_
    obtain ⟨rfl, rfl, rfl⟩ := trip hz
    rintro e w' ⟨rfl, hb⟩
    exact ⟨hb, none, 0, none, 0, rfl, RowAt.nil _, RowAt.nil _⟩
  | true =>
    by_cases hk : 1 ≤ k
    · unfold upZ at hz
      rw [hm, if_pos ⟨rfl, hk⟩] at hz
      obtain ⟨n, rfl⟩ : ∃ n : Nat, k = (n : Int) := ⟨k.toNat, by omega⟩
      rw [Int.toNat_natCast] at hz
      exact up_call w vh vl h l x y z n (by omega) (by omega) h1 h2 hm hz
    · unfold upZ at hz
      rw [if_neg (fun h => hk h.2)] at hz
      refine (up_neg w vh vl h l k h1 h2 hm (by omega)).mono ?_
      obtain ⟨rfl, rfl, rfl⟩ := trip hz
      rintro e w' ⟨rfl, hb⟩
      exact ⟨hb, none, 0, none, 0, rfl, RowAt.nil _, RowAt.nil _⟩
theorem down_gen (w : World) (vh vl : Value) (h l x y : List Int) (z : Int) (k : Int) (h1 : RowAt w vh h) (h2 : RowAt w vl l) (hz : downZ h l k = (x, y, z)) :
    Calls Try.prog 16 #[.agg #[vh, vl], .int .i64 k] w fun e w' => Below w.heap.size w w' ∧ ∃ p1 c1 p2 c2, e = .returned (.tuple #[.agg #[.slice p1 x.length c1, .slice p2 y.length c2], .int .i64 z]) ∧ RowAt w' (.slice p1 x.length c1) x ∧ RowAt w' (.slice p2 y.length c2) y := by
  cases hm : may h l with
  | false =>
    unfold downZ at hz
    rw [hm, if_neg (fun h => by cases h.1)] at hz
    refine (down_no w vh vl h l k h1 h2 hm).mono ?_
    obtain ⟨rfl, rfl, rfl⟩ := trip hz
    rintro e w' ⟨rfl, hb⟩
    exact ⟨hb, none, 0, none, 0, rfl, RowAt.nil _, RowAt.nil _⟩
  | true =>
    by_cases hk : (1 ≤ k ∧ k ≤ 1099511627776)
    · unfold downZ at hz
      rw [hm, if_pos ⟨rfl, hk⟩] at hz
      obtain ⟨n, rfl⟩ : ∃ n : Nat, k = (n : Int) := ⟨k.toNat, by omega⟩
      rw [Int.toNat_natCast] at hz
      exact down_call w vh vl h l x y z n (by omega) (by omega) h1 h2 hm hz
    · unfold downZ at hz
      rw [if_neg (fun h => hk h.2)] at hz
      refine (down_neg w vh vl h l k h1 h2 hm hk).mono ?_
      obtain ⟨rfl, rfl, rfl⟩ := trip hz
      rintro e w' ⟨rfl, hb⟩
      exact ⟨hb, none, 0, none, 0, rfl, RowAt.nil _, RowAt.nil _⟩
theorem cons_gen (w : World) (vh vl : Value) (h l x y : List Int) (z : Int) (v : Int) (h1 : RowAt w vh h) (h2 : RowAt w vl l) (hz : consZ v h l = (x, y, z)) :
    Calls Try.prog 14 #[.int .i64 v, .agg #[vh, vl]] w fun e w' => Below w.heap.size w w' ∧ ∃ p1 c1 p2 c2, e = .returned (.tuple #[.agg #[.slice p1 x.length c1, .slice p2 y.length c2], .int .i64 z]) ∧ RowAt w' (.slice p1 x.length c1) x ∧ RowAt w' (.slice p2 y.length c2) y := by
  cases hm : may h l with
  | false =>
    unfold consZ at hz
    rw [hm, if_neg (by decide)] at hz
    refine (cons_no w vh vl h l v h1 h2 hm).mono ?_
    obtain ⟨rfl, rfl, rfl⟩ := trip hz
    rintro e w' ⟨rfl, hb⟩
    exact ⟨hb, none, 0, none, 0, rfl, RowAt.nil _, RowAt.nil _⟩
  | true =>
    unfold consZ at hz
    rw [if_pos hm] at hz
    exact cons_call w vh vl h l x y z v h1 h2 hm hz
attribute [local go_sem] eqf0 eqf1
set_option maxRecDepth 100000 in
set_option maxHeartbeats 4000000 in
theorem zip_bad (w : World) (op : Int) (va vb vc vd : Value) (a b c d : List Int) (h1 : RowAt w va a) (h2 : RowAt w vb b) (h3 : RowAt w vc c) (h4 : RowAt w vd d) (hm : byF op = Value.nilFunc) : Calls Try.prog 10 #[.int .u8 op, .agg #[va, vb], .agg #[vc, vd]] w fun e w' => e = .returned (.tuple #[.agg #[.slice none 0 0, .slice none 0 0], .int .i64 2]) ∧ Below w.heap.size w w' := by
  have HM := Lib.hid hm
  have H1 := Lib.hid h1
  have H2 := Lib.hid h2
  have H3 := Lib.hid h3
  have H4 := Lib.hid h4
  obtain ⟨pa, ca, rfl, ra⟩ := h1
  obtain ⟨pb, cb, rfl, rb⟩ := h2
  obtain ⟨pc, cc, rfl, rc⟩ := h3
  obtain ⟨pd, cd, rfl, rd⟩ := h4
  clear ra rb rc rd hm
  go_enter Try.func10, Try.ntmps10
  go_wp2_with fail
  refine (by_any _ op).mono ?_
  rintro e w1 ⟨rfl, rfl⟩
  go_wp2_with fail
  refine (norm_any _ _ _ a b (H1.out.below (by repeat (first | (with_reducible exact Below.refl _ _) | (with_reducible assumption) | (with_reducible refine below_drewN ?_ _) | (with_reducible refine Below.drew ?_) | (with_reducible refine below_ext_of ?_ (by first | exact Nat.le_refl _ | assumption | (simp only [World.size_alloc, World.size_setCell, size_ext, World.heap_drewN]; omega)) _ _) | (with_reducible refine Below.alloc ?_ (by first | exact Nat.le_refl _ | assumption | (simp only [World.size_alloc, World.size_setCell, size_ext, World.heap_drewN]; omega)) _) | (with_reducible refine Below.setCell ?_ (by first | exact Nat.le_refl _ | assumption | (simp only [World.size_alloc, World.size_setCell, size_ext, World.heap_drewN]; omega)) _)))) (H2.out.below (by repeat (first | (with_reducible exact Below.refl _ _) | (with_reducible assumption) | (with_reducible refine below_drewN ?_ _) | (with_reducible refine Below.drew ?_) | (with_reducible refine below_ext_of ?_ (by first | exact Nat.le_refl _ | assumption | (simp only [World.size_alloc, World.size_setCell, size_ext, World.heap_drewN]; omega)) _ _) | (with_reducible refine Below.alloc ?_ (by first | exact Nat.le_refl _ | assumption | (simp only [World.size_alloc, World.size_setCell, size_ext, World.heap_drewN]; omega)) _) | (with_reducible refine Below.setCell ?_ (by first | exact Nat.le_refl _ | assumption | (simp only [World.size_alloc, World.size_setCell, size_ext, World.heap_drewN]; omega)) _))))).mono ?_
  rintro e w1 ⟨hb, v1, v2, rfl, r1, r2, _⟩
  obtain ⟨X, dd, rfl⟩ := below_ext hb
  clear hb
  obtain ⟨p1, c1, rfl, _⟩ := r1.row
  obtain ⟨p2, c2, rfl, _⟩ := r2.row
  clear r1 r2
  go_wp2_with fail
  refine (norm_any _ _ _ c d (H3.out.below (by repeat (first | (with_reducible exact Below.refl _ _) | (with_reducible assumption) | (with_reducible refine below_drewN ?_ _) | (with_reducible refine Below.drew ?_) | (with_reducible refine below_ext_of ?_ (by first | exact Nat.le_refl _ | assumption | (simp only [World.size_alloc, World.size_setCell, size_ext, World.heap_drewN]; omega)) _ _) | (with_reducible refine Below.alloc ?_ (by first | exact Nat.le_refl _ | assumption | (simp only [World.size_alloc, World.size_setCell, size_ext, World.heap_drewN]; omega)) _) | (with_reducible refine Below.setCell ?_ (by first | exact Nat.le_refl _ | assumption | (simp only [World.size_alloc, World.size_setCell, size_ext, World.heap_drewN]; omega)) _)))) (H4.out.below (by repeat (first | (with_reducible exact Below.refl _ _) | (with_reducible assumption) | (with_reducible refine below_drewN ?_ _) | (with_reducible refine Below.drew ?_) | (with_reducible refine below_ext_of ?_ (by first | exact Nat.le_refl _ | assumption | (simp only [World.size_alloc, World.size_setCell, size_ext, World.heap_drewN]; omega)) _ _) | (with_reducible refine Below.alloc ?_ (by first | exact Nat.le_refl _ | assumption | (simp only [World.size_alloc, World.size_setCell, size_ext, World.heap_drewN]; omega)) _) | (with_reducible refine Below.setCell ?_ (by first | exact Nat.le_refl _ | assumption | (simp only [World.size_alloc, World.size_setCell, size_ext, World.heap_drewN]; omega)) _))))).mono ?_
  rintro e w1 ⟨hb, v3, v4, rfl, r3, r4, _⟩
  obtain ⟨X1, dd1, rfl⟩ := below_ext hb
  clear hb
  obtain ⟨p3, c3, rfl, _⟩ := r3.row
  obtain ⟨p4, c4, rfl, _⟩ := r4.row
  clear r3 r4
  rw [HM.out]
  go_wp2_with fail
  refine bodyPost_ret (v := .tuple #[.agg #[.slice none 0 0, .slice none 0 0], .int .i64 2]) (by simp [results, Try.results10, go_sem]) rfl ⟨rfl, ?_⟩
  repeat (first | (with_reducible exact Below.refl _ _) | (with_reducible assumption) | (with_reducible refine below_drewN ?_ _) | (with_reducible refine Below.drew ?_) | (with_reducible refine below_ext_of ?_ (by first | exact Nat.le_refl _ | assumption | (simp only [World.size_alloc, World.size_setCell, size_ext, World.heap_drewN]; omega)) _ _) | (with_reducible refine Below.alloc ?_ (by first | exact Nat.le_refl _ | assumption | (simp only [World.size_alloc, World.size_setCell, size_ext, World.heap_drewN]; omega)) _) | (with_reducible refine Below.setCell ?_ (by first | exact Nat.le_refl _ | assumption | (simp only [World.size_alloc, World.size_setCell, size_ext, World.heap_drewN]; omega)) _))
theorem zip_gen (w : World) (op : Nat) (va vb vc vd : Value) (a b c d x y : List Int) (z : Int) (h1 : RowAt w va a) (h2 : RowAt w vb b) (h3 : RowAt w vc c) (h4 : RowAt w vd d) (i1 : in64W a b) (i2 : in64W c d) (hz : zipZ op a b c d = (x, y, z)) :
    Calls Try.prog 10 #[.int .u8 (op : Int), .agg #[va, vb], .agg #[vc, vd]] w fun e w' => Below w.heap.size w w' ∧ ∃ p1 c1 p2 c2, e = .returned (.tuple #[.agg #[.slice p1 x.length c1, .slice p2 y.length c2], .int .i64 z]) ∧ RowAt w' (.slice p1 x.length c1) x ∧ RowAt w' (.slice p2 y.length c2) y := by
  unfold zipZ at hz
  by_cases hop : op = 1 ∨ op = 2 ∨ op = 3 ∨ op = 4
  · rw [if_pos hop] at hz
    rcases hop with rfl | rfl | rfl | rfl
    · exact zip_any1 w va vb vc vd a b c d x y z h1 h2 h3 h4 i1 i2 hz
    · exact zip_any2 w va vb vc vd a b c d x y z h1 h2 h3 h4 i1 i2 hz
    · exact zip_any3 w va vb vc vd a b c d x y z h1 h2 h3 h4 i1 i2 hz
    · exact zip_any4 w va vb vc vd a b c d x y z h1 h2 h3 h4 i1 i2 hz
  · rw [if_neg hop] at hz
    refine (zip_bad w op va vb vc vd a b c d h1 h2 h3 h4 ?_).mono ?_
    · unfold byF
      rw [if_neg (by omega), if_neg (by omega), if_neg (by omega), if_neg (by omega)]
    · obtain ⟨rfl, rfl, rfl⟩ := trip hz
      rintro e w' ⟨rfl, hb⟩
      exact ⟨hb, none, 0, none, 0, rfl, RowAt.nil _, RowAt.nil _⟩
end Go.Proofs.Ytpcnapmlmhhcpaa
