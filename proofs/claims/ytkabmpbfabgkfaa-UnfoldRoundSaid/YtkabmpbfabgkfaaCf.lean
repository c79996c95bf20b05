/-
  slices.ContainsFunc at the closures of tasks.May, unfold.Jobs and unfold.Needs.
  Conditions: the rows lie in memory; their numbers are int64s.
-/
import Derived.Test.YtkabmpbfabgkfaaUb
import Derived.Test.YtkabmpbfabgkfaaPx0
import Derived.Test.YtkabmpbfabgkfaaDj
import Derived.WalkKit
import Derived.WalkSpells
import Derived.WalkLawsBesides
import Derived.Deep.QuietTactic
import Derived.BigQuiet
import Derived.Lib.Hide
import Derived.Handy
import Derived.Deep.AppendLies
import Derived.Maps.AppendAt
import Derived.OwnWalk
import Derived.Lib.LazyBuf
import Derived.Deep.DeepCutAuto
import Derived.Deep.RegionLaw
import Derived.Deep.RegionHeld3
import Derived.Deep.RegionWith
import Derived.BigRegion
import Derived.Deep.CutBlock
import Derived.LoopN
set_option linter.unusedVariables false
set_option linter.unusedSimpArgs false
namespace Go.Proofs.Ytkabmpbfabgkfaa
open Go.RowKit 
open Big
attribute [local go_sem] setCell_drewN alloc_drewN size_ext ext_ext ext_drewN ext_drew drewN_ext drew_ext cell?_ext frozen?_ext setCell_ext cell?_past1 frozen?_past1 setCell_past1 cell?_past2 frozen?_past2 setCell_past2 cell?_past3 frozen?_past3 setCell_past3 cell?_past4 frozen?_past4 setCell_past4 cell?_past5 frozen?_past5 setCell_past5 cell?_past6 frozen?_past6 setCell_past6 cell?_past7 frozen?_past7 setCell_past7 cell?_past8 frozen?_past8 setCell_past8
open Go.Proofs.Ytkabmpbfabgkfaa.P Go.Proofs.YtkabmpbfabgkfaaW.PrintWords Go.Proofs.YtkabmpbfabgkfaaW.PrintLast Go.Proofs.YtkabmpbfabgkfaaW.PrintMore
theorem take_any {α : Type} (l : List α) (z : α) (p : α → Bool) (k : Nat) (h : k < l.length) : (l.take (k + 1)).any p = ((l.take k).any p || p (l.getD k z)) := by
  rw [List.take_add_one, List.getElem?_eq_getElem h, List.getD_eq_getElem?_getD, List.getElem?_eq_getElem h]
  show (l.take k ++ [l[k]]).any p = _
  rw [List.any_append]
  simp only [List.any_cons, List.any_nil, Bool.or_false, Option.getD_some]
theorem getD_mem {α : Type} (l : List α) (z : α) (k : Nat) (h : k < l.length) : l.getD k z ∈ l := by
  rw [List.getD_eq_getElem?_getD, List.getElem?_eq_getElem h]
  exact List.getElem_mem h

def ok25 (x : S25) : Bool := in64 x.f0 && in64 x.f1
def bad25 (x : S25) : Bool := !mayC x.f0 x.f1
set_option maxRecDepth 100000 in
set_option maxHeartbeats 4000000 in
theorem cl_25 (w : World) (x : S25)  (hok : ok25 x = true) : Calls Try.prog 42 #[.agg #[.int .i64 x.f0, .int .i64 x.f1]] w fun e w' => e = .returned (.bool (bad25 x)) ∧ Below w.heap.size w w' := by
  have HI : Hid (-9223372036854775808 ≤ x.f0 ∧ x.f0 ≤ 9223372036854775807 ∧ -9223372036854775808 ≤ x.f1 ∧ x.f1 ≤ 9223372036854775807) := Lib.hid (by
    unfold ok25 at hok
    rw [Bool.and_eq_true] at hok
    have h1 := in64_iff.1 hok.1
    have h2 := in64_iff.1 hok.2
    exact ⟨h1.1, h1.2, h2.1, h2.2⟩)
  clear hok
  unfold bad25
  obtain ⟨b, hb⟩ : ∃ b, mayC x.f0 x.f1 = b := ⟨_, rfl⟩
  rw [hb]
  have HM := Lib.hid hb
  clear hb
  go_enter Try.func42, Try.ntmps42
  go_wp2_with fail
  refine (tmay_clock _ x.f0 x.f1 HI.out.1 HI.out.2.1 HI.out.2.2.1 HI.out.2.2.2).mono ?_
  rintro e w1 ⟨rfl, hb⟩
  rw [HM.out]
  obtain ⟨X, d, rfl⟩ := below_ext hb
  clear hb
  cases b with
  | false =>
    go_wp2_with fail
    go_ret
    exact ⟨rfl, by repeat (first | (with_reducible exact Below.refl _ _) | (with_reducible assumption) | (with_reducible refine below_drewN ?_ _) | (with_reducible refine Below.drew ?_) | (with_reducible refine below_ext_of ?_ (by first | exact Nat.le_refl _ | assumption | (simp only [World.size_alloc, World.size_setCell, size_ext, World.heap_drewN]; omega)) _ _) | (with_reducible refine Below.alloc ?_ (by first | exact Nat.le_refl _ | assumption | (simp only [World.size_alloc, World.size_setCell, size_ext, World.heap_drewN]; omega)) _) | (with_reducible refine Below.setCell ?_ (by first | exact Nat.le_refl _ | assumption | (simp only [World.size_alloc, World.size_setCell, size_ext, World.heap_drewN]; omega)) _))⟩
  | true =>
    go_wp2_with fail
    go_ret
    exact ⟨rfl, by repeat (first | (with_reducible exact Below.refl _ _) | (with_reducible assumption) | (with_reducible refine below_drewN ?_ _) | (with_reducible refine Below.drew ?_) | (with_reducible refine below_ext_of ?_ (by first | exact Nat.le_refl _ | assumption | (simp only [World.size_alloc, World.size_setCell, size_ext, World.heap_drewN]; omega)) _ _) | (with_reducible refine Below.alloc ?_ (by first | exact Nat.le_refl _ | assumption | (simp only [World.size_alloc, World.size_setCell, size_ext, World.heap_drewN]; omega)) _) | (with_reducible refine Below.setCell ?_ (by first | exact Nat.le_refl _ | assumption | (simp only [World.size_alloc, World.size_setCell, size_ext, World.heap_drewN]; omega)) _))⟩

set_option maxRecDepth 100000 in
set_option maxHeartbeats 4000000 in
theorem ix_25 (A0 : Option Addr) (c0 : Nat) (l0 : List S25) (w : World) (hok : ∀ x ∈ l0, ok25 x = true) (hr0 : Kd.C k25 w A0 l0.length l0) :
    Calls Try.prog 66 #[.slice A0 l0.length c0, .func (.func 42) #[] #[]] w fun e w' => ∃ i : Int, e = .returned (.int .i64 i) ∧ decide (0 ≤ i) = l0.any bad25 ∧ Below w.heap.size w w' := by
  have hlen : l0.length ≤ 9223372036854775807 := hr0.2.1
  have HR := Lib.hid hr0
  have HO := Lib.hid hok
  clear hr0 hok
  go_enter Try.func66, Try.ntmps66
  go_wp2_with fail
  go_loopw [8] (fun i wr => ∃ k : Nat, k ≤ l0.length ∧ i = .int .i64 k ∧ (l0.take k).any bad25 = false ∧ Below w.heap.size w wr) (fun i _ => l0.length - (RowKit.intOf i).toNat)
  case atStart => exact ⟨0, Nat.zero_le _, rfl, by simp, Below.refl _ _⟩
  case round =>
    obtain ⟨k, hk, rfl, hno, hb⟩ := hrel
    have HB := Lib.hid hb
    have HNO := Lib.hid hno
    clear hb hno
    by_cases hlt : k < l0.length
    · have HT := Lib.hid (take_any l0 z25 bad25 k hlt)
      have HX := Lib.hid (HO.out _ (getD_mem l0 z25 k (by omega)))
      obtain ⟨ad, rfl, s0, s1⟩ := at_T25 (Kd.C_below HR.out HB.out) k (by omega) (by omega)
      rw [Int.toNat_natCast] at s0 s1
      have hrd : rd_T25 l0 k = l0.getD k z25 := rfl
      rw [hrd] at s0 s1
      clear hrd
      have HK := Lib.hid hk
      have e1 : (k : Int) < l0.length := by omega
      have e2 : (0 : Int) ≤ k := by omega
      have e3 : IntKind.i64.wrap ((k : Int) + 1) = (k : Int) + 1 := by rw [IntKind.wrap_i64]; omega
      generalize l0.getD k z25 = x at *
      have HC := Lib.hid (cl_25 wr x  HX.out)
      skip
      go_wp2_with fail
      refine HC.out.mono ?_
      rintro e w1 ⟨rfl, hb1⟩
      have HB1 := Lib.hid (HB.out.trans (hb1.mono HB.out.size))
      clear hb1
      obtain ⟨b, hbd⟩ : ∃ b, bad25 x = b := ⟨_, rfl⟩
      rw [hbd]
      have HBD := Lib.hid hbd
      clear hbd
      cases b with
      | true =>
        go_wp2_with fail
        go_ret
        refine ⟨k, rfl, ?_, HB1.out⟩
        have : l0.any bad25 = true := by
          have h1 := HT.out
          rw [HBD.out, Bool.or_true] at h1
          rw [List.any_eq_true] at h1 ⊢
          obtain ⟨y, hy, hy2⟩ := h1
          exact ⟨y, List.mem_of_mem_take hy, hy2⟩
        rw [this]
        exact decide_eq_true (by omega)
      | false =>
        go_wp2_with fail
        go_roundw
        case rel => exact ⟨k + 1, by have := HK.out; omega, by simp, by rw [HT.out, HNO.out, HBD.out]; rfl, HB1.out⟩
        case measure => simp [RowKit.intOf]; omega
    · obtain rfl : k = l0.length := by omega
      have e1 : ¬ ((l0.length : Int) < l0.length) := by omega
      go_wp2_with fail
      go_ret
      refine ⟨-1, rfl, ?_, HB.out⟩
      have h1 := HNO.out
      rw [List.take_length] at h1
      rw [h1]
      rfl
theorem cf_25 (A0 : Option Addr) (c0 : Nat) (l0 : List S25) (w : World) (hok : ∀ x ∈ l0, ok25 x = true) (hr0 : Kd.C k25 w A0 l0.length l0) :
    Calls Try.prog 41 #[.slice A0 l0.length c0, .func (.func 42) #[] #[]] w fun e w' => e = .returned (.bool (l0.any bad25)) ∧ Below w.heap.size w w' := by
  have HC := Lib.hid (fun W hb => ix_25 A0 c0 l0 W hok (Kd.C_below hr0 hb))
  clear hr0 hok
  obtain ⟨b, hb⟩ : ∃ b, l0.any bad25 = b := ⟨_, rfl⟩
  rw [hb] at HC ⊢
  clear hb
  obtain ⟨n, hn⟩ : ∃ n, l0.length = n := ⟨_, rfl⟩
  rw [hn] at HC ⊢
  clear hn
  go_enter Try.func41, Try.ntmps41
  go_wp2_with fail
  refine (HC.out _ (by repeat (first | (with_reducible exact Below.refl _ _) | (with_reducible assumption) | (with_reducible refine below_drewN ?_ _) | (with_reducible refine Below.drew ?_) | (with_reducible refine below_ext_of ?_ (by first | exact Nat.le_refl _ | assumption | (simp only [World.size_alloc, World.size_setCell, size_ext, World.heap_drewN]; omega)) _ _) | (with_reducible refine Below.alloc ?_ (by first | exact Nat.le_refl _ | assumption | (simp only [World.size_alloc, World.size_setCell, size_ext, World.heap_drewN]; omega)) _) | (with_reducible refine Below.setCell ?_ (by first | exact Nat.le_refl _ | assumption | (simp only [World.size_alloc, World.size_setCell, size_ext, World.heap_drewN]; omega)) _)))).mono ?_
  rintro e w1 ⟨i, rfl, hi, hb⟩
  have hi : decide (i ≥ 0) = b := hi
  obtain ⟨X, d, rfl⟩ := below_ext hb
  clear hb
  go_wp2_with fail
  go_ret
  exact ⟨rfl, by repeat (first | (with_reducible exact Below.refl _ _) | (with_reducible assumption) | (with_reducible refine below_drewN ?_ _) | (with_reducible refine Below.drew ?_) | (with_reducible refine below_ext_of ?_ (by first | exact Nat.le_refl _ | assumption | (simp only [World.size_alloc, World.size_setCell, size_ext, World.heap_drewN]; omega)) _ _) | (with_reducible refine Below.alloc ?_ (by first | exact Nat.le_refl _ | assumption | (simp only [World.size_alloc, World.size_setCell, size_ext, World.heap_drewN]; omega)) _) | (with_reducible refine Below.setCell ?_ (by first | exact Nat.le_refl _ | assumption | (simp only [World.size_alloc, World.size_setCell, size_ext, World.heap_drewN]; omega)) _))⟩

def ok44 (x : S44) : Bool := in64 x.f0.f0 && in64 x.f0.f1
def bad44 (x : S44) : Bool := !mayC x.f0.f0 x.f0.f1
set_option maxRecDepth 100000 in
set_option maxHeartbeats 4000000 in
theorem cl_44 (w : World) (x : S44) (A5 : Option Addr) (c5 : Nat) (hok : ok44 x = true) : Calls Try.prog 33 #[.agg #[.int .i64 x.f0.f0, .int .i64 x.f0.f1, .int .i64 x.f1, .int .i64 x.f2, .int .i64 x.f3, .slice A5 x.f4.length c5, .int .i64 x.f5]] w fun e w' => e = .returned (.bool (bad44 x)) ∧ Below w.heap.size w w' := by
  have HI : Hid (-9223372036854775808 ≤ x.f0.f0 ∧ x.f0.f0 ≤ 9223372036854775807 ∧ -9223372036854775808 ≤ x.f0.f1 ∧ x.f0.f1 ≤ 9223372036854775807) := Lib.hid (by
    unfold ok44 at hok
    rw [Bool.and_eq_true] at hok
    have h1 := in64_iff.1 hok.1
    have h2 := in64_iff.1 hok.2
    exact ⟨h1.1, h1.2, h2.1, h2.2⟩)
  clear hok
  unfold bad44
  obtain ⟨b, hb⟩ : ∃ b, mayC x.f0.f0 x.f0.f1 = b := ⟨_, rfl⟩
  rw [hb]
  have HM := Lib.hid hb
  clear hb
  go_enter Try.func33, Try.ntmps33
  go_wp2_with fail
  refine (umay_clock _ x.f0.f0 x.f0.f1 HI.out.1 HI.out.2.1 HI.out.2.2.1 HI.out.2.2.2).mono ?_
  rintro e w1 ⟨rfl, hb⟩
  rw [HM.out]
  obtain ⟨X, d, rfl⟩ := below_ext hb
  clear hb
  cases b with
  | false =>
    go_wp2_with fail
    go_ret
    exact ⟨rfl, by repeat (first | (with_reducible exact Below.refl _ _) | (with_reducible assumption) | (with_reducible refine below_drewN ?_ _) | (with_reducible refine Below.drew ?_) | (with_reducible refine below_ext_of ?_ (by first | exact Nat.le_refl _ | assumption | (simp only [World.size_alloc, World.size_setCell, size_ext, World.heap_drewN]; omega)) _ _) | (with_reducible refine Below.alloc ?_ (by first | exact Nat.le_refl _ | assumption | (simp only [World.size_alloc, World.size_setCell, size_ext, World.heap_drewN]; omega)) _) | (with_reducible refine Below.setCell ?_ (by first | exact Nat.le_refl _ | assumption | (simp only [World.size_alloc, World.size_setCell, size_ext, World.heap_drewN]; omega)) _))⟩
  | true =>
    go_wp2_with fail
    go_ret
    exact ⟨rfl, by repeat (first | (with_reducible exact Below.refl _ _) | (with_reducible assumption) | (with_reducible refine below_drewN ?_ _) | (with_reducible refine Below.drew ?_) | (with_reducible refine below_ext_of ?_ (by first | exact Nat.le_refl _ | assumption | (simp only [World.size_alloc, World.size_setCell, size_ext, World.heap_drewN]; omega)) _ _) | (with_reducible refine Below.alloc ?_ (by first | exact Nat.le_refl _ | assumption | (simp only [World.size_alloc, World.size_setCell, size_ext, World.heap_drewN]; omega)) _) | (with_reducible refine Below.setCell ?_ (by first | exact Nat.le_refl _ | assumption | (simp only [World.size_alloc, World.size_setCell, size_ext, World.heap_drewN]; omega)) _))⟩

set_option maxRecDepth 100000 in
set_option maxHeartbeats 4000000 in
theorem ix_44 (A0 : Option Addr) (c0 : Nat) (l0 : List S44) (w : World) (hok : ∀ x ∈ l0, ok44 x = true) (hr0 : Kd.C k44 w A0 l0.length l0) :
    Calls Try.prog 59 #[.slice A0 l0.length c0, .func (.func 33) #[] #[]] w fun e w' => ∃ i : Int, e = .returned (.int .i64 i) ∧ decide (0 ≤ i) = l0.any bad44 ∧ Below w.heap.size w w' := by
  have hlen : l0.length ≤ 9223372036854775807 := hr0.2.1
  have HR := Lib.hid hr0
  have HO := Lib.hid hok
  clear hr0 hok
  go_enter Try.func59, Try.ntmps59
  go_wp2_with fail
  go_loopw [8] (fun i wr => ∃ k : Nat, k ≤ l0.length ∧ i = .int .i64 k ∧ (l0.take k).any bad44 = false ∧ Below w.heap.size w wr) (fun i _ => l0.length - (RowKit.intOf i).toNat)
  case atStart => exact ⟨0, Nat.zero_le _, rfl, by simp, Below.refl _ _⟩
  case round =>
    obtain ⟨k, hk, rfl, hno, hb⟩ := hrel
    have HB := Lib.hid hb
    have HNO := Lib.hid hno
    clear hb hno
    by_cases hlt : k < l0.length
    · have HT := Lib.hid (take_any l0 z44 bad44 k hlt)
      have HX := Lib.hid (HO.out _ (getD_mem l0 z44 k (by omega)))
      obtain ⟨ad, A5, c5, rfl, s0, s1, s2, s3, s4, s5, s6, hl5, hr5⟩ := at_T44 (Kd.C_below HR.out HB.out) k (by omega) (by omega)
      rw [Int.toNat_natCast] at s0 s1 s2 s3 s4 s5 s6
      have hrd : rd_T44 l0 k = l0.getD k z44 := rfl
      rw [hrd] at s0 s1 s2 s3 s4 s5 s6
      clear hrd hl5 hr5
      have HK := Lib.hid hk
      have e1 : (k : Int) < l0.length := by omega
      have e2 : (0 : Int) ≤ k := by omega
      have e3 : IntKind.i64.wrap ((k : Int) + 1) = (k : Int) + 1 := by rw [IntKind.wrap_i64]; omega
      generalize l0.getD k z44 = x at *
      have HC := Lib.hid (cl_44 wr x A5 c5 HX.out)
      skip
      go_wp2_with fail
      refine HC.out.mono ?_
      rintro e w1 ⟨rfl, hb1⟩
      have HB1 := Lib.hid (HB.out.trans (hb1.mono HB.out.size))
      clear hb1
      obtain ⟨b, hbd⟩ : ∃ b, bad44 x = b := ⟨_, rfl⟩
      rw [hbd]
      have HBD := Lib.hid hbd
      clear hbd
      cases b with
      | true =>
        go_wp2_with fail
        go_ret
        refine ⟨k, rfl, ?_, HB1.out⟩
        have : l0.any bad44 = true := by
          have h1 := HT.out
          rw [HBD.out, Bool.or_true] at h1
          rw [List.any_eq_true] at h1 ⊢
          obtain ⟨y, hy, hy2⟩ := h1
          exact ⟨y, List.mem_of_mem_take hy, hy2⟩
        rw [this]
        exact decide_eq_true (by omega)
      | false =>
        go_wp2_with fail
        go_roundw
        case rel => exact ⟨k + 1, by have := HK.out; omega, by simp, by rw [HT.out, HNO.out, HBD.out]; rfl, HB1.out⟩
        case measure => simp [RowKit.intOf]; omega
    · obtain rfl : k = l0.length := by omega
      have e1 : ¬ ((l0.length : Int) < l0.length) := by omega
      go_wp2_with fail
      go_ret
      refine ⟨-1, rfl, ?_, HB.out⟩
      have h1 := HNO.out
      rw [List.take_length] at h1
      rw [h1]
      rfl
theorem cf_44 (A0 : Option Addr) (c0 : Nat) (l0 : List S44) (w : World) (hok : ∀ x ∈ l0, ok44 x = true) (hr0 : Kd.C k44 w A0 l0.length l0) :
    Calls Try.prog 32 #[.slice A0 l0.length c0, .func (.func 33) #[] #[]] w fun e w' => e = .returned (.bool (l0.any bad44)) ∧ Below w.heap.size w w' := by
  have HC := Lib.hid (fun W hb => ix_44 A0 c0 l0 W hok (Kd.C_below hr0 hb))
  clear hr0 hok
  obtain ⟨b, hb⟩ : ∃ b, l0.any bad44 = b := ⟨_, rfl⟩
  rw [hb] at HC ⊢
  clear hb
  obtain ⟨n, hn⟩ : ∃ n, l0.length = n := ⟨_, rfl⟩
  rw [hn] at HC ⊢
  clear hn
  go_enter Try.func32, Try.ntmps32
  go_wp2_with fail
  refine (HC.out _ (by repeat (first | (with_reducible exact Below.refl _ _) | (with_reducible assumption) | (with_reducible refine below_drewN ?_ _) | (with_reducible refine Below.drew ?_) | (with_reducible refine below_ext_of ?_ (by first | exact Nat.le_refl _ | assumption | (simp only [World.size_alloc, World.size_setCell, size_ext, World.heap_drewN]; omega)) _ _) | (with_reducible refine Below.alloc ?_ (by first | exact Nat.le_refl _ | assumption | (simp only [World.size_alloc, World.size_setCell, size_ext, World.heap_drewN]; omega)) _) | (with_reducible refine Below.setCell ?_ (by first | exact Nat.le_refl _ | assumption | (simp only [World.size_alloc, World.size_setCell, size_ext, World.heap_drewN]; omega)) _)))).mono ?_
  rintro e w1 ⟨i, rfl, hi, hb⟩
  have hi : decide (i ≥ 0) = b := hi
  obtain ⟨X, d, rfl⟩ := below_ext hb
  clear hb
  go_wp2_with fail
  go_ret
  exact ⟨rfl, by repeat (first | (with_reducible exact Below.refl _ _) | (with_reducible assumption) | (with_reducible refine below_drewN ?_ _) | (with_reducible refine Below.drew ?_) | (with_reducible refine below_ext_of ?_ (by first | exact Nat.le_refl _ | assumption | (simp only [World.size_alloc, World.size_setCell, size_ext, World.heap_drewN]; omega)) _ _) | (with_reducible refine Below.alloc ?_ (by first | exact Nat.le_refl _ | assumption | (simp only [World.size_alloc, World.size_setCell, size_ext, World.heap_drewN]; omega)) _) | (with_reducible refine Below.setCell ?_ (by first | exact Nat.le_refl _ | assumption | (simp only [World.size_alloc, World.size_setCell, size_ext, World.heap_drewN]; omega)) _))⟩

def ok69 (x : S69) : Bool := true
def bad69 (x : S69) : Bool := !mayD x.f3.f0 x.f3.f1 x.f3.f2
set_option maxRecDepth 100000 in
set_option maxHeartbeats 4000000 in
theorem cl_69 (w : World) (x : S69) (A3 : Option Addr) (c3 : Nat) (A4 : Option Addr) (c4 : Nat) (hr3 : Kd.C k79 w A3 x.f3.f0.length x.f3.f0) (hr4 : Kd.C k79 w A4 x.f3.f1.length x.f3.f1) : Calls Try.prog 29 #[.agg #[.int .u8 x.f0, .int .i64 x.f1, .int .i64 x.f2, .slice A3 x.f3.f0.length c3, .slice A4 x.f3.f1.length c4, .int .i64 x.f3.f2]] w fun e w' => e = .returned (.bool (bad69 x)) ∧ Below w.heap.size w w' := by
  have HR3 := Lib.hid hr3
  have HR4 := Lib.hid hr4
  clear hr3 hr4
  unfold bad69
  obtain ⟨b, hb⟩ : ∃ b, mayD x.f3.f0 x.f3.f1 x.f3.f2 = b := ⟨_, rfl⟩
  rw [hb]
  have HM := Lib.hid hb
  clear hb
  go_enter Try.func29, Try.ntmps29
  go_wp2_with fail
  refine (May_any' A3 A4 c3 c4 x.f3.f0 x.f3.f1 x.f3.f2 _ _ rfl rfl _ (Kd.C_below HR3.out (by repeat (first | (with_reducible exact Below.refl _ _) | (with_reducible assumption) | (with_reducible refine below_drewN ?_ _) | (with_reducible refine Below.drew ?_) | (with_reducible refine below_ext_of ?_ (by first | exact Nat.le_refl _ | assumption | (simp only [World.size_alloc, World.size_setCell, size_ext, World.heap_drewN]; omega)) _ _) | (with_reducible refine Below.alloc ?_ (by first | exact Nat.le_refl _ | assumption | (simp only [World.size_alloc, World.size_setCell, size_ext, World.heap_drewN]; omega)) _) | (with_reducible refine Below.setCell ?_ (by first | exact Nat.le_refl _ | assumption | (simp only [World.size_alloc, World.size_setCell, size_ext, World.heap_drewN]; omega)) _)))) (Kd.C_below HR4.out (by repeat (first | (with_reducible exact Below.refl _ _) | (with_reducible assumption) | (with_reducible refine below_drewN ?_ _) | (with_reducible refine Below.drew ?_) | (with_reducible refine below_ext_of ?_ (by first | exact Nat.le_refl _ | assumption | (simp only [World.size_alloc, World.size_setCell, size_ext, World.heap_drewN]; omega)) _ _) | (with_reducible refine Below.alloc ?_ (by first | exact Nat.le_refl _ | assumption | (simp only [World.size_alloc, World.size_setCell, size_ext, World.heap_drewN]; omega)) _) | (with_reducible refine Below.setCell ?_ (by first | exact Nat.le_refl _ | assumption | (simp only [World.size_alloc, World.size_setCell, size_ext, World.heap_drewN]; omega)) _))))).mono ?_
  rintro e w1 ⟨rfl, hb⟩
  rw [HM.out]
  obtain ⟨X, d, rfl⟩ := below_ext hb
  clear hb
  cases b with
  | false =>
    go_wp2_with fail
    go_ret
    exact ⟨rfl, by repeat (first | (with_reducible exact Below.refl _ _) | (with_reducible assumption) | (with_reducible refine below_drewN ?_ _) | (with_reducible refine Below.drew ?_) | (with_reducible refine below_ext_of ?_ (by first | exact Nat.le_refl _ | assumption | (simp only [World.size_alloc, World.size_setCell, size_ext, World.heap_drewN]; omega)) _ _) | (with_reducible refine Below.alloc ?_ (by first | exact Nat.le_refl _ | assumption | (simp only [World.size_alloc, World.size_setCell, size_ext, World.heap_drewN]; omega)) _) | (with_reducible refine Below.setCell ?_ (by first | exact Nat.le_refl _ | assumption | (simp only [World.size_alloc, World.size_setCell, size_ext, World.heap_drewN]; omega)) _))⟩
  | true =>
    go_wp2_with fail
    go_ret
    exact ⟨rfl, by repeat (first | (with_reducible exact Below.refl _ _) | (with_reducible assumption) | (with_reducible refine below_drewN ?_ _) | (with_reducible refine Below.drew ?_) | (with_reducible refine below_ext_of ?_ (by first | exact Nat.le_refl _ | assumption | (simp only [World.size_alloc, World.size_setCell, size_ext, World.heap_drewN]; omega)) _ _) | (with_reducible refine Below.alloc ?_ (by first | exact Nat.le_refl _ | assumption | (simp only [World.size_alloc, World.size_setCell, size_ext, World.heap_drewN]; omega)) _) | (with_reducible refine Below.setCell ?_ (by first | exact Nat.le_refl _ | assumption | (simp only [World.size_alloc, World.size_setCell, size_ext, World.heap_drewN]; omega)) _))⟩

set_option maxRecDepth 100000 in
set_option maxHeartbeats 4000000 in
theorem ix_69 (A0 : Option Addr) (c0 : Nat) (l0 : List S69) (w : World) (hok : ∀ x ∈ l0, ok69 x = true) (hr0 : Kd.C k69 w A0 l0.length l0) :
    Calls Try.prog 55 #[.slice A0 l0.length c0, .func (.func 29) #[] #[]] w fun e w' => ∃ i : Int, e = .returned (.int .i64 i) ∧ decide (0 ≤ i) = l0.any bad69 ∧ Below w.heap.size w w' := by
  have hlen : l0.length ≤ 9223372036854775807 := hr0.2.1
  have HR := Lib.hid hr0
  have HO := Lib.hid hok
  clear hr0 hok
  go_enter Try.func55, Try.ntmps55
  go_wp2_with fail
  go_loopw [8] (fun i wr => ∃ k : Nat, k ≤ l0.length ∧ i = .int .i64 k ∧ (l0.take k).any bad69 = false ∧ Below w.heap.size w wr) (fun i _ => l0.length - (RowKit.intOf i).toNat)
  case atStart => exact ⟨0, Nat.zero_le _, rfl, by simp, Below.refl _ _⟩
  case round =>
    obtain ⟨k, hk, rfl, hno, hb⟩ := hrel
    have HB := Lib.hid hb
    have HNO := Lib.hid hno
    clear hb hno
    by_cases hlt : k < l0.length
    · have HT := Lib.hid (take_any l0 z69 bad69 k hlt)
      have HX := Lib.hid (HO.out _ (getD_mem l0 z69 k (by omega)))
      obtain ⟨ad, A3, c3, A4, c4, rfl, s0, s1, s2, s3, s4, s5, hl3, hr3, hl4, hr4⟩ := at_T69 (Kd.C_below HR.out HB.out) k (by omega) (by omega)
      rw [Int.toNat_natCast] at s0 s1 s2 s3 s4 s5
      have hrd : rd_T69 l0 k = l0.getD k z69 := rfl
      rw [hrd] at s0 s1 s2 s3 s4 s5 hr3 hr4
      clear hrd hl3 hl4
      have HK := Lib.hid hk
      have e1 : (k : Int) < l0.length := by omega
      have e2 : (0 : Int) ≤ k := by omega
      have e3 : IntKind.i64.wrap ((k : Int) + 1) = (k : Int) + 1 := by rw [IntKind.wrap_i64]; omega
      generalize l0.getD k z69 = x at *
      have HC := Lib.hid (cl_69 wr x A3 c3 A4 c4 (Kd.C_below hr3 (Below.refl _ _)) (Kd.C_below hr4 (Below.refl _ _)))
      clear hr3 hr4
      go_wp2_with fail
      refine HC.out.mono ?_
      rintro e w1 ⟨rfl, hb1⟩
      have HB1 := Lib.hid (HB.out.trans (hb1.mono HB.out.size))
      clear hb1
      obtain ⟨b, hbd⟩ : ∃ b, bad69 x = b := ⟨_, rfl⟩
      rw [hbd]
      have HBD := Lib.hid hbd
      clear hbd
      cases b with
      | true =>
        go_wp2_with fail
        go_ret
        refine ⟨k, rfl, ?_, HB1.out⟩
        have : l0.any bad69 = true := by
          have h1 := HT.out
          rw [HBD.out, Bool.or_true] at h1
          rw [List.any_eq_true] at h1 ⊢
          obtain ⟨y, hy, hy2⟩ := h1
          exact ⟨y, List.mem_of_mem_take hy, hy2⟩
        rw [this]
        exact decide_eq_true (by omega)
      | false =>
        go_wp2_with fail
        go_roundw
        case rel => exact ⟨k + 1, by have := HK.out; omega, by simp, by rw [HT.out, HNO.out, HBD.out]; rfl, HB1.out⟩
        case measure => simp [RowKit.intOf]; omega
    · obtain rfl : k = l0.length := by omega
      have e1 : ¬ ((l0.length : Int) < l0.length) := by omega
      go_wp2_with fail
      go_ret
      refine ⟨-1, rfl, ?_, HB.out⟩
      have h1 := HNO.out
      rw [List.take_length] at h1
      rw [h1]
      rfl
theorem cf_69 (A0 : Option Addr) (c0 : Nat) (l0 : List S69) (w : World) (hok : ∀ x ∈ l0, ok69 x = true) (hr0 : Kd.C k69 w A0 l0.length l0) :
    Calls Try.prog 28 #[.slice A0 l0.length c0, .func (.func 29) #[] #[]] w fun e w' => e = .returned (.bool (l0.any bad69)) ∧ Below w.heap.size w w' := by
  have HC := Lib.hid (fun W hb => ix_69 A0 c0 l0 W hok (Kd.C_below hr0 hb))
  clear hr0 hok
  obtain ⟨b, hb⟩ : ∃ b, l0.any bad69 = b := ⟨_, rfl⟩
  rw [hb] at HC ⊢
  clear hb
  obtain ⟨n, hn⟩ : ∃ n, l0.length = n := ⟨_, rfl⟩
  rw [hn] at HC ⊢
  clear hn
  go_enter Try.func28, Try.ntmps28
  go_wp2_with fail
  refine (HC.out _ (by repeat (first | (with_reducible exact Below.refl _ _) | (with_reducible assumption) | (with_reducible refine below_drewN ?_ _) | (with_reducible refine Below.drew ?_) | (with_reducible refine below_ext_of ?_ (by first | exact Nat.le_refl _ | assumption | (simp only [World.size_alloc, World.size_setCell, size_ext, World.heap_drewN]; omega)) _ _) | (with_reducible refine Below.alloc ?_ (by first | exact Nat.le_refl _ | assumption | (simp only [World.size_alloc, World.size_setCell, size_ext, World.heap_drewN]; omega)) _) | (with_reducible refine Below.setCell ?_ (by first | exact Nat.le_refl _ | assumption | (simp only [World.size_alloc, World.size_setCell, size_ext, World.heap_drewN]; omega)) _)))).mono ?_
  rintro e w1 ⟨i, rfl, hi, hb⟩
  have hi : decide (i ≥ 0) = b := hi
  obtain ⟨X, d, rfl⟩ := below_ext hb
  clear hb
  go_wp2_with fail
  go_ret
  exact ⟨rfl, by repeat (first | (with_reducible exact Below.refl _ _) | (with_reducible assumption) | (with_reducible refine below_drewN ?_ _) | (with_reducible refine Below.drew ?_) | (with_reducible refine below_ext_of ?_ (by first | exact Nat.le_refl _ | assumption | (simp only [World.size_alloc, World.size_setCell, size_ext, World.heap_drewN]; omega)) _ _) | (with_reducible refine Below.alloc ?_ (by first | exact Nat.le_refl _ | assumption | (simp only [World.size_alloc, World.size_setCell, size_ext, World.heap_drewN]; omega)) _) | (with_reducible refine Below.setCell ?_ (by first | exact Nat.le_refl _ | assumption | (simp only [World.size_alloc, World.size_setCell, size_ext, World.heap_drewN]; omega)) _))⟩
end Go.Proofs.Ytkabmpbfabgkfaa
