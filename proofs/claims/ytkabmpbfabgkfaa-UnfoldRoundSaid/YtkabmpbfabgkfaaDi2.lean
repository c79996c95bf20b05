/-
  deps.At: contract.
  Conditions: the dep's rows lie in memory; the place is an int64.
-/
import Derived.Test.YtkabmpbfabgkfaaDh
import Derived.Deep.DeepCutAuto
import Derived.Deep.RegionHeld3
import Derived.BigRegion
set_option linter.unusedVariables false
set_option linter.unusedSimpArgs false
namespace Go.Proofs.Ytkabmpbfabgkfaa.P
open Go.RowKit Go.Shelf Go.Proofs.YtkabmpbfabgkfaaW.PrintWords Go.Proofs.YtkabmpbfabgkfaaW.PrintLast Go.Proofs.YtkabmpbfabgkfaaW.PrintMore
attribute [local go_sem] setCell_drewN alloc_drewN size_ext ext_ext ext_drewN ext_drew drewN_ext drew_ext cell?_ext frozen?_ext setCell_ext cell?_past1 frozen?_past1 setCell_past1 cell?_past2 frozen?_past2 setCell_past2 cell?_past3 frozen?_past3 setCell_past3 cell?_past4 frozen?_past4 setCell_past4 cell?_past5 frozen?_past5 setCell_past5 cell?_past6 frozen?_past6 setCell_past6 cell?_past7 frozen?_past7 setCell_past7 cell?_past8 frozen?_past8 setCell_past8

/-- What deps.At answers. -/
def atD (h l : List S79) (st n : Int) : Bool × Int × Int × Int :=
  if mayD h l st = true ∧ 0 ≤ n then
    if n < h.length then ((rd_T79 h n).f0, (rd_T79 h n).f1, (rd_T79 h n).f2, 0)
    else if fitB (st * ((n - h.length) / l.length)) = true ∧ fitB ((rd_T79 l ((n - h.length) % l.length)).f2 + st * ((n - h.length) / l.length)) = true then
      ((rd_T79 l ((n - h.length) % l.length)).f0, (rd_T79 l ((n - h.length) % l.length)).f1, (rd_T79 l ((n - h.length) % l.length)).f2 + st * ((n - h.length) / l.length), 0)
    else (false, 0, 0, 7)
  else (false, 0, 0, 2)
set_option maxRecDepth 100000 in
set_option maxHeartbeats 4000000 in
theorem At_no (A0 A1 : Option Addr) (c0 c1 : Nat) (h l : List S79) (st : Int) (n : Int) (w : World) (hm : mayD h l st = false ∨ n < 0) (hr0 : Kd.C k79 w A0 h.length h) (hr1 : Kd.C k79 w A1 l.length l) :
    Calls Try.prog 31 #[.agg #[.slice A0 h.length c0, .slice A1 l.length c1, .int .i64 st], .int .i64 n] w fun e w' => e = .returned (.tuple #[.agg #[.bool false, .int .i64 0, .int .i64 0], .int .i64 2]) ∧ Below w.heap.size w w' := by
  have HR0 := Lib.hid hr0
  have HR1 := Lib.hid hr1
  clear hr0 hr1
  cases hd : mayD h l st with
  | false =>
    have HD := Lib.hid hd
    clear hd hm
    go_enter Try.func31, Try.ntmps31
    go_wp2_with fail
    refine (May_any A0 A1 c0 c1 h l st _ (Kd.C_below HR0.out (by repeat (first | (with_reducible exact Below.refl _ _) | (with_reducible assumption) | (with_reducible refine below_drewN ?_ _) | (with_reducible refine Below.drew ?_) | (with_reducible refine below_ext_of ?_ (by first | exact Nat.le_refl _ | assumption | (simp only [World.size_alloc, World.size_setCell, size_ext, World.heap_drewN]; omega)) _ _) | (with_reducible refine Below.alloc ?_ (by first | exact Nat.le_refl _ | assumption | (simp only [World.size_alloc, World.size_setCell, size_ext, World.heap_drewN]; omega)) _) | (with_reducible refine Below.setCell ?_ (by first | exact Nat.le_refl _ | assumption | (simp only [World.size_alloc, World.size_setCell, size_ext, World.heap_drewN]; omega)) _)))) (Kd.C_below HR1.out (by repeat (first | (with_reducible exact Below.refl _ _) | (with_reducible assumption) | (with_reducible refine below_drewN ?_ _) | (with_reducible refine Below.drew ?_) | (with_reducible refine below_ext_of ?_ (by first | exact Nat.le_refl _ | assumption | (simp only [World.size_alloc, World.size_setCell, size_ext, World.heap_drewN]; omega)) _ _) | (with_reducible refine Below.alloc ?_ (by first | exact Nat.le_refl _ | assumption | (simp only [World.size_alloc, World.size_setCell, size_ext, World.heap_drewN]; omega)) _) | (with_reducible refine Below.setCell ?_ (by first | exact Nat.le_refl _ | assumption | (simp only [World.size_alloc, World.size_setCell, size_ext, World.heap_drewN]; omega)) _))))).mono ?_
    rintro e w' ⟨rfl, hb⟩
    obtain ⟨X, d, rfl⟩ := below_ext hb
    clear hb
    rw [HD.out]
    go_wp2_with fail
    refine bodyPost_ret (v := .tuple #[.agg #[.bool false, .int .i64 0, .int .i64 0], .int .i64 2]) (by simp [results, Try.results31, go_sem]) rfl ⟨rfl, ?_⟩
    repeat (first | (with_reducible exact Below.refl _ _) | (with_reducible assumption) | (with_reducible refine below_drewN ?_ _) | (with_reducible refine Below.drew ?_) | (with_reducible refine below_ext_of ?_ (by first | exact Nat.le_refl _ | assumption | (simp only [World.size_alloc, World.size_setCell, size_ext, World.heap_drewN]; omega)) _ _) | (with_reducible refine Below.alloc ?_ (by first | exact Nat.le_refl _ | assumption | (simp only [World.size_alloc, World.size_setCell, size_ext, World.heap_drewN]; omega)) _) | (with_reducible refine Below.setCell ?_ (by first | exact Nat.le_refl _ | assumption | (simp only [World.size_alloc, World.size_setCell, size_ext, World.heap_drewN]; omega)) _))
  | true =>
    have hn : n < 0 := by
      rcases hm with h | h
      · rw [hd] at h; cases h
      · exact h
    have d1 := decide_eq_true hn
    have HD := Lib.hid hd
    clear hd hm
    go_enter Try.func31, Try.ntmps31
    go_wp2_with fail
    refine (May_any A0 A1 c0 c1 h l st _ (Kd.C_below HR0.out (by repeat (first | (with_reducible exact Below.refl _ _) | (with_reducible assumption) | (with_reducible refine below_drewN ?_ _) | (with_reducible refine Below.drew ?_) | (with_reducible refine below_ext_of ?_ (by first | exact Nat.le_refl _ | assumption | (simp only [World.size_alloc, World.size_setCell, size_ext, World.heap_drewN]; omega)) _ _) | (with_reducible refine Below.alloc ?_ (by first | exact Nat.le_refl _ | assumption | (simp only [World.size_alloc, World.size_setCell, size_ext, World.heap_drewN]; omega)) _) | (with_reducible refine Below.setCell ?_ (by first | exact Nat.le_refl _ | assumption | (simp only [World.size_alloc, World.size_setCell, size_ext, World.heap_drewN]; omega)) _)))) (Kd.C_below HR1.out (by repeat (first | (with_reducible exact Below.refl _ _) | (with_reducible assumption) | (with_reducible refine below_drewN ?_ _) | (with_reducible refine Below.drew ?_) | (with_reducible refine below_ext_of ?_ (by first | exact Nat.le_refl _ | assumption | (simp only [World.size_alloc, World.size_setCell, size_ext, World.heap_drewN]; omega)) _ _) | (with_reducible refine Below.alloc ?_ (by first | exact Nat.le_refl _ | assumption | (simp only [World.size_alloc, World.size_setCell, size_ext, World.heap_drewN]; omega)) _) | (with_reducible refine Below.setCell ?_ (by first | exact Nat.le_refl _ | assumption | (simp only [World.size_alloc, World.size_setCell, size_ext, World.heap_drewN]; omega)) _))))).mono ?_
    rintro e w' ⟨rfl, hb⟩
    obtain ⟨X, d, rfl⟩ := below_ext hb
    clear hb
    rw [HD.out]
    go_wp2_with fail
    refine bodyPost_ret (v := .tuple #[.agg #[.bool false, .int .i64 0, .int .i64 0], .int .i64 2]) (by simp [results, Try.results31, go_sem]) rfl ⟨rfl, ?_⟩
    repeat (first | (with_reducible exact Below.refl _ _) | (with_reducible assumption) | (with_reducible refine below_drewN ?_ _) | (with_reducible refine Below.drew ?_) | (with_reducible refine below_ext_of ?_ (by first | exact Nat.le_refl _ | assumption | (simp only [World.size_alloc, World.size_setCell, size_ext, World.heap_drewN]; omega)) _ _) | (with_reducible refine Below.alloc ?_ (by first | exact Nat.le_refl _ | assumption | (simp only [World.size_alloc, World.size_setCell, size_ext, World.heap_drewN]; omega)) _) | (with_reducible refine Below.setCell ?_ (by first | exact Nat.le_refl _ | assumption | (simp only [World.size_alloc, World.size_setCell, size_ext, World.heap_drewN]; omega)) _))
set_option maxRecDepth 100000 in
set_option maxHeartbeats 4000000 in
theorem At_head (A0 A1 : Option Addr) (c0 c1 : Nat) (h l : List S79) (st : Int) (n : Nat) (w : World) (hd : mayD h l st = true) (hn : n < h.length) (hr0 : Kd.C k79 w A0 h.length h) (hr1 : Kd.C k79 w A1 l.length l) :
    Calls Try.prog 31 #[.agg #[.slice A0 h.length c0, .slice A1 l.length c1, .int .i64 st], .int .i64 (n : Int)] w fun e w' => e = .returned (.tuple #[.agg #[.bool (rd_T79 h n).f0, .int .i64 (rd_T79 h n).f1, .int .i64 (rd_T79 h n).f2], .int .i64 0]) ∧ Below w.heap.size w w' := by
  have HR0 := Lib.hid hr0
  have HR1 := Lib.hid hr1
  have HD := Lib.hid hd
  have e1 : ¬ ((n : Int) < 0) := by omega
  have e2 := decide_eq_false e1
  have e3 : (n : Int) < h.length := by omega
  have e4 := decide_eq_true e3
  have e5 : (0 : Int) ≤ n := by omega
  have hmx := hr0.2.1
  obtain ⟨ad, rfl, s0, s1, s2⟩ := at_T79 hr0 n (by omega) (by omega)
  rw [Int.toNat_natCast] at s0 s1 s2
  have hlt := World.block_lt_of_cell? _ _ s0
  rw [add_block] at hlt
  have S0 := Lib.hid s0
  have S1 := Lib.hid s1
  have S2 := Lib.hid s2
  clear hr0 hr1 hd s0 s1 s2
  go_enter Try.func31, Try.ntmps31
  go_wp2_with fail
  refine (May_any (some ad) A1 c0 c1 h l st _ (Kd.C_below HR0.out (by repeat (first | (with_reducible exact Below.refl _ _) | (with_reducible assumption) | (with_reducible refine below_drewN ?_ _) | (with_reducible refine Below.drew ?_) | (with_reducible refine below_ext_of ?_ (by first | exact Nat.le_refl _ | assumption | (simp only [World.size_alloc, World.size_setCell, size_ext, World.heap_drewN]; omega)) _ _) | (with_reducible refine Below.alloc ?_ (by first | exact Nat.le_refl _ | assumption | (simp only [World.size_alloc, World.size_setCell, size_ext, World.heap_drewN]; omega)) _) | (with_reducible refine Below.setCell ?_ (by first | exact Nat.le_refl _ | assumption | (simp only [World.size_alloc, World.size_setCell, size_ext, World.heap_drewN]; omega)) _)))) (Kd.C_below HR1.out (by repeat (first | (with_reducible exact Below.refl _ _) | (with_reducible assumption) | (with_reducible refine below_drewN ?_ _) | (with_reducible refine Below.drew ?_) | (with_reducible refine below_ext_of ?_ (by first | exact Nat.le_refl _ | assumption | (simp only [World.size_alloc, World.size_setCell, size_ext, World.heap_drewN]; omega)) _ _) | (with_reducible refine Below.alloc ?_ (by first | exact Nat.le_refl _ | assumption | (simp only [World.size_alloc, World.size_setCell, size_ext, World.heap_drewN]; omega)) _) | (with_reducible refine Below.setCell ?_ (by first | exact Nat.le_refl _ | assumption | (simp only [World.size_alloc, World.size_setCell, size_ext, World.heap_drewN]; omega)) _))))).mono ?_
  rintro e w' ⟨rfl, hb⟩
  obtain ⟨X, d, rfl⟩ := below_ext hb
  clear hb
  rw [HD.out]
  obtain ⟨V, hV⟩ : ∃ V, V = ext ((w.alloc (.cells #[.slice (some ad) h.length c0, .slice A1 l.length c1, .int .i64 st] 67)).alloc (.cells #[.bool false, .int .i64 0, .int .i64 0] 79)) X d := ⟨_, rfl⟩
  have vB : Below w.heap.size w V := by rw [hV]; repeat (first | (with_reducible exact Below.refl _ _) | (with_reducible assumption) | (with_reducible refine below_drewN ?_ _) | (with_reducible refine Below.drew ?_) | (with_reducible refine below_ext_of ?_ (by first | exact Nat.le_refl _ | assumption | (simp only [World.size_alloc, World.size_setCell, size_ext, World.heap_drewN]; omega)) _ _) | (with_reducible refine Below.alloc ?_ (by first | exact Nat.le_refl _ | assumption | (simp only [World.size_alloc, World.size_setCell, size_ext, World.heap_drewN]; omega)) _) | (with_reducible refine Below.setCell ?_ (by first | exact Nat.le_refl _ | assumption | (simp only [World.size_alloc, World.size_setCell, size_ext, World.heap_drewN]; omega)) _))
  have z0 : V.cell? (ad.add (n * 3)) = _ := (vB.cell (by rw [add_block]; exact hlt)).trans S0.out
  have z1 := (vB.cell (p := ⟨(ad.add (n * 3)).block, (ad.add (n * 3)).off + 1, none⟩) (by rw [add_block]; exact hlt)).trans S1.out
  have z2 := (vB.cell (p := ⟨(ad.add (n * 3)).block, (ad.add (n * 3)).off + 2, none⟩) (by rw [add_block]; exact hlt)).trans S2.out
  rw [hV] at z0 z1 z2
  have y0 := fun D : Nat => (show (ext ((w.alloc (.cells #[.slice (some ad) h.length c0, .slice A1 l.length c1, .int .i64 st] 67)).alloc (.cells #[.bool false, .int .i64 0, .int .i64 0] 79)) X D).cell? (ad.add (n * 3)) = _ from z0)
  have y1 := fun D : Nat => (show (ext ((w.alloc (.cells #[.slice (some ad) h.length c0, .slice A1 l.length c1, .int .i64 st] 67)).alloc (.cells #[.bool false, .int .i64 0, .int .i64 0] 79)) X D).cell? ⟨(ad.add (n * 3)).block, (ad.add (n * 3)).off + 1, none⟩ = _ from z1)
  have y2 := fun D : Nat => (show (ext ((w.alloc (.cells #[.slice (some ad) h.length c0, .slice A1 l.length c1, .int .i64 st] 67)).alloc (.cells #[.bool false, .int .i64 0, .int .i64 0] 79)) X D).cell? ⟨(ad.add (n * 3)).block, (ad.add (n * 3)).off + 2, none⟩ = _ from z2)
  clear hV vB z0 z1 z2
  obtain ⟨x, hx⟩ : ∃ x, x = rd_T79 h n := ⟨_, rfl⟩
  have HX := Lib.hid hx
  rw [← hx] at y0 y1 y2
  clear hx
  go_wp2_with fail
  go_quiet (fail)
  go_wp2_with fail
  refine bodyPost_ret (v := .tuple #[.agg #[.bool x.f0, .int .i64 x.f1, .int .i64 x.f2], .int .i64 0]) (by simp [results, Try.results31, go_sem]) rfl ⟨by rw [HX.out], ?_⟩
  repeat (first | (with_reducible exact Below.refl _ _) | (with_reducible assumption) | (with_reducible refine below_drewN ?_ _) | (with_reducible refine Below.drew ?_) | (with_reducible refine below_ext_of ?_ (by first | exact Nat.le_refl _ | assumption | (simp only [World.size_alloc, World.size_setCell, size_ext, World.heap_drewN]; omega)) _ _) | (with_reducible refine Below.alloc ?_ (by first | exact Nat.le_refl _ | assumption | (simp only [World.size_alloc, World.size_setCell, size_ext, World.heap_drewN]; omega)) _) | (with_reducible refine Below.setCell ?_ (by first | exact Nat.le_refl _ | assumption | (simp only [World.size_alloc, World.size_setCell, size_ext, World.heap_drewN]; omega)) _))
theorem fit_of {v x : Int} (hb : true = fitB v) (hx : x = fitV v) : x = v := by
  unfold fitB at hb
  unfold fitV at hx
  rw [hx, if_pos (of_decide_eq_true hb.symm)]
/-- What is told of a loop's source, so many rounds on. -/
def atVal (x : S79) (st : Int) (t : Nat) : Value := if fitB (st * (t : Int)) = true ∧ fitB (x.f2 + st * (t : Int)) = true then .tuple #[.agg #[.bool x.f0, .int .i64 x.f1, .int .i64 (x.f2 + st * (t : Int))], .int .i64 0] else .tuple #[.agg #[.bool false, .int .i64 0, .int .i64 0], .int .i64 7]
set_option maxRecDepth 100000 in
set_option maxHeartbeats 8000000 in
theorem At_loop (A0 A1 : Option Addr) (c0 c1 : Nat) (h l : List S79) (st : Int) (n : Nat) (w : World) (hd : mayD h l st = true) (hn : h.length ≤ n) (hn2 : n ≤ 9223372036854775807) (hr0 : Kd.C k79 w A0 h.length h) (hr1 : Kd.C k79 w A1 l.length l) :
    Calls Try.prog 31 #[.agg #[.slice A0 h.length c0, .slice A1 l.length c1, .int .i64 st], .int .i64 (n : Int)] w fun e w' => e = .returned (atVal (rd_T79 l (((n - h.length) % l.length : Nat) : Int)) st ((n - h.length) / l.length)) ∧ Below w.heap.size w w' := by
  have HR0 := Lib.hid hr0
  have HR1 := Lib.hid hr1
  have HD := Lib.hid hd
  have hb1 : 1 ≤ l.length ∧ l.length ≤ 4096 ∧ h.length ≤ 4096 ∧ 0 ≤ st ∧ st ≤ 1099511627776 := by
    unfold mayD at hd
    simp only [Bool.and_eq_true, decide_eq_true_eq] at hd
    omega
  have HM : allMay h.length (upto (srcs h l) (h.length + l.length)) = true := by
    unfold mayD at hd
    simp only [Bool.and_eq_true, decide_eq_true_eq] at hd
    exact hd.2.2.2.2.2
  obtain ⟨q, hq⟩ : ∃ q, q = (n - h.length) % l.length := ⟨_, rfl⟩
  obtain ⟨t, ht⟩ : ∃ t, t = (n - h.length) / l.length := ⟨_, rfl⟩
  obtain ⟨j, hj⟩ : ∃ j, j = n - h.length := ⟨_, rfl⟩
  have hql : q < l.length := by rw [hq]; exact Nat.mod_lt _ (by omega)
  have htl : t ≤ n := by rw [ht]; exact Nat.le_trans (Nat.div_le_self _ _) (Nat.sub_le _ _)
  rw [← hq, ← ht]
  rw [← hj] at hq ht
  obtain ⟨x, hx⟩ : ∃ x, x = rd_T79 l q := ⟨_, rfl⟩
  have hxm : mayS h.length (h.length + q, x) = true := by
    have := srcs_may ⟨by omega, HM⟩ (h.length + q) (by omega)
    rwa [srcs_loop, ← hx] at this
  have hf0 : x.f0 = false ∧ 0 ≤ x.f2 ∧ x.f2 ≤ 1125899906842624 := by
    unfold mayS at hxm
    cases hx0 : x.f0 with
    | true => rw [hx0] at hxm; simp at hxm
    | false => rw [hx0] at hxm; simp at hxm; exact ⟨rfl, by omega, by omega⟩
  obtain ⟨ad, rfl, s0, s1, s2⟩ := at_T79 hr1 q (by omega) (by omega)
  rw [Int.toNat_natCast, ← hx] at s0 s1 s2
  have hlt := World.block_lt_of_cell? _ _ s0
  rw [add_block] at hlt
  have S0 := Lib.hid s0
  have S1 := Lib.hid s1
  have S2 := Lib.hid s2
  rw [← hx]
  clear hr0 hr1 hd HM hxm s0 s1 s2 hx
  obtain ⟨n0, hn0⟩ : ∃ n0, n0 = h.length := ⟨_, rfl⟩
  obtain ⟨n1, hn1⟩ : ∃ n1, n1 = l.length := ⟨_, rfl⟩
  rw [← hn0] at hn hj hb1 ⊢
  rw [← hn1] at hql hq ht hb1 ⊢
  have HN0 := Lib.hid hn0
  have HN1 := Lib.hid hn1
  have e1 : ¬ ((n : Int) < 0) := by omega
  have e2 := decide_eq_false e1
  have e3 : ¬ ((n : Int) < n0) := by omega
  have e4 := decide_eq_false e3
  have e5 : (n : Int) - n0 = (j : Int) := by omega
  have e6 : IntKind.i64.wrap ((n : Int) - n0) = (j : Int) := by rw [IntKind.wrap_i64]; omega
  have e7 : Int.tmod (j : Int) (n1 : Int) = (q : Int) := by rw [hq, Int.tmod_eq_emod_of_nonneg (by omega)]; rfl
  have e8 : Int.tdiv (j : Int) (n1 : Int) = (t : Int) := by rw [ht]; rfl
  have e9 : ((j : Int) % (n1 : Int)) = (q : Int) := by rw [hq]; rfl
  have e10 : ((j : Int) / (n1 : Int)) = (t : Int) := by rw [ht]; rfl
  have e11 : (0 : Int) ≤ q := by omega
  have e12 : (q : Int) < n1 := by omega
  have e13 : ¬ ((n1 : Int) = 0) := by omega
  have e14 : ((n1 : Int) == 0) = false := beq_false_of_ne e13
  have e15 : ((n1 : Int) == -1) = false := beq_false_of_ne (by omega)
  have e16 : ¬ (n1 = 0) := by omega
  have e17 : IntKind.i64.wrap (t : Int) = (t : Int) := by rw [IntKind.wrap_i64]; omega
  have e18 : IntKind.i64.wrap (j : Int) = (j : Int) := by rw [IntKind.wrap_i64]; omega
  clear hn0 hn1 hq ht hj
  go_enter Try.func31, Try.ntmps31
  go_wp2_with fail
  refine (May_any' A0 (some ad) c0 c1 h l st n0 n1 HN0.out HN1.out _ (Kd.C_below HR0.out (by repeat (first | (with_reducible exact Below.refl _ _) | (with_reducible assumption) | (with_reducible refine below_drewN ?_ _) | (with_reducible refine Below.drew ?_) | (with_reducible refine below_ext_of ?_ (by first | exact Nat.le_refl _ | assumption | (simp only [World.size_alloc, World.size_setCell, size_ext, World.heap_drewN]; omega)) _ _) | (with_reducible refine Below.alloc ?_ (by first | exact Nat.le_refl _ | assumption | (simp only [World.size_alloc, World.size_setCell, size_ext, World.heap_drewN]; omega)) _) | (with_reducible refine Below.setCell ?_ (by first | exact Nat.le_refl _ | assumption | (simp only [World.size_alloc, World.size_setCell, size_ext, World.heap_drewN]; omega)) _)))) (Kd.C_below HR1.out (by repeat (first | (with_reducible exact Below.refl _ _) | (with_reducible assumption) | (with_reducible refine below_drewN ?_ _) | (with_reducible refine Below.drew ?_) | (with_reducible refine below_ext_of ?_ (by first | exact Nat.le_refl _ | assumption | (simp only [World.size_alloc, World.size_setCell, size_ext, World.heap_drewN]; omega)) _ _) | (with_reducible refine Below.alloc ?_ (by first | exact Nat.le_refl _ | assumption | (simp only [World.size_alloc, World.size_setCell, size_ext, World.heap_drewN]; omega)) _) | (with_reducible refine Below.setCell ?_ (by first | exact Nat.le_refl _ | assumption | (simp only [World.size_alloc, World.size_setCell, size_ext, World.heap_drewN]; omega)) _))))).mono ?_
  rintro e w' ⟨rfl, hb⟩
  obtain ⟨X, d, rfl⟩ := below_ext hb
  clear hb
  rw [HD.out]
  go_wp2_with fail
  go_quiet (fail)
  go_upto_region 6 with (fail)
  have q0 := World.alloc_heap_new w (.cells #[.slice A0 n0 c0, .slice (some ad) n1 c1, .int .i64 st] 67)
  have q1 := World.alloc_heap_new (w.alloc (.cells #[.slice A0 n0 c0, .slice (some ad) n1 c1, .int .i64 st] 67)) (.cells #[.bool false, .int .i64 0, .int .i64 0] 79)
  rw [World.size_alloc] at q1
  have q0' := (Below.heap_alloc _ (.cells #[.bool false, .int .i64 0, .int .i64 0] 79) _ (Array.getElem?_eq_some_iff.1 q0).1).trans q0
  obtain ⟨V, hV⟩ : ∃ V, V = ext ((w.alloc (.cells #[.slice A0 n0 c0, .slice (some ad) n1 c1, .int .i64 st] 67)).alloc (.cells #[.bool false, .int .i64 0, .int .i64 0] 79)) X (d + nq) := ⟨_, rfl⟩
  have vB : Below w.heap.size w V := by rw [hV]; repeat (first | (with_reducible exact Below.refl _ _) | (with_reducible assumption) | (with_reducible refine below_drewN ?_ _) | (with_reducible refine Below.drew ?_) | (with_reducible refine below_ext_of ?_ (by first | exact Nat.le_refl _ | assumption | (simp only [World.size_alloc, World.size_setCell, size_ext, World.heap_drewN]; omega)) _ _) | (with_reducible refine Below.alloc ?_ (by first | exact Nat.le_refl _ | assumption | (simp only [World.size_alloc, World.size_setCell, size_ext, World.heap_drewN]; omega)) _) | (with_reducible refine Below.setCell ?_ (by first | exact Nat.le_refl _ | assumption | (simp only [World.size_alloc, World.size_setCell, size_ext, World.heap_drewN]; omega)) _))
  have vD : V.heap[w.heap.size]? = some (.cells #[.slice A0 n0 c0, .slice (some ad) n1 c1, .int .i64 st] 67) := by rw [hV]; exact ((ext_below _ _ _).block _ (by simp; omega)).trans q0'
  have v4 : V.heap[w.heap.size + 1]? = some (.cells #[.bool false, .int .i64 0, .int .i64 0] 79) := by rw [hV]; exact ((ext_below _ _ _).block _ (by simp)).trans q1
  rw [← hV]
  have z0 : V.cell? (ad.add (q * 3)) = _ := (vB.cell (by rw [add_block]; exact hlt)).trans S0.out
  have z1 := (vB.cell (p := ⟨(ad.add (q * 3)).block, (ad.add (q * 3)).off + 1, none⟩) (by rw [add_block]; exact hlt)).trans S1.out
  have z2 := (vB.cell (p := ⟨(ad.add (q * 3)).block, (ad.add (q * 3)).off + 2, none⟩) (by rw [add_block]; exact hlt)).trans S2.out
  have hadV : (ad.add (q * 3)).block < V.heap.size := by rw [add_block]; exact Nat.lt_of_lt_of_le hlt vB.size
  have hws : w.heap.size < V.heap.size := (Array.getElem?_eq_some_iff.1 vD).1
  have hw4 : w.heap.size + 1 < V.heap.size := (Array.getElem?_eq_some_iff.1 v4).1
  have p0 := cell_of vD 0
  have p1 := cell_of vD 1
  have p2 := cell_of vD 2
  have p40 := cell_of v4 0
  have p41 := cell_of v4 1
  have p42 := cell_of v4 2
  have p4f := fun i => froz_of v4 i
  simp only [List.getElem?_toArray, List.getElem?_cons_zero, List.getElem?_cons_succ] at p0 p1 p2 p40 p41 p42
  have VB := Lib.hid vB
  have V4 := Lib.hid v4
  have VD := Lib.hid vD
  clear q0 q1 q0' hV vB vD v4 S0 S1 S2
  obtain ⟨M, hM⟩ : ∃ M, M = fitV (st * (t : Int)) := ⟨_, rfl⟩
  obtain ⟨b, hb⟩ : ∃ b, b = fitB (st * (t : Int)) := ⟨_, rfl⟩
  have HMM := Lib.hid hM
  have HBB := Lib.hid hb
  clear hM hb
  obtain ⟨f0, f1, f2⟩ := x
  dsimp only at hf0 z0 z1 z2
  obtain ⟨f0e, f2a, f2b⟩ := hf0
  subst f0e
  go_region_held3 (fun W => (W.cell? ⟨w.heap.size, 0, none⟩ = some (.slice A0 n0 c0) ∧ W.cell? ⟨w.heap.size, 1, none⟩ = some (.slice (some ad) n1 c1)) ∧ (W.cell? (ad.add (q * 3)) = some (.bool false) ∧ (W.cell? ⟨(ad.add (q * 3)).block, (ad.add (q * 3)).off + 1, none⟩ = some (.int .i64 f1) ∧ W.cell? ⟨(ad.add (q * 3)).block, (ad.add (q * 3)).off + 2, none⟩ = some (.int .i64 f2)))) (go_simp) (fail)
  go_wp2_with fail
  obtain ⟨U, hU⟩ : ∃ U, U = (V.alloc (.cells #[.bool false, .int .i64 f1, .int .i64 f2] 79)).drew := ⟨_, rfl⟩
  have uD : U.heap[w.heap.size]? = some (.cells #[.slice A0 n0 c0, .slice (some ad) n1 c1, .int .i64 st] 67) := by rw [hU, heap_drew]; exact (heap_old V _ _ hws).trans VD.out
  have u4 : U.heap[w.heap.size + 1]? = some (.cells #[.bool false, .int .i64 0, .int .i64 0] 79) := by rw [hU, heap_drew]; exact (heap_old V _ _ hw4).trans V4.out
  have u8 : U.heap[V.heap.size]? = some (.cells #[.bool false, .int .i64 f1, .int .i64 f2] 79) := by rw [hU, heap_drew]; exact heap_new V _ _ rfl
  have uB : Below w.heap.size w U := by rw [hU]; exact (VB.out.alloc VB.out.size _).drew
  rw [← hU]
  obtain ⟨B8, hB8⟩ : ∃ B8, B8 = V.heap.size := ⟨_, rfl⟩
  rw [← hB8] at u8 hws hw4 ⊢
  clear hU p0 p1 p2 p40 p41 p42 p4f z0 z1 z2 hadV VB V4 VD hB8
  have p0 := cell_of uD 0
  have p1 := cell_of uD 1
  have p2 := cell_of uD 2
  have p40 := cell_of u4 0
  have p41 := cell_of u4 1
  have p42 := cell_of u4 2
  have p80 := cell_of u8 0
  have p81 := cell_of u8 1
  have p82 := cell_of u8 2
  have p4f := fun i => froz_of u4 i
  have p8f := fun i => froz_of u8 i
  have hw4w := (Array.getElem?_eq_some_iff.1 u4).1
  have hB4 : w.heap.size + 1 ≠ B8 := by omega
  have hB5 : B8 ≠ w.heap.size + 1 := by omega
  have hB6 : w.heap.size ≠ B8 := by omega
  simp only [List.getElem?_toArray, List.getElem?_cons_zero, List.getElem?_cons_succ] at p0 p1 p2 p40 p41 p42 p80 p81 p82
  have UB := Lib.hid uB
  have U4 := Lib.hid u4
  have U8 := Lib.hid u8
  clear uD u4 u8 uB
  have hmul : ∀ W : World, Calls Try.prog 57 #[.int .i64 st, .int .i64 (t : Int)] W fun e w' => e = .returned (.tuple #[.int .i64 M, .bool b]) ∧ w' = W := fun W => (num_mul st t W (by omega) (by omega) (by omega) (by omega)).mono fun e w' ⟨he, hw⟩ => ⟨by rw [he, HMM.out, HBB.out], hw.symm⟩
  have HML := Lib.hid hmul
  clear hmul
  go_quiet ((go_at_call 57; exact Calls.quiet_of_same (HML.out _)))
  cases b with
  | false =>
    have hv : Hid (atVal ⟨false, f1, f2⟩ st t = .tuple #[.agg #[.bool false, .int .i64 0, .int .i64 0], .int .i64 7]) := Lib.hid (by unfold atVal; rw [if_neg (fun hh => by rw [← HBB.out] at hh; cases hh.1)])
    go_wp2_with fail
    refine bodyPost_ret (v := .tuple #[.agg #[.bool false, .int .i64 0, .int .i64 0], .int .i64 7]) (by simp [results, Try.results31, go_sem, p40, p41, p42, hw4w]) rfl ⟨by rw [hv.out], ?_⟩
    (repeat (first | (with_reducible exact UB.out) | (with_reducible exact Below.refl _ _) | (with_reducible refine below_dn ?_ _) | (with_reducible refine Below.drew ?_) | (refine Below.setCell ?_ (by first | exact Nat.le_succ _ | (dsimp only; omega)) _)))
  | true =>
    obtain ⟨M2, hM2⟩ : ∃ M2, M2 = fitV (f2 + M) := ⟨_, rfl⟩
    obtain ⟨b2, hb2⟩ : ∃ b2, b2 = fitB (f2 + M) := ⟨_, rfl⟩
    have HM2 := Lib.hid hM2
    have HB2 := Lib.hid hb2
    clear hM2 hb2
    have hMst : Hid (M = st * (t : Int)) := Lib.hid (fit_of HBB.out HMM.out)
    have hMr : -9223372036854775808 ≤ M ∧ M ≤ 9223372036854775807 := by
      have := fitV_in (st * (t : Int))
      rw [← HMM.out] at this
      unfold in64 at this
      simpa using this
    go_wp2_with fail
    refine (num_add f2 M _ (by omega) (by omega) (by omega) (by omega)).mono ?_
    rintro e w' ⟨rfl, rfl⟩
    rw [← HM2.out, ← HB2.out]
    cases b2 with
    | false =>
      have hv : Hid (atVal ⟨false, f1, f2⟩ st t = .tuple #[.agg #[.bool false, .int .i64 0, .int .i64 0], .int .i64 7]) := Lib.hid (by unfold atVal; rw [if_neg (fun hh => by rw [← hMst.out, ← HB2.out] at hh; cases hh.2)])
      go_wp2_with fail
      refine bodyPost_ret (v := .tuple #[.agg #[.bool false, .int .i64 0, .int .i64 0], .int .i64 7]) (by simp [results, Try.results31, go_sem, p40, p41, p42, hw4w]) rfl ⟨by rw [hv.out], ?_⟩
      (repeat (first | (with_reducible exact UB.out) | (with_reducible exact Below.refl _ _) | (with_reducible refine below_dn ?_ _) | (with_reducible refine Below.drew ?_) | (refine Below.setCell ?_ (by first | exact Nat.le_succ _ | (dsimp only; omega)) _)))
    | true =>
      have hv : Hid (atVal ⟨false, f1, f2⟩ st t = .tuple #[.agg #[.bool false, .int .i64 f1, .int .i64 M2], .int .i64 0]) := Lib.hid (by
        unfold atVal
        dsimp only
        rw [if_pos ⟨by rw [← HBB.out], by rw [← hMst.out, ← HB2.out]⟩, ← hMst.out, fit_of HB2.out HM2.out])
      go_wp2_with fail
      refine bodyPost_ret (v := .tuple #[.agg #[.bool false, .int .i64 f1, .int .i64 M2], .int .i64 0]) (by simp [results, Try.results31, go_sem, p40, p41, p42, hw4w]) rfl ⟨by rw [hv.out], ?_⟩
      (repeat (first | (with_reducible exact UB.out) | (with_reducible exact Below.refl _ _) | (with_reducible refine below_dn ?_ _) | (with_reducible refine Below.drew ?_) | (refine Below.setCell ?_ (by first | exact Nat.le_succ _ | (dsimp only; omega)) _)))
end Go.Proofs.Ytkabmpbfabgkfaa.P
