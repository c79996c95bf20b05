/-
  carillonref01: what its functions over int64 answer: whole numbers next to a quotient, quotients as programs have them.
  Conditions: the arguments are int64s.
-/
import Derived.Test.YtncohomkggnckaaRq
set_option linter.unusedVariables false
set_option linter.unusedSimpArgs false
namespace Go.Proofs.Ytncohomkggnckaa
open Go.RowKit Big
attribute [local go_sem] setCell_drewN alloc_drewN size_ext ext_ext ext_drewN ext_drew drewN_ext drew_ext cell?_ext frozen?_ext setCell_ext cell?_past1 frozen?_past1 setCell_past1 cell?_past2 frozen?_past2 setCell_past2 cell?_past3 frozen?_past3 setCell_past3 cell?_past4 frozen?_past4 setCell_past4 cell?_past5 frozen?_past5 setCell_past5 cell?_past6 frozen?_past6 setCell_past6 cell?_past7 frozen?_past7 setCell_past7 cell?_past8 frozen?_past8 setCell_past8

theorem tmod_sg (a b : Int) : a.tmod b = sg (decide (a < 0)) (a.natAbs % b.natAbs) := by
  unfold sg
  rcases Int.lt_or_le a 0 with ha | ha <;> rcases Int.lt_or_le b 0 with hb | hb
  · obtain ⟨x, rfl⟩ : ∃ x : Nat, a = -(x : Int) := ⟨a.natAbs, by omega⟩
    obtain ⟨y, rfl⟩ : ∃ y : Nat, b = -(y : Int) := ⟨b.natAbs, by omega⟩
    rw [decide_eq_true ha, Int.neg_tmod, Int.tmod_neg, Int.tmod_eq_emod_of_nonneg (by omega)]; simp
  · obtain ⟨x, rfl⟩ : ∃ x : Nat, a = -(x : Int) := ⟨a.natAbs, by omega⟩
    obtain ⟨y, rfl⟩ : ∃ y : Nat, b = (y : Int) := ⟨b.natAbs, by omega⟩
    rw [decide_eq_true ha, Int.neg_tmod, Int.tmod_eq_emod_of_nonneg (by omega)]; simp
  · obtain ⟨x, rfl⟩ : ∃ x : Nat, a = (x : Int) := ⟨a.natAbs, by omega⟩
    obtain ⟨y, rfl⟩ : ∃ y : Nat, b = -(y : Int) := ⟨b.natAbs, by omega⟩
    rw [decide_eq_false (by omega), Int.tmod_neg, Int.tmod_eq_emod_of_nonneg (by omega)]; simp
  · obtain ⟨x, rfl⟩ : ∃ x : Nat, a = (x : Int) := ⟨a.natAbs, by omega⟩
    obtain ⟨y, rfl⟩ : ∃ y : Nat, b = (y : Int) := ⟨b.natAbs, by omega⟩
    rw [decide_eq_false (by omega), Int.tmod_eq_emod_of_nonneg (by omega)]; simp
theorem tdiv_sg (a b : Int) : a.tdiv b = sg (!(decide (a < 0) == decide (b < 0))) (a.natAbs / b.natAbs) := by
  unfold sg
  rcases Int.lt_or_le a 0 with ha | ha <;> rcases Int.lt_or_le b 0 with hb | hb
  · obtain ⟨x, rfl⟩ : ∃ x : Nat, a = -(x : Int) := ⟨a.natAbs, by omega⟩
    obtain ⟨y, rfl⟩ : ∃ y : Nat, b = -(y : Int) := ⟨b.natAbs, by omega⟩
    rw [decide_eq_true ha, decide_eq_true hb, Int.neg_tdiv, Int.tdiv_neg, Int.tdiv_eq_ediv_of_nonneg (by omega)]; simp
  · obtain ⟨x, rfl⟩ : ∃ x : Nat, a = -(x : Int) := ⟨a.natAbs, by omega⟩
    obtain ⟨y, rfl⟩ : ∃ y : Nat, b = (y : Int) := ⟨b.natAbs, by omega⟩
    rw [decide_eq_true ha, decide_eq_false (by omega), Int.neg_tdiv, Int.tdiv_eq_ediv_of_nonneg (by omega)]; simp
  · obtain ⟨x, rfl⟩ : ∃ x : Nat, a = (x : Int) := ⟨a.natAbs, by omega⟩
    obtain ⟨y, rfl⟩ : ∃ y : Nat, b = -(y : Int) := ⟨b.natAbs, by omega⟩
    rw [decide_eq_false (by omega), decide_eq_true hb, Int.tdiv_neg, Int.tdiv_eq_ediv_of_nonneg (by omega)]; simp
  · obtain ⟨x, rfl⟩ : ∃ x : Nat, a = (x : Int) := ⟨a.natAbs, by omega⟩
    obtain ⟨y, rfl⟩ : ∃ y : Nat, b = (y : Int) := ⟨b.natAbs, by omega⟩
    rw [decide_eq_false (by omega), decide_eq_false (by omega), Int.tdiv_eq_ediv_of_nonneg (by omega)]; simp
theorem sg_nz (s : Bool) (A : Nat) : sg (s && nz A) A = sg s A := by
  unfold sg nz; cases s <;> simp
  intro h; omega
theorem mod_fin (a b : Int) (ha1 : -9223372036854775808 ≤ a) (ha2 : a ≤ 9223372036854775807) (h0 : b ≠ 0) : wrap64 (sg (decide (a < 0) && nz (a.natAbs % b.natAbs)) (a.natAbs % b.natAbs)) = modV a b := by
  unfold modV
  rw [sg_nz, if_neg h0, ← tmod_sg]
  have e := tmod_sg a b
  have hl := Nat.mod_le a.natAbs b.natAbs
  rw [wrap64_of]
  unfold sg at e
  by_cases h : a < 0
  · rw [decide_eq_true h] at e; simp only [if_true] at e; omega
  · rw [decide_eq_false h] at e; simp only [Bool.false_eq_true, if_false] at e; omega
theorem div_fin (a b : Int) (h0 : b ≠ 0) : wrap64 (sg ((!(decide (a < 0) == decide (b < 0))) && nz (a.natAbs / b.natAbs)) (a.natAbs / b.natAbs)) = divV a b := by
  unfold divV
  rw [sg_nz, if_neg h0, ← tdiv_sg]
set_option maxHeartbeats 1000000 in
theorem ref_mod (a b : Int) (w : World) (ha1 : -9223372036854775808 ≤ a) (ha2 : a ≤ 9223372036854775807) (hb1 : -9223372036854775808 ≤ b) (hb2 : b ≤ 9223372036854775807) :
    Calls Try.prog 20 #[.int .i64 a, .int .i64 b] w fun e w' => e = .returned (.int .i64 (modV a b)) ∧ Below w.heap.size w w' := by
  by_cases h0 : b = 0
  · subst h0
    go_enter Try.func20, Try.ntmps20
    go_wp2_with fail
    go_ret
    exact ⟨rfl, Below.refl _ _⟩
  have hm := mod_fin a b ha1 ha2 h0
  have hA : a.natAbs < 340282366920938463463374607431768211456 := by omega
  have hBb : b.natAbs < 340282366920938463463374607431768211456 := by omega
  have hBh : b.natAbs ≤ 170141183460469231731687303715884105728 := by omega
  have hb0 : 0 < b.natAbs := by omega
  have hbb : (b == 0) = false := by rw [beq_eq_false_iff_ne]; exact h0
  have hq := Nat.div_le_self a.natAbs b.natAbs
  have hqb : a.natAbs / b.natAbs + 1 < 340282366920938463463374607431768211456 := by omega
  have hqb' : a.natAbs / b.natAbs < 340282366920938463463374607431768211456 := by omega
  have hqh : a.natAbs / b.natAbs < 170141183460469231731687303715884105728 := by omega
  have hrb : a.natAbs % b.natAbs < 340282366920938463463374607431768211456 := Nat.lt_trans (Nat.mod_lt _ hb0) hBb
  have hQ := fun (s t : Bool) (w : World) => quo_any a.natAbs b.natAbs s t w hA hb0 hBh
  have HhQ := Lib.hid hQ; clear hQ
  have HhA := Lib.hid hA; clear hA
  have HhBb := Lib.hid hBb; clear hBb
  have HhBh := Lib.hid hBh; clear hBh
  have Hhb0 := Lib.hid hb0; clear hb0
  have Hhqb := Lib.hid hqb; clear hqb
  have Hhqb' := Lib.hid hqb'; clear hqb'
  have Hhqh := Lib.hid hqh; clear hqh
  have Hhrb := Lib.hid hrb; clear hrb
  have Hha1 := Lib.hid ha1; clear ha1
  have Hha2 := Lib.hid ha2; clear ha2
  have Hhb1 := Lib.hid hb1; clear hb1
  have Hhb2 := Lib.hid hb2; clear hb2
  have Hh0 := Lib.hid h0; clear h0
  have Hhm := Lib.hid hm; clear hm
  clear hq
  generalize a.natAbs / b.natAbs = q at *
  generalize a.natAbs % b.natAbs = r at *
  go_enter Try.func20, Try.ntmps20
  have hB := Below.refl w.heap.size w
  go_wp2_with fail
  refine (of_any a _ Hha1.out Hha2.out).mono ?_
  rintro e w1 ⟨rfl, hb⟩
  replace hB := hB.trans (hb.mono hB.size)
  clear hb
  go_wp2_with fail
  refine (signed_any a.natAbs (decide (a < 0)) false _ HhA.out).mono ?_
  rintro e w2 ⟨rfl, hb⟩
  replace hB := hB.trans (hb.mono hB.size)
  clear hb
  go_wp2_with fail
  refine (of_any b _ Hhb1.out Hhb2.out).mono ?_
  rintro e w3 ⟨rfl, hb⟩
  replace hB := hB.trans (hb.mono hB.size)
  clear hb
  go_wp2_with fail
  refine (signed_any b.natAbs (decide (b < 0)) false _ HhBb.out).mono ?_
  rintro e w4 ⟨rfl, hb⟩
  replace hB := hB.trans (hb.mono hB.size)
  clear hb
  go_wp2_with fail
  refine (HhQ.out _ _ _).mono ?_
  rintro e w5 ⟨rfl, hb⟩
  replace hB := hB.trans (hb.mono hB.size)
  clear hb
  have hS := hB.size
  go_wp2_with (first
    | (go_at_call 33; refine (signed_any r false _ _ Hhrb.out).mono ?_; rintro e w' ⟨rfl, hb⟩; obtain ⟨X5, d5, rfl⟩ := below_ext hb; clear hb)
    | (go_at_call 37; refine (round_any r _ _).mono ?_; rintro e w' ⟨rfl, hb⟩; obtain ⟨X6, d6, rfl⟩ := below_ext hb; clear hb))
  go_ret
  exact ⟨ret_i Hhm.out, by repeat (first | (with_reducible exact Below.refl _ _) | (with_reducible assumption) | (with_reducible refine below_drewN ?_ _) | (with_reducible refine below_ext_of ?_ (by first | exact Nat.le_refl _ | assumption | (simp only [World.size_alloc, World.size_setCell, size_ext, World.heap_drewN]; omega)) _ _) | (with_reducible refine Below.alloc ?_ (by first | exact Nat.le_refl _ | assumption | (simp only [World.size_alloc, World.size_setCell, size_ext, World.heap_drewN]; omega)) _) | (with_reducible refine Below.setCell ?_ (by first | exact Nat.le_refl _ | assumption | (simp only [World.size_alloc, World.size_setCell, size_ext, World.heap_drewN]; omega)) _))⟩
set_option maxHeartbeats 1000000 in
theorem ref_div (a b : Int) (w : World) (ha1 : -9223372036854775808 ≤ a) (ha2 : a ≤ 9223372036854775807) (hb1 : -9223372036854775808 ≤ b) (hb2 : b ≤ 9223372036854775807) :
    Calls Try.prog 18 #[.int .i64 a, .int .i64 b] w fun e w' => e = .returned (.int .i64 (divV a b)) ∧ Below w.heap.size w w' := by
  by_cases h0 : b = 0
  · subst h0
    go_enter Try.func18, Try.ntmps18
    go_wp2_with fail
    go_ret
    exact ⟨rfl, Below.refl _ _⟩
  have hm := div_fin a b h0
  have hA : a.natAbs < 340282366920938463463374607431768211456 := by omega
  have hBb : b.natAbs < 340282366920938463463374607431768211456 := by omega
  have hBh : b.natAbs ≤ 170141183460469231731687303715884105728 := by omega
  have hb0 : 0 < b.natAbs := by omega
  have hbb : (b == 0) = false := by rw [beq_eq_false_iff_ne]; exact h0
  have hq := Nat.div_le_self a.natAbs b.natAbs
  have hqb : a.natAbs / b.natAbs + 1 < 340282366920938463463374607431768211456 := by omega
  have hqb' : a.natAbs / b.natAbs < 340282366920938463463374607431768211456 := by omega
  have hqh : a.natAbs / b.natAbs < 170141183460469231731687303715884105728 := by omega
  have hrb : a.natAbs % b.natAbs < 340282366920938463463374607431768211456 := Nat.lt_trans (Nat.mod_lt _ hb0) hBb
  have hQ := fun (s t : Bool) (w : World) => quo_any a.natAbs b.natAbs s t w hA hb0 hBh
  have HhQ := Lib.hid hQ; clear hQ
  have HhA := Lib.hid hA; clear hA
  have HhBb := Lib.hid hBb; clear hBb
  have HhBh := Lib.hid hBh; clear hBh
  have Hhb0 := Lib.hid hb0; clear hb0
  have Hhqb := Lib.hid hqb; clear hqb
  have Hhqb' := Lib.hid hqb'; clear hqb'
  have Hhqh := Lib.hid hqh; clear hqh
  have Hhrb := Lib.hid hrb; clear hrb
  have Hha1 := Lib.hid ha1; clear ha1
  have Hha2 := Lib.hid ha2; clear ha2
  have Hhb1 := Lib.hid hb1; clear hb1
  have Hhb2 := Lib.hid hb2; clear hb2
  have Hh0 := Lib.hid h0; clear h0
  have Hhm := Lib.hid hm; clear hm
  clear hq
  generalize a.natAbs / b.natAbs = q at *
  generalize a.natAbs % b.natAbs = r at *
  go_enter Try.func18, Try.ntmps18
  have hB := Below.refl w.heap.size w
  go_wp2_with fail
  refine (of_any a _ Hha1.out Hha2.out).mono ?_
  rintro e w1 ⟨rfl, hb⟩
  replace hB := hB.trans (hb.mono hB.size)
  clear hb
  go_wp2_with fail
  refine (signed_any a.natAbs (decide (a < 0)) false _ HhA.out).mono ?_
  rintro e w2 ⟨rfl, hb⟩
  replace hB := hB.trans (hb.mono hB.size)
  clear hb
  go_wp2_with fail
  refine (of_any b _ Hhb1.out Hhb2.out).mono ?_
  rintro e w3 ⟨rfl, hb⟩
  replace hB := hB.trans (hb.mono hB.size)
  clear hb
  go_wp2_with fail
  refine (signed_any b.natAbs (decide (b < 0)) false _ HhBb.out).mono ?_
  rintro e w4 ⟨rfl, hb⟩
  replace hB := hB.trans (hb.mono hB.size)
  clear hb
  go_wp2_with fail
  refine (HhQ.out _ _ _).mono ?_
  rintro e w5 ⟨rfl, hb⟩
  replace hB := hB.trans (hb.mono hB.size)
  clear hb
  have hS := hB.size
  go_wp2_with (first
    | (go_at_call 33; refine (signed_any q false _ _ Hhqb'.out).mono ?_; rintro e w' ⟨rfl, hb⟩; obtain ⟨X5, d5, rfl⟩ := below_ext hb; clear hb)
    | (go_at_call 37; refine (round_any q _ _).mono ?_; rintro e w' ⟨rfl, hb⟩; obtain ⟨X6, d6, rfl⟩ := below_ext hb; clear hb))
  go_ret
  exact ⟨ret_i Hhm.out, by repeat (first | (with_reducible exact Below.refl _ _) | (with_reducible assumption) | (with_reducible refine below_drewN ?_ _) | (with_reducible refine below_ext_of ?_ (by first | exact Nat.le_refl _ | assumption | (simp only [World.size_alloc, World.size_setCell, size_ext, World.heap_drewN]; omega)) _ _) | (with_reducible refine Below.alloc ?_ (by first | exact Nat.le_refl _ | assumption | (simp only [World.size_alloc, World.size_setCell, size_ext, World.heap_drewN]; omega)) _) | (with_reducible refine Below.setCell ?_ (by first | exact Nat.le_refl _ | assumption | (simp only [World.size_alloc, World.size_setCell, size_ext, World.heap_drewN]; omega)) _))⟩
set_option maxHeartbeats 1000000 in
theorem ref_floor_other (a b : Int) (w : World) (ha1 : -9223372036854775808 ≤ a) (ha2 : a ≤ 9223372036854775807) (hb1 : -9223372036854775808 ≤ b) (hb2 : b ≤ 9223372036854775807) (h0 : b ≠ 0) (ht : (!(decide (a < 0) == decide (b < 0))) = false) :
    Calls Try.prog 14 #[.int .i64 a, .int .i64 b] w fun e w' => e = .returned (.tuple #[.int .i64 (nearI (ngB a b) a b), .bool (nearB (ngB a b) a b)]) ∧ Below w.heap.size w w' := by
  have hI : nearI (ngB a b) a b = fitV (sg false (a.natAbs / b.natAbs)) := by unfold nearI nearV ngB upN; rw [if_neg h0]; rw [ht]; simp
  have hJ : nearB (ngB a b) a b = fitB (sg false (a.natAbs / b.natAbs)) := by unfold nearB nearV ngB upN; rw [if_neg h0]; rw [ht]; simp
  have hA : a.natAbs < 340282366920938463463374607431768211456 := by omega
  have hBb : b.natAbs < 340282366920938463463374607431768211456 := by omega
  have hBh : b.natAbs ≤ 170141183460469231731687303715884105728 := by omega
  have hb0 : 0 < b.natAbs := by omega
  have hbb : (b == 0) = false := by rw [beq_eq_false_iff_ne]; exact h0
  have hq := Nat.div_le_self a.natAbs b.natAbs
  have hqb : a.natAbs / b.natAbs + 1 < 340282366920938463463374607431768211456 := by omega
  have hqb' : a.natAbs / b.natAbs < 340282366920938463463374607431768211456 := by omega
  have hqh : a.natAbs / b.natAbs < 170141183460469231731687303715884105728 := by omega
  have hrb : a.natAbs % b.natAbs < 340282366920938463463374607431768211456 := Nat.lt_trans (Nat.mod_lt _ hb0) hBb
  have hQ := fun (s t : Bool) (w : World) => quo_any a.natAbs b.natAbs s t w hA hb0 hBh
  have HhQ := Lib.hid hQ; clear hQ
  have HhA := Lib.hid hA; clear hA
  have HhBb := Lib.hid hBb; clear hBb
  have HhBh := Lib.hid hBh; clear hBh
  have Hhb0 := Lib.hid hb0; clear hb0
  have Hhqb := Lib.hid hqb; clear hqb
  have Hhqb' := Lib.hid hqb'; clear hqb'
  have Hhqh := Lib.hid hqh; clear hqh
  have Hhrb := Lib.hid hrb; clear hrb
  have Hha1 := Lib.hid ha1; clear ha1
  have Hha2 := Lib.hid ha2; clear ha2
  have Hhb1 := Lib.hid hb1; clear hb1
  have Hhb2 := Lib.hid hb2; clear hb2
  have Hh0 := Lib.hid h0; clear h0
  have HhI := Lib.hid hI; clear hI
  have HhJ := Lib.hid hJ; clear hJ
  clear hq
  rw [HhI.out, HhJ.out]
  generalize a.natAbs / b.natAbs = q at *
  generalize a.natAbs % b.natAbs = r at *
  go_enter Try.func14, Try.ntmps14
  have hB := Below.refl w.heap.size w
  go_wp2_with fail
  refine (of_any a _ Hha1.out Hha2.out).mono ?_
  rintro e w1 ⟨rfl, hb⟩
  replace hB := hB.trans (hb.mono hB.size)
  clear hb
  go_wp2_with fail
  refine (signed_any a.natAbs (decide (a < 0)) false _ HhA.out).mono ?_
  rintro e w2 ⟨rfl, hb⟩
  replace hB := hB.trans (hb.mono hB.size)
  clear hb
  go_wp2_with fail
  refine (of_any b _ Hhb1.out Hhb2.out).mono ?_
  rintro e w3 ⟨rfl, hb⟩
  replace hB := hB.trans (hb.mono hB.size)
  clear hb
  go_wp2_with fail
  refine (signed_any b.natAbs (decide (b < 0)) false _ HhBb.out).mono ?_
  rintro e w4 ⟨rfl, hb⟩
  replace hB := hB.trans (hb.mono hB.size)
  clear hb
  go_wp2_with fail
  refine (HhQ.out _ _ _).mono ?_
  rintro e w5 ⟨rfl, hb⟩
  replace hB := hB.trans (hb.mono hB.size)
  clear hb
  have hS := hB.size
  go_wp2_with (first
    | (go_at_call 29; refine (int_any q false _ Hhqb'.out).mono ?_; rintro e w' ⟨rfl, hb⟩; obtain ⟨X5, d5, rfl⟩ := below_ext hb; clear hb)
    | (go_at_call 35; refine (zero_any r false _ Hhrb.out).mono ?_; rintro e w' ⟨rfl, hb⟩; obtain ⟨X6, d6, rfl⟩ := below_ext hb; clear hb))
  go_ret2
  exact ⟨rfl, by repeat (first | (with_reducible exact Below.refl _ _) | (with_reducible assumption) | (with_reducible refine below_drewN ?_ _) | (with_reducible refine below_ext_of ?_ (by first | exact Nat.le_refl _ | assumption | (simp only [World.size_alloc, World.size_setCell, size_ext, World.heap_drewN]; omega)) _ _) | (with_reducible refine Below.alloc ?_ (by first | exact Nat.le_refl _ | assumption | (simp only [World.size_alloc, World.size_setCell, size_ext, World.heap_drewN]; omega)) _) | (with_reducible refine Below.setCell ?_ (by first | exact Nat.le_refl _ | assumption | (simp only [World.size_alloc, World.size_setCell, size_ext, World.heap_drewN]; omega)) _))⟩
set_option maxHeartbeats 1000000 in
theorem ref_floor_whole (a b : Int) (w : World) (ha1 : -9223372036854775808 ≤ a) (ha2 : a ≤ 9223372036854775807) (hb1 : -9223372036854775808 ≤ b) (hb2 : b ≤ 9223372036854775807) (h0 : b ≠ 0) (ht : (!(decide (a < 0) == decide (b < 0))) = true) (hr : a.natAbs % b.natAbs = 0) :
    Calls Try.prog 14 #[.int .i64 a, .int .i64 b] w fun e w' => e = .returned (.tuple #[.int .i64 (nearI (ngB a b) a b), .bool (nearB (ngB a b) a b)]) ∧ Below w.heap.size w w' := by
  have hI : nearI (ngB a b) a b = fitV (sg true (a.natAbs / b.natAbs)) := by unfold nearI nearV ngB upN; rw [if_neg h0]; rw [ht, decide_eq_false (not_not_intro hr)]; simp
  have hJ : nearB (ngB a b) a b = fitB (sg true (a.natAbs / b.natAbs)) := by unfold nearB nearV ngB upN; rw [if_neg h0]; rw [ht, decide_eq_false (not_not_intro hr)]; simp
  have hA : a.natAbs < 340282366920938463463374607431768211456 := by omega
  have hBb : b.natAbs < 340282366920938463463374607431768211456 := by omega
  have hBh : b.natAbs ≤ 170141183460469231731687303715884105728 := by omega
  have hb0 : 0 < b.natAbs := by omega
  have hbb : (b == 0) = false := by rw [beq_eq_false_iff_ne]; exact h0
  have hq := Nat.div_le_self a.natAbs b.natAbs
  have hqb : a.natAbs / b.natAbs + 1 < 340282366920938463463374607431768211456 := by omega
  have hqb' : a.natAbs / b.natAbs < 340282366920938463463374607431768211456 := by omega
  have hqh : a.natAbs / b.natAbs < 170141183460469231731687303715884105728 := by omega
  have hrb : a.natAbs % b.natAbs < 340282366920938463463374607431768211456 := Nat.lt_trans (Nat.mod_lt _ hb0) hBb
  have hQ := fun (s t : Bool) (w : World) => quo_any a.natAbs b.natAbs s t w hA hb0 hBh
  have HhQ := Lib.hid hQ; clear hQ
  have HhA := Lib.hid hA; clear hA
  have HhBb := Lib.hid hBb; clear hBb
  have HhBh := Lib.hid hBh; clear hBh
  have Hhb0 := Lib.hid hb0; clear hb0
  have Hhqb := Lib.hid hqb; clear hqb
  have Hhqb' := Lib.hid hqb'; clear hqb'
  have Hhqh := Lib.hid hqh; clear hqh
  have Hhrb := Lib.hid hrb; clear hrb
  have Hha1 := Lib.hid ha1; clear ha1
  have Hha2 := Lib.hid ha2; clear ha2
  have Hhb1 := Lib.hid hb1; clear hb1
  have Hhb2 := Lib.hid hb2; clear hb2
  have Hh0 := Lib.hid h0; clear h0
  have HhI := Lib.hid hI; clear hI
  have HhJ := Lib.hid hJ; clear hJ
  clear hq
  rw [HhI.out, HhJ.out]
  have hd := decide_eq_true hr
  clear hr
  generalize a.natAbs / b.natAbs = q at *
  generalize a.natAbs % b.natAbs = r at *
  go_enter Try.func14, Try.ntmps14
  have hB := Below.refl w.heap.size w
  go_wp2_with fail
  refine (of_any a _ Hha1.out Hha2.out).mono ?_
  rintro e w1 ⟨rfl, hb⟩
  replace hB := hB.trans (hb.mono hB.size)
  clear hb
  go_wp2_with fail
  refine (signed_any a.natAbs (decide (a < 0)) false _ HhA.out).mono ?_
  rintro e w2 ⟨rfl, hb⟩
  replace hB := hB.trans (hb.mono hB.size)
  clear hb
  go_wp2_with fail
  refine (of_any b _ Hhb1.out Hhb2.out).mono ?_
  rintro e w3 ⟨rfl, hb⟩
  replace hB := hB.trans (hb.mono hB.size)
  clear hb
  go_wp2_with fail
  refine (signed_any b.natAbs (decide (b < 0)) false _ HhBb.out).mono ?_
  rintro e w4 ⟨rfl, hb⟩
  replace hB := hB.trans (hb.mono hB.size)
  clear hb
  go_wp2_with fail
  refine (HhQ.out _ _ _).mono ?_
  rintro e w5 ⟨rfl, hb⟩
  replace hB := hB.trans (hb.mono hB.size)
  clear hb
  have hS := hB.size
  have hs := sg_nz true q
  rw [Bool.true_and] at hs
  have Hs := Lib.hid hs
  clear hs
  go_wp2_with (first
    | (go_at_call 30; refine (minusOf_any q false _ Hhqb'.out).mono ?_; rintro e w' ⟨rfl, hb⟩; obtain ⟨X5, d5, rfl⟩ := below_ext hb; clear hb)
    | (go_at_call 29; refine (int_any q (nz q) _ Hhqb'.out).mono ?_; rintro e w' ⟨rfl, hb⟩; obtain ⟨X6, d6, rfl⟩ := below_ext hb; clear hb)
    | (go_at_call 35; refine (zero_any r false _ Hhrb.out).mono ?_; rintro e w' ⟨rfl, hb⟩; obtain ⟨X7, d7, rfl⟩ := below_ext hb; clear hb))
  go_ret2
  exact ⟨ret_ib (by rw [Hs.out]) (by rw [Hs.out]), by repeat (first | (with_reducible exact Below.refl _ _) | (with_reducible assumption) | (with_reducible refine below_drewN ?_ _) | (with_reducible refine below_ext_of ?_ (by first | exact Nat.le_refl _ | assumption | (simp only [World.size_alloc, World.size_setCell, size_ext, World.heap_drewN]; omega)) _ _) | (with_reducible refine Below.alloc ?_ (by first | exact Nat.le_refl _ | assumption | (simp only [World.size_alloc, World.size_setCell, size_ext, World.heap_drewN]; omega)) _) | (with_reducible refine Below.setCell ?_ (by first | exact Nat.le_refl _ | assumption | (simp only [World.size_alloc, World.size_setCell, size_ext, World.heap_drewN]; omega)) _))⟩
set_option maxHeartbeats 1000000 in
theorem ref_floor_part (a b : Int) (w : World) (ha1 : -9223372036854775808 ≤ a) (ha2 : a ≤ 9223372036854775807) (hb1 : -9223372036854775808 ≤ b) (hb2 : b ≤ 9223372036854775807) (h0 : b ≠ 0) (ht : (!(decide (a < 0) == decide (b < 0))) = true) (hr : a.natAbs % b.natAbs ≠ 0) :
    Calls Try.prog 14 #[.int .i64 a, .int .i64 b] w fun e w' => e = .returned (.tuple #[.int .i64 (nearI (ngB a b) a b), .bool (nearB (ngB a b) a b)]) ∧ Below w.heap.size w w' := by
  have hI : nearI (ngB a b) a b = fitV (sg true (a.natAbs / b.natAbs + 1)) := by unfold nearI nearV ngB upN; rw [if_neg h0]; rw [ht, decide_eq_true hr]; simp
  have hJ : nearB (ngB a b) a b = fitB (sg true (a.natAbs / b.natAbs + 1)) := by unfold nearB nearV ngB upN; rw [if_neg h0]; rw [ht, decide_eq_true hr]; simp
  have hA : a.natAbs < 340282366920938463463374607431768211456 := by omega
  have hBb : b.natAbs < 340282366920938463463374607431768211456 := by omega
  have hBh : b.natAbs ≤ 170141183460469231731687303715884105728 := by omega
  have hb0 : 0 < b.natAbs := by omega
  have hbb : (b == 0) = false := by rw [beq_eq_false_iff_ne]; exact h0
  have hq := Nat.div_le_self a.natAbs b.natAbs
  have hqb : a.natAbs / b.natAbs + 1 < 340282366920938463463374607431768211456 := by omega
  have hqb' : a.natAbs / b.natAbs < 340282366920938463463374607431768211456 := by omega
  have hqh : a.natAbs / b.natAbs < 170141183460469231731687303715884105728 := by omega
  have hrb : a.natAbs % b.natAbs < 340282366920938463463374607431768211456 := Nat.lt_trans (Nat.mod_lt _ hb0) hBb
  have hQ := fun (s t : Bool) (w : World) => quo_any a.natAbs b.natAbs s t w hA hb0 hBh
  have HhQ := Lib.hid hQ; clear hQ
  have HhA := Lib.hid hA; clear hA
  have HhBb := Lib.hid hBb; clear hBb
  have HhBh := Lib.hid hBh; clear hBh
  have Hhb0 := Lib.hid hb0; clear hb0
  have Hhqb := Lib.hid hqb; clear hqb
  have Hhqb' := Lib.hid hqb'; clear hqb'
  have Hhqh := Lib.hid hqh; clear hqh
  have Hhrb := Lib.hid hrb; clear hrb
  have Hha1 := Lib.hid ha1; clear ha1
  have Hha2 := Lib.hid ha2; clear ha2
  have Hhb1 := Lib.hid hb1; clear hb1
  have Hhb2 := Lib.hid hb2; clear hb2
  have Hh0 := Lib.hid h0; clear h0
  have HhI := Lib.hid hI; clear hI
  have HhJ := Lib.hid hJ; clear hJ
  clear hq
  rw [HhI.out, HhJ.out]
  have hd := decide_eq_false hr
  clear hr
  generalize a.natAbs / b.natAbs = q at *
  generalize a.natAbs % b.natAbs = r at *
  go_enter Try.func14, Try.ntmps14
  have hB := Below.refl w.heap.size w
  go_wp2_with fail
  refine (of_any a _ Hha1.out Hha2.out).mono ?_
  rintro e w1 ⟨rfl, hb⟩
  replace hB := hB.trans (hb.mono hB.size)
  clear hb
  go_wp2_with fail
  refine (signed_any a.natAbs (decide (a < 0)) false _ HhA.out).mono ?_
  rintro e w2 ⟨rfl, hb⟩
  replace hB := hB.trans (hb.mono hB.size)
  clear hb
  go_wp2_with fail
  refine (of_any b _ Hhb1.out Hhb2.out).mono ?_
  rintro e w3 ⟨rfl, hb⟩
  replace hB := hB.trans (hb.mono hB.size)
  clear hb
  go_wp2_with fail
  refine (signed_any b.natAbs (decide (b < 0)) false _ HhBb.out).mono ?_
  rintro e w4 ⟨rfl, hb⟩
  replace hB := hB.trans (hb.mono hB.size)
  clear hb
  go_wp2_with fail
  refine (HhQ.out _ _ _).mono ?_
  rintro e w5 ⟨rfl, hb⟩
  replace hB := hB.trans (hb.mono hB.size)
  clear hb
  have hS := hB.size
  have hs := sg_nz true (q + 1)
  rw [Bool.true_and] at hs
  have Hs := Lib.hid hs
  clear hs
  go_wp2_with (first
    | (go_at_call 35; refine (zero_any r false _ Hhrb.out).mono ?_; rintro e w' ⟨rfl, hb⟩; obtain ⟨X5, d5, rfl⟩ := below_ext hb; clear hb))
  go_region_with (first
    | (go_at_call 27; refine (of_any 1 _ (by omega) (by omega)).mono ?_; rintro e w' ⟨rfl, hb⟩; obtain ⟨X5, d5, rfl⟩ := below_ext hb; clear hb)
    | (go_at_call 28; refine (add_like q 1 false false _ Hhqh.out (by omega) rfl).mono ?_; rintro e w' ⟨rfl, hb⟩; obtain ⟨X6, d6, rfl⟩ := below_ext hb; clear hb))
  all_goals
    go_wp2_with (first
    | (go_at_call 30; refine (minusOf_any (q + 1) false _ Hhqb.out).mono ?_; rintro e w' ⟨rfl, hb⟩; obtain ⟨X5, d5, rfl⟩ := below_ext hb; clear hb)
    | (go_at_call 29; refine (int_any (q + 1) (nz (q + 1)) _ Hhqb.out).mono ?_; rintro e w' ⟨rfl, hb⟩; obtain ⟨X6, d6, rfl⟩ := below_ext hb; clear hb))
    go_ret2
    exact ⟨ret_ib (by rw [Hs.out]) (by rw [Hs.out]), by repeat (first | (with_reducible exact Below.refl _ _) | (with_reducible assumption) | (with_reducible refine below_drewN ?_ _) | (with_reducible refine below_ext_of ?_ (by first | exact Nat.le_refl _ | assumption | (simp only [World.size_alloc, World.size_setCell, size_ext, World.heap_drewN]; omega)) _ _) | (with_reducible refine Below.alloc ?_ (by first | exact Nat.le_refl _ | assumption | (simp only [World.size_alloc, World.size_setCell, size_ext, World.heap_drewN]; omega)) _) | (with_reducible refine Below.setCell ?_ (by first | exact Nat.le_refl _ | assumption | (simp only [World.size_alloc, World.size_setCell, size_ext, World.heap_drewN]; omega)) _))⟩
theorem ref_floor (a b : Int) (w : World) (ha1 : -9223372036854775808 ≤ a) (ha2 : a ≤ 9223372036854775807) (hb1 : -9223372036854775808 ≤ b) (hb2 : b ≤ 9223372036854775807) :
    Calls Try.prog 14 #[.int .i64 a, .int .i64 b] w fun e w' => e = .returned (.tuple #[.int .i64 (nearI (ngB a b) a b), .bool (nearB (ngB a b) a b)]) ∧ Below w.heap.size w w' := by
  by_cases h0 : b = 0
  · subst h0
    go_enter Try.func14, Try.ntmps14
    go_wp2_with fail
    go_ret2
    exact ⟨rfl, Below.refl _ _⟩
  by_cases ht : (!(decide (a < 0) == decide (b < 0))) = true
  · by_cases hr : a.natAbs % b.natAbs = 0
    · exact ref_floor_whole a b w ha1 ha2 hb1 hb2 h0 ht hr
    · exact ref_floor_part a b w ha1 ha2 hb1 hb2 h0 ht hr
  · exact ref_floor_other a b w ha1 ha2 hb1 hb2 h0 (by simpa using ht)
set_option maxHeartbeats 1000000 in
theorem ref_ceil_other (a b : Int) (w : World) (ha1 : -9223372036854775808 ≤ a) (ha2 : a ≤ 9223372036854775807) (hb1 : -9223372036854775808 ≤ b) (hb2 : b ≤ 9223372036854775807) (h0 : b ≠ 0) (ht : (!(decide (a < 0) == decide (b < 0))) = true) :
    Calls Try.prog 16 #[.int .i64 a, .int .i64 b] w fun e w' => e = .returned (.tuple #[.int .i64 (nearI (!ngB a b) a b), .bool (nearB (!ngB a b) a b)]) ∧ Below w.heap.size w w' := by
  have hI : nearI (!ngB a b) a b = fitV (sg true (a.natAbs / b.natAbs)) := by unfold nearI nearV ngB upN; rw [if_neg h0]; rw [ht]; simp
  have hJ : nearB (!ngB a b) a b = fitB (sg true (a.natAbs / b.natAbs)) := by unfold nearB nearV ngB upN; rw [if_neg h0]; rw [ht]; simp
  have hA : a.natAbs < 340282366920938463463374607431768211456 := by omega
  have hBb : b.natAbs < 340282366920938463463374607431768211456 := by omega
  have hBh : b.natAbs ≤ 170141183460469231731687303715884105728 := by omega
  have hb0 : 0 < b.natAbs := by omega
  have hbb : (b == 0) = false := by rw [beq_eq_false_iff_ne]; exact h0
  have hq := Nat.div_le_self a.natAbs b.natAbs
  have hqb : a.natAbs / b.natAbs + 1 < 340282366920938463463374607431768211456 := by omega
  have hqb' : a.natAbs / b.natAbs < 340282366920938463463374607431768211456 := by omega
  have hqh : a.natAbs / b.natAbs < 170141183460469231731687303715884105728 := by omega
  have hrb : a.natAbs % b.natAbs < 340282366920938463463374607431768211456 := Nat.lt_trans (Nat.mod_lt _ hb0) hBb
  have hQ := fun (s t : Bool) (w : World) => quo_any a.natAbs b.natAbs s t w hA hb0 hBh
  have HhQ := Lib.hid hQ; clear hQ
  have HhA := Lib.hid hA; clear hA
  have HhBb := Lib.hid hBb; clear hBb
  have HhBh := Lib.hid hBh; clear hBh
  have Hhb0 := Lib.hid hb0; clear hb0
  have Hhqb := Lib.hid hqb; clear hqb
  have Hhqb' := Lib.hid hqb'; clear hqb'
  have Hhqh := Lib.hid hqh; clear hqh
  have Hhrb := Lib.hid hrb; clear hrb
  have Hha1 := Lib.hid ha1; clear ha1
  have Hha2 := Lib.hid ha2; clear ha2
  have Hhb1 := Lib.hid hb1; clear hb1
  have Hhb2 := Lib.hid hb2; clear hb2
  have Hh0 := Lib.hid h0; clear h0
  have HhI := Lib.hid hI; clear hI
  have HhJ := Lib.hid hJ; clear hJ
  clear hq
  rw [HhI.out, HhJ.out]
  generalize a.natAbs / b.natAbs = q at *
  generalize a.natAbs % b.natAbs = r at *
  go_enter Try.func16, Try.ntmps16
  have hB := Below.refl w.heap.size w
  go_wp2_with fail
  refine (of_any a _ Hha1.out Hha2.out).mono ?_
  rintro e w1 ⟨rfl, hb⟩
  replace hB := hB.trans (hb.mono hB.size)
  clear hb
  go_wp2_with fail
  refine (signed_any a.natAbs (decide (a < 0)) false _ HhA.out).mono ?_
  rintro e w2 ⟨rfl, hb⟩
  replace hB := hB.trans (hb.mono hB.size)
  clear hb
  go_wp2_with fail
  refine (of_any b _ Hhb1.out Hhb2.out).mono ?_
  rintro e w3 ⟨rfl, hb⟩
  replace hB := hB.trans (hb.mono hB.size)
  clear hb
  go_wp2_with fail
  refine (signed_any b.natAbs (decide (b < 0)) false _ HhBb.out).mono ?_
  rintro e w4 ⟨rfl, hb⟩
  replace hB := hB.trans (hb.mono hB.size)
  clear hb
  go_wp2_with fail
  refine (HhQ.out _ _ _).mono ?_
  rintro e w5 ⟨rfl, hb⟩
  replace hB := hB.trans (hb.mono hB.size)
  clear hb
  have hS := hB.size
  have hs := sg_nz true q
  rw [Bool.true_and] at hs
  have Hs := Lib.hid hs
  clear hs
  go_wp2_with (first
    | (go_at_call 30; refine (minusOf_any q false _ Hhqb'.out).mono ?_; rintro e w' ⟨rfl, hb⟩; obtain ⟨X5, d5, rfl⟩ := below_ext hb; clear hb)
    | (go_at_call 29; refine (int_any q (nz q) _ Hhqb'.out).mono ?_; rintro e w' ⟨rfl, hb⟩; obtain ⟨X6, d6, rfl⟩ := below_ext hb; clear hb)
    | (go_at_call 35; refine (zero_any r false _ Hhrb.out).mono ?_; rintro e w' ⟨rfl, hb⟩; obtain ⟨X7, d7, rfl⟩ := below_ext hb; clear hb))
  go_ret2
  exact ⟨ret_ib (by rw [Hs.out]) (by rw [Hs.out]), by repeat (first | (with_reducible exact Below.refl _ _) | (with_reducible assumption) | (with_reducible refine below_drewN ?_ _) | (with_reducible refine below_ext_of ?_ (by first | exact Nat.le_refl _ | assumption | (simp only [World.size_alloc, World.size_setCell, size_ext, World.heap_drewN]; omega)) _ _) | (with_reducible refine Below.alloc ?_ (by first | exact Nat.le_refl _ | assumption | (simp only [World.size_alloc, World.size_setCell, size_ext, World.heap_drewN]; omega)) _) | (with_reducible refine Below.setCell ?_ (by first | exact Nat.le_refl _ | assumption | (simp only [World.size_alloc, World.size_setCell, size_ext, World.heap_drewN]; omega)) _))⟩
set_option maxHeartbeats 1000000 in
theorem ref_ceil_whole (a b : Int) (w : World) (ha1 : -9223372036854775808 ≤ a) (ha2 : a ≤ 9223372036854775807) (hb1 : -9223372036854775808 ≤ b) (hb2 : b ≤ 9223372036854775807) (h0 : b ≠ 0) (ht : (!(decide (a < 0) == decide (b < 0))) = false) (hr : a.natAbs % b.natAbs = 0) :
    Calls Try.prog 16 #[.int .i64 a, .int .i64 b] w fun e w' => e = .returned (.tuple #[.int .i64 (nearI (!ngB a b) a b), .bool (nearB (!ngB a b) a b)]) ∧ Below w.heap.size w w' := by
  have hI : nearI (!ngB a b) a b = fitV (sg false (a.natAbs / b.natAbs)) := by unfold nearI nearV ngB upN; rw [if_neg h0]; rw [ht, decide_eq_false (not_not_intro hr)]; simp
  have hJ : nearB (!ngB a b) a b = fitB (sg false (a.natAbs / b.natAbs)) := by unfold nearB nearV ngB upN; rw [if_neg h0]; rw [ht, decide_eq_false (not_not_intro hr)]; simp
  have hA : a.natAbs < 340282366920938463463374607431768211456 := by omega
  have hBb : b.natAbs < 340282366920938463463374607431768211456 := by omega
  have hBh : b.natAbs ≤ 170141183460469231731687303715884105728 := by omega
  have hb0 : 0 < b.natAbs := by omega
  have hbb : (b == 0) = false := by rw [beq_eq_false_iff_ne]; exact h0
  have hq := Nat.div_le_self a.natAbs b.natAbs
  have hqb : a.natAbs / b.natAbs + 1 < 340282366920938463463374607431768211456 := by omega
  have hqb' : a.natAbs / b.natAbs < 340282366920938463463374607431768211456 := by omega
  have hqh : a.natAbs / b.natAbs < 170141183460469231731687303715884105728 := by omega
  have hrb : a.natAbs % b.natAbs < 340282366920938463463374607431768211456 := Nat.lt_trans (Nat.mod_lt _ hb0) hBb
  have hQ := fun (s t : Bool) (w : World) => quo_any a.natAbs b.natAbs s t w hA hb0 hBh
  have HhQ := Lib.hid hQ; clear hQ
  have HhA := Lib.hid hA; clear hA
  have HhBb := Lib.hid hBb; clear hBb
  have HhBh := Lib.hid hBh; clear hBh
  have Hhb0 := Lib.hid hb0; clear hb0
  have Hhqb := Lib.hid hqb; clear hqb
  have Hhqb' := Lib.hid hqb'; clear hqb'
  have Hhqh := Lib.hid hqh; clear hqh
  have Hhrb := Lib.hid hrb; clear hrb
  have Hha1 := Lib.hid ha1; clear ha1
  have Hha2 := Lib.hid ha2; clear ha2
  have Hhb1 := Lib.hid hb1; clear hb1
  have Hhb2 := Lib.hid hb2; clear hb2
  have Hh0 := Lib.hid h0; clear h0
  have HhI := Lib.hid hI; clear hI
  have HhJ := Lib.hid hJ; clear hJ
  clear hq
  rw [HhI.out, HhJ.out]
  have hd := decide_eq_true hr
  clear hr
  generalize a.natAbs / b.natAbs = q at *
  generalize a.natAbs % b.natAbs = r at *
  go_enter Try.func16, Try.ntmps16
  have hB := Below.refl w.heap.size w
  go_wp2_with fail
  refine (of_any a _ Hha1.out Hha2.out).mono ?_
  rintro e w1 ⟨rfl, hb⟩
  replace hB := hB.trans (hb.mono hB.size)
  clear hb
  go_wp2_with fail
  refine (signed_any a.natAbs (decide (a < 0)) false _ HhA.out).mono ?_
  rintro e w2 ⟨rfl, hb⟩
  replace hB := hB.trans (hb.mono hB.size)
  clear hb
  go_wp2_with fail
  refine (of_any b _ Hhb1.out Hhb2.out).mono ?_
  rintro e w3 ⟨rfl, hb⟩
  replace hB := hB.trans (hb.mono hB.size)
  clear hb
  go_wp2_with fail
  refine (signed_any b.natAbs (decide (b < 0)) false _ HhBb.out).mono ?_
  rintro e w4 ⟨rfl, hb⟩
  replace hB := hB.trans (hb.mono hB.size)
  clear hb
  go_wp2_with fail
  refine (HhQ.out _ _ _).mono ?_
  rintro e w5 ⟨rfl, hb⟩
  replace hB := hB.trans (hb.mono hB.size)
  clear hb
  have hS := hB.size
  go_wp2_with (first
    | (go_at_call 29; refine (int_any q false _ Hhqb'.out).mono ?_; rintro e w' ⟨rfl, hb⟩; obtain ⟨X5, d5, rfl⟩ := below_ext hb; clear hb)
    | (go_at_call 35; refine (zero_any r false _ Hhrb.out).mono ?_; rintro e w' ⟨rfl, hb⟩; obtain ⟨X6, d6, rfl⟩ := below_ext hb; clear hb))
  go_ret2
  exact ⟨rfl, by repeat (first | (with_reducible exact Below.refl _ _) | (with_reducible assumption) | (with_reducible refine below_drewN ?_ _) | (with_reducible refine below_ext_of ?_ (by first | exact Nat.le_refl _ | assumption | (simp only [World.size_alloc, World.size_setCell, size_ext, World.heap_drewN]; omega)) _ _) | (with_reducible refine Below.alloc ?_ (by first | exact Nat.le_refl _ | assumption | (simp only [World.size_alloc, World.size_setCell, size_ext, World.heap_drewN]; omega)) _) | (with_reducible refine Below.setCell ?_ (by first | exact Nat.le_refl _ | assumption | (simp only [World.size_alloc, World.size_setCell, size_ext, World.heap_drewN]; omega)) _))⟩
set_option maxHeartbeats 1000000 in
theorem ref_ceil_part (a b : Int) (w : World) (ha1 : -9223372036854775808 ≤ a) (ha2 : a ≤ 9223372036854775807) (hb1 : -9223372036854775808 ≤ b) (hb2 : b ≤ 9223372036854775807) (h0 : b ≠ 0) (ht : (!(decide (a < 0) == decide (b < 0))) = false) (hr : a.natAbs % b.natAbs ≠ 0) :
    Calls Try.prog 16 #[.int .i64 a, .int .i64 b] w fun e w' => e = .returned (.tuple #[.int .i64 (nearI (!ngB a b) a b), .bool (nearB (!ngB a b) a b)]) ∧ Below w.heap.size w w' := by
  have hI : nearI (!ngB a b) a b = fitV (sg false (a.natAbs / b.natAbs + 1)) := by unfold nearI nearV ngB upN; rw [if_neg h0]; rw [ht, decide_eq_true hr]; simp
  have hJ : nearB (!ngB a b) a b = fitB (sg false (a.natAbs / b.natAbs + 1)) := by unfold nearB nearV ngB upN; rw [if_neg h0]; rw [ht, decide_eq_true hr]; simp
  have hA : a.natAbs < 340282366920938463463374607431768211456 := by omega
  have hBb : b.natAbs < 340282366920938463463374607431768211456 := by omega
  have hBh : b.natAbs ≤ 170141183460469231731687303715884105728 := by omega
  have hb0 : 0 < b.natAbs := by omega
  have hbb : (b == 0) = false := by rw [beq_eq_false_iff_ne]; exact h0
  have hq := Nat.div_le_self a.natAbs b.natAbs
  have hqb : a.natAbs / b.natAbs + 1 < 340282366920938463463374607431768211456 := by omega
  have hqb' : a.natAbs / b.natAbs < 340282366920938463463374607431768211456 := by omega
  have hqh : a.natAbs / b.natAbs < 170141183460469231731687303715884105728 := by omega
  have hrb : a.natAbs % b.natAbs < 340282366920938463463374607431768211456 := Nat.lt_trans (Nat.mod_lt _ hb0) hBb
  have hQ := fun (s t : Bool) (w : World) => quo_any a.natAbs b.natAbs s t w hA hb0 hBh
  have HhQ := Lib.hid hQ; clear hQ
  have HhA := Lib.hid hA; clear hA
  have HhBb := Lib.hid hBb; clear hBb
  have HhBh := Lib.hid hBh; clear hBh
  have Hhb0 := Lib.hid hb0; clear hb0
  have Hhqb := Lib.hid hqb; clear hqb
  have Hhqb' := Lib.hid hqb'; clear hqb'
  have Hhqh := Lib.hid hqh; clear hqh
  have Hhrb := Lib.hid hrb; clear hrb
  have Hha1 := Lib.hid ha1; clear ha1
  have Hha2 := Lib.hid ha2; clear ha2
  have Hhb1 := Lib.hid hb1; clear hb1
  have Hhb2 := Lib.hid hb2; clear hb2
  have Hh0 := Lib.hid h0; clear h0
  have HhI := Lib.hid hI; clear hI
  have HhJ := Lib.hid hJ; clear hJ
  clear hq
  rw [HhI.out, HhJ.out]
  have hd := decide_eq_false hr
  clear hr
  generalize a.natAbs / b.natAbs = q at *
  generalize a.natAbs % b.natAbs = r at *
  go_enter Try.func16, Try.ntmps16
  have hB := Below.refl w.heap.size w
  go_wp2_with fail
  refine (of_any a _ Hha1.out Hha2.out).mono ?_
  rintro e w1 ⟨rfl, hb⟩
  replace hB := hB.trans (hb.mono hB.size)
  clear hb
  go_wp2_with fail
  refine (signed_any a.natAbs (decide (a < 0)) false _ HhA.out).mono ?_
  rintro e w2 ⟨rfl, hb⟩
  replace hB := hB.trans (hb.mono hB.size)
  clear hb
  go_wp2_with fail
  refine (of_any b _ Hhb1.out Hhb2.out).mono ?_
  rintro e w3 ⟨rfl, hb⟩
  replace hB := hB.trans (hb.mono hB.size)
  clear hb
  go_wp2_with fail
  refine (signed_any b.natAbs (decide (b < 0)) false _ HhBb.out).mono ?_
  rintro e w4 ⟨rfl, hb⟩
  replace hB := hB.trans (hb.mono hB.size)
  clear hb
  go_wp2_with fail
  refine (HhQ.out _ _ _).mono ?_
  rintro e w5 ⟨rfl, hb⟩
  replace hB := hB.trans (hb.mono hB.size)
  clear hb
  have hS := hB.size
  go_wp2_with (first
    | (go_at_call 35; refine (zero_any r false _ Hhrb.out).mono ?_; rintro e w' ⟨rfl, hb⟩; obtain ⟨X5, d5, rfl⟩ := below_ext hb; clear hb))
  go_region_with (first
    | (go_at_call 27; refine (of_any 1 _ (by omega) (by omega)).mono ?_; rintro e w' ⟨rfl, hb⟩; obtain ⟨X5, d5, rfl⟩ := below_ext hb; clear hb)
    | (go_at_call 28; refine (add_like q 1 false false _ Hhqh.out (by omega) rfl).mono ?_; rintro e w' ⟨rfl, hb⟩; obtain ⟨X6, d6, rfl⟩ := below_ext hb; clear hb))
  all_goals
    go_wp2_with (first
    | (go_at_call 29; refine (int_any (q + 1) false _ Hhqb.out).mono ?_; rintro e w' ⟨rfl, hb⟩; obtain ⟨X5, d5, rfl⟩ := below_ext hb; clear hb))
    go_ret2
    exact ⟨rfl, by repeat (first | (with_reducible exact Below.refl _ _) | (with_reducible assumption) | (with_reducible refine below_drewN ?_ _) | (with_reducible refine below_ext_of ?_ (by first | exact Nat.le_refl _ | assumption | (simp only [World.size_alloc, World.size_setCell, size_ext, World.heap_drewN]; omega)) _ _) | (with_reducible refine Below.alloc ?_ (by first | exact Nat.le_refl _ | assumption | (simp only [World.size_alloc, World.size_setCell, size_ext, World.heap_drewN]; omega)) _) | (with_reducible refine Below.setCell ?_ (by first | exact Nat.le_refl _ | assumption | (simp only [World.size_alloc, World.size_setCell, size_ext, World.heap_drewN]; omega)) _))⟩
theorem ref_ceil (a b : Int) (w : World) (ha1 : -9223372036854775808 ≤ a) (ha2 : a ≤ 9223372036854775807) (hb1 : -9223372036854775808 ≤ b) (hb2 : b ≤ 9223372036854775807) :
    Calls Try.prog 16 #[.int .i64 a, .int .i64 b] w fun e w' => e = .returned (.tuple #[.int .i64 (nearI (!ngB a b) a b), .bool (nearB (!ngB a b) a b)]) ∧ Below w.heap.size w w' := by
  by_cases h0 : b = 0
  · subst h0
    go_enter Try.func16, Try.ntmps16
    go_wp2_with fail
    go_ret2
    exact ⟨rfl, Below.refl _ _⟩
  by_cases ht : (!(decide (a < 0) == decide (b < 0))) = false
  · by_cases hr : a.natAbs % b.natAbs = 0
    · exact ref_ceil_whole a b w ha1 ha2 hb1 hb2 h0 ht hr
    · exact ref_ceil_part a b w ha1 ha2 hb1 hb2 h0 ht hr
  · exact ref_ceil_other a b w ha1 ha2 hb1 hb2 h0 (by simpa using ht)
end Go.Proofs.Ytncohomkggnckaa
