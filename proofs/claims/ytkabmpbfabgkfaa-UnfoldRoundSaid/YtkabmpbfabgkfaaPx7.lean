-- Printed by a program of this project, out of the translation: functions as plain Lean functions, and proofs that the machine comes to what they say. Lean checks it.
import Derived.Test.YtkabmpbfabgkfaaPx0
import Derived.Test.YtkabmpbfabgkfaaPx4
import Derived.Test.YtkabmpbfabgkfaaPx5
import Derived.Test.YtkabmpbfabgkfaaPx6
import Derived.Test.YtkabmpbfabgkfaaG
namespace Go.Proofs.Ytkabmpbfabgkfaa.P
open Go.RowKit Go.Proofs.YtkabmpbfabgkfaaW.PrintWords Go.Proofs.YtkabmpbfabgkfaaW.PrintLast Go.Proofs.YtkabmpbfabgkfaaW.PrintMore
attribute [local go_sem] max2_int min2_int max_two min_two max_three min_three max_four min_four   -- for this text's walks alone
set_option linter.unusedVariables false
set_option linter.unusedSimpArgs false

/-! ### tasks_May: function 23 -/
mutual
def tasks_May.j0 : Nat → List (S44) → List (S25) → Bool → Option (Int)
  | 0, _, _, _ => none
  | k + 1, x0, x1, x24 => if x24 = true then (some 2) else (tasks_May.l0 k x0 x1 x0 (x0.length : Int) 0)
def tasks_May.l0 : Nat → List (S44) → List (S25) → List (S44) → Int → Int → Option (Int)
  | 0, _, _, _, _, _ => none
  | k + 1, x0, x1, x25, x26, x27 => if x27 < x26 then (if 0 ≤ x27 then (if x27 < (x25.length : Int) then ((tasks_mayTask.f k ((rd_T44 x25 x27).f0.f0) ((rd_T44 x25 x27).f0.f1) ((rd_T44 x25 x27).f1) ((rd_T44 x25 x27).f2) ((rd_T44 x25 x27).f3) ((rd_T44 x25 x27).f4) ((rd_T44 x25 x27).f5)).bind fun t159 => (if t159 = true then (tasks_May.l0 k x0 x1 x25 x26 (wrap64 (x27 + 1))) else (some 2))) else (none)) else (none)) else (tasks_May.l1 k x0 x1 x0 (x0.length : Int) 0)
def tasks_May.l1 : Nat → List (S44) → List (S25) → List (S44) → Int → Int → Option (Int)
  | 0, _, _, _, _, _ => none
  | k + 1, x0, x1, x35, x36, x37 => if x37 < x36 then (if 0 ≤ x37 then (if x37 < (x35.length : Int) then (tasks_May.l2 k x0 x1 x35 x36 x37 ((rd_T44 x35 x37).f4) (((rd_T44 x35 x37).f4).length : Int) 0 ((rd_T44 x35 x37).f0.f0) ((rd_T44 x35 x37).f0.f1) ((rd_T44 x35 x37).f1) ((rd_T44 x35 x37).f2) ((rd_T44 x35 x37).f3) ((rd_T44 x35 x37).f4) ((rd_T44 x35 x37).f5)) else (none)) else (none)) else (some 0)
def tasks_May.l2 : Nat → List (S44) → List (S25) → List (S44) → Int → Int → List (S69) → Int → Int → Int → Int → Int → Int → Int → List (S69) → Int → Option (Int)
  | 0, _, _, _, _, _, _, _, _, _, _, _, _, _, _, _ => none
  | k + 1, x0, x1, x35, x36, x37, x42, x43, x44, x162000, x162001, x162002, x162003, x162004, x162005, x162006 => if x44 < x43 then (if 0 ≤ x44 then (if x44 < (x42.length : Int) then ((tasks_clock.f k ((rd_T69 x42 x44).f0) ((rd_T69 x42 x44).f1) ((rd_T69 x42 x44).f2) ((rd_T69 x42 x44).f3.f0) ((rd_T69 x42 x44).f3.f1) ((rd_T69 x42 x44).f3.f2) x0 x1).bind fun bt164 => (if bt164.2.2 = true then ((tasks_mayRead.f k ((rd_T69 x42 x44).f3.f0) ((rd_T69 x42 x44).f3.f1) ((rd_T69 x42 x44).f3.f2) x162000 x162001 bt164.1 bt164.2.1).bind fun t168 => (if t168 = true then (tasks_May.l2 k x0 x1 x35 x36 x37 x42 x43 (wrap64 (x44 + 1)) x162000 x162001 x162002 x162003 x162004 x162005 x162006) else (some 2))) else (some 2))) else (none)) else (none)) else (tasks_May.l1 k x0 x1 x35 x36 (wrap64 (x37 + 1)))
end
def tasks_May.f (k : Nat) (l0 : List (S44)) (l1 : List (S25)) : Option (Int) := if (l0.length : Int) > 160 then (tasks_May.j0 k l0 l1 true) else (if (l1.length : Int) > 32 then (tasks_May.j0 k l0 l1 true) else ((api_Clock.f l1).bind fun t156 => (tasks_May.j0 k l0 l1 t156)))
theorem tasks_May.mono_l : ∀ k, (∀ y0 y1 y2, LeO (tasks_May.j0 k y0 y1 y2) (tasks_May.j0 (k + 1) y0 y1 y2)) ∧ (∀ y0 y1 y2 y3 y4, LeO (tasks_May.l0 k y0 y1 y2 y3 y4) (tasks_May.l0 (k + 1) y0 y1 y2 y3 y4)) ∧ (∀ y0 y1 y2 y3 y4, LeO (tasks_May.l1 k y0 y1 y2 y3 y4) (tasks_May.l1 (k + 1) y0 y1 y2 y3 y4)) ∧ (∀ y0 y1 y2 y3 y4 y5 y6 y7 y8 y9 y10 y11 y12 y13 y14, LeO (tasks_May.l2 k y0 y1 y2 y3 y4 y5 y6 y7 y8 y9 y10 y11 y12 y13 y14) (tasks_May.l2 (k + 1) y0 y1 y2 y3 y4 y5 y6 y7 y8 y9 y10 y11 y12 y13 y14))
  | 0 => ⟨fun _ _ _ r h => by simp [tasks_May.j0] at h, fun _ _ _ _ _ r h => by simp [tasks_May.l0] at h, fun _ _ _ _ _ r h => by simp [tasks_May.l1] at h, fun _ _ _ _ _ _ _ _ _ _ _ _ _ _ _ r h => by simp [tasks_May.l2] at h⟩
  | k + 1 => by
    obtain ⟨ih0, ih1, ih2, ih3⟩ := tasks_May.mono_l k
    refine ⟨?_, ?_, ?_, ?_⟩
    · intro y0 y1 y2
      unfold tasks_May.j0
      repeat' first
      | (with_reducible exact ih0 _ _ _)
      | (with_reducible exact ih1 _ _ _ _ _)
      | (with_reducible exact ih2 _ _ _ _ _)
      | (with_reducible exact ih3 _ _ _ _ _ _ _ _ _ _ _ _ _ _ _)
      | (with_reducible exact tasks_clock.mono _ _ _ _ _ _ _ _ _)
      | (with_reducible exact tasks_mayRead.mono _ _ _ _ _ _ _ _)
      | (with_reducible exact tasks_mayTask.mono _ _ _ _ _ _ _ _)
      | (with_reducible exact LeO.refl _)
      | (with_reducible exact LeO.none _)
      | (with_reducible refine LeO.ite ?_ ?_)
      | (with_reducible refine LeO.bind ?_ (fun _ => ?_))
      | exact ih0 _ _ _
      | exact ih1 _ _ _ _ _
      | exact ih2 _ _ _ _ _
      | exact ih3 _ _ _ _ _ _ _ _ _ _ _ _ _ _ _
      | exact tasks_clock.mono _ _ _ _ _ _ _ _ _
      | exact tasks_mayRead.mono _ _ _ _ _ _ _ _
      | exact tasks_mayTask.mono _ _ _ _ _ _ _ _
      | exact LeO.none _
      | refine LeO.ite ?_ ?_
      | refine LeO.bind ?_ (fun _ => ?_)
    · intro y0 y1 y2 y3 y4
      unfold tasks_May.l0
      repeat' first
      | (with_reducible exact ih0 _ _ _)
      | (with_reducible exact ih1 _ _ _ _ _)
      | (with_reducible exact ih2 _ _ _ _ _)
      | (with_reducible exact ih3 _ _ _ _ _ _ _ _ _ _ _ _ _ _ _)
      | (with_reducible exact tasks_clock.mono _ _ _ _ _ _ _ _ _)
      | (with_reducible exact tasks_mayRead.mono _ _ _ _ _ _ _ _)
      | (with_reducible exact tasks_mayTask.mono _ _ _ _ _ _ _ _)
      | (with_reducible exact LeO.refl _)
      | (with_reducible exact LeO.none _)
      | (with_reducible refine LeO.ite ?_ ?_)
      | (with_reducible refine LeO.bind ?_ (fun _ => ?_))
      | exact ih0 _ _ _
      | exact ih1 _ _ _ _ _
      | exact ih2 _ _ _ _ _
      | exact ih3 _ _ _ _ _ _ _ _ _ _ _ _ _ _ _
      | exact tasks_clock.mono _ _ _ _ _ _ _ _ _
      | exact tasks_mayRead.mono _ _ _ _ _ _ _ _
      | exact tasks_mayTask.mono _ _ _ _ _ _ _ _
      | exact LeO.none _
      | refine LeO.ite ?_ ?_
      | refine LeO.bind ?_ (fun _ => ?_)
    · intro y0 y1 y2 y3 y4
      unfold tasks_May.l1
      repeat' first
      | (with_reducible exact ih0 _ _ _)
      | (with_reducible exact ih1 _ _ _ _ _)
      | (with_reducible exact ih2 _ _ _ _ _)
      | (with_reducible exact ih3 _ _ _ _ _ _ _ _ _ _ _ _ _ _ _)
      | (with_reducible exact tasks_clock.mono _ _ _ _ _ _ _ _ _)
      | (with_reducible exact tasks_mayRead.mono _ _ _ _ _ _ _ _)
      | (with_reducible exact tasks_mayTask.mono _ _ _ _ _ _ _ _)
      | (with_reducible exact LeO.refl _)
      | (with_reducible exact LeO.none _)
      | (with_reducible refine LeO.ite ?_ ?_)
      | (with_reducible refine LeO.bind ?_ (fun _ => ?_))
      | exact ih0 _ _ _
      | exact ih1 _ _ _ _ _
      | exact ih2 _ _ _ _ _
      | exact ih3 _ _ _ _ _ _ _ _ _ _ _ _ _ _ _
      | exact tasks_clock.mono _ _ _ _ _ _ _ _ _
      | exact tasks_mayRead.mono _ _ _ _ _ _ _ _
      | exact tasks_mayTask.mono _ _ _ _ _ _ _ _
      | exact LeO.none _
      | refine LeO.ite ?_ ?_
      | refine LeO.bind ?_ (fun _ => ?_)
    · intro y0 y1 y2 y3 y4 y5 y6 y7 y8 y9 y10 y11 y12 y13 y14
      unfold tasks_May.l2
      repeat' first
      | (with_reducible exact ih0 _ _ _)
      | (with_reducible exact ih1 _ _ _ _ _)
      | (with_reducible exact ih2 _ _ _ _ _)
      | (with_reducible exact ih3 _ _ _ _ _ _ _ _ _ _ _ _ _ _ _)
      | (with_reducible exact tasks_clock.mono _ _ _ _ _ _ _ _ _)
      | (with_reducible exact tasks_mayRead.mono _ _ _ _ _ _ _ _)
      | (with_reducible exact tasks_mayTask.mono _ _ _ _ _ _ _ _)
      | (with_reducible exact LeO.refl _)
      | (with_reducible exact LeO.none _)
      | (with_reducible refine LeO.ite ?_ ?_)
      | (with_reducible refine LeO.bind ?_ (fun _ => ?_))
      | exact ih0 _ _ _
      | exact ih1 _ _ _ _ _
      | exact ih2 _ _ _ _ _
      | exact ih3 _ _ _ _ _ _ _ _ _ _ _ _ _ _ _
      | exact tasks_clock.mono _ _ _ _ _ _ _ _ _
      | exact tasks_mayRead.mono _ _ _ _ _ _ _ _
      | exact tasks_mayTask.mono _ _ _ _ _ _ _ _
      | exact LeO.none _
      | refine LeO.ite ?_ ?_
      | refine LeO.bind ?_ (fun _ => ?_)
theorem tasks_May.mono : ∀ a0 a1 k, LeO (tasks_May.f k a0 a1) (tasks_May.f (k + 1) a0 a1) := by
  intro a0 a1 k
  obtain ⟨ih0, ih1, ih2, ih3⟩ := tasks_May.mono_l k
  unfold tasks_May.f
  repeat' first
      | (with_reducible exact ih0 _ _ _)
      | (with_reducible exact ih1 _ _ _ _ _)
      | (with_reducible exact ih2 _ _ _ _ _)
      | (with_reducible exact ih3 _ _ _ _ _ _ _ _ _ _ _ _ _ _ _)
      | (with_reducible exact tasks_clock.mono _ _ _ _ _ _ _ _ _)
      | (with_reducible exact tasks_mayRead.mono _ _ _ _ _ _ _ _)
      | (with_reducible exact tasks_mayTask.mono _ _ _ _ _ _ _ _)
      | (with_reducible exact LeO.refl _)
      | (with_reducible exact LeO.none _)
      | (with_reducible refine LeO.ite ?_ ?_)
      | (with_reducible refine LeO.bind ?_ (fun _ => ?_))
      | exact ih0 _ _ _
      | exact ih1 _ _ _ _ _
      | exact ih2 _ _ _ _ _
      | exact ih3 _ _ _ _ _ _ _ _ _ _ _ _ _ _ _
      | exact tasks_clock.mono _ _ _ _ _ _ _ _ _
      | exact tasks_mayRead.mono _ _ _ _ _ _ _ _
      | exact tasks_mayTask.mono _ _ _ _ _ _ _ _
      | exact LeO.none _
      | refine LeO.ite ?_ ?_
      | refine LeO.bind ?_ (fun _ => ?_)
set_option maxHeartbeats 8000000 in
set_option maxRecDepth 100000 in
theorem tasks_May.calls (k : Nat) (A0 : Option Addr) (c0 : Nat) (l0 : List (S44)) (A1 : Option Addr) (c1 : Nat) (l1 : List (S25)) (r : Int) (w : World) (hr0 : Kd.C k44 w A0 l0.length l0) (hc0 : l0.length ≤ c0) (hr1 : Kd.C k25 w A1 l1.length l1) (hc1 : l1.length ≤ c1) (h : tasks_May.f k l0 l1 = some r) :
    Calls Try.prog 23 #[.slice A0 l0.length c0, .slice A1 l1.length c1] w fun e w' => e = .returned (.int .i64 r) ∧ Below w.heap.size w w' := by
  have hu44 := Try.underlying44
  have hu69 := Try.underlying69
  have hu25 := Try.underlying25
  have hu67 := Try.underlying67
  have HR0 := Aside0.mk hr0
  have HC0 := Aside0.mk hc0
  clear hr0 hc0
  have HR1 := Aside0.mk hr1
  have HC1 := Aside0.mk hc1
  clear hr1 hc1
  have HB := Aside0.mk (Below.refl w.heap.size w)
  have H : (if (l0.length : Int) > 160 then (tasks_May.j0 k l0 l1 true) else (if (l1.length : Int) > 32 then (tasks_May.j0 k l0 l1 true) else ((api_Clock.f l1).bind fun t156 => (tasks_May.j0 k l0 l1 t156)))) = some r := h
  clear h
  have HC3 := Aside0.mk H
  clear H
  go_enter Try.func23, Try.ntmps23
  go_upto_region 1 with (fail)
  go_cut [24] (fun v24 wc => ∃ (kq : Nat) (x24_2 : Bool), v24 = .bool x24_2 ∧ Aside0 (tasks_May.j0 kq l0 l1 x24_2 = some r) ∧ Aside0 (kq ≤ k) ∧ Aside0 (Below w.heap.size w wc))
  case first =>
    have H := HC3.out
    clear HC3
    by_cases c4 : (l0.length : Int) > 160
    · rw [if_pos c4] at H
      have c4b0 : decide (160 < (l0.length : Int)) = true := decide_eq_true c4
      have c4b1 : decide (160 < l0.length) = true := decide_eq_true (by omega)
      clear c4
      (first | rw [c4b0] | (simp only [i64_w, i32_w]; rw [c4b0]) | skip)
      have H' := Aside0.mk H
      clear H
      go_wp2
      go_meet
      case rel => exact ⟨_, (true), (by first | rfl | (simp; done) | (simp [*]; done)), H', ⟨by first | omega | exact Nat.le_refl _⟩, ⟨by repeat (first | (with_reducible first | exact HB.out | apply below_alloc | apply pw_below_drewN | apply below_drew1) | exact HB.out)⟩⟩
    · rw [if_neg c4] at H
      have c4b0 : decide (160 < (l0.length : Int)) = false := decide_eq_false c4
      have c4b1 : decide (160 < l0.length) = false := decide_eq_false (by omega)
      clear c4
      (first | rw [c4b0] | (simp only [i64_w, i32_w]; rw [c4b0]) | skip)
      by_cases c5 : (l1.length : Int) > 32
      · rw [if_pos c5] at H
        have c5b0 : decide (32 < (l1.length : Int)) = true := decide_eq_true c5
        have c5b1 : decide (32 < l1.length) = true := decide_eq_true (by omega)
        clear c5
        have H' := Aside0.mk H
        clear H
        go_wp2
        go_meet
        case rel => exact ⟨_, (true), (by first | rfl | (simp; done) | (simp [*]; done)), H', ⟨by first | omega | exact Nat.le_refl _⟩, ⟨by repeat (first | (with_reducible first | exact HB.out | apply below_alloc | apply pw_below_drewN | apply below_drew1) | exact HB.out)⟩⟩
      · rw [if_neg c5] at H
        have c5b0 : decide (32 < (l1.length : Int)) = false := decide_eq_false c5
        have c5b1 : decide (32 < l1.length) = false := decide_eq_false (by omega)
        clear c5
        replace H := Option.bind_eq_some_iff.mp H
        obtain ⟨t156, A60, H⟩ := H
        replace H : (tasks_May.j0 k l0 l1 t156) = some r := H
        have A6 := Aside0.mk A60
        clear A60
        have H' := Aside0.mk H
        clear H
        go_wp2_with (first | (go_at_call 41; (with_reducible refine (api_Clock.calls _ _ l1 t156 _ ?side1 ?side2 A6.out).mono ?_); (case side1 => repeat (first | exact (Kd.C_below HR1.out HB.out) | (with_reducible refine Kd.C_alloc ?_ _) | (with_reducible refine Kd.C_drewN ?_ _) | (with_reducible refine Kd.C_drew ?_))); (case side2 => exact HC1.out); rintro e w7 ⟨rfl, hb⟩; have n0_ := Aside0.mk (below_step (by repeat (first | (with_reducible first | exact HB.out | apply below_alloc | apply pw_below_drewN | apply below_drew1) | exact HB.out)) hb); clear HB; have HB := n0_; clear n0_; (try clear hb); (try clear hb2); (try clear hk); (try clear hi)))
        go_meet
        case rel => exact ⟨_, (t156), (by first | rfl | (simp; done) | (simp [*]; done)), H', ⟨by first | omega | exact Nat.le_refl _⟩, ⟨by repeat (first | (with_reducible first | exact HB.out | apply below_alloc | apply pw_below_drewN | apply below_drew1) | exact HB.out)⟩⟩
  case rest =>
    clear HC3
    try clear c1
    try clear c2
    try clear p2
    try clear c4
    try clear c4b0
    try clear c4b1
    try clear c5
    try clear c5b0
    try clear c5b1
    obtain ⟨kq, x24_2, rfl, HA, HJ2, HB⟩ := hcut
    cases kq with
    | zero => exact absurd HA.out (by simp [tasks_May.j0])
    | succ kj2 =>
      have H := HA.out
      clear HA
      simp only [tasks_May.j0] at H
      by_cases c8 : x24_2 = true
      · subst c8
        have H1 : (some 2) = some r := by rw [if_pos rfl] at H; exact H
        clear H
        have H := H1
        clear H1
        obtain rfl := Option.some.inj H
        go_wp2
        go_ret
        exact ⟨by first | rfl | (simp [errW_none, errW_some] <;> rfl) | (simp [*, errW_none, errW_some] <;> rfl), by repeat (first | (with_reducible first | exact HB.out | apply below_alloc | apply pw_below_drewN | apply below_drew1) | exact HB.out)⟩
      · replace c8 := Bool.eq_false_iff.mpr c8
        subst c8
        have H1 : (tasks_May.l0 kj2 l0 l1 l0 (l0.length : Int) 0) = some r := by rw [if_neg (show ¬ (false = true) by decide)] at H; exact H
        clear H
        have H := H1
        clear H1
        have H' := Aside0.mk H
        clear H
        go_wp2
        go_loopg [27] kj2 (fun kq v27 w' => ∃ (x27_2 : Int), v27 = .int .i64 x27_2 ∧ Aside0 (tasks_May.l0 kq l0 l1 l0 (l0.length : Int) x27_2 = some r) ∧ Aside0 (kq ≤ kj2) ∧ Aside0 (Below w.heap.size w w'))
        case atStart => exact ⟨(0), (by first | rfl | (simp; done) | (simp [*]; done)), H', ⟨Nat.le_refl _⟩, ⟨by repeat (first | (with_reducible first | exact HB.out | apply below_alloc | apply pw_below_drewN | apply below_drew1) | exact HB.out)⟩⟩
        case round =>
          clear H'
          try clear c1
          try clear c2
          try clear p2
          try clear c4
          try clear c4b0
          try clear c4b1
          try clear c5
          try clear c5b0
          try clear c5b1
          try clear c8
          try clear p2
          obtain ⟨x27_2, rfl, HA, HK2, HB⟩ := hrel
          cases gk with
          | zero => exact absurd HA.out (by simp [tasks_May.l0])
          | succ k2 =>
            have H := HA.out
            clear HA
            simp only [tasks_May.l0] at H
            by_cases c9 : x27_2 < (l0.length : Int)
            · rw [if_pos c9] at H
              have c9b0 : decide (x27_2 < (l0.length : Int)) = true := decide_eq_true c9
              clear c9
              by_cases c10 : 0 ≤ x27_2
              · rw [if_pos c10] at H
                have c10b0 : decide (0 ≤ x27_2) = true := decide_eq_true c10
                clear c10
                by_cases c11 : x27_2 < (l0.length : Int)
                · rw [if_pos c11] at H
                  have c11b0 : decide (x27_2 < (l0.length : Int)) = true := decide_eq_true c11
                  clear c11
                  replace H := Option.bind_eq_some_iff.mp H
                  obtain ⟨t159, A120, H⟩ := H
                  replace H : (if t159 = true then (tasks_May.l0 k2 l0 l1 l0 (l0.length : Int) (wrap64 (x27_2 + 1))) else (some 2)) = some r := H
                  have A12 := Aside0.mk A120
                  clear A120
                  by_cases c13 : t159 = true
                  · subst c13
                    have H1 : (tasks_May.l0 k2 l0 l1 l0 (l0.length : Int) (wrap64 (x27_2 + 1))) = some r := by rw [if_pos rfl] at H; exact H
                    clear H
                    have H := H1
                    clear H1
                    have H' := Aside0.mk H
                    clear H
                    have p157 : 0 ≤ (x27_2 : Int) := of_decide_eq_true (by first | (with_reducible assumption) | assumption)
                    have q157 : x27_2 < (l0.length : Int) := of_decide_eq_true (by first | (with_reducible assumption) | assumption)
                    obtain ⟨ad157, A157_5, c157_5, e157, hx157_0, hx157_1, hx157_2, hx157_3, hx157_4, hx157_5, hx157_6, hl157_5, hi157_5⟩ := at_T44 HR0.out x27_2 p157 q157
                    cases e157
                    replace hx157_0 := (HB.out.cell (World.block_lt_of_cell? w _ hx157_0)).trans hx157_0
                    replace hx157_1 := (HB.out.cell (World.block_lt_of_cell? w _ hx157_1)).trans hx157_1
                    replace hx157_2 := (HB.out.cell (World.block_lt_of_cell? w _ hx157_2)).trans hx157_2
                    replace hx157_3 := (HB.out.cell (World.block_lt_of_cell? w _ hx157_3)).trans hx157_3
                    replace hx157_4 := (HB.out.cell (World.block_lt_of_cell? w _ hx157_4)).trans hx157_4
                    replace hx157_5 := (HB.out.cell (World.block_lt_of_cell? w _ hx157_5)).trans hx157_5
                    replace hx157_6 := (HB.out.cell (World.block_lt_of_cell? w _ hx157_6)).trans hx157_6
                    have HR157_5 := Aside0.mk hi157_5
                    have HC157_5 := Aside0.mk hl157_5
                    clear hi157_5 hl157_5
                    replace p157 := eq_true p157
                    replace q157 := eq_true q157
                    go_wp2_with (first | ((with_reducible refine gate_dst (N := 6) rfl ?_); (try (refine gate_guard (by rfl) ?_; dsimp only)); refine box_event ?hg (N := 6) ?hd (cs := #[.int .i64 0, .int .i64 0, .int .i64 0, .int .i64 0, .int .i64 0, .slice none 0 0, .int .i64 0]) (t := 44) ?hr ?_; (case hd => rfl); (case hg => rfl); (case hr => first | (go_simp; done) | (go_simp; rfl)); intro gb158 hg w14 hbox hb; have n0_ := Aside0.mk (below_step (by repeat (first | (with_reducible first | exact HB.out | apply below_alloc | apply pw_below_drewN | apply below_drew1) | exact HB.out)) hb); have n1_ := Aside0.mk (hbox); have n2_ := Aside0.mk ((by rw [hg]; exact (below_size (by repeat (first | (with_reducible first | exact HB.out | apply below_alloc | apply pw_below_drewN | apply below_drew1) | exact HB.out))) : w.heap.size ≤ gb158)); have n3_ := Aside0.mk ((by rw [hg]; exact (below_size (by repeat (first | (with_reducible first | exact HB.out | apply below_alloc | apply pw_below_drewN | apply below_drew1) | exact HB.out))) : w.heap.size ≤ gb158)); clear HB; have HB := n0_; have BK158 := n1_; have GW158 := n2_; have GE158 := n3_; clear n0_ n1_ n2_ n3_; clear hb hbox hg; have hcz15_0 : w14.cell? ⟨gb158, 0, none⟩ = some (.int .i64 0) := (blk_cell BK158.out 0).trans rfl; have hcz15_1 : w14.cell? ⟨gb158, 1, none⟩ = some (.int .i64 0) := (blk_cell BK158.out 1).trans rfl; have hcz15_2 : w14.cell? ⟨gb158, 2, none⟩ = some (.int .i64 0) := (blk_cell BK158.out 2).trans rfl; have hcz15_3 : w14.cell? ⟨gb158, 3, none⟩ = some (.int .i64 0) := (blk_cell BK158.out 3).trans rfl; have hcz15_4 : w14.cell? ⟨gb158, 4, none⟩ = some (.int .i64 0) := (blk_cell BK158.out 4).trans rfl; have hcz15_5 : w14.cell? ⟨gb158, 5, none⟩ = some (.slice none 0 0) := (blk_cell BK158.out 5).trans rfl; have hcz15_6 : w14.cell? ⟨gb158, 6, none⟩ = some (.int .i64 0) := (blk_cell BK158.out 6).trans rfl; have hfz15_0 := blk_frozen BK158.out 0; have hfz15_1 := blk_frozen BK158.out 1; have hfz15_2 := blk_frozen BK158.out 2; have hfz15_3 := blk_frozen BK158.out 3; have hfz15_4 := blk_frozen BK158.out 4; have hfz15_5 := blk_frozen BK158.out 5; have hfz15_6 := blk_frozen BK158.out 6) | ((with_reducible refine gate_callee (f := 44) rfl ?_); refine goesL_ (some 32) rfl rfl Try.func44 (by kernel_rfl) rfl #[.agg #[.int .i64 ((rd_T44 l0 x27_2).f0.f0), .int .i64 ((rd_T44 l0 x27_2).f0.f1), .int .i64 ((rd_T44 l0 x27_2).f1), .int .i64 ((rd_T44 l0 x27_2).f2), .int .i64 ((rd_T44 l0 x27_2).f3), .slice A157_5 ((rd_T44 l0 x27_2).f4).length c157_5, .int .i64 ((rd_T44 l0 x27_2).f5)]] rfl (by (try simp only [List.map_toArray, List.map_cons, List.map_nil]); first | done | rfl | (simp only [List.length_drop, List.length_take]; rfl)) ?_; (with_reducible refine (tasks_mayTask.calls k2 ((rd_T44 l0 x27_2).f0.f0) ((rd_T44 l0 x27_2).f0.f1) ((rd_T44 l0 x27_2).f1) ((rd_T44 l0 x27_2).f2) ((rd_T44 l0 x27_2).f3) _ _ ((rd_T44 l0 x27_2).f4) ((rd_T44 l0 x27_2).f5) true _ ?side1 ?side2 A12.out).mono ?_); (case side1 => exact Kd.C_below HR157_5.out (by repeat (first | (with_reducible first | exact HB.out | apply below_alloc | apply pw_below_drewN | apply below_drew1 | refine below_set ?_ GE158.out) | exact HB.out))); (case side2 => exact HC157_5.out); rintro e w16 ⟨rfl, hb⟩; refine ⟨_, rfl, ?_⟩; have n0_ := Aside0.mk (blk_below (g := gb158) (o := .cells #[.int .i64 ((rd_T44 l0 x27_2).f0.f0), .int .i64 ((rd_T44 l0 x27_2).f0.f1), .int .i64 ((rd_T44 l0 x27_2).f1), .int .i64 ((rd_T44 l0 x27_2).f2), .int .i64 ((rd_T44 l0 x27_2).f3), .slice A157_5 ((rd_T44 l0 x27_2).f4).length c157_5, .int .i64 ((rd_T44 l0 x27_2).f5)] 44 (0, 0)) (by (with_reducible repeat (first | refine blk_drewN ?_ _ | refine blk_drew ?_ | refine blk_alloc ?_ _)); refine blk_put (cs := #[.int .i64 ((rd_T44 l0 x27_2).f0.f0), .int .i64 ((rd_T44 l0 x27_2).f0.f1), .int .i64 ((rd_T44 l0 x27_2).f1), .int .i64 ((rd_T44 l0 x27_2).f2), .int .i64 ((rd_T44 l0 x27_2).f3), .slice A157_5 ((rd_T44 l0 x27_2).f4).length c157_5, .int .i64 0]) ?_ 6 _ (by first | rfl | (simp [*]; done)); (with_reducible repeat (first | refine blk_drewN ?_ _ | refine blk_drew ?_ | refine blk_alloc ?_ _)); refine blk_put (cs := #[.int .i64 ((rd_T44 l0 x27_2).f0.f0), .int .i64 ((rd_T44 l0 x27_2).f0.f1), .int .i64 ((rd_T44 l0 x27_2).f1), .int .i64 ((rd_T44 l0 x27_2).f2), .int .i64 ((rd_T44 l0 x27_2).f3), .slice none 0 0, .int .i64 0]) ?_ 5 _ (by first | rfl | (simp [*]; done)); (with_reducible repeat (first | refine blk_drewN ?_ _ | refine blk_drew ?_ | refine blk_alloc ?_ _)); refine blk_put (cs := #[.int .i64 ((rd_T44 l0 x27_2).f0.f0), .int .i64 ((rd_T44 l0 x27_2).f0.f1), .int .i64 ((rd_T44 l0 x27_2).f1), .int .i64 ((rd_T44 l0 x27_2).f2), .int .i64 0, .slice none 0 0, .int .i64 0]) ?_ 4 _ (by first | rfl | (simp [*]; done)); (with_reducible repeat (first | refine blk_drewN ?_ _ | refine blk_drew ?_ | refine blk_alloc ?_ _)); refine blk_put (cs := #[.int .i64 ((rd_T44 l0 x27_2).f0.f0), .int .i64 ((rd_T44 l0 x27_2).f0.f1), .int .i64 ((rd_T44 l0 x27_2).f1), .int .i64 0, .int .i64 0, .slice none 0 0, .int .i64 0]) ?_ 3 _ (by first | rfl | (simp [*]; done)); (with_reducible repeat (first | refine blk_drewN ?_ _ | refine blk_drew ?_ | refine blk_alloc ?_ _)); refine blk_put (cs := #[.int .i64 ((rd_T44 l0 x27_2).f0.f0), .int .i64 ((rd_T44 l0 x27_2).f0.f1), .int .i64 0, .int .i64 0, .int .i64 0, .slice none 0 0, .int .i64 0]) ?_ 2 _ (by first | rfl | (simp [*]; done)); (with_reducible repeat (first | refine blk_drewN ?_ _ | refine blk_drew ?_ | refine blk_alloc ?_ _)); refine blk_put (cs := #[.int .i64 ((rd_T44 l0 x27_2).f0.f0), .int .i64 0, .int .i64 0, .int .i64 0, .int .i64 0, .slice none 0 0, .int .i64 0]) ?_ 1 _ (by first | rfl | (simp [*]; done)); (with_reducible repeat (first | refine blk_drewN ?_ _ | refine blk_drew ?_ | refine blk_alloc ?_ _)); refine blk_put (cs := #[.int .i64 0, .int .i64 0, .int .i64 0, .int .i64 0, .int .i64 0, .slice none 0 0, .int .i64 0]) ?_ 0 _ (by first | rfl | (simp [*]; done)); (with_reducible repeat (first | refine blk_drewN ?_ _ | refine blk_drew ?_ | refine blk_alloc ?_ _)); exact BK158.out) hb); have n1_ := Aside0.mk (below_step (by repeat (first | (with_reducible first | exact HB.out | apply below_alloc | apply pw_below_drewN | apply below_drew1 | refine below_set ?_ GE158.out) | exact HB.out)) hb); clear BK158; clear HB; have BK158 := n0_; have HB := n1_; clear n0_ n1_; (try clear hb); (try clear hb2); (try clear hk); (try clear hi)))
                    go_roundg k2
                    case measure => have := HJ2.out; have := HK2.out; omega
                    case rel => exact ⟨(wrap64 (x27_2 + 1)), (by first | rfl | (simp; done) | (simp [*]; done)), H', ⟨by have := HJ2.out; have := HK2.out; omega⟩, ⟨by repeat (first | (with_reducible first | exact HB.out | apply below_alloc | apply pw_below_drewN | apply below_drew1 | refine below_set ?_ GE158.out) | exact HB.out)⟩⟩
                  · replace c13 := Bool.eq_false_iff.mpr c13
                    subst c13
                    have H1 : (some 2) = some r := by rw [if_neg (show ¬ (false = true) by decide)] at H; exact H
                    clear H
                    have H := H1
                    clear H1
                    obtain rfl := Option.some.inj H
                    have p157 : 0 ≤ (x27_2 : Int) := of_decide_eq_true (by first | (with_reducible assumption) | assumption)
                    have q157 : x27_2 < (l0.length : Int) := of_decide_eq_true (by first | (with_reducible assumption) | assumption)
                    obtain ⟨ad157, A157_5, c157_5, e157, hx157_0, hx157_1, hx157_2, hx157_3, hx157_4, hx157_5, hx157_6, hl157_5, hi157_5⟩ := at_T44 HR0.out x27_2 p157 q157
                    cases e157
                    replace hx157_0 := (HB.out.cell (World.block_lt_of_cell? w _ hx157_0)).trans hx157_0
                    replace hx157_1 := (HB.out.cell (World.block_lt_of_cell? w _ hx157_1)).trans hx157_1
                    replace hx157_2 := (HB.out.cell (World.block_lt_of_cell? w _ hx157_2)).trans hx157_2
                    replace hx157_3 := (HB.out.cell (World.block_lt_of_cell? w _ hx157_3)).trans hx157_3
                    replace hx157_4 := (HB.out.cell (World.block_lt_of_cell? w _ hx157_4)).trans hx157_4
                    replace hx157_5 := (HB.out.cell (World.block_lt_of_cell? w _ hx157_5)).trans hx157_5
                    replace hx157_6 := (HB.out.cell (World.block_lt_of_cell? w _ hx157_6)).trans hx157_6
                    have HR157_5 := Aside0.mk hi157_5
                    have HC157_5 := Aside0.mk hl157_5
                    clear hi157_5 hl157_5
                    replace p157 := eq_true p157
                    replace q157 := eq_true q157
                    go_wp2_with (first | ((with_reducible refine gate_dst (N := 6) rfl ?_); (try (refine gate_guard (by rfl) ?_; dsimp only)); refine box_event ?hg (N := 6) ?hd (cs := #[.int .i64 0, .int .i64 0, .int .i64 0, .int .i64 0, .int .i64 0, .slice none 0 0, .int .i64 0]) (t := 44) ?hr ?_; (case hd => rfl); (case hg => rfl); (case hr => first | (go_simp; done) | (go_simp; rfl)); intro gb158 hg w17 hbox hb; have n0_ := Aside0.mk (below_step (by repeat (first | (with_reducible first | exact HB.out | apply below_alloc | apply pw_below_drewN | apply below_drew1) | exact HB.out)) hb); have n1_ := Aside0.mk (hbox); have n2_ := Aside0.mk ((by rw [hg]; exact (below_size (by repeat (first | (with_reducible first | exact HB.out | apply below_alloc | apply pw_below_drewN | apply below_drew1) | exact HB.out))) : w.heap.size ≤ gb158)); have n3_ := Aside0.mk ((by rw [hg]; exact (below_size (by repeat (first | (with_reducible first | exact HB.out | apply below_alloc | apply pw_below_drewN | apply below_drew1) | exact HB.out))) : w.heap.size ≤ gb158)); clear HB; have HB := n0_; have BK158 := n1_; have GW158 := n2_; have GE158 := n3_; clear n0_ n1_ n2_ n3_; clear hb hbox hg; have hcz18_0 : w17.cell? ⟨gb158, 0, none⟩ = some (.int .i64 0) := (blk_cell BK158.out 0).trans rfl; have hcz18_1 : w17.cell? ⟨gb158, 1, none⟩ = some (.int .i64 0) := (blk_cell BK158.out 1).trans rfl; have hcz18_2 : w17.cell? ⟨gb158, 2, none⟩ = some (.int .i64 0) := (blk_cell BK158.out 2).trans rfl; have hcz18_3 : w17.cell? ⟨gb158, 3, none⟩ = some (.int .i64 0) := (blk_cell BK158.out 3).trans rfl; have hcz18_4 : w17.cell? ⟨gb158, 4, none⟩ = some (.int .i64 0) := (blk_cell BK158.out 4).trans rfl; have hcz18_5 : w17.cell? ⟨gb158, 5, none⟩ = some (.slice none 0 0) := (blk_cell BK158.out 5).trans rfl; have hcz18_6 : w17.cell? ⟨gb158, 6, none⟩ = some (.int .i64 0) := (blk_cell BK158.out 6).trans rfl; have hfz18_0 := blk_frozen BK158.out 0; have hfz18_1 := blk_frozen BK158.out 1; have hfz18_2 := blk_frozen BK158.out 2; have hfz18_3 := blk_frozen BK158.out 3; have hfz18_4 := blk_frozen BK158.out 4; have hfz18_5 := blk_frozen BK158.out 5; have hfz18_6 := blk_frozen BK158.out 6) | ((with_reducible refine gate_callee (f := 44) rfl ?_); refine goesL_ (some 32) rfl rfl Try.func44 (by kernel_rfl) rfl #[.agg #[.int .i64 ((rd_T44 l0 x27_2).f0.f0), .int .i64 ((rd_T44 l0 x27_2).f0.f1), .int .i64 ((rd_T44 l0 x27_2).f1), .int .i64 ((rd_T44 l0 x27_2).f2), .int .i64 ((rd_T44 l0 x27_2).f3), .slice A157_5 ((rd_T44 l0 x27_2).f4).length c157_5, .int .i64 ((rd_T44 l0 x27_2).f5)]] rfl (by (try simp only [List.map_toArray, List.map_cons, List.map_nil]); first | done | rfl | (simp only [List.length_drop, List.length_take]; rfl)) ?_; (with_reducible refine (tasks_mayTask.calls k2 ((rd_T44 l0 x27_2).f0.f0) ((rd_T44 l0 x27_2).f0.f1) ((rd_T44 l0 x27_2).f1) ((rd_T44 l0 x27_2).f2) ((rd_T44 l0 x27_2).f3) _ _ ((rd_T44 l0 x27_2).f4) ((rd_T44 l0 x27_2).f5) false _ ?side1 ?side2 A12.out).mono ?_); (case side1 => exact Kd.C_below HR157_5.out (by repeat (first | (with_reducible first | exact HB.out | apply below_alloc | apply pw_below_drewN | apply below_drew1 | refine below_set ?_ GE158.out) | exact HB.out))); (case side2 => exact HC157_5.out); rintro e w19 ⟨rfl, hb⟩; refine ⟨_, rfl, ?_⟩; have n0_ := Aside0.mk (blk_below (g := gb158) (o := .cells #[.int .i64 ((rd_T44 l0 x27_2).f0.f0), .int .i64 ((rd_T44 l0 x27_2).f0.f1), .int .i64 ((rd_T44 l0 x27_2).f1), .int .i64 ((rd_T44 l0 x27_2).f2), .int .i64 ((rd_T44 l0 x27_2).f3), .slice A157_5 ((rd_T44 l0 x27_2).f4).length c157_5, .int .i64 ((rd_T44 l0 x27_2).f5)] 44 (0, 0)) (by (with_reducible repeat (first | refine blk_drewN ?_ _ | refine blk_drew ?_ | refine blk_alloc ?_ _)); refine blk_put (cs := #[.int .i64 ((rd_T44 l0 x27_2).f0.f0), .int .i64 ((rd_T44 l0 x27_2).f0.f1), .int .i64 ((rd_T44 l0 x27_2).f1), .int .i64 ((rd_T44 l0 x27_2).f2), .int .i64 ((rd_T44 l0 x27_2).f3), .slice A157_5 ((rd_T44 l0 x27_2).f4).length c157_5, .int .i64 0]) ?_ 6 _ (by first | rfl | (simp [*]; done)); (with_reducible repeat (first | refine blk_drewN ?_ _ | refine blk_drew ?_ | refine blk_alloc ?_ _)); refine blk_put (cs := #[.int .i64 ((rd_T44 l0 x27_2).f0.f0), .int .i64 ((rd_T44 l0 x27_2).f0.f1), .int .i64 ((rd_T44 l0 x27_2).f1), .int .i64 ((rd_T44 l0 x27_2).f2), .int .i64 ((rd_T44 l0 x27_2).f3), .slice none 0 0, .int .i64 0]) ?_ 5 _ (by first | rfl | (simp [*]; done)); (with_reducible repeat (first | refine blk_drewN ?_ _ | refine blk_drew ?_ | refine blk_alloc ?_ _)); refine blk_put (cs := #[.int .i64 ((rd_T44 l0 x27_2).f0.f0), .int .i64 ((rd_T44 l0 x27_2).f0.f1), .int .i64 ((rd_T44 l0 x27_2).f1), .int .i64 ((rd_T44 l0 x27_2).f2), .int .i64 0, .slice none 0 0, .int .i64 0]) ?_ 4 _ (by first | rfl | (simp [*]; done)); (with_reducible repeat (first | refine blk_drewN ?_ _ | refine blk_drew ?_ | refine blk_alloc ?_ _)); refine blk_put (cs := #[.int .i64 ((rd_T44 l0 x27_2).f0.f0), .int .i64 ((rd_T44 l0 x27_2).f0.f1), .int .i64 ((rd_T44 l0 x27_2).f1), .int .i64 0, .int .i64 0, .slice none 0 0, .int .i64 0]) ?_ 3 _ (by first | rfl | (simp [*]; done)); (with_reducible repeat (first | refine blk_drewN ?_ _ | refine blk_drew ?_ | refine blk_alloc ?_ _)); refine blk_put (cs := #[.int .i64 ((rd_T44 l0 x27_2).f0.f0), .int .i64 ((rd_T44 l0 x27_2).f0.f1), .int .i64 0, .int .i64 0, .int .i64 0, .slice none 0 0, .int .i64 0]) ?_ 2 _ (by first | rfl | (simp [*]; done)); (with_reducible repeat (first | refine blk_drewN ?_ _ | refine blk_drew ?_ | refine blk_alloc ?_ _)); refine blk_put (cs := #[.int .i64 ((rd_T44 l0 x27_2).f0.f0), .int .i64 0, .int .i64 0, .int .i64 0, .int .i64 0, .slice none 0 0, .int .i64 0]) ?_ 1 _ (by first | rfl | (simp [*]; done)); (with_reducible repeat (first | refine blk_drewN ?_ _ | refine blk_drew ?_ | refine blk_alloc ?_ _)); refine blk_put (cs := #[.int .i64 0, .int .i64 0, .int .i64 0, .int .i64 0, .int .i64 0, .slice none 0 0, .int .i64 0]) ?_ 0 _ (by first | rfl | (simp [*]; done)); (with_reducible repeat (first | refine blk_drewN ?_ _ | refine blk_drew ?_ | refine blk_alloc ?_ _)); exact BK158.out) hb); have n1_ := Aside0.mk (below_step (by repeat (first | (with_reducible first | exact HB.out | apply below_alloc | apply pw_below_drewN | apply below_drew1 | refine below_set ?_ GE158.out) | exact HB.out)) hb); clear BK158; clear HB; have BK158 := n0_; have HB := n1_; clear n0_ n1_; (try clear hb); (try clear hb2); (try clear hk); (try clear hi)))
                    go_ret
                    exact ⟨by first | rfl | (simp [errW_none, errW_some] <;> rfl) | (simp [*, errW_none, errW_some] <;> rfl), by repeat (first | (with_reducible first | exact HB.out | apply below_alloc | apply pw_below_drewN | apply below_drew1 | refine below_set ?_ GE158.out) | exact HB.out)⟩
                · rw [if_neg c11] at H
                  exact absurd H (by simp)
              · rw [if_neg c10] at H
                exact absurd H (by simp)
            · rw [if_neg c9] at H
              have c9b0 : decide (x27_2 < (l0.length : Int)) = false := decide_eq_false c9
              clear c9
              have H' := Aside0.mk H
              clear H
              go_wp2
              go_loopg [37] k2 (fun kq v37 w' => ∃ (x37_3 : Int), v37 = .int .i64 x37_3 ∧ Aside0 (tasks_May.l1 kq l0 l1 l0 (l0.length : Int) x37_3 = some r) ∧ Aside0 (kq ≤ k2) ∧ Aside0 (Below w.heap.size w w'))
              case atStart => exact ⟨(0), (by first | rfl | (simp; done) | (simp [*]; done)), H', ⟨Nat.le_refl _⟩, ⟨by repeat (first | (with_reducible first | exact HB.out | apply below_alloc | apply pw_below_drewN | apply below_drew1) | exact HB.out)⟩⟩
              case round =>
                clear H'
                try clear c1
                try clear p1
                try clear q1
                try clear hx1
                try clear c2
                try clear p2
                try clear c4
                try clear c4b0
                try clear c4b1
                try clear c5
                try clear c5b0
                try clear c5b1
                try clear p6
                try clear c8
                try clear c9
                try clear c9b0
                try clear c10
                try clear c10b0
                try clear c11
                try clear c11b0
                try clear c13
                try clear c15
                try clear p15
                try clear q15
                try clear hx15
                try clear hcz15_0
                try clear hcz15_1
                try clear hcz15_2
                try clear hcz15_3
                try clear hcz15_4
                try clear hcz15_5
                try clear hcz15_6
                try clear hcz18_0
                try clear hcz18_1
                try clear hcz18_2
                try clear hcz18_3
                try clear hcz18_4
                try clear hcz18_5
                try clear hcz18_6
                try clear hfz15_0
                try clear hfz15_1
                try clear hfz15_2
                try clear hfz15_3
                try clear hfz15_4
                try clear hfz15_5
                try clear hfz15_6
                try clear hfz18_0
                try clear hfz18_1
                try clear hfz18_2
                try clear hfz18_3
                try clear hfz18_4
                try clear hfz18_5
                try clear hfz18_6
                try clear hx157_0
                try clear hx157_1
                try clear hx157_2
                try clear hx157_3
                try clear hx157_4
                try clear hx157_5
                try clear hx157_6
                try clear p157
                try clear p2
                try clear q157
                obtain ⟨x37_3, rfl, HA, HK3, HB⟩ := hrel
                cases gk with
                | zero => exact absurd HA.out (by simp [tasks_May.l1])
                | succ k3 =>
                  have H := HA.out
                  clear HA
                  simp only [tasks_May.l1] at H
                  by_cases c20 : x37_3 < (l0.length : Int)
                  · rw [if_pos c20] at H
                    have c20b0 : decide (x37_3 < (l0.length : Int)) = true := decide_eq_true c20
                    clear c20
                    by_cases c21 : 0 ≤ x37_3
                    · rw [if_pos c21] at H
                      have c21b0 : decide (0 ≤ x37_3) = true := decide_eq_true c21
                      clear c21
                      by_cases c22 : x37_3 < (l0.length : Int)
                      · rw [if_pos c22] at H
                        have c22b0 : decide (x37_3 < (l0.length : Int)) = true := decide_eq_true c22
                        clear c22
                        have H' := Aside0.mk H
                        clear H
                        have p160 : 0 ≤ (x37_3 : Int) := of_decide_eq_true (by first | (with_reducible assumption) | assumption)
                        have q160 : x37_3 < (l0.length : Int) := of_decide_eq_true (by first | (with_reducible assumption) | assumption)
                        obtain ⟨ad160, A160_5, c160_5, e160, hx160_0, hx160_1, hx160_2, hx160_3, hx160_4, hx160_5, hx160_6, hl160_5, hi160_5⟩ := at_T44 HR0.out x37_3 p160 q160
                        cases e160
                        replace hx160_0 := (HB.out.cell (World.block_lt_of_cell? w _ hx160_0)).trans hx160_0
                        replace hx160_1 := (HB.out.cell (World.block_lt_of_cell? w _ hx160_1)).trans hx160_1
                        replace hx160_2 := (HB.out.cell (World.block_lt_of_cell? w _ hx160_2)).trans hx160_2
                        replace hx160_3 := (HB.out.cell (World.block_lt_of_cell? w _ hx160_3)).trans hx160_3
                        replace hx160_4 := (HB.out.cell (World.block_lt_of_cell? w _ hx160_4)).trans hx160_4
                        replace hx160_5 := (HB.out.cell (World.block_lt_of_cell? w _ hx160_5)).trans hx160_5
                        replace hx160_6 := (HB.out.cell (World.block_lt_of_cell? w _ hx160_6)).trans hx160_6
                        have HR160_5 := Aside0.mk hi160_5
                        have HC160_5 := Aside0.mk hl160_5
                        clear hi160_5 hl160_5
                        replace p160 := eq_true p160
                        replace q160 := eq_true q160
                        go_wp2_with (first | ((with_reducible refine gate_dst (N := 8) rfl ?_); (try (refine gate_guard (by rfl) ?_; dsimp only)); refine box_event ?hg (N := 8) ?hd (cs := #[.int .i64 0, .int .i64 0, .int .i64 0, .int .i64 0, .int .i64 0, .slice none 0 0, .int .i64 0]) (t := 44) ?hr ?_; (case hd => rfl); (case hg => rfl); (case hr => first | (go_simp; done) | (go_simp; rfl)); intro gb161 hg w23 hbox hb; have n0_ := Aside0.mk (below_step (by repeat (first | (with_reducible first | exact HB.out | apply below_alloc | apply pw_below_drewN | apply below_drew1) | exact HB.out)) hb); have n1_ := Aside0.mk (hbox); have n2_ := Aside0.mk ((by rw [hg]; exact (below_size (by repeat (first | (with_reducible first | exact HB.out | apply below_alloc | apply pw_below_drewN | apply below_drew1) | exact HB.out))) : w.heap.size ≤ gb161)); have n3_ := Aside0.mk ((by rw [hg]; exact (below_size (by repeat (first | (with_reducible first | exact HB.out | apply below_alloc | apply pw_below_drewN | apply below_drew1) | exact HB.out))) : w.heap.size ≤ gb161)); clear HB; have HB := n0_; have BK161 := n1_; have GW161 := n2_; have GE161 := n3_; clear n0_ n1_ n2_ n3_; clear hb hbox hg; have hcz24_0 : w23.cell? ⟨gb161, 0, none⟩ = some (.int .i64 0) := (blk_cell BK161.out 0).trans rfl; have hcz24_1 : w23.cell? ⟨gb161, 1, none⟩ = some (.int .i64 0) := (blk_cell BK161.out 1).trans rfl; have hcz24_2 : w23.cell? ⟨gb161, 2, none⟩ = some (.int .i64 0) := (blk_cell BK161.out 2).trans rfl; have hcz24_3 : w23.cell? ⟨gb161, 3, none⟩ = some (.int .i64 0) := (blk_cell BK161.out 3).trans rfl; have hcz24_4 : w23.cell? ⟨gb161, 4, none⟩ = some (.int .i64 0) := (blk_cell BK161.out 4).trans rfl; have hcz24_5 : w23.cell? ⟨gb161, 5, none⟩ = some (.slice none 0 0) := (blk_cell BK161.out 5).trans rfl; have hcz24_6 : w23.cell? ⟨gb161, 6, none⟩ = some (.int .i64 0) := (blk_cell BK161.out 6).trans rfl; have hfz24_0 := blk_frozen BK161.out 0; have hfz24_1 := blk_frozen BK161.out 1; have hfz24_2 := blk_frozen BK161.out 2; have hfz24_3 := blk_frozen BK161.out 3; have hfz24_4 := blk_frozen BK161.out 4; have hfz24_5 := blk_frozen BK161.out 5; have hfz24_6 := blk_frozen BK161.out 6))
                        go_loopg [44] k3 (fun kq v44 w' => ∃ (x44_4 : Int), v44 = .int .i64 x44_4 ∧ Aside0 (tasks_May.l2 kq l0 l1 l0 (l0.length : Int) x37_3 ((rd_T44 l0 x37_3).f4) (((rd_T44 l0 x37_3).f4).length : Int) x44_4 ((rd_T44 l0 x37_3).f0.f0) ((rd_T44 l0 x37_3).f0.f1) ((rd_T44 l0 x37_3).f1) ((rd_T44 l0 x37_3).f2) ((rd_T44 l0 x37_3).f3) ((rd_T44 l0 x37_3).f4) ((rd_T44 l0 x37_3).f5) = some r) ∧ Aside0 (kq ≤ k3) ∧ Aside0 (w'.heap[gb161]? = some (.cells #[.int .i64 ((rd_T44 l0 x37_3).f0.f0), .int .i64 ((rd_T44 l0 x37_3).f0.f1), .int .i64 ((rd_T44 l0 x37_3).f1), .int .i64 ((rd_T44 l0 x37_3).f2), .int .i64 ((rd_T44 l0 x37_3).f3), (.slice A160_5 ((rd_T44 l0 x37_3).f4).length c160_5), .int .i64 ((rd_T44 l0 x37_3).f5)] 44 (0, 0))) ∧ Aside0 (Below w.heap.size w w'))
                        case atStart => exact ⟨(0), (by first | rfl | (simp; done) | (simp [*]; done)), H', ⟨Nat.le_refl _⟩, ⟨by (with_reducible repeat (first | refine blk_drewN ?_ _ | refine blk_drew ?_ | refine blk_alloc ?_ _)); refine blk_put (cs := #[.int .i64 ((rd_T44 l0 x37_3).f0.f0), .int .i64 ((rd_T44 l0 x37_3).f0.f1), .int .i64 ((rd_T44 l0 x37_3).f1), .int .i64 ((rd_T44 l0 x37_3).f2), .int .i64 ((rd_T44 l0 x37_3).f3), .slice A160_5 ((rd_T44 l0 x37_3).f4).length c160_5, .int .i64 0]) ?_ 6 _ (by first | rfl | (simp [*]; done)); (with_reducible repeat (first | refine blk_drewN ?_ _ | refine blk_drew ?_ | refine blk_alloc ?_ _)); refine blk_put (cs := #[.int .i64 ((rd_T44 l0 x37_3).f0.f0), .int .i64 ((rd_T44 l0 x37_3).f0.f1), .int .i64 ((rd_T44 l0 x37_3).f1), .int .i64 ((rd_T44 l0 x37_3).f2), .int .i64 ((rd_T44 l0 x37_3).f3), .slice none 0 0, .int .i64 0]) ?_ 5 _ (by first | rfl | (simp [*]; done)); (with_reducible repeat (first | refine blk_drewN ?_ _ | refine blk_drew ?_ | refine blk_alloc ?_ _)); refine blk_put (cs := #[.int .i64 ((rd_T44 l0 x37_3).f0.f0), .int .i64 ((rd_T44 l0 x37_3).f0.f1), .int .i64 ((rd_T44 l0 x37_3).f1), .int .i64 ((rd_T44 l0 x37_3).f2), .int .i64 0, .slice none 0 0, .int .i64 0]) ?_ 4 _ (by first | rfl | (simp [*]; done)); (with_reducible repeat (first | refine blk_drewN ?_ _ | refine blk_drew ?_ | refine blk_alloc ?_ _)); refine blk_put (cs := #[.int .i64 ((rd_T44 l0 x37_3).f0.f0), .int .i64 ((rd_T44 l0 x37_3).f0.f1), .int .i64 ((rd_T44 l0 x37_3).f1), .int .i64 0, .int .i64 0, .slice none 0 0, .int .i64 0]) ?_ 3 _ (by first | rfl | (simp [*]; done)); (with_reducible repeat (first | refine blk_drewN ?_ _ | refine blk_drew ?_ | refine blk_alloc ?_ _)); refine blk_put (cs := #[.int .i64 ((rd_T44 l0 x37_3).f0.f0), .int .i64 ((rd_T44 l0 x37_3).f0.f1), .int .i64 0, .int .i64 0, .int .i64 0, .slice none 0 0, .int .i64 0]) ?_ 2 _ (by first | rfl | (simp [*]; done)); (with_reducible repeat (first | refine blk_drewN ?_ _ | refine blk_drew ?_ | refine blk_alloc ?_ _)); refine blk_put (cs := #[.int .i64 ((rd_T44 l0 x37_3).f0.f0), .int .i64 0, .int .i64 0, .int .i64 0, .int .i64 0, .slice none 0 0, .int .i64 0]) ?_ 1 _ (by first | rfl | (simp [*]; done)); (with_reducible repeat (first | refine blk_drewN ?_ _ | refine blk_drew ?_ | refine blk_alloc ?_ _)); refine blk_put (cs := #[.int .i64 0, .int .i64 0, .int .i64 0, .int .i64 0, .int .i64 0, .slice none 0 0, .int .i64 0]) ?_ 0 _ (by first | rfl | (simp [*]; done)); (with_reducible repeat (first | refine blk_drewN ?_ _ | refine blk_drew ?_ | refine blk_alloc ?_ _)); exact BK161.out⟩, ⟨by repeat (first | (with_reducible first | exact HB.out | apply below_alloc | apply pw_below_drewN | apply below_drew1 | refine below_set ?_ GE161.out) | exact HB.out)⟩⟩
                        case round =>
                          clear H'
                          try clear c1
                          try clear p1
                          try clear q1
                          try clear hx1
                          try clear c2
                          try clear p2
                          try clear c4
                          try clear c4b0
                          try clear c4b1
                          try clear c5
                          try clear c5b0
                          try clear c5b1
                          try clear p6
                          try clear c8
                          try clear c9
                          try clear c9b0
                          try clear c10
                          try clear c10b0
                          try clear c11
                          try clear c11b0
                          try clear c13
                          try clear c15
                          try clear p15
                          try clear q15
                          try clear hx15
                          try clear c16
                          try clear p16
                          try clear q16
                          try clear hx16
                          try clear c20
                          try clear c20b0
                          try clear c21
                          try clear c21b0
                          try clear c22
                          try clear c22b0
                          try clear c23
                          try clear hcz15_0
                          try clear hcz15_1
                          try clear hcz15_2
                          try clear hcz15_3
                          try clear hcz15_4
                          try clear hcz15_5
                          try clear hcz15_6
                          try clear hcz18_0
                          try clear hcz18_1
                          try clear hcz18_2
                          try clear hcz18_3
                          try clear hcz18_4
                          try clear hcz18_5
                          try clear hcz18_6
                          try clear hcz24_0
                          try clear hcz24_1
                          try clear hcz24_2
                          try clear hcz24_3
                          try clear hcz24_4
                          try clear hcz24_5
                          try clear hcz24_6
                          try clear hfz15_0
                          try clear hfz15_1
                          try clear hfz15_2
                          try clear hfz15_3
                          try clear hfz15_4
                          try clear hfz15_5
                          try clear hfz15_6
                          try clear hfz18_0
                          try clear hfz18_1
                          try clear hfz18_2
                          try clear hfz18_3
                          try clear hfz18_4
                          try clear hfz18_5
                          try clear hfz18_6
                          try clear hfz24_0
                          try clear hfz24_1
                          try clear hfz24_2
                          try clear hfz24_3
                          try clear hfz24_4
                          try clear hfz24_5
                          try clear hfz24_6
                          try clear hx157_0
                          try clear hx157_1
                          try clear hx157_2
                          try clear hx157_3
                          try clear hx157_4
                          try clear hx157_5
                          try clear hx157_6
                          try clear hx160_0
                          try clear hx160_1
                          try clear hx160_2
                          try clear hx160_3
                          try clear hx160_4
                          try clear hx160_5
                          try clear hx160_6
                          try clear p1
                          try clear p15
                          try clear p157
                          try clear p160
                          try clear p2
                          try clear p6
                          try clear q1
                          try clear q15
                          try clear q157
                          try clear q160
                          obtain ⟨x44_4, rfl, HA, HK4, BK161, HB⟩ := hrel
                          cases gk with
                          | zero => exact absurd HA.out (by simp [tasks_May.l2])
                          | succ k4 =>
                            have H := HA.out
                            clear HA
                            simp only [tasks_May.l2] at H
                            by_cases c25 : x44_4 < (((rd_T44 l0 x37_3).f4).length : Int)
                            · rw [if_pos c25] at H
                              have c25b0 : decide (x44_4 < (((rd_T44 l0 x37_3).f4).length : Int)) = true := decide_eq_true c25
                              clear c25
                              by_cases c26 : 0 ≤ x44_4
                              · rw [if_pos c26] at H
                                have c26b0 : decide (0 ≤ x44_4) = true := decide_eq_true c26
                                clear c26
                                by_cases c27 : x44_4 < (((rd_T44 l0 x37_3).f4).length : Int)
                                · rw [if_pos c27] at H
                                  have c27b0 : decide (x44_4 < (((rd_T44 l0 x37_3).f4).length : Int)) = true := decide_eq_true c27
                                  clear c27
                                  replace H := Option.bind_eq_some_iff.mp H
                                  obtain ⟨⟨t164, t165, t166⟩, A280, H⟩ := H
                                  replace H : (if t166 = true then ((tasks_mayRead.f k4 ((rd_T69 ((rd_T44 l0 x37_3).f4) x44_4).f3.f0) ((rd_T69 ((rd_T44 l0 x37_3).f4) x44_4).f3.f1) ((rd_T69 ((rd_T44 l0 x37_3).f4) x44_4).f3.f2) ((rd_T44 l0 x37_3).f0.f0) ((rd_T44 l0 x37_3).f0.f1) t164 t165).bind fun t168 => (if t168 = true then (tasks_May.l2 k4 l0 l1 l0 (l0.length : Int) x37_3 ((rd_T44 l0 x37_3).f4) (((rd_T44 l0 x37_3).f4).length : Int) (wrap64 (x44_4 + 1)) ((rd_T44 l0 x37_3).f0.f0) ((rd_T44 l0 x37_3).f0.f1) ((rd_T44 l0 x37_3).f1) ((rd_T44 l0 x37_3).f2) ((rd_T44 l0 x37_3).f3) ((rd_T44 l0 x37_3).f4) ((rd_T44 l0 x37_3).f5)) else (some 2))) else (some 2)) = some r := H
                                  have A28 := Aside0.mk A280
                                  clear A280
                                  by_cases c29 : t166 = true
                                  · subst c29
                                    have H1 : ((tasks_mayRead.f k4 ((rd_T69 ((rd_T44 l0 x37_3).f4) x44_4).f3.f0) ((rd_T69 ((rd_T44 l0 x37_3).f4) x44_4).f3.f1) ((rd_T69 ((rd_T44 l0 x37_3).f4) x44_4).f3.f2) ((rd_T44 l0 x37_3).f0.f0) ((rd_T44 l0 x37_3).f0.f1) t164 t165).bind fun t168 => (if t168 = true then (tasks_May.l2 k4 l0 l1 l0 (l0.length : Int) x37_3 ((rd_T44 l0 x37_3).f4) (((rd_T44 l0 x37_3).f4).length : Int) (wrap64 (x44_4 + 1)) ((rd_T44 l0 x37_3).f0.f0) ((rd_T44 l0 x37_3).f0.f1) ((rd_T44 l0 x37_3).f1) ((rd_T44 l0 x37_3).f2) ((rd_T44 l0 x37_3).f3) ((rd_T44 l0 x37_3).f4) ((rd_T44 l0 x37_3).f5)) else (some 2))) = some r := by rw [if_pos rfl] at H; exact H
                                    clear H
                                    have H := H1
                                    clear H1
                                    replace H := Option.bind_eq_some_iff.mp H
                                    obtain ⟨t168, A300, H⟩ := H
                                    replace H : (if t168 = true then (tasks_May.l2 k4 l0 l1 l0 (l0.length : Int) x37_3 ((rd_T44 l0 x37_3).f4) (((rd_T44 l0 x37_3).f4).length : Int) (wrap64 (x44_4 + 1)) ((rd_T44 l0 x37_3).f0.f0) ((rd_T44 l0 x37_3).f0.f1) ((rd_T44 l0 x37_3).f1) ((rd_T44 l0 x37_3).f2) ((rd_T44 l0 x37_3).f3) ((rd_T44 l0 x37_3).f4) ((rd_T44 l0 x37_3).f5)) else (some 2)) = some r := H
                                    have A30 := Aside0.mk A300
                                    clear A300
                                    by_cases c31 : t168 = true
                                    · subst c31
                                      have H1 : (tasks_May.l2 k4 l0 l1 l0 (l0.length : Int) x37_3 ((rd_T44 l0 x37_3).f4) (((rd_T44 l0 x37_3).f4).length : Int) (wrap64 (x44_4 + 1)) ((rd_T44 l0 x37_3).f0.f0) ((rd_T44 l0 x37_3).f0.f1) ((rd_T44 l0 x37_3).f1) ((rd_T44 l0 x37_3).f2) ((rd_T44 l0 x37_3).f3) ((rd_T44 l0 x37_3).f4) ((rd_T44 l0 x37_3).f5)) = some r := by rw [if_pos rfl] at H; exact H
                                      clear H
                                      have H := H1
                                      clear H1
                                      have H' := Aside0.mk H
                                      clear H
                                      have p162 : 0 ≤ (x44_4 : Int) := of_decide_eq_true (by first | (with_reducible assumption) | assumption)
                                      have q162 : x44_4 < (((rd_T44 l0 x37_3).f4).length : Int) := of_decide_eq_true (by first | (with_reducible assumption) | assumption)
                                      obtain ⟨ad162, A162_3, c162_3, A162_4, c162_4, e162, hx162_0, hx162_1, hx162_2, hx162_3, hx162_4, hx162_5, hl162_3, hi162_3, hl162_4, hi162_4⟩ := at_T69 HR160_5.out x44_4 p162 q162
                                      cases e162
                                      replace hx162_0 := (HB.out.cell (World.block_lt_of_cell? w _ hx162_0)).trans hx162_0
                                      replace hx162_1 := (HB.out.cell (World.block_lt_of_cell? w _ hx162_1)).trans hx162_1
                                      replace hx162_2 := (HB.out.cell (World.block_lt_of_cell? w _ hx162_2)).trans hx162_2
                                      replace hx162_3 := (HB.out.cell (World.block_lt_of_cell? w _ hx162_3)).trans hx162_3
                                      replace hx162_4 := (HB.out.cell (World.block_lt_of_cell? w _ hx162_4)).trans hx162_4
                                      replace hx162_5 := (HB.out.cell (World.block_lt_of_cell? w _ hx162_5)).trans hx162_5
                                      have HR162_3 := Aside0.mk hi162_3
                                      have HC162_3 := Aside0.mk hl162_3
                                      clear hi162_3 hl162_3
                                      have HR162_4 := Aside0.mk hi162_4
                                      have HC162_4 := Aside0.mk hl162_4
                                      clear hi162_4 hl162_4
                                      replace p162 := eq_true p162
                                      replace q162 := eq_true q162
                                      go_wp2_with (first | ((with_reducible refine gate_dst (N := 10) rfl ?_); (try (refine gate_guard (by rfl) ?_; dsimp only)); refine box_event ?hg (N := 10) ?hd (cs := #[.int .u8 0, .int .i64 0, .int .i64 0, .slice none 0 0, .slice none 0 0, .int .i64 0]) (t := 69) ?hr ?_; (case hd => rfl); (case hg => rfl); (case hr => first | (go_simp; done) | (go_simp; rfl)); intro gb163 hg w32 hbox hb; have n0_ := Aside0.mk (blk_below (g := gb161) (o := .cells #[.int .i64 ((rd_T44 l0 x37_3).f0.f0), .int .i64 ((rd_T44 l0 x37_3).f0.f1), .int .i64 ((rd_T44 l0 x37_3).f1), .int .i64 ((rd_T44 l0 x37_3).f2), .int .i64 ((rd_T44 l0 x37_3).f3), .slice (some ad162) ((rd_T44 l0 x37_3).f4).length c160_5, .int .i64 ((rd_T44 l0 x37_3).f5)] 44 (0, 0)) (by (with_reducible repeat (first | refine blk_drewN ?_ _ | refine blk_drew ?_ | refine blk_alloc ?_ _)); exact BK161.out) hb); have n1_ := Aside0.mk (below_step (by repeat (first | (with_reducible first | exact HB.out | apply below_alloc | apply pw_below_drewN | apply below_drew1 | refine below_set ?_ GE161.out) | exact HB.out)) hb); have n2_ := Aside0.mk (hbox); have n3_ := Aside0.mk ((by rw [hg]; exact (below_size (by repeat (first | (with_reducible first | exact HB.out | apply below_alloc | apply pw_below_drewN | apply below_drew1 | refine below_set ?_ GE161.out) | exact HB.out))) : w.heap.size ≤ gb163)); have n4_ := Aside0.mk ((by rw [hg]; exact (below_size (by repeat (first | (with_reducible first | exact HB.out | apply below_alloc | apply pw_below_drewN | apply below_drew1 | refine below_set ?_ GE161.out) | exact HB.out))) : w.heap.size ≤ gb163)); have n5_ := Aside0.mk ((by rw [hg]; exact Nat.ne_of_lt (blk_lt (g := gb161) (o := .cells #[.int .i64 ((rd_T44 l0 x37_3).f0.f0), .int .i64 ((rd_T44 l0 x37_3).f0.f1), .int .i64 ((rd_T44 l0 x37_3).f1), .int .i64 ((rd_T44 l0 x37_3).f2), .int .i64 ((rd_T44 l0 x37_3).f3), .slice (some ad162) ((rd_T44 l0 x37_3).f4).length c160_5, .int .i64 ((rd_T44 l0 x37_3).f5)] 44 (0, 0)) (by (with_reducible repeat (first | refine blk_drewN ?_ _ | refine blk_drew ?_ | refine blk_alloc ?_ _)); exact BK161.out)) : gb161 ≠ gb163)); have n6_ := Aside0.mk ((by rw [hg]; exact Nat.ne_of_gt (blk_lt (g := gb161) (o := .cells #[.int .i64 ((rd_T44 l0 x37_3).f0.f0), .int .i64 ((rd_T44 l0 x37_3).f0.f1), .int .i64 ((rd_T44 l0 x37_3).f1), .int .i64 ((rd_T44 l0 x37_3).f2), .int .i64 ((rd_T44 l0 x37_3).f3), .slice (some ad162) ((rd_T44 l0 x37_3).f4).length c160_5, .int .i64 ((rd_T44 l0 x37_3).f5)] 44 (0, 0)) (by (with_reducible repeat (first | refine blk_drewN ?_ _ | refine blk_drew ?_ | refine blk_alloc ?_ _)); exact BK161.out)) : gb163 ≠ gb161)); clear BK161; clear HB; have BK161 := n0_; have HB := n1_; have BK163 := n2_; have GW163 := n3_; have GE163 := n4_; have NB161_163 := n5_; have NB163_161 := n6_; clear n0_ n1_ n2_ n3_ n4_ n5_ n6_; clear hb hbox hg; have hnb33 := NB163_161.out; have hnc33 := NB161_163.out; have hcz34_0 : w32.cell? ⟨gb163, 0, none⟩ = some (.int .u8 0) := (blk_cell BK163.out 0).trans rfl; have hcz34_1 : w32.cell? ⟨gb163, 1, none⟩ = some (.int .i64 0) := (blk_cell BK163.out 1).trans rfl; have hcz34_2 : w32.cell? ⟨gb163, 2, none⟩ = some (.int .i64 0) := (blk_cell BK163.out 2).trans rfl; have hcz34_3 : w32.cell? ⟨gb163, 3, none⟩ = some (.slice none 0 0) := (blk_cell BK163.out 3).trans rfl; have hcz34_4 : w32.cell? ⟨gb163, 4, none⟩ = some (.slice none 0 0) := (blk_cell BK163.out 4).trans rfl; have hcz34_5 : w32.cell? ⟨gb163, 5, none⟩ = some (.int .i64 0) := (blk_cell BK163.out 5).trans rfl; have hfz34_0 := blk_frozen BK163.out 0; have hfz34_1 := blk_frozen BK163.out 1; have hfz34_2 := blk_frozen BK163.out 2; have hfz34_3 := blk_frozen BK163.out 3; have hfz34_4 := blk_frozen BK163.out 4; have hfz34_5 := blk_frozen BK163.out 5) | ((with_reducible refine gate_callee (f := 45) rfl ?_); refine goesL_ (some 52) rfl rfl Try.func45 (by kernel_rfl) rfl #[.agg #[.int .u8 ((rd_T69 ((rd_T44 l0 x37_3).f4) x44_4).f0), .int .i64 ((rd_T69 ((rd_T44 l0 x37_3).f4) x44_4).f1), .int .i64 ((rd_T69 ((rd_T44 l0 x37_3).f4) x44_4).f2), .slice A162_3 ((rd_T69 ((rd_T44 l0 x37_3).f4) x44_4).f3.f0).length c162_3, .slice A162_4 ((rd_T69 ((rd_T44 l0 x37_3).f4) x44_4).f3.f1).length c162_4, .int .i64 ((rd_T69 ((rd_T44 l0 x37_3).f4) x44_4).f3.f2)], .slice (some ad160) l0.length c0, .slice A1 l1.length c1] rfl (by (try simp only [List.map_toArray, List.map_cons, List.map_nil]); first | done | rfl | (simp only [List.length_drop, List.length_take]; rfl)) ?_; (with_reducible refine (tasks_clock.calls k4 ((rd_T69 ((rd_T44 l0 x37_3).f4) x44_4).f0) ((rd_T69 ((rd_T44 l0 x37_3).f4) x44_4).f1) ((rd_T69 ((rd_T44 l0 x37_3).f4) x44_4).f2) _ _ ((rd_T69 ((rd_T44 l0 x37_3).f4) x44_4).f3.f0) _ _ ((rd_T69 ((rd_T44 l0 x37_3).f4) x44_4).f3.f1) ((rd_T69 ((rd_T44 l0 x37_3).f4) x44_4).f3.f2) _ _ l0 _ _ l1 t164 t165 true _ ?side1 ?side2 ?side3 ?side4 ?side5 ?side6 ?side7 ?side8 A28.out).mono ?_); (case side1 => exact Kd.C_below HR162_3.out (by repeat (first | (with_reducible first | exact HB.out | apply below_alloc | apply pw_below_drewN | apply below_drew1 | refine below_set ?_ GE161.out | refine below_set ?_ GE163.out) | exact HB.out))); (case side2 => exact HC162_3.out); (case side3 => exact Kd.C_below HR162_4.out (by repeat (first | (with_reducible first | exact HB.out | apply below_alloc | apply pw_below_drewN | apply below_drew1 | refine below_set ?_ GE161.out | refine below_set ?_ GE163.out) | exact HB.out))); (case side4 => exact HC162_4.out); (case side5 => exact Kd.C_below HR0.out (by repeat (first | (with_reducible first | exact HB.out | apply below_alloc | apply pw_below_drewN | apply below_drew1 | refine below_set ?_ GE161.out | refine below_set ?_ GE163.out) | exact HB.out))); (case side6 => exact HC0.out); (case side7 => exact Kd.C_below HR1.out (by repeat (first | (with_reducible first | exact HB.out | apply below_alloc | apply pw_below_drewN | apply below_drew1 | refine below_set ?_ GE161.out | refine below_set ?_ GE163.out) | exact HB.out))); (case side8 => exact HC1.out); rintro e w35 ⟨rfl, hb⟩; refine ⟨_, rfl, ?_⟩; have n0_ := Aside0.mk (blk_below (g := gb161) (o := .cells #[.int .i64 ((rd_T44 l0 x37_3).f0.f0), .int .i64 ((rd_T44 l0 x37_3).f0.f1), .int .i64 ((rd_T44 l0 x37_3).f1), .int .i64 ((rd_T44 l0 x37_3).f2), .int .i64 ((rd_T44 l0 x37_3).f3), .slice (some ad162) ((rd_T44 l0 x37_3).f4).length c160_5, .int .i64 ((rd_T44 l0 x37_3).f5)] 44 (0, 0)) (by (with_reducible repeat (first | refine blk_drewN ?_ _ | refine blk_drew ?_ | refine blk_alloc ?_ _)); refine blk_far ?_ NB161_163.out _; (with_reducible repeat (first | refine blk_drewN ?_ _ | refine blk_drew ?_ | refine blk_alloc ?_ _)); refine blk_far ?_ NB161_163.out _; (with_reducible repeat (first | refine blk_drewN ?_ _ | refine blk_drew ?_ | refine blk_alloc ?_ _)); refine blk_far ?_ NB161_163.out _; (with_reducible repeat (first | refine blk_drewN ?_ _ | refine blk_drew ?_ | refine blk_alloc ?_ _)); refine blk_far ?_ NB161_163.out _; (with_reducible repeat (first | refine blk_drewN ?_ _ | refine blk_drew ?_ | refine blk_alloc ?_ _)); refine blk_far ?_ NB161_163.out _; (with_reducible repeat (first | refine blk_drewN ?_ _ | refine blk_drew ?_ | refine blk_alloc ?_ _)); refine blk_far ?_ NB161_163.out _; (with_reducible repeat (first | refine blk_drewN ?_ _ | refine blk_drew ?_ | refine blk_alloc ?_ _)); exact BK161.out) hb); have n1_ := Aside0.mk (blk_below (g := gb163) (o := .cells #[.int .u8 ((rd_T69 ((rd_T44 l0 x37_3).f4) x44_4).f0), .int .i64 ((rd_T69 ((rd_T44 l0 x37_3).f4) x44_4).f1), .int .i64 ((rd_T69 ((rd_T44 l0 x37_3).f4) x44_4).f2), .slice A162_3 ((rd_T69 ((rd_T44 l0 x37_3).f4) x44_4).f3.f0).length c162_3, .slice A162_4 ((rd_T69 ((rd_T44 l0 x37_3).f4) x44_4).f3.f1).length c162_4, .int .i64 ((rd_T69 ((rd_T44 l0 x37_3).f4) x44_4).f3.f2)] 69 (0, 0)) (by (with_reducible repeat (first | refine blk_drewN ?_ _ | refine blk_drew ?_ | refine blk_alloc ?_ _)); refine blk_put (cs := #[.int .u8 ((rd_T69 ((rd_T44 l0 x37_3).f4) x44_4).f0), .int .i64 ((rd_T69 ((rd_T44 l0 x37_3).f4) x44_4).f1), .int .i64 ((rd_T69 ((rd_T44 l0 x37_3).f4) x44_4).f2), .slice A162_3 ((rd_T69 ((rd_T44 l0 x37_3).f4) x44_4).f3.f0).length c162_3, .slice A162_4 ((rd_T69 ((rd_T44 l0 x37_3).f4) x44_4).f3.f1).length c162_4, .int .i64 0]) ?_ 5 _ (by first | rfl | (simp [*]; done)); (with_reducible repeat (first | refine blk_drewN ?_ _ | refine blk_drew ?_ | refine blk_alloc ?_ _)); refine blk_put (cs := #[.int .u8 ((rd_T69 ((rd_T44 l0 x37_3).f4) x44_4).f0), .int .i64 ((rd_T69 ((rd_T44 l0 x37_3).f4) x44_4).f1), .int .i64 ((rd_T69 ((rd_T44 l0 x37_3).f4) x44_4).f2), .slice A162_3 ((rd_T69 ((rd_T44 l0 x37_3).f4) x44_4).f3.f0).length c162_3, .slice none 0 0, .int .i64 0]) ?_ 4 _ (by first | rfl | (simp [*]; done)); (with_reducible repeat (first | refine blk_drewN ?_ _ | refine blk_drew ?_ | refine blk_alloc ?_ _)); refine blk_put (cs := #[.int .u8 ((rd_T69 ((rd_T44 l0 x37_3).f4) x44_4).f0), .int .i64 ((rd_T69 ((rd_T44 l0 x37_3).f4) x44_4).f1), .int .i64 ((rd_T69 ((rd_T44 l0 x37_3).f4) x44_4).f2), .slice none 0 0, .slice none 0 0, .int .i64 0]) ?_ 3 _ (by first | rfl | (simp [*]; done)); (with_reducible repeat (first | refine blk_drewN ?_ _ | refine blk_drew ?_ | refine blk_alloc ?_ _)); refine blk_put (cs := #[.int .u8 ((rd_T69 ((rd_T44 l0 x37_3).f4) x44_4).f0), .int .i64 ((rd_T69 ((rd_T44 l0 x37_3).f4) x44_4).f1), .int .i64 0, .slice none 0 0, .slice none 0 0, .int .i64 0]) ?_ 2 _ (by first | rfl | (simp [*]; done)); (with_reducible repeat (first | refine blk_drewN ?_ _ | refine blk_drew ?_ | refine blk_alloc ?_ _)); refine blk_put (cs := #[.int .u8 ((rd_T69 ((rd_T44 l0 x37_3).f4) x44_4).f0), .int .i64 0, .int .i64 0, .slice none 0 0, .slice none 0 0, .int .i64 0]) ?_ 1 _ (by first | rfl | (simp [*]; done)); (with_reducible repeat (first | refine blk_drewN ?_ _ | refine blk_drew ?_ | refine blk_alloc ?_ _)); refine blk_put (cs := #[.int .u8 0, .int .i64 0, .int .i64 0, .slice none 0 0, .slice none 0 0, .int .i64 0]) ?_ 0 _ (by first | rfl | (simp [*]; done)); (with_reducible repeat (first | refine blk_drewN ?_ _ | refine blk_drew ?_ | refine blk_alloc ?_ _)); exact BK163.out) hb); have n2_ := Aside0.mk (below_step (by repeat (first | (with_reducible first | exact HB.out | apply below_alloc | apply pw_below_drewN | apply below_drew1 | refine below_set ?_ GE161.out | refine below_set ?_ GE163.out) | exact HB.out)) hb); clear BK161; clear BK163; clear HB; have BK161 := n0_; have BK163 := n1_; have HB := n2_; clear n0_ n1_ n2_; (try clear hb); (try clear hb2); (try clear hk); (try clear hi)) | ((with_reducible refine gate_dst (N := 11) rfl ?_); (try (refine gate_guard (by rfl) ?_; dsimp only)); refine box_event ?hg (N := 11) ?hd (cs := #[.int .i64 0, .int .i64 0]) (t := 25) ?hr ?_; (case hd => rfl); (case hg => rfl); (case hr => first | (go_simp; done) | (go_simp; rfl)); intro gb167 hg w36 hbox hb; have n0_ := Aside0.mk (blk_below (g := gb161) (o := .cells #[.int .i64 ((rd_T44 l0 x37_3).f0.f0), .int .i64 ((rd_T44 l0 x37_3).f0.f1), .int .i64 ((rd_T44 l0 x37_3).f1), .int .i64 ((rd_T44 l0 x37_3).f2), .int .i64 ((rd_T44 l0 x37_3).f3), .slice (some ad162) ((rd_T44 l0 x37_3).f4).length c160_5, .int .i64 ((rd_T44 l0 x37_3).f5)] 44 (0, 0)) (by (with_reducible repeat (first | refine blk_drewN ?_ _ | refine blk_drew ?_ | refine blk_alloc ?_ _)); exact BK161.out) hb); have n1_ := Aside0.mk (blk_below (g := gb163) (o := .cells #[.int .u8 ((rd_T69 ((rd_T44 l0 x37_3).f4) x44_4).f0), .int .i64 ((rd_T69 ((rd_T44 l0 x37_3).f4) x44_4).f1), .int .i64 ((rd_T69 ((rd_T44 l0 x37_3).f4) x44_4).f2), .slice A162_3 ((rd_T69 ((rd_T44 l0 x37_3).f4) x44_4).f3.f0).length c162_3, .slice A162_4 ((rd_T69 ((rd_T44 l0 x37_3).f4) x44_4).f3.f1).length c162_4, .int .i64 ((rd_T69 ((rd_T44 l0 x37_3).f4) x44_4).f3.f2)] 69 (0, 0)) (by (with_reducible repeat (first | refine blk_drewN ?_ _ | refine blk_drew ?_ | refine blk_alloc ?_ _)); exact BK163.out) hb); have n2_ := Aside0.mk (below_step (by repeat (first | (with_reducible first | exact HB.out | apply below_alloc | apply pw_below_drewN | apply below_drew1 | refine below_set ?_ GE161.out | refine below_set ?_ GE163.out) | exact HB.out)) hb); have n3_ := Aside0.mk (hbox); have n4_ := Aside0.mk ((by rw [hg]; exact (below_size (by repeat (first | (with_reducible first | exact HB.out | apply below_alloc | apply pw_below_drewN | apply below_drew1 | refine below_set ?_ GE161.out | refine below_set ?_ GE163.out) | exact HB.out))) : w.heap.size ≤ gb167)); have n5_ := Aside0.mk ((by rw [hg]; exact (below_size (by repeat (first | (with_reducible first | exact HB.out | apply below_alloc | apply pw_below_drewN | apply below_drew1 | refine below_set ?_ GE161.out | refine below_set ?_ GE163.out) | exact HB.out))) : w.heap.size ≤ gb167)); have n6_ := Aside0.mk ((by rw [hg]; exact Nat.ne_of_lt (blk_lt (g := gb161) (o := .cells #[.int .i64 ((rd_T44 l0 x37_3).f0.f0), .int .i64 ((rd_T44 l0 x37_3).f0.f1), .int .i64 ((rd_T44 l0 x37_3).f1), .int .i64 ((rd_T44 l0 x37_3).f2), .int .i64 ((rd_T44 l0 x37_3).f3), .slice (some ad162) ((rd_T44 l0 x37_3).f4).length c160_5, .int .i64 ((rd_T44 l0 x37_3).f5)] 44 (0, 0)) (by (with_reducible repeat (first | refine blk_drewN ?_ _ | refine blk_drew ?_ | refine blk_alloc ?_ _)); exact BK161.out)) : gb161 ≠ gb167)); have n7_ := Aside0.mk ((by rw [hg]; exact Nat.ne_of_gt (blk_lt (g := gb161) (o := .cells #[.int .i64 ((rd_T44 l0 x37_3).f0.f0), .int .i64 ((rd_T44 l0 x37_3).f0.f1), .int .i64 ((rd_T44 l0 x37_3).f1), .int .i64 ((rd_T44 l0 x37_3).f2), .int .i64 ((rd_T44 l0 x37_3).f3), .slice (some ad162) ((rd_T44 l0 x37_3).f4).length c160_5, .int .i64 ((rd_T44 l0 x37_3).f5)] 44 (0, 0)) (by (with_reducible repeat (first | refine blk_drewN ?_ _ | refine blk_drew ?_ | refine blk_alloc ?_ _)); exact BK161.out)) : gb167 ≠ gb161)); have n8_ := Aside0.mk ((by rw [hg]; exact Nat.ne_of_lt (blk_lt (g := gb163) (o := .cells #[.int .u8 ((rd_T69 ((rd_T44 l0 x37_3).f4) x44_4).f0), .int .i64 ((rd_T69 ((rd_T44 l0 x37_3).f4) x44_4).f1), .int .i64 ((rd_T69 ((rd_T44 l0 x37_3).f4) x44_4).f2), .slice A162_3 ((rd_T69 ((rd_T44 l0 x37_3).f4) x44_4).f3.f0).length c162_3, .slice A162_4 ((rd_T69 ((rd_T44 l0 x37_3).f4) x44_4).f3.f1).length c162_4, .int .i64 ((rd_T69 ((rd_T44 l0 x37_3).f4) x44_4).f3.f2)] 69 (0, 0)) (by (with_reducible repeat (first | refine blk_drewN ?_ _ | refine blk_drew ?_ | refine blk_alloc ?_ _)); exact BK163.out)) : gb163 ≠ gb167)); have n9_ := Aside0.mk ((by rw [hg]; exact Nat.ne_of_gt (blk_lt (g := gb163) (o := .cells #[.int .u8 ((rd_T69 ((rd_T44 l0 x37_3).f4) x44_4).f0), .int .i64 ((rd_T69 ((rd_T44 l0 x37_3).f4) x44_4).f1), .int .i64 ((rd_T69 ((rd_T44 l0 x37_3).f4) x44_4).f2), .slice A162_3 ((rd_T69 ((rd_T44 l0 x37_3).f4) x44_4).f3.f0).length c162_3, .slice A162_4 ((rd_T69 ((rd_T44 l0 x37_3).f4) x44_4).f3.f1).length c162_4, .int .i64 ((rd_T69 ((rd_T44 l0 x37_3).f4) x44_4).f3.f2)] 69 (0, 0)) (by (with_reducible repeat (first | refine blk_drewN ?_ _ | refine blk_drew ?_ | refine blk_alloc ?_ _)); exact BK163.out)) : gb167 ≠ gb163)); clear BK161; clear BK163; clear HB; have BK161 := n0_; have BK163 := n1_; have HB := n2_; have BK167 := n3_; have GW167 := n4_; have GE167 := n5_; have NB161_167 := n6_; have NB167_161 := n7_; have NB163_167 := n8_; have NB167_163 := n9_; clear n0_ n1_ n2_ n3_ n4_ n5_ n6_ n7_ n8_ n9_; clear hb hbox hg; have hnb37 := NB167_161.out; have hnc37 := NB161_167.out; have hnb38 := NB167_163.out; have hnc38 := NB163_167.out; have hcz39_0 : w36.cell? ⟨gb167, 0, none⟩ = some (.int .i64 0) := (blk_cell BK167.out 0).trans rfl; have hcz39_1 : w36.cell? ⟨gb167, 1, none⟩ = some (.int .i64 0) := (blk_cell BK167.out 1).trans rfl; have hfz39_0 := blk_frozen BK167.out 0; have hfz39_1 := blk_frozen BK167.out 1; have hcz40_0 : w36.cell? ⟨gb163, 0, none⟩ = some (.int .u8 ((rd_T69 ((rd_T44 l0 x37_3).f4) x44_4).f0)) := (blk_cell BK163.out 0).trans rfl; have hcz40_1 : w36.cell? ⟨gb163, 1, none⟩ = some (.int .i64 ((rd_T69 ((rd_T44 l0 x37_3).f4) x44_4).f1)) := (blk_cell BK163.out 1).trans rfl; have hcz40_2 : w36.cell? ⟨gb163, 2, none⟩ = some (.int .i64 ((rd_T69 ((rd_T44 l0 x37_3).f4) x44_4).f2)) := (blk_cell BK163.out 2).trans rfl; have hcz40_3 : w36.cell? ⟨gb163, 3, none⟩ = some (.slice A162_3 ((rd_T69 ((rd_T44 l0 x37_3).f4) x44_4).f3.f0).length c162_3) := (blk_cell BK163.out 3).trans rfl; have hcz40_4 : w36.cell? ⟨gb163, 4, none⟩ = some (.slice A162_4 ((rd_T69 ((rd_T44 l0 x37_3).f4) x44_4).f3.f1).length c162_4) := (blk_cell BK163.out 4).trans rfl; have hcz40_5 : w36.cell? ⟨gb163, 5, none⟩ = some (.int .i64 ((rd_T69 ((rd_T44 l0 x37_3).f4) x44_4).f3.f2)) := (blk_cell BK163.out 5).trans rfl; have hfz40_0 := blk_frozen BK163.out 0; have hfz40_1 := blk_frozen BK163.out 1; have hfz40_2 := blk_frozen BK163.out 2; have hfz40_3 := blk_frozen BK163.out 3; have hfz40_4 := blk_frozen BK163.out 4; have hfz40_5 := blk_frozen BK163.out 5; have hcz41_0 : w36.cell? ⟨gb161, 0, none⟩ = some (.int .i64 ((rd_T44 l0 x37_3).f0.f0)) := (blk_cell BK161.out 0).trans rfl; have hcz41_1 : w36.cell? ⟨gb161, 1, none⟩ = some (.int .i64 ((rd_T44 l0 x37_3).f0.f1)) := (blk_cell BK161.out 1).trans rfl; have hcz41_2 : w36.cell? ⟨gb161, 2, none⟩ = some (.int .i64 ((rd_T44 l0 x37_3).f1)) := (blk_cell BK161.out 2).trans rfl; have hcz41_3 : w36.cell? ⟨gb161, 3, none⟩ = some (.int .i64 ((rd_T44 l0 x37_3).f2)) := (blk_cell BK161.out 3).trans rfl; have hcz41_4 : w36.cell? ⟨gb161, 4, none⟩ = some (.int .i64 ((rd_T44 l0 x37_3).f3)) := (blk_cell BK161.out 4).trans rfl; have hcz41_5 : w36.cell? ⟨gb161, 5, none⟩ = some (.slice (some ad162) ((rd_T44 l0 x37_3).f4).length c160_5) := (blk_cell BK161.out 5).trans rfl; have hcz41_6 : w36.cell? ⟨gb161, 6, none⟩ = some (.int .i64 ((rd_T44 l0 x37_3).f5)) := (blk_cell BK161.out 6).trans rfl; have hfz41_0 := blk_frozen BK161.out 0; have hfz41_1 := blk_frozen BK161.out 1; have hfz41_2 := blk_frozen BK161.out 2; have hfz41_3 := blk_frozen BK161.out 3; have hfz41_4 := blk_frozen BK161.out 4; have hfz41_5 := blk_frozen BK161.out 5; have hfz41_6 := blk_frozen BK161.out 6) | (go_at_call 46; (with_reducible refine (tasks_mayRead.calls k4 _ _ ((rd_T69 ((rd_T44 l0 x37_3).f4) x44_4).f3.f0) _ _ ((rd_T69 ((rd_T44 l0 x37_3).f4) x44_4).f3.f1) ((rd_T69 ((rd_T44 l0 x37_3).f4) x44_4).f3.f2) ((rd_T44 l0 x37_3).f0.f0) ((rd_T44 l0 x37_3).f0.f1) t164 t165 true _ ?side1 ?side2 ?side3 ?side4 A30.out).mono ?_); (case side1 => exact Kd.C_below HR162_3.out (by repeat (first | (with_reducible first | exact HB.out | apply below_alloc | apply pw_below_drewN | apply below_drew1 | refine below_set ?_ GE161.out | refine below_set ?_ GE163.out | refine below_set ?_ GE167.out) | exact HB.out))); (case side2 => exact HC162_3.out); (case side3 => exact Kd.C_below HR162_4.out (by repeat (first | (with_reducible first | exact HB.out | apply below_alloc | apply pw_below_drewN | apply below_drew1 | refine below_set ?_ GE161.out | refine below_set ?_ GE163.out | refine below_set ?_ GE167.out) | exact HB.out))); (case side4 => exact HC162_4.out); rintro e w42 ⟨rfl, hb⟩; have n0_ := Aside0.mk (blk_below (g := gb161) (o := .cells #[.int .i64 ((rd_T44 l0 x37_3).f0.f0), .int .i64 ((rd_T44 l0 x37_3).f0.f1), .int .i64 ((rd_T44 l0 x37_3).f1), .int .i64 ((rd_T44 l0 x37_3).f2), .int .i64 ((rd_T44 l0 x37_3).f3), .slice (some ad162) ((rd_T44 l0 x37_3).f4).length c160_5, .int .i64 ((rd_T44 l0 x37_3).f5)] 44 (0, 0)) (by (with_reducible repeat (first | refine blk_drewN ?_ _ | refine blk_drew ?_ | refine blk_alloc ?_ _)); refine blk_far ?_ NB161_167.out _; (with_reducible repeat (first | refine blk_drewN ?_ _ | refine blk_drew ?_ | refine blk_alloc ?_ _)); refine blk_far ?_ NB161_167.out _; (with_reducible repeat (first | refine blk_drewN ?_ _ | refine blk_drew ?_ | refine blk_alloc ?_ _)); exact BK161.out) hb); have n1_ := Aside0.mk (blk_below (g := gb163) (o := .cells #[.int .u8 ((rd_T69 ((rd_T44 l0 x37_3).f4) x44_4).f0), .int .i64 ((rd_T69 ((rd_T44 l0 x37_3).f4) x44_4).f1), .int .i64 ((rd_T69 ((rd_T44 l0 x37_3).f4) x44_4).f2), .slice A162_3 ((rd_T69 ((rd_T44 l0 x37_3).f4) x44_4).f3.f0).length c162_3, .slice A162_4 ((rd_T69 ((rd_T44 l0 x37_3).f4) x44_4).f3.f1).length c162_4, .int .i64 ((rd_T69 ((rd_T44 l0 x37_3).f4) x44_4).f3.f2)] 69 (0, 0)) (by (with_reducible repeat (first | refine blk_drewN ?_ _ | refine blk_drew ?_ | refine blk_alloc ?_ _)); refine blk_far ?_ NB163_167.out _; (with_reducible repeat (first | refine blk_drewN ?_ _ | refine blk_drew ?_ | refine blk_alloc ?_ _)); refine blk_far ?_ NB163_167.out _; (with_reducible repeat (first | refine blk_drewN ?_ _ | refine blk_drew ?_ | refine blk_alloc ?_ _)); exact BK163.out) hb); have n2_ := Aside0.mk (blk_below (g := gb167) (o := .cells #[.int .i64 t164, .int .i64 t165] 25 (0, 0)) (by (with_reducible repeat (first | refine blk_drewN ?_ _ | refine blk_drew ?_ | refine blk_alloc ?_ _)); refine blk_put (cs := #[.int .i64 t164, .int .i64 0]) ?_ 1 _ (by first | rfl | (simp [*]; done)); (with_reducible repeat (first | refine blk_drewN ?_ _ | refine blk_drew ?_ | refine blk_alloc ?_ _)); refine blk_put (cs := #[.int .i64 0, .int .i64 0]) ?_ 0 _ (by first | rfl | (simp [*]; done)); (with_reducible repeat (first | refine blk_drewN ?_ _ | refine blk_drew ?_ | refine blk_alloc ?_ _)); exact BK167.out) hb); have n3_ := Aside0.mk (below_step (by repeat (first | (with_reducible first | exact HB.out | apply below_alloc | apply pw_below_drewN | apply below_drew1 | refine below_set ?_ GE161.out | refine below_set ?_ GE163.out | refine below_set ?_ GE167.out) | exact HB.out)) hb); clear BK161; clear BK163; clear BK167; clear HB; have BK161 := n0_; have BK163 := n1_; have BK167 := n2_; have HB := n3_; clear n0_ n1_ n2_ n3_; (try clear hb); (try clear hb2); (try clear hk); (try clear hi)))
                                      go_roundg k4
                                      case measure => have := HJ2.out; have := HK2.out; have := HK3.out; have := HK4.out; omega
                                      case rel => exact ⟨(wrap64 (x44_4 + 1)), (by first | rfl | (simp; done) | (simp [*]; done)), H', ⟨by have := HJ2.out; have := HK2.out; have := HK3.out; have := HK4.out; omega⟩, ⟨by (with_reducible repeat (first | refine blk_drewN ?_ _ | refine blk_drew ?_ | refine blk_alloc ?_ _)); exact BK161.out⟩, ⟨by repeat (first | (with_reducible first | exact HB.out | apply below_alloc | apply pw_below_drewN | apply below_drew1 | refine below_set ?_ GE161.out | refine below_set ?_ GE163.out | refine below_set ?_ GE167.out) | exact HB.out)⟩⟩
                                    · replace c31 := Bool.eq_false_iff.mpr c31
                                      subst c31
                                      have H1 : (some 2) = some r := by rw [if_neg (show ¬ (false = true) by decide)] at H; exact H
                                      clear H
                                      have H := H1
                                      clear H1
                                      obtain rfl := Option.some.inj H
                                      have p162 : 0 ≤ (x44_4 : Int) := of_decide_eq_true (by first | (with_reducible assumption) | assumption)
                                      have q162 : x44_4 < (((rd_T44 l0 x37_3).f4).length : Int) := of_decide_eq_true (by first | (with_reducible assumption) | assumption)
                                      obtain ⟨ad162, A162_3, c162_3, A162_4, c162_4, e162, hx162_0, hx162_1, hx162_2, hx162_3, hx162_4, hx162_5, hl162_3, hi162_3, hl162_4, hi162_4⟩ := at_T69 HR160_5.out x44_4 p162 q162
                                      cases e162
                                      replace hx162_0 := (HB.out.cell (World.block_lt_of_cell? w _ hx162_0)).trans hx162_0
                                      replace hx162_1 := (HB.out.cell (World.block_lt_of_cell? w _ hx162_1)).trans hx162_1
                                      replace hx162_2 := (HB.out.cell (World.block_lt_of_cell? w _ hx162_2)).trans hx162_2
                                      replace hx162_3 := (HB.out.cell (World.block_lt_of_cell? w _ hx162_3)).trans hx162_3
                                      replace hx162_4 := (HB.out.cell (World.block_lt_of_cell? w _ hx162_4)).trans hx162_4
                                      replace hx162_5 := (HB.out.cell (World.block_lt_of_cell? w _ hx162_5)).trans hx162_5
                                      have HR162_3 := Aside0.mk hi162_3
                                      have HC162_3 := Aside0.mk hl162_3
                                      clear hi162_3 hl162_3
                                      have HR162_4 := Aside0.mk hi162_4
                                      have HC162_4 := Aside0.mk hl162_4
                                      clear hi162_4 hl162_4
                                      replace p162 := eq_true p162
                                      replace q162 := eq_true q162
                                      go_wp2_with (first | ((with_reducible refine gate_dst (N := 10) rfl ?_); (try (refine gate_guard (by rfl) ?_; dsimp only)); refine box_event ?hg (N := 10) ?hd (cs := #[.int .u8 0, .int .i64 0, .int .i64 0, .slice none 0 0, .slice none 0 0, .int .i64 0]) (t := 69) ?hr ?_; (case hd => rfl); (case hg => rfl); (case hr => first | (go_simp; done) | (go_simp; rfl)); intro gb163 hg w43 hbox hb; have n0_ := Aside0.mk (blk_below (g := gb161) (o := .cells #[.int .i64 ((rd_T44 l0 x37_3).f0.f0), .int .i64 ((rd_T44 l0 x37_3).f0.f1), .int .i64 ((rd_T44 l0 x37_3).f1), .int .i64 ((rd_T44 l0 x37_3).f2), .int .i64 ((rd_T44 l0 x37_3).f3), .slice (some ad162) ((rd_T44 l0 x37_3).f4).length c160_5, .int .i64 ((rd_T44 l0 x37_3).f5)] 44 (0, 0)) (by (with_reducible repeat (first | refine blk_drewN ?_ _ | refine blk_drew ?_ | refine blk_alloc ?_ _)); exact BK161.out) hb); have n1_ := Aside0.mk (below_step (by repeat (first | (with_reducible first | exact HB.out | apply below_alloc | apply pw_below_drewN | apply below_drew1 | refine below_set ?_ GE161.out) | exact HB.out)) hb); have n2_ := Aside0.mk (hbox); have n3_ := Aside0.mk ((by rw [hg]; exact (below_size (by repeat (first | (with_reducible first | exact HB.out | apply below_alloc | apply pw_below_drewN | apply below_drew1 | refine below_set ?_ GE161.out) | exact HB.out))) : w.heap.size ≤ gb163)); have n4_ := Aside0.mk ((by rw [hg]; exact (below_size (by repeat (first | (with_reducible first | exact HB.out | apply below_alloc | apply pw_below_drewN | apply below_drew1 | refine below_set ?_ GE161.out) | exact HB.out))) : w.heap.size ≤ gb163)); have n5_ := Aside0.mk ((by rw [hg]; exact Nat.ne_of_lt (blk_lt (g := gb161) (o := .cells #[.int .i64 ((rd_T44 l0 x37_3).f0.f0), .int .i64 ((rd_T44 l0 x37_3).f0.f1), .int .i64 ((rd_T44 l0 x37_3).f1), .int .i64 ((rd_T44 l0 x37_3).f2), .int .i64 ((rd_T44 l0 x37_3).f3), .slice (some ad162) ((rd_T44 l0 x37_3).f4).length c160_5, .int .i64 ((rd_T44 l0 x37_3).f5)] 44 (0, 0)) (by (with_reducible repeat (first | refine blk_drewN ?_ _ | refine blk_drew ?_ | refine blk_alloc ?_ _)); exact BK161.out)) : gb161 ≠ gb163)); have n6_ := Aside0.mk ((by rw [hg]; exact Nat.ne_of_gt (blk_lt (g := gb161) (o := .cells #[.int .i64 ((rd_T44 l0 x37_3).f0.f0), .int .i64 ((rd_T44 l0 x37_3).f0.f1), .int .i64 ((rd_T44 l0 x37_3).f1), .int .i64 ((rd_T44 l0 x37_3).f2), .int .i64 ((rd_T44 l0 x37_3).f3), .slice (some ad162) ((rd_T44 l0 x37_3).f4).length c160_5, .int .i64 ((rd_T44 l0 x37_3).f5)] 44 (0, 0)) (by (with_reducible repeat (first | refine blk_drewN ?_ _ | refine blk_drew ?_ | refine blk_alloc ?_ _)); exact BK161.out)) : gb163 ≠ gb161)); clear BK161; clear HB; have BK161 := n0_; have HB := n1_; have BK163 := n2_; have GW163 := n3_; have GE163 := n4_; have NB161_163 := n5_; have NB163_161 := n6_; clear n0_ n1_ n2_ n3_ n4_ n5_ n6_; clear hb hbox hg; have hnb44 := NB163_161.out; have hnc44 := NB161_163.out; have hcz45_0 : w43.cell? ⟨gb163, 0, none⟩ = some (.int .u8 0) := (blk_cell BK163.out 0).trans rfl; have hcz45_1 : w43.cell? ⟨gb163, 1, none⟩ = some (.int .i64 0) := (blk_cell BK163.out 1).trans rfl; have hcz45_2 : w43.cell? ⟨gb163, 2, none⟩ = some (.int .i64 0) := (blk_cell BK163.out 2).trans rfl; have hcz45_3 : w43.cell? ⟨gb163, 3, none⟩ = some (.slice none 0 0) := (blk_cell BK163.out 3).trans rfl; have hcz45_4 : w43.cell? ⟨gb163, 4, none⟩ = some (.slice none 0 0) := (blk_cell BK163.out 4).trans rfl; have hcz45_5 : w43.cell? ⟨gb163, 5, none⟩ = some (.int .i64 0) := (blk_cell BK163.out 5).trans rfl; have hfz45_0 := blk_frozen BK163.out 0; have hfz45_1 := blk_frozen BK163.out 1; have hfz45_2 := blk_frozen BK163.out 2; have hfz45_3 := blk_frozen BK163.out 3; have hfz45_4 := blk_frozen BK163.out 4; have hfz45_5 := blk_frozen BK163.out 5) | ((with_reducible refine gate_callee (f := 45) rfl ?_); refine goesL_ (some 52) rfl rfl Try.func45 (by kernel_rfl) rfl #[.agg #[.int .u8 ((rd_T69 ((rd_T44 l0 x37_3).f4) x44_4).f0), .int .i64 ((rd_T69 ((rd_T44 l0 x37_3).f4) x44_4).f1), .int .i64 ((rd_T69 ((rd_T44 l0 x37_3).f4) x44_4).f2), .slice A162_3 ((rd_T69 ((rd_T44 l0 x37_3).f4) x44_4).f3.f0).length c162_3, .slice A162_4 ((rd_T69 ((rd_T44 l0 x37_3).f4) x44_4).f3.f1).length c162_4, .int .i64 ((rd_T69 ((rd_T44 l0 x37_3).f4) x44_4).f3.f2)], .slice (some ad160) l0.length c0, .slice A1 l1.length c1] rfl (by (try simp only [List.map_toArray, List.map_cons, List.map_nil]); first | done | rfl | (simp only [List.length_drop, List.length_take]; rfl)) ?_; (with_reducible refine (tasks_clock.calls k4 ((rd_T69 ((rd_T44 l0 x37_3).f4) x44_4).f0) ((rd_T69 ((rd_T44 l0 x37_3).f4) x44_4).f1) ((rd_T69 ((rd_T44 l0 x37_3).f4) x44_4).f2) _ _ ((rd_T69 ((rd_T44 l0 x37_3).f4) x44_4).f3.f0) _ _ ((rd_T69 ((rd_T44 l0 x37_3).f4) x44_4).f3.f1) ((rd_T69 ((rd_T44 l0 x37_3).f4) x44_4).f3.f2) _ _ l0 _ _ l1 t164 t165 true _ ?side1 ?side2 ?side3 ?side4 ?side5 ?side6 ?side7 ?side8 A28.out).mono ?_); (case side1 => exact Kd.C_below HR162_3.out (by repeat (first | (with_reducible first | exact HB.out | apply below_alloc | apply pw_below_drewN | apply below_drew1 | refine below_set ?_ GE161.out | refine below_set ?_ GE163.out) | exact HB.out))); (case side2 => exact HC162_3.out); (case side3 => exact Kd.C_below HR162_4.out (by repeat (first | (with_reducible first | exact HB.out | apply below_alloc | apply pw_below_drewN | apply below_drew1 | refine below_set ?_ GE161.out | refine below_set ?_ GE163.out) | exact HB.out))); (case side4 => exact HC162_4.out); (case side5 => exact Kd.C_below HR0.out (by repeat (first | (with_reducible first | exact HB.out | apply below_alloc | apply pw_below_drewN | apply below_drew1 | refine below_set ?_ GE161.out | refine below_set ?_ GE163.out) | exact HB.out))); (case side6 => exact HC0.out); (case side7 => exact Kd.C_below HR1.out (by repeat (first | (with_reducible first | exact HB.out | apply below_alloc | apply pw_below_drewN | apply below_drew1 | refine below_set ?_ GE161.out | refine below_set ?_ GE163.out) | exact HB.out))); (case side8 => exact HC1.out); rintro e w46 ⟨rfl, hb⟩; refine ⟨_, rfl, ?_⟩; have n0_ := Aside0.mk (blk_below (g := gb161) (o := .cells #[.int .i64 ((rd_T44 l0 x37_3).f0.f0), .int .i64 ((rd_T44 l0 x37_3).f0.f1), .int .i64 ((rd_T44 l0 x37_3).f1), .int .i64 ((rd_T44 l0 x37_3).f2), .int .i64 ((rd_T44 l0 x37_3).f3), .slice (some ad162) ((rd_T44 l0 x37_3).f4).length c160_5, .int .i64 ((rd_T44 l0 x37_3).f5)] 44 (0, 0)) (by (with_reducible repeat (first | refine blk_drewN ?_ _ | refine blk_drew ?_ | refine blk_alloc ?_ _)); refine blk_far ?_ NB161_163.out _; (with_reducible repeat (first | refine blk_drewN ?_ _ | refine blk_drew ?_ | refine blk_alloc ?_ _)); refine blk_far ?_ NB161_163.out _; (with_reducible repeat (first | refine blk_drewN ?_ _ | refine blk_drew ?_ | refine blk_alloc ?_ _)); refine blk_far ?_ NB161_163.out _; (with_reducible repeat (first | refine blk_drewN ?_ _ | refine blk_drew ?_ | refine blk_alloc ?_ _)); refine blk_far ?_ NB161_163.out _; (with_reducible repeat (first | refine blk_drewN ?_ _ | refine blk_drew ?_ | refine blk_alloc ?_ _)); refine blk_far ?_ NB161_163.out _; (with_reducible repeat (first | refine blk_drewN ?_ _ | refine blk_drew ?_ | refine blk_alloc ?_ _)); refine blk_far ?_ NB161_163.out _; (with_reducible repeat (first | refine blk_drewN ?_ _ | refine blk_drew ?_ | refine blk_alloc ?_ _)); exact BK161.out) hb); have n1_ := Aside0.mk (blk_below (g := gb163) (o := .cells #[.int .u8 ((rd_T69 ((rd_T44 l0 x37_3).f4) x44_4).f0), .int .i64 ((rd_T69 ((rd_T44 l0 x37_3).f4) x44_4).f1), .int .i64 ((rd_T69 ((rd_T44 l0 x37_3).f4) x44_4).f2), .slice A162_3 ((rd_T69 ((rd_T44 l0 x37_3).f4) x44_4).f3.f0).length c162_3, .slice A162_4 ((rd_T69 ((rd_T44 l0 x37_3).f4) x44_4).f3.f1).length c162_4, .int .i64 ((rd_T69 ((rd_T44 l0 x37_3).f4) x44_4).f3.f2)] 69 (0, 0)) (by (with_reducible repeat (first | refine blk_drewN ?_ _ | refine blk_drew ?_ | refine blk_alloc ?_ _)); refine blk_put (cs := #[.int .u8 ((rd_T69 ((rd_T44 l0 x37_3).f4) x44_4).f0), .int .i64 ((rd_T69 ((rd_T44 l0 x37_3).f4) x44_4).f1), .int .i64 ((rd_T69 ((rd_T44 l0 x37_3).f4) x44_4).f2), .slice A162_3 ((rd_T69 ((rd_T44 l0 x37_3).f4) x44_4).f3.f0).length c162_3, .slice A162_4 ((rd_T69 ((rd_T44 l0 x37_3).f4) x44_4).f3.f1).length c162_4, .int .i64 0]) ?_ 5 _ (by first | rfl | (simp [*]; done)); (with_reducible repeat (first | refine blk_drewN ?_ _ | refine blk_drew ?_ | refine blk_alloc ?_ _)); refine blk_put (cs := #[.int .u8 ((rd_T69 ((rd_T44 l0 x37_3).f4) x44_4).f0), .int .i64 ((rd_T69 ((rd_T44 l0 x37_3).f4) x44_4).f1), .int .i64 ((rd_T69 ((rd_T44 l0 x37_3).f4) x44_4).f2), .slice A162_3 ((rd_T69 ((rd_T44 l0 x37_3).f4) x44_4).f3.f0).length c162_3, .slice none 0 0, .int .i64 0]) ?_ 4 _ (by first | rfl | (simp [*]; done)); (with_reducible repeat (first | refine blk_drewN ?_ _ | refine blk_drew ?_ | refine blk_alloc ?_ _)); refine blk_put (cs := #[.int .u8 ((rd_T69 ((rd_T44 l0 x37_3).f4) x44_4).f0), .int .i64 ((rd_T69 ((rd_T44 l0 x37_3).f4) x44_4).f1), .int .i64 ((rd_T69 ((rd_T44 l0 x37_3).f4) x44_4).f2), .slice none 0 0, .slice none 0 0, .int .i64 0]) ?_ 3 _ (by first | rfl | (simp [*]; done)); (with_reducible repeat (first | refine blk_drewN ?_ _ | refine blk_drew ?_ | refine blk_alloc ?_ _)); refine blk_put (cs := #[.int .u8 ((rd_T69 ((rd_T44 l0 x37_3).f4) x44_4).f0), .int .i64 ((rd_T69 ((rd_T44 l0 x37_3).f4) x44_4).f1), .int .i64 0, .slice none 0 0, .slice none 0 0, .int .i64 0]) ?_ 2 _ (by first | rfl | (simp [*]; done)); (with_reducible repeat (first | refine blk_drewN ?_ _ | refine blk_drew ?_ | refine blk_alloc ?_ _)); refine blk_put (cs := #[.int .u8 ((rd_T69 ((rd_T44 l0 x37_3).f4) x44_4).f0), .int .i64 0, .int .i64 0, .slice none 0 0, .slice none 0 0, .int .i64 0]) ?_ 1 _ (by first | rfl | (simp [*]; done)); (with_reducible repeat (first | refine blk_drewN ?_ _ | refine blk_drew ?_ | refine blk_alloc ?_ _)); refine blk_put (cs := #[.int .u8 0, .int .i64 0, .int .i64 0, .slice none 0 0, .slice none 0 0, .int .i64 0]) ?_ 0 _ (by first | rfl | (simp [*]; done)); (with_reducible repeat (first | refine blk_drewN ?_ _ | refine blk_drew ?_ | refine blk_alloc ?_ _)); exact BK163.out) hb); have n2_ := Aside0.mk (below_step (by repeat (first | (with_reducible first | exact HB.out | apply below_alloc | apply pw_below_drewN | apply below_drew1 | refine below_set ?_ GE161.out | refine below_set ?_ GE163.out) | exact HB.out)) hb); clear BK161; clear BK163; clear HB; have BK161 := n0_; have BK163 := n1_; have HB := n2_; clear n0_ n1_ n2_; (try clear hb); (try clear hb2); (try clear hk); (try clear hi)) | ((with_reducible refine gate_dst (N := 11) rfl ?_); (try (refine gate_guard (by rfl) ?_; dsimp only)); refine box_event ?hg (N := 11) ?hd (cs := #[.int .i64 0, .int .i64 0]) (t := 25) ?hr ?_; (case hd => rfl); (case hg => rfl); (case hr => first | (go_simp; done) | (go_simp; rfl)); intro gb167 hg w47 hbox hb; have n0_ := Aside0.mk (blk_below (g := gb161) (o := .cells #[.int .i64 ((rd_T44 l0 x37_3).f0.f0), .int .i64 ((rd_T44 l0 x37_3).f0.f1), .int .i64 ((rd_T44 l0 x37_3).f1), .int .i64 ((rd_T44 l0 x37_3).f2), .int .i64 ((rd_T44 l0 x37_3).f3), .slice (some ad162) ((rd_T44 l0 x37_3).f4).length c160_5, .int .i64 ((rd_T44 l0 x37_3).f5)] 44 (0, 0)) (by (with_reducible repeat (first | refine blk_drewN ?_ _ | refine blk_drew ?_ | refine blk_alloc ?_ _)); exact BK161.out) hb); have n1_ := Aside0.mk (blk_below (g := gb163) (o := .cells #[.int .u8 ((rd_T69 ((rd_T44 l0 x37_3).f4) x44_4).f0), .int .i64 ((rd_T69 ((rd_T44 l0 x37_3).f4) x44_4).f1), .int .i64 ((rd_T69 ((rd_T44 l0 x37_3).f4) x44_4).f2), .slice A162_3 ((rd_T69 ((rd_T44 l0 x37_3).f4) x44_4).f3.f0).length c162_3, .slice A162_4 ((rd_T69 ((rd_T44 l0 x37_3).f4) x44_4).f3.f1).length c162_4, .int .i64 ((rd_T69 ((rd_T44 l0 x37_3).f4) x44_4).f3.f2)] 69 (0, 0)) (by (with_reducible repeat (first | refine blk_drewN ?_ _ | refine blk_drew ?_ | refine blk_alloc ?_ _)); exact BK163.out) hb); have n2_ := Aside0.mk (below_step (by repeat (first | (with_reducible first | exact HB.out | apply below_alloc | apply pw_below_drewN | apply below_drew1 | refine below_set ?_ GE161.out | refine below_set ?_ GE163.out) | exact HB.out)) hb); have n3_ := Aside0.mk (hbox); have n4_ := Aside0.mk ((by rw [hg]; exact (below_size (by repeat (first | (with_reducible first | exact HB.out | apply below_alloc | apply pw_below_drewN | apply below_drew1 | refine below_set ?_ GE161.out | refine below_set ?_ GE163.out) | exact HB.out))) : w.heap.size ≤ gb167)); have n5_ := Aside0.mk ((by rw [hg]; exact (below_size (by repeat (first | (with_reducible first | exact HB.out | apply below_alloc | apply pw_below_drewN | apply below_drew1 | refine below_set ?_ GE161.out | refine below_set ?_ GE163.out) | exact HB.out))) : w.heap.size ≤ gb167)); have n6_ := Aside0.mk ((by rw [hg]; exact Nat.ne_of_lt (blk_lt (g := gb161) (o := .cells #[.int .i64 ((rd_T44 l0 x37_3).f0.f0), .int .i64 ((rd_T44 l0 x37_3).f0.f1), .int .i64 ((rd_T44 l0 x37_3).f1), .int .i64 ((rd_T44 l0 x37_3).f2), .int .i64 ((rd_T44 l0 x37_3).f3), .slice (some ad162) ((rd_T44 l0 x37_3).f4).length c160_5, .int .i64 ((rd_T44 l0 x37_3).f5)] 44 (0, 0)) (by (with_reducible repeat (first | refine blk_drewN ?_ _ | refine blk_drew ?_ | refine blk_alloc ?_ _)); exact BK161.out)) : gb161 ≠ gb167)); have n7_ := Aside0.mk ((by rw [hg]; exact Nat.ne_of_gt (blk_lt (g := gb161) (o := .cells #[.int .i64 ((rd_T44 l0 x37_3).f0.f0), .int .i64 ((rd_T44 l0 x37_3).f0.f1), .int .i64 ((rd_T44 l0 x37_3).f1), .int .i64 ((rd_T44 l0 x37_3).f2), .int .i64 ((rd_T44 l0 x37_3).f3), .slice (some ad162) ((rd_T44 l0 x37_3).f4).length c160_5, .int .i64 ((rd_T44 l0 x37_3).f5)] 44 (0, 0)) (by (with_reducible repeat (first | refine blk_drewN ?_ _ | refine blk_drew ?_ | refine blk_alloc ?_ _)); exact BK161.out)) : gb167 ≠ gb161)); have n8_ := Aside0.mk ((by rw [hg]; exact Nat.ne_of_lt (blk_lt (g := gb163) (o := .cells #[.int .u8 ((rd_T69 ((rd_T44 l0 x37_3).f4) x44_4).f0), .int .i64 ((rd_T69 ((rd_T44 l0 x37_3).f4) x44_4).f1), .int .i64 ((rd_T69 ((rd_T44 l0 x37_3).f4) x44_4).f2), .slice A162_3 ((rd_T69 ((rd_T44 l0 x37_3).f4) x44_4).f3.f0).length c162_3, .slice A162_4 ((rd_T69 ((rd_T44 l0 x37_3).f4) x44_4).f3.f1).length c162_4, .int .i64 ((rd_T69 ((rd_T44 l0 x37_3).f4) x44_4).f3.f2)] 69 (0, 0)) (by (with_reducible repeat (first | refine blk_drewN ?_ _ | refine blk_drew ?_ | refine blk_alloc ?_ _)); exact BK163.out)) : gb163 ≠ gb167)); have n9_ := Aside0.mk ((by rw [hg]; exact Nat.ne_of_gt (blk_lt (g := gb163) (o := .cells #[.int .u8 ((rd_T69 ((rd_T44 l0 x37_3).f4) x44_4).f0), .int .i64 ((rd_T69 ((rd_T44 l0 x37_3).f4) x44_4).f1), .int .i64 ((rd_T69 ((rd_T44 l0 x37_3).f4) x44_4).f2), .slice A162_3 ((rd_T69 ((rd_T44 l0 x37_3).f4) x44_4).f3.f0).length c162_3, .slice A162_4 ((rd_T69 ((rd_T44 l0 x37_3).f4) x44_4).f3.f1).length c162_4, .int .i64 ((rd_T69 ((rd_T44 l0 x37_3).f4) x44_4).f3.f2)] 69 (0, 0)) (by (with_reducible repeat (first | refine blk_drewN ?_ _ | refine blk_drew ?_ | refine blk_alloc ?_ _)); exact BK163.out)) : gb167 ≠ gb163)); clear BK161; clear BK163; clear HB; have BK161 := n0_; have BK163 := n1_; have HB := n2_; have BK167 := n3_; have GW167 := n4_; have GE167 := n5_; have NB161_167 := n6_; have NB167_161 := n7_; have NB163_167 := n8_; have NB167_163 := n9_; clear n0_ n1_ n2_ n3_ n4_ n5_ n6_ n7_ n8_ n9_; clear hb hbox hg; have hnb48 := NB167_161.out; have hnc48 := NB161_167.out; have hnb49 := NB167_163.out; have hnc49 := NB163_167.out; have hcz50_0 : w47.cell? ⟨gb167, 0, none⟩ = some (.int .i64 0) := (blk_cell BK167.out 0).trans rfl; have hcz50_1 : w47.cell? ⟨gb167, 1, none⟩ = some (.int .i64 0) := (blk_cell BK167.out 1).trans rfl; have hfz50_0 := blk_frozen BK167.out 0; have hfz50_1 := blk_frozen BK167.out 1; have hcz51_0 : w47.cell? ⟨gb163, 0, none⟩ = some (.int .u8 ((rd_T69 ((rd_T44 l0 x37_3).f4) x44_4).f0)) := (blk_cell BK163.out 0).trans rfl; have hcz51_1 : w47.cell? ⟨gb163, 1, none⟩ = some (.int .i64 ((rd_T69 ((rd_T44 l0 x37_3).f4) x44_4).f1)) := (blk_cell BK163.out 1).trans rfl; have hcz51_2 : w47.cell? ⟨gb163, 2, none⟩ = some (.int .i64 ((rd_T69 ((rd_T44 l0 x37_3).f4) x44_4).f2)) := (blk_cell BK163.out 2).trans rfl; have hcz51_3 : w47.cell? ⟨gb163, 3, none⟩ = some (.slice A162_3 ((rd_T69 ((rd_T44 l0 x37_3).f4) x44_4).f3.f0).length c162_3) := (blk_cell BK163.out 3).trans rfl; have hcz51_4 : w47.cell? ⟨gb163, 4, none⟩ = some (.slice A162_4 ((rd_T69 ((rd_T44 l0 x37_3).f4) x44_4).f3.f1).length c162_4) := (blk_cell BK163.out 4).trans rfl; have hcz51_5 : w47.cell? ⟨gb163, 5, none⟩ = some (.int .i64 ((rd_T69 ((rd_T44 l0 x37_3).f4) x44_4).f3.f2)) := (blk_cell BK163.out 5).trans rfl; have hfz51_0 := blk_frozen BK163.out 0; have hfz51_1 := blk_frozen BK163.out 1; have hfz51_2 := blk_frozen BK163.out 2; have hfz51_3 := blk_frozen BK163.out 3; have hfz51_4 := blk_frozen BK163.out 4; have hfz51_5 := blk_frozen BK163.out 5; have hcz52_0 : w47.cell? ⟨gb161, 0, none⟩ = some (.int .i64 ((rd_T44 l0 x37_3).f0.f0)) := (blk_cell BK161.out 0).trans rfl; have hcz52_1 : w47.cell? ⟨gb161, 1, none⟩ = some (.int .i64 ((rd_T44 l0 x37_3).f0.f1)) := (blk_cell BK161.out 1).trans rfl; have hcz52_2 : w47.cell? ⟨gb161, 2, none⟩ = some (.int .i64 ((rd_T44 l0 x37_3).f1)) := (blk_cell BK161.out 2).trans rfl; have hcz52_3 : w47.cell? ⟨gb161, 3, none⟩ = some (.int .i64 ((rd_T44 l0 x37_3).f2)) := (blk_cell BK161.out 3).trans rfl; have hcz52_4 : w47.cell? ⟨gb161, 4, none⟩ = some (.int .i64 ((rd_T44 l0 x37_3).f3)) := (blk_cell BK161.out 4).trans rfl; have hcz52_5 : w47.cell? ⟨gb161, 5, none⟩ = some (.slice (some ad162) ((rd_T44 l0 x37_3).f4).length c160_5) := (blk_cell BK161.out 5).trans rfl; have hcz52_6 : w47.cell? ⟨gb161, 6, none⟩ = some (.int .i64 ((rd_T44 l0 x37_3).f5)) := (blk_cell BK161.out 6).trans rfl; have hfz52_0 := blk_frozen BK161.out 0; have hfz52_1 := blk_frozen BK161.out 1; have hfz52_2 := blk_frozen BK161.out 2; have hfz52_3 := blk_frozen BK161.out 3; have hfz52_4 := blk_frozen BK161.out 4; have hfz52_5 := blk_frozen BK161.out 5; have hfz52_6 := blk_frozen BK161.out 6) | (go_at_call 46; (with_reducible refine (tasks_mayRead.calls k4 _ _ ((rd_T69 ((rd_T44 l0 x37_3).f4) x44_4).f3.f0) _ _ ((rd_T69 ((rd_T44 l0 x37_3).f4) x44_4).f3.f1) ((rd_T69 ((rd_T44 l0 x37_3).f4) x44_4).f3.f2) ((rd_T44 l0 x37_3).f0.f0) ((rd_T44 l0 x37_3).f0.f1) t164 t165 false _ ?side1 ?side2 ?side3 ?side4 A30.out).mono ?_); (case side1 => exact Kd.C_below HR162_3.out (by repeat (first | (with_reducible first | exact HB.out | apply below_alloc | apply pw_below_drewN | apply below_drew1 | refine below_set ?_ GE161.out | refine below_set ?_ GE163.out | refine below_set ?_ GE167.out) | exact HB.out))); (case side2 => exact HC162_3.out); (case side3 => exact Kd.C_below HR162_4.out (by repeat (first | (with_reducible first | exact HB.out | apply below_alloc | apply pw_below_drewN | apply below_drew1 | refine below_set ?_ GE161.out | refine below_set ?_ GE163.out | refine below_set ?_ GE167.out) | exact HB.out))); (case side4 => exact HC162_4.out); rintro e w53 ⟨rfl, hb⟩; have n0_ := Aside0.mk (blk_below (g := gb161) (o := .cells #[.int .i64 ((rd_T44 l0 x37_3).f0.f0), .int .i64 ((rd_T44 l0 x37_3).f0.f1), .int .i64 ((rd_T44 l0 x37_3).f1), .int .i64 ((rd_T44 l0 x37_3).f2), .int .i64 ((rd_T44 l0 x37_3).f3), .slice (some ad162) ((rd_T44 l0 x37_3).f4).length c160_5, .int .i64 ((rd_T44 l0 x37_3).f5)] 44 (0, 0)) (by (with_reducible repeat (first | refine blk_drewN ?_ _ | refine blk_drew ?_ | refine blk_alloc ?_ _)); refine blk_far ?_ NB161_167.out _; (with_reducible repeat (first | refine blk_drewN ?_ _ | refine blk_drew ?_ | refine blk_alloc ?_ _)); refine blk_far ?_ NB161_167.out _; (with_reducible repeat (first | refine blk_drewN ?_ _ | refine blk_drew ?_ | refine blk_alloc ?_ _)); exact BK161.out) hb); have n1_ := Aside0.mk (blk_below (g := gb163) (o := .cells #[.int .u8 ((rd_T69 ((rd_T44 l0 x37_3).f4) x44_4).f0), .int .i64 ((rd_T69 ((rd_T44 l0 x37_3).f4) x44_4).f1), .int .i64 ((rd_T69 ((rd_T44 l0 x37_3).f4) x44_4).f2), .slice A162_3 ((rd_T69 ((rd_T44 l0 x37_3).f4) x44_4).f3.f0).length c162_3, .slice A162_4 ((rd_T69 ((rd_T44 l0 x37_3).f4) x44_4).f3.f1).length c162_4, .int .i64 ((rd_T69 ((rd_T44 l0 x37_3).f4) x44_4).f3.f2)] 69 (0, 0)) (by (with_reducible repeat (first | refine blk_drewN ?_ _ | refine blk_drew ?_ | refine blk_alloc ?_ _)); refine blk_far ?_ NB163_167.out _; (with_reducible repeat (first | refine blk_drewN ?_ _ | refine blk_drew ?_ | refine blk_alloc ?_ _)); refine blk_far ?_ NB163_167.out _; (with_reducible repeat (first | refine blk_drewN ?_ _ | refine blk_drew ?_ | refine blk_alloc ?_ _)); exact BK163.out) hb); have n2_ := Aside0.mk (blk_below (g := gb167) (o := .cells #[.int .i64 t164, .int .i64 t165] 25 (0, 0)) (by (with_reducible repeat (first | refine blk_drewN ?_ _ | refine blk_drew ?_ | refine blk_alloc ?_ _)); refine blk_put (cs := #[.int .i64 t164, .int .i64 0]) ?_ 1 _ (by first | rfl | (simp [*]; done)); (with_reducible repeat (first | refine blk_drewN ?_ _ | refine blk_drew ?_ | refine blk_alloc ?_ _)); refine blk_put (cs := #[.int .i64 0, .int .i64 0]) ?_ 0 _ (by first | rfl | (simp [*]; done)); (with_reducible repeat (first | refine blk_drewN ?_ _ | refine blk_drew ?_ | refine blk_alloc ?_ _)); exact BK167.out) hb); have n3_ := Aside0.mk (below_step (by repeat (first | (with_reducible first | exact HB.out | apply below_alloc | apply pw_below_drewN | apply below_drew1 | refine below_set ?_ GE161.out | refine below_set ?_ GE163.out | refine below_set ?_ GE167.out) | exact HB.out)) hb); clear BK161; clear BK163; clear BK167; clear HB; have BK161 := n0_; have BK163 := n1_; have BK167 := n2_; have HB := n3_; clear n0_ n1_ n2_ n3_; (try clear hb); (try clear hb2); (try clear hk); (try clear hi)))
                                      go_ret
                                      exact ⟨by first | rfl | (simp [errW_none, errW_some] <;> rfl) | (simp [*, errW_none, errW_some] <;> rfl), by repeat (first | (with_reducible first | exact HB.out | apply below_alloc | apply pw_below_drewN | apply below_drew1 | refine below_set ?_ GE161.out | refine below_set ?_ GE163.out | refine below_set ?_ GE167.out) | exact HB.out)⟩
                                  · replace c29 := Bool.eq_false_iff.mpr c29
                                    subst c29
                                    have H1 : (some 2) = some r := by rw [if_neg (show ¬ (false = true) by decide)] at H; exact H
                                    clear H
                                    have H := H1
                                    clear H1
                                    obtain rfl := Option.some.inj H
                                    have p162 : 0 ≤ (x44_4 : Int) := of_decide_eq_true (by first | (with_reducible assumption) | assumption)
                                    have q162 : x44_4 < (((rd_T44 l0 x37_3).f4).length : Int) := of_decide_eq_true (by first | (with_reducible assumption) | assumption)
                                    obtain ⟨ad162, A162_3, c162_3, A162_4, c162_4, e162, hx162_0, hx162_1, hx162_2, hx162_3, hx162_4, hx162_5, hl162_3, hi162_3, hl162_4, hi162_4⟩ := at_T69 HR160_5.out x44_4 p162 q162
                                    cases e162
                                    replace hx162_0 := (HB.out.cell (World.block_lt_of_cell? w _ hx162_0)).trans hx162_0
                                    replace hx162_1 := (HB.out.cell (World.block_lt_of_cell? w _ hx162_1)).trans hx162_1
                                    replace hx162_2 := (HB.out.cell (World.block_lt_of_cell? w _ hx162_2)).trans hx162_2
                                    replace hx162_3 := (HB.out.cell (World.block_lt_of_cell? w _ hx162_3)).trans hx162_3
                                    replace hx162_4 := (HB.out.cell (World.block_lt_of_cell? w _ hx162_4)).trans hx162_4
                                    replace hx162_5 := (HB.out.cell (World.block_lt_of_cell? w _ hx162_5)).trans hx162_5
                                    have HR162_3 := Aside0.mk hi162_3
                                    have HC162_3 := Aside0.mk hl162_3
                                    clear hi162_3 hl162_3
                                    have HR162_4 := Aside0.mk hi162_4
                                    have HC162_4 := Aside0.mk hl162_4
                                    clear hi162_4 hl162_4
                                    replace p162 := eq_true p162
                                    replace q162 := eq_true q162
                                    go_wp2_with (first | ((with_reducible refine gate_dst (N := 10) rfl ?_); (try (refine gate_guard (by rfl) ?_; dsimp only)); refine box_event ?hg (N := 10) ?hd (cs := #[.int .u8 0, .int .i64 0, .int .i64 0, .slice none 0 0, .slice none 0 0, .int .i64 0]) (t := 69) ?hr ?_; (case hd => rfl); (case hg => rfl); (case hr => first | (go_simp; done) | (go_simp; rfl)); intro gb163 hg w54 hbox hb; have n0_ := Aside0.mk (blk_below (g := gb161) (o := .cells #[.int .i64 ((rd_T44 l0 x37_3).f0.f0), .int .i64 ((rd_T44 l0 x37_3).f0.f1), .int .i64 ((rd_T44 l0 x37_3).f1), .int .i64 ((rd_T44 l0 x37_3).f2), .int .i64 ((rd_T44 l0 x37_3).f3), .slice (some ad162) ((rd_T44 l0 x37_3).f4).length c160_5, .int .i64 ((rd_T44 l0 x37_3).f5)] 44 (0, 0)) (by (with_reducible repeat (first | refine blk_drewN ?_ _ | refine blk_drew ?_ | refine blk_alloc ?_ _)); exact BK161.out) hb); have n1_ := Aside0.mk (below_step (by repeat (first | (with_reducible first | exact HB.out | apply below_alloc | apply pw_below_drewN | apply below_drew1 | refine below_set ?_ GE161.out) | exact HB.out)) hb); have n2_ := Aside0.mk (hbox); have n3_ := Aside0.mk ((by rw [hg]; exact (below_size (by repeat (first | (with_reducible first | exact HB.out | apply below_alloc | apply pw_below_drewN | apply below_drew1 | refine below_set ?_ GE161.out) | exact HB.out))) : w.heap.size ≤ gb163)); have n4_ := Aside0.mk ((by rw [hg]; exact (below_size (by repeat (first | (with_reducible first | exact HB.out | apply below_alloc | apply pw_below_drewN | apply below_drew1 | refine below_set ?_ GE161.out) | exact HB.out))) : w.heap.size ≤ gb163)); have n5_ := Aside0.mk ((by rw [hg]; exact Nat.ne_of_lt (blk_lt (g := gb161) (o := .cells #[.int .i64 ((rd_T44 l0 x37_3).f0.f0), .int .i64 ((rd_T44 l0 x37_3).f0.f1), .int .i64 ((rd_T44 l0 x37_3).f1), .int .i64 ((rd_T44 l0 x37_3).f2), .int .i64 ((rd_T44 l0 x37_3).f3), .slice (some ad162) ((rd_T44 l0 x37_3).f4).length c160_5, .int .i64 ((rd_T44 l0 x37_3).f5)] 44 (0, 0)) (by (with_reducible repeat (first | refine blk_drewN ?_ _ | refine blk_drew ?_ | refine blk_alloc ?_ _)); exact BK161.out)) : gb161 ≠ gb163)); have n6_ := Aside0.mk ((by rw [hg]; exact Nat.ne_of_gt (blk_lt (g := gb161) (o := .cells #[.int .i64 ((rd_T44 l0 x37_3).f0.f0), .int .i64 ((rd_T44 l0 x37_3).f0.f1), .int .i64 ((rd_T44 l0 x37_3).f1), .int .i64 ((rd_T44 l0 x37_3).f2), .int .i64 ((rd_T44 l0 x37_3).f3), .slice (some ad162) ((rd_T44 l0 x37_3).f4).length c160_5, .int .i64 ((rd_T44 l0 x37_3).f5)] 44 (0, 0)) (by (with_reducible repeat (first | refine blk_drewN ?_ _ | refine blk_drew ?_ | refine blk_alloc ?_ _)); exact BK161.out)) : gb163 ≠ gb161)); clear BK161; clear HB; have BK161 := n0_; have HB := n1_; have BK163 := n2_; have GW163 := n3_; have GE163 := n4_; have NB161_163 := n5_; have NB163_161 := n6_; clear n0_ n1_ n2_ n3_ n4_ n5_ n6_; clear hb hbox hg; have hnb55 := NB163_161.out; have hnc55 := NB161_163.out; have hcz56_0 : w54.cell? ⟨gb163, 0, none⟩ = some (.int .u8 0) := (blk_cell BK163.out 0).trans rfl; have hcz56_1 : w54.cell? ⟨gb163, 1, none⟩ = some (.int .i64 0) := (blk_cell BK163.out 1).trans rfl; have hcz56_2 : w54.cell? ⟨gb163, 2, none⟩ = some (.int .i64 0) := (blk_cell BK163.out 2).trans rfl; have hcz56_3 : w54.cell? ⟨gb163, 3, none⟩ = some (.slice none 0 0) := (blk_cell BK163.out 3).trans rfl; have hcz56_4 : w54.cell? ⟨gb163, 4, none⟩ = some (.slice none 0 0) := (blk_cell BK163.out 4).trans rfl; have hcz56_5 : w54.cell? ⟨gb163, 5, none⟩ = some (.int .i64 0) := (blk_cell BK163.out 5).trans rfl; have hfz56_0 := blk_frozen BK163.out 0; have hfz56_1 := blk_frozen BK163.out 1; have hfz56_2 := blk_frozen BK163.out 2; have hfz56_3 := blk_frozen BK163.out 3; have hfz56_4 := blk_frozen BK163.out 4; have hfz56_5 := blk_frozen BK163.out 5) | ((with_reducible refine gate_callee (f := 45) rfl ?_); refine goesL_ (some 52) rfl rfl Try.func45 (by kernel_rfl) rfl #[.agg #[.int .u8 ((rd_T69 ((rd_T44 l0 x37_3).f4) x44_4).f0), .int .i64 ((rd_T69 ((rd_T44 l0 x37_3).f4) x44_4).f1), .int .i64 ((rd_T69 ((rd_T44 l0 x37_3).f4) x44_4).f2), .slice A162_3 ((rd_T69 ((rd_T44 l0 x37_3).f4) x44_4).f3.f0).length c162_3, .slice A162_4 ((rd_T69 ((rd_T44 l0 x37_3).f4) x44_4).f3.f1).length c162_4, .int .i64 ((rd_T69 ((rd_T44 l0 x37_3).f4) x44_4).f3.f2)], .slice (some ad160) l0.length c0, .slice A1 l1.length c1] rfl (by (try simp only [List.map_toArray, List.map_cons, List.map_nil]); first | done | rfl | (simp only [List.length_drop, List.length_take]; rfl)) ?_; (with_reducible refine (tasks_clock.calls k4 ((rd_T69 ((rd_T44 l0 x37_3).f4) x44_4).f0) ((rd_T69 ((rd_T44 l0 x37_3).f4) x44_4).f1) ((rd_T69 ((rd_T44 l0 x37_3).f4) x44_4).f2) _ _ ((rd_T69 ((rd_T44 l0 x37_3).f4) x44_4).f3.f0) _ _ ((rd_T69 ((rd_T44 l0 x37_3).f4) x44_4).f3.f1) ((rd_T69 ((rd_T44 l0 x37_3).f4) x44_4).f3.f2) _ _ l0 _ _ l1 t164 t165 false _ ?side1 ?side2 ?side3 ?side4 ?side5 ?side6 ?side7 ?side8 A28.out).mono ?_); (case side1 => exact Kd.C_below HR162_3.out (by repeat (first | (with_reducible first | exact HB.out | apply below_alloc | apply pw_below_drewN | apply below_drew1 | refine below_set ?_ GE161.out | refine below_set ?_ GE163.out) | exact HB.out))); (case side2 => exact HC162_3.out); (case side3 => exact Kd.C_below HR162_4.out (by repeat (first | (with_reducible first | exact HB.out | apply below_alloc | apply pw_below_drewN | apply below_drew1 | refine below_set ?_ GE161.out | refine below_set ?_ GE163.out) | exact HB.out))); (case side4 => exact HC162_4.out); (case side5 => exact Kd.C_below HR0.out (by repeat (first | (with_reducible first | exact HB.out | apply below_alloc | apply pw_below_drewN | apply below_drew1 | refine below_set ?_ GE161.out | refine below_set ?_ GE163.out) | exact HB.out))); (case side6 => exact HC0.out); (case side7 => exact Kd.C_below HR1.out (by repeat (first | (with_reducible first | exact HB.out | apply below_alloc | apply pw_below_drewN | apply below_drew1 | refine below_set ?_ GE161.out | refine below_set ?_ GE163.out) | exact HB.out))); (case side8 => exact HC1.out); rintro e w57 ⟨rfl, hb⟩; refine ⟨_, rfl, ?_⟩; have n0_ := Aside0.mk (blk_below (g := gb161) (o := .cells #[.int .i64 ((rd_T44 l0 x37_3).f0.f0), .int .i64 ((rd_T44 l0 x37_3).f0.f1), .int .i64 ((rd_T44 l0 x37_3).f1), .int .i64 ((rd_T44 l0 x37_3).f2), .int .i64 ((rd_T44 l0 x37_3).f3), .slice (some ad162) ((rd_T44 l0 x37_3).f4).length c160_5, .int .i64 ((rd_T44 l0 x37_3).f5)] 44 (0, 0)) (by (with_reducible repeat (first | refine blk_drewN ?_ _ | refine blk_drew ?_ | refine blk_alloc ?_ _)); refine blk_far ?_ NB161_163.out _; (with_reducible repeat (first | refine blk_drewN ?_ _ | refine blk_drew ?_ | refine blk_alloc ?_ _)); refine blk_far ?_ NB161_163.out _; (with_reducible repeat (first | refine blk_drewN ?_ _ | refine blk_drew ?_ | refine blk_alloc ?_ _)); refine blk_far ?_ NB161_163.out _; (with_reducible repeat (first | refine blk_drewN ?_ _ | refine blk_drew ?_ | refine blk_alloc ?_ _)); refine blk_far ?_ NB161_163.out _; (with_reducible repeat (first | refine blk_drewN ?_ _ | refine blk_drew ?_ | refine blk_alloc ?_ _)); refine blk_far ?_ NB161_163.out _; (with_reducible repeat (first | refine blk_drewN ?_ _ | refine blk_drew ?_ | refine blk_alloc ?_ _)); refine blk_far ?_ NB161_163.out _; (with_reducible repeat (first | refine blk_drewN ?_ _ | refine blk_drew ?_ | refine blk_alloc ?_ _)); exact BK161.out) hb); have n1_ := Aside0.mk (blk_below (g := gb163) (o := .cells #[.int .u8 ((rd_T69 ((rd_T44 l0 x37_3).f4) x44_4).f0), .int .i64 ((rd_T69 ((rd_T44 l0 x37_3).f4) x44_4).f1), .int .i64 ((rd_T69 ((rd_T44 l0 x37_3).f4) x44_4).f2), .slice A162_3 ((rd_T69 ((rd_T44 l0 x37_3).f4) x44_4).f3.f0).length c162_3, .slice A162_4 ((rd_T69 ((rd_T44 l0 x37_3).f4) x44_4).f3.f1).length c162_4, .int .i64 ((rd_T69 ((rd_T44 l0 x37_3).f4) x44_4).f3.f2)] 69 (0, 0)) (by (with_reducible repeat (first | refine blk_drewN ?_ _ | refine blk_drew ?_ | refine blk_alloc ?_ _)); refine blk_put (cs := #[.int .u8 ((rd_T69 ((rd_T44 l0 x37_3).f4) x44_4).f0), .int .i64 ((rd_T69 ((rd_T44 l0 x37_3).f4) x44_4).f1), .int .i64 ((rd_T69 ((rd_T44 l0 x37_3).f4) x44_4).f2), .slice A162_3 ((rd_T69 ((rd_T44 l0 x37_3).f4) x44_4).f3.f0).length c162_3, .slice A162_4 ((rd_T69 ((rd_T44 l0 x37_3).f4) x44_4).f3.f1).length c162_4, .int .i64 0]) ?_ 5 _ (by first | rfl | (simp [*]; done)); (with_reducible repeat (first | refine blk_drewN ?_ _ | refine blk_drew ?_ | refine blk_alloc ?_ _)); refine blk_put (cs := #[.int .u8 ((rd_T69 ((rd_T44 l0 x37_3).f4) x44_4).f0), .int .i64 ((rd_T69 ((rd_T44 l0 x37_3).f4) x44_4).f1), .int .i64 ((rd_T69 ((rd_T44 l0 x37_3).f4) x44_4).f2), .slice A162_3 ((rd_T69 ((rd_T44 l0 x37_3).f4) x44_4).f3.f0).length c162_3, .slice none 0 0, .int .i64 0]) ?_ 4 _ (by first | rfl | (simp [*]; done)); (with_reducible repeat (first | refine blk_drewN ?_ _ | refine blk_drew ?_ | refine blk_alloc ?_ _)); refine blk_put (cs := #[.int .u8 ((rd_T69 ((rd_T44 l0 x37_3).f4) x44_4).f0), .int .i64 ((rd_T69 ((rd_T44 l0 x37_3).f4) x44_4).f1), .int .i64 ((rd_T69 ((rd_T44 l0 x37_3).f4) x44_4).f2), .slice none 0 0, .slice none 0 0, .int .i64 0]) ?_ 3 _ (by first | rfl | (simp [*]; done)); (with_reducible repeat (first | refine blk_drewN ?_ _ | refine blk_drew ?_ | refine blk_alloc ?_ _)); refine blk_put (cs := #[.int .u8 ((rd_T69 ((rd_T44 l0 x37_3).f4) x44_4).f0), .int .i64 ((rd_T69 ((rd_T44 l0 x37_3).f4) x44_4).f1), .int .i64 0, .slice none 0 0, .slice none 0 0, .int .i64 0]) ?_ 2 _ (by first | rfl | (simp [*]; done)); (with_reducible repeat (first | refine blk_drewN ?_ _ | refine blk_drew ?_ | refine blk_alloc ?_ _)); refine blk_put (cs := #[.int .u8 ((rd_T69 ((rd_T44 l0 x37_3).f4) x44_4).f0), .int .i64 0, .int .i64 0, .slice none 0 0, .slice none 0 0, .int .i64 0]) ?_ 1 _ (by first | rfl | (simp [*]; done)); (with_reducible repeat (first | refine blk_drewN ?_ _ | refine blk_drew ?_ | refine blk_alloc ?_ _)); refine blk_put (cs := #[.int .u8 0, .int .i64 0, .int .i64 0, .slice none 0 0, .slice none 0 0, .int .i64 0]) ?_ 0 _ (by first | rfl | (simp [*]; done)); (with_reducible repeat (first | refine blk_drewN ?_ _ | refine blk_drew ?_ | refine blk_alloc ?_ _)); exact BK163.out) hb); have n2_ := Aside0.mk (below_step (by repeat (first | (with_reducible first | exact HB.out | apply below_alloc | apply pw_below_drewN | apply below_drew1 | refine below_set ?_ GE161.out | refine below_set ?_ GE163.out) | exact HB.out)) hb); clear BK161; clear BK163; clear HB; have BK161 := n0_; have BK163 := n1_; have HB := n2_; clear n0_ n1_ n2_; (try clear hb); (try clear hb2); (try clear hk); (try clear hi)) | ((with_reducible refine gate_dst (N := 11) rfl ?_); (try (refine gate_guard (by rfl) ?_; dsimp only)); refine box_event ?hg (N := 11) ?hd (cs := #[.int .i64 0, .int .i64 0]) (t := 25) ?hr ?_; (case hd => rfl); (case hg => rfl); (case hr => first | (go_simp; done) | (go_simp; rfl)); intro gb167 hg w58 hbox hb; have n0_ := Aside0.mk (blk_below (g := gb161) (o := .cells #[.int .i64 ((rd_T44 l0 x37_3).f0.f0), .int .i64 ((rd_T44 l0 x37_3).f0.f1), .int .i64 ((rd_T44 l0 x37_3).f1), .int .i64 ((rd_T44 l0 x37_3).f2), .int .i64 ((rd_T44 l0 x37_3).f3), .slice (some ad162) ((rd_T44 l0 x37_3).f4).length c160_5, .int .i64 ((rd_T44 l0 x37_3).f5)] 44 (0, 0)) (by (with_reducible repeat (first | refine blk_drewN ?_ _ | refine blk_drew ?_ | refine blk_alloc ?_ _)); exact BK161.out) hb); have n1_ := Aside0.mk (blk_below (g := gb163) (o := .cells #[.int .u8 ((rd_T69 ((rd_T44 l0 x37_3).f4) x44_4).f0), .int .i64 ((rd_T69 ((rd_T44 l0 x37_3).f4) x44_4).f1), .int .i64 ((rd_T69 ((rd_T44 l0 x37_3).f4) x44_4).f2), .slice A162_3 ((rd_T69 ((rd_T44 l0 x37_3).f4) x44_4).f3.f0).length c162_3, .slice A162_4 ((rd_T69 ((rd_T44 l0 x37_3).f4) x44_4).f3.f1).length c162_4, .int .i64 ((rd_T69 ((rd_T44 l0 x37_3).f4) x44_4).f3.f2)] 69 (0, 0)) (by (with_reducible repeat (first | refine blk_drewN ?_ _ | refine blk_drew ?_ | refine blk_alloc ?_ _)); exact BK163.out) hb); have n2_ := Aside0.mk (below_step (by repeat (first | (with_reducible first | exact HB.out | apply below_alloc | apply pw_below_drewN | apply below_drew1 | refine below_set ?_ GE161.out | refine below_set ?_ GE163.out) | exact HB.out)) hb); have n3_ := Aside0.mk (hbox); have n4_ := Aside0.mk ((by rw [hg]; exact (below_size (by repeat (first | (with_reducible first | exact HB.out | apply below_alloc | apply pw_below_drewN | apply below_drew1 | refine below_set ?_ GE161.out | refine below_set ?_ GE163.out) | exact HB.out))) : w.heap.size ≤ gb167)); have n5_ := Aside0.mk ((by rw [hg]; exact (below_size (by repeat (first | (with_reducible first | exact HB.out | apply below_alloc | apply pw_below_drewN | apply below_drew1 | refine below_set ?_ GE161.out | refine below_set ?_ GE163.out) | exact HB.out))) : w.heap.size ≤ gb167)); have n6_ := Aside0.mk ((by rw [hg]; exact Nat.ne_of_lt (blk_lt (g := gb161) (o := .cells #[.int .i64 ((rd_T44 l0 x37_3).f0.f0), .int .i64 ((rd_T44 l0 x37_3).f0.f1), .int .i64 ((rd_T44 l0 x37_3).f1), .int .i64 ((rd_T44 l0 x37_3).f2), .int .i64 ((rd_T44 l0 x37_3).f3), .slice (some ad162) ((rd_T44 l0 x37_3).f4).length c160_5, .int .i64 ((rd_T44 l0 x37_3).f5)] 44 (0, 0)) (by (with_reducible repeat (first | refine blk_drewN ?_ _ | refine blk_drew ?_ | refine blk_alloc ?_ _)); exact BK161.out)) : gb161 ≠ gb167)); have n7_ := Aside0.mk ((by rw [hg]; exact Nat.ne_of_gt (blk_lt (g := gb161) (o := .cells #[.int .i64 ((rd_T44 l0 x37_3).f0.f0), .int .i64 ((rd_T44 l0 x37_3).f0.f1), .int .i64 ((rd_T44 l0 x37_3).f1), .int .i64 ((rd_T44 l0 x37_3).f2), .int .i64 ((rd_T44 l0 x37_3).f3), .slice (some ad162) ((rd_T44 l0 x37_3).f4).length c160_5, .int .i64 ((rd_T44 l0 x37_3).f5)] 44 (0, 0)) (by (with_reducible repeat (first | refine blk_drewN ?_ _ | refine blk_drew ?_ | refine blk_alloc ?_ _)); exact BK161.out)) : gb167 ≠ gb161)); have n8_ := Aside0.mk ((by rw [hg]; exact Nat.ne_of_lt (blk_lt (g := gb163) (o := .cells #[.int .u8 ((rd_T69 ((rd_T44 l0 x37_3).f4) x44_4).f0), .int .i64 ((rd_T69 ((rd_T44 l0 x37_3).f4) x44_4).f1), .int .i64 ((rd_T69 ((rd_T44 l0 x37_3).f4) x44_4).f2), .slice A162_3 ((rd_T69 ((rd_T44 l0 x37_3).f4) x44_4).f3.f0).length c162_3, .slice A162_4 ((rd_T69 ((rd_T44 l0 x37_3).f4) x44_4).f3.f1).length c162_4, .int .i64 ((rd_T69 ((rd_T44 l0 x37_3).f4) x44_4).f3.f2)] 69 (0, 0)) (by (with_reducible repeat (first | refine blk_drewN ?_ _ | refine blk_drew ?_ | refine blk_alloc ?_ _)); exact BK163.out)) : gb163 ≠ gb167)); have n9_ := Aside0.mk ((by rw [hg]; exact Nat.ne_of_gt (blk_lt (g := gb163) (o := .cells #[.int .u8 ((rd_T69 ((rd_T44 l0 x37_3).f4) x44_4).f0), .int .i64 ((rd_T69 ((rd_T44 l0 x37_3).f4) x44_4).f1), .int .i64 ((rd_T69 ((rd_T44 l0 x37_3).f4) x44_4).f2), .slice A162_3 ((rd_T69 ((rd_T44 l0 x37_3).f4) x44_4).f3.f0).length c162_3, .slice A162_4 ((rd_T69 ((rd_T44 l0 x37_3).f4) x44_4).f3.f1).length c162_4, .int .i64 ((rd_T69 ((rd_T44 l0 x37_3).f4) x44_4).f3.f2)] 69 (0, 0)) (by (with_reducible repeat (first | refine blk_drewN ?_ _ | refine blk_drew ?_ | refine blk_alloc ?_ _)); exact BK163.out)) : gb167 ≠ gb163)); clear BK161; clear BK163; clear HB; have BK161 := n0_; have BK163 := n1_; have HB := n2_; have BK167 := n3_; have GW167 := n4_; have GE167 := n5_; have NB161_167 := n6_; have NB167_161 := n7_; have NB163_167 := n8_; have NB167_163 := n9_; clear n0_ n1_ n2_ n3_ n4_ n5_ n6_ n7_ n8_ n9_; clear hb hbox hg; have hnb59 := NB167_161.out; have hnc59 := NB161_167.out; have hnb60 := NB167_163.out; have hnc60 := NB163_167.out; have hcz61_0 : w58.cell? ⟨gb167, 0, none⟩ = some (.int .i64 0) := (blk_cell BK167.out 0).trans rfl; have hcz61_1 : w58.cell? ⟨gb167, 1, none⟩ = some (.int .i64 0) := (blk_cell BK167.out 1).trans rfl; have hfz61_0 := blk_frozen BK167.out 0; have hfz61_1 := blk_frozen BK167.out 1))
                                    go_ret
                                    exact ⟨by first | rfl | (simp [errW_none, errW_some] <;> rfl) | (simp [*, errW_none, errW_some] <;> rfl), by repeat (first | (with_reducible first | exact HB.out | apply below_alloc | apply pw_below_drewN | apply below_drew1 | refine below_set ?_ GE161.out | refine below_set ?_ GE163.out | refine below_set ?_ GE167.out) | exact HB.out)⟩
                                · rw [if_neg c27] at H
                                  exact absurd H (by simp)
                              · rw [if_neg c26] at H
                                exact absurd H (by simp)
                            · rw [if_neg c25] at H
                              have c25b0 : decide (x44_4 < (((rd_T44 l0 x37_3).f4).length : Int)) = false := decide_eq_false c25
                              clear c25
                              have H' := Aside0.mk H
                              clear H
                              go_wp2
                              go_roundg k4
                              case measure => have := HJ2.out; have := HK2.out; have := HK3.out; have := HK4.out; omega
                              case rel => exact ⟨(wrap64 (x37_3 + 1)), (by first | rfl | (simp; done) | (simp [*]; done)), H', ⟨by have := HJ2.out; have := HK2.out; have := HK3.out; have := HK4.out; omega⟩, ⟨by repeat (first | (with_reducible first | exact HB.out | apply below_alloc | apply pw_below_drewN | apply below_drew1 | refine below_set ?_ GE161.out) | exact HB.out)⟩⟩
                      · rw [if_neg c22] at H
                        exact absurd H (by simp)
                    · rw [if_neg c21] at H
                      exact absurd H (by simp)
                  · rw [if_neg c20] at H
                    have c20b0 : decide (x37_3 < (l0.length : Int)) = false := decide_eq_false c20
                    clear c20
                    obtain rfl := Option.some.inj H
                    go_wp2
                    go_ret
                    exact ⟨by first | rfl | (simp [errW_none, errW_some] <;> rfl) | (simp [*, errW_none, errW_some] <;> rfl), by repeat (first | (with_reducible first | exact HB.out | apply below_alloc | apply pw_below_drewN | apply below_drew1) | exact HB.out)⟩

/-! ### carillonref14_Date: function 17 -/
def carillonref14_Date.f (a0_0 : Int) (a0_1 : Int) (a1 : Int) : Option (Int) := some (wrap64 (a0_1 + (wrap64 (a1 * a0_0))))
set_option maxHeartbeats 8000000 in
set_option maxRecDepth 100000 in
theorem carillonref14_Date.calls (a0_0 : Int) (a0_1 : Int) (a1 : Int) (r : Int) (w : World) (h : carillonref14_Date.f a0_0 a0_1 a1 = some r) :
    Calls Try.prog 17 #[.agg #[.int .i64 a0_0, .int .i64 a0_1], .int .i64 a1] w fun e w' => e = .returned (.int .i64 r) ∧ Below w.heap.size w w' := by
  have hu25 := Try.underlying25
  have HB := Aside0.mk (Below.refl w.heap.size w)
  have H : (some (wrap64 (a0_1 + (wrap64 (a1 * a0_0))))) = some r := h
  clear h
  obtain rfl := Option.some.inj H
  go_enter Try.func17, Try.ntmps17
  go_wp2_with (first | ((with_reducible refine gate_dst (N := 2) rfl ?_); refine box_event ?hg (N := 2) ?hd (cs := #[.int .i64 a0_0, .int .i64 a0_1]) (t := 25) ?hr ?_; (case hd => rfl); (case hg => rfl); (case hr => first | (go_simp; done) | (go_simp; rfl)); intro gb169 hg w3 hbox hb; have n0_ := Aside0.mk (below_step (by repeat (first | (with_reducible first | exact HB.out | apply below_alloc | apply pw_below_drewN | apply below_drew1) | exact HB.out)) hb); have n1_ := Aside0.mk (hbox); have n2_ := Aside0.mk ((by rw [hg]; exact (below_size (by repeat (first | (with_reducible first | exact HB.out | apply below_alloc | apply pw_below_drewN | apply below_drew1) | exact HB.out))) : w.heap.size ≤ gb169)); have n3_ := Aside0.mk ((by rw [hg]; exact (below_size (by repeat (first | (with_reducible first | exact HB.out | apply below_alloc | apply pw_below_drewN | apply below_drew1) | exact HB.out))) : w.heap.size ≤ gb169)); clear HB; have HB := n0_; have BK169 := n1_; have GW169 := n2_; have GE169 := n3_; clear n0_ n1_ n2_ n3_; clear hb hbox hg; have hcz4_0 : w3.cell? ⟨gb169, 0, none⟩ = some (.int .i64 a0_0) := (blk_cell BK169.out 0).trans rfl; have hcz4_1 : w3.cell? ⟨gb169, 1, none⟩ = some (.int .i64 a0_1) := (blk_cell BK169.out 1).trans rfl; have hfz4_0 := blk_frozen BK169.out 0; have hfz4_1 := blk_frozen BK169.out 1))
  go_ret
  exact ⟨by first | rfl | (simp [errW_none, errW_some] <;> rfl) | (simp [*, errW_none, errW_some] <;> rfl), by repeat (first | (with_reducible first | exact HB.out | apply below_alloc | apply pw_below_drewN | apply below_drew1 | refine below_set ?_ GE169.out) | exact HB.out)⟩

end Go.Proofs.Ytkabmpbfabgkfaa.P
