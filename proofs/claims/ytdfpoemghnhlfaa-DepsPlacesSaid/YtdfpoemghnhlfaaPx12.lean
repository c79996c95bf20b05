-- Printed by a program of this project, out of the translation: functions as plain Lean functions, and proofs that the machine comes to what they say. Lean checks it.
import Derived.Test.YtdfpoemghnhlfaaPx0
namespace Go.Proofs.Ytdfpoemghnhlfaa.P
open Go.RowKit Go.Proofs.YtdfpoemghnhlfaaW.PrintWords Go.Proofs.YtdfpoemghnhlfaaW.PrintLast Go.Proofs.YtdfpoemghnhlfaaW.PrintMore
attribute [local go_sem] max2_int min2_int max_two min_two max_three min_three max_four min_four   -- for this text's walks alone
set_option linter.unusedVariables false
set_option linter.unusedSimpArgs false

/-! ### carillonref13_Last: function 20 -/
mutual
def carillonref13_Last.l0 : Nat → Int → Int → Int → Int → Bool → Int → List (S26) → List (S26) → Int → Option (Int × Bool)
  | 0, _, _, _, _, _, _, _, _, _ => none
  | k + 1, x1, x6, x7, x8, x9, x10, x252000, x252001, x252002 => if x10 < x7 then (if 0 ≤ x10 then (if x10 < (x252000.length : Int) then (if ((rd_T26 x252000 x10).f0 = true) then (carillonref13_Last.l0 k x1 x6 x7 x8 x9 (wrap64 (x10 + 1)) x252000 x252001 x252002) else (if ((rd_T26 x252000 x10).f2) = x1 then (carillonref13_Last.l0 k x1 x6 x7 x10 true (wrap64 (x10 + 1)) x252000 x252001 x252002) else (carillonref13_Last.l0 k x1 x6 x7 x8 x9 (wrap64 (x10 + 1)) x252000 x252001 x252002))) else (none)) else (none)) else (carillonref13_Last.l1 k x1 x6 x7 x8 x9 0 x252000 x252001 x252002)
def carillonref13_Last.l1 : Nat → Int → Int → Int → Int → Bool → Int → List (S26) → List (S26) → Int → Option (Int × Bool)
  | 0, _, _, _, _, _, _, _, _, _ => none
  | k + 1, x1, x6, x7, x8, x9, x11, x252000, x252001, x252002 => if x11 < x6 then (if 0 ≤ x11 then (if x11 < (x252001.length : Int) then (if (wrap64 (x1 - ((rd_T26 x252001 x11).f2))) ≥ 0 then (if x252002 = 0 then (none) else (carillonref13_Last.j2 k x1 x6 x7 x8 x9 x11 (wrap64 (x1 - ((rd_T26 x252001 x11).f2))) ((Int.tmod (wrap64 (x1 - ((rd_T26 x252001 x11).f2))) x252002) == 0) x252000 x252001 x252002)) else (carillonref13_Last.j2 k x1 x6 x7 x8 x9 x11 (wrap64 (x1 - ((rd_T26 x252001 x11).f2))) false x252000 x252001 x252002)) else (none)) else (none)) else (some (x8, x9))
def carillonref13_Last.j2 : Nat → Int → Int → Int → Int → Bool → Int → Int → Bool → List (S26) → List (S26) → Int → Option (Int × Bool)
  | 0, _, _, _, _, _, _, _, _, _, _, _ => none
  | k + 1, x1, x6, x7, x8, x9, x11, x12, x64, x252000, x252001, x252002 => if x64 = true then (if x252002 = 0 then (none) else (if x9 = true then (if (wrap64 ((wrap64 (x7 + (wrap64 ((wrap64 (Int.tdiv x12 x252002)) * x6)))) + x11)) > x8 then (carillonref13_Last.l1 k x1 x6 x7 (wrap64 ((wrap64 (x7 + (wrap64 ((wrap64 (Int.tdiv x12 x252002)) * x6)))) + x11)) true (wrap64 (x11 + 1)) x252000 x252001 x252002) else (carillonref13_Last.l1 k x1 x6 x7 x8 x9 (wrap64 (x11 + 1)) x252000 x252001 x252002)) else (carillonref13_Last.l1 k x1 x6 x7 (wrap64 ((wrap64 (x7 + (wrap64 ((wrap64 (Int.tdiv x12 x252002)) * x6)))) + x11)) true (wrap64 (x11 + 1)) x252000 x252001 x252002))) else (carillonref13_Last.l1 k x1 x6 x7 x8 x9 (wrap64 (x11 + 1)) x252000 x252001 x252002)
end
def carillonref13_Last.f (k : Nat) (l0_0 : List (S26)) (l0_1 : List (S26)) (a0_2 : Int) (a1 : Int) : Option (Int × Bool) := carillonref13_Last.l0 k a1 (l0_1.length : Int) (l0_0.length : Int) 0 false 0 l0_0 l0_1 a0_2
theorem carillonref13_Last.mono_l : ∀ k, (∀ y0 y1 y2 y3 y4 y5 y6 y7 y8, LeO (carillonref13_Last.l0 k y0 y1 y2 y3 y4 y5 y6 y7 y8) (carillonref13_Last.l0 (k + 1) y0 y1 y2 y3 y4 y5 y6 y7 y8)) ∧ (∀ y0 y1 y2 y3 y4 y5 y6 y7 y8, LeO (carillonref13_Last.l1 k y0 y1 y2 y3 y4 y5 y6 y7 y8) (carillonref13_Last.l1 (k + 1) y0 y1 y2 y3 y4 y5 y6 y7 y8)) ∧ (∀ y0 y1 y2 y3 y4 y5 y6 y7 y8 y9 y10, LeO (carillonref13_Last.j2 k y0 y1 y2 y3 y4 y5 y6 y7 y8 y9 y10) (carillonref13_Last.j2 (k + 1) y0 y1 y2 y3 y4 y5 y6 y7 y8 y9 y10))
  | 0 => ⟨fun _ _ _ _ _ _ _ _ _ r h => by simp [carillonref13_Last.l0] at h, fun _ _ _ _ _ _ _ _ _ r h => by simp [carillonref13_Last.l1] at h, fun _ _ _ _ _ _ _ _ _ _ _ r h => by simp [carillonref13_Last.j2] at h⟩
  | k + 1 => by
    obtain ⟨ih0, ih1, ih2⟩ := carillonref13_Last.mono_l k
    refine ⟨?_, ?_, ?_⟩
    · intro y0 y1 y2 y3 y4 y5 y6 y7 y8
      unfold carillonref13_Last.l0
      repeat' first
      | (with_reducible exact ih0 _ _ _ _ _ _ _ _ _)
      | (with_reducible exact ih1 _ _ _ _ _ _ _ _ _)
      | (with_reducible exact ih2 _ _ _ _ _ _ _ _ _ _ _)
      | (with_reducible exact LeO.refl _)
      | (with_reducible exact LeO.none _)
      | (with_reducible refine LeO.ite ?_ ?_)
      | (with_reducible refine LeO.bind ?_ (fun _ => ?_))
      | exact ih0 _ _ _ _ _ _ _ _ _
      | exact ih1 _ _ _ _ _ _ _ _ _
      | exact ih2 _ _ _ _ _ _ _ _ _ _ _
      | exact LeO.none _
      | refine LeO.ite ?_ ?_
      | refine LeO.bind ?_ (fun _ => ?_)
    · intro y0 y1 y2 y3 y4 y5 y6 y7 y8
      unfold carillonref13_Last.l1
      repeat' first
      | (with_reducible exact ih0 _ _ _ _ _ _ _ _ _)
      | (with_reducible exact ih1 _ _ _ _ _ _ _ _ _)
      | (with_reducible exact ih2 _ _ _ _ _ _ _ _ _ _ _)
      | (with_reducible exact LeO.refl _)
      | (with_reducible exact LeO.none _)
      | (with_reducible refine LeO.ite ?_ ?_)
      | (with_reducible refine LeO.bind ?_ (fun _ => ?_))
      | exact ih0 _ _ _ _ _ _ _ _ _
      | exact ih1 _ _ _ _ _ _ _ _ _
      | exact ih2 _ _ _ _ _ _ _ _ _ _ _
      | exact LeO.none _
      | refine LeO.ite ?_ ?_
      | refine LeO.bind ?_ (fun _ => ?_)
    · intro y0 y1 y2 y3 y4 y5 y6 y7 y8 y9 y10
      unfold carillonref13_Last.j2
      repeat' first
      | (with_reducible exact ih0 _ _ _ _ _ _ _ _ _)
      | (with_reducible exact ih1 _ _ _ _ _ _ _ _ _)
      | (with_reducible exact ih2 _ _ _ _ _ _ _ _ _ _ _)
      | (with_reducible exact LeO.refl _)
      | (with_reducible exact LeO.none _)
      | (with_reducible refine LeO.ite ?_ ?_)
      | (with_reducible refine LeO.bind ?_ (fun _ => ?_))
      | exact ih0 _ _ _ _ _ _ _ _ _
      | exact ih1 _ _ _ _ _ _ _ _ _
      | exact ih2 _ _ _ _ _ _ _ _ _ _ _
      | exact LeO.none _
      | refine LeO.ite ?_ ?_
      | refine LeO.bind ?_ (fun _ => ?_)
theorem carillonref13_Last.mono : ∀ a0 a1 a2 a3 k, LeO (carillonref13_Last.f k a0 a1 a2 a3) (carillonref13_Last.f (k + 1) a0 a1 a2 a3) := by
  intro a0 a1 a2 a3 k
  obtain ⟨ih0, ih1, ih2⟩ := carillonref13_Last.mono_l k
  unfold carillonref13_Last.f
  repeat' first
      | (with_reducible exact ih0 _ _ _ _ _ _ _ _ _)
      | (with_reducible exact ih1 _ _ _ _ _ _ _ _ _)
      | (with_reducible exact ih2 _ _ _ _ _ _ _ _ _ _ _)
      | (with_reducible exact LeO.refl _)
      | (with_reducible exact LeO.none _)
      | (with_reducible refine LeO.ite ?_ ?_)
      | (with_reducible refine LeO.bind ?_ (fun _ => ?_))
      | exact ih0 _ _ _ _ _ _ _ _ _
      | exact ih1 _ _ _ _ _ _ _ _ _
      | exact ih2 _ _ _ _ _ _ _ _ _ _ _
      | exact LeO.none _
      | refine LeO.ite ?_ ?_
      | refine LeO.bind ?_ (fun _ => ?_)
set_option maxHeartbeats 8000000 in
set_option maxRecDepth 100000 in
theorem carillonref13_Last.calls (k : Nat) (A0_0 : Option Addr) (c0_0 : Nat) (l0_0 : List (S26)) (A0_1 : Option Addr) (c0_1 : Nat) (l0_1 : List (S26)) (a0_2 : Int) (a1 : Int) (r1 : Int) (r2 : Bool) (w : World) (hr0_0 : Kd.C k26 w A0_0 l0_0.length l0_0) (hc0_0 : l0_0.length ≤ c0_0) (hr0_1 : Kd.C k26 w A0_1 l0_1.length l0_1) (hc0_1 : l0_1.length ≤ c0_1) (h : carillonref13_Last.f k l0_0 l0_1 a0_2 a1 = some (r1, r2)) :
    Calls Try.prog 20 #[.agg #[.slice A0_0 l0_0.length c0_0, .slice A0_1 l0_1.length c0_1, .int .i64 a0_2], .int .i64 a1] w fun e w' => e = .returned (.tuple #[.int .i64 r1, .bool r2]) ∧ Below w.heap.size w w' := by
  have hu32 := Try.underlying32
  have HR0_0 := Aside0.mk hr0_0
  have HC0_0 := Aside0.mk hc0_0
  clear hr0_0 hc0_0
  have HR0_1 := Aside0.mk hr0_1
  have HC0_1 := Aside0.mk hc0_1
  clear hr0_1 hc0_1
  have HB := Aside0.mk (Below.refl w.heap.size w)
  have H : (carillonref13_Last.l0 k a1 (l0_1.length : Int) (l0_0.length : Int) 0 false 0 l0_0 l0_1 a0_2) = some (r1, r2) := h
  clear h
  have H' := Aside0.mk H
  clear H
  go_enter Try.func20, Try.ntmps20
  go_wp2_with (first | ((with_reducible refine gate_dst (N := 2) rfl ?_); refine box_event ?hg (N := 2) ?hd (cs := #[.slice A0_0 l0_0.length c0_0, .slice A0_1 l0_1.length c0_1, .int .i64 a0_2]) (t := 32) ?hr ?_; (case hd => rfl); (case hg => rfl); (case hr => first | (go_simp; done) | (go_simp; rfl)); intro gb251 hg w3 hbox hb; have n0_ := Aside0.mk (below_step (by repeat (first | (with_reducible first | exact HB.out | apply below_alloc | apply pw_below_drewN | apply below_drew1) | exact HB.out)) hb); have n1_ := Aside0.mk (hbox); have n2_ := Aside0.mk ((by rw [hg]; exact (below_size (by repeat (first | (with_reducible first | exact HB.out | apply below_alloc | apply pw_below_drewN | apply below_drew1) | exact HB.out))) : w.heap.size ≤ gb251)); have n3_ := Aside0.mk ((by rw [hg]; exact (below_size (by repeat (first | (with_reducible first | exact HB.out | apply below_alloc | apply pw_below_drewN | apply below_drew1) | exact HB.out))) : w.heap.size ≤ gb251)); clear HB; have HB := n0_; have BK251 := n1_; have GW251 := n2_; have GE251 := n3_; clear n0_ n1_ n2_ n3_; clear hb hbox hg; have hcz4_0 : w3.cell? ⟨gb251, 0, none⟩ = some (.slice A0_0 l0_0.length c0_0) := (blk_cell BK251.out 0).trans rfl; have hcz4_1 : w3.cell? ⟨gb251, 1, none⟩ = some (.slice A0_1 l0_1.length c0_1) := (blk_cell BK251.out 1).trans rfl; have hcz4_2 : w3.cell? ⟨gb251, 2, none⟩ = some (.int .i64 a0_2) := (blk_cell BK251.out 2).trans rfl; have hfz4_0 := blk_frozen BK251.out 0; have hfz4_1 := blk_frozen BK251.out 1; have hfz4_2 := blk_frozen BK251.out 2))
  go_loopg [8, 9, 10] k (fun kq v8 v9 v10 w' => ∃ (x8_1 : Int) (x9_1 : Bool) (x10_1 : Int), v8 = .int .i64 x8_1 ∧ v9 = .bool x9_1 ∧ v10 = .int .i64 x10_1 ∧ Aside0 (carillonref13_Last.l0 kq a1 (l0_1.length : Int) (l0_0.length : Int) x8_1 x9_1 x10_1 l0_0 l0_1 a0_2 = some (r1, r2)) ∧ Aside0 (kq ≤ k) ∧ Aside0 (w'.heap[gb251]? = some (.cells #[(.slice A0_0 l0_0.length c0_0), (.slice A0_1 l0_1.length c0_1), .int .i64 a0_2] 32 (0, 0))) ∧ Aside0 (Below w.heap.size w w'))
  case atStart => exact ⟨(0), (false), (0), (by first | rfl | (simp; done) | (simp [*]; done)), (by first | rfl | (simp; done) | (simp [*]; done)), (by first | rfl | (simp; done) | (simp [*]; done)), H', ⟨Nat.le_refl _⟩, ⟨by (with_reducible repeat (first | refine blk_drewN ?_ _ | refine blk_drew ?_ | refine blk_alloc ?_ _)); exact BK251.out⟩, ⟨by repeat (first | (with_reducible first | exact HB.out | apply below_alloc | apply pw_below_drewN | apply below_drew1 | refine below_set ?_ GE251.out) | exact HB.out)⟩⟩
  case round =>
    clear H'
    try clear c2
    try clear p2
    try clear hcz4_0
    try clear hcz4_1
    try clear hcz4_2
    try clear hfz4_0
    try clear hfz4_1
    try clear hfz4_2
    obtain ⟨x8_1, x9_1, x10_1, rfl, rfl, rfl, HA, HK1, BK251, HB⟩ := hrel
    cases gk with
    | zero => exact absurd HA.out (by simp [carillonref13_Last.l0])
    | succ k1 =>
      have H := HA.out
      clear HA
      simp only [carillonref13_Last.l0] at H
      by_cases c5 : x10_1 < (l0_0.length : Int)
      · rw [if_pos c5] at H
        have c5b0 : decide (x10_1 < (l0_0.length : Int)) = true := decide_eq_true c5
        clear c5
        by_cases c6 : 0 ≤ x10_1
        · rw [if_pos c6] at H
          have c6b0 : decide (0 ≤ x10_1) = true := decide_eq_true c6
          clear c6
          by_cases c7 : x10_1 < (l0_0.length : Int)
          · rw [if_pos c7] at H
            have c7b0 : decide (x10_1 < (l0_0.length : Int)) = true := decide_eq_true c7
            clear c7
            obtain ⟨bq8, hbq8⟩ : ∃ b_ : Bool, b_ = ((rd_T26 l0_0 x10_1).f0) := ⟨_, rfl⟩
            replace H : (if (bq8 = true) then (carillonref13_Last.l0 k1 a1 (l0_1.length : Int) (l0_0.length : Int) x8_1 x9_1 (wrap64 (x10_1 + 1)) l0_0 l0_1 a0_2) else (if ((rd_T26 l0_0 x10_1).f2) = a1 then (carillonref13_Last.l0 k1 a1 (l0_1.length : Int) (l0_0.length : Int) x10_1 true (wrap64 (x10_1 + 1)) l0_0 l0_1 a0_2) else (carillonref13_Last.l0 k1 a1 (l0_1.length : Int) (l0_0.length : Int) x8_1 x9_1 (wrap64 (x10_1 + 1)) l0_0 l0_1 a0_2))) = some (r1, r2) := by rw [← hbq8] at H; exact H
            have Nbq8 := Aside0.mk hbq8
            clear hbq8
            by_cases c9 : (bq8 = true)
            · subst c9
              have H1 : (carillonref13_Last.l0 k1 a1 (l0_1.length : Int) (l0_0.length : Int) x8_1 x9_1 (wrap64 (x10_1 + 1)) l0_0 l0_1 a0_2) = some (r1, r2) := by rw [if_pos rfl] at H; exact H
              clear H
              have H := H1
              clear H1
              have H' := Aside0.mk H
              clear H
              have hcz10_0 : wr.cell? ⟨gb251, 0, none⟩ = some (.slice A0_0 l0_0.length c0_0) := (blk_cell BK251.out 0).trans rfl
              have hcz10_1 : wr.cell? ⟨gb251, 1, none⟩ = some (.slice A0_1 l0_1.length c0_1) := (blk_cell BK251.out 1).trans rfl
              have hcz10_2 : wr.cell? ⟨gb251, 2, none⟩ = some (.int .i64 a0_2) := (blk_cell BK251.out 2).trans rfl
              have hfz10_0 := blk_frozen BK251.out 0
              have hfz10_1 := blk_frozen BK251.out 1
              have hfz10_2 := blk_frozen BK251.out 2
              have p252 : 0 ≤ (x10_1 : Int) := of_decide_eq_true (by first | (with_reducible assumption) | assumption)
              have q252 : x10_1 < (l0_0.length : Int) := of_decide_eq_true (by first | (with_reducible assumption) | assumption)
              obtain ⟨ad252, e252, hx252_0, hx252_1, hx252_2⟩ := at_T26 HR0_0.out x10_1 p252 q252
              (try rw [← Nbq8.out] at hx252_0)
              cases e252
              replace hx252_0 := (HB.out.cell (World.block_lt_of_cell? w _ hx252_0)).trans hx252_0
              replace hx252_1 := (HB.out.cell (World.block_lt_of_cell? w _ hx252_1)).trans hx252_1
              replace hx252_2 := (HB.out.cell (World.block_lt_of_cell? w _ hx252_2)).trans hx252_2
              replace p252 := eq_true p252
              replace q252 := eq_true q252
              go_wp2
              go_roundg k1
              case measure => have := HK1.out; omega
              case rel => exact ⟨(x8_1), (x9_1), (wrap64 (x10_1 + 1)), (by first | rfl | (simp; done) | (simp [*]; done)), (by first | rfl | (simp; done) | (simp [*]; done)), (by first | rfl | (simp; done) | (simp [*]; done)), H', ⟨by have := HK1.out; omega⟩, ⟨by (with_reducible repeat (first | refine blk_drewN ?_ _ | refine blk_drew ?_ | refine blk_alloc ?_ _)); exact BK251.out⟩, ⟨by repeat (first | (with_reducible first | exact HB.out | apply below_alloc | apply pw_below_drewN | apply below_drew1 | refine below_set ?_ GE251.out) | exact HB.out)⟩⟩
            · replace c9 := Bool.eq_false_iff.mpr c9
              subst c9
              have H1 : (if ((rd_T26 l0_0 x10_1).f2) = a1 then (carillonref13_Last.l0 k1 a1 (l0_1.length : Int) (l0_0.length : Int) x10_1 true (wrap64 (x10_1 + 1)) l0_0 l0_1 a0_2) else (carillonref13_Last.l0 k1 a1 (l0_1.length : Int) (l0_0.length : Int) x8_1 x9_1 (wrap64 (x10_1 + 1)) l0_0 l0_1 a0_2)) = some (r1, r2) := by rw [if_neg (show ¬ (false = true) by decide)] at H; exact H
              clear H
              have H := H1
              clear H1
              by_cases c11 : ((rd_T26 l0_0 x10_1).f2) = a1
              · rw [if_pos c11] at H
                have c11b0 : (((rd_T26 l0_0 x10_1).f2) == a1) = true := beq_iff_eq.mpr c11
                have c11b1 : (((rd_T26 l0_0 x10_1).f2) != a1) = false := bne_eq_false_iff_eq.mpr c11
                clear c11
                have H' := Aside0.mk H
                clear H
                have hcz12_0 : wr.cell? ⟨gb251, 0, none⟩ = some (.slice A0_0 l0_0.length c0_0) := (blk_cell BK251.out 0).trans rfl
                have hcz12_1 : wr.cell? ⟨gb251, 1, none⟩ = some (.slice A0_1 l0_1.length c0_1) := (blk_cell BK251.out 1).trans rfl
                have hcz12_2 : wr.cell? ⟨gb251, 2, none⟩ = some (.int .i64 a0_2) := (blk_cell BK251.out 2).trans rfl
                have hfz12_0 := blk_frozen BK251.out 0
                have hfz12_1 := blk_frozen BK251.out 1
                have hfz12_2 := blk_frozen BK251.out 2
                have p252 : 0 ≤ (x10_1 : Int) := of_decide_eq_true (by first | (with_reducible assumption) | assumption)
                have q252 : x10_1 < (l0_0.length : Int) := of_decide_eq_true (by first | (with_reducible assumption) | assumption)
                obtain ⟨ad252, e252, hx252_0, hx252_1, hx252_2⟩ := at_T26 HR0_0.out x10_1 p252 q252
                (try rw [← Nbq8.out] at hx252_0)
                cases e252
                replace hx252_0 := (HB.out.cell (World.block_lt_of_cell? w _ hx252_0)).trans hx252_0
                replace hx252_1 := (HB.out.cell (World.block_lt_of_cell? w _ hx252_1)).trans hx252_1
                replace hx252_2 := (HB.out.cell (World.block_lt_of_cell? w _ hx252_2)).trans hx252_2
                replace p252 := eq_true p252
                replace q252 := eq_true q252
                have p253 : 0 ≤ (x10_1 : Int) := of_decide_eq_true (by first | (with_reducible assumption) | assumption)
                have q253 : x10_1 < (l0_0.length : Int) := of_decide_eq_true (by first | (with_reducible assumption) | assumption)
                obtain ⟨ad253, e253, hx253_0, hx253_1, hx253_2⟩ := at_T26 HR0_0.out x10_1 p253 q253
                (try rw [← Nbq8.out] at hx253_0)
                obtain rfl : ad252 = ad253 := (by injection e253)
                replace hx253_0 := (HB.out.cell (World.block_lt_of_cell? w _ hx253_0)).trans hx253_0
                replace hx253_1 := (HB.out.cell (World.block_lt_of_cell? w _ hx253_1)).trans hx253_1
                replace hx253_2 := (HB.out.cell (World.block_lt_of_cell? w _ hx253_2)).trans hx253_2
                replace p253 := eq_true p253
                replace q253 := eq_true q253
                go_wp2
                go_roundg k1
                case measure => have := HK1.out; omega
                case rel => exact ⟨(x10_1), (true), (wrap64 (x10_1 + 1)), (by first | rfl | (simp; done) | (simp [*]; done)), (by first | rfl | (simp; done) | (simp [*]; done)), (by first | rfl | (simp; done) | (simp [*]; done)), H', ⟨by have := HK1.out; omega⟩, ⟨by (with_reducible repeat (first | refine blk_drewN ?_ _ | refine blk_drew ?_ | refine blk_alloc ?_ _)); exact BK251.out⟩, ⟨by repeat (first | (with_reducible first | exact HB.out | apply below_alloc | apply pw_below_drewN | apply below_drew1 | refine below_set ?_ GE251.out) | exact HB.out)⟩⟩
              · rw [if_neg c11] at H
                have c11b0 : (((rd_T26 l0_0 x10_1).f2) == a1) = false := beq_eq_false_iff_ne.mpr c11
                have c11b1 : (((rd_T26 l0_0 x10_1).f2) != a1) = true := bne_iff_ne.mpr c11
                have H' := Aside0.mk H
                clear H
                have hcz13_0 : wr.cell? ⟨gb251, 0, none⟩ = some (.slice A0_0 l0_0.length c0_0) := (blk_cell BK251.out 0).trans rfl
                have hcz13_1 : wr.cell? ⟨gb251, 1, none⟩ = some (.slice A0_1 l0_1.length c0_1) := (blk_cell BK251.out 1).trans rfl
                have hcz13_2 : wr.cell? ⟨gb251, 2, none⟩ = some (.int .i64 a0_2) := (blk_cell BK251.out 2).trans rfl
                have hfz13_0 := blk_frozen BK251.out 0
                have hfz13_1 := blk_frozen BK251.out 1
                have hfz13_2 := blk_frozen BK251.out 2
                have p252 : 0 ≤ (x10_1 : Int) := of_decide_eq_true (by first | (with_reducible assumption) | assumption)
                have q252 : x10_1 < (l0_0.length : Int) := of_decide_eq_true (by first | (with_reducible assumption) | assumption)
                obtain ⟨ad252, e252, hx252_0, hx252_1, hx252_2⟩ := at_T26 HR0_0.out x10_1 p252 q252
                (try rw [← Nbq8.out] at hx252_0)
                cases e252
                replace hx252_0 := (HB.out.cell (World.block_lt_of_cell? w _ hx252_0)).trans hx252_0
                replace hx252_1 := (HB.out.cell (World.block_lt_of_cell? w _ hx252_1)).trans hx252_1
                replace hx252_2 := (HB.out.cell (World.block_lt_of_cell? w _ hx252_2)).trans hx252_2
                replace p252 := eq_true p252
                replace q252 := eq_true q252
                have p253 : 0 ≤ (x10_1 : Int) := of_decide_eq_true (by first | (with_reducible assumption) | assumption)
                have q253 : x10_1 < (l0_0.length : Int) := of_decide_eq_true (by first | (with_reducible assumption) | assumption)
                obtain ⟨ad253, e253, hx253_0, hx253_1, hx253_2⟩ := at_T26 HR0_0.out x10_1 p253 q253
                (try rw [← Nbq8.out] at hx253_0)
                obtain rfl : ad252 = ad253 := (by injection e253)
                replace hx253_0 := (HB.out.cell (World.block_lt_of_cell? w _ hx253_0)).trans hx253_0
                replace hx253_1 := (HB.out.cell (World.block_lt_of_cell? w _ hx253_1)).trans hx253_1
                replace hx253_2 := (HB.out.cell (World.block_lt_of_cell? w _ hx253_2)).trans hx253_2
                replace p253 := eq_true p253
                replace q253 := eq_true q253
                go_wp2
                go_roundg k1
                case measure => have := HK1.out; omega
                case rel => exact ⟨(x8_1), (x9_1), (wrap64 (x10_1 + 1)), (by first | rfl | (simp; done) | (simp [*]; done)), (by first | rfl | (simp; done) | (simp [*]; done)), (by first | rfl | (simp; done) | (simp [*]; done)), H', ⟨by have := HK1.out; omega⟩, ⟨by (with_reducible repeat (first | refine blk_drewN ?_ _ | refine blk_drew ?_ | refine blk_alloc ?_ _)); exact BK251.out⟩, ⟨by repeat (first | (with_reducible first | exact HB.out | apply below_alloc | apply pw_below_drewN | apply below_drew1 | refine below_set ?_ GE251.out) | exact HB.out)⟩⟩
          · rw [if_neg c7] at H
            exact absurd H (by simp)
        · rw [if_neg c6] at H
          exact absurd H (by simp)
      · rw [if_neg c5] at H
        have c5b0 : decide (x10_1 < (l0_0.length : Int)) = false := decide_eq_false c5
        clear c5
        have H' := Aside0.mk H
        clear H
        go_wp2
        go_loopg [8, 9, 11] k1 (fun kq v8 v9 v11 w' => ∃ (x8_2 : Int) (x9_2 : Bool) (x11_2 : Int), v8 = .int .i64 x8_2 ∧ v9 = .bool x9_2 ∧ v11 = .int .i64 x11_2 ∧ Aside0 (carillonref13_Last.l1 kq a1 (l0_1.length : Int) (l0_0.length : Int) x8_2 x9_2 x11_2 l0_0 l0_1 a0_2 = some (r1, r2)) ∧ Aside0 (kq ≤ k1) ∧ Aside0 (w'.heap[gb251]? = some (.cells #[(.slice A0_0 l0_0.length c0_0), (.slice A0_1 l0_1.length c0_1), .int .i64 a0_2] 32 (0, 0))) ∧ Aside0 (Below w.heap.size w w'))
        case atStart => exact ⟨(x8_1), (x9_1), (0), (by first | rfl | (simp; done) | (simp [*]; done)), (by first | rfl | (simp; done) | (simp [*]; done)), (by first | rfl | (simp; done) | (simp [*]; done)), H', ⟨Nat.le_refl _⟩, ⟨by (with_reducible repeat (first | refine blk_drewN ?_ _ | refine blk_drew ?_ | refine blk_alloc ?_ _)); exact BK251.out⟩, ⟨by repeat (first | (with_reducible first | exact HB.out | apply below_alloc | apply pw_below_drewN | apply below_drew1 | refine below_set ?_ GE251.out) | exact HB.out)⟩⟩
        case round =>
          clear H'
          try clear c1
          try clear c2
          try clear p2
          try clear q2
          try clear hx2
          try clear c5
          try clear c5b0
          try clear c6
          try clear c6b0
          try clear p6
          try clear c7
          try clear c7b0
          try clear q8
          try clear c9
          try clear c11
          try clear c11b0
          try clear c11b1
          try clear hcz10_0
          try clear hcz10_1
          try clear hcz10_2
          try clear hcz12_0
          try clear hcz12_1
          try clear hcz12_2
          try clear hcz13_0
          try clear hcz13_1
          try clear hcz13_2
          try clear hcz4_0
          try clear hcz4_1
          try clear hcz4_2
          try clear hfz10_0
          try clear hfz10_1
          try clear hfz10_2
          try clear hfz12_0
          try clear hfz12_1
          try clear hfz12_2
          try clear hfz13_0
          try clear hfz13_1
          try clear hfz13_2
          try clear hfz4_0
          try clear hfz4_1
          try clear hfz4_2
          try clear hx252_0
          try clear hx252_1
          try clear hx252_2
          try clear hx253_0
          try clear hx253_1
          try clear hx253_2
          try clear p2
          try clear p252
          try clear p253
          try clear q252
          try clear q253
          obtain ⟨x8_2, x9_2, x11_2, rfl, rfl, rfl, HA, HK2, BK251, HB⟩ := hrel
          cases gk with
          | zero => exact absurd HA.out (by simp [carillonref13_Last.l1])
          | succ k2 =>
            have H := HA.out
            clear HA
            simp only [carillonref13_Last.l1] at H
            by_cases c14 : x11_2 < (l0_1.length : Int)
            · rw [if_pos c14] at H
              have c14b0 : decide (x11_2 < (l0_1.length : Int)) = true := decide_eq_true c14
              clear c14
              by_cases c15 : 0 ≤ x11_2
              · rw [if_pos c15] at H
                have c15b0 : decide (0 ≤ x11_2) = true := decide_eq_true c15
                clear c15
                by_cases c16 : x11_2 < (l0_1.length : Int)
                · rw [if_pos c16] at H
                  have c16b0 : decide (x11_2 < (l0_1.length : Int)) = true := decide_eq_true c16
                  clear c16
                  have HC17 := Aside0.mk H
                  clear H
                  have hcz18_0 : wr.cell? ⟨gb251, 0, none⟩ = some (.slice A0_0 l0_0.length c0_0) := (blk_cell BK251.out 0).trans rfl
                  have hcz18_1 : wr.cell? ⟨gb251, 1, none⟩ = some (.slice A0_1 l0_1.length c0_1) := (blk_cell BK251.out 1).trans rfl
                  have hcz18_2 : wr.cell? ⟨gb251, 2, none⟩ = some (.int .i64 a0_2) := (blk_cell BK251.out 2).trans rfl
                  have hfz18_0 := blk_frozen BK251.out 0
                  have hfz18_1 := blk_frozen BK251.out 1
                  have hfz18_2 := blk_frozen BK251.out 2
                  have p254 : 0 ≤ (x11_2 : Int) := of_decide_eq_true (by first | (with_reducible assumption) | assumption)
                  have q254 : x11_2 < (l0_1.length : Int) := of_decide_eq_true (by first | (with_reducible assumption) | assumption)
                  obtain ⟨ad254, e254, hx254_0, hx254_1, hx254_2⟩ := at_T26 HR0_1.out x11_2 p254 q254
                  cases e254
                  replace hx254_0 := (HB.out.cell (World.block_lt_of_cell? w _ hx254_0)).trans hx254_0
                  replace hx254_1 := (HB.out.cell (World.block_lt_of_cell? w _ hx254_1)).trans hx254_1
                  replace hx254_2 := (HB.out.cell (World.block_lt_of_cell? w _ hx254_2)).trans hx254_2
                  replace p254 := eq_true p254
                  replace q254 := eq_true q254
                  go_upto_region 14 with (fail)
                  go_cut [64] (fun v64 wc => ∃ (kq : Nat) (x64_16 : Bool), v64 = .bool x64_16 ∧ Aside0 (carillonref13_Last.j2 kq a1 (l0_1.length : Int) (l0_0.length : Int) x8_2 x9_2 x11_2 (wrap64 (a1 - ((rd_T26 l0_1 x11_2).f2))) x64_16 l0_0 l0_1 a0_2 = some (r1, r2)) ∧ Aside0 (kq ≤ k2) ∧ Aside0 (wc.heap[gb251]? = some (.cells #[(.slice A0_0 l0_0.length c0_0), (.slice (some ad254) l0_1.length c0_1), .int .i64 a0_2] 32 (0, 0))) ∧ Aside0 (Below w.heap.size w wc))
                  case first =>
                    have H := HC17.out
                    clear HC17
                    by_cases c19 : (wrap64 (a1 - ((rd_T26 l0_1 x11_2).f2))) ≥ 0
                    · rw [if_pos c19] at H
                      have c19b0 : decide (0 ≤ (wrap64 (a1 - ((rd_T26 l0_1 x11_2).f2)))) = true := decide_eq_true c19
                      clear c19
                      (first | rw [c19b0] | (simp only [i64_w, i32_w]; rw [c19b0]) | skip)
                      by_cases c20 : a0_2 = 0
                      · rw [if_pos c20] at H
                        exact absurd H (by simp)
                      · rw [if_neg c20] at H
                        have c20b0 : (a0_2 == 0) = false := beq_eq_false_iff_ne.mpr c20
                        have c20b1 : (a0_2 != 0) = true := bne_iff_ne.mpr c20
                        have H' := Aside0.mk H
                        clear H
                        have hcz21_0 : wr.cell? ⟨gb251, 0, none⟩ = some (.slice A0_0 l0_0.length c0_0) := (blk_cell BK251.out 0).trans rfl
                        have hcz21_1 : wr.cell? ⟨gb251, 1, none⟩ = some (.slice (some ad254) l0_1.length c0_1) := (blk_cell BK251.out 1).trans rfl
                        have hcz21_2 : wr.cell? ⟨gb251, 2, none⟩ = some (.int .i64 a0_2) := (blk_cell BK251.out 2).trans rfl
                        have hfz21_0 := blk_frozen BK251.out 0
                        have hfz21_1 := blk_frozen BK251.out 1
                        have hfz21_2 := blk_frozen BK251.out 2
                        go_wp2
                        go_meet
                        case rel => exact ⟨_, (((Int.tmod (wrap64 (a1 - ((rd_T26 l0_1 x11_2).f2))) a0_2) == 0)), (by first | rfl | (simp; done) | (simp [*]; done)), H', ⟨by have := HK1.out; have := HK2.out; first | omega | exact Nat.le_refl _⟩, ⟨by (with_reducible repeat (first | refine blk_drewN ?_ _ | refine blk_drew ?_ | refine blk_alloc ?_ _)); exact BK251.out⟩, ⟨by repeat (first | (with_reducible first | exact HB.out | apply below_alloc | apply pw_below_drewN | apply below_drew1 | refine below_set ?_ GE251.out) | exact HB.out)⟩⟩
                    · rw [if_neg c19] at H
                      have c19b0 : decide (0 ≤ (wrap64 (a1 - ((rd_T26 l0_1 x11_2).f2)))) = false := decide_eq_false c19
                      clear c19
                      (first | rw [c19b0] | (simp only [i64_w, i32_w]; rw [c19b0]) | skip)
                      have H' := Aside0.mk H
                      clear H
                      go_wp2
                      go_meet
                      case rel => exact ⟨_, (false), (by first | rfl | (simp; done) | (simp [*]; done)), H', ⟨by have := HK1.out; have := HK2.out; first | omega | exact Nat.le_refl _⟩, ⟨by (with_reducible repeat (first | refine blk_drewN ?_ _ | refine blk_drew ?_ | refine blk_alloc ?_ _)); exact BK251.out⟩, ⟨by repeat (first | (with_reducible first | exact HB.out | apply below_alloc | apply pw_below_drewN | apply below_drew1 | refine below_set ?_ GE251.out) | exact HB.out)⟩⟩
                  case rest =>
                    clear HC17
                    try clear c1
                    try clear c2
                    try clear p2
                    try clear q2
                    try clear hx2
                    try clear c5
                    try clear c5b0
                    try clear c6
                    try clear c6b0
                    try clear p6
                    try clear c7
                    try clear c7b0
                    try clear q8
                    try clear c9
                    try clear c11
                    try clear c11b0
                    try clear c11b1
                    try clear c14
                    try clear c14b0
                    try clear c15
                    try clear c15b0
                    try clear c16
                    try clear c16b0
                    try clear c19
                    try clear c19b0
                    try clear c20
                    try clear c20b0
                    try clear c20b1
                    try clear hcz10_0
                    try clear hcz10_1
                    try clear hcz10_2
                    try clear hcz12_0
                    try clear hcz12_1
                    try clear hcz12_2
                    try clear hcz13_0
                    try clear hcz13_1
                    try clear hcz13_2
                    try clear hcz18_0
                    try clear hcz18_1
                    try clear hcz18_2
                    try clear hcz21_0
                    try clear hcz21_1
                    try clear hcz21_2
                    try clear hcz4_0
                    try clear hcz4_1
                    try clear hcz4_2
                    try clear hfz10_0
                    try clear hfz10_1
                    try clear hfz10_2
                    try clear hfz12_0
                    try clear hfz12_1
                    try clear hfz12_2
                    try clear hfz13_0
                    try clear hfz13_1
                    try clear hfz13_2
                    try clear hfz18_0
                    try clear hfz18_1
                    try clear hfz18_2
                    try clear hfz21_0
                    try clear hfz21_1
                    try clear hfz21_2
                    try clear hfz4_0
                    try clear hfz4_1
                    try clear hfz4_2
                    try clear hx252_0
                    try clear hx252_1
                    try clear hx252_2
                    try clear hx253_0
                    try clear hx253_1
                    try clear hx253_2
                    try clear hx254_0
                    try clear hx254_1
                    try clear hx254_2
                    try clear p2
                    try clear p252
                    try clear p253
                    try clear p254
                    try clear p6
                    try clear q2
                    try clear q252
                    try clear q253
                    try clear q254
                    try clear q8
                    obtain ⟨kq, x64_16, rfl, HA, HJ16, BK251, HB⟩ := hcut
                    cases kq with
                    | zero => exact absurd HA.out (by simp [carillonref13_Last.j2])
                    | succ kj16 =>
                      have H := HA.out
                      clear HA
                      simp only [carillonref13_Last.j2] at H
                      by_cases c22 : x64_16 = true
                      · subst c22
                        have H1 : (if a0_2 = 0 then (none) else (if x9_2 = true then (if (wrap64 ((wrap64 ((l0_0.length : Int) + (wrap64 ((wrap64 (Int.tdiv (wrap64 (a1 - ((rd_T26 l0_1 x11_2).f2))) a0_2)) * (l0_1.length : Int))))) + x11_2)) > x8_2 then (carillonref13_Last.l1 kj16 a1 (l0_1.length : Int) (l0_0.length : Int) (wrap64 ((wrap64 ((l0_0.length : Int) + (wrap64 ((wrap64 (Int.tdiv (wrap64 (a1 - ((rd_T26 l0_1 x11_2).f2))) a0_2)) * (l0_1.length : Int))))) + x11_2)) true (wrap64 (x11_2 + 1)) l0_0 l0_1 a0_2) else (carillonref13_Last.l1 kj16 a1 (l0_1.length : Int) (l0_0.length : Int) x8_2 x9_2 (wrap64 (x11_2 + 1)) l0_0 l0_1 a0_2)) else (carillonref13_Last.l1 kj16 a1 (l0_1.length : Int) (l0_0.length : Int) (wrap64 ((wrap64 ((l0_0.length : Int) + (wrap64 ((wrap64 (Int.tdiv (wrap64 (a1 - ((rd_T26 l0_1 x11_2).f2))) a0_2)) * (l0_1.length : Int))))) + x11_2)) true (wrap64 (x11_2 + 1)) l0_0 l0_1 a0_2))) = some (r1, r2) := by rw [if_pos rfl] at H; exact H
                        clear H
                        have H := H1
                        clear H1
                        by_cases c23 : a0_2 = 0
                        · rw [if_pos c23] at H
                          exact absurd H (by simp)
                        · rw [if_neg c23] at H
                          have c23b0 : (a0_2 == 0) = false := beq_eq_false_iff_ne.mpr c23
                          have c23b1 : (a0_2 != 0) = true := bne_iff_ne.mpr c23
                          by_cases c24 : x9_2 = true
                          · subst c24
                            have H1 : (if (wrap64 ((wrap64 ((l0_0.length : Int) + (wrap64 ((wrap64 (Int.tdiv (wrap64 (a1 - ((rd_T26 l0_1 x11_2).f2))) a0_2)) * (l0_1.length : Int))))) + x11_2)) > x8_2 then (carillonref13_Last.l1 kj16 a1 (l0_1.length : Int) (l0_0.length : Int) (wrap64 ((wrap64 ((l0_0.length : Int) + (wrap64 ((wrap64 (Int.tdiv (wrap64 (a1 - ((rd_T26 l0_1 x11_2).f2))) a0_2)) * (l0_1.length : Int))))) + x11_2)) true (wrap64 (x11_2 + 1)) l0_0 l0_1 a0_2) else (carillonref13_Last.l1 kj16 a1 (l0_1.length : Int) (l0_0.length : Int) x8_2 true (wrap64 (x11_2 + 1)) l0_0 l0_1 a0_2)) = some (r1, r2) := by rw [if_pos rfl] at H; exact H
                            clear H
                            have H := H1
                            clear H1
                            by_cases c25 : (wrap64 ((wrap64 ((l0_0.length : Int) + (wrap64 ((wrap64 (Int.tdiv (wrap64 (a1 - ((rd_T26 l0_1 x11_2).f2))) a0_2)) * (l0_1.length : Int))))) + x11_2)) > x8_2
                            · rw [if_pos c25] at H
                              have c25b0 : decide (x8_2 < (wrap64 ((wrap64 ((l0_0.length : Int) + (wrap64 ((wrap64 (Int.tdiv (wrap64 (a1 - ((rd_T26 l0_1 x11_2).f2))) a0_2)) * (l0_1.length : Int))))) + x11_2))) = true := decide_eq_true c25
                              clear c25
                              have H' := Aside0.mk H
                              clear H
                              have hcz26_0 : wc.cell? ⟨gb251, 0, none⟩ = some (.slice A0_0 l0_0.length c0_0) := (blk_cell BK251.out 0).trans rfl
                              have hcz26_1 : wc.cell? ⟨gb251, 1, none⟩ = some (.slice (some ad254) l0_1.length c0_1) := (blk_cell BK251.out 1).trans rfl
                              have hcz26_2 : wc.cell? ⟨gb251, 2, none⟩ = some (.int .i64 a0_2) := (blk_cell BK251.out 2).trans rfl
                              have hfz26_0 := blk_frozen BK251.out 0
                              have hfz26_1 := blk_frozen BK251.out 1
                              have hfz26_2 := blk_frozen BK251.out 2
                              go_wp2
                              go_roundg kj16
                              case measure => have := HK1.out; have := HK2.out; have := HJ16.out; omega
                              case rel => exact ⟨(wrap64 ((wrap64 ((l0_0.length : Int) + (wrap64 ((wrap64 (Int.tdiv (wrap64 (a1 - ((rd_T26 l0_1 x11_2).f2))) a0_2)) * (l0_1.length : Int))))) + x11_2)), (true), (wrap64 (x11_2 + 1)), (by first | rfl | (simp; done) | (simp [*]; done)), (by first | rfl | (simp; done) | (simp [*]; done)), (by first | rfl | (simp; done) | (simp [*]; done)), H', ⟨by have := HK1.out; have := HK2.out; have := HJ16.out; omega⟩, ⟨by (with_reducible repeat (first | refine blk_drewN ?_ _ | refine blk_drew ?_ | refine blk_alloc ?_ _)); exact BK251.out⟩, ⟨by repeat (first | (with_reducible first | exact HB.out | apply below_alloc | apply pw_below_drewN | apply below_drew1 | refine below_set ?_ GE251.out) | exact HB.out)⟩⟩
                            · rw [if_neg c25] at H
                              have c25b0 : decide (x8_2 < (wrap64 ((wrap64 ((l0_0.length : Int) + (wrap64 ((wrap64 (Int.tdiv (wrap64 (a1 - ((rd_T26 l0_1 x11_2).f2))) a0_2)) * (l0_1.length : Int))))) + x11_2))) = false := decide_eq_false c25
                              clear c25
                              have H' := Aside0.mk H
                              clear H
                              have hcz27_0 : wc.cell? ⟨gb251, 0, none⟩ = some (.slice A0_0 l0_0.length c0_0) := (blk_cell BK251.out 0).trans rfl
                              have hcz27_1 : wc.cell? ⟨gb251, 1, none⟩ = some (.slice (some ad254) l0_1.length c0_1) := (blk_cell BK251.out 1).trans rfl
                              have hcz27_2 : wc.cell? ⟨gb251, 2, none⟩ = some (.int .i64 a0_2) := (blk_cell BK251.out 2).trans rfl
                              have hfz27_0 := blk_frozen BK251.out 0
                              have hfz27_1 := blk_frozen BK251.out 1
                              have hfz27_2 := blk_frozen BK251.out 2
                              go_wp2
                              go_roundg kj16
                              case measure => have := HK1.out; have := HK2.out; have := HJ16.out; omega
                              case rel => exact ⟨(x8_2), (true), (wrap64 (x11_2 + 1)), (by first | rfl | (simp; done) | (simp [*]; done)), (by first | rfl | (simp; done) | (simp [*]; done)), (by first | rfl | (simp; done) | (simp [*]; done)), H', ⟨by have := HK1.out; have := HK2.out; have := HJ16.out; omega⟩, ⟨by (with_reducible repeat (first | refine blk_drewN ?_ _ | refine blk_drew ?_ | refine blk_alloc ?_ _)); exact BK251.out⟩, ⟨by repeat (first | (with_reducible first | exact HB.out | apply below_alloc | apply pw_below_drewN | apply below_drew1 | refine below_set ?_ GE251.out) | exact HB.out)⟩⟩
                          · replace c24 := Bool.eq_false_iff.mpr c24
                            subst c24
                            have H1 : (carillonref13_Last.l1 kj16 a1 (l0_1.length : Int) (l0_0.length : Int) (wrap64 ((wrap64 ((l0_0.length : Int) + (wrap64 ((wrap64 (Int.tdiv (wrap64 (a1 - ((rd_T26 l0_1 x11_2).f2))) a0_2)) * (l0_1.length : Int))))) + x11_2)) true (wrap64 (x11_2 + 1)) l0_0 l0_1 a0_2) = some (r1, r2) := by rw [if_neg (show ¬ (false = true) by decide)] at H; exact H
                            clear H
                            have H := H1
                            clear H1
                            have H' := Aside0.mk H
                            clear H
                            have hcz28_0 : wc.cell? ⟨gb251, 0, none⟩ = some (.slice A0_0 l0_0.length c0_0) := (blk_cell BK251.out 0).trans rfl
                            have hcz28_1 : wc.cell? ⟨gb251, 1, none⟩ = some (.slice (some ad254) l0_1.length c0_1) := (blk_cell BK251.out 1).trans rfl
                            have hcz28_2 : wc.cell? ⟨gb251, 2, none⟩ = some (.int .i64 a0_2) := (blk_cell BK251.out 2).trans rfl
                            have hfz28_0 := blk_frozen BK251.out 0
                            have hfz28_1 := blk_frozen BK251.out 1
                            have hfz28_2 := blk_frozen BK251.out 2
                            go_wp2
                            go_roundg kj16
                            case measure => have := HK1.out; have := HK2.out; have := HJ16.out; omega
                            case rel => exact ⟨(wrap64 ((wrap64 ((l0_0.length : Int) + (wrap64 ((wrap64 (Int.tdiv (wrap64 (a1 - ((rd_T26 l0_1 x11_2).f2))) a0_2)) * (l0_1.length : Int))))) + x11_2)), (true), (wrap64 (x11_2 + 1)), (by first | rfl | (simp; done) | (simp [*]; done)), (by first | rfl | (simp; done) | (simp [*]; done)), (by first | rfl | (simp; done) | (simp [*]; done)), H', ⟨by have := HK1.out; have := HK2.out; have := HJ16.out; omega⟩, ⟨by (with_reducible repeat (first | refine blk_drewN ?_ _ | refine blk_drew ?_ | refine blk_alloc ?_ _)); exact BK251.out⟩, ⟨by repeat (first | (with_reducible first | exact HB.out | apply below_alloc | apply pw_below_drewN | apply below_drew1 | refine below_set ?_ GE251.out) | exact HB.out)⟩⟩
                      · replace c22 := Bool.eq_false_iff.mpr c22
                        subst c22
                        have H1 : (carillonref13_Last.l1 kj16 a1 (l0_1.length : Int) (l0_0.length : Int) x8_2 x9_2 (wrap64 (x11_2 + 1)) l0_0 l0_1 a0_2) = some (r1, r2) := by rw [if_neg (show ¬ (false = true) by decide)] at H; exact H
                        clear H
                        have H := H1
                        clear H1
                        have H' := Aside0.mk H
                        clear H
                        go_wp2
                        go_roundg kj16
                        case measure => have := HK1.out; have := HK2.out; have := HJ16.out; omega
                        case rel => exact ⟨(x8_2), (x9_2), (wrap64 (x11_2 + 1)), (by first | rfl | (simp; done) | (simp [*]; done)), (by first | rfl | (simp; done) | (simp [*]; done)), (by first | rfl | (simp; done) | (simp [*]; done)), H', ⟨by have := HK1.out; have := HK2.out; have := HJ16.out; omega⟩, ⟨by (with_reducible repeat (first | refine blk_drewN ?_ _ | refine blk_drew ?_ | refine blk_alloc ?_ _)); exact BK251.out⟩, ⟨by repeat (first | (with_reducible first | exact HB.out | apply below_alloc | apply pw_below_drewN | apply below_drew1 | refine below_set ?_ GE251.out) | exact HB.out)⟩⟩
                · rw [if_neg c16] at H
                  exact absurd H (by simp)
              · rw [if_neg c15] at H
                exact absurd H (by simp)
            · rw [if_neg c14] at H
              have c14b0 : decide (x11_2 < (l0_1.length : Int)) = false := decide_eq_false c14
              clear c14
              simp only [Option.some.injEq, Prod.mk.injEq] at H
              obtain ⟨rfl, rfl⟩ := H
              go_wp2
              go_ret2
              exact ⟨by first | rfl | (simp [errW_none, errW_some] <;> rfl) | (simp [*, errW_none, errW_some] <;> rfl), by repeat (first | (with_reducible first | exact HB.out | apply below_alloc | apply pw_below_drewN | apply below_drew1 | refine below_set ?_ GE251.out) | exact HB.out)⟩

end Go.Proofs.Ytdfpoemghnhlfaa.P
