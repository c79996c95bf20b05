/-
  deps.May: contract.
  Conditions: the dep's rows lie in memory.
-/
import Derived.Test.YtkabmpbfabgkfaaDc
import Derived.RangeFuncNested
import Derived.RangeFuncBox
import Derived.RangeFuncBound
import Derived.RangeFuncCalls
import Derived.RangeFuncLeaves
import Derived.Shelf.Abstract
import Derived.WalkKit
import Derived.OwnWalkIn
import Derived.TacticsInMore
import Derived.LoopNIn
import Derived.LoopIn
import Derived.Lib.Hide
set_option linter.unusedVariables false
set_option linter.unusedSimpArgs false
namespace Go.Proofs.Ytkabmpbfabgkfaa.P
open Go.RowKit Go.Shelf Go.Proofs.YtkabmpbfabgkfaaW.PrintWords Go.Proofs.YtkabmpbfabgkfaaW.PrintLast Go.Proofs.YtkabmpbfabgkfaaW.PrintMore
attribute [local go_sem] Oper.semAt_some
theorem no_undef {b : Bool} (h : some undef = some (Value.bool b)) : False := by cases h
theorem keep_refl (n₀ Bd : Nat) (W : World) : Keep n₀ Bd W W := ⟨Below.refl _ _, rfl⟩
theorem cell_of {W : World} {B t : Nat} {cs : Array Value} {fr : Nat × Nat} (h : W.heap[B]? = some (.cells cs t fr)) (i : Nat) : W.cell? ⟨B, i, none⟩ = cs[i]? := by simp [World.cell?, h]
theorem froz_of {W : World} {B t : Nat} {cs : Array Value} (h : W.heap[B]? = some (.cells cs t (0, 0))) (i : Nat) : W.frozen? ⟨B, i, none⟩ = false := by simp [World.frozen?, h]
theorem all_snoc {n : Nat} {pre : List (Nat × S79)} {x : Nat × S79} (h : allMay n pre = true) : allMay n (pre ++ [x]) = mayS n x := by unfold allMay at *; simp [h]
theorem all_less {n m k : Nat} {f : Nat → Nat × S79} (hk : k ≤ m) (h : allMay n (upto f k) = false) : allMay n (upto f m) = false := by
  unfold allMay upto at *
  rw [List.all_eq_false] at *
  obtain ⟨x, hx, hb⟩ := h
  refine ⟨x, ?_, hb⟩
  obtain ⟨j, hj, rfl⟩ := List.mem_map.1 hx
  exact List.mem_map.2 ⟨j, List.mem_range.2 (Nat.lt_of_lt_of_le (List.mem_range.1 hj) hk), rfl⟩
set_option maxRecDepth 100000 in
set_option maxHeartbeats 8000000 in
theorem May_walk (F : Fence) (n : Nat) (h30 : F.fn 30) (h56 : F.fn 56) (h71 : F.fn 71) (hro : F.round = none) (hn : 4 ≤ n) (A0 A1 : Option Addr) (c0 c1 : Nat) (h l : List S79) (st : Int) (w : World) (hm : ¬ (l.length < 1 ∨ 4096 < l.length ∨ 4096 < h.length ∨ st < 0 ∨ 1099511627776 < st))
    (hr0 : Kd.C k79 w A0 h.length h) (hr1 : Kd.C k79 w A1 l.length l) :
    CallsIn F n Try.prog 30 #[.agg #[.slice A0 h.length c0, .slice A1 l.length c1, .int .i64 st]] w fun e W' => e = .returned (.bool (allMay h.length (upto (srcs h l) (h.length + l.length)))) ∧ Below w.heap.size w W' := by
  have h1 : 1 ≤ n := by omega
  have HR0 := Lib.hid hr0
  have HR1 := Lib.hid hr1
  have hlen : h.length + l.length ≤ 9223372036854775807 := by omega
  obtain ⟨n0, hn0⟩ : ∃ n0, n0 = h.length := ⟨_, rfl⟩
  obtain ⟨n1, hn1⟩ : ∃ n1, n1 = l.length := ⟨_, rfl⟩
  rw [← hn0, ← hn1] at hm hlen ⊢
  have HN0 := Lib.hid hn0
  have HN1 := Lib.hid hn1
  clear hn0 hn1 hr0 hr1
  have g0 : ¬ ((n1 : Int) < 1) := by omega
  have G0 : decide ((n1 : Int) < 1) = false := decide_eq_false g0
  have g1 : ¬ ((4096 : Int) < n1) := by omega
  have G1 : decide ((4096 : Int) < n1) = false := decide_eq_false g1
  have g2 : ¬ ((4096 : Int) < n0) := by omega
  have G2 : decide ((4096 : Int) < n0) = false := decide_eq_false g2
  have g3 : ¬ (st < 0) := by omega
  have G3 : decide (st < 0) = false := decide_eq_false g3
  have g4 : ¬ ((1099511627776 : Int) < st) := by omega
  have G4 : decide ((1099511627776 : Int) < st) = false := decide_eq_false g4
  clear hm
  refine callsIn_of_wp_marks Try.func30 rfl h30 ?_ hro
  simp only [Try.ntmps30, List.size_toArray, List.length_cons, List.length_nil, Nat.reduceAdd, Nat.reduceSub, Array.replicate_succ, Array.replicate_zero, List.push_toArray, List.append_toArray, List.nil_append, List.cons_append]
  gi_wp2_with (gi_at_call 56; refine (values_in F (n - 1) h56 hro _ _ _ _ _ _ _ _).mono ?_; rintro e w' ⟨rfl, rfl⟩)
  have bD := World.alloc_heap_new w (.cells #[.slice A0 n0 c0, .slice A1 n1 c1, .int .i64 st] 67)
  have bR := World.alloc_heap_new (w.alloc (.cells #[.slice A0 n0 c0, .slice A1 n1 c1, .int .i64 st] 67)) (.cells #[.bool false] 4)
  have bV := World.alloc_heap_new ((w.alloc (.cells #[.slice A0 n0 c0, .slice A1 n1 c1, .int .i64 st] 67)).alloc (.cells #[.bool false] 4)) (.cells #[.slice A0 n0 c0, .slice A1 n1 c1, .int .i64 st] 67)
  have bD2 := (Below.heap_alloc _ (.cells #[.bool false] 4) _ (Array.getElem?_eq_some_iff.1 bD).1).trans bD
  have bD3 := (Below.heap_alloc _ (.cells #[.slice A0 n0 c0, .slice A1 n1 c1, .int .i64 st] 67) _ (Array.getElem?_eq_some_iff.1 bD2).1).trans bD2
  have bR3 := (Below.heap_alloc _ (.cells #[.slice A0 n0 c0, .slice A1 n1 c1, .int .i64 st] 67) _ (Array.getElem?_eq_some_iff.1 bR).1).trans bR
  clear bD bR bD2
  simp only [World.size_alloc] at bV bR3
  have hB0 : Below w.heap.size w (((w.alloc (.cells #[.slice A0 n0 c0, .slice A1 n1 c1, .int .i64 st] 67)).alloc (.cells #[.bool false] 4)).alloc (.cells #[.slice A0 n0 c0, .slice A1 n1 c1, .int .i64 st] 67)) := (((Below.refl _ w).alloc (Nat.le_refl _) _).alloc (by simp) _).alloc (by simp; omega) _
  have hsz : (((w.alloc (.cells #[.slice A0 n0 c0, .slice A1 n1 c1, .int .i64 st] 67)).alloc (.cells #[.bool false] 4)).alloc (.cells #[.slice A0 n0 c0, .slice A1 n1 c1, .int .i64 st] 67)).heap.size = w.heap.size + 3 := by simp
  obtain ⟨W0, hW0⟩ : ∃ W0, ((w.alloc (.cells #[.slice A0 n0 c0, .slice A1 n1 c1, .int .i64 st] 67)).alloc (.cells #[.bool false] 4)).alloc (.cells #[.slice A0 n0 c0, .slice A1 n1 c1, .int .i64 st] 67) = W0 := ⟨_, rfl⟩
  rw [hW0] at bV bD3 bR3 hB0 hsz ⊢
  clear hW0
  have hst := values_stops (srcs h l) encS F (n - 1) h71 hro (by omega) (w.heap.size + 1 + 1) w.heap.size A0 A1 c0 c1 h l st W0 (fun _ _ => rfl) (by omega) (by omega) (by have := HN0.out; have := HN1.out; omega) (by rw [← HN0.out]; exact cell_of bV 0) (by rw [← HN1.out]; exact cell_of bV 1)
    (fun W' hb => Kd.C_below HR0.out (hB0.trans hb)) (fun W' hb => Kd.C_below HR1.out (hB0.trans hb))
  refine wpIn_rangeFunc_ownH hro h1 (gf := 71) (lb := #[.pointer (some ⟨w.heap.size + 1 + 1, 0, none⟩)]) rfl h71 (enters_of Try.func71 (by kernel_rfl) rfl)
    hst (fun a b => a.trans b) (keep_b (by omega) (by omega)) (Below.refl _ _) (fun _ => rfl)
    (fun pre W => ((W.heap[w.heap.size]? = some (.cells #[.slice A0 n0 c0, .slice A1 n1 c1, .int .i64 st] 67) ∧ (W.heap[w.heap.size + 1]? = some (.cells #[.bool false] 4) ∧ W.heap[w.heap.size + 1 + 1]? = some (.cells #[.slice A0 n0 c0, .slice A1 n1 c1, .int .i64 st] 67))) ∧ allMay n0 pre = true) ∧ Below w.heap.size w W)
    (fun c pre W => (W.heap[w.heap.size + 1]? = some (.cells #[.bool false] 4) ∧ (c = .ret ∧ allMay n0 pre = false)) ∧ Below w.heap.size w W)
    (OwnFrom.and (OwnFrom.and (OwnFrom.and (Own.from (blk_own _ _ (fun _ => rfl)) _) (OwnFrom.and (Own.from (blk_own _ _ (fun _ => rfl)) _) (Own.from (blk_own _ _ (fun _ => rfl)) _))) (ownFrom_pure _ _)) (ownFrom_below (Nat.le_refl _) (by omega)))
    (fun c => OwnFrom.and (OwnFrom.and (Own.from (blk_own _ _ (fun _ => rfl)) _) (ownFrom_pure _ _)) (ownFrom_below (Nat.le_refl _) (by omega)))
    ⟨⟨⟨bD3, bR3, bV⟩, rfl⟩, hB0⟩
    (fun x a' W => ∃ Bx, w.heap.size + 2 < Bx ∧ W.heap[Bx]? = some (.cells #[.bool x.2.f0, .int .i64 x.2.f1, .int .i64 x.2.f2] 79) ∧ ∃ u5 u6 u7 u8 u9 u10 u11 u12 u13 u14 u15 u16 u17 u18 u19 u20 u21 u22 u23 u24 u25 u26 u27 u28 u29 u30 u31 u32 u33 u34 u35 u36 u37 u38 u39 u40 u41 u42 u43 u44 u45 u46 u47 u48 u49 u50 u51 u52 u53 u54 u55 u56 u57 u58 u59 u60 u61 u62 u63 : Value, a' = { tmps := #[.agg #[.slice A0 n0 c0, .slice A1 n1 c1, .int .i64 st], .pointer (some ⟨w.heap.size, 0, none⟩), .pointer (some ⟨w.heap.size + 1, 0, none⟩), .int .i64 (x.1 : Int), .pointer (some ⟨Bx, 0, none⟩), u5, u6, u7, u8, u9, u10, u11, u12, u13, u14, u15, u16, u17, u18, u19, u20, u21, u22, u23, u24, u25, u26, u27, u28, u29, u30, u31, u32, u33, u34, u35, u36, u37, u38, u39, u40, u41, u42, u43, u44, u45, u46, u47, u48, u49, u50, u51, u52, u53, u54, u55, u56, u57, u58, u59, u60, u61, u62, u63], defers := [] })
    (fun x a' _ X Y row hs hg hr => by obtain ⟨Bx, h1, h2, h3⟩ := hs; exact ⟨Bx, h1, blk_own Bx (fun (_ : Unit) => Obj.cells #[.bool x.2.f0, .int .i64 x.2.f1, .int .i64 x.2.f2] 79) (fun _ => rfl) () X Y row h2 hg (fun r e => (hr r e).2), h3⟩)
    ?assign ?body ?done ?stop
  case assign =>
    rintro lp pre ⟨i, x⟩ W K ⟨⟨⟨b1, b2, b3⟩, hall⟩, hB⟩ hK
    unfold encS
    dsimp only
    gi_wp2
    have b1' := (Below.heap_alloc W (.cells #[.bool x.f0, .int .i64 x.f1, .int .i64 x.f2] 79) _ (Array.getElem?_eq_some_iff.1 b1).1).trans b1
    have b2' := (Below.heap_alloc W (.cells #[.bool x.f0, .int .i64 x.f1, .int .i64 x.f2] 79) _ (Array.getElem?_eq_some_iff.1 b2).1).trans b2
    have hs3 := hB.size
    have hs4 := (Array.getElem?_eq_some_iff.1 b3).1
    have b3' := (Below.heap_alloc W (.cells #[.bool x.f0, .int .i64 x.f1, .int .i64 x.f2] 79) _ hs4).trans b3
    exact hK _ _ ((KeepsOthers.alloc _ _).from _) ⟨(Below.refl _ W).alloc hB.size _, Below.heap_alloc W _ _ (by omega)⟩ ⟨⟨⟨b1', b2', b3'⟩, hall⟩, hB.alloc hB.size _⟩ ⟨W.heap.size, by omega, World.alloc_heap_new W _, _, _, _, _, _, _, _, _, _, _, _, _, _, _, _, _, _, _, _, _, _, _, _, _, _, _, _, _, _, _, _, _, _, _, _, _, _, _, _, _, _, _, _, _, _, _, _, _, _, _, _, _, _, _, _, _, _, _, _, rfl⟩
  case body =>
    rintro lp pre ⟨i, x⟩ a' W hl ⟨r, hr⟩ ⟨⟨⟨b1, b2, b3⟩, hall⟩, hB⟩ ⟨Bx, hBx, bX, u5, u6, u7, u8, u9, u10, u11, u12, u13, u14, u15, u16, u17, u18, u19, u20, u21, u22, u23, u24, u25, u26, u27, u28, u29, u30, u31, u32, u33, u34, u35, u36, u37, u38, u39, u40, u41, u42, u43, u44, u45, u46, u47, u48, u49, u50, u51, u52, u53, u54, u55, u56, u57, u58, u59, u60, u61, u62, u63, rfl⟩ hlt
    have hX0 := cell_of bX 0
    have hX1 := cell_of bX 1
    have hX2 := cell_of bX 2
    have hD0 := cell_of b1 0
    have hR0 := cell_of b2 0
    have hRf := froz_of b2 0
    dsimp only at hX0 hX1 hX2 hD0 hR0
    simp only [List.getElem?_toArray, List.getElem?_cons_zero, List.getElem?_cons_succ] at hX0 hX1 hX2 hD0 hR0
    have hsn := all_snoc (x := (i, x)) hall
    have HI : Hid (Below w.heap.size w W) := Lib.hid hB
    have HA := Lib.hid hsn
    have HB1 := Lib.hid b1
    have HB2 := Lib.hid b2
    have HB3 := Lib.hid b3
    have hlw : w.heap.size + 1 < W.heap.size := (Array.getElem?_eq_some_iff.1 b2).1
    clear hsn hall hB hr hl b1 b2 b3 bX
    obtain ⟨f0, f1, f2⟩ := x
    dsimp only at hX0 hX1 hX2
    by_cases a1 : f2 < 0
    · have d1 := decide_eq_true a1
      have hv : mayS n0 (i, ⟨f0, f1, f2⟩) = false := by simp [mayS, a1]
      gi_wp2
      all_goals (try exact (no_undef (by assumption)).elim)
      all_goals
       refine ⟨(KeepsOthers.setCell _ _ _).from _, ⟨?_, rfl, HA.out.trans hv⟩, HI.out.setCell (p := ⟨w.heap.size + 1, 0, none⟩) (Nat.le_succ _) _⟩
       simp only [World.setCell, Array.getElem?_modify, if_pos, HB2.out]
       rfl
    have d1 := decide_eq_false a1
    by_cases a2 : (1125899906842624 : Int) < f2
    · have d2 := decide_eq_true a2
      have hv : mayS n0 (i, ⟨f0, f1, f2⟩) = false := by simp [mayS, a2]
      gi_wp2
      all_goals (try exact (no_undef (by assumption)).elim)
      all_goals
       refine ⟨(KeepsOthers.setCell _ _ _).from _, ⟨?_, rfl, HA.out.trans hv⟩, HI.out.setCell (p := ⟨w.heap.size + 1, 0, none⟩) (Nat.le_succ _) _⟩
       simp only [World.setCell, Array.getElem?_modify, if_pos, HB2.out]
       rfl
    have d2 := decide_eq_false a2
    cases f0 with
    | true =>
      by_cases a3 : f2 = 0
      · subst a3
        by_cases a4 : n0 ≤ i
        · have d5 : decide ((i : Int) ≥ (n0 : Int)) = true := decide_eq_true (by omega)
          have d6 : (n0 : Int) ≤ i := by omega
          have hv : mayS n0 (i, ⟨true, f1, 0⟩) = false := by simp [mayS, a4]
          gi_wp2
          all_goals (try exact (no_undef (by assumption)).elim)
          all_goals
           refine ⟨(KeepsOthers.setCell _ _ _).from _, ⟨?_, rfl, HA.out.trans hv⟩, HI.out.setCell (p := ⟨w.heap.size + 1, 0, none⟩) (Nat.le_succ _) _⟩
           simp only [World.setCell, Array.getElem?_modify, if_pos, HB2.out]
           rfl
        · have d5 : decide ((i : Int) ≥ (n0 : Int)) = false := decide_eq_false (by omega)
          have d6 : ¬ ((n0 : Int) ≤ i) := by omega
          have hv : mayS n0 (i, ⟨true, f1, 0⟩) = true := by simp [mayS, a4]
          gi_wp2
          all_goals (try exact (no_undef (by assumption)).elim)
          all_goals first
            | exact ⟨KeepsFrom.refl _ _, keep_refl _ _ _, ⟨⟨HB1.out, HB2.out, HB3.out⟩, HA.out.trans hv⟩, HI.out⟩
            | exact ⟨(KeepsOthers.drew _).from _, keep_refl _ _ _, ⟨⟨HB1.out, HB2.out, HB3.out⟩, HA.out.trans hv⟩, HI.out⟩
      · have d3 : (f2 == 0) = false := by simpa using a3
        have d4 : (f2 != 0) = true := by simpa using a3
        have hv : mayS n0 (i, ⟨true, f1, f2⟩) = false := by simp [mayS, a3]
        gi_wp2
        all_goals (try exact (no_undef (by assumption)).elim)
        all_goals
         refine ⟨(KeepsOthers.setCell _ _ _).from _, ⟨?_, rfl, HA.out.trans hv⟩, HI.out.setCell (p := ⟨w.heap.size + 1, 0, none⟩) (Nat.le_succ _) _⟩
         simp only [World.setCell, Array.getElem?_modify, if_pos, HB2.out]
         rfl
    | false =>
      by_cases a3 : f1 = 0
      · subst a3
        have hv : mayS n0 (i, ⟨false, 0, f2⟩) = true := by simp [mayS, a1, a2]
        gi_wp2
        all_goals (try exact (no_undef (by assumption)).elim)
        all_goals first
          | exact ⟨KeepsFrom.refl _ _, keep_refl _ _ _, ⟨⟨HB1.out, HB2.out, HB3.out⟩, HA.out.trans hv⟩, HI.out⟩
          | exact ⟨(KeepsOthers.drew _).from _, keep_refl _ _ _, ⟨⟨HB1.out, HB2.out, HB3.out⟩, HA.out.trans hv⟩, HI.out⟩
      · have d3 : (f1 == 0) = false := by simpa using a3
        have d4 : (f1 != 0) = true := by simpa using a3
        have hv : mayS n0 (i, ⟨false, f1, f2⟩) = false := by simp [mayS, a3]
        gi_wp2
        all_goals (try exact (no_undef (by assumption)).elim)
        all_goals
         refine ⟨(KeepsOthers.setCell _ _ _).from _, ⟨?_, rfl, HA.out.trans hv⟩, HI.out.setCell (p := ⟨w.heap.size + 1, 0, none⟩) (Nat.le_succ _) _⟩
         simp only [World.setCell, Array.getElem?_modify, if_pos, HB2.out]
         rfl

  case done =>
    rintro D xs W hD rfl ⟨⟨⟨b1, b2, b3⟩, hall⟩, hB⟩ hK
    have hc := cell_of b2 0
    have hf := froz_of b2 0
    simp only [List.getElem?_toArray, List.getElem?_cons_zero] at hc
    have hK' := (KeepsOthers.setCell W ⟨w.heap.size + 1, 0, none⟩ (.bool true)).same D _ hK rfl
    have hc2 : (W.setCell ⟨w.heap.size + 1, 0, none⟩ (.bool true)).cell? ⟨w.heap.size + 1, 0, none⟩ = some (.bool true) := World.cell?_setCell_same' _ _ _ (by rw [hc]; rfl)
    have hc3 := cell_kept hc2 (grownBy_putObj' _ D (.deferred none)) (fun r e => by cases e; exact ⟨_, hK', rfl⟩)
    have hBB := (hB.setCell (p := ⟨w.heap.size + 1, 0, none⟩) (Nat.le_succ _) (.bool true)).trans (belowK_b (w := w) (Nat.le_refl _) (W.setCell ⟨w.heap.size + 1, 0, none⟩ (.bool true)) D _ (.deferred none) (by omega) hK' rfl rfl)
    have HA := Lib.hid hall
    clear hall hc2 hB
    gi_wp2
    refine ⟨by simp, .inl ⟨_, _, rfl, run_takeDeferred hK', ?_⟩⟩
    refine ⟨.bool true, by simp [results, Try.results30, hc3, asAddr, go_sem], ?_, hBB⟩
    rw [HN0.out, HN1.out] at *
    exact congrArg (fun b => Ending.returned (Value.bool b)) HA.out.symm
  case stop =>
    rintro D c pre W hD ⟨k, hk, rfl⟩ ⟨⟨b2, rfl, hall⟩, hB⟩ hK
    have hc := cell_of b2 0
    simp only [List.getElem?_toArray, List.getElem?_cons_zero] at hc
    have hc3 := cell_kept hc (grownBy_putObj' _ D (.deferred none)) (fun r e => by cases e; exact ⟨_, hK, rfl⟩)
    have hBB := hB.trans (belowK_b (w := w) (Nat.le_refl _) W D _ (.deferred none) (by omega) hK rfl rfl)
    have HA := Lib.hid (all_less hk hall)
    clear hall hB
    gi_wp2
    refine ⟨by simp, .inl ⟨_, _, rfl, run_takeDeferred hK, ?_⟩⟩
    refine ⟨.bool false, by simp [results, Try.results30, hc3, asAddr, go_sem], ?_, hBB⟩
    rw [HN0.out, HN1.out] at *
    exact congrArg (fun b => Ending.returned (Value.bool b)) HA.out.symm
end Go.Proofs.Ytkabmpbfabgkfaa.P
