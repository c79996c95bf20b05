/-
  deps.values, deps.May: contracts.
  Conditions: the dep's rows lie in memory.
-/
import Derived.Test.YtkabmpbfabgkfaaDb
import Derived.Test.YtkabmpbfabgkfaaAux
import Derived.RangeFuncNested
import Derived.RangeFuncBox
import Derived.RangeFuncBound
import Derived.RangeFuncCalls
import Derived.RangeFuncLeaves
import Derived.Shelf.Abstract
import Derived.WalkKit
import Derived.OwnWalkIn
import Derived.TacticsInMore
import Derived.LoopNIn
import Derived.LoopIn
import Derived.Lib.Hide
set_option linter.unusedVariables false
set_option linter.unusedSimpArgs false
namespace Go.Proofs.Ytkabmpbfabgkfaa.P
open Go.RowKit Go.Shelf Go.Proofs.YtkabmpbfabgkfaaW.PrintWords Go.Proofs.YtkabmpbfabgkfaaW.PrintLast Go.Proofs.YtkabmpbfabgkfaaW.PrintMore
attribute [local go_sem] Oper.semAt_some
set_option maxHeartbeats 1000000 in
theorem values_in (F : Fence) (n : Nat) (h56 : F.fn 56) (hro : F.round = none) (A0 A1 : Option Addr) (n0 n1 c0 c1 : Nat) (st : Int) (w : World) :
    CallsIn F n Try.prog 56 #[.agg #[.slice A0 n0 c0, .slice A1 n1 c1, .int .i64 st]] w fun e w' => e = .returned (.func (.func 71) #[] #[.pointer (some ⟨w.heap.size, 0, none⟩)]) ∧ w' = w.alloc (.cells #[.slice A0 n0 c0, .slice A1 n1 c1, .int .i64 st] 67) := by
  refine callsIn_of_wp Try.func56 rfl h56 ?_ hro
  simp only [Try.ntmps56, List.size_toArray, List.length_cons, List.length_nil, Nat.reduceAdd, Nat.reduceSub, Array.replicate_succ, Array.replicate_zero, List.push_toArray, List.append_toArray, List.nil_append, List.cons_append]
  gi_wp2
  go_ret
  exact ⟨rfl, rfl⟩
theorem values_stops {α : Type} (g : Nat → α) (en : α → Array Value) (F : Fence) (n : Nat) (h71 : F.fn 71) (hro : F.round = none) (hn : 1 ≤ n) (Bd n₀ : Nat) (A0 A1 : Option Addr) (c0 c1 : Nat) (h l : List S79) (st : Int) (w : World) (hen : ∀ k, k < h.length + l.length → en (g k) = encS (srcs h l k)) (hBd : Bd < w.heap.size) (hn₀ : n₀ ≤ w.heap.size) (hlen : h.length + l.length ≤ 9223372036854775807)
    (hc0 : w.cell? ⟨Bd, 0, none⟩ = some (.slice A0 h.length c0)) (hc1 : w.cell? ⟨Bd, 1, none⟩ = some (.slice A1 l.length c1))
    (hr0 : ∀ W', Below n₀ w W' → Kd.C k79 W' A0 h.length h) (hr1 : ∀ W', Below n₀ w W' → Kd.C k79 W' A1 l.length l) :
    SeqStopsK F n Try.prog 71 #[.pointer (some ⟨Bd, 0, none⟩)] en (Keep n₀ Bd) (fun ys => ys = upto g (h.length + l.length)) (fun pre => ∃ k, k ≤ h.length + l.length ∧ pre = upto g k) (h.length + l.length) w :=
  fun lp J Jx W hW hJ _ hY h0 =>
    values1_in F n h71 hro hn lp Bd n₀ A0 A1 c0 c1 h l st g en hen J Jx W hJ (Nat.le_trans hn₀ hW.size) (Nat.lt_of_lt_of_le hBd hW.size) hlen hY ((hW.cell (p := ⟨Bd, 0, none⟩) hBd).trans hc0) ((hW.cell (p := ⟨Bd, 1, none⟩) hBd).trans hc1)
      (fun W' hb => hr0 W' ((hW.mono hn₀).trans hb)) (fun W' hb => hr1 W' ((hW.mono hn₀).trans hb)) h0
theorem keep_b {n₀ Bd : Nat} {w : World} (hn : n₀ ≤ w.heap.size) (hB : Bd < w.heap.size) (W : World) (l : Nat) (o o' : Obj) (hl : w.heap.size ≤ l) (h : W.heap[l]? = some o) (h1 : o.isCells = false) (h2 : o.isWalk = false) : Keep n₀ Bd W (W.putObj l o') :=
  ⟨belowK_b (w := w) hn W l o o' hl h h1 h2, World.putObj_heap_other (by omega)⟩
theorem blk_own {β : Type} (B : Nat) (f : β → Obj) (hf : ∀ s, (f s).isCells = true) : Own (fun s W => W.heap[B]? = some (f s)) := fun s X Y row hs hg hrow => by
  have hlt : B < X.heap.size := (Array.getElem?_eq_some_iff.1 hs).1
  refine (hg.block B hlt (fun e => ?_)).trans hs
  obtain ⟨o, ho, hc⟩ := hrow B e.symm
  rw [hs] at ho
  cases ho
  rw [hf s] at hc
  cases hc
/-- May a source be, at its place, in a dep with a head of n? -/
def mayS (n : Nat) (x : Nat × S79) : Bool := !(decide (x.2.f2 < 0) || decide (1125899906842624 < x.2.f2) || (x.2.f0 && (x.2.f2 != 0 || decide (n ≤ x.1))) || (!x.2.f0 && x.2.f1 != 0))
def allMay (n : Nat) (pre : List (Nat × S79)) : Bool := pre.all (mayS n)
/-- May a dep be? -/
def mayD (h l : List S79) (st : Int) : Bool := decide (1 ≤ l.length) && (decide (l.length ≤ 4096) && (decide (h.length ≤ 4096) && (decide (0 ≤ st) && (decide (st ≤ 1099511627776) && allMay h.length (upto (srcs h l) (h.length + l.length))))))
set_option maxRecDepth 100000 in
set_option maxHeartbeats 4000000 in
theorem May_no (F : Fence) (n : Nat) (h30 : F.fn 30) (hro : F.round = none) (A0 A1 : Option Addr) (c0 c1 : Nat) (h l : List S79) (st : Int) (w : World) (hm : l.length < 1 ∨ 4096 < l.length ∨ 4096 < h.length ∨ st < 0 ∨ 1099511627776 < st) :
    CallsIn F n Try.prog 30 #[.agg #[.slice A0 h.length c0, .slice A1 l.length c1, .int .i64 st]] w fun e W' => e = .returned (.bool false) ∧ Below w.heap.size w W' := by
  obtain ⟨n0, hn0⟩ : ∃ n0, n0 = h.length := ⟨_, rfl⟩
  obtain ⟨n1, hn1⟩ : ∃ n1, n1 = l.length := ⟨_, rfl⟩
  rw [← hn0, ← hn1] at hm ⊢
  clear hn0 hn1
  by_cases t0 : (n1 : Int) < 1
  · clear hm
    have g0 : (n1 : Int) < 1 := by omega
    have G0 : decide ((n1 : Int) < 1) = true := decide_eq_true g0
    refine callsIn_of_wp_marks Try.func30 rfl h30 ?_ hro
    simp only [Try.ntmps30, List.size_toArray, List.length_cons, List.length_nil, Nat.reduceAdd, Nat.reduceSub, Array.replicate_succ, Array.replicate_zero, List.push_toArray, List.append_toArray, List.nil_append, List.cons_append]
    gi_wp2
    exact ⟨.bool false, by simp [results, Try.results30, go_sem], rfl, by repeat (first | (with_reducible exact Below.refl _ _) | (with_reducible assumption) | (with_reducible refine below_drewN ?_ _) | (with_reducible refine Below.drew ?_) | (with_reducible refine below_ext_of ?_ (by first | exact Nat.le_refl _ | assumption | (simp only [World.size_alloc, World.size_setCell, size_ext, World.heap_drewN]; omega)) _ _) | (with_reducible refine Below.alloc ?_ (by first | exact Nat.le_refl _ | assumption | (simp only [World.size_alloc, World.size_setCell, size_ext, World.heap_drewN]; omega)) _) | (with_reducible refine Below.setCell ?_ (by first | exact Nat.le_refl _ | assumption | (simp only [World.size_alloc, World.size_setCell, size_ext, World.heap_drewN]; omega)) _))⟩
  · skip
    by_cases t1 : (4096 : Int) < n1
    · clear hm
      have g0 : ¬ ((n1 : Int) < 1) := by omega
      have G0 : decide ((n1 : Int) < 1) = false := decide_eq_false g0
      have g1 : (4096 : Int) < n1 := by omega
      have G1 : decide ((4096 : Int) < n1) = true := decide_eq_true g1
      refine callsIn_of_wp_marks Try.func30 rfl h30 ?_ hro
      simp only [Try.ntmps30, List.size_toArray, List.length_cons, List.length_nil, Nat.reduceAdd, Nat.reduceSub, Array.replicate_succ, Array.replicate_zero, List.push_toArray, List.append_toArray, List.nil_append, List.cons_append]
      gi_wp2
      exact ⟨.bool false, by simp [results, Try.results30, go_sem], rfl, by repeat (first | (with_reducible exact Below.refl _ _) | (with_reducible assumption) | (with_reducible refine below_drewN ?_ _) | (with_reducible refine Below.drew ?_) | (with_reducible refine below_ext_of ?_ (by first | exact Nat.le_refl _ | assumption | (simp only [World.size_alloc, World.size_setCell, size_ext, World.heap_drewN]; omega)) _ _) | (with_reducible refine Below.alloc ?_ (by first | exact Nat.le_refl _ | assumption | (simp only [World.size_alloc, World.size_setCell, size_ext, World.heap_drewN]; omega)) _) | (with_reducible refine Below.setCell ?_ (by first | exact Nat.le_refl _ | assumption | (simp only [World.size_alloc, World.size_setCell, size_ext, World.heap_drewN]; omega)) _))⟩
    · skip
      by_cases t2 : (4096 : Int) < n0
      · clear hm
        have g0 : ¬ ((n1 : Int) < 1) := by omega
        have G0 : decide ((n1 : Int) < 1) = false := decide_eq_false g0
        have g1 : ¬ ((4096 : Int) < n1) := by omega
        have G1 : decide ((4096 : Int) < n1) = false := decide_eq_false g1
        have g2 : (4096 : Int) < n0 := by omega
        have G2 : decide ((4096 : Int) < n0) = true := decide_eq_true g2
        refine callsIn_of_wp_marks Try.func30 rfl h30 ?_ hro
        simp only [Try.ntmps30, List.size_toArray, List.length_cons, List.length_nil, Nat.reduceAdd, Nat.reduceSub, Array.replicate_succ, Array.replicate_zero, List.push_toArray, List.append_toArray, List.nil_append, List.cons_append]
        gi_wp2
        exact ⟨.bool false, by simp [results, Try.results30, go_sem], rfl, by repeat (first | (with_reducible exact Below.refl _ _) | (with_reducible assumption) | (with_reducible refine below_drewN ?_ _) | (with_reducible refine Below.drew ?_) | (with_reducible refine below_ext_of ?_ (by first | exact Nat.le_refl _ | assumption | (simp only [World.size_alloc, World.size_setCell, size_ext, World.heap_drewN]; omega)) _ _) | (with_reducible refine Below.alloc ?_ (by first | exact Nat.le_refl _ | assumption | (simp only [World.size_alloc, World.size_setCell, size_ext, World.heap_drewN]; omega)) _) | (with_reducible refine Below.setCell ?_ (by first | exact Nat.le_refl _ | assumption | (simp only [World.size_alloc, World.size_setCell, size_ext, World.heap_drewN]; omega)) _))⟩
      · skip
        by_cases t3 : st < 0
        · clear hm
          have g0 : ¬ ((n1 : Int) < 1) := by omega
          have G0 : decide ((n1 : Int) < 1) = false := decide_eq_false g0
          have g1 : ¬ ((4096 : Int) < n1) := by omega
          have G1 : decide ((4096 : Int) < n1) = false := decide_eq_false g1
          have g2 : ¬ ((4096 : Int) < n0) := by omega
          have G2 : decide ((4096 : Int) < n0) = false := decide_eq_false g2
          have g3 : st < 0 := by omega
          have G3 : decide (st < 0) = true := decide_eq_true g3
          refine callsIn_of_wp_marks Try.func30 rfl h30 ?_ hro
          simp only [Try.ntmps30, List.size_toArray, List.length_cons, List.length_nil, Nat.reduceAdd, Nat.reduceSub, Array.replicate_succ, Array.replicate_zero, List.push_toArray, List.append_toArray, List.nil_append, List.cons_append]
          gi_wp2
          exact ⟨.bool false, by simp [results, Try.results30, go_sem], rfl, by repeat (first | (with_reducible exact Below.refl _ _) | (with_reducible assumption) | (with_reducible refine below_drewN ?_ _) | (with_reducible refine Below.drew ?_) | (with_reducible refine below_ext_of ?_ (by first | exact Nat.le_refl _ | assumption | (simp only [World.size_alloc, World.size_setCell, size_ext, World.heap_drewN]; omega)) _ _) | (with_reducible refine Below.alloc ?_ (by first | exact Nat.le_refl _ | assumption | (simp only [World.size_alloc, World.size_setCell, size_ext, World.heap_drewN]; omega)) _) | (with_reducible refine Below.setCell ?_ (by first | exact Nat.le_refl _ | assumption | (simp only [World.size_alloc, World.size_setCell, size_ext, World.heap_drewN]; omega)) _))⟩
        · skip
          by_cases t4 : (1099511627776 : Int) < st
          · clear hm
            have g0 : ¬ ((n1 : Int) < 1) := by omega
            have G0 : decide ((n1 : Int) < 1) = false := decide_eq_false g0
            have g1 : ¬ ((4096 : Int) < n1) := by omega
            have G1 : decide ((4096 : Int) < n1) = false := decide_eq_false g1
            have g2 : ¬ ((4096 : Int) < n0) := by omega
            have G2 : decide ((4096 : Int) < n0) = false := decide_eq_false g2
            have g3 : ¬ (st < 0) := by omega
            have G3 : decide (st < 0) = false := decide_eq_false g3
            have g4 : (1099511627776 : Int) < st := by omega
            have G4 : decide ((1099511627776 : Int) < st) = true := decide_eq_true g4
            refine callsIn_of_wp_marks Try.func30 rfl h30 ?_ hro
            simp only [Try.ntmps30, List.size_toArray, List.length_cons, List.length_nil, Nat.reduceAdd, Nat.reduceSub, Array.replicate_succ, Array.replicate_zero, List.push_toArray, List.append_toArray, List.nil_append, List.cons_append]
            gi_wp2
            exact ⟨.bool false, by simp [results, Try.results30, go_sem], rfl, by repeat (first | (with_reducible exact Below.refl _ _) | (with_reducible assumption) | (with_reducible refine below_drewN ?_ _) | (with_reducible refine Below.drew ?_) | (with_reducible refine below_ext_of ?_ (by first | exact Nat.le_refl _ | assumption | (simp only [World.size_alloc, World.size_setCell, size_ext, World.heap_drewN]; omega)) _ _) | (with_reducible refine Below.alloc ?_ (by first | exact Nat.le_refl _ | assumption | (simp only [World.size_alloc, World.size_setCell, size_ext, World.heap_drewN]; omega)) _) | (with_reducible refine Below.setCell ?_ (by first | exact Nat.le_refl _ | assumption | (simp only [World.size_alloc, World.size_setCell, size_ext, World.heap_drewN]; omega)) _))⟩
          · omega
end Go.Proofs.Ytkabmpbfabgkfaa.P
