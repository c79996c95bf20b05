/-
  unfold.Of: what its closure does; unfold.date.
  Conditions: the closure's box lies in memory.
-/
import Derived.Test.YtkabmpbfabgkfaaOa
import Derived.WalkKit
import Derived.WalkSpells
import Derived.WalkLawsBesides
import Derived.Deep.QuietTactic
import Derived.BigQuiet
import Derived.Lib.Hide
import Derived.Handy
import Derived.Deep.AppendLies
import Derived.Maps.AppendAt
import Derived.OwnWalk
import Derived.Lib.LazyBuf
import Derived.Deep.DeepCutAuto
import Derived.Deep.RegionLaw
import Derived.Deep.RegionHeld3
import Derived.Deep.RegionWith
import Derived.BigRegion
import Derived.Deep.CutBlock
import Derived.LoopN
set_option linter.unusedVariables false
set_option linter.unusedSimpArgs false
namespace Go.Proofs.Ytkabmpbfabgkfaa
open Go.RowKit 
open Big
attribute [local go_sem] setCell_drewN alloc_drewN size_ext ext_ext ext_drewN ext_drew drewN_ext drew_ext cell?_ext frozen?_ext setCell_ext cell?_past1 frozen?_past1 setCell_past1 cell?_past2 frozen?_past2 setCell_past2 cell?_past3 frozen?_past3 setCell_past3 cell?_past4 frozen?_past4 setCell_past4 cell?_past5 frozen?_past5 setCell_past5 cell?_past6 frozen?_past6 setCell_past6 cell?_past7 frozen?_past7 setCell_past7 cell?_past8 frozen?_past8 setCell_past8
open Go.Proofs.Ytkabmpbfabgkfaa.P Go.Proofs.YtkabmpbfabgkfaaW.PrintWords Go.Proofs.YtkabmpbfabgkfaaW.PrintLast Go.Proofs.YtkabmpbfabgkfaaW.PrintMore
theorem cell_2 {W : World} {b : Nat} {v0 v1 : Value} {t : TypeId} (h : W.heap[b]? = some (.cells #[v0, v1] t)) : W.cell? ⟨b, 0, none⟩ = some v0 ∧ W.cell? ⟨b, 1, none⟩ = some v1 := by constructor <;> simp [World.cell?, h]
theorem frozen_2 {W : World} {b : Nat} {vs : Array Value} {t : TypeId} (h : W.heap[b]? = some (.cells vs t)) (o : Nat) : W.frozen? ⟨b, o, none⟩ = false := by simp [World.frozen?, h]
set_option maxRecDepth 100000 in
set_option maxHeartbeats 4000000 in
theorem of1_any (w : World) (B : Nat) (P H n : Int) (hb : w.heap[B]? = some (.cells #[.int .i64 P, .int .i64 H] 23)) (hH1 : -9223372036854775808 ≤ H) (hH2 : H ≤ 9223372036854775807) (hn1 : -9223372036854775808 ≤ n) (hn2 : n ≤ 9223372036854775807) :
    Calls Try.prog 24 #[.int .i64 n, .pointer (some ⟨B, 0, none⟩)] w fun e w' => e = .returned (.bool (fitB (lcmV H n) && decide (fitV (lcmV H n) ≤ 17592186044416))) ∧ w.setCell ⟨B, 1, none⟩ (.int .i64 (fitV (lcmV H n))) = w' := by
  obtain ⟨x0, x1⟩ := cell_2 hb
  have xf := frozen_2 hb
  have HL := Lib.hid (num_lcm H n w hH1 hH2 hn1 hn2)
  obtain ⟨h, hh⟩ : ∃ h, fitV (lcmV H n) = h := ⟨_, rfl⟩
  obtain ⟨f, hf⟩ : ∃ f, fitB (lcmV H n) = f := ⟨_, rfl⟩
  rw [hh, hf]
  have HV := Lib.hid hh
  have HF := Lib.hid hf
  clear hb hH1 hH2 hn1 hn2 hh hf
  obtain ⟨b, hb⟩ : ∃ b, decide (h ≤ 17592186044416) = b := ⟨_, rfl⟩
  rw [hb]
  cases f
  all_goals
    cases b
    all_goals
      go_enter Try.func24, Try.ntmps24
      go_wp2_with fail
      refine HL.out.mono ?_
      rintro e w1 ⟨rfl, rfl⟩
      rw [HV.out, HF.out]
      go_wp2_with fail
      go_ret
      exact ⟨rfl, rfl⟩
/-- unfold.date, of small numbers. -/
theorem udate_any (w : World) (p s n m d : Int) (h1 : IntKind.i64.wrap (n * p) = m) (h2 : IntKind.i64.wrap (s + m) = d) : Calls Try.prog 26 #[.agg #[.int .i64 p, .int .i64 s], .int .i64 n] w fun e w' => e = .returned (.int .i64 d) ∧ Below w.heap.size w w' := by
  go_enter Try.func26, Try.ntmps26
  go_wp2_with fail
  go_ret
  exact ⟨rfl, by repeat (first | (with_reducible exact Below.refl _ _) | (with_reducible assumption) | (with_reducible refine below_drewN ?_ _) | (with_reducible refine Below.drew ?_) | (with_reducible refine below_ext_of ?_ (by first | exact Nat.le_refl _ | assumption | (simp only [World.size_alloc, World.size_setCell, size_ext, World.heap_drewN]; omega)) _ _) | (with_reducible refine Below.alloc ?_ (by first | exact Nat.le_refl _ | assumption | (simp only [World.size_alloc, World.size_setCell, size_ext, World.heap_drewN]; omega)) _) | (with_reducible refine Below.setCell ?_ (by first | exact Nat.le_refl _ | assumption | (simp only [World.size_alloc, World.size_setCell, size_ext, World.heap_drewN]; omega)) _))⟩
end Go.Proofs.Ytkabmpbfabgkfaa
