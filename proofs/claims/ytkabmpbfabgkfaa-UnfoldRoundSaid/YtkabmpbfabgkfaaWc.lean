/-
  The sample: contracts of its calls.
  Conditions: the sample lies in memory.
-/
import Derived.Test.YtkabmpbfabgkfaaWb
import Derived.Test.YtkabmpbfabgkfaaUx
import Derived.WalkKit
import Derived.WalkSpells
import Derived.WalkLawsBesides
import Derived.Deep.QuietTactic
import Derived.BigQuiet
import Derived.Lib.Hide
import Derived.Handy
import Derived.Deep.AppendLies
import Derived.Maps.AppendAt
import Derived.OwnWalk
import Derived.Lib.LazyBuf
import Derived.Deep.DeepCutAuto
import Derived.Deep.RegionLaw
import Derived.Deep.RegionHeld3
import Derived.Deep.RegionWith
import Derived.BigRegion
import Derived.Deep.CutBlock
import Derived.LoopN
import Derived.Shelf.SlSortCmp.WholeK
import Derived.Shelf.SlSortCmp.NoneTotal
import Derived.Laws.AppendOwn
set_option linter.unusedVariables false
set_option linter.unusedSimpArgs false
namespace Go.Proofs.Ytkabmpbfabgkfaa
open Go.RowKit 
open Big
attribute [local go_sem] setCell_drewN alloc_drewN size_ext ext_ext ext_drewN ext_drew drewN_ext drew_ext cell?_ext frozen?_ext setCell_ext cell?_past1 frozen?_past1 setCell_past1 cell?_past2 frozen?_past2 setCell_past2 cell?_past3 frozen?_past3 setCell_past3 cell?_past4 frozen?_past4 setCell_past4 cell?_past5 frozen?_past5 setCell_past5 cell?_past6 frozen?_past6 setCell_past6 cell?_past7 frozen?_past7 setCell_past7 cell?_past8 frozen?_past8 setCell_past8
open Go.Proofs.Ytkabmpbfabgkfaa.P Go.Proofs.YtkabmpbfabgkfaaW.PrintWords Go.Proofs.YtkabmpbfabgkfaaW.PrintLast Go.Proofs.YtkabmpbfabgkfaaW.PrintMore
open Go.Shelf Go.Lib Go.Sort
theorem of_val : ofF true [task1, task2] = (5, 10, 0) := by decide +kernel
theorem may_val : mayTs [task1, task2] [clock1] = true := by decide +kernel
theorem jobs_val : jobsL 11 0 [task1, task2] = [⟨0, 0, 0, 5⟩, ⟨0, 1, 5, 10⟩, ⟨0, 2, 10, 15⟩, ⟨1, 0, 0, 3⟩, ⟨1, 1, 5, 8⟩, ⟨1, 2, 10, 13⟩] := by kernel_rfl
theorem sort_val : sortJ [⟨0, 0, 0, 5⟩, ⟨0, 1, 5, 10⟩, ⟨0, 2, 10, 15⟩, ⟨1, 0, 0, 3⟩, ⟨1, 1, 5, 8⟩, ⟨1, 2, 10, 13⟩] = [⟨0, 0, 0, 5⟩, ⟨1, 0, 0, 3⟩, ⟨0, 1, 5, 10⟩, ⟨1, 1, 5, 8⟩, ⟨0, 2, 10, 15⟩, ⟨1, 2, 10, 13⟩] := by
  unfold sortJ
  rw [pdq]
  rw [if_pos (by decide)]
  kernel_rfl
theorem jobsF_val : jobsF [task1, task2] 11 = ([⟨0, 0, 0, 5⟩, ⟨1, 0, 0, 3⟩, ⟨0, 1, 5, 10⟩, ⟨1, 1, 5, 8⟩, ⟨0, 2, 10, 15⟩, ⟨1, 2, 10, 13⟩], 0) := by
  unfold jobsF
  rw [if_neg (by decide), if_neg (by decide), if_neg (by decide), if_neg (by decide +kernel)]
  rw [show sumB 11 [task1, task2] 0 = some 6 by decide +kernel]
  dsimp only
  rw [jobs_val, sort_val]
open Go.Shelf Go.Lib Go.Sort
theorem sample_any (w : World) : Calls Try.prog 22 #[] w fun e w' => ∃ BT BR BQ BC B0 B1 B2 : Nat, e = .returned (.tuple #[.slice (some ⟨BT, 0, none⟩) 2 2, .slice (some ⟨BC, 0, none⟩) 1 1]) ∧ Below w.heap.size w w' ∧ w'.heap[BT]? = some (.cells #[.int .i64 5, .int .i64 0, .int .i64 5, .int .i64 0, .int .i64 (-1), .slice (some ⟨BR, 0, none⟩) 2 2, .int .i64 1, .int .i64 5, .int .i64 0, .int .i64 3, .int .i64 (-1), .int .i64 0, .slice (some ⟨BQ, 0, none⟩) 1 1, .int .i64 0] 44) ∧ w'.heap[BR]? = some (.cells #[.int .u8 1, .int .i64 0, .int .i64 0, .slice none 0 0, .slice (some ⟨B1, 0, none⟩) 2 2, .int .i64 1, .int .u8 2, .int .i64 0, .int .i64 0, .slice (some ⟨B2, 0, none⟩) 1 1, .slice (some ⟨B0, 0, none⟩) 1 1, .int .i64 1] 69) ∧ w'.heap[BQ]? = some (.cells #[.int .u8 2, .int .i64 0, .int .i64 0, .slice none 0 0, .slice (some ⟨B0, 0, none⟩) 1 1, .int .i64 1] 69) ∧ w'.heap[BC]? = some (.cells #[.int .i64 10, .int .i64 0] 25) ∧ w'.heap[B0]? = some (.cells #[.bool false, .int .i64 0, .int .i64 0] 79) ∧ w'.heap[B1]? = some (.cells #[.bool false, .int .i64 0, .int .i64 0, .bool false, .int .i64 0, .int .i64 0] 79) ∧ w'.heap[B2]? = some (.cells #[.bool true, .int .i64 0, .int .i64 0] 79) :=
  (sample_blocks w).mono fun e w' h => ⟨_, _, _, _, _, _, _, h⟩
theorem of_sample (w : World) (BT BC : Nat) (hT : k44.C w (some ⟨BT, 0, none⟩) 2 [task1, task2]) (hC : k25.C w (some ⟨BC, 0, none⟩) 1 [clock1]) :
    Calls Try.prog 13 #[.slice (some ⟨BT, 0, none⟩) 2 2, .slice (some ⟨BC, 0, none⟩) 1 1] w fun e w' => e = .returned (.tuple #[.agg #[.int .i64 5, .int .i64 10], .int .i64 0]) ∧ Below w.heap.size w w' := by
  have h := Of_call w (some ⟨BT, 0, none⟩) (some ⟨BC, 0, none⟩) 2 1 [task1, task2] [clock1] (by decide +kernel) (by decide +kernel) hT (Nat.le_refl _) hC (Nat.le_refl _)
  rw [may_val, of_val] at h
  exact h
def L6 : List S60 := [⟨0, 0, 0, 5⟩, ⟨1, 0, 0, 3⟩, ⟨0, 1, 5, 10⟩, ⟨1, 1, 5, 8⟩, ⟨0, 2, 10, 15⟩, ⟨1, 2, 10, 13⟩]
def L2 : List S51 := [⟨1, 0, 0, 1⟩, ⟨2, 0, 0, 2⟩]
theorem jobs_sample (w : World) (BT : Nat) (hT : k44.C w (some ⟨BT, 0, none⟩) 2 [task1, task2]) : Calls Try.prog 18 #[.slice (some ⟨BT, 0, none⟩) 2 2, .int .i64 11] w fun e w' => ∃ A cap, e = .returned (.tuple #[.slice A 6 cap, .int .i64 0]) ∧ k60.C w' A 6 L6 ∧ Below w.heap.size w w' := by
  have h := Jobs_any w (some ⟨BT, 0, none⟩) 2 [task1, task2] 11 (by intro t ht; simp at ht; rcases ht with rfl | rfl <;> decide) hT
  rw [jobsF_val] at h
  exact h
theorem needs_sample (w : World) (BR : Nat) (hR : k69.C w (some ⟨BR, 0, none⟩) 2 task1.f4) : Calls Try.prog 15 #[.agg #[.int .i64 5, .int .i64 0, .int .i64 5, .int .i64 0, .int .i64 (-1), .slice (some ⟨BR, 0, none⟩) 2 2, .int .i64 1], .int .i64 3] w fun e w' => ∃ A cap, e = .returned (.tuple #[.slice A 2 cap, .int .i64 0]) ∧ k51.C w' A 2 L2 ∧ Below w.heap.size w w' := by
  have h := Needs_any w task1 3 (some ⟨BR, 0, none⟩) 2 (by decide) (by decide) (by decide) needs_ok hR (Nat.le_refl _)
  rw [needs_val] at h
  exact h
theorem count_sample (w : World) : Calls Try.prog 6 #[.agg #[.int .i64 5, .int .i64 10], .agg #[.int .i64 5, .int .i64 0]] w fun e w' => e = .returned (.tuple #[.int .i64 1, .int .i64 2, .int .i64 0]) ∧ Below w.heap.size w w' := by
  have h := count_any w 5 10 5 0 (by decide) (by decide) (by decide) (by decide) (by decide) (by decide) (by decide) (by decide)
  rw [show cntH 5 10 5 0 = 1 by decide +kernel, show cntL 5 10 5 0 = 2 by decide +kernel, show cntE 5 10 5 0 = 0 by decide +kernel] at h
  exact h
theorem fold_sample (w : World) : Calls Try.prog 7 #[.agg #[.int .i64 5, .int .i64 10], .agg #[.int .i64 5, .int .i64 0], .int .i64 7] w fun e w' => e = .returned (.tuple #[.int .i64 1, .int .i64 30, .int .i64 0]) ∧ Below w.heap.size w w' := by
  have h := fold_any w 5 10 5 0 7 (by decide) (by decide) (by decide) (by decide) (by decide) (by decide) (by decide) (by decide) (by decide) (by decide)
  rw [show foldN 5 10 5 0 7 = 1 by decide +kernel, show foldM 5 10 5 0 7 = 30 by decide +kernel, show foldE 5 10 5 0 7 = 0 by decide +kernel] at h
  exact h
end Go.Proofs.Ytkabmpbfabgkfaa
