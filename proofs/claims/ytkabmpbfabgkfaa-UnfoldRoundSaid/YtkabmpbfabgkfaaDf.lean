/-
  deps.Last where there is something to tell.
  Conditions: the dep's rows lie in memory; the dep may be; its step and the place are in their bounds.
-/
import Derived.Test.YtkabmpbfabgkfaaDe
import Derived.Test.YtkabmpbfabgkfaaQr
import Derived.RangeFuncNested
import Derived.RangeFuncBox
import Derived.RangeFuncBound
import Derived.RangeFuncCalls
import Derived.RangeFuncLeaves
import Derived.Shelf.Abstract
import Derived.WalkKit
import Derived.OwnWalkIn
import Derived.TacticsInMore
import Derived.LoopNIn
import Derived.LoopIn
import Derived.Lib.Hide
import Derived.Deep.DeepCutAuto
import Derived.Deep.RegionHeld3
import Derived.BigRegion
import Derived.BigQuiet
import Derived.Deep.QuietTactic
set_option linter.unusedVariables false
set_option linter.unusedSimpArgs false
namespace Go.Proofs.Ytkabmpbfabgkfaa.P
open Go.RowKit Go.Shelf Go.Proofs.YtkabmpbfabgkfaaW.PrintWords Go.Proofs.YtkabmpbfabgkfaaW.PrintLast Go.Proofs.YtkabmpbfabgkfaaW.PrintMore
attribute [local go_sem] setCell_drewN alloc_drewN size_ext ext_ext ext_drewN ext_drew drewN_ext drew_ext cell?_ext frozen?_ext setCell_ext cell?_past1 frozen?_past1 setCell_past1 cell?_past2 frozen?_past2 setCell_past2 cell?_past3 frozen?_past3 setCell_past3 cell?_past4 frozen?_past4 setCell_past4 cell?_past5 frozen?_past5 setCell_past5 cell?_past6 frozen?_past6 setCell_past6 cell?_past7 frozen?_past7 setCell_past7 cell?_past8 frozen?_past8 setCell_past8
attribute [local go_sem] Oper.semAt_some
/-- The last place so far, behind one more source. -/
def lastStep (n0 n1 : Nat) (st m : Int) (acc : Int × Bool) (x : Nat × S79) : Int × Bool :=
  if x.2.f0 = true then acc else if x.1 < n0 ∧ m - x.2.f2 ≠ 0 then acc else if m - x.2.f2 < 0 then acc else if (m - x.2.f2) % st ≠ 0 then acc else
    if acc.2 = false ∨ acc.1 < (if n0 ≤ x.1 then (x.1 : Int) + (m - x.2.f2) / st * n1 else (x.1 : Int)) then ((if n0 ≤ x.1 then (x.1 : Int) + (m - x.2.f2) / st * n1 else (x.1 : Int)), true) else acc
theorem heap_new (W : World) (o : Obj) (n : Nat) (h : n = W.heap.size) : (W.alloc o).heap[n]? = some o := by subst h; exact World.alloc_heap_new W o
theorem heap_old (W : World) (o : Obj) (n : Nat) (h : n < W.heap.size) : (W.alloc o).heap[n]? = W.heap[n]? := Below.heap_alloc W o n h
theorem heap_drew (W : World) : W.drew.heap = W.heap := rfl
def lastF (n0 n1 : Nat) (st m : Int) (l : List (Nat × S79)) : Int × Bool := l.foldl (lastStep n0 n1 st m) (0, false)
theorem lastF_snoc (n0 n1 : Nat) (st m : Int) (l : List (Nat × S79)) (x : Nat × S79) : lastF n0 n1 st m (l ++ [x]) = lastStep n0 n1 st m (lastF n0 n1 st m l) x := by simp [lastF]
/-- A source that may be, at its place. -/
abbrev SrcM (n0 tot : Nat) := { x : Nat × S79 // mayS n0 x = true ∧ x.1 < tot }
def encM {n0 tot : Nat} (x : SrcM n0 tot) : Array Value := encS x.1
theorem srcs_may {h l : List S79} (HM : 0 < h.length + l.length ∧ allMay h.length (upto (srcs h l) (h.length + l.length)) = true) (k : Nat) (hk : k < h.length + l.length) : mayS h.length (srcs h l k) = true := by
  have := HM.2
  unfold allMay upto at this
  rw [List.all_eq_true] at this
  exact this _ (List.mem_map.2 ⟨k, List.mem_range.2 hk, rfl⟩)
theorem srcs_place (h l : List S79) (k : Nat) : (srcs h l k).1 = k := rfl
def srcM (h l : List S79) (HM : 0 < h.length + l.length ∧ allMay h.length (upto (srcs h l) (h.length + l.length)) = true) (k : Nat) : SrcM h.length (h.length + l.length) :=
  if hk : k < h.length + l.length then ⟨srcs h l k, srcs_may HM k hk, hk⟩ else ⟨srcs h l 0, srcs_may HM 0 HM.1, HM.1⟩
theorem srcM_val (h l : List S79) (HM) (k : Nat) (hk : k < h.length + l.length) : (srcM h l HM k).1 = srcs h l k := by unfold srcM; rw [dif_pos hk]
theorem srcM_enc (h l : List S79) (HM) (k : Nat) (hk : k < h.length + l.length) : encM (srcM h l HM k) = encS (srcs h l k) := by unfold encM; rw [srcM_val h l HM k hk]
def lastM {a b : Nat} (n0 n1 : Nat) (st m : Int) (l : List (SrcM a b)) : Int × Bool := lastF n0 n1 st m (l.map (·.1))
theorem lastM_snoc {a b : Nat} (n0 n1 : Nat) (st m : Int) (l : List (SrcM a b)) (x : SrcM a b) : lastM n0 n1 st m (l ++ [x]) = lastStep n0 n1 st m (lastM n0 n1 st m l) x.1 := by unfold lastM; rw [List.map_append]; exact lastF_snoc ..
theorem blk_other {W : World} {B k : Nat} {o : Obj} (h : W.heap[k]? = some o) (hne : k ≠ B) (v : Value) : (W.setCell ⟨B, 0, none⟩ v).heap[k]? = some o := (Below.heap_setCell W ⟨B, 0, none⟩ v k hne).trans h
theorem blk_same {W : World} {B t : Nat} {x : Value} (h : W.heap[B]? = some (.cells #[x] t)) (v : Value) : (W.setCell ⟨B, 0, none⟩ v).heap[B]? = some (.cells #[v] t) := by
  simp only [World.setCell, Array.getElem?_modify, if_pos, h]
  rfl
theorem last_end {a b : Nat} {n0 n1 : Nat} {st m : Int} {w W : World} {pz : List (SrcM a b)} {LL M : Int} {TT : Bool} {V7 B9 B10 Bd : Nat} {D D2 : Obj} {n : Nat} (hv : lastM n0 n1 st m pz = (M, true)) (hI : Below w.heap.size w W)
    (h1 : W.heap[w.heap.size]? = some D) (h2 : W.heap[w.heap.size + 1]? = some (.cells #[.int .i64 m] 2)) (h3 : W.heap[V7]? = some (.cells #[.int .i64 LL] 2)) (h4 : W.heap[V7 + 1]? = some (.cells #[.bool TT] 4))
    (h5 : W.heap[B9]? = some (.cells #[.int .i64 (n0 : Int)] 3)) (h6 : W.heap[B10]? = some (.cells #[.int .i64 (n1 : Int)] 2)) (h7 : W.heap[Bd]? = some D2) (H7 : w.heap.size + 1 < V7) (hl : V7 + 1 < Bd) (i1 : B9 ≠ V7) (i2 : B9 ≠ V7 + 1) (i3 : B10 ≠ V7) (i4 : B10 ≠ V7 + 1) (hse : w.heap.size ≤ V7) :
    KeepsFrom n W ((W.setCell ⟨V7, 0, none⟩ (.int .i64 M)).setCell ⟨V7 + 1, 0, none⟩ (.bool true)) ∧ Keep w.heap.size Bd W ((W.setCell ⟨V7, 0, none⟩ (.int .i64 M)).setCell ⟨V7 + 1, 0, none⟩ (.bool true)) ∧
      ((((W.setCell ⟨V7, 0, none⟩ (.int .i64 M)).setCell ⟨V7 + 1, 0, none⟩ (.bool true)).heap[w.heap.size]? = some D ∧ (((W.setCell ⟨V7, 0, none⟩ (.int .i64 M)).setCell ⟨V7 + 1, 0, none⟩ (.bool true)).heap[w.heap.size + 1]? = some (.cells #[.int .i64 m] 2) ∧ (((W.setCell ⟨V7, 0, none⟩ (.int .i64 M)).setCell ⟨V7 + 1, 0, none⟩ (.bool true)).heap[V7]? = some (.cells #[.int .i64 (lastM n0 n1 st m pz).1] 2) ∧ (((W.setCell ⟨V7, 0, none⟩ (.int .i64 M)).setCell ⟨V7 + 1, 0, none⟩ (.bool true)).heap[V7 + 1]? = some (.cells #[.bool (lastM n0 n1 st m pz).2] 4) ∧ (((W.setCell ⟨V7, 0, none⟩ (.int .i64 M)).setCell ⟨V7 + 1, 0, none⟩ (.bool true)).heap[B9]? = some (.cells #[.int .i64 (n0 : Int)] 3) ∧ (((W.setCell ⟨V7, 0, none⟩ (.int .i64 M)).setCell ⟨V7 + 1, 0, none⟩ (.bool true)).heap[B10]? = some (.cells #[.int .i64 (n1 : Int)] 2) ∧ ((W.setCell ⟨V7, 0, none⟩ (.int .i64 M)).setCell ⟨V7 + 1, 0, none⟩ (.bool true)).heap[Bd]? = some D2)))))) ∧ Below w.heap.size w ((W.setCell ⟨V7, 0, none⟩ (.int .i64 M)).setCell ⟨V7 + 1, 0, none⟩ (.bool true))) := by
  rw [hv]
  exact ⟨((KeepsOthers.setCell _ _ _).trans (KeepsOthers.setCell _ _ _)).from _, ⟨((Below.refl _ W).setCell (p := ⟨V7, 0, none⟩) hse _).setCell (p := ⟨V7 + 1, 0, none⟩) (Nat.le_succ_of_le hse) _, ((Below.heap_setCell _ ⟨V7 + 1, 0, none⟩ _ Bd (by show Bd ≠ V7 + 1; omega)).trans (Below.heap_setCell _ ⟨V7, 0, none⟩ _ Bd (by show Bd ≠ V7; omega)))⟩,
    ⟨blk_other (blk_other h1 (by omega) _) (by omega) _, blk_other (blk_other h2 (by omega) _) (by omega) _, blk_other (blk_same h3 _) (by omega) _, blk_same (blk_other h4 (by omega) _) _, blk_other (blk_other h5 i1 _) i2 _, blk_other (blk_other h6 i3 _) i4 _, blk_other (blk_other h7 (by omega) _) (by omega) _⟩,
    (hI.setCell (p := ⟨V7, 0, none⟩) hse _).setCell (p := ⟨V7 + 1, 0, none⟩) (Nat.le_succ_of_le hse) _⟩
theorem lastM_all (h l : List S79) (HM) (n0 n1 : Nat) (st m : Int) : lastM n0 n1 st m (upto (srcM h l HM) (h.length + l.length)) = lastF n0 n1 st m (upto (srcs h l) (h.length + l.length)) := by
  unfold lastM
  congr 1
  unfold upto
  rw [List.map_map]
  apply List.map_congr_left
  intro k hk
  exact srcM_val h l HM k (List.mem_range.1 hk)
theorem below_dn {n : Nat} {w X : World} (h : Below n w X) (k : Nat) : Below n w (X.drewN k) := ⟨h.os, h.tape, h.output, h.size, h.block⟩
end Go.Proofs.Ytkabmpbfabgkfaa.P
