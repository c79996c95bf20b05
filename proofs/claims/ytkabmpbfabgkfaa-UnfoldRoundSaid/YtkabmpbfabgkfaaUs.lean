/-
  carillonlaw15.sample: what it hands back.
  Conditions: none.
-/
import Derived.Test.YtkabmpbfabgkfaaUd
import Derived.Test.YtkabmpbfabgkfaaPx0
import Derived.WalkKit
import Derived.WalkSpells
import Derived.WalkLawsBesides
import Derived.Deep.QuietTactic
import Derived.BigQuiet
import Derived.Lib.Hide
import Derived.Handy
import Derived.Deep.AppendLies
import Derived.Maps.AppendAt
import Derived.OwnWalk
import Derived.Lib.LazyBuf
import Derived.Deep.DeepCutAuto
import Derived.Deep.RegionLaw
import Derived.Deep.RegionHeld3
import Derived.Deep.RegionWith
import Derived.BigRegion
import Derived.Deep.CutBlock
set_option linter.unusedVariables false
set_option linter.unusedSimpArgs false
namespace Go.Proofs.Ytkabmpbfabgkfaa
open Go.RowKit 
open Big
attribute [local go_sem] setCell_drewN alloc_drewN size_ext ext_ext ext_drewN ext_drew drewN_ext drew_ext cell?_ext frozen?_ext setCell_ext cell?_past1 frozen?_past1 setCell_past1 cell?_past2 frozen?_past2 setCell_past2 cell?_past3 frozen?_past3 setCell_past3 cell?_past4 frozen?_past4 setCell_past4 cell?_past5 frozen?_past5 setCell_past5 cell?_past6 frozen?_past6 setCell_past6 cell?_past7 frozen?_past7 setCell_past7 cell?_past8 frozen?_past8 setCell_past8
open Go.Proofs.Ytkabmpbfabgkfaa.P Go.Proofs.YtkabmpbfabgkfaaW.PrintWords Go.Proofs.YtkabmpbfabgkfaaW.PrintLast Go.Proofs.YtkabmpbfabgkfaaW.PrintMore
/-- The sample's tasks and clocks. -/
def zS : S79 := ⟨false, 0, 0⟩
def toldS : S79 := ⟨true, 0, 0⟩
def dep1 : S67 := ⟨[], [zS, zS], 1⟩
def dep2 : S67 := ⟨[toldS], [zS], 1⟩
def dep3 : S67 := ⟨[], [zS], 1⟩
def task1 : S44 := ⟨⟨5, 0⟩, 5, 0, -1, [⟨1, 0, 0, dep1⟩, ⟨2, 0, 0, dep2⟩], 1⟩
def task2 : S44 := ⟨⟨5, 0⟩, 3, -1, 0, [⟨2, 0, 0, dep3⟩], 0⟩
def clock1 : S25 := ⟨10, 0⟩
theorem heap_new' (W : World) (o : Obj) (n : Nat) (h : n = W.heap.size) : (W.alloc o).heap[n]? = some o := by subst h; exact heap_alloc_new W o
theorem heap_old' (W : World) (o : Obj) (n : Nat) (h : n < W.heap.size) : (W.alloc o).heap[n]? = W.heap[n]? := Below.heap_alloc W o n h
theorem cell_lit {W : World} {B i : Nat} {vs : Array Value} {t : TypeId} {fr : Nat × Nat} (h : W.heap[B]? = some (.cells vs t fr)) : W.cell? ⟨B, i, none⟩ = vs[i]? := by simp [World.cell?, h]
theorem row1 {α : Type} {R : α → List Value → Prop} {sz : Nat} {W : World} {B : Nat} {t : TypeId} {fr : Nat × Nat} {p : α} {c : List Value} (h : W.heap[B]? = some (.cells c.toArray t fr)) (hs : c.length = sz) (hR : R p c) : ReadsRow R sz W (some ⟨B, 0, none⟩) 1 [p] := by
  refine ⟨rfl, by decide, fun _ => ⟨_, rfl, fun j q hj => ?_⟩⟩
  match j, hj with
  | 0, hj =>
    cases hj
    refine ⟨c, hs, hR, fun i u hu => ?_⟩
    show W.cell? (Addr.add _ _) = _
    rw [show (⟨B, 0, none⟩ : Addr).add (0 * sz + i) = ⟨B, i, none⟩ by unfold Addr.add; split <;> simp_all]
    rw [cell_lit h]
    simpa using hu
theorem row2 {α : Type} {R : α → List Value → Prop} {sz : Nat} {W : World} {B : Nat} {t : TypeId} {fr : Nat × Nat} {p q : α} {c d : List Value} (h : W.heap[B]? = some (.cells (c ++ d).toArray t fr)) (hs : c.length = sz) (hd : d.length = sz) (hR : R p c) (hQ : R q d) : ReadsRow R sz W (some ⟨B, 0, none⟩) 2 [p, q] := by
  refine ⟨rfl, by decide, fun _ => ⟨_, rfl, fun j x hj => ?_⟩⟩
  match j, hj with
  | 0, hj =>
    cases hj
    refine ⟨c, hs, hR, fun i u hu => ?_⟩
    rw [show (⟨B, 0, none⟩ : Addr).add (0 * sz + i) = ⟨B, i, none⟩ by unfold Addr.add; split <;> simp_all]
    rw [cell_lit h]
    have hi := (List.getElem?_eq_some_iff.1 hu).1
    simp only [List.getElem?_toArray]
    rw [List.getElem?_append_left hi]; exact hu
  | 1, hj =>
    cases hj
    refine ⟨d, hd, hQ, fun i u hu => ?_⟩
    rw [show (⟨B, 0, none⟩ : Addr).add (1 * sz + i) = ⟨B, sz + i, none⟩ by unfold Addr.add; split <;> simp_all]
    rw [cell_lit h]
    simp only [List.getElem?_toArray]
    rw [List.getElem?_append_right (by omega), show sz + i - c.length = i by omega]; exact hu
theorem row0 {α : Type} {R : α → List Value → Prop} {sz : Nat} {W : World} : ReadsRow R sz W none 0 [] := ⟨rfl, by decide, fun h => absurd h (by decide)⟩
theorem src_K (W : World) (x : S79) : k79.K W x [.bool x.f0, .int .i64 x.f1, .int .i64 x.f2] := ⟨_, _, rfl, rfl, ⟨_, _, rfl, rfl, rfl⟩⟩
theorem dep_K {W : World} {x : S67} {A0 A1 : Option Addr} {c0 c1 : Nat} (l0 : x.f0.length ≤ c0) (r0 : k79.C W A0 x.f0.length x.f0) (l1 : x.f1.length ≤ c1) (r1 : k79.C W A1 x.f1.length x.f1) : k67.K W x [.slice A0 x.f0.length c0, .slice A1 x.f1.length c1, .int .i64 x.f2] :=
  ⟨_, _, rfl, ⟨A0, c0, rfl, l0, r0⟩, ⟨_, _, rfl, ⟨A1, c1, rfl, l1, r1⟩, rfl⟩⟩
theorem read_K {W : World} {x : S69} {A0 A1 : Option Addr} {c0 c1 : Nat} (l0 : x.f3.f0.length ≤ c0) (r0 : k79.C W A0 x.f3.f0.length x.f3.f0) (l1 : x.f3.f1.length ≤ c1) (r1 : k79.C W A1 x.f3.f1.length x.f3.f1) : k69.K W x [.int .u8 x.f0, .int .i64 x.f1, .int .i64 x.f2, .slice A0 x.f3.f0.length c0, .slice A1 x.f3.f1.length c1, .int .i64 x.f3.f2] :=
  ⟨_, _, rfl, rfl, ⟨_, _, rfl, rfl, ⟨_, _, rfl, rfl, dep_K l0 r0 l1 r1⟩⟩⟩
theorem clock_K (W : World) (x : S25) : k25.K W x [.int .i64 x.f0, .int .i64 x.f1] := ⟨_, _, rfl, rfl, rfl⟩
theorem task_K {W : World} {x : S44} {A : Option Addr} {c : Nat} (l : x.f4.length ≤ c) (r : k69.C W A x.f4.length x.f4) : k44.K W x [.int .i64 x.f0.f0, .int .i64 x.f0.f1, .int .i64 x.f1, .int .i64 x.f2, .int .i64 x.f3, .slice A x.f4.length c, .int .i64 x.f5] :=
  ⟨_, _, rfl, clock_K W x.f0, ⟨_, _, rfl, rfl, ⟨_, _, rfl, rfl, ⟨_, _, rfl, rfl, ⟨_, _, rfl, ⟨A, c, rfl, l, r⟩, rfl⟩⟩⟩⟩⟩
set_option maxRecDepth 100000 in
set_option maxHeartbeats 4000000 in
theorem sample_call (w : World) : Calls Try.prog 22 #[] w fun e w' => Below w.heap.size w w' ∧ ∃ A1 c1 A2 c2, e = .returned (.tuple #[.slice A1 2 c1, .slice A2 1 c2]) ∧ k44.C w' A1 2 [task1, task2] ∧ k25.C w' A2 1 [clock1] := by
  go_enter Try.func22, Try.ntmps22
  go_wp2_with fail
  go_ret2
  refine ⟨by repeat (first | (with_reducible exact Below.refl _ _) | (with_reducible assumption) | (with_reducible refine below_drewN ?_ _) | (with_reducible refine Below.drew ?_) | (with_reducible refine below_ext_of ?_ (by first | exact Nat.le_refl _ | assumption | (simp only [World.size_alloc, World.size_setCell, size_ext, World.heap_drewN]; omega)) _ _) | (with_reducible refine Below.alloc ?_ (by first | exact Nat.le_refl _ | assumption | (simp only [World.size_alloc, World.size_setCell, size_ext, World.heap_drewN]; omega)) _) | (with_reducible refine Below.setCell ?_ (by first | exact Nat.le_refl _ | assumption | (simp only [World.size_alloc, World.size_setCell, size_ext, World.heap_drewN]; omega)) _)), _, _, _, _, rfl, ?_, ?_⟩
  · refine row2 (c := [.int .i64 5, .int .i64 0, .int .i64 5, .int .i64 0, .int .i64 (-1), .slice (some ⟨w.heap.size + 1 + 1 + 1, 0, none⟩) 2 2, .int .i64 1]) (d := [.int .i64 5, .int .i64 0, .int .i64 3, .int .i64 (-1), .int .i64 0, .slice (some ⟨w.heap.size + 1 + 1 + 1 + 1 + 1, 0, none⟩) 1 1, .int .i64 0]) (t := 44) (fr := (0, 0)) (by repeat (first | exact heap_new' _ _ _ (by simp [World.size_alloc]) | rw [heap_old' _ _ _ (by simp [World.size_alloc] <;> omega)])) rfl rfl ?_ ?_
    · refine task_K (x := task1) (Nat.le_refl 2) ?_
      refine row2 (c := [.int .u8 1, .int .i64 0, .int .i64 0, .slice none 0 0, .slice (some ⟨w.heap.size + 1, 0, none⟩) 2 2, .int .i64 1]) (d := [.int .u8 2, .int .i64 0, .int .i64 0, .slice (some ⟨w.heap.size + 1 + 1, 0, none⟩) 1 1, .slice (some ⟨w.heap.size, 0, none⟩) 1 1, .int .i64 1]) (t := 69) (fr := (0, 0)) (by repeat (first | exact heap_new' _ _ _ (by simp [World.size_alloc]) | rw [heap_old' _ _ _ (by simp [World.size_alloc] <;> omega)])) rfl rfl ?_ ?_
      · refine read_K (x := ⟨1, 0, 0, dep1⟩) (Nat.le_refl 0) row0 (Nat.le_refl 2) ?_
        exact row2 (c := [.bool false, .int .i64 0, .int .i64 0]) (d := [.bool false, .int .i64 0, .int .i64 0]) (t := 79) (fr := (0, 0)) (by repeat (first | exact heap_new' _ _ _ (by simp [World.size_alloc]) | rw [heap_old' _ _ _ (by simp [World.size_alloc] <;> omega)])) rfl rfl (src_K _ zS) (src_K _ zS)
      · refine read_K (x := ⟨2, 0, 0, dep2⟩) (Nat.le_refl 1) ?_ (Nat.le_refl 1) ?_
        · exact row1 (c := [.bool true, .int .i64 0, .int .i64 0]) (t := 79) (fr := (0, 0)) (by repeat (first | exact heap_new' _ _ _ (by simp [World.size_alloc]) | rw [heap_old' _ _ _ (by simp [World.size_alloc] <;> omega)])) rfl (src_K _ toldS)
        · exact row1 (c := [.bool false, .int .i64 0, .int .i64 0]) (t := 79) (fr := (0, 0)) (by repeat (first | exact heap_new' _ _ _ (by simp [World.size_alloc]) | rw [heap_old' _ _ _ (by simp [World.size_alloc] <;> omega)])) rfl (src_K _ zS)
    · refine task_K (x := task2) (Nat.le_refl 1) ?_
      refine row1 (c := [.int .u8 2, .int .i64 0, .int .i64 0, .slice none 0 0, .slice (some ⟨w.heap.size, 0, none⟩) 1 1, .int .i64 1]) (t := 69) (fr := (0, 0)) (by repeat (first | exact heap_new' _ _ _ (by simp [World.size_alloc]) | rw [heap_old' _ _ _ (by simp [World.size_alloc] <;> omega)])) rfl ?_
      refine read_K (x := ⟨2, 0, 0, dep3⟩) (Nat.le_refl 0) row0 (Nat.le_refl 1) ?_
      exact row1 (c := [.bool false, .int .i64 0, .int .i64 0]) (t := 79) (fr := (0, 0)) (by repeat (first | exact heap_new' _ _ _ (by simp [World.size_alloc]) | rw [heap_old' _ _ _ (by simp [World.size_alloc] <;> omega)])) rfl (src_K _ zS)
  · exact row1 (c := [.int .i64 10, .int .i64 0]) (t := 25) (fr := (0, 0)) (by repeat (first | exact heap_new' _ _ _ (by simp [World.size_alloc]) | rw [heap_old' _ _ _ (by simp [World.size_alloc] <;> omega)])) rfl (clock_K _ clock1)
end Go.Proofs.Ytkabmpbfabgkfaa
