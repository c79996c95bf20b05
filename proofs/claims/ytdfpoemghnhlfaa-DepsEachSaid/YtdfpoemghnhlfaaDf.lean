/-
  deps.Last where there is something to tell.
  Conditions: the dep's rows lie in memory; the dep may be; its step and the place are in their bounds.
-/
import Derived.Test.YtdfpoemghnhlfaaDe
import Derived.Test.YtdfpoemghnhlfaaQr
import Derived.RangeFuncNested
import Derived.RangeFuncBox
import Derived.RangeFuncBound
import Derived.RangeFuncCalls
import Derived.RangeFuncLeaves
import Derived.Shelf.Abstract
import Derived.WalkKit
import Derived.OwnWalkIn
import Derived.TacticsInMore
import Derived.LoopNIn
import Derived.LoopIn
import Derived.Lib.Hide
import Derived.Deep.DeepCutAuto
import Derived.Deep.RegionHeld3
import Derived.BigRegion
import Derived.BigQuiet
import Derived.Deep.QuietTactic
set_option linter.unusedVariables false
set_option linter.unusedSimpArgs false
namespace Go.Proofs.Ytdfpoemghnhlfaa.P
open Go.RowKit Go.Shelf Go.Proofs.YtdfpoemghnhlfaaW.PrintWords Go.Proofs.YtdfpoemghnhlfaaW.PrintLast Go.Proofs.YtdfpoemghnhlfaaW.PrintMore
attribute [local go_sem] setCell_drewN alloc_drewN size_ext ext_ext ext_drewN ext_drew drewN_ext drew_ext cell?_ext frozen?_ext setCell_ext cell?_past1 frozen?_past1 setCell_past1 cell?_past2 frozen?_past2 setCell_past2 cell?_past3 frozen?_past3 setCell_past3 cell?_past4 frozen?_past4 setCell_past4 cell?_past5 frozen?_past5 setCell_past5 cell?_past6 frozen?_past6 setCell_past6 cell?_past7 frozen?_past7 setCell_past7 cell?_past8 frozen?_past8 setCell_past8
attribute [local go_sem] Oper.semAt_some
/-- The last place so far, behind one more source. -/
def lastStep (n0 n1 : Nat) (st m : Int) (acc : Int × Bool) (x : Nat × S26) : Int × Bool :=
  if x.2.f0 = true then acc else if x.1 < n0 ∧ m - x.2.f2 ≠ 0 then acc else if m - x.2.f2 < 0 then acc else if (m - x.2.f2) % st ≠ 0 then acc else
    if acc.2 = false ∨ acc.1 < (if n0 ≤ x.1 then (x.1 : Int) + (m - x.2.f2) / st * n1 else (x.1 : Int)) then ((if n0 ≤ x.1 then (x.1 : Int) + (m - x.2.f2) / st * n1 else (x.1 : Int)), true) else acc
theorem heap_new (W : World) (o : Obj) (n : Nat) (h : n = W.heap.size) : (W.alloc o).heap[n]? = some o := by subst h; exact World.alloc_heap_new W o
theorem heap_old (W : World) (o : Obj) (n : Nat) (h : n < W.heap.size) : (W.alloc o).heap[n]? = W.heap[n]? := Below.heap_alloc W o n h
theorem heap_drew (W : World) : W.drew.heap = W.heap := rfl
def lastF (n0 n1 : Nat) (st m : Int) (l : List (Nat × S26)) : Int × Bool := l.foldl (lastStep n0 n1 st m) (0, false)
theorem lastF_snoc (n0 n1 : Nat) (st m : Int) (l : List (Nat × S26)) (x : Nat × S26) : lastF n0 n1 st m (l ++ [x]) = lastStep n0 n1 st m (lastF n0 n1 st m l) x := by simp [lastF]
/-- A source that may be, at its place. -/
abbrev SrcM (n0 tot : Nat) := { x : Nat × S26 // mayS n0 x = true ∧ x.1 < tot }
def encM {n0 tot : Nat} (x : SrcM n0 tot) : Array Value := encS x.1
theorem srcs_may {h l : List S26} (HM : 0 < h.length + l.length ∧ allMay h.length (upto (srcs h l) (h.length + l.length)) = true) (k : Nat) (hk : k < h.length + l.length) : mayS h.length (srcs h l k) = true := by
  have := HM.2
  unfold allMay upto at this
  rw [List.all_eq_true] at this
  exact this _ (List.mem_map.2 ⟨k, List.mem_range.2 hk, rfl⟩)
theorem srcs_place (h l : List S26) (k : Nat) : (srcs h l k).1 = k := rfl
def srcM (h l : List S26) (HM : 0 < h.length + l.length ∧ allMay h.length (upto (srcs h l) (h.length + l.length)) = true) (k : Nat) : SrcM h.length (h.length + l.length) :=
  if hk : k < h.length + l.length then ⟨srcs h l k, srcs_may HM k hk, hk⟩ else ⟨srcs h l 0, srcs_may HM 0 HM.1, HM.1⟩
theorem srcM_val (h l : List S26) (HM) (k : Nat) (hk : k < h.length + l.length) : (srcM h l HM k).1 = srcs h l k := by unfold srcM; rw [dif_pos hk]
theorem srcM_enc (h l : List S26) (HM) (k : Nat) (hk : k < h.length + l.length) : encM (srcM h l HM k) = encS (srcs h l k) := by unfold encM; rw [srcM_val h l HM k hk]
def lastM {a b : Nat} (n0 n1 : Nat) (st m : Int) (l : List (SrcM a b)) : Int × Bool := lastF n0 n1 st m (l.map (·.1))
theorem lastM_snoc {a b : Nat} (n0 n1 : Nat) (st m : Int) (l : List (SrcM a b)) (x : SrcM a b) : lastM n0 n1 st m (l ++ [x]) = lastStep n0 n1 st m (lastM n0 n1 st m l) x.1 := by unfold lastM; rw [List.map_append]; exact lastF_snoc ..
theorem blk_other {W : World} {B k : Nat} {o : Obj} (h : W.heap[k]? = some o) (hne : k ≠ B) (v : Value) : (W.setCell ⟨B, 0, none⟩ v).heap[k]? = some o := (Below.heap_setCell W ⟨B, 0, none⟩ v k hne).trans h
theorem blk_same {W : World} {B t : Nat} {x : Value} (h : W.heap[B]? = some (.cells #[x] t)) (v : Value) : (W.setCell ⟨B, 0, none⟩ v).heap[B]? = some (.cells #[v] t) := by
  simp only [World.setCell, Array.getElem?_modify, if_pos, h]
  rfl
theorem last_end {a b : Nat} {n0 n1 : Nat} {st m : Int} {w W : World} {pz : List (SrcM a b)} {LL M : Int} {TT : Bool} {V7 B9 B10 Bd : Nat} {D D2 : Obj} {n : Nat} (hv : lastM n0 n1 st m pz = (M, true)) (hI : Below w.heap.size w W)
    (h1 : W.heap[w.heap.size]? = some D) (h2 : W.heap[w.heap.size + 1]? = some (.cells #[.int .i64 m] 2)) (h3 : W.heap[V7]? = some (.cells #[.int .i64 LL] 2)) (h4 : W.heap[V7 + 1]? = some (.cells #[.bool TT] 4))
    (h5 : W.heap[B9]? = some (.cells #[.int .i64 (n0 : Int)] 3)) (h6 : W.heap[B10]? = some (.cells #[.int .i64 (n1 : Int)] 2)) (h7 : W.heap[Bd]? = some D2) (H7 : w.heap.size + 1 < V7) (hl : V7 + 1 < Bd) (i1 : B9 ≠ V7) (i2 : B9 ≠ V7 + 1) (i3 : B10 ≠ V7) (i4 : B10 ≠ V7 + 1) (hse : w.heap.size ≤ V7) :
    KeepsFrom n W ((W.setCell ⟨V7, 0, none⟩ (.int .i64 M)).setCell ⟨V7 + 1, 0, none⟩ (.bool true)) ∧ Keep w.heap.size Bd W ((W.setCell ⟨V7, 0, none⟩ (.int .i64 M)).setCell ⟨V7 + 1, 0, none⟩ (.bool true)) ∧
      ((((W.setCell ⟨V7, 0, none⟩ (.int .i64 M)).setCell ⟨V7 + 1, 0, none⟩ (.bool true)).heap[w.heap.size]? = some D ∧ (((W.setCell ⟨V7, 0, none⟩ (.int .i64 M)).setCell ⟨V7 + 1, 0, none⟩ (.bool true)).heap[w.heap.size + 1]? = some (.cells #[.int .i64 m] 2) ∧ (((W.setCell ⟨V7, 0, none⟩ (.int .i64 M)).setCell ⟨V7 + 1, 0, none⟩ (.bool true)).heap[V7]? = some (.cells #[.int .i64 (lastM n0 n1 st m pz).1] 2) ∧ (((W.setCell ⟨V7, 0, none⟩ (.int .i64 M)).setCell ⟨V7 + 1, 0, none⟩ (.bool true)).heap[V7 + 1]? = some (.cells #[.bool (lastM n0 n1 st m pz).2] 4) ∧ (((W.setCell ⟨V7, 0, none⟩ (.int .i64 M)).setCell ⟨V7 + 1, 0, none⟩ (.bool true)).heap[B9]? = some (.cells #[.int .i64 (n0 : Int)] 3) ∧ (((W.setCell ⟨V7, 0, none⟩ (.int .i64 M)).setCell ⟨V7 + 1, 0, none⟩ (.bool true)).heap[B10]? = some (.cells #[.int .i64 (n1 : Int)] 2) ∧ ((W.setCell ⟨V7, 0, none⟩ (.int .i64 M)).setCell ⟨V7 + 1, 0, none⟩ (.bool true)).heap[Bd]? = some D2)))))) ∧ Below w.heap.size w ((W.setCell ⟨V7, 0, none⟩ (.int .i64 M)).setCell ⟨V7 + 1, 0, none⟩ (.bool true))) := by
  rw [hv]
  exact ⟨((KeepsOthers.setCell _ _ _).trans (KeepsOthers.setCell _ _ _)).from _, ⟨((Below.refl _ W).setCell (p := ⟨V7, 0, none⟩) hse _).setCell (p := ⟨V7 + 1, 0, none⟩) (Nat.le_succ_of_le hse) _, ((Below.heap_setCell _ ⟨V7 + 1, 0, none⟩ _ Bd (by show Bd ≠ V7 + 1; omega)).trans (Below.heap_setCell _ ⟨V7, 0, none⟩ _ Bd (by show Bd ≠ V7; omega)))⟩,
    ⟨blk_other (blk_other h1 (by omega) _) (by omega) _, blk_other (blk_other h2 (by omega) _) (by omega) _, blk_other (blk_same h3 _) (by omega) _, blk_same (blk_other h4 (by omega) _) _, blk_other (blk_other h5 i1 _) i2 _, blk_other (blk_other h6 i3 _) i4 _, blk_other (blk_other h7 (by omega) _) (by omega) _⟩,
    (hI.setCell (p := ⟨V7, 0, none⟩) hse _).setCell (p := ⟨V7 + 1, 0, none⟩) (Nat.le_succ_of_le hse) _⟩
theorem lastM_all (h l : List S26) (HM) (n0 n1 : Nat) (st m : Int) : lastM n0 n1 st m (upto (srcM h l HM) (h.length + l.length)) = lastF n0 n1 st m (upto (srcs h l) (h.length + l.length)) := by
  unfold lastM
  congr 1
  unfold upto
  rw [List.map_map]
  apply List.map_congr_left
  intro k hk
  exact srcM_val h l HM k (List.mem_range.1 hk)
theorem below_dn {n : Nat} {w X : World} (h : Below n w X) (k : Nat) : Below n w (X.drewN k) := ⟨h.os, h.tape, h.output, h.size, h.block⟩
set_option maxRecDepth 100000 in
set_option maxHeartbeats 16000000 in
theorem Last_walk (A0 A1 : Option Addr) (c0 c1 : Nat) (h l : List S26) (st : Int) (m : Int) (w : World) (hd : mayD h l st = true) (hs1 : 1 ≤ st) (hm0 : 0 ≤ m) (hm1 : m ≤ 1125899906842624)
    (hr0 : Kd.C k26 w A0 h.length h) (hr1 : Kd.C k26 w A1 l.length l) :
    Calls Try.prog 16 #[.agg #[.slice A0 h.length c0, .slice A1 l.length c1, .int .i64 st], .int .i64 m] w fun e W' => e = .returned (.tuple #[.int .i64 (lastF h.length l.length st m (upto (srcs h l) (h.length + l.length))).1, .bool (lastF h.length l.length st m (upto (srcs h l) (h.length + l.length))).2, .int .i64 0]) ∧ Below w.heap.size w W' := by
  have HR0 := Lib.hid hr0
  have HR1 := Lib.hid hr1
  have HD := Lib.hid hd
  have hb1 : 1 ≤ l.length ∧ l.length ≤ 4096 ∧ h.length ≤ 4096 ∧ st ≤ 1099511627776 := by
    unfold mayD at hd
    simp only [Bool.and_eq_true, decide_eq_true_eq] at hd
    omega
  have HM : 0 < h.length + l.length ∧ allMay h.length (upto (srcs h l) (h.length + l.length)) = true := by
    unfold mayD at hd
    simp only [Bool.and_eq_true, decide_eq_true_eq] at hd
    exact ⟨by omega, hd.2.2.2.2.2⟩
  have d1 : decide (st < 1) = false := decide_eq_false (by omega)
  have d2 : decide (m < 0) = false := decide_eq_false (by omega)
  have d3 : decide ((1125899906842624 : Int) < m) = false := decide_eq_false (by omega)
  clear hr0 hr1 hd
  refine callsIn_wide.1 (callsIn_of_wp_marks (F := Fence.wide) (n := 6) Try.func16 rfl trivial ?_ rfl)
  simp only [Try.ntmps16, List.size_toArray, List.length_cons, List.length_nil, Nat.reduceAdd, Nat.reduceSub, Array.replicate_succ, Array.replicate_zero, List.push_toArray, List.append_toArray, List.nil_append, List.cons_append]
  refine wpIn_wide.2 ?_
  go_wp2_with fail
  refine (May_any A0 A1 c0 c1 h l st _ (Kd.C_below HR0.out (by repeat (first | (with_reducible exact Below.refl _ _) | (with_reducible assumption) | (with_reducible refine below_drewN ?_ _) | (with_reducible refine Below.drew ?_) | (with_reducible refine below_ext_of ?_ (by first | exact Nat.le_refl _ | assumption | (simp only [World.size_alloc, World.size_setCell, size_ext, World.heap_drewN]; omega)) _ _) | (with_reducible refine Below.alloc ?_ (by first | exact Nat.le_refl _ | assumption | (simp only [World.size_alloc, World.size_setCell, size_ext, World.heap_drewN]; omega)) _) | (with_reducible refine Below.setCell ?_ (by first | exact Nat.le_refl _ | assumption | (simp only [World.size_alloc, World.size_setCell, size_ext, World.heap_drewN]; omega)) _)))) (Kd.C_below HR1.out (by repeat (first | (with_reducible exact Below.refl _ _) | (with_reducible assumption) | (with_reducible refine below_drewN ?_ _) | (with_reducible refine Below.drew ?_) | (with_reducible refine below_ext_of ?_ (by first | exact Nat.le_refl _ | assumption | (simp only [World.size_alloc, World.size_setCell, size_ext, World.heap_drewN]; omega)) _ _) | (with_reducible refine Below.alloc ?_ (by first | exact Nat.le_refl _ | assumption | (simp only [World.size_alloc, World.size_setCell, size_ext, World.heap_drewN]; omega)) _) | (with_reducible refine Below.setCell ?_ (by first | exact Nat.le_refl _ | assumption | (simp only [World.size_alloc, World.size_setCell, size_ext, World.heap_drewN]; omega)) _))))).mono ?_
  rintro e w' ⟨rfl, hb⟩
  obtain ⟨X, d, rfl⟩ := below_ext hb
  clear hb
  rw [HD.out]
  go_upto_region 4 with (fail)
  have q0 := World.alloc_heap_new w (.cells #[.slice A0 h.length c0, .slice A1 l.length c1, .int .i64 st] 32)
  have q1 := World.alloc_heap_new (w.alloc (.cells #[.slice A0 h.length c0, .slice A1 l.length c1, .int .i64 st] 32)) (.cells #[.int .i64 m] 2)
  have q0' := (Below.heap_alloc _ (.cells #[.int .i64 m] 2) _ (Array.getElem?_eq_some_iff.1 q0).1).trans q0
  obtain ⟨V, hV⟩ : ∃ V, V = ext ((w.alloc (.cells #[.slice A0 h.length c0, .slice A1 l.length c1, .int .i64 st] 32)).alloc (.cells #[.int .i64 m] 2)) X d := ⟨_, rfl⟩
  have v0 : V.heap[w.heap.size]? = some (.cells #[.slice A0 h.length c0, .slice A1 l.length c1, .int .i64 st] 32) := by rw [hV]; exact ((ext_below _ _ _).block _ (by simp; omega)).trans q0'
  have v1 : V.heap[w.heap.size + 1]? = some (.cells #[.int .i64 m] 2) := by rw [hV]; rw [World.size_alloc] at q1; exact ((ext_below _ _ _).block _ (by simp)).trans q1
  have vB : Below w.heap.size w V := by rw [hV]; repeat (first | (with_reducible exact Below.refl _ _) | (with_reducible assumption) | (with_reducible refine below_drewN ?_ _) | (with_reducible refine Below.drew ?_) | (with_reducible refine below_ext_of ?_ (by first | exact Nat.le_refl _ | assumption | (simp only [World.size_alloc, World.size_setCell, size_ext, World.heap_drewN]; omega)) _ _) | (with_reducible refine Below.alloc ?_ (by first | exact Nat.le_refl _ | assumption | (simp only [World.size_alloc, World.size_setCell, size_ext, World.heap_drewN]; omega)) _) | (with_reducible refine Below.setCell ?_ (by first | exact Nat.le_refl _ | assumption | (simp only [World.size_alloc, World.size_setCell, size_ext, World.heap_drewN]; omega)) _))
  have vs : V.heap.size = w.heap.size + 1 + 1 + X.size := by rw [hV]; simp [go_sem]
  rw [← hV, ← vs]
  clear q0 q1 q0' hV
  obtain ⟨n0, hn0⟩ : ∃ n0, n0 = h.length := ⟨_, rfl⟩
  obtain ⟨n1, hn1⟩ : ∃ n1, n1 = l.length := ⟨_, rfl⟩
  rw [← hn0, ← hn1] at hb1 v0 ⊢
  have HN0 := Lib.hid hn0
  have HN1 := Lib.hid hn1
  clear hn0 hn1
  have p0 := cell_of v0 0
  have p1 := cell_of v0 1
  simp only [List.getElem?_toArray, List.getElem?_cons_zero, List.getElem?_cons_succ] at p0 p1
  have hlt : w.heap.size < V.heap.size := by omega
  have z0 : w.heap.size < V.heap.size + 1 := by omega
  have z1 : w.heap.size < V.heap.size + 2 := by omega
  have z2 : w.heap.size < V.heap.size + 1 + 1 := by omega
  have z3 : w.heap.size < V.heap.size + 3 := by omega
  have z4 : w.heap.size < V.heap.size + 1 + 1 + 1 := by omega
  have z5 : w.heap.size < V.heap.size + 4 := by omega
  have z6 : w.heap.size < V.heap.size + 1 + 1 + 1 + 1 := by omega
  have V0 := Lib.hid v0
  have V1 := Lib.hid v1
  have VB := Lib.hid vB
  have VS := Lib.hid vs
  clear v0 v1 vB vs
  go_cut [9, 10] from 31 to 85 (fun s9 s10 wc => ∃ B9 B10 : Nat, s9 = .pointer (some ⟨B9, 0, none⟩) ∧ s10 = .pointer (some ⟨B10, 0, none⟩) ∧ Hid (Below w.heap.size w wc ∧ wc.heap[w.heap.size]? = some (.cells #[.slice A0 n0 c0, .slice A1 n1 c1, .int .i64 st] 32) ∧ wc.heap[w.heap.size + 1]? = some (.cells #[.int .i64 m] 2) ∧ wc.heap[V.heap.size]? = some (.cells #[.int .i64 0] 2) ∧ wc.heap[V.heap.size + 1]? = some (.cells #[.bool false] 4) ∧ wc.heap[B9]? = some (.cells #[.int .i64 (n0 : Int)] 3) ∧ wc.heap[B10]? = some (.cells #[.int .i64 (n1 : Int)] 2) ∧ B9 ≠ V.heap.size ∧ B9 ≠ V.heap.size + 1 ∧ B10 ≠ V.heap.size ∧ B10 ≠ V.heap.size + 1))
  case first =>
    go_region_held3 (fun W => W.cell? ⟨w.heap.size, 0, none⟩ = some (.slice A0 n0 c0) ∧ W.cell? ⟨w.heap.size, 1, none⟩ = some (.slice A1 n1 c1)) (go_simp) (fail)
    all_goals
      go_wp2_with fail
      go_meet
      case rel => exact ⟨_, _, rfl, rfl, Lib.hid ⟨((((VB.out.alloc VB.out.size _).alloc (by simp only [World.size_alloc]; have := VB.out.size; omega) _).alloc (by simp only [World.size_alloc]; have := VB.out.size; omega) _).alloc (by simp only [World.size_alloc]; have := VB.out.size; omega) _).drew, by rw [heap_drew]; repeat (first | exact V0.out | exact V1.out | exact heap_new _ _ _ (by simp only [World.size_alloc]) | (refine (heap_old _ _ _ ?_).trans ?_; ((try simp only [World.size_alloc]); have := VS.out; omega))), by rw [heap_drew]; repeat (first | exact V0.out | exact V1.out | exact heap_new _ _ _ (by simp only [World.size_alloc]) | (refine (heap_old _ _ _ ?_).trans ?_; ((try simp only [World.size_alloc]); have := VS.out; omega))), by rw [heap_drew]; repeat (first | exact V0.out | exact V1.out | exact heap_new _ _ _ (by simp only [World.size_alloc]) | (refine (heap_old _ _ _ ?_).trans ?_; ((try simp only [World.size_alloc]); have := VS.out; omega))), by rw [heap_drew]; repeat (first | exact V0.out | exact V1.out | exact heap_new _ _ _ (by simp only [World.size_alloc]) | (refine (heap_old _ _ _ ?_).trans ?_; ((try simp only [World.size_alloc]); have := VS.out; omega))), by rw [heap_drew]; repeat (first | exact V0.out | exact V1.out | exact heap_new _ _ _ (by simp only [World.size_alloc]) | (refine (heap_old _ _ _ ?_).trans ?_; ((try simp only [World.size_alloc]); have := VS.out; omega))), by rw [heap_drew]; repeat (first | exact V0.out | exact V1.out | exact heap_new _ _ _ (by simp only [World.size_alloc]) | (refine (heap_old _ _ _ ?_).trans ?_; ((try simp only [World.size_alloc]); have := VS.out; omega))), by omega, by omega, by omega, by omega⟩⟩
  case rest =>
  clear p0 p1 hlt z0 z1 z2 z3 z4 z5 z6
  obtain ⟨B9, B10, rfl, rfl, HC⟩ := hcut
  obtain ⟨cB, cD, cN, c7, c8, c9, c10, i1, i2, i3, i4⟩ := HC.out
  clear HC
  have pD0 := cell_of cD 0
  have pD1 := cell_of cD 1
  have pD2 := cell_of cD 2
  simp only [List.getElem?_toArray, List.getElem?_cons_zero, List.getElem?_cons_succ] at pD0 pD1 pD2
  obtain ⟨V7, hV7⟩ : ∃ V7, V7 = V.heap.size := ⟨_, rfl⟩
  rw [← hV7] at c7 c8 i1 i2 i3 i4 ⊢
  have H7 : w.heap.size + 1 < V7 := by have := VS.out; omega
  clear hV7
  go_wp2_with fail
  refine (callsIn_wide.1 (values_in Fence.wide 6 trivial rfl _ _ _ _ _ _ _ _)).mono ?_
  rintro e w' ⟨rfl, rfl⟩
  have fD := (Below.heap_alloc wc (.cells #[.slice A0 n0 c0, .slice A1 n1 c1, .int .i64 st] 32) _ (Array.getElem?_eq_some_iff.1 cD).1).trans cD
  have fN := (Below.heap_alloc wc (.cells #[.slice A0 n0 c0, .slice A1 n1 c1, .int .i64 st] 32) _ (Array.getElem?_eq_some_iff.1 cN).1).trans cN
  have f7 := (Below.heap_alloc wc (.cells #[.slice A0 n0 c0, .slice A1 n1 c1, .int .i64 st] 32) _ (Array.getElem?_eq_some_iff.1 c7).1).trans c7
  have f8 := (Below.heap_alloc wc (.cells #[.slice A0 n0 c0, .slice A1 n1 c1, .int .i64 st] 32) _ (Array.getElem?_eq_some_iff.1 c8).1).trans c8
  have f9 := (Below.heap_alloc wc (.cells #[.slice A0 n0 c0, .slice A1 n1 c1, .int .i64 st] 32) _ (Array.getElem?_eq_some_iff.1 c9).1).trans c9
  have f10 := (Below.heap_alloc wc (.cells #[.slice A0 n0 c0, .slice A1 n1 c1, .int .i64 st] 32) _ (Array.getElem?_eq_some_iff.1 c10).1).trans c10
  have fV := World.alloc_heap_new wc (.cells #[.slice A0 n0 c0, .slice A1 n1 c1, .int .i64 st] 32)
  have l8 := (Array.getElem?_eq_some_iff.1 c8).1
  have l9 := (Array.getElem?_eq_some_iff.1 c9).1
  have l10 := (Array.getElem?_eq_some_iff.1 c10).1
  have fB : Below w.heap.size w (wc.alloc (.cells #[.slice A0 n0 c0, .slice A1 n1 c1, .int .i64 st] 32)) := cB.alloc cB.size _
  have fS : (wc.alloc (.cells #[.slice A0 n0 c0, .slice A1 n1 c1, .int .i64 st] 32)).heap.size = wc.heap.size + 1 := by simp
  obtain ⟨Bd, hBd⟩ : ∃ Bd, Bd = wc.heap.size := ⟨_, rfl⟩
  obtain ⟨W0, hW0⟩ : ∃ W0, W0 = wc.alloc (.cells #[.slice A0 n0 c0, .slice A1 n1 c1, .int .i64 st] 32) := ⟨_, rfl⟩
  rw [← hBd] at fV fS l8 l9 l10 ⊢
  rw [← hW0] at fD fN f7 f8 f9 f10 fV fB fS ⊢
  clear hBd hW0 cB cD cN c7 c8 c9 c10 pD0 pD1 pD2
  go_wp2_with fail
  have hst := values_stops (srcM h l HM) encM Fence.wide 5 trivial rfl (by omega) Bd w.heap.size A0 A1 c0 c1 h l st W0 (srcM_enc h l HM) (by omega) (by omega) (by have := HN0.out; have := HN1.out; omega) (by rw [← HN0.out]; exact cell_of fV 0) (by rw [← HN1.out]; exact cell_of fV 1)
    (fun W' hb => Kd.C_below HR0.out (fB.trans hb)) (fun W' hb => Kd.C_below HR1.out (fB.trans hb))
  refine wpIn_wide.1 (wpIn_rangeFunc_ownH (F := Fence.wide) (n := 6) rfl (by omega) (gf := 43) (lb := #[.pointer (some ⟨Bd, 0, none⟩)]) rfl trivial (enters_of Try.func43 (by kernel_rfl) rfl)
    hst (fun a b => a.trans b) (keep_b (by omega) (by omega)) (Below.refl _ _) (fun _ => rfl)
    (fun pre W => ((W.heap[w.heap.size]? = some (.cells #[.slice A0 n0 c0, .slice A1 n1 c1, .int .i64 st] 32) ∧ (W.heap[w.heap.size + 1]? = some (.cells #[.int .i64 m] 2) ∧ (W.heap[V7]? = some (.cells #[.int .i64 (lastM n0 n1 st m pre).1] 2) ∧ (W.heap[V7 + 1]? = some (.cells #[.bool (lastM n0 n1 st m pre).2] 4) ∧ (W.heap[B9]? = some (.cells #[.int .i64 (n0 : Int)] 3) ∧ (W.heap[B10]? = some (.cells #[.int .i64 (n1 : Int)] 2) ∧ W.heap[Bd]? = some (.cells #[.slice A0 n0 c0, .slice A1 n1 c1, .int .i64 st] 32)))))))) ∧ Below w.heap.size w W)
    (fun _ _ _ => False)
    (OwnFrom.and (OwnFrom.and (Own.from (blk_own _ _ (fun _ => rfl)) _) (OwnFrom.and (Own.from (blk_own _ _ (fun _ => rfl)) _) (OwnFrom.and (Own.from (blk_own _ _ (fun _ => rfl)) _) (OwnFrom.and (Own.from (blk_own _ _ (fun _ => rfl)) _) (OwnFrom.and (Own.from (blk_own _ _ (fun _ => rfl)) _) (OwnFrom.and (Own.from (blk_own _ _ (fun _ => rfl)) _) (Own.from (blk_own _ _ (fun _ => rfl)) _))))))) (ownFrom_below (Nat.le_refl _) (by omega)))
    (fun _ _ _ _ _ hs _ _ => hs)
    ⟨⟨fD, fN, f7, f8, f9, f10, fV⟩, fB⟩
    (fun x a' W => ∃ Bx, Bd < Bx ∧ W.heap[Bx]? = some (.cells #[.bool x.1.2.f0, .int .i64 x.1.2.f1, .int .i64 x.1.2.f2] 26) ∧ ∃ u13 u14 u15 u16 u17 u18 u19 u20 u21 u22 u23 u24 u25 u26 u27 u28 u29 u30 u31 u32 u33 u34 u35 u36 u37 u38 u39 u40 u41 u42 u43 u44 u45 u46 u47 u48 u49 u50 u51 u52 u53 u54 u55 u56 u57 u58 u59 u60 u61 u62 u63 u64 u65 u66 u67 u68 u69 u70 u71 u72 u73 u74 u75 u76 u77 u78 u79 u80 u81 u82 u83 u84 : Value, a' = { tmps := #[.agg #[.slice A0 n0 c0, .slice A1 n1 c1, .int .i64 st], .int .i64 m, .pointer (some ⟨w.heap.size, 0, none⟩), .pointer (some ⟨w.heap.size + 1, 0, none⟩), .int .i64 0, .bool false, .int .i64 0, .pointer (some ⟨V7, 0, none⟩), .pointer (some ⟨V7 + 1, 0, none⟩), .pointer (some ⟨B9, 0, none⟩), .pointer (some ⟨B10, 0, none⟩), .int .i64 (x.1.1 : Int), .pointer (some ⟨Bx, 0, none⟩), u13, u14, u15, u16, u17, u18, u19, u20, u21, u22, u23, u24, u25, u26, u27, u28, u29, u30, u31, u32, u33, u34, u35, u36, u37, u38, u39, u40, u41, u42, u43, u44, u45, u46, u47, u48, u49, u50, u51, u52, u53, u54, u55, u56, u57, u58, u59, u60, u61, u62, u63, u64, u65, u66, u67, u68, u69, u70, u71, u72, u73, u74, u75, u76, u77, u78, u79, u80, u81, u82, u83, u84], defers := [] })
    (fun x a' _ X Y row hs hg hr => by obtain ⟨Bx, h1, h2, h3⟩ := hs; exact ⟨Bx, h1, blk_own Bx (fun (_ : Unit) => Obj.cells #[.bool x.1.2.f0, .int .i64 x.1.2.f1, .int .i64 x.1.2.f2] 26) (fun _ => rfl) () X Y row h2 hg (fun r e => (hr r e).2), h3⟩)
    ?assign ?body ?done ?stop)
  case assign =>
    rintro lp pre ⟨⟨i, x⟩, hx⟩ W K ⟨⟨b1, b2, b3, b4, b5, b6, b7⟩, hB⟩ hK
    unfold encM encS
    dsimp only
    gi_wp2
    have hs3 := hB.size
    have hs4 := (Array.getElem?_eq_some_iff.1 b7).1
    exact hK _ _ ((KeepsOthers.alloc _ _).from _) ⟨(Below.refl _ W).alloc hB.size _, Below.heap_alloc W _ _ hs4⟩
      ⟨⟨(Below.heap_alloc W _ _ (Array.getElem?_eq_some_iff.1 b1).1).trans b1, (Below.heap_alloc W _ _ (Array.getElem?_eq_some_iff.1 b2).1).trans b2, (Below.heap_alloc W _ _ (Array.getElem?_eq_some_iff.1 b3).1).trans b3, (Below.heap_alloc W _ _ (Array.getElem?_eq_some_iff.1 b4).1).trans b4, (Below.heap_alloc W _ _ (Array.getElem?_eq_some_iff.1 b5).1).trans b5, (Below.heap_alloc W _ _ (Array.getElem?_eq_some_iff.1 b6).1).trans b6, (Below.heap_alloc W _ _ hs4).trans b7⟩, hB.alloc hB.size _⟩
      ⟨W.heap.size, hs4, World.alloc_heap_new W _, _, _, _, _, _, _, _, _, _, _, _, _, _, _, _, _, _, _, _, _, _, _, _, _, _, _, _, _, _, _, _, _, _, _, _, _, _, _, _, _, _, _, _, _, _, _, _, _, _, _, _, _, _, _, _, _, _, _, _, _, _, _, _, _, _, _, _, _, _, _, _, _, rfl⟩
  case body =>
    rintro lp pre z a' W hl ⟨r, hr⟩ ⟨⟨b1, b2, b3, b4, b5, b6, b7⟩, hB⟩ ⟨Bx, hBx, bX, u13, u14, u15, u16, u17, u18, u19, u20, u21, u22, u23, u24, u25, u26, u27, u28, u29, u30, u31, u32, u33, u34, u35, u36, u37, u38, u39, u40, u41, u42, u43, u44, u45, u46, u47, u48, u49, u50, u51, u52, u53, u54, u55, u56, u57, u58, u59, u60, u61, u62, u63, u64, u65, u66, u67, u68, u69, u70, u71, u72, u73, u74, u75, u76, u77, u78, u79, u80, u81, u82, u83, u84, rfl⟩ hlt
    have hsn := lastM_snoc n0 n1 st m pre z
    have hz2 := z.2
    obtain ⟨y, hy⟩ : ∃ y, y = z.1 := ⟨_, rfl⟩
    rw [← hy] at hsn hz2 bX ⊢
    obtain ⟨i, f0, f1, f2⟩ := y
    obtain ⟨hxm, hxi⟩ := hz2
    (try dsimp only at bX)
    obtain ⟨LL, hLL⟩ : ∃ LL, LL = (lastM n0 n1 st m pre).1 := ⟨_, rfl⟩
    obtain ⟨TT, hTT⟩ : ∃ TT, TT = (lastM n0 n1 st m pre).2 := ⟨_, rfl⟩
    have hLT : lastM n0 n1 st m pre = (LL, TT) := by rw [hLL, hTT]
    rw [hLT] at hsn
    have HSN := Lib.hid hsn
    rw [← hLL] at b3
    rw [← hTT] at b4
    clear hLL hTT hLT hsn hr hl hy
    have hX0 := cell_of bX 0
    have hX1 := cell_of bX 1
    have hX2 := cell_of bX 2
    have hD2 := cell_of b1 2
    have hN0 := cell_of b2 0
    have h70 := cell_of b3 0
    have h7f := froz_of b3 0
    have h80 := cell_of b4 0
    have h8f := froz_of b4 0
    have h90 := cell_of b5 0
    have h100 := cell_of b6 0
    (try dsimp only at hX0 hX1 hX2)
    simp only [List.getElem?_toArray, List.getElem?_cons_zero, List.getElem?_cons_succ] at hX0 hX1 hX2 hD2 hN0 h70 h80 h90 h100
    have hl8 := (Array.getElem?_eq_some_iff.1 b4).1
    have HI : Hid (Below w.heap.size w W) := Lib.hid hB
    have HB1 := Lib.hid b1
    have HB2 := Lib.hid b2
    have HB3 := Lib.hid b3
    have HB4 := Lib.hid b4
    have HB5 := Lib.hid b5
    have HB6 := Lib.hid b6
    have HB7 := Lib.hid b7
    have hb2 : f0 = false → 0 ≤ f2 ∧ f2 ≤ 1125899906842624 := by
      rintro rfl
      unfold mayS at hxm
      simp only [Bool.not_eq_true', Bool.or_eq_false_iff, decide_eq_false_iff_not] at hxm
      omega
    have hl9 : V7 + 1 < Bd := l8
    have hse : w.heap.size ≤ V7 := by omega
    have HIi : i < 8192 := by have := HN0.out; have := HN1.out; omega
    clear hB b1 b2 b3 b4 b5 b6 b7 bX hxm
    cases f0 with
    | true =>
      have hv : Hid (lastStep n0 n1 st m (LL, TT) (i, ⟨true, f1, f2⟩) = (LL, TT)) := Lib.hid (by simp [lastStep])
      clear hb2
      gi_wp2
      all_goals (try exact (no_undef (by assumption)).elim)
      all_goals
        first
          | exact ⟨KeepsFrom.refl _ _, keep_refl _ _ _, ⟨HB1.out, HB2.out, by rw [HSN.out, hv.out]; exact HB3.out, by rw [HSN.out, hv.out]; exact HB4.out, HB5.out, HB6.out, HB7.out⟩, HI.out⟩
          | exact ⟨⟨Nat.le_refl _, fun _ _ _ h _ => h⟩, ⟨below_dn (Below.refl _ _) nq, rfl⟩, ⟨HB1.out, HB2.out, by rw [HSN.out, hv.out]; exact HB3.out, by rw [HSN.out, hv.out]; exact HB4.out, HB5.out, HB6.out, HB7.out⟩, below_dn HI.out nq⟩
    | false =>
      obtain ⟨q1, q2⟩ := hb2 rfl
      clear hb2
      obtain ⟨K, hK⟩ : ∃ K, K = m - f2 := ⟨_, rfl⟩
      have k1 : -1125899906842624 ≤ K := by omega
      have k2 : K ≤ 1125899906842624 := by omega
      have e0 : m - f2 = K := hK.symm
      have e1 : IntKind.i64.wrap (m - f2) = K := by rw [IntKind.wrap_i64]; omega
      have e2 : IntKind.i64.wrap K = K := by rw [IntKind.wrap_i64]; omega
      have HE := Lib.hid e0
      clear hK q1 q2
      have s1 : ¬ (st = 0) := by omega
      have s2 : (st == 0) = false := beq_false_of_ne s1
      have s3 : (st == -1) = false := beq_false_of_ne (by omega)
      have n1b : (n1 : Int) ≤ 4096 := by omega
      by_cases c1 : i < n0
      · have c1a : (i : Int) < n0 := by omega
        have c1b := decide_eq_true c1a
        have c1c : decide ((i : Int) ≥ (n0 : Int)) = false := decide_eq_false (by omega)
        have c1d : ¬ ((n0 : Int) ≤ i) := by omega
        have c1e : ¬ (n0 ≤ i) := by omega
        by_cases c2 : K = 0
        · subst c2
          have hstep : Hid (lastStep n0 n1 st m (LL, TT) (i, ⟨false, f1, f2⟩) = if TT = false ∨ LL < (i : Int) then ((i : Int), true) else (LL, TT)) := Lib.hid (by
            unfold lastStep
            dsimp only
            rw [if_neg (by decide), HE.out, if_neg (fun h => h.2 rfl), if_neg (by decide), if_neg (by simp), if_neg c1e])
          clear e0
          cases TT with
          | false =>
            have hv : Hid (lastStep n0 n1 st m (LL, false) (i, ⟨false, f1, f2⟩) = ((i : Int), true)) := Lib.hid (hstep.out.trans (by simp))
            gi_wp2
            all_goals (try exact (no_undef (by assumption)).elim)
            all_goals
              first
                | exact last_end (HSN.out.trans hv.out) HI.out HB1.out HB2.out HB3.out HB4.out HB5.out HB6.out HB7.out H7 hl9 i1 i2 i3 i4 hse
                | (have q := last_end (n := 0) (HSN.out.trans hv.out) HI.out HB1.out HB2.out HB3.out HB4.out HB5.out HB6.out HB7.out H7 hl9 i1 i2 i3 i4 hse
                   exact ⟨⟨q.1.size, fun k o _ hk ho => q.1.same k o (Nat.zero_le _) hk ho⟩, ⟨⟨q.2.1.1.os, q.2.1.1.tape, q.2.1.1.output, q.2.1.1.size, q.2.1.1.block⟩, q.2.1.2⟩, q.2.2.1, ⟨q.2.2.2.os, q.2.2.2.tape, q.2.2.2.output, q.2.2.2.size, q.2.2.2.block⟩⟩)
          | true =>
            by_cases cL : LL < (i : Int)
            · have dL := decide_eq_true cL
              have hv : Hid (lastStep n0 n1 st m (LL, true) (i, ⟨false, f1, f2⟩) = ((i : Int), true)) := Lib.hid (hstep.out.trans (by simp [cL]))
              gi_wp2
              all_goals (try exact (no_undef (by assumption)).elim)
              all_goals
                first
                  | exact last_end (HSN.out.trans hv.out) HI.out HB1.out HB2.out HB3.out HB4.out HB5.out HB6.out HB7.out H7 hl9 i1 i2 i3 i4 hse
                  | (have q := last_end (n := 0) (HSN.out.trans hv.out) HI.out HB1.out HB2.out HB3.out HB4.out HB5.out HB6.out HB7.out H7 hl9 i1 i2 i3 i4 hse
                     exact ⟨⟨q.1.size, fun k o _ hk ho => q.1.same k o (Nat.zero_le _) hk ho⟩, ⟨⟨q.2.1.1.os, q.2.1.1.tape, q.2.1.1.output, q.2.1.1.size, q.2.1.1.block⟩, q.2.1.2⟩, q.2.2.1, ⟨q.2.2.2.os, q.2.2.2.tape, q.2.2.2.output, q.2.2.2.size, q.2.2.2.block⟩⟩)
            · have dL := decide_eq_false cL
              have hv : Hid (lastStep n0 n1 st m (LL, true) (i, ⟨false, f1, f2⟩) = (LL, true)) := Lib.hid (hstep.out.trans (by simp [cL]))
              gi_wp2
              all_goals (try exact (no_undef (by assumption)).elim)
              all_goals
                first
                  | exact ⟨KeepsFrom.refl _ _, keep_refl _ _ _, ⟨HB1.out, HB2.out, by rw [HSN.out, hv.out]; exact HB3.out, by rw [HSN.out, hv.out]; exact HB4.out, HB5.out, HB6.out, HB7.out⟩, HI.out⟩
                  | exact ⟨⟨Nat.le_refl _, fun _ _ _ h _ => h⟩, ⟨below_dn (Below.refl _ _) nq, rfl⟩, ⟨HB1.out, HB2.out, by rw [HSN.out, hv.out]; exact HB3.out, by rw [HSN.out, hv.out]; exact HB4.out, HB5.out, HB6.out, HB7.out⟩, below_dn HI.out nq⟩
        · have c2a : (K == 0) = false := beq_false_of_ne c2
          have c2b : (K != 0) = true := bne_iff_ne.2 c2
          have hv : Hid (lastStep n0 n1 st m (LL, TT) (i, ⟨false, f1, f2⟩) = (LL, TT)) := Lib.hid (by
            unfold lastStep
            dsimp only
            rw [if_neg (by decide), HE.out, if_pos ⟨c1, c2⟩])
          gi_wp2
          all_goals (try exact (no_undef (by assumption)).elim)
          all_goals
            first
              | exact ⟨KeepsFrom.refl _ _, keep_refl _ _ _, ⟨HB1.out, HB2.out, by rw [HSN.out, hv.out]; exact HB3.out, by rw [HSN.out, hv.out]; exact HB4.out, HB5.out, HB6.out, HB7.out⟩, HI.out⟩
              | exact ⟨⟨Nat.le_refl _, fun _ _ _ h _ => h⟩, ⟨below_dn (Below.refl _ _) nq, rfl⟩, ⟨HB1.out, HB2.out, by rw [HSN.out, hv.out]; exact HB3.out, by rw [HSN.out, hv.out]; exact HB4.out, HB5.out, HB6.out, HB7.out⟩, below_dn HI.out nq⟩
      · have c1a : ¬ ((i : Int) < n0) := by omega
        have c1b := decide_eq_false c1a
        have c1c : decide ((i : Int) ≥ (n0 : Int)) = true := decide_eq_true (by omega)
        have c1d : ((n0 : Int) ≤ i) := by omega
        have c1e : n0 ≤ i := by omega
        by_cases c3 : K < 0
        · have c3a := decide_eq_true c3
          have hv : Hid (lastStep n0 n1 st m (LL, TT) (i, ⟨false, f1, f2⟩) = (LL, TT)) := Lib.hid (by
            unfold lastStep
            dsimp only
            rw [if_neg (by decide), HE.out, if_neg (fun h => c1 h.1), if_pos c3])
          gi_wp2
          all_goals (try exact (no_undef (by assumption)).elim)
          all_goals
            first
              | exact ⟨KeepsFrom.refl _ _, keep_refl _ _ _, ⟨HB1.out, HB2.out, by rw [HSN.out, hv.out]; exact HB3.out, by rw [HSN.out, hv.out]; exact HB4.out, HB5.out, HB6.out, HB7.out⟩, HI.out⟩
              | exact ⟨⟨Nat.le_refl _, fun _ _ _ h _ => h⟩, ⟨below_dn (Below.refl _ _) nq, rfl⟩, ⟨HB1.out, HB2.out, by rw [HSN.out, hv.out]; exact HB3.out, by rw [HSN.out, hv.out]; exact HB4.out, HB5.out, HB6.out, HB7.out⟩, below_dn HI.out nq⟩
        · have c3a := decide_eq_false c3
          have c3b : 0 ≤ K := by omega
          obtain ⟨R, hR⟩ : ∃ R, R = K % st := ⟨_, rfl⟩
          have r1 : Int.tmod K st = R := by rw [hR, Int.tmod_eq_emod_of_nonneg c3b]
          have r2 : K % st = R := hR.symm
          have HR := Lib.hid r2
          clear hR
          by_cases c4 : R = 0
          · subst c4
            obtain ⟨Q, hQ⟩ : ∃ Q, Q = K / st := ⟨_, rfl⟩
            have g1 : Int.tdiv K st = Q := by rw [hQ, Int.tdiv_eq_ediv_of_nonneg c3b]
            have g2 : K / st = Q := hQ.symm
            have g3 : 0 ≤ Q := by rw [hQ]; exact Int.ediv_nonneg c3b (by omega)
            have g4 : Q ≤ 1125899906842624 := by rw [hQ]; exact Int.le_trans (Int.ediv_le_self _ c3b) k2
            have HG := Lib.hid g2
            clear hQ
            have g5 : IntKind.i64.wrap Q = Q := by rw [IntKind.wrap_i64]; omega
            obtain ⟨QN, hQN⟩ : ∃ QN, QN = Q * (n1 : Int) := ⟨_, rfl⟩
            have g6 : 0 ≤ QN := by rw [hQN]; exact Int.mul_nonneg g3 (by omega)
            have g7 : QN ≤ 1125899906842624 * 4096 := by rw [hQN]; exact Int.mul_le_mul g4 n1b (by omega) (by omega)
            have g8 : Q * (n1 : Int) = QN := hQN.symm
            have HQ := Lib.hid g8
            have g9 : IntKind.i64.wrap (Q * (n1 : Int)) = QN := by rw [IntKind.wrap_i64, g8]; omega
            have g9' : IntKind.i64.wrap QN = QN := by rw [IntKind.wrap_i64]; omega
            clear hQN
            obtain ⟨M, hM⟩ : ∃ M, M = (i : Int) + QN := ⟨_, rfl⟩
            have g10 : (i : Int) + QN = M := hM.symm
            have HM2 := Lib.hid g10
            have g11 : IntKind.i64.wrap ((i : Int) + QN) = M := by rw [IntKind.wrap_i64]; omega
            have g12 : IntKind.i64.wrap M = M := by rw [IntKind.wrap_i64]; omega
            clear hM
            have hstep : Hid (lastStep n0 n1 st m (LL, TT) (i, ⟨false, f1, f2⟩) = if TT = false ∨ LL < M then (M, true) else (LL, TT)) := Lib.hid (by
              unfold lastStep
              dsimp only
              rw [if_neg (by decide), HE.out, if_neg (fun h => c1 h.1), if_neg c3, HR.out, if_neg (fun h => h rfl), if_pos c1e, HG.out, HQ.out, HM2.out])
            gi_upto_region 15 with (fail)
            refine region_quiet_r (by kernel_rfl) (by kernel_rfl) (by kernel_rfl) ?_
            repeat (gi_big_quiet_step (fail))
            refine wpQuietIn_nil ?_
            intro _ hw'
            obtain ⟨nq, hw''⟩ := hw'
            subst hw''
            cases TT with
            | false =>
              have hv : Hid (lastStep n0 n1 st m (LL, false) (i, ⟨false, f1, f2⟩) = (M, true)) := Lib.hid (hstep.out.trans (by simp))
              gi_wp2
              all_goals (try exact (no_undef (by assumption)).elim)
              all_goals
                first
                  | exact last_end (HSN.out.trans hv.out) HI.out HB1.out HB2.out HB3.out HB4.out HB5.out HB6.out HB7.out H7 hl9 i1 i2 i3 i4 hse
                  | (have q := last_end (n := 0) (HSN.out.trans hv.out) HI.out HB1.out HB2.out HB3.out HB4.out HB5.out HB6.out HB7.out H7 hl9 i1 i2 i3 i4 hse
                     exact ⟨⟨q.1.size, fun k o _ hk ho => q.1.same k o (Nat.zero_le _) hk ho⟩, ⟨⟨q.2.1.1.os, q.2.1.1.tape, q.2.1.1.output, q.2.1.1.size, q.2.1.1.block⟩, q.2.1.2⟩, q.2.2.1, ⟨q.2.2.2.os, q.2.2.2.tape, q.2.2.2.output, q.2.2.2.size, q.2.2.2.block⟩⟩)
            | true =>
              by_cases cL : LL < M
              · have dL := decide_eq_true cL
                have hv : Hid (lastStep n0 n1 st m (LL, true) (i, ⟨false, f1, f2⟩) = (M, true)) := Lib.hid (hstep.out.trans (by simp [cL]))
                gi_wp2
                all_goals (try exact (no_undef (by assumption)).elim)
                all_goals
                  first
                    | exact last_end (HSN.out.trans hv.out) HI.out HB1.out HB2.out HB3.out HB4.out HB5.out HB6.out HB7.out H7 hl9 i1 i2 i3 i4 hse
                    | (have q := last_end (n := 0) (HSN.out.trans hv.out) HI.out HB1.out HB2.out HB3.out HB4.out HB5.out HB6.out HB7.out H7 hl9 i1 i2 i3 i4 hse
                       exact ⟨⟨q.1.size, fun k o _ hk ho => q.1.same k o (Nat.zero_le _) hk ho⟩, ⟨⟨q.2.1.1.os, q.2.1.1.tape, q.2.1.1.output, q.2.1.1.size, q.2.1.1.block⟩, q.2.1.2⟩, q.2.2.1, ⟨q.2.2.2.os, q.2.2.2.tape, q.2.2.2.output, q.2.2.2.size, q.2.2.2.block⟩⟩)
              · have dL := decide_eq_false cL
                have hv : Hid (lastStep n0 n1 st m (LL, true) (i, ⟨false, f1, f2⟩) = (LL, true)) := Lib.hid (hstep.out.trans (by simp [cL]))
                gi_wp2
                all_goals (try exact (no_undef (by assumption)).elim)
                all_goals
                  first
                    | exact ⟨KeepsFrom.refl _ _, keep_refl _ _ _, ⟨HB1.out, HB2.out, by rw [HSN.out, hv.out]; exact HB3.out, by rw [HSN.out, hv.out]; exact HB4.out, HB5.out, HB6.out, HB7.out⟩, HI.out⟩
                    | exact ⟨⟨Nat.le_refl _, fun _ _ _ h _ => h⟩, ⟨below_dn (Below.refl _ _) nq, rfl⟩, ⟨HB1.out, HB2.out, by rw [HSN.out, hv.out]; exact HB3.out, by rw [HSN.out, hv.out]; exact HB4.out, HB5.out, HB6.out, HB7.out⟩, below_dn HI.out nq⟩
          · have c4a : (R == 0) = false := beq_false_of_ne c4
            have c4b : (R != 0) = true := bne_iff_ne.2 c4
            have hv : Hid (lastStep n0 n1 st m (LL, TT) (i, ⟨false, f1, f2⟩) = (LL, TT)) := Lib.hid (by
              unfold lastStep
              dsimp only
              rw [if_neg (by decide), HE.out, if_neg (fun h => c1 h.1), if_neg c3, HR.out, if_pos c4])
            gi_wp2
            all_goals (try exact (no_undef (by assumption)).elim)
            all_goals
              first
                | exact ⟨KeepsFrom.refl _ _, keep_refl _ _ _, ⟨HB1.out, HB2.out, by rw [HSN.out, hv.out]; exact HB3.out, by rw [HSN.out, hv.out]; exact HB4.out, HB5.out, HB6.out, HB7.out⟩, HI.out⟩
                | exact ⟨⟨Nat.le_refl _, fun _ _ _ h _ => h⟩, ⟨below_dn (Below.refl _ _) nq, rfl⟩, ⟨HB1.out, HB2.out, by rw [HSN.out, hv.out]; exact HB3.out, by rw [HSN.out, hv.out]; exact HB4.out, HB5.out, HB6.out, HB7.out⟩, below_dn HI.out nq⟩
  case done =>
    rintro D xs W hD rfl ⟨⟨b1, b2, b3, b4, b5, b6, b7⟩, hB⟩ hK
    have hm := lastM_all h l HM n0 n1 st m
    rw [hm] at b3 b4
    have h70 := cell_of b3 0
    have h80 := cell_of b4 0
    simp only [List.getElem?_toArray, List.getElem?_cons_zero] at h70 h80
    obtain ⟨LL, hLL⟩ : ∃ LL, LL = (lastF n0 n1 st m (upto (srcs h l) (h.length + l.length))).1 := ⟨_, rfl⟩
    obtain ⟨TT, hTT⟩ : ∃ TT, TT = (lastF n0 n1 st m (upto (srcs h l) (h.length + l.length))).2 := ⟨_, rfl⟩
    have HLL := Lib.hid hLL
    have HTT := Lib.hid hTT
    rw [← hLL] at h70
    rw [← hTT] at h80
    have HBB := Lib.hid (hB.trans (belowK_b (w := w) (Nat.le_refl _) W D _ (.deferred none) (by omega) hK rfl rfl))
    clear hm hLL hTT b1 b2 b3 b4 b5 b6 b7 hB
    go_wp2_with fail
    go_quiet (fail)
    go_wp2_with fail
    refine ⟨by simp, .inl ⟨_, _, rfl, run_takeDeferred (w := W.drewN nq) hK, ?_⟩⟩
    refine ⟨.tuple #[.int .i64 LL, .bool TT, .int .i64 0], by simp [results, Try.results16, go_sem], ?_, ?_⟩
    · rw [HLL.out, HTT.out, HN0.out, HN1.out]
    · exact below_dn HBB.out nq
  case stop =>
    rintro D c pre W hD _ hf hK
    exact hf.elim
end Go.Proofs.Ytdfpoemghnhlfaa.P
