/-
  The order of jobs, and their sort.
  Conditions: none.
-/
import Derived.Test.YtkabmpbfabgkfaaCf
import Derived.WalkKit
import Derived.WalkSpells
import Derived.WalkLawsBesides
import Derived.Deep.QuietTactic
import Derived.BigQuiet
import Derived.Lib.Hide
import Derived.Handy
import Derived.Deep.AppendLies
import Derived.Maps.AppendAt
import Derived.OwnWalk
import Derived.Lib.LazyBuf
import Derived.Deep.DeepCutAuto
import Derived.Deep.RegionLaw
import Derived.Deep.RegionHeld3
import Derived.Deep.RegionWith
import Derived.BigRegion
import Derived.Deep.CutBlock
import Derived.LoopN
import Derived.Shelf.SlSortCmp.WholeK
import Derived.Shelf.SlSortCmp.NoneTotal
set_option linter.unusedVariables false
set_option linter.unusedSimpArgs false
namespace Go.Proofs.Ytkabmpbfabgkfaa
open Go.RowKit 
open Big
attribute [local go_sem] setCell_drewN alloc_drewN size_ext ext_ext ext_drewN ext_drew drewN_ext drew_ext cell?_ext frozen?_ext setCell_ext cell?_past1 frozen?_past1 setCell_past1 cell?_past2 frozen?_past2 setCell_past2 cell?_past3 frozen?_past3 setCell_past3 cell?_past4 frozen?_past4 setCell_past4 cell?_past5 frozen?_past5 setCell_past5 cell?_past6 frozen?_past6 setCell_past6 cell?_past7 frozen?_past7 setCell_past7 cell?_past8 frozen?_past8 setCell_past8
open Go.Proofs.Ytkabmpbfabgkfaa.P Go.Proofs.YtkabmpbfabgkfaaW.PrintWords Go.Proofs.YtkabmpbfabgkfaaW.PrintLast Go.Proofs.YtkabmpbfabgkfaaW.PrintMore
open Go.Shelf Go.Lib Go.Sort
def sortJob_ren : Go.Shelf.Ren := ⟨fun | 6 => 35 | 15 => 62 | 14 => 61 | 28 => 82 | 29 => 83 | 20 => 74 | 21 => 75 | 22 => 76 | 23 => 77 | 24 => 78 | 25 => 79 | 26 => 80 | 27 => 81 | 46 => 88 | 47 => 89 | 48 => 90 | 49 => 91 | 50 => 92 | 57 => 94 | n => n, fun | 22 => 55 | 24 => 60 | 25 => 88 | 3 => 3 | 39 => 106 | 0 => 0 | 53 => 128 | 55 => 93 | 4 => 4 | 46 => 121 | 45 => 120 | 50 => 125 | 5 => 5 | 9 => 9 | 66 => 133 | 70 => 137 | 76 => 139 | 77 => 140 | n => n, fun | n => n⟩
theorem sortJob : Go.Proofs.SlLaysF0.n6 Try.prog sortJob_ren := {
  mixed := by kernel_rfl
  f6 := ⟨Try.f35.name, by decide, Try.func35.trans (congrArg some (by kernel_rfl))⟩
  f14 := ⟨Try.f61.name, by decide, Try.func61.trans (congrArg some (by kernel_rfl))⟩
  f15 := Try.func62.trans (congrArg some (by kernel_rfl))
  f20 := ⟨Try.f74.name, by decide, Try.func74.trans (congrArg some (by kernel_rfl))⟩
  f21 := ⟨Try.f75.name, by decide, Try.func75.trans (congrArg some (by kernel_rfl))⟩
  f22 := ⟨Try.f76.name, by decide, Try.func76.trans (congrArg some (by kernel_rfl))⟩
  f23 := ⟨Try.f77.name, by decide, Try.func77.trans (congrArg some (by kernel_rfl))⟩
  f24 := ⟨Try.f78.name, by decide, Try.func78.trans (congrArg some (by kernel_rfl))⟩
  f25 := ⟨Try.f79.name, by decide, Try.func79.trans (congrArg some (by kernel_rfl))⟩
  f26 := ⟨Try.f80.name, by decide, Try.func80.trans (congrArg some (by kernel_rfl))⟩
  f27 := ⟨Try.f81.name, by decide, Try.func81.trans (congrArg some (by kernel_rfl))⟩
  f28 := Try.func82.trans (congrArg some (by kernel_rfl))
  f29 := Try.func83.trans (congrArg some (by kernel_rfl))
  f46 := ⟨Try.f88.name, by decide, Try.func88.trans (congrArg some (by kernel_rfl))⟩
  f47 := Try.func89.trans (congrArg some (by kernel_rfl))
  f48 := Try.func90.trans (congrArg some (by kernel_rfl))
  f49 := ⟨Try.f91.name, by decide, Try.func91.trans (congrArg some (by kernel_rfl))⟩
  f50 := ⟨Try.f92.name, by decide, Try.func92.trans (congrArg some (by kernel_rfl))⟩
  f57 := ⟨Try.f94.name, by decide, Try.func94.trans (congrArg some (by kernel_rfl))⟩
  t0 := Try.underlying0
  a0 := Try.isAgg0
  z0 := Try.sizeOf0
  v0 := Try.zeroValue0
  t3 := Try.underlying3
  a3 := Try.isAgg3
  z3 := Try.sizeOf3
  v3 := Try.zeroValue3
  t4 := Try.underlying4
  a4 := Try.isAgg4
  z4 := Try.sizeOf4
  v4 := Try.zeroValue4
  t5 := Try.underlying5
  a5 := Try.isAgg5
  z5 := Try.sizeOf5
  v5 := Try.zeroValue5
  t9 := Try.underlying9
  a9 := Try.isAgg9
  z9 := Try.sizeOf9
  v9 := Try.zeroValue9
  t22 := Try.underlying55
  a22 := Try.isAgg55
  z22 := Try.sizeOf55
  v22 := Try.zeroValue55
  t25 := Try.underlying88
  a25 := Try.isAgg88
  z25 := Try.sizeOf88
  v25 := Try.zeroValue88
  t39 := Try.underlying106
  a39 := Try.isAgg106
  z39 := Try.sizeOf106
  v39 := Try.zeroValue106
  t45 := Try.underlying120
  a45 := Try.isAgg120
  z45 := Try.sizeOf120
  v45 := Try.zeroValue120
  t46 := Try.underlying121
  a46 := Try.isAgg121
  z46 := Try.sizeOf121
  v46 := Try.zeroValue121
  t50 := Try.underlying125
  a50 := Try.isAgg125
  z50 := Try.sizeOf125
  v50 := Try.zeroValue125
  t53 := Try.underlying128
  a53 := Try.isAgg128
  z53 := Try.sizeOf128
  v53 := Try.zeroValue128
  t55 := Try.underlying93
  a55 := Try.isAgg93
  z55 := Try.sizeOf93
  v55 := Try.zeroValue93
  t66 := Try.underlying133
  a66 := Try.isAgg133
  z66 := Try.sizeOf133
  v66 := Try.zeroValue133
  t70 := Try.underlying137
  a70 := Try.isAgg137
  z70 := Try.sizeOf137
  v70 := Try.zeroValue137
  t76 := Try.underlying139
  a76 := Try.isAgg139
  z76 := Try.sizeOf139
  v76 := Try.zeroValue139
  t77 := Try.underlying140
  a77 := Try.isAgg140
  z77 := Try.sizeOf140
  v77 := Try.zeroValue140 }

/-- Whether a job comes ahead of another one, as cmp tells. -/
def cmpJ (x y : S60) : Int := if Lib.compareInt x.f2 y.f2 = 0 then Lib.compareInt x.f0 y.f0 else Lib.compareInt x.f2 y.f2
theorem cmp_lt {x y : Int} (h : x < y) : Lib.compareInt x y = -1 := by unfold Lib.compareInt; simp [h]
theorem cmp_gt {x y : Int} (h : y < x) : Lib.compareInt x y = 1 := by unfold Lib.compareInt; simp [h]; omega
theorem cmp_eq (x : Int) : Lib.compareInt x x = 0 := by unfold Lib.compareInt; simp
set_option maxHeartbeats 1000000 in
theorem cmp64_any (x y : Int) (W : World) : Calls Try.prog 38 #[.int .i64 x, .int .i64 y] W fun e w' => e = .returned (.int .i64 (Lib.compareInt x y)) ∧ W = w' := by
  rcases Int.lt_trichotomy x y with h | rfl | h
  · rw [cmp_lt h]
    have h1 : decide (x < y) = true := decide_eq_true h
    go_enter Try.func38, Try.ntmps38
    go_wp2
    go_ret
    exact ⟨rfl, rfl⟩
  · rw [cmp_eq]
    have h1 : ¬ (x < x) := by omega
    go_enter Try.func38, Try.ntmps38
    go_wp2
    go_ret
    exact ⟨rfl, rfl⟩
  · rw [cmp_gt h]
    have h0 : ¬ (x < y) := by omega
    have h2 : x > y := h
    go_enter Try.func38, Try.ntmps38
    go_wp2
    go_ret
    exact ⟨rfl, rfl⟩
set_option maxHeartbeats 1000000 in
theorem cmpi_any (x y : Int) (W : World) : Calls Try.prog 39 #[.int .i64 x, .int .i64 y] W fun e w' => e = .returned (.int .i64 (Lib.compareInt x y)) ∧ W = w' := by
  rcases Int.lt_trichotomy x y with h | rfl | h
  · rw [cmp_lt h]
    have h1 : decide (x < y) = true := decide_eq_true h
    go_enter Try.func39, Try.ntmps39
    go_wp2
    go_ret
    exact ⟨rfl, rfl⟩
  · rw [cmp_eq]
    have h1 : ¬ (x < x) := by omega
    go_enter Try.func39, Try.ntmps39
    go_wp2
    go_ret
    exact ⟨rfl, rfl⟩
  · rw [cmp_gt h]
    have h0 : ¬ (x < y) := by omega
    have h2 : x > y := h
    go_enter Try.func39, Try.ntmps39
    go_wp2
    go_ret
    exact ⟨rfl, rfl⟩
theorem three_new (W : World) (o1 o2 o3 : Obj) : (((W.alloc o1).alloc o2).alloc o3).drew = grow (W.drewN 1) (#[o1] ++ (#[o2] ++ #[o3])) := by
  rw [alloc_eq_grow, alloc_eq_grow, alloc_eq_grow, grow_grow, grow_grow]
  rfl
set_option maxHeartbeats 2000000 in
theorem or_any (B : Nat) (a b : Int) (W : World) (h0 : W.cell? ⟨B, 0, none⟩ = some (.int .i64 a)) (h1 : W.cell? ⟨B, 1, none⟩ = some (.int .i64 b)) :
    Calls Try.prog 37 #[.slice (some ⟨B, 0, none⟩) 2 2] W fun e w' => e = .returned (.int .i64 (if a = 0 then b else a)) ∧ W = w' := by
  by_cases ha : a = 0
  · rw [if_pos ha]
    subst ha
    by_cases hb : b = 0
    · subst hb
      go_enter Try.func37, Try.ntmps37
      go_wp2_with fail
      refine wp_loop_rounds 3 ?_
      rw [rounds_succ]
      go_wp2_with fail
      rw [rounds_succ]
      go_wp2_with fail
      rw [rounds_succ]
      go_wp2_with fail
      go_ret
      exact ⟨rfl, rfl⟩
    · have d0 : (b == 0) = false := beq_false_of_ne hb
      go_enter Try.func37, Try.ntmps37
      go_wp2_with fail
      refine wp_loop_rounds 3 ?_
      rw [rounds_succ]
      go_wp2_with fail
      rw [rounds_succ]
      go_wp2_with fail
      go_ret
      exact ⟨rfl, rfl⟩
  · rw [if_neg ha]
    have d0 : (a == 0) = false := beq_false_of_ne ha
    go_enter Try.func37, Try.ntmps37
    go_wp2_with fail
    refine wp_loop_rounds 3 ?_
    rw [rounds_succ]
    go_wp2_with fail
    go_ret
    exact ⟨rfl, rfl⟩
set_option maxRecDepth 100000 in
set_option maxHeartbeats 2000000 in
theorem closureJ (x y : S60) (W : World) : Calls Try.prog 36 #[.agg #[.int .i64 x.f0, .int .i64 x.f1, .int .i64 x.f2, .int .i64 x.f3], .agg #[.int .i64 y.f0, .int .i64 y.f1, .int .i64 y.f2, .int .i64 y.f3]] W fun e w' => e = .returned (.int .i64 (cmpJ x y)) ∧ ∃ q os', w' = grow (W.drewN q) os' := by
  unfold cmpJ
  obtain ⟨a, ha⟩ : ∃ a, Lib.compareInt x.f2 y.f2 = a := ⟨_, rfl⟩
  obtain ⟨b, hb⟩ : ∃ b, Lib.compareInt x.f0 y.f0 = b := ⟨_, rfl⟩
  rw [ha, hb]
  obtain ⟨c, hc⟩ : ∃ c, (if a = 0 then b else a) = c := ⟨_, rfl⟩
  rw [hc]
  have HA := Lib.hid ha
  have HB := Lib.hid hb
  have HC := Lib.hid hc
  clear ha hb hc
  go_enter Try.func36, Try.ntmps36
  go_wp2_with fail
  refine wp_region_held_drew (S := (fun w' => w'.cell? ⟨W.heap.size, 0, none⟩ = some (.int .i64 x.f0) ∧ w'.cell? ⟨W.heap.size, 2, none⟩ = some (.int .i64 x.f2) ∧ w'.cell? ⟨W.heap.size + 1, 0, none⟩ = some (.int .i64 y.f0) ∧ w'.cell? ⟨W.heap.size + 1, 2, none⟩ = some (.int .i64 y.f2))) (by kernel_rfl) ?hS25 (fun hHeld => ?go25)
  case hS25 =>
    (try dsimp only)
    try go_simp
  case go25 =>
  refine' wpAnyH_take (i := 0) (oi := ⟨_, _, _, _, _, _⟩) (v := ?v26) rfl (by kernel_rfl) (by kernel_rfl) (by kernel_rfl) (fun _ _ _ h => h) (Or.inl ⟨by rfl, ?hy26⟩) (by assumption) ?rest26
  case hy26 =>
    intro w hSw
    (try dsimp only at hSw)
    go_simp
    try (with_reducible rfl)
  case rest26 =>
  (try simp only [Act.put, List.setIfInBounds_toArray, List.set_cons_zero, List.set_cons_succ])
  refine' wpAnyH_take (i := 1) (oi := ⟨_, _, _, _, _, _⟩) (v := ?v27) rfl (by kernel_rfl) (by kernel_rfl) (by kernel_rfl) (fun _ _ _ h => h) (Or.inl ⟨by rfl, ?hy27⟩) (by assumption) ?rest27
  case hy27 =>
    intro w hSw
    (try dsimp only at hSw)
    go_simp
    try (with_reducible rfl)
  case rest27 =>
  (try simp only [Act.put, List.setIfInBounds_toArray, List.set_cons_zero, List.set_cons_succ])
  refine' wpAnyH_take (i := 2) (oi := ⟨_, _, _, _, _, _⟩) (v := ?v28) rfl (by kernel_rfl) (by kernel_rfl) (by kernel_rfl) (fun _ _ _ h => h) (Or.inl ⟨by rfl, ?hy28⟩) (by assumption) ?rest28
  case hy28 =>
    intro w hSw
    (try dsimp only at hSw)
    go_simp
    try (with_reducible rfl)
  case rest28 =>
  (try simp only [Act.put, List.setIfInBounds_toArray, List.set_cons_zero, List.set_cons_succ])
  refine' wpAnyH_take (i := 3) (oi := ⟨_, _, _, _, _, _⟩) (v := ?v29) rfl (by kernel_rfl) (by kernel_rfl) (by kernel_rfl) (fun _ _ _ h => h) (Or.inl ⟨by rfl, ?hy29⟩) (by assumption) ?rest29
  case hy29 =>
    intro w hSw
    (try dsimp only at hSw)
    go_simp
    try (with_reducible rfl)
  case rest29 =>
  (try simp only [Act.put, List.setIfInBounds_toArray, List.set_cons_zero, List.set_cons_succ])
  refine' wpAnyH_take (i := 5) (oi := ⟨_, _, _, _, _, _⟩) (v := ?v30) rfl (by kernel_rfl) (by kernel_rfl) (by kernel_rfl) (fun _ _ _ h => h) (Or.inl ⟨by rfl, ?hy30⟩) (by assumption) ?rest30
  case hy30 =>
    intro w hSw
    (try dsimp only at hSw)
    go_simp
    try (with_reducible rfl)
  case rest30 =>
  (try simp only [Act.put, List.setIfInBounds_toArray, List.set_cons_zero, List.set_cons_succ])
  refine' wpAnyH_take (i := 6) (oi := ⟨_, _, _, _, _, _⟩) (v := ?v31) rfl (by kernel_rfl) (by kernel_rfl) (by kernel_rfl) (fun _ _ _ h => h) (Or.inl ⟨by rfl, ?hy31⟩) (by assumption) ?rest31
  case hy31 =>
    intro w hSw
    (try dsimp only at hSw)
    go_simp
    try (with_reducible rfl)
  case rest31 =>
  (try simp only [Act.put, List.setIfInBounds_toArray, List.set_cons_zero, List.set_cons_succ])
  refine' wpAnyH_take (i := 7) (oi := ⟨_, _, _, _, _, _⟩) (v := ?v32) rfl (by kernel_rfl) (by kernel_rfl) (by kernel_rfl) (fun _ _ _ h => h) (Or.inl ⟨by rfl, ?hy32⟩) (by assumption) ?rest32
  case hy32 =>
    intro w hSw
    (try dsimp only at hSw)
    go_simp
    try (with_reducible rfl)
  case rest32 =>
  (try simp only [Act.put, List.setIfInBounds_toArray, List.set_cons_zero, List.set_cons_succ])
  refine' wpAnyH_take (i := 8) (oi := ⟨_, _, _, _, _, _⟩) (v := ?v33) rfl (by kernel_rfl) (by kernel_rfl) (by kernel_rfl) (fun _ _ _ h => h) (Or.inl ⟨by rfl, ?hy33⟩) (by assumption) ?rest33
  case hy33 =>
    intro w hSw
    (try dsimp only at hSw)
    go_simp
    try (with_reducible rfl)
  case rest33 =>
  (try simp only [Act.put, List.setIfInBounds_toArray, List.set_cons_zero, List.set_cons_succ])
  refine wpAnyH_ready (rs := [4]) (by kernel_rfl) (by simp) ?_
  refine (AllReadyH.cons (o := ⟨_, _, _, _, _, _⟩) rfl (fun K hK => ?_) AllReadyH.nil)
  go_simp
  (go_at_call 38; refine (cmp64_any _ _ _).mono ?_; rintro e wx ⟨rfl, rfl⟩; rw [HA.out]; go_simp)
  refine hK.out _ _ ?hS35 (fun hHeld2 => ?go35)
  case hS35 =>
    (try dsimp only)
    try go_simp
  case go35 =>
  clear hK K
  clear hHeld
  have hHeld := hHeld2
  clear hHeld2
  (try simp only [Act.put, List.setIfInBounds_toArray, List.set_cons_zero, List.set_cons_succ])
  refine wpAnyH_ready (rs := [9]) (by kernel_rfl) (by simp) ?_
  refine (AllReadyH.cons (o := ⟨_, _, _, _, _, _⟩) rfl (fun K hK => ?_) AllReadyH.nil)
  go_simp
  (go_at_call 39; refine (cmpi_any _ _ _).mono ?_; rintro e wx ⟨rfl, rfl⟩; rw [HB.out]; go_simp)
  refine hK.out _ _ ?hS37 (fun hHeld2 => ?go37)
  case hS37 =>
    (try dsimp only)
    try go_simp
  case go37 =>
  clear hK K
  clear hHeld
  have hHeld := hHeld2
  clear hHeld2
  (try simp only [Act.put, List.setIfInBounds_toArray, List.set_cons_zero, List.set_cons_succ])
  refine wpAnyH_ready (rs := [10]) (by kernel_rfl) (by simp) ?_
  refine (AllReadyH.cons (o := ⟨_, _, _, _, _, _⟩) rfl (fun K hK => ?_) AllReadyH.nil)
  go_simp
  refine hK.out _ _ ?hS39 (fun hHeld2 => ?go39)
  case hS39 =>
    (try dsimp only)
    try go_simp
  case go39 =>
  clear hK K
  clear hHeld
  have hHeld := hHeld2
  clear hHeld2
  (try simp only [Act.put, List.setIfInBounds_toArray, List.set_cons_zero, List.set_cons_succ])
  refine wpAnyH_ready (rs := [11]) (by kernel_rfl) (by simp) ?_
  refine (AllReadyH.cons (o := ⟨_, _, _, _, _, _⟩) rfl (fun K hK => ?_) AllReadyH.nil)
  go_simp
  (go_at_call 37; refine (or_any _ a b _ (by simp [go_sem]) (by simp [go_sem])).mono ?_; rintro e wx ⟨rfl, rfl⟩; rw [HC.out]; go_simp)
  refine hK.out _ _ ?hS41 (fun hHeld2 => ?go41)
  case hS41 =>
    (try dsimp only)
    try go_simp
  case go41 =>
  clear hK K
  clear hHeld
  have hHeld := hHeld2
  clear hHeld2
  (try simp only [Act.put, List.setIfInBounds_toArray, List.set_cons_zero, List.set_cons_succ])
  refine' wpAnyH_take (i := 12) (oi := ⟨_, _, _, _, _, _⟩) (v := ?v42) rfl (by kernel_rfl) (by kernel_rfl) (by kernel_rfl) (fun _ _ _ h => h) (Or.inl ⟨by rfl, ?hy42⟩) (by assumption) ?rest42
  case hy42 =>
    intro w hSw
    (try dsimp only at hSw)
    go_simp
    try (with_reducible rfl)
  case rest42 =>
  (try simp only [Act.put, List.setIfInBounds_toArray, List.set_cons_zero, List.set_cons_succ])
  refine wpAnyH_done (by kernel_rfl) ?_ _
  go_wp2_with fail
  go_ret
  exact ⟨rfl, 1, _, three_new W _ _ _⟩
open Go.Shelf Go.Lib Go.Sort
/-- A job's cells. -/
def kvJ (x : S60) : List Value := [.int .i64 x.f0, .int .i64 x.f1, .int .i64 x.f2, .int .i64 x.f3]
instance : Inhabited S60 := ⟨z60⟩
theorem ltJ (x y : S60) : ltOf cmpJ x y = decide (x.f2 < y.f2 ∨ x.f2 = y.f2 ∧ x.f0 < y.f0) := by
  unfold ltOf cmpJ
  rcases Int.lt_trichotomy x.f2 y.f2 with h | h | h
  · rw [cmp_lt h]; simp [h]
  · rw [h, cmp_eq, if_pos rfl]
    rcases Int.lt_trichotomy x.f0 y.f0 with k | k | k
    · rw [cmp_lt k]; simp [k]
    · rw [k, cmp_eq]; simp
    · rw [cmp_gt k]; simp; omega
  · rw [cmp_gt h]; simp; omega
theorem swoJ : SWO (ltOf cmpJ) where
  irrefl x := by rw [ltJ]; simp
  trans x y z h1 h2 := by rw [ltJ] at *; simp at *; omega
  ntrans x y z h1 h2 := by rw [ltJ] at *; simp at *; omega
theorem sort_jobs (blk off cap : Nat) (d : Array S60) (w : World) (hH : HoldsK kvJ 4 w blk off d) (hblk : blk < w.heap.size) (hsz : d.size < 4611686018427387904) :
    Calls Try.prog 35 #[.slice (some ⟨blk, off, none⟩) d.size cap, .func (.func 36) #[] #[]] w fun e w' => e = .returned (.tuple #[]) ∧ ∃ n os, w' = sortWorldK kvJ 4 w blk off n (pdq (ltOf cmpJ) d 0 d.size (Lib.bitLen d.size) true true) os := by
  have eg : ∀ args w, (callFunc 36 args).run Try.prog w = .ok (.enter 36 args) w := enters_of Try.func36 (by kernel_rfl) rfl
  have hcon := AnyQ.slices_SortFunc_eq sortJob 4 Try.isAgg60 Try.sizeOf60 kvJ (fun _ => rfl) (fun x v hv => by simp [kvJ] at hv; rcases hv with rfl | rfl | rfl | rfl <;> rfl) cmpJ swoJ 36 #[] blk off cap d w eg (fun _ _ _ _ x y => closureJ x y _) hH hblk hsz
  exact hcon
theorem sort_none (p : Option Addr) (cap : Nat) (w : World) : Calls Try.prog 35 #[.slice p 0 cap, .func (.func 36) #[] #[]] w fun e w' => e = .returned (.tuple #[]) ∧ w' = w := AnyF.slices_SortFunc_none sortJob p cap _ w
/-- The jobs, in order. -/
def sortJ (l : List S60) : List S60 := (pdq (ltOf cmpJ) l.toArray 0 l.toArray.size (Lib.bitLen l.toArray.size) true true).toList
theorem perm_whole {d d' : Array S60} (h : PermIn 0 d.size d d') : d'.toList.Perm d.toList := by
  obtain ⟨h1, _, h3⟩ := h
  rw [Array.extract_size] at h3
  rwa [← h1, Array.extract_size] at h3
theorem sortJ_perm (l : List S60) : (sortJ l).Perm l := by
  have h := (pdq_sorts (ltOf cmpJ) swoJ l.toArray 0 l.toArray.size (Lib.bitLen l.toArray.size) true true (Nat.zero_le _) (Nat.le_refl _) (Or.inl rfl)).1
  exact perm_whole h
theorem sortJ_sorted (l : List S60) (i j : Nat) (hij : i < j) (hj : j < (sortJ l).length) : (sortJ l)[i]!.f2 < (sortJ l)[j]!.f2 ∨ (sortJ l)[i]!.f2 = (sortJ l)[j]!.f2 ∧ (sortJ l)[i]!.f0 ≤ (sortJ l)[j]!.f0 := by
  have hp := sortJ_perm l
  have h := (pdq_sorts (ltOf cmpJ) swoJ l.toArray 0 l.toArray.size (Lib.bitLen l.toArray.size) true true (Nat.zero_le _) (Nat.le_refl _) (Or.inl rfl)).2
  have hl : j < l.toArray.size := by have := hp.length_eq; simp; omega
  have := h i j (Nat.zero_le _) hij hl
  rw [ltJ] at this
  unfold sortJ
  generalize pdq (ltOf cmpJ) l.toArray 0 l.toArray.size (Lib.bitLen l.toArray.size) true true = D at this
  have e : ∀ k : Nat, D.toList[k]! = D[k]! := fun k => by cases D; simp
  rw [e i, e j]
  simp at this
  omega
theorem sortJ_length (l : List S60) : (sortJ l).length = l.length := (sortJ_perm l).length_eq
theorem sorted_blocks {B blk : Nat} {w : World} (hB : B ≤ blk) (hblk : blk < w.heap.size) (off n : Nat) (d : Array S60) (os : Array Obj) : Below B w (sortWorldK kvJ 4 w blk off n d os) := by
  refine ⟨rfl, rfl, rfl, ?_, fun k hk => ?_⟩
  · show w.heap.size ≤ ((putRowK kvJ 4 (Sort.ahead w n) blk off d).heap ++ os).size
    rw [Array.size_append, size_putRowK]
    show w.heap.size ≤ w.heap.size + os.size
    omega
  · show ((putRowK kvJ 4 (Sort.ahead w n) blk off d).heap ++ os)[k]? = w.heap[k]?
    rcases Nat.lt_or_ge k w.heap.size with h | h
    · rw [Array.getElem?_append_left (by rw [size_putRowK]; exact h)]
      show (w.heap.modify blk _)[k]? = w.heap[k]?
      rw [Array.getElem?_modify, if_neg (by omega)]
    · omega
end Go.Proofs.Ytkabmpbfabgkfaa
