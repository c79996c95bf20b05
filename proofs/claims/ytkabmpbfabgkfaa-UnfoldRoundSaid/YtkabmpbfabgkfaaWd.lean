/-
  carillonlaw15.works returns true.
  Conditions: none.
-/
import Derived.Test.YtkabmpbfabgkfaaWc
import Derived.WalkKit
import Derived.WalkSpells
import Derived.WalkLawsBesides
import Derived.Deep.QuietTactic
import Derived.BigQuiet
import Derived.Lib.Hide
import Derived.Handy
import Derived.Deep.AppendLies
import Derived.Maps.AppendAt
import Derived.OwnWalk
import Derived.Lib.LazyBuf
import Derived.Deep.DeepCutAuto
import Derived.Deep.RegionLaw
import Derived.Deep.RegionHeld3
import Derived.Deep.RegionWith
import Derived.BigRegion
import Derived.Deep.CutBlock
import Derived.LoopN
import Derived.Shelf.SlSortCmp.WholeK
import Derived.Shelf.SlSortCmp.NoneTotal
import Derived.Laws.AppendOwn
set_option linter.unusedVariables false
set_option linter.unusedSimpArgs false
namespace Go.Proofs.Ytkabmpbfabgkfaa
open Go.RowKit 
open Big
attribute [local go_sem] setCell_drewN alloc_drewN size_ext ext_ext ext_drewN ext_drew drewN_ext drew_ext cell?_ext frozen?_ext setCell_ext cell?_past1 frozen?_past1 setCell_past1 cell?_past2 frozen?_past2 setCell_past2 cell?_past3 frozen?_past3 setCell_past3 cell?_past4 frozen?_past4 setCell_past4 cell?_past5 frozen?_past5 setCell_past5 cell?_past6 frozen?_past6 setCell_past6 cell?_past7 frozen?_past7 setCell_past7 cell?_past8 frozen?_past8 setCell_past8
open Go.Proofs.Ytkabmpbfabgkfaa.P Go.Proofs.YtkabmpbfabgkfaaW.PrintWords Go.Proofs.YtkabmpbfabgkfaaW.PrintLast Go.Proofs.YtkabmpbfabgkfaaW.PrintMore
open Go.Shelf Go.Lib Go.Sort
set_option maxRecDepth 100000 in
set_option maxHeartbeats 16000000 in
theorem works_any (w : World) : Calls Try.prog 9 #[] w fun e w' => e = .returned (.bool true) ∧ Below w.heap.size w w' := by
  go_enter Try.func9, Try.ntmps9
  go_wp2_with fail
  refine (sample_any _).mono ?_
  rintro e W1 ⟨BT, BR, BQ, BC, B0, B1, B2, rfl, hb, hT, hR, hQ, hC, hz, hy, hx⟩
  have H0 : Hid (k79.C W1 (some ⟨B0, 0, none⟩) 1 [zS]) := Lib.hid (row1 (c := [.bool false, .int .i64 0, .int .i64 0]) hz rfl (src_K _ zS))
  have H1 : Hid (k79.C W1 (some ⟨B1, 0, none⟩) 2 [zS, zS]) := Lib.hid (row2 (c := [.bool false, .int .i64 0, .int .i64 0]) (d := [.bool false, .int .i64 0, .int .i64 0]) hy rfl rfl (src_K _ zS) (src_K _ zS))
  have H2 : Hid (k79.C W1 (some ⟨B2, 0, none⟩) 1 [toldS]) := Lib.hid (row1 (c := [.bool true, .int .i64 0, .int .i64 0]) hx rfl (src_K _ toldS))
  have HC : Hid (k25.C W1 (some ⟨BC, 0, none⟩) 1 [clock1]) := Lib.hid (row1 (c := [.int .i64 10, .int .i64 0]) hC rfl (clock_K _ clock1))
  have HRR : Hid (k69.C W1 (some ⟨BR, 0, none⟩) 2 task1.f4) := Lib.hid (row2 (c := [.int .u8 1, .int .i64 0, .int .i64 0, .slice none 0 0, .slice (some ⟨B1, 0, none⟩) 2 2, .int .i64 1]) (d := [.int .u8 2, .int .i64 0, .int .i64 0, .slice (some ⟨B2, 0, none⟩) 1 1, .slice (some ⟨B0, 0, none⟩) 1 1, .int .i64 1]) hR rfl rfl (read_K (x := ⟨1, 0, 0, dep1⟩) (Nat.le_refl 0) row0 (Nat.le_refl 2) H1.out) (read_K (x := ⟨2, 0, 0, dep2⟩) (Nat.le_refl 1) H2.out (Nat.le_refl 1) H0.out))
  have HT : Hid (k44.C W1 (some ⟨BT, 0, none⟩) 2 [task1, task2]) := Lib.hid (row2 (c := [.int .i64 5, .int .i64 0, .int .i64 5, .int .i64 0, .int .i64 (-1), .slice (some ⟨BR, 0, none⟩) 2 2, .int .i64 1]) (d := [.int .i64 5, .int .i64 0, .int .i64 3, .int .i64 (-1), .int .i64 0, .slice (some ⟨BQ, 0, none⟩) 1 1, .int .i64 0]) hT rfl rfl
    (task_K (x := task1) (Nat.le_refl 2) HRR.out)
    (task_K (x := task2) (Nat.le_refl 1) (row1 (c := [.int .u8 2, .int .i64 0, .int .i64 0, .slice none 0 0, .slice (some ⟨B0, 0, none⟩) 1 1, .int .i64 1]) hQ rfl (read_K (x := ⟨2, 0, 0, dep3⟩) (Nat.le_refl 0) row0 (Nat.le_refl 1) H0.out))))
  have HBK := Lib.hid hT
  have HB := Lib.hid hb
  clear hb hT hR hQ hC hz hy hx H0 H1 H2
  go_wp2_with fail
  refine (of_sample _ BT BC HT.out HC.out).mono ?_
  rintro e W2 ⟨rfl, hb⟩
  have HV := Lib.hid hb
  clear hb HC
  go_upto_region 3 with (fail)
  obtain ⟨V, hV⟩ : ∃ V, V = W2.alloc (.cells #[.int .i64 5, .int .i64 10] 23) := ⟨_, rfl⟩
  obtain ⟨B3, hB3⟩ : ∃ B, B = W2.heap.size := ⟨_, rfl⟩
  rw [← hV, ← hB3]
  have HV2 : Hid (Below W1.heap.size W1 V) := Lib.hid (by rw [hV]; exact HV.out.alloc HV.out.size _)
  have H3 : Hid (V.heap[B3]? = some (.cells #[.int .i64 5, .int .i64 10] 23)) := Lib.hid (by rw [hV]; exact heap_new' _ _ _ hB3)
  clear hV hB3 HV W2
  go_wp2_with fail
  refine (jobs_sample _ BT (Kd.C_below HT.out HV2.out)).mono ?_
  rintro e W4 ⟨AJ, cJ, rfl, hJ, hb⟩
  have HJ := Lib.hid hJ
  have HV4 := Lib.hid (HV2.out.trans (hb.mono HV2.out.size))
  have H34 := Lib.hid ((hb.block _ (lt_of_blk H3.out)).trans H3.out)
  have HBK4 := Lib.hid ((HV4.out.block _ (lt_of_blk HBK.out)).trans HBK.out)
  clear hb hJ HV2 H3 V
  have tT0 : W4.cell? ⟨BT, 0, none⟩ = some (.int .i64 5) := cell_lit (i := 0) HBK4.out
  have tT1 : W4.cell? ⟨BT, 1, none⟩ = some (.int .i64 0) := cell_lit (i := 1) HBK4.out
  have tT2 : W4.cell? ⟨BT, 2, none⟩ = some (.int .i64 5) := cell_lit (i := 2) HBK4.out
  have tT3 : W4.cell? ⟨BT, 3, none⟩ = some (.int .i64 0) := cell_lit (i := 3) HBK4.out
  have tT4 : W4.cell? ⟨BT, 4, none⟩ = some (.int .i64 (-1)) := cell_lit (i := 4) HBK4.out
  have tT5 : W4.cell? ⟨BT, 5, none⟩ = some (.slice (some ⟨BR, 0, none⟩) 2 2) := cell_lit (i := 5) HBK4.out
  have tT6 : W4.cell? ⟨BT, 6, none⟩ = some (.int .i64 1) := cell_lit (i := 6) HBK4.out
  go_wp2_with fail
  clear tT0 tT1 tT2 tT3 tT4 tT5 tT6
  refine (needs_sample _ BR (Kd.C_below HRR.out HV4.out)).mono ?_
  rintro e W5 ⟨AN, cN, rfl, hN, hb⟩
  have HN := Lib.hid hN
  have HJ5 := Lib.hid (Kd.C_below HJ.out hb)
  have HV5 := Lib.hid (HV4.out.trans (hb.mono HV4.out.size))
  have H35 := Lib.hid ((hb.block _ (lt_of_blk H34.out)).trans H34.out)
  have HBK5 := Lib.hid ((hb.block _ (lt_of_blk HBK4.out)).trans HBK4.out)
  clear hb hN HJ HV4 H34 HBK4 HRR HT W4
  go_upto_region 5 with (fail)
  obtain ⟨q0, q1⟩ := cell_2 H35.out
  have tT0 : W5.cell? ⟨BT, 0, none⟩ = some (.int .i64 5) := cell_lit (i := 0) HBK5.out
  have tT1 : W5.cell? ⟨BT, 1, none⟩ = some (.int .i64 0) := cell_lit (i := 1) HBK5.out
  have nT := lt_of_blk HBK5.out
  have n3 := lt_of_blk H35.out
  refine wp_region_held_drew (S := (fun w' => w'.cell? ⟨B3, 0, none⟩ = some (.int .i64 5) ∧ w'.cell? ⟨B3, 1, none⟩ = some (.int .i64 10) ∧ w'.cell? ⟨BT, 0, none⟩ = some (.int .i64 5) ∧ w'.cell? ⟨BT, 1, none⟩ = some (.int .i64 0))) (by kernel_rfl) ?hS43 (fun hHeld => ?go43)
  case hS43 =>
    (try dsimp only)
    try go_simp
  case go43 =>
  refine' wpAnyH_take (i := 0) (oi := ⟨_, _, _, _, _, _⟩) (v := ?v44) rfl (by kernel_rfl) (by kernel_rfl) (by kernel_rfl) (fun _ _ _ h => h) (Or.inl ⟨by rfl, ?hy44⟩) (by assumption) ?rest44
  case hy44 =>
    intro w hSw
    (try dsimp only at hSw)
    go_simp
    try (with_reducible rfl)
  case rest44 =>
  (try simp only [Act.put, List.setIfInBounds_toArray, List.set_cons_zero, List.set_cons_succ])
  refine' wpAnyH_take (i := 1) (oi := ⟨_, _, _, _, _, _⟩) (v := ?v45) rfl (by kernel_rfl) (by kernel_rfl) (by kernel_rfl) (fun _ _ _ h => h) (Or.inl ⟨by rfl, ?hy45⟩) (by assumption) ?rest45
  case hy45 =>
    intro w hSw
    (try dsimp only at hSw)
    go_simp
    try (with_reducible rfl)
  case rest45 =>
  (try simp only [Act.put, List.setIfInBounds_toArray, List.set_cons_zero, List.set_cons_succ])
  refine' wpAnyH_take (i := 2) (oi := ⟨_, _, _, _, _, _⟩) (v := ?v46) rfl (by kernel_rfl) (by kernel_rfl) (by kernel_rfl) (fun _ _ _ h => h) (Or.inl ⟨by rfl, ?hy46⟩) (by assumption) ?rest46
  case hy46 =>
    intro w hSw
    (try dsimp only at hSw)
    go_simp
    try (with_reducible rfl)
  case rest46 =>
  (try simp only [Act.put, List.setIfInBounds_toArray, List.set_cons_zero, List.set_cons_succ])
  refine' wpAnyH_take (i := 3) (oi := ⟨_, _, _, _, _, _⟩) (v := ?v47) rfl (by kernel_rfl) (by kernel_rfl) (by kernel_rfl) (fun _ _ _ h => h) (Or.inl ⟨by rfl, ?hy47⟩) (by assumption) ?rest47
  case hy47 =>
    intro w hSw
    (try dsimp only at hSw)
    go_simp
    try (with_reducible rfl)
  case rest47 =>
  (try simp only [Act.put, List.setIfInBounds_toArray, List.set_cons_zero, List.set_cons_succ])
  refine' wpAnyH_take (i := 4) (oi := ⟨_, _, _, _, _, _⟩) (v := ?v48) rfl (by kernel_rfl) (by kernel_rfl) (by kernel_rfl) (fun _ _ _ h => h) (Or.inl ⟨by rfl, ?hy48⟩) (by assumption) ?rest48
  case hy48 =>
    intro w hSw
    (try dsimp only at hSw)
    go_simp
    try (with_reducible rfl)
  case rest48 =>
  (try simp only [Act.put, List.setIfInBounds_toArray, List.set_cons_zero, List.set_cons_succ])
  refine wpAnyH_ready (rs := [5]) (by kernel_rfl) (by simp) ?_
  refine (AllReadyH.cons (o := ⟨_, _, _, _, _, _⟩) rfl (fun K hK => ?_) AllReadyH.nil)
  go_simp
  (go_at_call 6; refine (count_sample _).mono ?_; rintro e wx ⟨rfl, hbx⟩; obtain ⟨X5, d5, rfl⟩ := below_ext hbx; clear hbx; go_simp)
  refine hK.out _ _ ?hS50 (fun hHeld2 => ?go50)
  case hS50 =>
    (try dsimp only)
    try go_simp
  case go50 =>
  clear hK K
  clear hHeld
  have hHeld := hHeld2
  clear hHeld2
  (try simp only [Act.put, List.setIfInBounds_toArray, List.set_cons_zero, List.set_cons_succ])
  refine' wpAnyH_take (i := 6) (oi := ⟨_, _, _, _, _, _⟩) (v := ?v51) rfl (by kernel_rfl) (by kernel_rfl) (by kernel_rfl) (fun _ _ _ h => h) (Or.inl ⟨by rfl, ?hy51⟩) (by assumption) ?rest51
  case hy51 =>
    intro w hSw
    (try dsimp only at hSw)
    go_simp
    try (with_reducible rfl)
  case rest51 =>
  (try simp only [Act.put, List.setIfInBounds_toArray, List.set_cons_zero, List.set_cons_succ])
  refine' wpAnyH_take (i := 7) (oi := ⟨_, _, _, _, _, _⟩) (v := ?v52) rfl (by kernel_rfl) (by kernel_rfl) (by kernel_rfl) (fun _ _ _ h => h) (Or.inl ⟨by rfl, ?hy52⟩) (by assumption) ?rest52
  case hy52 =>
    intro w hSw
    (try dsimp only at hSw)
    go_simp
    try (with_reducible rfl)
  case rest52 =>
  (try simp only [Act.put, List.setIfInBounds_toArray, List.set_cons_zero, List.set_cons_succ])
  refine' wpAnyH_take (i := 8) (oi := ⟨_, _, _, _, _, _⟩) (v := ?v53) rfl (by kernel_rfl) (by kernel_rfl) (by kernel_rfl) (fun _ _ _ h => h) (Or.inl ⟨by rfl, ?hy53⟩) (by assumption) ?rest53
  case hy53 =>
    intro w hSw
    (try dsimp only at hSw)
    go_simp
    try (with_reducible rfl)
  case rest53 =>
  (try simp only [Act.put, List.setIfInBounds_toArray, List.set_cons_zero, List.set_cons_succ])
  refine' wpAnyH_take (i := 9) (oi := ⟨_, _, _, _, _, _⟩) (v := ?v54) rfl (by kernel_rfl) (by kernel_rfl) (by kernel_rfl) (fun _ _ _ h => h) (Or.inl ⟨by rfl, ?hy54⟩) (by assumption) ?rest54
  case hy54 =>
    intro w hSw
    (try dsimp only at hSw)
    go_simp
    try (with_reducible rfl)
  case rest54 =>
  (try simp only [Act.put, List.setIfInBounds_toArray, List.set_cons_zero, List.set_cons_succ])
  refine' wpAnyH_take (i := 10) (oi := ⟨_, _, _, _, _, _⟩) (v := ?v55) rfl (by kernel_rfl) (by kernel_rfl) (by kernel_rfl) (fun _ _ _ h => h) (Or.inl ⟨by rfl, ?hy55⟩) (by assumption) ?rest55
  case hy55 =>
    intro w hSw
    (try dsimp only at hSw)
    go_simp
    try (with_reducible rfl)
  case rest55 =>
  (try simp only [Act.put, List.setIfInBounds_toArray, List.set_cons_zero, List.set_cons_succ])
  refine' wpAnyH_take (i := 11) (oi := ⟨_, _, _, _, _, _⟩) (v := ?v56) rfl (by kernel_rfl) (by kernel_rfl) (by kernel_rfl) (fun _ _ _ h => h) (Or.inl ⟨by rfl, ?hy56⟩) (by assumption) ?rest56
  case hy56 =>
    intro w hSw
    (try dsimp only at hSw)
    go_simp
    try (with_reducible rfl)
  case rest56 =>
  (try simp only [Act.put, List.setIfInBounds_toArray, List.set_cons_zero, List.set_cons_succ])
  refine' wpAnyH_take (i := 12) (oi := ⟨_, _, _, _, _, _⟩) (v := ?v57) rfl (by kernel_rfl) (by kernel_rfl) (by kernel_rfl) (fun _ _ _ h => h) (Or.inl ⟨by rfl, ?hy57⟩) (by assumption) ?rest57
  case hy57 =>
    intro w hSw
    (try dsimp only at hSw)
    go_simp
    try (with_reducible rfl)
  case rest57 =>
  (try simp only [Act.put, List.setIfInBounds_toArray, List.set_cons_zero, List.set_cons_succ])
  refine wpAnyH_done (by kernel_rfl) ?_ _
  go_upto_region 6 with (fail)
  clear hHeld
  refine wp_region_held_drew (S := (fun w' => w'.cell? ⟨B3, 0, none⟩ = some (.int .i64 5) ∧ w'.cell? ⟨B3, 1, none⟩ = some (.int .i64 10) ∧ w'.cell? ⟨BT, 0, none⟩ = some (.int .i64 5) ∧ w'.cell? ⟨BT, 1, none⟩ = some (.int .i64 0))) (by kernel_rfl) ?hS58 (fun hHeld => ?go58)
  case hS58 =>
    (try dsimp only)
    try go_simp
  case go58 =>
  refine' wpAnyH_take (i := 0) (oi := ⟨_, _, _, _, _, _⟩) (v := ?v59) rfl (by kernel_rfl) (by kernel_rfl) (by kernel_rfl) (fun _ _ _ h => h) (Or.inl ⟨by rfl, ?hy59⟩) (by assumption) ?rest59
  case hy59 =>
    intro w hSw
    (try dsimp only at hSw)
    go_simp
    try (with_reducible rfl)
  case rest59 =>
  (try simp only [Act.put, List.setIfInBounds_toArray, List.set_cons_zero, List.set_cons_succ])
  refine' wpAnyH_take (i := 1) (oi := ⟨_, _, _, _, _, _⟩) (v := ?v60) rfl (by kernel_rfl) (by kernel_rfl) (by kernel_rfl) (fun _ _ _ h => h) (Or.inl ⟨by rfl, ?hy60⟩) (by assumption) ?rest60
  case hy60 =>
    intro w hSw
    (try dsimp only at hSw)
    go_simp
    try (with_reducible rfl)
  case rest60 =>
  (try simp only [Act.put, List.setIfInBounds_toArray, List.set_cons_zero, List.set_cons_succ])
  refine' wpAnyH_take (i := 2) (oi := ⟨_, _, _, _, _, _⟩) (v := ?v61) rfl (by kernel_rfl) (by kernel_rfl) (by kernel_rfl) (fun _ _ _ h => h) (Or.inl ⟨by rfl, ?hy61⟩) (by assumption) ?rest61
  case hy61 =>
    intro w hSw
    (try dsimp only at hSw)
    go_simp
    try (with_reducible rfl)
  case rest61 =>
  (try simp only [Act.put, List.setIfInBounds_toArray, List.set_cons_zero, List.set_cons_succ])
  refine' wpAnyH_take (i := 3) (oi := ⟨_, _, _, _, _, _⟩) (v := ?v62) rfl (by kernel_rfl) (by kernel_rfl) (by kernel_rfl) (fun _ _ _ h => h) (Or.inl ⟨by rfl, ?hy62⟩) (by assumption) ?rest62
  case hy62 =>
    intro w hSw
    (try dsimp only at hSw)
    go_simp
    try (with_reducible rfl)
  case rest62 =>
  (try simp only [Act.put, List.setIfInBounds_toArray, List.set_cons_zero, List.set_cons_succ])
  refine' wpAnyH_take (i := 4) (oi := ⟨_, _, _, _, _, _⟩) (v := ?v63) rfl (by kernel_rfl) (by kernel_rfl) (by kernel_rfl) (fun _ _ _ h => h) (Or.inl ⟨by rfl, ?hy63⟩) (by assumption) ?rest63
  case hy63 =>
    intro w hSw
    (try dsimp only at hSw)
    go_simp
    try (with_reducible rfl)
  case rest63 =>
  (try simp only [Act.put, List.setIfInBounds_toArray, List.set_cons_zero, List.set_cons_succ])
  refine wpAnyH_ready (rs := [5]) (by kernel_rfl) (by simp) ?_
  refine (AllReadyH.cons (o := ⟨_, _, _, _, _, _⟩) rfl (fun K hK => ?_) AllReadyH.nil)
  go_simp
  (go_at_call 7; refine (fold_sample _).mono ?_; rintro e wx ⟨rfl, hbx⟩; obtain ⟨X6, d6, rfl⟩ := below_ext hbx; clear hbx; go_simp)
  refine hK.out _ _ ?hS65 (fun hHeld2 => ?go65)
  case hS65 =>
    (try dsimp only)
    try go_simp
  case go65 =>
  clear hK K
  clear hHeld
  have hHeld := hHeld2
  clear hHeld2
  (try simp only [Act.put, List.setIfInBounds_toArray, List.set_cons_zero, List.set_cons_succ])
  refine' wpAnyH_take (i := 6) (oi := ⟨_, _, _, _, _, _⟩) (v := ?v66) rfl (by kernel_rfl) (by kernel_rfl) (by kernel_rfl) (fun _ _ _ h => h) (Or.inl ⟨by rfl, ?hy66⟩) (by assumption) ?rest66
  case hy66 =>
    intro w hSw
    (try dsimp only at hSw)
    go_simp
    try (with_reducible rfl)
  case rest66 =>
  (try simp only [Act.put, List.setIfInBounds_toArray, List.set_cons_zero, List.set_cons_succ])
  refine' wpAnyH_take (i := 7) (oi := ⟨_, _, _, _, _, _⟩) (v := ?v67) rfl (by kernel_rfl) (by kernel_rfl) (by kernel_rfl) (fun _ _ _ h => h) (Or.inl ⟨by rfl, ?hy67⟩) (by assumption) ?rest67
  case hy67 =>
    intro w hSw
    (try dsimp only at hSw)
    go_simp
    try (with_reducible rfl)
  case rest67 =>
  (try simp only [Act.put, List.setIfInBounds_toArray, List.set_cons_zero, List.set_cons_succ])
  refine' wpAnyH_take (i := 8) (oi := ⟨_, _, _, _, _, _⟩) (v := ?v68) rfl (by kernel_rfl) (by kernel_rfl) (by kernel_rfl) (fun _ _ _ h => h) (Or.inl ⟨by rfl, ?hy68⟩) (by assumption) ?rest68
  case hy68 =>
    intro w hSw
    (try dsimp only at hSw)
    go_simp
    try (with_reducible rfl)
  case rest68 =>
  (try simp only [Act.put, List.setIfInBounds_toArray, List.set_cons_zero, List.set_cons_succ])
  refine' wpAnyH_take (i := 9) (oi := ⟨_, _, _, _, _, _⟩) (v := ?v69) rfl (by kernel_rfl) (by kernel_rfl) (by kernel_rfl) (fun _ _ _ h => h) (Or.inl ⟨by rfl, ?hy69⟩) (by assumption) ?rest69
  case hy69 =>
    intro w hSw
    (try dsimp only at hSw)
    go_simp
    try (with_reducible rfl)
  case rest69 =>
  (try simp only [Act.put, List.setIfInBounds_toArray, List.set_cons_zero, List.set_cons_succ])
  refine' wpAnyH_take (i := 10) (oi := ⟨_, _, _, _, _, _⟩) (v := ?v70) rfl (by kernel_rfl) (by kernel_rfl) (by kernel_rfl) (fun _ _ _ h => h) (Or.inl ⟨by rfl, ?hy70⟩) (by assumption) ?rest70
  case hy70 =>
    intro w hSw
    (try dsimp only at hSw)
    go_simp
    try (with_reducible rfl)
  case rest70 =>
  (try simp only [Act.put, List.setIfInBounds_toArray, List.set_cons_zero, List.set_cons_succ])
  refine' wpAnyH_take (i := 11) (oi := ⟨_, _, _, _, _, _⟩) (v := ?v71) rfl (by kernel_rfl) (by kernel_rfl) (by kernel_rfl) (fun _ _ _ h => h) (Or.inl ⟨by rfl, ?hy71⟩) (by assumption) ?rest71
  case hy71 =>
    intro w hSw
    (try dsimp only at hSw)
    go_simp
    try (with_reducible rfl)
  case rest71 =>
  (try simp only [Act.put, List.setIfInBounds_toArray, List.set_cons_zero, List.set_cons_succ])
  refine' wpAnyH_take (i := 12) (oi := ⟨_, _, _, _, _, _⟩) (v := ?v72) rfl (by kernel_rfl) (by kernel_rfl) (by kernel_rfl) (fun _ _ _ h => h) (Or.inl ⟨by rfl, ?hy72⟩) (by assumption) ?rest72
  case hy72 =>
    intro w hSw
    (try dsimp only at hSw)
    go_simp
    try (with_reducible rfl)
  case rest72 =>
  (try simp only [Act.put, List.setIfInBounds_toArray, List.set_cons_zero, List.set_cons_succ])
  refine wpAnyH_done (by kernel_rfl) ?_ _
  clear hHeld q0 q1 tT0 tT1
  go_upto_region 7 with (fail)
  obtain ⟨V, hV⟩ : ∃ V, V = ext W5 (X5 ++ X6) d6 := ⟨_, rfl⟩
  rw [← hV]
  have hb : Below W5.heap.size W5 V := by rw [hV]; exact ext_below _ _ _
  have HVV := Lib.hid (HB.out.trans ((HV5.out.trans (hb.mono HV5.out.size)).mono HB.out.size))
  have HV3 := Lib.hid ((hb.block _ n3).trans H35.out)
  obtain ⟨q0, q1⟩ := cell_2 HV3.out
  obtain ⟨aJ, rfl, j0, j1, j2, j3⟩ := at_T60 (Kd.C_below HJ5.out hb) 5 (by decide) (by decide)
  obtain ⟨aN, hAN, u0, u1, u2, m0⟩ := at_T51 (Kd.C_below HN.out hb) 0 (by decide) (by decide)
  obtain ⟨aN', hAN', v0, v1, v2, m1⟩ := at_T51 (Kd.C_below HN.out hb) 1 (by decide) (by decide)
  obtain rfl : aN = aN' := by rw [hAN] at hAN'; exact Option.some.inj hAN'
  subst hAN
  clear hAN' hb hV HJ5 HN H35 HBK5 HV5 nT n3 HBK j0 j1 j3 u0 u1 u2 v0 v1 v2
  replace j2 : V.cell? ⟨aJ.block, aJ.off + 20 + 2, none⟩ = some (.int .i64 10) := j2
  replace m0 : V.cell? ⟨aN.block, aN.off + 3, none⟩ = some (.int .i64 1) := m0
  replace m1 : V.cell? ⟨aN.block, aN.off + 4 + 3, none⟩ = some (.int .i64 2) := m1
  go_wp2_with fail
  go_ret
  exact ⟨rfl, HVV.out⟩
end Go.Proofs.Ytkabmpbfabgkfaa
