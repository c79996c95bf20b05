/-
  unfold.Of.
  Conditions: the rows lie in memory.
-/
import Derived.Test.YtkabmpbfabgkfaaOc
import Derived.Test.YtkabmpbfabgkfaaCf
import Derived.Test.YtkabmpbfabgkfaaAx
import Derived.WalkKit
import Derived.WalkSpells
import Derived.WalkLawsBesides
import Derived.Deep.QuietTactic
import Derived.BigQuiet
import Derived.Lib.Hide
import Derived.Handy
import Derived.Deep.AppendLies
import Derived.Maps.AppendAt
import Derived.OwnWalk
import Derived.Lib.LazyBuf
import Derived.Deep.DeepCutAuto
import Derived.Deep.RegionLaw
import Derived.Deep.RegionHeld3
import Derived.Deep.RegionWith
import Derived.BigRegion
import Derived.Deep.CutBlock
import Derived.LoopN
set_option linter.unusedVariables false
set_option linter.unusedSimpArgs false
namespace Go.Proofs.Ytkabmpbfabgkfaa
open Go.RowKit 
open Big
attribute [local go_sem] setCell_drewN alloc_drewN size_ext ext_ext ext_drewN ext_drew drewN_ext drew_ext cell?_ext frozen?_ext setCell_ext cell?_past1 frozen?_past1 setCell_past1 cell?_past2 frozen?_past2 setCell_past2 cell?_past3 frozen?_past3 setCell_past3 cell?_past4 frozen?_past4 setCell_past4 cell?_past5 frozen?_past5 setCell_past5 cell?_past6 frozen?_past6 setCell_past6 cell?_past7 frozen?_past7 setCell_past7 cell?_past8 frozen?_past8 setCell_past8
open Go.Proofs.Ytkabmpbfabgkfaa.P Go.Proofs.YtkabmpbfabgkfaaW.PrintWords Go.Proofs.YtkabmpbfabgkfaaW.PrintLast Go.Proofs.YtkabmpbfabgkfaaW.PrintMore
attribute [local go_sem] max_ab
set_option maxRecDepth 100000 in
set_option maxHeartbeats 16000000 in
theorem Of_any (w : World) (A0 A1 : Option Addr) (c0 c1 : Nat) (l : List S44) (ins : List S25) (m : Bool)
    (hM : ∀ W, Below w.heap.size w W → Calls Try.prog 23 #[.slice A0 l.length c0, .slice A1 ins.length c1] W fun e w' => e = .returned (.int .i64 (if m = true then 0 else 2)) ∧ Below W.heap.size W w')
    (hok : m = true → ∀ t ∈ l, okOf t) (hr0 : Kd.C k44 w A0 l.length l) :
    Calls Try.prog 13 #[.slice A0 l.length c0, .slice A1 ins.length c1] w fun e w' => e = .returned (.tuple #[.agg #[.int .i64 (ofF m l).1, .int .i64 (ofF m l).2.1], .int .i64 (ofF m l).2.2]) ∧ Below w.heap.size w w' := by
  have hlen : l.length ≤ 9223372036854775807 := hr0.2.1
  have HM := Lib.hid hM
  have HR := Lib.hid hr0
  have HOK := Lib.hid hok
  clear hM hr0 hok
  obtain ⟨r, hr⟩ : ∃ r, ofF m l = r := ⟨_, rfl⟩
  rw [hr]
  have HRES := Lib.hid hr
  clear hr
  go_enter Try.func13, Try.ntmps13
  go_wp2_with fail
  refine (HM.out _ (by repeat (first | (with_reducible exact Below.refl _ _) | (with_reducible assumption) | (with_reducible refine below_drewN ?_ _) | (with_reducible refine Below.drew ?_) | (with_reducible refine below_ext_of ?_ (by first | exact Nat.le_refl _ | assumption | (simp only [World.size_alloc, World.size_setCell, size_ext, World.heap_drewN]; omega)) _ _) | (with_reducible refine Below.alloc ?_ (by first | exact Nat.le_refl _ | assumption | (simp only [World.size_alloc, World.size_setCell, size_ext, World.heap_drewN]; omega)) _) | (with_reducible refine Below.setCell ?_ (by first | exact Nat.le_refl _ | assumption | (simp only [World.size_alloc, World.size_setCell, size_ext, World.heap_drewN]; omega)) _)))).mono ?_
  clear HM
  rintro e W1 ⟨rfl, hb⟩
  have H4 : Hid (W1.heap[w.heap.size]? = some (.cells #[.int .i64 0, .int .i64 0] 23)) := Lib.hid ((hb.block _ (by simp)).trans (heap_new' _ _ _ rfl))
  have HB := Lib.hid (show Below w.heap.size w W1 from (Below.trans (by repeat (first | (with_reducible exact Below.refl _ _) | (with_reducible assumption) | (with_reducible refine below_drewN ?_ _) | (with_reducible refine Below.drew ?_) | (with_reducible refine below_ext_of ?_ (by first | exact Nat.le_refl _ | assumption | (simp only [World.size_alloc, World.size_setCell, size_ext, World.heap_drewN]; omega)) _ _) | (with_reducible refine Below.alloc ?_ (by first | exact Nat.le_refl _ | assumption | (simp only [World.size_alloc, World.size_setCell, size_ext, World.heap_drewN]; omega)) _) | (with_reducible refine Below.setCell ?_ (by first | exact Nat.le_refl _ | assumption | (simp only [World.size_alloc, World.size_setCell, size_ext, World.heap_drewN]; omega)) _))) (hb.mono (by simp))))
  have hsz : w.heap.size < W1.heap.size := lt_of_blk H4.out
  clear hb
  cases m with
  | false =>
    obtain ⟨k40, k41⟩ := cell_2 H4.out
    have f4 := frozen_2 H4.out
    rw [if_neg (by decide)]
    go_wp2_with fail
    have hres : ((0, 0, 2) : Int × Int × Int) = r := HRES.out
    have z4 := set_s1 (set_s0 H4.out (.int .i64 0)) (.int .i64 0)
    obtain ⟨z0, z1⟩ := cell_2 z4
    refine bodyPost_ret (v := .tuple #[.agg #[.int .i64 0, .int .i64 0], .int .i64 2]) (by simp [results, Try.results13, asAddr, go_sem, z0, z1]) rfl ?_
    exact ⟨by rw [← hres], below_set (below_set HB.out (Nat.le_refl _)) (Nat.le_refl _)⟩
  | true =>
    have HL := Lib.hid (HOK.out rfl)
    clear HOK
    rw [if_pos rfl]
    go_wp2_with fail
    obtain ⟨V, hV⟩ : ∃ V, V = W1.alloc (.cells #[.int .i64 0, .int .i64 1] 23) := ⟨_, rfl⟩
    obtain ⟨Bs, hBs⟩ : ∃ B, B = W1.heap.size := ⟨_, rfl⟩
    rw [← hV, ← hBs]
    have HS : Hid (V.heap[Bs]? = some (.cells #[.int .i64 0, .int .i64 1] 23)) := Lib.hid (by rw [hV]; exact heap_new' _ _ _ hBs)
    have HB4 : Hid (V.heap[w.heap.size]? = some (.cells #[.int .i64 0, .int .i64 0] 23)) := Lib.hid (by rw [hV, heap_old' _ _ _ hsz]; exact H4.out)
    have HBV : Hid (Below w.heap.size w V) := Lib.hid (by rw [hV]; exact HB.out.alloc (Nat.le_of_lt hsz) _)
    have hBs2 : w.heap.size < Bs := by omega
    clear hV hBs H4 HB hsz W1
    go_loopw [26] (fun i wr => ∃ (k : Nat) (P H : Int), k ≤ l.length ∧ i = .int .i64 k ∧ foldT (l.take k) (0, 1) = some (P, H) ∧ wr.heap[Bs]? = some (.cells #[.int .i64 P, .int .i64 H] 23) ∧ wr.heap[w.heap.size]? = some (.cells #[.int .i64 0, .int .i64 0] 23) ∧ Below w.heap.size w wr) (fun i _ => l.length - (RowKit.intOf i).toNat)
    case atStart => exact ⟨0, 0, 1, Nat.zero_le _, rfl, rfl, HS.out, HB4.out, HBV.out⟩
    case round =>
      clear HS HB4 HBV V
      obtain ⟨k, P, H, hk, rfl, hf, hs, h4, hb⟩ := hrel
      have HF := Lib.hid hf
      have HS := Lib.hid hs
      have H4 := Lib.hid h4
      have HB := Lib.hid hb
      clear hf hs h4 hb
      by_cases hlt : k < l.length
      · have HK := Lib.hid hk
        obtain ⟨ad, A5, c5, hA, s0, s1, s2, s3, s4, s5, s6, hl5, hr5⟩ := at_T44 HR.out k (by omega) (by omega)
        rw [Int.toNat_natCast] at s0 s1 s2 s3 s4 s5 s6
        have hrd : rd_T44 l k = l.getD k z44 := rfl
        rw [hrd] at s0 s1 s2 s3 s4 s5 s6 hl5 hr5
        have HX := Lib.hid (take_succ' l z44 k hlt)
        have HOT := Lib.hid (HL.out _ (getD_mem l z44 k hlt))
        have HR5 := Lib.hid hr5
        have HDR := Lib.hid (drop_getD l z44 k hlt)
        generalize l.getD k z44 = x at *
        clear hrd hl5 hr5
        replace s0 := keepc (Nat.le_refl _) HB.out s0
        replace s1 := keepc (Nat.le_refl _) HB.out s1
        replace s2 := keepc (Nat.le_refl _) HB.out s2
        replace s3 := keepc (Nat.le_refl _) HB.out s3
        replace s4 := keepc (Nat.le_refl _) HB.out s4
        replace s5 := keepc (Nat.le_refl _) HB.out s5
        replace s6 := keepc (Nat.le_refl _) HB.out s6
        obtain ⟨q0, q1⟩ := cell_2 HS.out
        have qf := frozen_2 HS.out
        have nS := lt_of_blk HS.out
        have e1 : (k : Int) < l.length := by omega
        have e2 : (0 : Int) ≤ k := by omega
        have HSZ := Lib.hid hlen
        obtain ⟨P1, hP1⟩ : ∃ P1, mxI P x.f0.f1 = P1 := ⟨_, rfl⟩
        clear hlen hk
        rw [hA]
        go_wp2_with fail
        have HP1 := Lib.hid hP1
        obtain ⟨V, hV⟩ : ∃ V, V = (wr.setCell ⟨Bs, 0, none⟩ (.int .i64 P1)).alloc (.cells #[.int .i64 x.f0.f0, .int .i64 x.f0.f1, .int .i64 x.f1, .int .i64 x.f2, .int .i64 x.f3, .slice A5 x.f4.length c5, .int .i64 x.f5] 44) := ⟨_, rfl⟩
        obtain ⟨B9, hB9⟩ : ∃ B, B = wr.heap.size := ⟨_, rfl⟩
        rw [← hV, ← hB9]
        have HSV : Hid (V.heap[Bs]? = some (.cells #[.int .i64 P1, .int .i64 H] 23)) := Lib.hid (by rw [hV, heap_old' _ _ _ (by rw [World.size_setCell]; exact nS)]; exact set_s0 HS.out _)
        have H4V : Hid (V.heap[w.heap.size]? = some (.cells #[.int .i64 0, .int .i64 0] 23)) := Lib.hid (by rw [hV, heap_old' _ _ _ (by rw [World.size_setCell]; omega), set_oth' (by omega)]; exact H4.out)
        have H9 : Hid (V.heap[B9]? = some (.cells #[.int .i64 x.f0.f0, .int .i64 x.f0.f1, .int .i64 x.f1, .int .i64 x.f2, .int .i64 x.f3, .slice A5 x.f4.length c5, .int .i64 x.f5] 44)) := Lib.hid (by rw [hV]; exact heap_new' _ _ _ (by rw [World.size_setCell]; exact hB9))
        have HBV : Hid (Below w.heap.size w V) := Lib.hid (by rw [hV]; exact (below_set HB.out (by omega)).alloc (by rw [World.size_setCell]; omega) _)
        have n9 : Bs < B9 := by omega
        clear hV hB9 HS H4 HB q0 q1 qf nS s0 s1 s2 s3 s4 s5 s6 hP1 wr
        go_loopw [40] (fun i wr => ∃ (j : Nat) (P2 H2 : Int), j ≤ x.f4.length ∧ i = .int .i64 j ∧ foldR x.f0.f0 x.f0.f1 (x.f4.take j) (P1, H) = some (P2, H2) ∧ wr.heap[Bs]? = some (.cells #[.int .i64 P2, .int .i64 H2] 23) ∧ wr.heap[w.heap.size]? = some (.cells #[.int .i64 0, .int .i64 0] 23) ∧ wr.heap[B9]? = some (.cells #[.int .i64 x.f0.f0, .int .i64 x.f0.f1, .int .i64 x.f1, .int .i64 x.f2, .int .i64 x.f3, .slice A5 x.f4.length c5, .int .i64 x.f5] 44) ∧ Below w.heap.size w wr) (fun i _ => x.f4.length - (RowKit.intOf i).toNat)
        case atStart => exact ⟨0, P1, H, Nat.zero_le _, rfl, rfl, HSV.out, H4V.out, H9.out, HBV.out⟩
        case round =>
          clear HSV H4V H9 HBV V
          obtain ⟨j, P2, H2, hj, rfl, hf, hs, h4, h9, hb⟩ := hrel
          have HF2 := Lib.hid hf
          have HS := Lib.hid hs
          have H4 := Lib.hid h4
          have H9 := Lib.hid h9
          have HB := Lib.hid hb
          clear hf hs h4 h9 hb
          have hlen5 : x.f4.length ≤ 9223372036854775807 := HR5.out.2.1
          by_cases hlt2 : j < x.f4.length
          · obtain ⟨ad2, A3, c3, A4, c4, hA5, s0, s1, s2, s3, s4, s5, hl3, hr3, hl4, hr4⟩ := at_T69 HR5.out j (by omega) (by omega)
            subst hA5
            rw [Int.toNat_natCast] at s0 s1 s2 s3 s4 s5
            have hrd : rd_T69 x.f4 j = x.f4.getD j z69 := rfl
            rw [hrd] at s0 s1 s2 s3 s4 s5
            have HY := Lib.hid (take_succ' x.f4 z69 j hlt2)
            have HOR := Lib.hid (HOT.out.2 _ (getD_mem x.f4 z69 j hlt2))
            have HDS := Lib.hid (drop_getD x.f4 z69 j hlt2)
            clear hrd hl3 hr3 hl4 hr4
            generalize x.f4.getD j z69 = y at *
            replace s0 := keepc (Nat.le_refl _) HB.out s0
            replace s1 := keepc (Nat.le_refl _) HB.out s1
            replace s2 := keepc (Nat.le_refl _) HB.out s2
            replace s3 := keepc (Nat.le_refl _) HB.out s3
            replace s4 := keepc (Nat.le_refl _) HB.out s4
            replace s5 := keepc (Nat.le_refl _) HB.out s5
            have e3 : (j : Int) < x.f4.length := by omega
            have e4 : (0 : Int) ≤ j := by omega
            have HJ := Lib.hid hj
            have HSZ5 := Lib.hid hlen5
            clear hlen5 hj
            go_upto_region 12 with (fail)
            obtain ⟨V, hV⟩ : ∃ V, V = wr.alloc (.cells #[.int .u8 y.f0, .int .i64 y.f1, .int .i64 y.f2, .slice A3 y.f3.f0.length c3, .slice A4 y.f3.f1.length c4, .int .i64 y.f3.f2] 69) := ⟨_, rfl⟩
            obtain ⟨B11, hB11⟩ : ∃ B, B = wr.heap.size := ⟨_, rfl⟩
            rw [← hV, ← hB11]
            have n9w : B9 < wr.heap.size := lt_of_blk H9.out
            have nSw : Bs < wr.heap.size := lt_of_blk HS.out
            have HSV : Hid (V.heap[Bs]? = some (.cells #[.int .i64 P2, .int .i64 H2] 23)) := Lib.hid (by rw [hV, heap_old' _ _ _ nSw]; exact HS.out)
            have H4V : Hid (V.heap[w.heap.size]? = some (.cells #[.int .i64 0, .int .i64 0] 23)) := Lib.hid (by rw [hV, heap_old' _ _ _ (by omega)]; exact H4.out)
            have H9V : Hid (V.heap[B9]? = some (.cells #[.int .i64 x.f0.f0, .int .i64 x.f0.f1, .int .i64 x.f1, .int .i64 x.f2, .int .i64 x.f3, .slice (some ad2) x.f4.length c5, .int .i64 x.f5] 44)) := Lib.hid (by rw [hV, heap_old' _ _ _ n9w]; exact H9.out)
            have H11 : Hid (V.heap[B11]? = some (.cells #[.int .u8 y.f0, .int .i64 y.f1, .int .i64 y.f2, .slice A3 y.f3.f0.length c3, .slice A4 y.f3.f1.length c4, .int .i64 y.f3.f2] 69)) := Lib.hid (by rw [hV]; exact heap_new' _ _ _ hB11)
            have HBV : Hid (Below w.heap.size w V) := Lib.hid (by rw [hV]; exact HB.out.alloc (by omega) _)
            have n11 : B9 < B11 := by omega
            clear hV hB11 n9w nSw HS H4 HB H9 s0 s1 s2 s3 s4 s5 wr
            have hin : inOf (P2, H2) := by
              obtain ⟨p1, p2, t1, t2⟩ := mayC_spec HOT.out.1
              have hi0 := inOf_foldT _ _ _ (fun z hz => HL.out z (List.mem_of_mem_take hz)) (show inOf (0, 1) from by unfold inOf; decide) HF.out
              exact inOf_foldR p1 p2 t2 _ _ _ (fun z hz => HOT.out.2 z (List.mem_of_mem_take hz)) (by rw [← HP1.out]; exact inOf_task t2 hi0) HF2.out
            obtain ⟨p1, p2, t1, t2⟩ := mayC_spec HOT.out.1
            obtain ⟨D, hD⟩ : ∃ D, (y.f3.f0.length : Int) * x.f0.f0 = D := ⟨_, rfl⟩
            have hDin := len_mul (show 0 ≤ x.f0.f0 by omega) p2 HOR.out.1
            rw [hD] at hDin
            obtain ⟨E, hE⟩ : ∃ E, x.f0.f1 + D = E := ⟨_, rfl⟩
            have W1 : Hid (IntKind.i64.wrap ((y.f3.f0.length : Int) * x.f0.f0) = D) := Lib.hid (by rw [hD, IntKind.wrap_i64]; omega)
            have W2 : Hid (IntKind.i64.wrap (x.f0.f1 + D) = E) := Lib.hid (by rw [IntKind.wrap_i64]; omega)
            obtain ⟨P3, hP3⟩ : ∃ P3, mxI P2 E = P3 := ⟨_, rfl⟩
            obtain ⟨L, hL⟩ : ∃ L, x.f0.f0 * (y.f3.f1.length : Int) = L := ⟨_, rfl⟩
            have hLin := len_mul (show 0 ≤ x.f0.f0 by omega) p2 HOR.out.2.1
            rw [Int.mul_comm, hL] at hLin
            have W3 : Hid (IntKind.i64.wrap (x.f0.f0 * (y.f3.f1.length : Int)) = L) := Lib.hid (by rw [hL, IntKind.wrap_i64]; omega)
            have HSTEP : Hid (stepOf x.f0.f0 x.f0.f1 (P2, H2) y = if fitB (lcmV H2 L) = true ∧ lcmV H2 L ≤ 17592186044416 then some (P3, lcmV H2 L) else none) := Lib.hid (by unfold stepOf; simp only [hL, hD, hE, hP3])
            have HIN := Lib.hid hin
            have HLIN := Lib.hid hLin
            have HD := Lib.hid hD
            have HE := Lib.hid hE
            have HL2 := Lib.hid hL
            clear hin hLin hD hDin hE hL p1 p2 t1 t2
            obtain ⟨q0, q1⟩ := cell_2 HSV.out
            have qf := frozen_2 HSV.out
            have nS := lt_of_blk HSV.out
            have n9V := lt_of_blk H9V.out
            have n11V := lt_of_blk H11.out
            have L9 : Bs ≠ B9 := by omega
            have L11 : Bs ≠ B11 := by omega
            have k0 := cell_lit (i := 0) H9V.out
            have k1 := cell_lit (i := 1) H9V.out
            have k2 := cell_lit (i := 3) H11.out
            replace k0 : V.cell? ⟨B9, 0, none⟩ = some (.int .i64 x.f0.f0) := k0
            replace k1 : V.cell? ⟨B9, 1, none⟩ = some (.int .i64 x.f0.f1) := k1
            replace k2 : V.cell? ⟨B11, 3, none⟩ = some (.slice A3 y.f3.f0.length c3) := k2
            go_cut [] (fun wc => wc.heap[Bs]? = some (.cells #[.int .i64 P3, .int .i64 H2] 23) ∧ wc.heap[w.heap.size]? = some (.cells #[.int .i64 0, .int .i64 0] 23) ∧ wc.heap[B9]? = some (.cells #[.int .i64 x.f0.f0, .int .i64 x.f0.f1, .int .i64 x.f1, .int .i64 x.f2, .int .i64 x.f3, .slice (some ad2) x.f4.length c5, .int .i64 x.f5] 44) ∧ wc.heap[B11]? = some (.cells #[.int .u8 y.f0, .int .i64 y.f1, .int .i64 y.f2, .slice A3 y.f3.f0.length c3, .slice A4 y.f3.f1.length c4, .int .i64 y.f3.f2] 69) ∧ Below w.heap.size w wc)
            case first =>
              refine wp_region_held_drew (S := (fun w' => w'.cell? ⟨B9, 0, none⟩ = some (.int .i64 x.f0.f0) ∧ w'.cell? ⟨B9, 1, none⟩ = some (.int .i64 x.f0.f1) ∧ w'.cell? ⟨B11, 3, none⟩ = some (.slice A3 y.f3.f0.length c3))) (by kernel_rfl) ?hS13 (fun hHeld => ?go13)
              case hS13 =>
                (try dsimp only)
                try go_simp
              case go13 =>
              refine' wpAnyH_take (i := 0) (oi := ⟨_, _, _, _, _, _⟩) (v := ?v14) rfl (by kernel_rfl) (by kernel_rfl) (by kernel_rfl) (fun _ _ _ h => h) (Or.inl ⟨by rfl, ?hy14⟩) (by assumption) ?rest14
              case hy14 =>
                intro w hSw
                (try dsimp only at hSw)
                go_simp
                try (with_reducible rfl)
              case rest14 =>
              (try simp only [Act.put, List.setIfInBounds_toArray, List.set_cons_zero, List.set_cons_succ])
              refine' wpAnyH_take (i := 2) (oi := ⟨_, _, _, _, _, _⟩) (v := ?v15) rfl (by kernel_rfl) (by kernel_rfl) (by kernel_rfl) (fun _ _ _ h => h) (Or.inl ⟨by rfl, ?hy15⟩) (by assumption) ?rest15
              case hy15 =>
                intro w hSw
                (try dsimp only at hSw)
                go_simp
                try (with_reducible rfl)
              case rest15 =>
              (try simp only [Act.put, List.setIfInBounds_toArray, List.set_cons_zero, List.set_cons_succ])
              refine' wpAnyH_take (i := 3) (oi := ⟨_, _, _, _, _, _⟩) (v := ?v16) rfl (by kernel_rfl) (by kernel_rfl) (by kernel_rfl) (fun _ _ _ h => h) (Or.inl ⟨by rfl, ?hy16⟩) (by assumption) ?rest16
              case hy16 =>
                intro w hSw
                (try dsimp only at hSw)
                go_simp
                try (with_reducible rfl)
              case rest16 =>
              (try simp only [Act.put, List.setIfInBounds_toArray, List.set_cons_zero, List.set_cons_succ])
              refine' wpAnyH_take (i := 4) (oi := ⟨_, _, _, _, _, _⟩) (v := ?v17) rfl (by kernel_rfl) (by kernel_rfl) (by kernel_rfl) (fun _ _ _ h => h) (Or.inl ⟨by rfl, ?hy17⟩) (by assumption) ?rest17
              case hy17 =>
                intro w hSw
                (try dsimp only at hSw)
                go_simp
                try (with_reducible rfl)
              case rest17 =>
              (try simp only [Act.put, List.setIfInBounds_toArray, List.set_cons_zero, List.set_cons_succ])
              refine' wpAnyH_take (i := 5) (oi := ⟨_, _, _, _, _, _⟩) (v := ?v18) rfl (by kernel_rfl) (by kernel_rfl) (by kernel_rfl) (fun _ _ _ h => h) (Or.inl ⟨by rfl, ?hy18⟩) (by assumption) ?rest18
              case hy18 =>
                intro w hSw
                (try dsimp only at hSw)
                go_simp
                try (with_reducible rfl)
              case rest18 =>
              (try simp only [Act.put, List.setIfInBounds_toArray, List.set_cons_zero, List.set_cons_succ])
              refine' wpAnyH_take (i := 6) (oi := ⟨_, _, _, _, _, _⟩) (v := ?v19) rfl (by kernel_rfl) (by kernel_rfl) (by kernel_rfl) (fun _ _ _ h => h) (Or.inl ⟨by rfl, ?hy19⟩) (by assumption) ?rest19
              case hy19 =>
                intro w hSw
                (try dsimp only at hSw)
                go_simp
                try (with_reducible rfl)
              case rest19 =>
              (try simp only [Act.put, List.setIfInBounds_toArray, List.set_cons_zero, List.set_cons_succ])
              refine' wpAnyH_take (i := 7) (oi := ⟨_, _, _, _, _, _⟩) (v := ?v20) rfl (by kernel_rfl) (by kernel_rfl) (by kernel_rfl) (fun _ _ _ h => h) (Or.inl ⟨by rfl, ?hy20⟩) (by assumption) ?rest20
              case hy20 =>
                intro w hSw
                (try dsimp only at hSw)
                go_simp
                try (with_reducible rfl)
              case rest20 =>
              (try simp only [Act.put, List.setIfInBounds_toArray, List.set_cons_zero, List.set_cons_succ])
              refine wpAnyH_ready (rs := [1, 8]) (by kernel_rfl) (by simp) ?_
              refine (AllReadyH.cons (o := ⟨_, _, _, _, _, _⟩) rfl (fun K hK => ?_) (AllReadyH.cons (o := ⟨_, _, _, _, _, _⟩) rfl (fun K hK => ?_) AllReadyH.nil))
              · go_simp
                refine hK.out _ _ ?hS22 (fun hHeld2 => ?go22)
                case hS22 =>
                  (try dsimp only)
                  try go_simp
                case go22 =>
                clear hK K
                clear hHeld
                have hHeld := hHeld2
                clear hHeld2
                (try simp only [Act.put, List.setIfInBounds_toArray, List.set_cons_zero, List.set_cons_succ])
                refine wpAnyH_ready (rs := [8]) (by kernel_rfl) (by simp) ?_
                refine (AllReadyH.cons (o := ⟨_, _, _, _, _, _⟩) rfl (fun K hK => ?_) AllReadyH.nil)
                go_simp
                (go_at_call 26; refine (udate_any _ x.f0.f0 x.f0.f1 y.f3.f0.length D E W1.out W2.out).mono ?_; rintro e w' ⟨rfl, hb⟩; obtain ⟨X, d, rfl⟩ := below_ext hb; clear hb; go_simp)
                refine hK.out _ _ ?hS24 (fun hHeld2 => ?go24)
                case hS24 =>
                  (try dsimp only)
                  try go_simp
                case go24 =>
                clear hK K
                clear hHeld
                have hHeld := hHeld2
                clear hHeld2
                (try simp only [Act.put, List.setIfInBounds_toArray, List.set_cons_zero, List.set_cons_succ])
                refine' wpAnyH_take (i := 9) (oi := ⟨_, _, _, _, _, _⟩) (v := ?v25) rfl (by kernel_rfl) (by kernel_rfl) (by kernel_rfl) (fun _ _ _ h => h) (Or.inl ⟨by rfl, ?hy25⟩) (by assumption) ?rest25
                case hy25 =>
                  intro w hSw
                  (try dsimp only at hSw)
                  go_simp
                  try (with_reducible rfl)
                case rest25 =>
                (try simp only [Act.put, List.setIfInBounds_toArray, List.set_cons_zero, List.set_cons_succ])
                refine' wpAnyH_take (i := 10) (oi := ⟨_, _, _, _, _, _⟩) (v := ?v26) rfl (by kernel_rfl) (by kernel_rfl) (by kernel_rfl) (fun _ _ _ h => h) (Or.inl ⟨by rfl, ?hy26⟩) (by assumption) ?rest26
                case hy26 =>
                  intro w hSw
                  (try dsimp only at hSw)
                  go_simp
                  try (with_reducible rfl)
                case rest26 =>
                (try simp only [Act.put, List.setIfInBounds_toArray, List.set_cons_zero, List.set_cons_succ])
                refine wpAnyH_ready (rs := [11]) (by kernel_rfl) (by simp) ?_
                refine (AllReadyH.cons (o := ⟨_, _, _, _, _, _⟩) rfl (fun K hK => ?_) AllReadyH.nil)
                go_simp
                refine hK.out _ _ ?hS28 (fun hHeld2 => ?go28)
                case hS28 =>
                  (try dsimp only)
                  try go_simp
                case go28 =>
                clear hK K
                clear hHeld
                have hHeld := hHeld2
                clear hHeld2
                (try simp only [Act.put, List.setIfInBounds_toArray, List.set_cons_zero, List.set_cons_succ])
                refine wpAnyH_done (by kernel_rfl) ?_ _
                go_wp2_with fail
                go_meet
                case rel => exact ⟨((ext_below _ X d).block _ (by rw [World.size_setCell]; exact nS)).trans (set_s0 HSV.out _), ((ext_below _ X d).block _ (by rw [World.size_setCell]; omega)).trans ((set_oth' (by omega)).trans H4V.out), ((ext_below _ X d).block _ (by rw [World.size_setCell]; exact n9V)).trans ((set_oth' L9).trans H9V.out), ((ext_below _ X d).block _ (by rw [World.size_setCell]; exact n11V)).trans ((set_oth' L11).trans H11.out), (below_set HBV.out (by omega)).trans ((ext_below _ X d).mono (by rw [World.size_setCell]; omega))⟩
              · go_simp
                (go_at_call 26; refine (udate_any _ x.f0.f0 x.f0.f1 y.f3.f0.length D E W1.out W2.out).mono ?_; rintro e w' ⟨rfl, hb⟩; obtain ⟨X, d, rfl⟩ := below_ext hb; clear hb; go_simp)
                refine hK.out _ _ ?hS30 (fun hHeld2 => ?go30)
                case hS30 =>
                  (try dsimp only)
                  try go_simp
                case go30 =>
                clear hK K
                clear hHeld
                have hHeld := hHeld2
                clear hHeld2
                (try simp only [Act.put, List.setIfInBounds_toArray, List.set_cons_zero, List.set_cons_succ])
                refine wpAnyH_ready (rs := [1]) (by kernel_rfl) (by simp) ?_
                refine (AllReadyH.cons (o := ⟨_, _, _, _, _, _⟩) rfl (fun K hK => ?_) AllReadyH.nil)
                go_simp
                refine hK.out _ _ ?hS32 (fun hHeld2 => ?go32)
                case hS32 =>
                  (try dsimp only)
                  try go_simp
                case go32 =>
                clear hK K
                clear hHeld
                have hHeld := hHeld2
                clear hHeld2
                (try simp only [Act.put, List.setIfInBounds_toArray, List.set_cons_zero, List.set_cons_succ])
                refine' wpAnyH_take (i := 9) (oi := ⟨_, _, _, _, _, _⟩) (v := ?v33) rfl (by kernel_rfl) (by kernel_rfl) (by kernel_rfl) (fun _ _ _ h => h) (Or.inl ⟨by rfl, ?hy33⟩) (by assumption) ?rest33
                case hy33 =>
                  intro w hSw
                  (try dsimp only at hSw)
                  go_simp
                  try (with_reducible rfl)
                case rest33 =>
                (try simp only [Act.put, List.setIfInBounds_toArray, List.set_cons_zero, List.set_cons_succ])
                refine' wpAnyH_take (i := 10) (oi := ⟨_, _, _, _, _, _⟩) (v := ?v34) rfl (by kernel_rfl) (by kernel_rfl) (by kernel_rfl) (fun _ _ _ h => h) (Or.inl ⟨by rfl, ?hy34⟩) (by assumption) ?rest34
                case hy34 =>
                  intro w hSw
                  (try dsimp only at hSw)
                  go_simp
                  try (with_reducible rfl)
                case rest34 =>
                (try simp only [Act.put, List.setIfInBounds_toArray, List.set_cons_zero, List.set_cons_succ])
                refine wpAnyH_ready (rs := [11]) (by kernel_rfl) (by simp) ?_
                refine (AllReadyH.cons (o := ⟨_, _, _, _, _, _⟩) rfl (fun K hK => ?_) AllReadyH.nil)
                go_simp
                refine hK.out _ _ ?hS36 (fun hHeld2 => ?go36)
                case hS36 =>
                  (try dsimp only)
                  try go_simp
                case go36 =>
                clear hK K
                clear hHeld
                have hHeld := hHeld2
                clear hHeld2
                (try simp only [Act.put, List.setIfInBounds_toArray, List.set_cons_zero, List.set_cons_succ])
                refine wpAnyH_done (by kernel_rfl) ?_ _
                go_wp2_with fail
                go_meet
                case rel => exact ⟨((ext_below _ X d).block _ (by rw [World.size_setCell]; exact nS)).trans (set_s0 HSV.out _), ((ext_below _ X d).block _ (by rw [World.size_setCell]; omega)).trans ((set_oth' (by omega)).trans H4V.out), ((ext_below _ X d).block _ (by rw [World.size_setCell]; exact n9V)).trans ((set_oth' L9).trans H9V.out), ((ext_below _ X d).block _ (by rw [World.size_setCell]; exact n11V)).trans ((set_oth' L11).trans H11.out), (below_set HBV.out (by omega)).trans ((ext_below _ X d).mono (by rw [World.size_setCell]; omega))⟩
            case rest =>
              obtain ⟨hs, h4, h9, h11, hb⟩ := hcut
              have HS := Lib.hid hs
              have H4 := Lib.hid h4
              have H9 := Lib.hid h9
              have H11' := Lib.hid h11
              have HB := Lib.hid hb
              clear HSV H4V H9V H11 HBV hs h4 h9 h11 hb q0 q1 qf nS n9V n11V k0 k1 k2
              have k0 : wc.cell? ⟨B9, 0, none⟩ = some (.int .i64 x.f0.f0) := cell_lit (i := 0) H9.out
              have k1 : wc.cell? ⟨B11, 4, none⟩ = some (.slice A4 y.f3.f1.length c4) := cell_lit (i := 4) H11'.out
              have k2 : IntKind.i64.wrap (x.f0.f0 * (y.f3.f1.length : Int)) = L := W3.out
              obtain ⟨h, hh⟩ : ∃ h, fitV (lcmV H2 L) = h := ⟨_, rfl⟩
              obtain ⟨b, hbb⟩ : ∃ b, (fitB (lcmV H2 L) && decide (h ≤ 17592186044416)) = b := ⟨_, rfl⟩
              have HC := Lib.hid (of1_any wc Bs P3 H2 L HS.out (by have := HIN.out.2.2.1; dsimp only at this; omega) (by have := HIN.out.2.2.2; dsimp only at this; omega) (by have := HLIN.out; omega) (by have := HLIN.out; omega))
              rw [hh] at HC
              rw [hbb] at HC
              have HH := Lib.hid hh
              have HBB := Lib.hid hbb
              clear hh hbb
              go_wp2_with fail
              refine HC.out.mono ?_
              rintro e w1 ⟨rfl, rfl⟩
              clear HC k0 k1 k2
              have HS2 := Lib.hid (set_s1 HS.out (.int .i64 h))
              have H42 := Lib.hid ((set_oth' (W := wc) (b := Bs) (c := w.heap.size) (i := 1) (v := .int .i64 h) (by omega)).trans H4.out)
              have H92 := Lib.hid ((set_oth' (W := wc) (b := Bs) (c := B9) (i := 1) (v := .int .i64 h) (by omega)).trans H9.out)
              have HB2 := Lib.hid (below_set (i := 1) (v := .int .i64 h) HB.out (show w.heap.size ≤ Bs by omega))
              generalize wc.setCell ⟨Bs, 1, none⟩ (.int .i64 h) = V at *
              cases b with
              | true =>
                have hfit := HBB.out
                rw [Bool.and_eq_true, decide_eq_true_eq] at hfit
                have hv : h = lcmV H2 L := by
                  have h1 := hfit.1
                  unfold fitB at h1
                  rw [← HH.out]; unfold fitV; rw [if_pos (of_decide_eq_true h1)]
                have hst := HSTEP.out
                rw [if_pos ⟨hfit.1, hv ▸ hfit.2⟩, ← hv] at hst
                have HST := Lib.hid hst
                have e5 : IntKind.i64.wrap ((j : Int) + 1) = (j : Int) + 1 := by rw [IntKind.wrap_i64]; have := HSZ5.out; omega
                clear hfit hv hst
                go_wp2_with fail
                go_roundw
                case rel => exact ⟨j + 1, P3, h, by omega, by simp, by rw [HY.out, foldR_append, HF2.out]; simp only [Option.bind_some, foldR, HST.out], HS2.out, H42.out, H92.out, HB2.out⟩
                case measure => simp [RowKit.intOf]; omega
              | false =>
                have hnone : ¬ (fitB (lcmV H2 L) = true ∧ lcmV H2 L ≤ 17592186044416) := by
                  rintro ⟨h1, h2⟩
                  have h3 := HBB.out
                  have hv : h = lcmV H2 L := by
                    rw [← HH.out]; unfold fitV; unfold fitB at h1; rw [if_pos (of_decide_eq_true h1)]
                  rw [h1, decide_eq_true (hv ▸ h2)] at h3
                  cases h3
                have hst := HSTEP.out
                rw [if_neg hnone] at hst
                have hres : ((0, 0, 4) : Int × Int × Int) = r := by
                  rw [← HRES.out]
                  have h1 : foldT l (0, 1) = none := by
                    rw [HDR.out, foldT_append, HF.out]
                    simp only [Option.bind_some, foldT, HP1.out]
                    rw [HDS.out, foldR_append, HF2.out]
                    simp only [Option.bind_some, foldR, hst, Option.bind_none]
                  unfold ofF
                  rw [if_pos rfl, h1]
                clear hnone hst
                obtain ⟨q0, q1⟩ := cell_2 H42.out
                have qf := frozen_2 H42.out
                go_wp2_with fail
                have z4 := set_s1 (set_s0 H42.out (.int .i64 0)) (.int .i64 0)
                obtain ⟨z0, z1⟩ := cell_2 z4
                refine bodyPost_ret (v := .tuple #[.agg #[.int .i64 0, .int .i64 0], .int .i64 4]) (by simp [results, Try.results13, asAddr, go_sem, z0, z1]) rfl ?_
                exact ⟨by rw [← hres], below_set (below_set HB2.out (Nat.le_refl _)) (Nat.le_refl _)⟩
          · obtain rfl : j = x.f4.length := by omega
            have e3 : ¬ ((x.f4.length : Int) < x.f4.length) := by omega
            have e4 : IntKind.i64.wrap ((k : Int) + 1) = (k : Int) + 1 := by rw [IntKind.wrap_i64]; have := HSZ.out; omega
            go_wp2_with fail
            go_roundw
            case rel => exact ⟨k + 1, P2, H2, by omega, by simp, by have h1 := HF2.out; rw [List.take_length] at h1; rw [HX.out, foldT_append, HF.out]; simp only [Option.bind_some, foldT, HP1.out, h1], HS.out, H4.out, HB.out⟩
            case measure => simp [RowKit.intOf]; omega
      · obtain rfl : k = l.length := by omega
        have e1 : ¬ ((l.length : Int) < l.length) := by omega
        have hf := HF.out
        rw [List.take_length] at hf
        have HFT := Lib.hid hf
        have hin := inOf_foldT _ _ _ HL.out (show inOf (0, 1) from by unfold inOf; decide) hf
        have HIN := Lib.hid hin
        obtain ⟨T, hT⟩ : ∃ T, P + H = T := ⟨_, rfl⟩
        have hTW : IntKind.i64.wrap (P + H) = T := by
          have h1 := hin.1
          have h2 := hin.2.1
          have h3 := hin.2.2.1
          have h4 := hin.2.2.2
          dsimp only at h1 h2 h3 h4
          rw [IntKind.wrap_i64]; omega
        have HT := Lib.hid hT
        have HSZ := Lib.hid hlen
        clear HF hf hin hT hlt hk hlen
        obtain ⟨q0, q1⟩ := cell_2 HS.out
        obtain ⟨q40, q41⟩ := cell_2 H4.out
        have qf4 := frozen_2 H4.out
        by_cases hbig : 17592186044416 < T
        · have d1 : decide (T > 17592186044416) = true := decide_eq_true hbig
          have hres : ((0, 0, 4) : Int × Int × Int) = r := by
            rw [← HRES.out]
            unfold ofF
            rw [if_pos rfl, HFT.out]
            dsimp only
            rw [if_pos (by rw [HT.out]; exact hbig)]
          clear hbig
          go_wp2_with fail
          have z4 := set_s1 (set_s0 H4.out (.int .i64 0)) (.int .i64 0)
          obtain ⟨z0, z1⟩ := cell_2 z4
          refine bodyPost_ret (v := .tuple #[.agg #[.int .i64 0, .int .i64 0], .int .i64 4]) (by simp [results, Try.results13, asAddr, go_sem, z0, z1]) rfl ?_
          exact ⟨by rw [← hres], below_set (below_set HB.out (Nat.le_refl _)) (Nat.le_refl _)⟩
        · have d1 : decide (T > 17592186044416) = false := decide_eq_false hbig
          have HBG := Lib.hid hbig
          clear hbig
          go_wp2_with fail
          clear q40 q41 qf4 q0 q1 hTW d1
          go_loopw [12, 78] (fun n i wr => ∃ (k : Nat) (c : Int), k ≤ l.length ∧ n = .int .i64 c ∧ i = .int .i64 k ∧ cntT P H (l.take k) 0 = some c ∧ wr.heap[Bs]? = some (.cells #[.int .i64 P, .int .i64 H] 23) ∧ wr.heap[w.heap.size]? = some (.cells #[.int .i64 0, .int .i64 0] 23) ∧ Below w.heap.size w wr) (fun _ i _ => l.length - (RowKit.intOf i).toNat)
          case atStart => exact ⟨0, 0, Nat.zero_le _, rfl, rfl, rfl, HS.out, H4.out, HB.out⟩
          case round =>
            clear HS H4 HB e1
            obtain ⟨k, c, hk, rfl, rfl, hc, hs, h4, hb⟩ := hrel
            have HC := Lib.hid hc
            have HS := Lib.hid hs
            have H4 := Lib.hid h4
            have HB := Lib.hid hb
            clear hc hs h4 hb
            have hPH : 0 ≤ P ∧ P ≤ 17592186044416 ∧ 1 ≤ H ∧ H ≤ 17592186044416 := by
              have h1 := HIN.out.1
              have h3 := HIN.out.2.2.1
              have h4 := HIN.out.2.2.2
              dsimp only at h1 h3 h4
              have := HBG.out
              have := HT.out
              omega
            by_cases hlt : k < l.length
            · have HK := Lib.hid hk
              obtain ⟨ad, A5, c5, hA, s0, s1, s2, s3, s4, s5, s6, hl5, hr5⟩ := at_T44 HR.out k (by omega) (by omega)
              rw [Int.toNat_natCast] at s0 s1 s2 s3 s4 s5 s6
              have hrd : rd_T44 l k = l.getD k z44 := rfl
              rw [hrd] at s0 s1 s2 s3 s4 s5 s6
              have HX := Lib.hid (take_succ' l z44 k hlt)
              have HOT := Lib.hid (HL.out _ (getD_mem l z44 k hlt))
              have HDR := Lib.hid (drop_getD l z44 k hlt)
              clear hrd hl5 hr5
              generalize l.getD k z44 = x at *
              replace s0 := keepc (Nat.le_refl _) HB.out s0
              replace s1 := keepc (Nat.le_refl _) HB.out s1
              replace s2 := keepc (Nat.le_refl _) HB.out s2
              replace s3 := keepc (Nat.le_refl _) HB.out s3
              replace s4 := keepc (Nat.le_refl _) HB.out s4
              replace s5 := keepc (Nat.le_refl _) HB.out s5
              replace s6 := keepc (Nat.le_refl _) HB.out s6
              obtain ⟨q0, q1⟩ := cell_2 HS.out
              obtain ⟨q40, q41⟩ := cell_2 H4.out
              have qf4 := frozen_2 H4.out
              have nS := lt_of_blk HS.out
              have n4 : w.heap.size < wr.heap.size := by omega
              have e1 : (k : Int) < l.length := by omega
              have e2 : (0 : Int) ≤ k := by omega
              obtain ⟨p1, p2, t1, t2⟩ := mayC_spec HOT.out.1
              have HCC := Lib.hid (count_in (wr.alloc (.cells #[.int .i64 x.f0.f0, .int .i64 x.f0.f1, .int .i64 x.f1, .int .i64 x.f2, .int .i64 x.f3, .slice A5 x.f4.length c5, .int .i64 x.f5] 44)) P H x.f0.f0 x.f0.f1 p1 p2 t1 t2 hPH.1 hPH.2.1 hPH.2.2.1 hPH.2.2.2)
              have hj := cntJ_in (t := x) HOT.out.1 hPH.1 hPH.2.1 (by omega) hPH.2.2.2
              have hc0 := cntT_in hPH.1 hPH.2.1 (by omega) hPH.2.2.2 _ _ _ (fun z hz => HL.out z (List.mem_of_mem_take hz)) (Int.le_refl 0) (by decide) HC.out
              have hbn := belowN_nonneg (s := x.f0.f1) (u := P) p1
              have hqn := quo_le (H := H) p1 (by omega)
              have hjd : cntJ P H x = belowN x.f0.f0 x.f0.f1 P + H / x.f0.f0 := rfl
              obtain ⟨b0, hb0⟩ : ∃ b, belowN x.f0.f0 x.f0.f1 P = b := ⟨_, rfl⟩
              obtain ⟨q, hq⟩ : ∃ q, H / x.f0.f0 = q := ⟨_, rfl⟩
              rw [hb0, hq] at HCC hjd
              rw [hb0] at hbn
              rw [hq] at hqn
              obtain ⟨z, hz⟩ : ∃ z, b0 + q = z := ⟨_, rfl⟩
              rw [hz] at hjd
              rw [hjd] at hj
              obtain ⟨c2, hc2⟩ : ∃ y, c + z = y := ⟨_, rfl⟩
              have w1 : IntKind.i64.wrap (b0 + q) = z := by rw [IntKind.wrap_i64]; omega
              have w2 : IntKind.i64.wrap (c + z) = c2 := by rw [IntKind.wrap_i64]; omega
              have w3 : IntKind.i64.wrap ((k : Int) + 1) = (k : Int) + 1 := by rw [IntKind.wrap_i64]; have := HSZ.out; omega
              have HJD := Lib.hid hjd
              have HC2 := Lib.hid hc2
              have HBW : Hid (Below w.heap.size w (wr.alloc (.cells #[.int .i64 x.f0.f0, .int .i64 x.f0.f1, .int .i64 x.f1, .int .i64 x.f2, .int .i64 x.f3, .slice A5 x.f4.length c5, .int .i64 x.f5] 44))) := Lib.hid (HB.out.alloc (by omega) _)
              have HSW : Hid ((wr.alloc (.cells #[.int .i64 x.f0.f0, .int .i64 x.f0.f1, .int .i64 x.f1, .int .i64 x.f2, .int .i64 x.f3, .slice A5 x.f4.length c5, .int .i64 x.f5] 44)).heap[Bs]? = some (.cells #[.int .i64 P, .int .i64 H] 23)) := Lib.hid (by rw [heap_old' _ _ _ nS]; exact HS.out)
              have H4W : Hid ((wr.alloc (.cells #[.int .i64 x.f0.f0, .int .i64 x.f0.f1, .int .i64 x.f1, .int .i64 x.f2, .int .i64 x.f3, .slice A5 x.f4.length c5, .int .i64 x.f5] 44)).heap[w.heap.size]? = some (.cells #[.int .i64 0, .int .i64 0] 23)) := Lib.hid (by rw [heap_old' _ _ _ n4]; exact H4.out)
              clear p1 p2 t1 t2 hj hc0 hbn hqn hjd hb0 hq hz hc2 hk
              by_cases hbig : 1024 < c2
              · have d1 : decide (c2 > 1024) = true := decide_eq_true hbig
                have hres : ((0, 0, 4) : Int × Int × Int) = r := by
                  rw [← HRES.out]
                  have h1 : cntT P H l 0 = none := by
                    rw [HDR.out, cntT_append, HC.out]
                    simp only [Option.bind_some, cntT]
                    rw [if_pos (by rw [HJD.out, HC2.out]; exact hbig)]
                  unfold ofF
                  rw [if_pos rfl, HFT.out]
                  dsimp only
                  rw [if_neg (by rw [HT.out]; exact Int.not_lt.2 HBG.out), h1]
                clear hbig
                rw [hA]
                go_wp2_with fail
                refine HCC.out.mono ?_
                rintro e w4 ⟨rfl, hb⟩
                have HB5 := Lib.hid (HBW.out.trans (hb.mono (by simp; omega)))
                have H45 := Lib.hid ((hb.block _ (by simp; omega)).trans H4W.out)
                clear hb
                obtain ⟨u40, u41⟩ := cell_2 H45.out
                have uf4 := frozen_2 H45.out
                go_wp2_with fail
                have z4 := set_s1 (set_s0 H45.out (.int .i64 0)) (.int .i64 0)
                obtain ⟨z0, z1⟩ := cell_2 z4
                refine bodyPost_ret (v := .tuple #[.agg #[.int .i64 0, .int .i64 0], .int .i64 4]) (by simp [results, Try.results13, asAddr, go_sem, z0, z1]) rfl ?_
                exact ⟨by rw [← hres], below_set (below_set HB5.out (Nat.le_refl _)) (Nat.le_refl _)⟩
              · have d1 : decide (c2 > 1024) = false := decide_eq_false hbig
                have HBIG := Lib.hid hbig
                clear hbig
                rw [hA]
                go_wp2_with fail
                refine HCC.out.mono ?_
                rintro e w4 ⟨rfl, hb⟩
                have HB5 := Lib.hid (HBW.out.trans (hb.mono (by simp; omega)))
                have H45 := Lib.hid ((hb.block _ (by simp; omega)).trans H4W.out)
                have HS5 := Lib.hid ((hb.block _ (by simp; omega)).trans HSW.out)
                clear hb
                go_wp2_with fail
                go_roundw
                case rel => exact ⟨k + 1, c2, by omega, rfl, by simp, by rw [HX.out, cntT_append, HC.out]; simp only [Option.bind_some, cntT]; rw [HJD.out, HC2.out, if_neg (Int.not_lt.2 HBIG.out)], HS5.out, H45.out, HB5.out⟩
                case measure => simp [RowKit.intOf]; omega
            · obtain rfl : k = l.length := by omega
              have e1 : ¬ ((l.length : Int) < l.length) := by omega
              obtain ⟨q0, q1⟩ := cell_2 HS.out
              obtain ⟨q40, q41⟩ := cell_2 H4.out
              have qf4 := frozen_2 H4.out
              have hres : ((P, H, 0) : Int × Int × Int) = r := by
                rw [← HRES.out]
                have h1 := HC.out
                rw [List.take_length] at h1
                unfold ofF
                rw [if_pos rfl, HFT.out]
                dsimp only
                rw [if_neg (by rw [HT.out]; exact Int.not_lt.2 HBG.out), h1]
              clear hPH
              go_wp2_with fail
              have z4 := set_s1 (set_s0 H4.out (.int .i64 P)) (.int .i64 H)
              obtain ⟨z0, z1⟩ := cell_2 z4
              refine bodyPost_ret (v := .tuple #[.agg #[.int .i64 P, .int .i64 H], .int .i64 0]) (by simp [results, Try.results13, asAddr, go_sem, z0, z1]) rfl ?_
              exact ⟨by rw [← hres], below_set (below_set HB.out (Nat.le_refl _)) (Nat.le_refl _)⟩
end Go.Proofs.Ytkabmpbfabgkfaa
