/-
  The reference's Up: contract.
  Conditions: the rows lie in memory; the word may be.
-/
import Derived.Test.YtpcnapmlmhhcpaaGc
import Derived.WalkKit
import Derived.WalkSpells
import Derived.WalkLawsBesides
import Derived.Deep.QuietTactic
import Derived.BigQuiet
import Derived.Lib.Hide
import Derived.Handy
import Derived.Deep.AppendLies
import Derived.Maps.AppendAt
import Derived.OwnWalk
import Derived.Lib.LazyBuf
import Derived.Deep.DeepCutAuto
import Derived.Deep.RegionLaw
import Derived.Deep.RegionHeld3
import Derived.Deep.RegionWith
import Derived.BigRegion
import Derived.Deep.CutBlock
set_option linter.unusedVariables false
set_option linter.unusedSimpArgs false
namespace Go.Proofs.Ytpcnapmlmhhcpaa
open Go.RowKit 
open Big
attribute [local go_sem] setCell_drewN alloc_drewN size_ext ext_ext ext_drewN ext_drew drewN_ext drew_ext cell?_ext frozen?_ext setCell_ext cell?_past1 frozen?_past1 setCell_past1 cell?_past2 frozen?_past2 setCell_past2 cell?_past3 frozen?_past3 setCell_past3 cell?_past4 frozen?_past4 setCell_past4 cell?_past5 frozen?_past5 setCell_past5 cell?_past6 frozen?_past6 setCell_past6 cell?_past7 frozen?_past7 setCell_past7 cell?_past8 frozen?_past8 setCell_past8
attribute [local go_sem] min_ab max_ab

set_option maxRecDepth 100000 in
set_option maxHeartbeats 8000000 in
theorem rup_call (w : World) (vh vl : Value) (h l x y : List Int) (z : Int) (kk : Nat) (hk0 : 1 ≤ kk) (hkk : kk < 9223372036854775808) (h1 : RowAt w vh h) (h2 : RowAt w vl l) (hm : may h l = true) (hz : upOut (nH h l) (nL h l) kk = (x, y, z)) :
    Calls Try.prog 21 #[.agg #[vh, vl], .int .i64 (kk : Int)] w fun e w' => Below w.heap.size w w' ∧ ∃ p1 c1 p2 c2, e = .returned (.tuple #[.agg #[.slice p1 x.length c1, .slice p2 y.length c2], .int .i64 z]) ∧ RowAt w' (.slice p1 x.length c1) x ∧ RowAt w' (.slice p2 y.length c2) y := by
  obtain ⟨s1, s2, s3⟩ := may_sizes hm
  have wis := norm_is hm
  have HNE := Lib.hid (may_norm hm).1
  have HM := Lib.hid hm
  obtain ⟨H, hH⟩ : ∃ H, nH h l = H := ⟨_, rfl⟩
  obtain ⟨L, hL⟩ : ∃ L, nL h l = L := ⟨_, rfl⟩
  rw [hH, hL] at hz wis
  rw [hH] at s1
  rw [hL] at s2 s3
  replace hz := Lib.hid hz
  have R1 := Lib.hid h1
  have R2 := Lib.hid h2
  obtain ⟨ph, ch, rfl, _⟩ := h1
  obtain ⟨pl, cl, rfl, _⟩ := h2
  have HH := Lib.hid hH
  have HL := Lib.hid hL
  have WIS := Lib.hid wis
  clear hH hL wis hm
  obtain ⟨a, ha⟩ : ∃ a, a = H.length := ⟨_, rfl⟩
  obtain ⟨q, hq⟩ : ∃ q, q = L.length := ⟨_, rfl⟩
  rw [← ha] at s1
  rw [← hq] at s2 s3
  have HA := Lib.hid ha
  have HQ := Lib.hid hq
  clear ha hq
  obtain ⟨p, hp⟩ : ∃ p, p = h.length := ⟨_, rfl⟩
  obtain ⟨ql, hql⟩ : ∃ ql, ql = l.length := ⟨_, rfl⟩
  rw [← hp] at R1
  rw [← hql] at R2
  rw [← hp, ← hql]
  clear hp hql
  go_enter Try.func21, Try.ntmps21
  go_wp2_with fail
  obtain ⟨W0, hW⟩ : ∃ W0, W0 = (w.alloc (.cells #[.slice ph p ch, .slice pl ql cl] 24)).alloc (.cells #[.slice none 0 0, .slice none 0 0] 24) := ⟨_, rfl⟩
  rw [← hW]
  have hbW : Below w.heap.size w W0 := by
    rw [hW]
    repeat (first | (with_reducible exact Below.refl _ _) | (with_reducible assumption) | (with_reducible refine below_drewN ?_ _) | (with_reducible refine Below.drew ?_) | (with_reducible refine below_ext_of ?_ (by first | exact Nat.le_refl _ | assumption | (simp only [World.size_alloc, World.size_setCell, size_ext, World.heap_drewN]; omega)) _ _) | (with_reducible refine Below.alloc ?_ (by first | exact Nat.le_refl _ | assumption | (simp only [World.size_alloc, World.size_setCell, size_ext, World.heap_drewN]; omega)) _) | (with_reducible refine Below.setCell ?_ (by first | exact Nat.le_refl _ | assumption | (simp only [World.size_alloc, World.size_setCell, size_ext, World.heap_drewN]; omega)) _))
  obtain ⟨Bn, hBn⟩ : ∃ Bn, Bn = W0.heap.size := ⟨_, rfl⟩
  have hWz := congrArg (fun W0 => W0.heap.size) hW
  simp only [World.size_alloc] at hWz
  have hw1 : w.heap.size < Bn := by omega
  have hw2 : w.heap.size + 1 < Bn := by omega
  have hBW : Bn ≤ W0.heap.size := by omega
  clear hWz
  have hbx : W0.heap[w.heap.size]? = some (.cells #[.slice ph p ch, .slice pl ql cl] 24) := by
    rw [hW]
    repeat (rw [Below.heap_alloc _ _ _ (by simp only [World.size_alloc]; omega)])
    exact heap_alloc_new w _
  have hbr : W0.heap[w.heap.size + 1]? = some (.cells #[.slice none 0 0, .slice none 0 0] 24) := by
    rw [hW]
    have := heap_alloc_new (w.alloc (.cells #[.slice ph p ch, .slice pl ql cl] 24)) (.cells #[.slice none 0 0, .slice none 0 0] 24)
    rwa [World.size_alloc] at this
  have HBW0 := Lib.hid hbW
  have HBX0 := Lib.hid hbx
  have HBR0 := Lib.hid hbr
  clear hW hbW hbx hbr hBn
  refine (rnorm_call _ _ _ h l H L (R1.out.below HBW0.out) (R2.out.below HBW0.out) HM.out HH.out HL.out).mono ?_
  rintro e w2 ⟨hb, p1, c1, p2, c2, rfl, r1, r2⟩
  rw [← HA.out] at r1 ⊢
  rw [← HQ.out] at r2 ⊢
  have hw1' : w.heap.size < w2.heap.size := Nat.lt_of_lt_of_le (Nat.lt_of_lt_of_le hw1 hBW) hb.size
  have hw2' : w.heap.size + 1 < w2.heap.size := Nat.lt_of_lt_of_le (Nat.lt_of_lt_of_le hw2 hBW) hb.size
  have hbx2 := (hb.block _ (Nat.lt_of_lt_of_le hw1 hBW)).trans HBX0.out
  have hbr2 := (hb.block _ (Nat.lt_of_lt_of_le hw2 hBW)).trans HBR0.out
  have HB0 := Lib.hid (HBW0.out.trans (hb.mono HBW0.out.size))
  have hset := set_word0 hbx2 (.slice p1 a c1)
  have HSET := Lib.hid (set_word1 hset (.slice p2 q c2))
  have HRA := Lib.hid ((r1.put hbx2 0 (.slice p1 a c1)).put hset 1 (.slice p2 q c2))
  have HRB := Lib.hid ((r2.put hbx2 0 (.slice p1 a c1)).put hset 1 (.slice p2 q c2))
  obtain ⟨x0, x1⟩ := cell_of hbx2
  have xf := frozen_of hbx2
  have HBR2 := Lib.hid hbr2
  clear hb hbr2 hbx2 r1 r2 hset hw1 hw2 hBW HBX0 HBR0 HBW0
  go_upto_region 2 with (fail)
  obtain ⟨W, hW⟩ : ∃ W, W = (w2.setCell ⟨w.heap.size, 0, none⟩ (.slice p1 a c1)).setCell ⟨w.heap.size, 1, none⟩ (.slice p2 q c2) := ⟨_, rfl⟩
  rw [← hW] at HSET HRA HRB ⊢
  have HBW : Hid (Below w.heap.size w W) := Lib.hid (by
    rw [hW]
    exact (HB0.out.setCell (Nat.le_refl _) _).setCell (Nat.le_refl _) _)
  have hWz : W.heap.size = w2.heap.size := by rw [hW, World.size_setCell, World.size_setCell]
  have HBR : Hid (W.heap[w.heap.size + 1]? = some (.cells #[.slice none 0 0, .slice none 0 0] 24)) := Lib.hid (by
    rw [hW]
    simp only [World.setCell, Array.getElem?_modify]
    rw [if_neg (by omega), if_neg (by omega)]
    exact HBR2.out)
  obtain ⟨Bn, hBn⟩ : ∃ Bn, Bn = W.heap.size := ⟨_, rfl⟩
  have hw1 : w.heap.size < Bn := by omega
  have hw2 : w.heap.size + 1 < Bn := by omega
  have hBW : Bn ≤ W.heap.size := by omega
  have hwW : w.heap.size < W.heap.size := by omega
  have hBe : W.heap.size ≤ Bn := by omega
  have HBX := HSET
  clear hW hWz x0 x1 xf HB0 HBR2 hBn HSET hw1' hw2'
  obtain ⟨x0, x1⟩ := cell_of HBX.out
  by_cases hone : a = 0 ∧ q = 1
  · obtain ⟨ha0, hq1⟩ := hone
    have b1 : ((q : Int) == 1) = true := by rw [hq1]; rfl
    have b2 : ((a : Int) == 0) = true := by rw [ha0]; rfl
    have hzz := (up_one (k := kk) ⟨by rw [← HA.out]; exact ha0, by rw [← HQ.out]; exact hq1⟩).symm.trans hz.out
    injection hzz with e1 e2
    injection e2 with e2 e3
    subst e1 e2 e3
    obtain ⟨x4, x5⟩ := cell_of HBR.out
    have xf := frozen_of HBR.out
    have hz2 : w.heap.size + 1 < W.heap.size := by omega
    clear ha0 hq1 hz
    go_wp2_with fail
    have g1 := set_word0 HBR.out (.slice p1 a c1)
    refine bodyPost_ret (v := .tuple #[.agg #[.slice p1 a c1, .slice p2 q c2], .int .i64 0]) (by simp [results, Try.results21, go_sem, x4, x5, hz2]) rfl ⟨?_, p1, c1, p2, c2, by rw [HA.out, HQ.out], ?_, ?_⟩
    · exact (HBW.out.setCell (Nat.le_succ _) _).setCell (Nat.le_succ _) _
    · rw [← HA.out]; exact (HRA.out.put HBR.out 0 _).put g1 1 _
    · rw [← HQ.out]; exact (HRB.out.put HBR.out 0 _).put g1 1 _
  have hno : ¬ (H.length = 0 ∧ L.length = 1) := by rw [← HA.out, ← HQ.out]; exact hone
  have HNO := Lib.hid hno
  go_cut [21] (fun s21 wc => s21 = .bool false ∧ W = wc)
  case first =>
    by_cases hq1 : q = 1
    · have b1 : ((q : Int) == 1) = true := by rw [hq1]; rfl
      have b2 : ((a : Int) == 0) = false := beq_false_of_ne (by omega)
      clear hq1 hone hno
      go_wp2_with fail
      go_meet
      case rel => exact ⟨rfl, rfl⟩
    · have b1 : ((q : Int) == 1) = false := beq_false_of_ne (by omega)
      clear hq1 hone hno
      go_wp2_with fail
      go_meet
      case rel => exact ⟨rfl, rfl⟩
  case rest =>
  obtain ⟨rfl, rfl⟩ := hcut
  clear hone hno
  by_cases hk4 : 4096 < kk
  · have b1 : (4096 : Int) < kk := by omega
    have b2 : decide ((kk : Int) > 4096) = true := decide_eq_true b1
    have hlong := up_long (k := kk) HNO.out (.inl hk4)
    obtain ⟨rfl, rfl, rfl⟩ : x = [] ∧ y = [] ∧ z = 4 := by
      rw [hz.out] at hlong
      injection hlong with a b
      injection b with b c
      exact ⟨a, b, c⟩
    clear hlong
    obtain ⟨x4, x5⟩ := cell_of HBR.out
    have xf := frozen_of HBR.out
    have hz2 : w.heap.size + 1 < W.heap.size := by omega
    go_wp2_with fail
    refine bodyPost_ret (v := .tuple #[.agg #[.slice none 0 0, .slice none 0 0], .int .i64 4]) (by simp [results, Try.results21, go_sem, x4, x5, hz2]) rfl ⟨?_, none, 0, none, 0, rfl, RowAt.nil _, RowAt.nil _⟩
    repeat (first | (with_reducible exact Below.refl _ _) | (with_reducible assumption) | (with_reducible refine below_drewN ?_ _) | (with_reducible refine Below.drew ?_) | (with_reducible refine below_ext_of ?_ (by first | exact Nat.le_refl _ | assumption | (simp only [World.size_alloc, World.size_setCell, size_ext, World.heap_drewN]; omega)) _ _) | (with_reducible refine Below.alloc ?_ (by first | exact Nat.le_refl _ | assumption | (simp only [World.size_alloc, World.size_setCell, size_ext, World.heap_drewN]; omega)) _) | (with_reducible refine Below.setCell ?_ (by first | exact Nat.le_refl _ | assumption | (simp only [World.size_alloc, World.size_setCell, size_ext, World.heap_drewN]; omega)) _))
    exact HBW.out
  have b1 : ¬ ((4096 : Int) < kk) := by omega
  have b2 : decide ((kk : Int) > 4096) = false := decide_eq_false b1
  obtain ⟨hh, hhh⟩ : ∃ hh, hh = a * kk := ⟨_, rfl⟩
  obtain ⟨qk, hqk⟩ : ∃ qk, qk = q * kk := ⟨_, rfl⟩
  have hhb : hh ≤ 4096 * 4096 := by rw [hhh]; exact Nat.mul_le_mul s1 (by omega)
  have hqb : qk ≤ 4096 * 4096 := by rw [hqk]; exact Nat.mul_le_mul s3 (by omega)
  have hq0 : 1 ≤ qk := by rw [hqk]; exact Nat.mul_pos s2 hk0
  have m1 : ((a : Int) * (kk : Int)) = (hh : Int) := by rw [hhh]; exact (Int.natCast_mul a kk).symm
  have m2 : IntKind.i64.wrap ((a : Int) * (kk : Int)) = (hh : Int) := by rw [m1, IntKind.wrap_i64]; omega
  have m3 : ((q : Int) * (kk : Int)) = (qk : Int) := by rw [hqk]; exact (Int.natCast_mul q kk).symm
  have m4 : IntKind.i64.wrap ((q : Int) * (kk : Int)) = (qk : Int) := by rw [m3, IntKind.wrap_i64]; omega
  obtain ⟨q2, hq2⟩ : ∃ q2, q2 = 2 * qk := ⟨_, rfl⟩
  obtain ⟨n, hn⟩ : ∃ n, n = hh + q2 := ⟨_, rfl⟩
  have e1 : ((2 : Int) * (qk : Int)) = (q2 : Int) := by omega
  have e2 : IntKind.i64.wrap ((2 : Int) * (qk : Int)) = (q2 : Int) := by rw [IntKind.wrap_i64]; omega
  have e3 : ((hh : Int) + (q2 : Int)) = (n : Int) := by omega
  have e4 : IntKind.i64.wrap ((hh : Int) + (q2 : Int)) = (n : Int) := by rw [IntKind.wrap_i64]; omega
  have HN : Hid (n = hh + 2 * qk) := Lib.hid (by omega)
  have HHH := Lib.hid hhh
  have HQK := Lib.hid hqk
  by_cases hbig : 1048576 < n
  · have b3 : (1048576 : Int) < n := by omega
    have b4 : decide ((n : Int) > 1048576) = true := decide_eq_true b3
    have hlong := up_long (k := kk) HNO.out (.inr (by rw [← HA.out, ← HQ.out, ← hhh, ← hqk]; omega))
    clear hhh hqk hq2 hn
    obtain ⟨rfl, rfl, rfl⟩ : x = [] ∧ y = [] ∧ z = 4 := by
      rw [hz.out] at hlong
      injection hlong with a b
      injection b with b c
      exact ⟨a, b, c⟩
    clear hlong
    obtain ⟨x4, x5⟩ := cell_of HBR.out
    have xf := frozen_of HBR.out
    have hz2 : w.heap.size + 1 < W.heap.size := by omega
    go_wp2_with fail
    refine bodyPost_ret (v := .tuple #[.agg #[.slice none 0 0, .slice none 0 0], .int .i64 4]) (by simp [results, Try.results21, go_sem, x4, x5, hz2]) rfl ⟨?_, none, 0, none, 0, rfl, RowAt.nil _, RowAt.nil _⟩
    repeat (first | (with_reducible exact Below.refl _ _) | (with_reducible assumption) | (with_reducible refine below_drewN ?_ _) | (with_reducible refine Below.drew ?_) | (with_reducible refine below_ext_of ?_ (by first | exact Nat.le_refl _ | assumption | (simp only [World.size_alloc, World.size_setCell, size_ext, World.heap_drewN]; omega)) _ _) | (with_reducible refine Below.alloc ?_ (by first | exact Nat.le_refl _ | assumption | (simp only [World.size_alloc, World.size_setCell, size_ext, World.heap_drewN]; omega)) _) | (with_reducible refine Below.setCell ?_ (by first | exact Nat.le_refl _ | assumption | (simp only [World.size_alloc, World.size_setCell, size_ext, World.heap_drewN]; omega)) _))
    exact HBW.out
  have b3 : ¬ ((1048576 : Int) < n) := by omega
  have b4 : decide ((n : Int) > 1048576) = false := decide_eq_false b3
  have hos : outS (fun i => Go.Proofs.Ytpcnapmlmhhcpaa.num H L (i / kk)) hh qk = (x, y, z) := by
    have := up_outS WIS.out hk0 HNO.out (by omega)
    rw [← HA.out, ← HQ.out, ← hhh, ← hqk] at this
    exact this.trans hz.out
  have hper : Per (fun i => Go.Proofs.Ytpcnapmlmhhcpaa.num H L (i / kk)) hh qk := by
    have := up_per (h := H) (l := L) (k := kk) hk0
    rwa [← HA.out, ← HQ.out, ← hhh, ← hqk] at this
  obtain ⟨s, hs⟩ : ∃ s, s = fun i => Go.Proofs.Ytpcnapmlmhhcpaa.num H L (i / kk) := ⟨_, rfl⟩
  have HS : Hid (∀ i, Go.Proofs.Ytpcnapmlmhhcpaa.num H L (i / kk) = s i) := Lib.hid (fun i => by rw [hs])
  rw [← hs] at hos hper
  have HOS := Lib.hid hos
  have HPER := Lib.hid hper
  clear hs hos hper hhh hqk hq2 hn
  go_wp2_with fail
  go_loopw [8, 9] (fun i3 i4 wr => ∃ (k : Nat) (V : World), i4 = .int .i64 (k : Int) ∧ k ≤ n ∧ V = wr ∧ Hid (Fresh V Bn i3 (tab s k)) ∧ Hid (Below Bn W V)) (fun _ i4 _ => n - (intOf i4).toNat)
  case atStart => exact ⟨0, _, rfl, Nat.zero_le _, rfl, Lib.hid (Fresh.nil _ _), Lib.hid (Below.refl _ _)⟩
  case round =>
  obtain ⟨k, V, rfl, hkn, rfl, hfr, hbv⟩ := hrel
  have hVs := hbv.out.size
  obtain ⟨v0, v1⟩ := cell_of ((hbv.out.block _ hw1).trans HBX.out)
  have hBV : Bn ≤ V.heap.size := Nat.le_trans hBW hVs
  have hv1 : w.heap.size < V.heap.size := by omega
  have hv2 : w.heap.size + 1 < V.heap.size := by omega
  by_cases hlt : k < n
  · have a1 : (k : Int) < n := by omega
    have a2 := decide_eq_true a1
    have a3 : IntKind.i64.wrap ((k : Int) + 1) = (k : Int) + 1 := by rw [IntKind.wrap_i64]; omega
    obtain ⟨j, hj⟩ : ∃ j, j = k / kk := ⟨_, rfl⟩
    have hjk : j ≤ k := by rw [hj]; exact Nat.div_le_self _ _
    have a4 : Int.tdiv (k : Int) (kk : Int) = (j : Int) := by rw [hj]; rfl
    have a5 : ((k : Int) / (kk : Int)) = (j : Int) := by rw [hj]; rfl
    have a6 : IntKind.i64.wrap (j : Int) = (j : Int) := by rw [IntKind.wrap_i64]; omega
    have a7 : ¬ ((kk : Int) = 0) := by omega
    have a8 : ¬ (kk = 0) := by omega
    have HSK : Hid (Go.Proofs.Ytpcnapmlmhhcpaa.num H L j = s k) := Lib.hid (by rw [hj]; exact HS.out k)
    have RV1 := Lib.hid (HRA.out.below (hbv.out.mono hBe))
    have RV2 := Lib.hid (HRB.out.below (hbv.out.mono hBe))
    clear hj
    go_upto_region 14 with (fail)
    refine wp_region_held_drew (S := (fun W' => W'.cell? ⟨w.heap.size, 0, none⟩ = some (.slice p1 a c1) ∧ W'.cell? ⟨w.heap.size, 1, none⟩ = some (.slice p2 q c2))) (by kernel_rfl) ?hS1 (fun hHeld => ?go1)
    case hS1 =>
      (try dsimp only)
      try go_simp
    case go1 =>
    refine' wpAnyH_take (i := 0) (oi := ⟨_, _, _, _, _, _⟩) (v := ?v2) rfl (by kernel_rfl) (by kernel_rfl) (by kernel_rfl) (fun _ _ _ h => h) (Or.inl ⟨by rfl, ?hy2⟩) (by assumption) ?rest2
    case hy2 =>
      intro w hSw
      (try dsimp only at hSw)
      go_simp
      try (with_reducible rfl)
    case rest2 =>
    (try simp only [Act.put, List.setIfInBounds_toArray, List.set_cons_zero, List.set_cons_succ])
    refine' wpAnyH_take (i := 1) (oi := ⟨_, _, _, _, _, _⟩) (v := ?v3) rfl (by kernel_rfl) (by kernel_rfl) (by kernel_rfl) (fun _ _ _ h => h) (Or.inl ⟨by rfl, ?hy3⟩) (by assumption) ?rest3
    case hy3 =>
      intro w hSw
      (try dsimp only at hSw)
      go_simp
      try (with_reducible rfl)
    case rest3 =>
    (try simp only [Act.put, List.setIfInBounds_toArray, List.set_cons_zero, List.set_cons_succ])
    refine' wpAnyH_take (i := 2) (oi := ⟨_, _, _, _, _, _⟩) (v := ?v4) rfl (by kernel_rfl) (by kernel_rfl) (by kernel_rfl) (fun _ _ _ h => h) (Or.inl ⟨by rfl, ?hy4⟩) (by assumption) ?rest4
    case hy4 =>
      intro w hSw
      (try dsimp only at hSw)
      go_simp
      try (with_reducible rfl)
    case rest4 =>
    (try simp only [Act.put, List.setIfInBounds_toArray, List.set_cons_zero, List.set_cons_succ])
    refine' wpAnyH_take (i := 3) (oi := ⟨_, _, _, _, _, _⟩) (v := ?v5) rfl (by kernel_rfl) (by kernel_rfl) (by kernel_rfl) (fun _ _ _ h => h) (Or.inl ⟨by rfl, ?hy5⟩) (by assumption) ?rest5
    case hy5 =>
      intro w hSw
      (try dsimp only at hSw)
      go_simp
      try (with_reducible rfl)
    case rest5 =>
    (try simp only [Act.put, List.setIfInBounds_toArray, List.set_cons_zero, List.set_cons_succ])
    refine' wpAnyH_take (i := 4) (oi := ⟨_, _, _, _, _, _⟩) (v := ?v6) rfl (by kernel_rfl) (by kernel_rfl) (by kernel_rfl) (fun _ _ _ h => h) (Or.inl ⟨by rfl, ?hy6⟩) (by assumption) ?rest6
    case hy6 =>
      intro w hSw
      (try dsimp only at hSw)
      go_simp
      try (with_reducible rfl)
    case rest6 =>
    (try simp only [Act.put, List.setIfInBounds_toArray, List.set_cons_zero, List.set_cons_succ])
    refine wpAnyH_ready (rs := [5]) (by kernel_rfl) (by simp) ?_
    refine AllReadyH.cons (o := ⟨_, _, _, _, _, _⟩) rfl (fun K hK => ?_) AllReadyH.nil
    go_simp
    (go_at_call 34; refine (rat_any _ _ _ H L j (RV1.out.below (by repeat (first | (with_reducible exact Below.refl _ _) | (with_reducible assumption) | (with_reducible refine below_drewN ?_ _) | (with_reducible refine Below.drew ?_) | (with_reducible refine below_ext_of ?_ (by first | exact Nat.le_refl _ | assumption | (simp only [World.size_alloc, World.size_setCell, size_ext, World.heap_drewN]; omega)) _ _) | (with_reducible refine Below.alloc ?_ (by first | exact Nat.le_refl _ | assumption | (simp only [World.size_alloc, World.size_setCell, size_ext, World.heap_drewN]; omega)) _) | (with_reducible refine Below.setCell ?_ (by first | exact Nat.le_refl _ | assumption | (simp only [World.size_alloc, World.size_setCell, size_ext, World.heap_drewN]; omega)) _)))) (RV2.out.below (by repeat (first | (with_reducible exact Below.refl _ _) | (with_reducible assumption) | (with_reducible refine below_drewN ?_ _) | (with_reducible refine Below.drew ?_) | (with_reducible refine below_ext_of ?_ (by first | exact Nat.le_refl _ | assumption | (simp only [World.size_alloc, World.size_setCell, size_ext, World.heap_drewN]; omega)) _ _) | (with_reducible refine Below.alloc ?_ (by first | exact Nat.le_refl _ | assumption | (simp only [World.size_alloc, World.size_setCell, size_ext, World.heap_drewN]; omega)) _) | (with_reducible refine Below.setCell ?_ (by first | exact Nat.le_refl _ | assumption | (simp only [World.size_alloc, World.size_setCell, size_ext, World.heap_drewN]; omega)) _)))) (by rw [← HQ.out]; exact s2) (by omega) (by rw [← HA.out]; omega)).mono ?_; rintro e w1 ⟨rfl, hb⟩; obtain ⟨X, d, rfl⟩ := below_ext hb; clear hb; rw [HSK.out]; go_simp)
    refine hK.out _ _ ?hS7 (fun hHeld2 => ?go7)
    case hS7 =>
      (try dsimp only)
      try go_simp
    case go7 =>
    clear hK K
    clear hHeld
    have hHeld := hHeld2
    clear hHeld2
    (try simp only [Act.put, List.setIfInBounds_toArray, List.set_cons_zero, List.set_cons_succ])
    refine wpAnyH_ready (rs := [6]) (by kernel_rfl) (by simp) ?_
    refine AllReadyH.cons (o := ⟨_, _, _, _, _, _⟩) rfl (fun K hK => ?_) AllReadyH.nil
    go_simp
    skip
    refine hK.out _ _ ?hS8 (fun hHeld2 => ?go8)
    case hS8 =>
      (try dsimp only)
      try go_simp
    case go8 =>
    clear hK K
    clear hHeld
    have hHeld := hHeld2
    clear hHeld2
    (try simp only [Act.put, List.setIfInBounds_toArray, List.set_cons_zero, List.set_cons_succ])
    refine wpAnyH_ready (rs := [7]) (by kernel_rfl) (by simp) ?_
    refine AllReadyH.cons (o := ⟨_, _, _, _, _, _⟩) rfl (fun K hK => ?_) AllReadyH.nil
    have hF2 := (hfr.out.below (ext_below V X d)).below (w' := (ext V X d).alloc (.cells #[.int .i64 (s k)] 2)) ((Below.refl _ _).alloc (Nat.le_refl _) _)
    have hB2 : Below Bn W ((ext V X d).alloc (.cells #[.int .i64 (s k)] 2)) := (below_ext_of hbv.out hBV X d).alloc (le_ext _ _ _ _ hBV) _
    refine step_append_more (by kernel_rfl) _ _ (by rfl) Bn u8 (tab s k) [s k] (some ⟨V.heap.size + X.size, 0, none⟩) 1 1 (by rfl) (by rfl) hF2 (by have := (fresh_one (ext V X d) (s k)).row; rwa [size_ext] at this) (by rw [tab_length]; simp; omega) (Nat.le_trans hBW hB2.size) ?_
    intro v' w' hf hgrow
    rw [← tab_succ] at hf
    have hbn := Lib.hid (hB2.grown hgrow (Nat.le_trans hBW hB2.size) (fun j hj => (hF2.ge j hj).1))
    have hfn := Lib.hid hf
    have z0 := (hbn.out.cell (p := ⟨w.heap.size, 0, none⟩) hw1).trans x0
    have z1 := (hbn.out.cell (p := ⟨w.heap.size, 1, none⟩) hw1).trans x1
    clear hf hgrow hF2 hB2
    refine hK.out _ _ ?hS9 (fun hHeld2 => ?go9)
    case hS9 =>
      (try dsimp only)
      try go_simp
    case go9 =>
    clear hK K
    clear hHeld
    have hHeld := hHeld2
    clear hHeld2
    (try simp only [Act.put, List.setIfInBounds_toArray, List.set_cons_zero, List.set_cons_succ])
    refine' wpAnyH_take (i := 8) (oi := ⟨_, _, _, _, _, _⟩) (v := ?v10) rfl (by kernel_rfl) (by kernel_rfl) (by kernel_rfl) (fun _ _ _ h => h) (Or.inl ⟨by rfl, ?hy10⟩) (by assumption) ?rest10
    case hy10 =>
      intro w hSw
      (try dsimp only at hSw)
      go_simp
      try (with_reducible rfl)
    case rest10 =>
    (try simp only [Act.put, List.setIfInBounds_toArray, List.set_cons_zero, List.set_cons_succ])
    refine wpAnyH_done (by kernel_rfl) ?_ _
    go_wp2_with fail
    go_roundw
    case measure =>
      simp only [intOf, Int.toNat_natCast]
      omega
    case rel => exact ⟨k + 1, w', by go_num, by omega, rfl, hfn, hbn⟩
  · have hk : k = n := by omega
    subst hk
    have a1 : ¬ ((k : Int) < k) := by omega
    have a2 := decide_eq_false a1
    have hrow : Hid (RowAt V u8 (tab s k)) := Lib.hid hfr.out.row
    go_wp2_with fail
    refine (rshort_call _ u8 s hh qk (k) x y z HN.out hrow.out hq0 HPER.out (by omega) (by omega) HOS.out).mono ?_
    rintro e w2 ⟨hb, p1, c1, p2, c2, rfl, r1, r2⟩
    have hbr2 := (hb.block _ hv2).trans ((hbv.out.block _ hw2).trans HBR.out)
    obtain ⟨x4, x5⟩ := cell_of hbr2
    have xf := frozen_of hbr2
    have HBR2 := Lib.hid hbr2
    have HR1 := Lib.hid r1
    have HR2 := Lib.hid r2
    have hz2 : w.heap.size + 1 < w2.heap.size := Nat.lt_of_lt_of_le hv2 hb.size
    have HB2 := Lib.hid (HBW.out.trans ((hbv.out.trans (hb.mono hBV)).mono (Nat.le_of_lt hw1)))
    clear hb hbr2 r1 r2 hrow
    go_wp2_with fail
    have g1 := set_word0 HBR2.out (.slice p1 x.length c1)
    refine bodyPost_ret (v := .tuple #[.agg #[.slice p1 x.length c1, .slice p2 y.length c2], .int .i64 z]) (by simp [results, Try.results21, go_sem, x4, x5, hz2]) rfl ⟨?_, p1, c1, p2, c2, rfl, ?_, ?_⟩
    · exact (HB2.out.setCell (Nat.le_succ _) _).setCell (Nat.le_succ _) _
    · exact (HR1.out.put HBR2.out 0 _).put g1 1 _
    · exact (HR2.out.put HBR2.out 0 _).put g1 1 _
end Go.Proofs.Ytpcnapmlmhhcpaa
