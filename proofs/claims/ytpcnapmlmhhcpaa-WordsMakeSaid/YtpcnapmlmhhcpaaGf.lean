/-
  The reference's Zip: contract.
  Conditions: the rows lie in memory; the words may be; at most 200 numbers each.
-/
import Derived.Test.YtpcnapmlmhhcpaaGc
import Derived.Test.YtpcnapmlmhhcpaaRe
import Derived.Test.YtpcnapmlmhhcpaaCc
import Derived.WalkKit
import Derived.WalkSpells
import Derived.WalkLawsBesides
import Derived.Deep.QuietTactic
import Derived.BigQuiet
import Derived.Lib.Hide
import Derived.Handy
import Derived.Deep.AppendLies
import Derived.Maps.AppendAt
import Derived.OwnWalk
import Derived.Lib.LazyBuf
import Derived.Deep.DeepCutAuto
import Derived.Deep.RegionLaw
import Derived.Deep.RegionHeld3
import Derived.Deep.RegionWith
import Derived.BigRegion
import Derived.Deep.CutBlock
set_option linter.unusedVariables false
set_option linter.unusedSimpArgs false
namespace Go.Proofs.Ytpcnapmlmhhcpaa
open Go.RowKit 
open Big
attribute [local go_sem] setCell_drewN alloc_drewN size_ext ext_ext ext_drewN ext_drew drewN_ext drew_ext cell?_ext frozen?_ext setCell_ext cell?_past1 frozen?_past1 setCell_past1 cell?_past2 frozen?_past2 setCell_past2 cell?_past3 frozen?_past3 setCell_past3 cell?_past4 frozen?_past4 setCell_past4 cell?_past5 frozen?_past5 setCell_past5 cell?_past6 frozen?_past6 setCell_past6 cell?_past7 frozen?_past7 setCell_past7 cell?_past8 frozen?_past8 setCell_past8
attribute [local go_sem] min_ab max_ab

theorem set_other {W : World} {b c i : Nat} {v : Value} (h : b ≠ c) : (W.setCell ⟨b, i, none⟩ v).heap[c]? = W.heap[c]? := by
  simp only [World.setCell, Array.getElem?_modify]
  rw [if_neg h]
set_option maxRecDepth 100000 in
set_option maxHeartbeats 16000000 in
theorem rzip_call (w : World) (op : Nat) (hop : op = 1 ∨ op = 2 ∨ op = 3 ∨ op = 4) (va vb vc vd : Value) (a b c d x y : List Int) (z : Int) (h1 : RowAt w va a) (h2 : RowAt w vb b) (h3 : RowAt w vc c) (h4 : RowAt w vd d) (m1 : may a b = true) (m2 : may c d = true)
    (ha : a.length ≤ 200) (hb : b.length ≤ 200) (hc : c.length ≤ 200) (hd : d.length ≤ 200) (i1 : in64W a b) (i2 : in64W c d) (hz : zipOut op (nH a b) (nL a b) (nH c d) (nL c d) = (x, y, z)) :
    Calls Try.prog 23 #[.int .u8 (op : Int), .agg #[va, vb], .agg #[vc, vd]] w fun e w' => Below w.heap.size w w' ∧ ∃ p1 c1 p2 c2, e = .returned (.tuple #[.agg #[.slice p1 x.length c1, .slice p2 y.length c2], .int .i64 z]) ∧ RowAt w' (.slice p1 x.length c1) x ∧ RowAt w' (.slice p2 y.length c2) y := by
  obtain ⟨t1, t2, t3⟩ := may_sizes m1
  obtain ⟨t4, t5, t6⟩ := may_sizes m2
  have la := Nat.le_trans (nH_len m1) ha
  have lb := Nat.le_trans (nL_len m1) hb
  have lc := Nat.le_trans (nH_len m2) hc
  have ld := Nat.le_trans (nL_len m2) hd
  have I1 := Lib.hid i1
  have I2 := Lib.hid i2
  unfold in64W at I1 I2
  obtain ⟨H1, e1⟩ : ∃ H, nH a b = H := ⟨_, rfl⟩
  obtain ⟨L1, e2⟩ : ∃ H, nL a b = H := ⟨_, rfl⟩
  obtain ⟨H2, e3⟩ : ∃ H, nH c d = H := ⟨_, rfl⟩
  obtain ⟨L2, e4⟩ : ∃ H, nL c d = H := ⟨_, rfl⟩
  rw [e1, e2] at I1
  rw [e3, e4] at I2
  rw [e1, e2, e3, e4] at hz
  rw [e1] at la
  rw [e2] at lb t2
  rw [e3] at lc
  rw [e4] at ld t5
  have E1 := Lib.hid e1
  have E2 := Lib.hid e2
  have E3 := Lib.hid e3
  have E4 := Lib.hid e4
  have HZ := Lib.hid hz
  have M1 := Lib.hid m1
  have M2 := Lib.hid m2
  have RA := Lib.hid h1
  have RB := Lib.hid h2
  have RC := Lib.hid h3
  have RD := Lib.hid h4
  obtain ⟨pa, ca, rfl, _⟩ := h1
  obtain ⟨pb, cb, rfl, _⟩ := h2
  obtain ⟨pc, cc, rfl, _⟩ := h3
  obtain ⟨pd, cd, rfl, _⟩ := h4
  obtain ⟨a1, ha1⟩ : ∃ a1, a1 = H1.length := ⟨_, rfl⟩
  obtain ⟨q1, hq1⟩ : ∃ q1, q1 = L1.length := ⟨_, rfl⟩
  obtain ⟨a2, ha2⟩ : ∃ a2, a2 = H2.length := ⟨_, rfl⟩
  obtain ⟨q2, hq2⟩ : ∃ q2, q2 = L2.length := ⟨_, rfl⟩
  rw [← ha1] at la
  rw [← hq1] at lb t2
  rw [← ha2] at lc
  rw [← hq2] at ld t5
  have z1 : 0 < q1 := t2
  have z2 : 0 < q2 := t5
  have HA1 := Lib.hid ha1
  have HQ1 := Lib.hid hq1
  have HA2 := Lib.hid ha2
  have HQ2 := Lib.hid hq2
  have HOP := Lib.hid hop
  obtain ⟨n1, hn1⟩ : ∃ n, n = a.length := ⟨_, rfl⟩
  obtain ⟨n2, hn2⟩ : ∃ n, n = b.length := ⟨_, rfl⟩
  obtain ⟨n3, hn3⟩ : ∃ n, n = c.length := ⟨_, rfl⟩
  obtain ⟨n4, hn4⟩ : ∃ n, n = d.length := ⟨_, rfl⟩
  rw [← hn1] at RA
  rw [← hn2] at RB
  rw [← hn3] at RC
  rw [← hn4] at RD
  rw [← hn1, ← hn2, ← hn3, ← hn4]
  clear i1 i2 e1 e2 e3 e4 hz m1 m2 ha1 hq1 ha2 hq2 hop hn1 hn2 hn3 hn4 ha hb hc hd t1 t2 t3 t4 t5 t6
  rename_i g1 g2 g3 g4
  clear g1 g2 g3 g4
  go_enter Try.func23, Try.ntmps23
  go_wp2_with fail
  obtain ⟨W0, hW⟩ : ∃ W0, W0 = ((w.alloc (.cells #[.slice pa n1 ca, .slice pb n2 cb] 24)).alloc (.cells #[.slice pc n3 cc, .slice pd n4 cd] 24)).alloc (.cells #[.slice none 0 0, .slice none 0 0] 24) := ⟨_, rfl⟩
  rw [← hW]
  have hb0 : Below w.heap.size w W0 := by
    rw [hW]
    repeat (first | (with_reducible exact Below.refl _ _) | (with_reducible assumption) | (with_reducible refine below_drewN ?_ _) | (with_reducible refine Below.drew ?_) | (with_reducible refine below_ext_of ?_ (by first | exact Nat.le_refl _ | assumption | (simp only [World.size_alloc, World.size_setCell, size_ext, World.heap_drewN]; omega)) _ _) | (with_reducible refine Below.alloc ?_ (by first | exact Nat.le_refl _ | assumption | (simp only [World.size_alloc, World.size_setCell, size_ext, World.heap_drewN]; omega)) _) | (with_reducible refine Below.setCell ?_ (by first | exact Nat.le_refl _ | assumption | (simp only [World.size_alloc, World.size_setCell, size_ext, World.heap_drewN]; omega)) _))
  have hs0 := congrArg (fun W => W.heap.size) hW
  simp only [World.size_alloc] at hs0
  have k0 : W0.heap[w.heap.size]? = some (.cells #[.slice pa n1 ca, .slice pb n2 cb] 24) := by
    rw [hW, Below.heap_alloc _ _ _ (by simp only [World.size_alloc]; omega), Below.heap_alloc _ _ _ (by simp only [World.size_alloc]; omega)]
    exact heap_alloc_new w _
  have k1 : W0.heap[w.heap.size + 1]? = some (.cells #[.slice pc n3 cc, .slice pd n4 cd] 24) := by
    rw [hW, Below.heap_alloc _ _ _ (by simp only [World.size_alloc]; omega)]
    have := heap_alloc_new (w.alloc (.cells #[.slice pa n1 ca, .slice pb n2 cb] 24)) (.cells #[.slice pc n3 cc, .slice pd n4 cd] 24)
    rwa [World.size_alloc] at this
  have k2 : W0.heap[w.heap.size + 1 + 1]? = some (.cells #[.slice none 0 0, .slice none 0 0] 24) := by
    rw [hW]
    have := heap_alloc_new ((w.alloc (.cells #[.slice pa n1 ca, .slice pb n2 cb] 24)).alloc (.cells #[.slice pc n3 cc, .slice pd n4 cd] 24)) (.cells #[.slice none 0 0, .slice none 0 0] 24)
    rwa [World.size_alloc, World.size_alloc] at this
  have HB0 := Lib.hid hb0
  have K0 := Lib.hid k0
  have K1 := Lib.hid k1
  have K2 := Lib.hid k2
  have s0 : w.heap.size + 3 ≤ W0.heap.size := by omega
  clear hW hb0 hs0 k0 k1 k2
  refine (rnorm_call _ _ _ a b H1 L1 (RA.out.below HB0.out) (RB.out.below HB0.out) M1.out E1.out E2.out).mono ?_
  rintro e w2 ⟨hb, p1, c1, p2, c2, rfl, r1, r2⟩
  rw [← HA1.out] at r1 ⊢
  rw [← HQ1.out] at r2 ⊢
  have k0 := (hb.block _ (show w.heap.size < W0.heap.size by omega)).trans K0.out
  have k1 := (hb.block _ (show w.heap.size + 1 < W0.heap.size by omega)).trans K1.out
  have k2 := (hb.block _ (show w.heap.size + 1 + 1 < W0.heap.size by omega)).trans K2.out
  have g0 := set_word0 k0 (.slice p1 a1 c1)
  have G1 := Lib.hid (set_word1 g0 (.slice p2 q1 c2))
  have R1 := Lib.hid ((r1.put k0 0 (.slice p1 a1 c1)).put g0 1 (.slice p2 q1 c2))
  have R2 := Lib.hid ((r2.put k0 0 (.slice p1 a1 c1)).put g0 1 (.slice p2 q1 c2))
  have HB2 := Lib.hid (HB0.out.trans (hb.mono HB0.out.size))
  have s2 : w.heap.size + 3 ≤ w2.heap.size := Nat.le_trans s0 hb.size
  obtain ⟨x0, x1⟩ := cell_of k0
  obtain ⟨x2, x3⟩ := cell_of k1
  have xf := frozen_of k0
  have K1' := Lib.hid k1
  have K2' := Lib.hid k2
  have hz2 : w.heap.size < w2.heap.size := by omega
  clear hb r1 r2 k0 k1 k2 g0 s0 HB0 K0 K1 K2
  go_wp2_with fail
  obtain ⟨W1, hW⟩ : ∃ W1, W1 = (w2.setCell ⟨w.heap.size, 0, none⟩ (.slice p1 a1 c1)).setCell ⟨w.heap.size, 1, none⟩ (.slice p2 q1 c2) := ⟨_, rfl⟩
  rw [← hW] at G1 R1 R2 ⊢
  have HB1 : Hid (Below w.heap.size w W1) := Lib.hid (by
    rw [hW]
    exact (HB2.out.setCell (Nat.le_refl _) _).setCell (Nat.le_refl _) _)
  have s1 : w.heap.size + 3 ≤ W1.heap.size := by rw [hW, World.size_setCell, World.size_setCell]; exact s2
  have K1 : Hid (W1.heap[w.heap.size + 1]? = some (.cells #[.slice pc n3 cc, .slice pd n4 cd] 24)) := Lib.hid (by
    rw [hW, set_other (by omega), set_other (by omega)]
    exact K1'.out)
  have K2 : Hid (W1.heap[w.heap.size + 1 + 1]? = some (.cells #[.slice none 0 0, .slice none 0 0] 24)) := Lib.hid (by
    rw [hW, set_other (by omega), set_other (by omega)]
    exact K2'.out)
  clear hW K1' K2' HB2 s2 x0 x1 x2 x3 xf hz2
  refine (rnorm_call _ _ _ c d H2 L2 (RC.out.below HB1.out) (RD.out.below HB1.out) M2.out E3.out E4.out).mono ?_
  rintro e w4 ⟨hb, p3, c3, p4, c4, rfl, r3, r4⟩
  rw [← HA2.out] at r3 ⊢
  rw [← HQ2.out] at r4 ⊢
  have k0 := (hb.block _ (show w.heap.size < W1.heap.size by omega)).trans G1.out
  have k1 := (hb.block _ (show w.heap.size + 1 < W1.heap.size by omega)).trans K1.out
  have k2 := (hb.block _ (show w.heap.size + 1 + 1 < W1.heap.size by omega)).trans K2.out
  have g0 := set_word0 k1 (.slice p3 a2 c3)
  have G2 := Lib.hid (set_word1 g0 (.slice p4 q2 c4))
  have R3 := Lib.hid ((r3.put k1 0 (.slice p3 a2 c3)).put g0 1 (.slice p4 q2 c4))
  have R4 := Lib.hid ((r4.put k1 0 (.slice p3 a2 c3)).put g0 1 (.slice p4 q2 c4))
  have R1' := Lib.hid (((R1.out.below hb).put k1 0 (.slice p3 a2 c3)).put g0 1 (.slice p4 q2 c4))
  have R2' := Lib.hid (((R2.out.below hb).put k1 0 (.slice p3 a2 c3)).put g0 1 (.slice p4 q2 c4))
  have HB4 := Lib.hid (HB1.out.trans (hb.mono HB1.out.size))
  have s4 : w.heap.size + 3 ≤ w4.heap.size := Nat.le_trans s1 hb.size
  obtain ⟨x0, x1⟩ := cell_of k1
  have xf := frozen_of k1
  have K0' := Lib.hid k0
  have K2' := Lib.hid k2
  have hz2 : w.heap.size + 1 < w4.heap.size := by omega
  clear hb r3 r4 k0 k1 k2 g0 s1 HB1 K1 K2 G1 R1 R2
  go_upto_region 3 with (fail)
  obtain ⟨W, hW⟩ : ∃ W, W = (w4.setCell ⟨w.heap.size + 1, 0, none⟩ (.slice p3 a2 c3)).setCell ⟨w.heap.size + 1, 1, none⟩ (.slice p4 q2 c4) := ⟨_, rfl⟩
  rw [← hW] at G2 R1' R2' R3 R4 ⊢
  have HBW : Hid (Below w.heap.size w W) := Lib.hid (by
    rw [hW]
    exact (HB4.out.setCell (Nat.le_succ _) _).setCell (Nat.le_succ _) _)
  have hw3 : w.heap.size + 3 ≤ W.heap.size := by rw [hW, World.size_setCell, World.size_setCell]; exact s4
  have HBX : Hid (W.heap[w.heap.size]? = some (.cells #[.slice p1 a1 c1, .slice p2 q1 c2] 24)) := Lib.hid (by
    rw [hW, set_other (by omega), set_other (by omega)]
    exact K0'.out)
  have HBR : Hid (W.heap[w.heap.size + 1 + 1]? = some (.cells #[.slice none 0 0, .slice none 0 0] 24)) := Lib.hid (by
    rw [hW, set_other (by omega), set_other (by omega)]
    exact K2'.out)
  have R1 := R1'
  have R2 := R2'
  clear hW K0' K2' HB4 s4 x0 x1 xf hz2 R1' R2'
  obtain ⟨x0, x1⟩ := cell_of HBX.out
  obtain ⟨x2, x3⟩ := cell_of G2.out
  have hw0 : w.heap.size < W.heap.size := by omega
  have hw1 : w.heap.size + 1 < W.heap.size := by omega
  have hw2 : w.heap.size + 1 + 1 < W.heap.size := by omega
  obtain ⟨hm, hhm⟩ : ∃ hm, hm = max a1 a2 := ⟨_, rfl⟩
  have hmb : hm ≤ 200 := by omega
  have f1 : mxI (a1 : Int) (a2 : Int) = (hm : Int) := by unfold mxI; split <;> omega
  have f2 : max a1 a2 = hm := hhm.symm
  obtain ⟨P, hP⟩ : ∃ P, P = Nat.lcm q1 q2 := ⟨_, rfl⟩
  have hd1 : q1 ∣ P := by rw [hP]; exact Nat.dvd_lcm_left _ _
  have hd2 : q2 ∣ P := by rw [hP]; exact Nat.dvd_lcm_right _ _
  have hP0 : 0 < P := by rw [hP]; exact Nat.lcm_pos z1 z2
  have hPb : P ≤ 200 * 200 := Nat.le_trans (Nat.le_of_dvd (Nat.mul_pos z1 z2) (by rw [hP]; exact Nat.lcm_dvd_mul _ _)) (Nat.mul_le_mul lb ld)
  have HPM : Hid (∀ m, q1 ∣ m → q2 ∣ m → P ∣ m) := Lib.hid (fun m h1 h2 => by rw [hP]; exact Nat.lcm_dvd h1 h2)
  have HPP := Lib.hid hP
  have HHM := Lib.hid hhm
  have HD1 := Lib.hid hd1
  have HD2 := Lib.hid hd2
  clear hP hhm hd1 hd2
  go_wp2_with fail
  clear f1 f2
  go_loopw [9] (fun i9 wr => ∃ m : Nat, i9 = .int .i64 (m : Int) ∧ Hid (q1 ∣ m) ∧ 0 < m ∧ m ≤ P ∧ W = wr) (fun i9 _ => P - (intOf i9).toNat)
  case atStart => exact ⟨q1, rfl, Lib.hid (Nat.dvd_refl _), z1, Nat.le_of_dvd hP0 HD1.out, rfl⟩
  case round =>
  obtain ⟨m, rfl, hdm, hm0, hmP, rfl⟩ := hrel
  obtain ⟨r, hr⟩ : ∃ r, r = m % q2 := ⟨_, rfl⟩
  have j1 : Int.tmod (m : Int) (q2 : Int) = (r : Int) := by rw [hr, Int.tmod_eq_emod_of_nonneg (by omega)]; rfl
  have j2 : ¬ ((q2 : Int) = 0) := by omega
  have j3 : ¬ (q2 = 0) := by omega
  by_cases hr0 : r = 0
  · have hmm : m = P := by
      have h1 := Nat.le_of_dvd hm0 (HPM.out m hdm.out (Nat.dvd_of_mod_eq_zero (by rw [← hr]; exact hr0)))
      omega
    have j4 : ((r : Int) == 0) = true := by rw [hr0]; rfl
    have j5 : ((r : Int) != 0) = false := by rw [hr0]; rfl
    subst hmm
    obtain ⟨hp, hhp⟩ : ∃ hp, hp = hm + m := ⟨_, rfl⟩
    have b1 : ((hm : Int) + (m : Int)) = (hp : Int) := by omega
    have b2 : IntKind.i64.wrap ((hm : Int) + (m : Int)) = (hp : Int) := by rw [IntKind.wrap_i64]; omega
    have b3 : ¬ ((65536 : Int) < hp) := by omega
    have b4 : decide ((hp : Int) > 65536) = false := decide_eq_false b3
    have b5 : ¬ (65536 < hp) := by omega
    obtain ⟨m2, hm2⟩ : ∃ m2, m2 = 2 * m := ⟨_, rfl⟩
    obtain ⟨n, hn⟩ : ∃ n, n = hm + m2 := ⟨_, rfl⟩
    have e1 : ((2 : Int) * (m : Int)) = (m2 : Int) := by omega
    have e2 : IntKind.i64.wrap ((2 : Int) * (m : Int)) = (m2 : Int) := by rw [IntKind.wrap_i64]; omega
    have e3 : ((hm : Int) + (m2 : Int)) = (n : Int) := by omega
    have e4 : IntKind.i64.wrap ((hm : Int) + (m2 : Int)) = (n : Int) := by rw [IntKind.wrap_i64]; omega
    have e5 : n ≤ 90000 := by omega
    have HN : Hid (n = hm + 2 * m) := Lib.hid (by omega)
    have hsm : ¬ 65536 < max H1.length H2.length + Nat.lcm L1.length L2.length := by
      rw [← HA1.out, ← HA2.out, ← HQ1.out, ← HQ2.out, ← HHM.out, ← HPP.out]; omega
    have HSM := Lib.hid hsm
    clear hr hr0 hm2 hn hhp hsm
    go_wp2_with fail
    clear j1 j2 j3 j4 j5 b1 b2 b3 b4 b5
    obtain ⟨s, hs⟩ : ∃ s, s = zS op H1 L1 H2 L2 := ⟨_, rfl⟩
    have HS : Hid (∀ k, zV op (Go.Proofs.Ytpcnapmlmhhcpaa.num H1 L1 k) (Go.Proofs.Ytpcnapmlmhhcpaa.num H2 L2 k) = s k) := Lib.hid (fun k => by rw [hs]; rfl)
    have HSD := Lib.hid hs
    clear hs
    obtain ⟨Bn, hBn⟩ : ∃ Bn, Bn = W.heap.size := ⟨_, rfl⟩
    have hBW : Bn ≤ W.heap.size := by omega
    have hBe : W.heap.size ≤ Bn := by omega
    clear hBn
    go_loopw [10, 11] (fun i3 i4 wr => ∃ (k : Nat) (V : World), i4 = .int .i64 (k : Int) ∧ k ≤ n ∧ V = wr ∧ Hid (Fresh V Bn i3 (tab s k)) ∧ Hid (Below Bn W V) ∧ Hid (∀ j, j < k → zB op (Go.Proofs.Ytpcnapmlmhhcpaa.num H1 L1 j) (Go.Proofs.Ytpcnapmlmhhcpaa.num H2 L2 j) = true)) (fun _ i4 _ => n - (intOf i4).toNat)
    case atStart => exact ⟨0, _, rfl, Nat.zero_le _, rfl, Lib.hid (Fresh.nil _ _), Lib.hid (Below.refl _ _), Lib.hid (fun j hj => absurd hj (Nat.not_lt_zero _))⟩
    case round =>
    obtain ⟨k, V, rfl, hkn, rfl, hfr, hbv, hok⟩ := hrel
    have hVs := hbv.out.size
    have hBV : Bn ≤ V.heap.size := Nat.le_trans hBW hVs
    obtain ⟨v0, v1⟩ := cell_of ((hbv.out.block _ (by omega)).trans HBX.out)
    obtain ⟨v2, v3⟩ := cell_of ((hbv.out.block _ (show w.heap.size + 1 < Bn by omega)).trans G2.out)
    have hv0 : w.heap.size < V.heap.size := by omega
    have hv1 : w.heap.size + 1 < V.heap.size := by omega
    have hv2 : w.heap.size + 1 + 1 < V.heap.size := by omega
    by_cases hlt : k < n
    · have a1_ : (k : Int) < n := by omega
      have a2_ := decide_eq_true a1_
      have a3_ : IntKind.i64.wrap ((k : Int) + 1) = (k : Int) + 1 := by rw [IntKind.wrap_i64]; omega
      have RV1 := Lib.hid (R1.out.below (hbv.out.mono hBe))
      have RV2 := Lib.hid (R2.out.below (hbv.out.mono hBe))
      have RV3 := Lib.hid (R3.out.below (hbv.out.mono hBe))
      have RV4 := Lib.hid (R4.out.below (hbv.out.mono hBe))
      have IX := I1.out k
      have IY := I2.out k
      have hsk := HS.out k
      obtain ⟨xv, hxv⟩ : ∃ xv, Go.Proofs.Ytpcnapmlmhhcpaa.num H1 L1 k = xv := ⟨_, rfl⟩
      obtain ⟨yv, hyv⟩ : ∃ yv, Go.Proofs.Ytpcnapmlmhhcpaa.num H2 L2 k = yv := ⟨_, rfl⟩
      rw [hxv] at IX hsk
      rw [hyv] at IY hsk
      have HX := Lib.hid hxv
      have HY := Lib.hid hyv
      have HSK := Lib.hid hsk
      have HIX := Lib.hid IX
      have HIY := Lib.hid IY
      clear hxv hyv hsk IX IY
      go_upto_region 13 with (fail)
      refine wp_region_held_drew (S := (fun W' => W'.cell? ⟨w.heap.size, 0, none⟩ = some (.slice p1 a1 c1) ∧ W'.cell? ⟨w.heap.size, 1, none⟩ = some (.slice p2 q1 c2) ∧ W'.cell? ⟨w.heap.size + 1, 0, none⟩ = some (.slice p3 a2 c3) ∧ W'.cell? ⟨w.heap.size + 1, 1, none⟩ = some (.slice p4 q2 c4))) (by kernel_rfl) ?hS11 (fun hHeld => ?go11)
      case hS11 =>
        (try dsimp only)
        try go_simp
      case go11 =>
      refine' wpAnyH_take (i := 0) (oi := ⟨_, _, _, _, _, _⟩) (v := ?v12) rfl (by kernel_rfl) (by kernel_rfl) (by kernel_rfl) (fun _ _ _ h => h) (Or.inl ⟨by rfl, ?hy12⟩) (by assumption) ?rest12
      case hy12 =>
        intro w hSw
        (try dsimp only at hSw)
        go_simp
        try (with_reducible rfl)
      case rest12 =>
      (try simp only [Act.put, List.setIfInBounds_toArray, List.set_cons_zero, List.set_cons_succ])
      refine' wpAnyH_take (i := 1) (oi := ⟨_, _, _, _, _, _⟩) (v := ?v13) rfl (by kernel_rfl) (by kernel_rfl) (by kernel_rfl) (fun _ _ _ h => h) (Or.inl ⟨by rfl, ?hy13⟩) (by assumption) ?rest13
      case hy13 =>
        intro w hSw
        (try dsimp only at hSw)
        go_simp
        try (with_reducible rfl)
      case rest13 =>
      (try simp only [Act.put, List.setIfInBounds_toArray, List.set_cons_zero, List.set_cons_succ])
      refine' wpAnyH_take (i := 3) (oi := ⟨_, _, _, _, _, _⟩) (v := ?v14) rfl (by kernel_rfl) (by kernel_rfl) (by kernel_rfl) (fun _ _ _ h => h) (Or.inl ⟨by rfl, ?hy14⟩) (by assumption) ?rest14
      case hy14 =>
        intro w hSw
        (try dsimp only at hSw)
        go_simp
        try (with_reducible rfl)
      case rest14 =>
      (try simp only [Act.put, List.setIfInBounds_toArray, List.set_cons_zero, List.set_cons_succ])
      refine' wpAnyH_take (i := 4) (oi := ⟨_, _, _, _, _, _⟩) (v := ?v15) rfl (by kernel_rfl) (by kernel_rfl) (by kernel_rfl) (fun _ _ _ h => h) (Or.inl ⟨by rfl, ?hy15⟩) (by assumption) ?rest15
      case hy15 =>
        intro w hSw
        (try dsimp only at hSw)
        go_simp
        try (with_reducible rfl)
      case rest15 =>
      (try simp only [Act.put, List.setIfInBounds_toArray, List.set_cons_zero, List.set_cons_succ])
      refine wpAnyH_ready (rs := [2]) (by kernel_rfl) (by simp) ?_
      refine AllReadyH.cons (o := ⟨_, _, _, _, _, _⟩) rfl (fun K hK => ?_) AllReadyH.nil
      go_simp
      (go_at_call 34; refine (rat_any _ _ _ H1 L1 k (RV1.out.below (by repeat (first | (with_reducible exact Below.refl _ _) | (with_reducible assumption) | (with_reducible refine below_drewN ?_ _) | (with_reducible refine Below.drew ?_) | (with_reducible refine below_ext_of ?_ (by first | exact Nat.le_refl _ | assumption | (simp only [World.size_alloc, World.size_setCell, size_ext, World.heap_drewN]; omega)) _ _) | (with_reducible refine Below.alloc ?_ (by first | exact Nat.le_refl _ | assumption | (simp only [World.size_alloc, World.size_setCell, size_ext, World.heap_drewN]; omega)) _) | (with_reducible refine Below.setCell ?_ (by first | exact Nat.le_refl _ | assumption | (simp only [World.size_alloc, World.size_setCell, size_ext, World.heap_drewN]; omega)) _)))) (RV2.out.below (by repeat (first | (with_reducible exact Below.refl _ _) | (with_reducible assumption) | (with_reducible refine below_drewN ?_ _) | (with_reducible refine Below.drew ?_) | (with_reducible refine below_ext_of ?_ (by first | exact Nat.le_refl _ | assumption | (simp only [World.size_alloc, World.size_setCell, size_ext, World.heap_drewN]; omega)) _ _) | (with_reducible refine Below.alloc ?_ (by first | exact Nat.le_refl _ | assumption | (simp only [World.size_alloc, World.size_setCell, size_ext, World.heap_drewN]; omega)) _) | (with_reducible refine Below.setCell ?_ (by first | exact Nat.le_refl _ | assumption | (simp only [World.size_alloc, World.size_setCell, size_ext, World.heap_drewN]; omega)) _)))) (by rw [← HQ1.out]; exact z1) (by omega) (by rw [← HA1.out]; omega)).mono ?_; rintro e w1 ⟨rfl, hb⟩; obtain ⟨X, d, rfl⟩ := below_ext hb; clear hb; rw [HX.out]; go_simp)
      refine hK.out _ _ ?hS16 (fun hHeld2 => ?go16)
      case hS16 =>
        (try dsimp only)
        try go_simp
      case go16 =>
      clear hK K
      clear hHeld
      have hHeld := hHeld2
      clear hHeld2
      (try simp only [Act.put, List.setIfInBounds_toArray, List.set_cons_zero, List.set_cons_succ])
      refine wpAnyH_ready (rs := [5]) (by kernel_rfl) (by simp) ?_
      refine AllReadyH.cons (o := ⟨_, _, _, _, _, _⟩) rfl (fun K hK => ?_) AllReadyH.nil
      go_simp
      (go_at_call 34; refine (rat_any _ _ _ H2 L2 k (RV3.out.below (by repeat (first | (with_reducible exact Below.refl _ _) | (with_reducible assumption) | (with_reducible refine below_drewN ?_ _) | (with_reducible refine Below.drew ?_) | (with_reducible refine below_ext_of ?_ (by first | exact Nat.le_refl _ | assumption | (simp only [World.size_alloc, World.size_setCell, size_ext, World.heap_drewN]; omega)) _ _) | (with_reducible refine Below.alloc ?_ (by first | exact Nat.le_refl _ | assumption | (simp only [World.size_alloc, World.size_setCell, size_ext, World.heap_drewN]; omega)) _) | (with_reducible refine Below.setCell ?_ (by first | exact Nat.le_refl _ | assumption | (simp only [World.size_alloc, World.size_setCell, size_ext, World.heap_drewN]; omega)) _)))) (RV4.out.below (by repeat (first | (with_reducible exact Below.refl _ _) | (with_reducible assumption) | (with_reducible refine below_drewN ?_ _) | (with_reducible refine Below.drew ?_) | (with_reducible refine below_ext_of ?_ (by first | exact Nat.le_refl _ | assumption | (simp only [World.size_alloc, World.size_setCell, size_ext, World.heap_drewN]; omega)) _ _) | (with_reducible refine Below.alloc ?_ (by first | exact Nat.le_refl _ | assumption | (simp only [World.size_alloc, World.size_setCell, size_ext, World.heap_drewN]; omega)) _) | (with_reducible refine Below.setCell ?_ (by first | exact Nat.le_refl _ | assumption | (simp only [World.size_alloc, World.size_setCell, size_ext, World.heap_drewN]; omega)) _)))) (by rw [← HQ2.out]; exact z2) (by omega) (by rw [← HA2.out]; omega)).mono ?_; rintro e w1 ⟨rfl, hb⟩; obtain ⟨X1, d1, rfl⟩ := below_ext hb; clear hb; rw [HY.out]; go_simp)
      refine hK.out _ _ ?hS17 (fun hHeld2 => ?go17)
      case hS17 =>
        (try dsimp only)
        try go_simp
      case go17 =>
      clear hK K
      clear hHeld
      have hHeld := hHeld2
      clear hHeld2
      (try simp only [Act.put, List.setIfInBounds_toArray, List.set_cons_zero, List.set_cons_succ])
      refine' wpAnyH_take (i := 6) (oi := ⟨_, _, _, _, _, _⟩) (v := ?v18) rfl (by kernel_rfl) (by kernel_rfl) (by kernel_rfl) (fun _ _ _ h => h) (Or.inl ⟨by rfl, ?hy18⟩) (by assumption) ?rest18
      case hy18 =>
        intro w hSw
        (try dsimp only at hSw)
        go_simp
        try (with_reducible rfl)
      case rest18 =>
      (try simp only [Act.put, List.setIfInBounds_toArray, List.set_cons_zero, List.set_cons_succ])
      refine' wpAnyH_take (i := 7) (oi := ⟨_, _, _, _, _, _⟩) (v := ?v19) rfl (by kernel_rfl) (by kernel_rfl) (by kernel_rfl) (fun _ _ _ h => h) (Or.inl ⟨by rfl, ?hy19⟩) (by assumption) ?rest19
      case hy19 =>
        intro w hSw
        (try dsimp only at hSw)
        go_simp
        try (with_reducible rfl)
      case rest19 =>
      (try simp only [Act.put, List.setIfInBounds_toArray, List.set_cons_zero, List.set_cons_succ])
      refine wpAnyH_done (by kernel_rfl) ?_ _
      go_upto_block 4 with (fail)
      go_cut [14, 15] (fun s14 s15 wc => s14 = .int .i64 (zV op xv yv) ∧ s15 = .bool (zB op xv yv) ∧ ∃ V1, V1 = wc ∧ Hid (Below V.heap.size V V1))
      case first =>
        have IX := HIX.out
        have IY := HIY.out
        unfold in64P at IX IY
        have hop := HOP.out
        clear HOP HSK HS HSD HZ HIX HIY hok
        rcases hop with rfl | rfl | rfl | rfl
        · go_wp2_with (go_at_call 45; refine (ref_add xv yv _ IX.1 IX.2 IY.1 IY.2).mono ?_; rintro e w1 ⟨rfl, hb⟩; obtain ⟨X, d, rfl⟩ := below_ext hb; clear hb)
          go_meet
          case rel => exact ⟨rfl, rfl, _, rfl, Lib.hid (by repeat (first | (with_reducible exact Below.refl _ _) | (with_reducible assumption) | (with_reducible refine below_drewN ?_ _) | (with_reducible refine Below.drew ?_) | (with_reducible refine below_ext_of ?_ (by first | exact Nat.le_refl _ | assumption | (simp only [World.size_alloc, World.size_setCell, size_ext, World.heap_drewN]; omega)) _ _) | (with_reducible refine Below.alloc ?_ (by first | exact Nat.le_refl _ | assumption | (simp only [World.size_alloc, World.size_setCell, size_ext, World.heap_drewN]; omega)) _) | (with_reducible refine Below.setCell ?_ (by first | exact Nat.le_refl _ | assumption | (simp only [World.size_alloc, World.size_setCell, size_ext, World.heap_drewN]; omega)) _)))⟩
        · go_wp2_with (go_at_call 46; refine (ref_sub xv yv _ IX.1 IX.2 IY.1 IY.2).mono ?_; rintro e w1 ⟨rfl, hb⟩; obtain ⟨X, d, rfl⟩ := below_ext hb; clear hb)
          go_meet
          case rel => exact ⟨rfl, rfl, _, rfl, Lib.hid (by repeat (first | (with_reducible exact Below.refl _ _) | (with_reducible assumption) | (with_reducible refine below_drewN ?_ _) | (with_reducible refine Below.drew ?_) | (with_reducible refine below_ext_of ?_ (by first | exact Nat.le_refl _ | assumption | (simp only [World.size_alloc, World.size_setCell, size_ext, World.heap_drewN]; omega)) _ _) | (with_reducible refine Below.alloc ?_ (by first | exact Nat.le_refl _ | assumption | (simp only [World.size_alloc, World.size_setCell, size_ext, World.heap_drewN]; omega)) _) | (with_reducible refine Below.setCell ?_ (by first | exact Nat.le_refl _ | assumption | (simp only [World.size_alloc, World.size_setCell, size_ext, World.heap_drewN]; omega)) _)))⟩
        · go_wp2_with fail
          go_meet
          case rel => exact ⟨rfl, rfl, _, rfl, Lib.hid (by repeat (first | (with_reducible exact Below.refl _ _) | (with_reducible assumption) | (with_reducible refine below_drewN ?_ _) | (with_reducible refine Below.drew ?_) | (with_reducible refine below_ext_of ?_ (by first | exact Nat.le_refl _ | assumption | (simp only [World.size_alloc, World.size_setCell, size_ext, World.heap_drewN]; omega)) _ _) | (with_reducible refine Below.alloc ?_ (by first | exact Nat.le_refl _ | assumption | (simp only [World.size_alloc, World.size_setCell, size_ext, World.heap_drewN]; omega)) _) | (with_reducible refine Below.setCell ?_ (by first | exact Nat.le_refl _ | assumption | (simp only [World.size_alloc, World.size_setCell, size_ext, World.heap_drewN]; omega)) _)))⟩
        · go_wp2_with fail
          go_meet
          case rel => exact ⟨rfl, rfl, _, rfl, Lib.hid (by repeat (first | (with_reducible exact Below.refl _ _) | (with_reducible assumption) | (with_reducible refine below_drewN ?_ _) | (with_reducible refine Below.drew ?_) | (with_reducible refine below_ext_of ?_ (by first | exact Nat.le_refl _ | assumption | (simp only [World.size_alloc, World.size_setCell, size_ext, World.heap_drewN]; omega)) _ _) | (with_reducible refine Below.alloc ?_ (by first | exact Nat.le_refl _ | assumption | (simp only [World.size_alloc, World.size_setCell, size_ext, World.heap_drewN]; omega)) _) | (with_reducible refine Below.setCell ?_ (by first | exact Nat.le_refl _ | assumption | (simp only [World.size_alloc, World.size_setCell, size_ext, World.heap_drewN]; omega)) _)))⟩
      case rest =>
      obtain ⟨rfl, rfl, V1, rfl, hb1⟩ := hcut
      have HBV1 := Lib.hid (hbv.out.trans (hb1.out.mono hBV))
      have HF1 := Lib.hid (hfr.out.below hb1.out)
      have hs1 : V.heap.size ≤ V1.heap.size := hb1.out.size
      clear v0 v1 v2 v3 hb1 hbv hfr RV1 RV2 RV3 RV4
      cases hzb : zB op xv yv with
      | false =>
        have hlong := zip_over (op := op) (k := k) (by rw [← HQ1.out]; exact z1) (by rw [← HQ2.out]; exact z2) HSM.out (by rw [HX.out, HY.out]; exact hzb)
        obtain ⟨rfl, rfl, rfl⟩ : x = [] ∧ y = [] ∧ z = 7 := by
          rw [HZ.out] at hlong
          injection hlong with a b
          injection b with b c
          exact ⟨a, b, c⟩
        clear hlong hzb
        have hbr := (HBV1.out.block _ (show w.heap.size + 1 + 1 < Bn by omega)).trans HBR.out
        obtain ⟨x4, x5⟩ := cell_of hbr
        have xf := frozen_of hbr
        have hz2 : w.heap.size + 1 + 1 < V1.heap.size := by omega
        clear hbr
        go_wp2_with fail
        refine bodyPost_ret (v := .tuple #[.agg #[.slice none 0 0, .slice none 0 0], .int .i64 7]) (by simp [results, Try.results23, go_sem, x4, x5, hz2]) rfl ⟨?_, none, 0, none, 0, rfl, RowAt.nil _, RowAt.nil _⟩
        exact ((HBW.out.trans (HBV1.out.mono (by omega))).setCell (Nat.le_trans (Nat.le_succ _) (Nat.le_succ _)) _).setCell (Nat.le_trans (Nat.le_succ _) (Nat.le_succ _)) _
      | true =>
        have hok1 : Hid (∀ j, j < k + 1 → zB op (Go.Proofs.Ytpcnapmlmhhcpaa.num H1 L1 j) (Go.Proofs.Ytpcnapmlmhhcpaa.num H2 L2 j) = true) := Lib.hid (fun j hj => by
          rcases Nat.lt_or_ge j k with h | h
          · exact hok.out j h
          · obtain rfl : j = k := by omega
            rw [HX.out, HY.out]; exact hzb)
        rw [HSK.out]
        clear hzb hok
        have hBV1 : Bn ≤ V1.heap.size := by omega
        go_wp2_with (at_builtin
                     have hF2 := HF1.out.below (w' := V1.alloc (.cells #[.int .i64 (s k)] 2)) ((Below.refl _ _).alloc (Nat.le_refl _) _)
                     have hB2 : Below Bn W (V1.alloc (.cells #[.int .i64 (s k)] 2)) := HBV1.out.alloc hBV1 _
                     refine wpList_append_row (by rfl) _ _ (by rfl) Bn u10 (tab s k) [s k] (some ⟨V1.heap.size, 0, none⟩) 1 1 (by rfl) (by rfl) hF2 (fresh_one V1 (s k)).row (by rw [tab_length]; simp; omega) (Nat.le_trans hBW hB2.size) ?_
                     intro v' w' hf hgrow
                     rw [← tab_succ] at hf
                     have hbn := Lib.hid (hB2.grown hgrow (Nat.le_trans hBW hB2.size) (fun j hj => (hF2.ge j hj).1))
                     have hfn := Lib.hid hf
                     clear hf hgrow hF2 hB2)
        go_roundw
        case measure =>
          simp only [intOf, Int.toNat_natCast]
          omega
        case rel => exact ⟨k + 1, w', by go_num, by omega, rfl, hfn, hbn, hok1⟩
    · have hk : k = n := by omega
      subst hk
      have a1_ : ¬ ((k : Int) < k) := by omega
      have a2_ := decide_eq_false a1_
      have hrow : Hid (RowAt V u10 (tab s k)) := Lib.hid hfr.out.row
      have HOS : Hid (outS s hm m = (x, y, z)) := Lib.hid (by
        have h1 := zip_outS (op := op) HSM.out (zOk_of (fun i hi => hok.out i (by
          rw [← HA1.out, ← HA2.out, ← HQ1.out, ← HQ2.out, ← HHM.out, ← HPP.out] at hi; have := HN.out; omega)))
        rw [← HA1.out, ← HA2.out, ← HQ1.out, ← HQ2.out, ← HHM.out, ← HPP.out, ← HSD.out] at h1
        exact h1.trans HZ.out)
      have HPER : Hid (Per s hm m) := Lib.hid (by
        have h1 := zip_perS op H1 L1 H2 L2
        rwa [← HA1.out, ← HA2.out, ← HQ1.out, ← HQ2.out, ← HHM.out, ← HPP.out, ← HSD.out] at h1)
      go_wp2_with fail
      refine (rshort_call _ u10 s hm m k x y z HN.out hrow.out hP0 HPER.out (by omega) (by omega) HOS.out).mono ?_
      rintro e w2 ⟨hb, s1, d1, s2, d2, rfl, r1, r2⟩
      have hbr2 := (hb.block _ hv2).trans ((hbv.out.block _ (show w.heap.size + 1 + 1 < Bn by omega)).trans HBR.out)
      obtain ⟨x4, x5⟩ := cell_of hbr2
      have xf := frozen_of hbr2
      have HBR2 := Lib.hid hbr2
      have HR1 := Lib.hid r1
      have HR2 := Lib.hid r2
      have hz2 : w.heap.size + 1 + 1 < w2.heap.size := Nat.lt_of_lt_of_le hv2 hb.size
      have HB2 := Lib.hid (HBW.out.trans ((hbv.out.trans (hb.mono hBV)).mono (by omega)))
      clear hb hbr2 r1 r2 hrow
      go_wp2_with fail
      have g1 := set_word0 HBR2.out (.slice s1 x.length d1)
      refine bodyPost_ret (v := .tuple #[.agg #[.slice s1 x.length d1, .slice s2 y.length d2], .int .i64 z]) (by simp [results, Try.results23, go_sem, x4, x5, hz2]) rfl ⟨?_, s1, d1, s2, d2, rfl, ?_, ?_⟩
      · exact (HB2.out.setCell (Nat.le_trans (Nat.le_succ _) (Nat.le_succ _)) _).setCell (Nat.le_trans (Nat.le_succ _) (Nat.le_succ _)) _
      · exact (HR1.out.put HBR2.out 0 _).put g1 1 _
      · exact (HR2.out.put HBR2.out 0 _).put g1 1 _
  · have hlt2 : m < P := by
      rcases Nat.lt_or_ge m P with h | h
      · exact h
      · exfalso
        have h1 : m = P := by omega
        exact hr0 (by rw [hr, h1]; exact Nat.mod_eq_zero_of_dvd HD2.out)
    have hle : m + q1 ≤ P := by
      have h1 : q1 ∣ P - m := Nat.dvd_sub HD1.out hdm.out
      have := Nat.le_of_dvd (by omega) h1
      omega
    have HD : Hid (q1 ∣ m + q1) := Lib.hid (Nat.dvd_add hdm.out (Nat.dvd_refl _))
    obtain ⟨m', hm'⟩ : ∃ m', m' = m + q1 := ⟨_, rfl⟩
    rw [← hm'] at HD hle
    have j4 : ((r : Int) == 0) = false := beq_false_of_ne (by omega)
    have j5 : ((r : Int) != 0) = true := bne_iff_ne.2 (by omega)
    have j6 : ((m : Int) + (q1 : Int)) = (m' : Int) := by omega
    have j7 : IntKind.i64.wrap ((m : Int) + (q1 : Int)) = (m' : Int) := by rw [IntKind.wrap_i64]; omega
    have j8 : m < m' := by omega
    clear hr hr0 hm'
    go_wp2_with fail
    go_roundw
    case measure =>
      simp only [intOf, Int.toNat_natCast]
      omega
    case rel => exact ⟨m', rfl, HD, by omega, by omega, by first | rfl | trivial⟩
end Go.Proofs.Ytpcnapmlmhhcpaa
