/-
  The reference's Down: contract.
  Conditions: the rows lie in memory; the word may be.
-/
import Derived.Test.YtpcnapmlmhhcpaaGc
import Derived.WalkKit
import Derived.WalkSpells
import Derived.WalkLawsBesides
import Derived.Deep.QuietTactic
import Derived.BigQuiet
import Derived.Lib.Hide
import Derived.Handy
import Derived.Deep.AppendLies
import Derived.Maps.AppendAt
import Derived.OwnWalk
import Derived.Lib.LazyBuf
import Derived.Deep.DeepCutAuto
import Derived.Deep.RegionLaw
import Derived.Deep.RegionHeld3
import Derived.Deep.RegionWith
import Derived.BigRegion
import Derived.Deep.CutBlock
set_option linter.unusedVariables false
set_option linter.unusedSimpArgs false
namespace Go.Proofs.Ytpcnapmlmhhcpaa
open Go.RowKit 
open Big
attribute [local go_sem] setCell_drewN alloc_drewN size_ext ext_ext ext_drewN ext_drew drewN_ext drew_ext cell?_ext frozen?_ext setCell_ext cell?_past1 frozen?_past1 setCell_past1 cell?_past2 frozen?_past2 setCell_past2 cell?_past3 frozen?_past3 setCell_past3 cell?_past4 frozen?_past4 setCell_past4 cell?_past5 frozen?_past5 setCell_past5 cell?_past6 frozen?_past6 setCell_past6 cell?_past7 frozen?_past7 setCell_past7 cell?_past8 frozen?_past8 setCell_past8
attribute [local go_sem] min_ab max_ab

set_option maxRecDepth 100000 in
set_option maxHeartbeats 8000000 in
theorem rdown_call (w : World) (vh vl : Value) (h l x y : List Int) (z : Int) (kk : Nat) (hk0 : 0 < kk) (hkk : kk ≤ 1099511627776) (h1 : RowAt w vh h) (h2 : RowAt w vl l) (hm : may h l = true) (hz : downT h l kk = (x, y, z)) :
    Calls Try.prog 22 #[.agg #[vh, vl], .int .i64 (kk : Int)] w fun e w' => Below w.heap.size w w' ∧ ∃ p1 c1 p2 c2, e = .returned (.tuple #[.agg #[.slice p1 x.length c1, .slice p2 y.length c2], .int .i64 z]) ∧ RowAt w' (.slice p1 x.length c1) x ∧ RowAt w' (.slice p2 y.length c2) y := by
  have hos := (down_outS h l kk).trans hz
  have hper := down_per h l hk0
  obtain ⟨s, hs⟩ : ∃ s, s = fun i => Go.Proofs.Ytpcnapmlmhhcpaa.num h l (i * kk) := ⟨_, rfl⟩
  have HS : Hid (∀ i, Go.Proofs.Ytpcnapmlmhhcpaa.num h l (i * kk) = s i) := Lib.hid (fun i => by rw [hs])
  rw [← hs] at hos hper
  clear hs hz
  obtain ⟨m1, m2, m3⟩ := may_len hm
  have H1 := Lib.hid h1
  have H2 := Lib.hid h2
  obtain ⟨ph, ch, rfl, rh⟩ := h1
  obtain ⟨pl, cl, rfl, rl⟩ := h2
  obtain ⟨p, hp⟩ : ∃ p, p = h.length := ⟨_, rfl⟩
  obtain ⟨q, hq⟩ : ∃ q, q = l.length := ⟨_, rfl⟩
  rw [← hp] at m3 hos hper 
  rw [← hq] at m1 m2 hos hper 
  rw [← hp, ← hq]
  have R1 : Hid (RowAt w (.slice ph p ch) h) := Lib.hid (by rw [hp]; exact H1.out)
  have R2 : Hid (RowAt w (.slice pl q cl) l) := Lib.hid (by rw [hq]; exact H2.out)
  have HP := Lib.hid hp
  have HQ := Lib.hid hq
  have HOS := Lib.hid hos
  have HPER := Lib.hid hper
  clear rh rl hm hp hq hos hper H1 H2
  obtain ⟨b, hb⟩ : ∃ b, b = p + kk - 1 := ⟨_, rfl⟩
  obtain ⟨hh, hhh⟩ : ∃ hh, hh = b / kk := ⟨_, rfl⟩
  have HOS1 : Hid (outS s hh q = (x, y, z)) := Lib.hid (by rw [hhh, hb]; exact HOS.out)
  have HPER1 : Hid (Per s hh q) := Lib.hid (by rw [hhh, hb]; exact HPER.out)
  clear HOS HPER
  have HOS := HOS1
  have HPER := HPER1
  clear HOS1 HPER1
  have hhb : hh ≤ 4096 := by
    rw [hhh]
    apply Nat.le_of_lt_succ
    rw [Nat.div_lt_iff_lt_mul hk0]
    have := Nat.mul_le_mul_left 4097 (show 1 ≤ kk from hk0)
    omega
  have f0 : IntKind.i64.wrap ((p : Int) + (kk : Int)) = (p : Int) + (kk : Int) := by rw [IntKind.wrap_i64]; omega
  have f1 : ((p : Int) + (kk : Int) - 1) = (b : Int) := by omega
  have f2 : IntKind.i64.wrap ((p : Int) + (kk : Int) - 1) = (b : Int) := by rw [IntKind.wrap_i64]; omega
  have f3 : Int.tdiv (b : Int) (kk : Int) = (hh : Int) := by rw [hhh]; rfl
  have f4 : ((b : Int) / (kk : Int)) = (hh : Int) := by rw [hhh]; rfl
  have f5 : IntKind.i64.wrap (hh : Int) = (hh : Int) := by rw [IntKind.wrap_i64]; omega
  have f6 : IntKind.i64.wrap (b : Int) = (b : Int) := by rw [IntKind.wrap_i64]; omega
  have f7 : ¬ ((kk : Int) = 0) := by omega
  have f8 : ¬ (kk = 0) := by omega
  clear hhh hb
  obtain ⟨q2, hq2⟩ : ∃ q2, q2 = 2 * q := ⟨_, rfl⟩
  obtain ⟨n, hn⟩ : ∃ n, n = hh + q2 := ⟨_, rfl⟩
  have e1 : ((2 : Int) * (q : Int)) = (q2 : Int) := by omega
  have e2 : IntKind.i64.wrap ((2 : Int) * (q : Int)) = (q2 : Int) := by rw [IntKind.wrap_i64]; omega
  have e3 : ((hh : Int) + (q2 : Int)) = (n : Int) := by omega
  have e4 : IntKind.i64.wrap ((hh : Int) + (q2 : Int)) = (n : Int) := by rw [IntKind.wrap_i64]; omega
  have e5 : n ≤ 30000 := by omega
  have HN : Hid (n = hh + 2 * q) := Lib.hid (by omega)
  clear hq2 hn
  go_enter Try.func22, Try.ntmps22
  go_wp2_with fail
  obtain ⟨W, hW⟩ : ∃ W, W = (w.alloc (.cells #[.slice ph p ch, .slice pl q cl] 24)).alloc (.cells #[.slice none 0 0, .slice none 0 0] 24) := ⟨_, rfl⟩
  rw [← hW]
  have hbW : Below w.heap.size w W := by
    rw [hW]
    repeat (first | (with_reducible exact Below.refl _ _) | (with_reducible assumption) | (with_reducible refine below_drewN ?_ _) | (with_reducible refine Below.drew ?_) | (with_reducible refine below_ext_of ?_ (by first | exact Nat.le_refl _ | assumption | (simp only [World.size_alloc, World.size_setCell, size_ext, World.heap_drewN]; omega)) _ _) | (with_reducible refine Below.alloc ?_ (by first | exact Nat.le_refl _ | assumption | (simp only [World.size_alloc, World.size_setCell, size_ext, World.heap_drewN]; omega)) _) | (with_reducible refine Below.setCell ?_ (by first | exact Nat.le_refl _ | assumption | (simp only [World.size_alloc, World.size_setCell, size_ext, World.heap_drewN]; omega)) _))
  obtain ⟨Bn, hBn⟩ : ∃ Bn, Bn = W.heap.size := ⟨_, rfl⟩
  have hWz := congrArg (fun W => W.heap.size) hW
  simp only [World.size_alloc] at hWz
  have hw1 : w.heap.size < Bn := by omega
  have hw2 : w.heap.size + 1 < Bn := by omega
  have hBW : Bn ≤ W.heap.size := by omega
  clear hWz
  have hbx : W.heap[w.heap.size]? = some (.cells #[.slice ph p ch, .slice pl q cl] 24) := by
    rw [hW]
    repeat (rw [Below.heap_alloc _ _ _ (by simp only [World.size_alloc]; omega)])
    exact heap_alloc_new w _
  have hbr : W.heap[w.heap.size + 1]? = some (.cells #[.slice none 0 0, .slice none 0 0] 24) := by
    rw [hW]
    have := heap_alloc_new (w.alloc (.cells #[.slice ph p ch, .slice pl q cl] 24)) (.cells #[.slice none 0 0, .slice none 0 0] 24)
    rwa [World.size_alloc] at this
  have HBW := Lib.hid hbW
  have HBX := Lib.hid hbx
  have HBR := Lib.hid hbr
  clear hW hbW hbx hbr hBn
  clear f0 f1 f2 f3 f4 f5 f6 f7 f8
  go_loopw [7, 8] (fun i3 i4 wr => ∃ (k : Nat) (V : World), i4 = .int .i64 (k : Int) ∧ k ≤ n ∧ V = wr ∧ Hid (Fresh V Bn i3 (tab s k)) ∧ Hid (Below Bn W V)) (fun _ i4 _ => n - (intOf i4).toNat)
  case atStart => exact ⟨0, _, rfl, Nat.zero_le _, rfl, Lib.hid (Fresh.nil _ _), Lib.hid (Below.refl _ _)⟩
  case round =>
  obtain ⟨k, V, rfl, hkn, rfl, hfr, hbv⟩ := hrel
  have hVs := hbv.out.size
  obtain ⟨x0, x1⟩ := cell_of ((hbv.out.block _ hw1).trans HBX.out)
  have hBV : Bn ≤ V.heap.size := Nat.le_trans hBW hVs
  have hv1 : w.heap.size < V.heap.size := by omega
  have hv2 : w.heap.size + 1 < V.heap.size := by omega
  by_cases hlt : k < n
  · have a1 : (k : Int) < n := by omega
    have a2 := decide_eq_true a1
    obtain ⟨A, hA⟩ : ∃ A, A = k * kk := ⟨_, rfl⟩
    have hAb : A ≤ 30000 * 1099511627776 := by rw [hA]; exact Nat.mul_le_mul (by omega) hkk
    have a4 : ((k : Int) * (kk : Int)) = (A : Int) := by rw [hA]; exact (Int.natCast_mul k kk).symm
    have a5 : IntKind.i64.wrap ((k : Int) * (kk : Int)) = (A : Int) := by rw [a4, IntKind.wrap_i64]; omega
    have HSA : Hid (Go.Proofs.Ytpcnapmlmhhcpaa.num h l A = s k) := Lib.hid (by rw [hA]; exact HS.out k)
    have HAA := Lib.hid hA
    clear hA
    go_upto_if 37 with (fail)
    go_cut [9] (fun s9 wc => ∃ M : Nat, s9 = .int .i64 (M : Int) ∧ M < 4611686018427387904 ∧ Hid (Go.Proofs.Ytpcnapmlmhhcpaa.num h l M = s k) ∧ ∃ V1, V1 = wc ∧ Hid (Below V.heap.size V V1))
    case first =>
      by_cases hAp : p < A
      · have g1 : (p : Int) < A := by omega
        have g2 : decide ((A : Int) > p) = true := decide_eq_true g1
        have hda := down_at (h := h) (l := l) (i := k) (k := kk) (by rw [← HQ.out]; exact m1) (by rw [← HP.out, ← HAA.out]; exact hAp)
        rw [← HP.out, ← HQ.out, ← HAA.out, HSA.out] at hda
        obtain ⟨I, hI⟩ : ∃ I, I = k % q := ⟨_, rfl⟩
        obtain ⟨J, hJ⟩ : ∃ J, J = kk % q := ⟨_, rfl⟩
        have hIq : I < q := by rw [hI]; exact Nat.mod_lt _ m1
        have hJq : J < q := by rw [hJ]; exact Nat.mod_lt _ m1
        rw [← hI, ← hJ] at hda
        obtain ⟨IJ, hIJ⟩ : ∃ IJ, IJ = I * J := ⟨_, rfl⟩
        rw [← hIJ] at hda
        have hIJb : IJ ≤ 4096 * 4096 := by rw [hIJ]; exact Nat.mul_le_mul (by omega) (by omega)
        obtain ⟨C, hC⟩ : ∃ C, C = IJ % q := ⟨_, rfl⟩
        have hCq : C < q := by rw [hC]; exact Nat.mod_lt _ m1
        obtain ⟨D, hD⟩ : ∃ D, D = p % q := ⟨_, rfl⟩
        have hDq : D < q := by rw [hD]; exact Nat.mod_lt _ m1
        rw [← hC, ← hD] at hda
        obtain ⟨C2, hC2⟩ : ∃ C2, C2 = C + q := ⟨_, rfl⟩
        rw [← hC2] at hda
        obtain ⟨G, hG⟩ : ∃ G, G = C2 - D := ⟨_, rfl⟩
        rw [← hG] at hda
        obtain ⟨R, hR⟩ : ∃ R, R = G % q := ⟨_, rfl⟩
        have hRq : R < q := by rw [hR]; exact Nat.mod_lt _ m1
        rw [← hR] at hda
        obtain ⟨M, hM⟩ : ∃ M, M = p + R := ⟨_, rfl⟩
        rw [← hM] at hda
        have HDA := Lib.hid hda
        have j1 : Int.tmod (k : Int) (q : Int) = (I : Int) := by rw [hI, Int.tmod_eq_emod_of_nonneg (by omega)]; rfl
        have j2 : Int.tmod (kk : Int) (q : Int) = (J : Int) := by rw [hJ, Int.tmod_eq_emod_of_nonneg (by omega)]; rfl
        have j3 : ((I : Int) * (J : Int)) = (IJ : Int) := by rw [hIJ]; exact (Int.natCast_mul I J).symm
        have j4 : IntKind.i64.wrap ((I : Int) * (J : Int)) = (IJ : Int) := by rw [j3, IntKind.wrap_i64]; omega
        have j5 : Int.tmod (IJ : Int) (q : Int) = (C : Int) := by rw [hC, Int.tmod_eq_emod_of_nonneg (by omega)]; rfl
        have j6 : ((C : Int) + (q : Int)) = (C2 : Int) := by omega
        have j7 : IntKind.i64.wrap ((C : Int) + (q : Int)) = (C2 : Int) := by rw [IntKind.wrap_i64]; omega
        have j8 : Int.tmod (p : Int) (q : Int) = (D : Int) := by rw [hD, Int.tmod_eq_emod_of_nonneg (by omega)]; rfl
        have j9 : ((C2 : Int) - (D : Int)) = (G : Int) := by omega
        have j10 : IntKind.i64.wrap ((C2 : Int) - (D : Int)) = (G : Int) := by rw [IntKind.wrap_i64]; omega
        have j11 : Int.tmod (G : Int) (q : Int) = (R : Int) := by rw [hR, Int.tmod_eq_emod_of_nonneg (by omega)]; rfl
        have j12 : ((p : Int) + (R : Int)) = (M : Int) := by omega
        have j13 : IntKind.i64.wrap ((p : Int) + (R : Int)) = (M : Int) := by rw [IntKind.wrap_i64]; omega
        have j14 : ¬ ((q : Int) = 0) := by omega
        have j15 : ¬ (q = 0) := by omega
        have hMb : M < 4611686018427387904 := by omega
        clear hda hI hJ hIJ hC hD hC2 hG hR hM
        go_wp2_with fail
        go_quiet (fail)
        go_wp2_with fail
        go_meet
        case rel => exact ⟨M, rfl, hMb, HDA, _, rfl, Lib.hid (by repeat (first | (with_reducible exact Below.refl _ _) | (with_reducible assumption) | (with_reducible refine below_drewN ?_ _) | (with_reducible refine Below.drew ?_) | (with_reducible refine below_ext_of ?_ (by first | exact Nat.le_refl _ | assumption | (simp only [World.size_alloc, World.size_setCell, size_ext, World.heap_drewN]; omega)) _ _) | (with_reducible refine Below.alloc ?_ (by first | exact Nat.le_refl _ | assumption | (simp only [World.size_alloc, World.size_setCell, size_ext, World.heap_drewN]; omega)) _) | (with_reducible refine Below.setCell ?_ (by first | exact Nat.le_refl _ | assumption | (simp only [World.size_alloc, World.size_setCell, size_ext, World.heap_drewN]; omega)) _)))⟩
      · have g1 : ¬ ((p : Int) < A) := by omega
        have g2 : decide ((A : Int) > p) = false := decide_eq_false g1
        go_wp2_with fail
        go_meet
        case rel => exact ⟨A, rfl, by omega, HSA, _, rfl, Lib.hid (Below.refl _ _)⟩
    case rest =>
    obtain ⟨M, rfl, hM, HSK, V1, rfl, hb1⟩ := hcut
    have hfr1 := Lib.hid (hfr.out.below hb1.out)
    have hbv1 := Lib.hid (hbv.out.trans (hb1.out.mono hBV))
    clear hfr hbv hb1 hVs hBV hv1 hv2 x0 x1 a4 a5
    have hVs1 := hbv1.out.size
    obtain ⟨x01, x11⟩ := cell_of ((hbv1.out.block _ hw1).trans HBX.out)
    have hBV1 : Bn ≤ V1.heap.size := Nat.le_trans hBW hVs1
    have hv11 : w.heap.size < V1.heap.size := by omega
    have hv21 : w.heap.size + 1 < V1.heap.size := by omega
    have a3 : IntKind.i64.wrap ((k : Int) + 1) = (k : Int) + 1 := by rw [IntKind.wrap_i64]; omega
    go_wp2_with (first
      | (go_at_call 34; refine (rat_any _ _ _ h l (M) (R1.out.below (HBW.out.trans (hbv1.out.mono (by omega)))) (R2.out.below (HBW.out.trans (hbv1.out.mono (by omega)))) (by rw [← HQ.out]; exact m1) (by omega) (by rw [← HP.out]; omega)).mono ?_; rintro e w1 ⟨rfl, hb⟩; obtain ⟨X, d, rfl⟩ := below_ext hb; clear hb; rw [HSK.out])
      | (at_builtin
         have hF2 := (hfr1.out.below (ext_below V1 X d)).below (w' := (ext V1 X d).alloc (.cells #[.int .i64 (s k)] 2)) ((Below.refl _ _).alloc (Nat.le_refl _) _)
         have hB2 : Below Bn W ((ext V1 X d).alloc (.cells #[.int .i64 (s k)] 2)) := (below_ext_of hbv1.out hBV1 X d).alloc (le_ext _ _ _ _ hBV1) _
         refine wpList_append_row (by rfl) _ _ (by rfl) Bn u7 (tab s k) [s k] (some ⟨V1.heap.size + X.size, 0, none⟩) 1 1 (by rfl) (by rfl) hF2 (by have := (fresh_one (ext V1 X d) (s k)).row; rwa [size_ext] at this) (by rw [tab_length]; simp; omega) (Nat.le_trans hBW hB2.size) ?_
         intro v' w' hf hgrow
         rw [← tab_succ] at hf
         have hbn := Lib.hid (hB2.grown hgrow (Nat.le_trans hBW hB2.size) (fun j hj => (hF2.ge j hj).1))
         have hfn := Lib.hid hf
         clear hf hgrow hF2 hB2))
    go_roundw
    case measure =>
      simp only [intOf, Int.toNat_natCast]
      omega
    case rel => exact ⟨k + 1, w', by go_num, by omega, rfl, hfn, hbn⟩
  · have hk : k = n := by omega
    subst hk
    have a1 : ¬ ((k : Int) < k) := by omega
    have a2 := decide_eq_false a1
    have hrow : Hid (RowAt V u7 (tab s k)) := Lib.hid hfr.out.row
    go_wp2_with fail
    refine (rshort_call _ u7 s hh q (k) x y z HN.out hrow.out m1 HPER.out (by omega) (by omega) HOS.out).mono ?_
    rintro e w2 ⟨hb, p1, c1, p2, c2, rfl, r1, r2⟩
    have hbr2 := (hb.block _ hv2).trans ((hbv.out.block _ hw2).trans HBR.out)
    obtain ⟨x4, x5⟩ := cell_of hbr2
    have xf := frozen_of hbr2
    have HBR2 := Lib.hid hbr2
    have HR1 := Lib.hid r1
    have HR2 := Lib.hid r2
    have hz2 : w.heap.size + 1 < w2.heap.size := Nat.lt_of_lt_of_le hv2 hb.size
    have HB2 := Lib.hid (HBW.out.trans ((hbv.out.trans (hb.mono hBV)).mono (Nat.le_of_lt hw1)))
    clear hb hbr2 r1 r2 hrow
    go_wp2_with fail
    have g1 := set_word0 HBR2.out (.slice p1 x.length c1)
    refine bodyPost_ret (v := .tuple #[.agg #[.slice p1 x.length c1, .slice p2 y.length c2], .int .i64 z]) (by simp [results, Try.results22, go_sem, x4, x5, hz2]) rfl ⟨?_, p1, c1, p2, c2, rfl, ?_, ?_⟩
    · exact (HB2.out.setCell (Nat.le_succ _) _).setCell (Nat.le_succ _) _
    · exact (HR1.out.put HBR2.out 0 _).put g1 1 _
    · exact (HR2.out.put HBR2.out 0 _).put g1 1 _
end Go.Proofs.Ytpcnapmlmhhcpaa
