/-
  words.Zip of words that may be, by each op: contracts.
  Conditions: the rows lie in memory; their numbers are int64s.
-/
import Derived.Test.YtpcnapmlmhhcpaaWs
import Derived.WalkKit
import Derived.WalkSpells
import Derived.WalkLawsBesides
import Derived.Deep.QuietTactic
import Derived.BigQuiet
import Derived.Lib.Hide
import Derived.Handy
import Derived.Deep.AppendLies
import Derived.Maps.AppendAt
import Derived.OwnWalk
import Derived.Lib.LazyBuf
import Derived.Deep.DeepCutAuto
import Derived.Deep.RegionLaw
import Derived.Deep.RegionHeld3
import Derived.Deep.RegionWith
import Derived.BigRegion
set_option linter.unusedVariables false
set_option linter.unusedSimpArgs false
namespace Go.Proofs.Ytpcnapmlmhhcpaa
open Go.RowKit 
open Big
attribute [local go_sem] setCell_drewN alloc_drewN size_ext ext_ext ext_drewN ext_drew drewN_ext drew_ext cell?_ext frozen?_ext setCell_ext cell?_past1 frozen?_past1 setCell_past1 cell?_past2 frozen?_past2 setCell_past2 cell?_past3 frozen?_past3 setCell_past3 cell?_past4 frozen?_past4 setCell_past4 cell?_past5 frozen?_past5 setCell_past5 cell?_past6 frozen?_past6 setCell_past6 cell?_past7 frozen?_past7 setCell_past7 cell?_past8 frozen?_past8 setCell_past8
attribute [local go_sem] eqf0 eqf1 min_ab max_ab
theorem own_ext {w : World} {B n : Nat} {e : TypeId} {sz : Nat} {v : Value} {us : List Value} (h : w.ownsRow B e sz v n us) (X : Array Obj) (d : Nat) : (ext w X d).ownsRow B e sz v n us := by
  refine ⟨h.1, ?_⟩
  rcases h.2 with h2 | ⟨g, cap, cur, h1, h2, h3, h4⟩
  · exact .inl h2
  · exact .inr ⟨g, cap, cur, h1, h2, ((ext_below w X d).block g (Array.getElem?_eq_some_iff.1 h3).1).trans h3, h4⟩
set_option maxRecDepth 100000 in
set_option maxHeartbeats 8000000 in
theorem zip_ok1 (w : World) (va vb vc vd : Value) (a b c d : List Int) (h1 : RowAt w va a) (h2 : RowAt w vb b) (h3 : RowAt w vc c) (h4 : RowAt w vd d) (hm1 : may a b = true) (hm2 : may c d = true)
    (hin1 : ∀ i, in64P (num (nH a b) (nL a b) i)) (hin2 : ∀ i, in64P (num (nH c d) (nL c d) i)) :
    Calls Try.prog 10 #[.int .u8 1, .agg #[va, vb], .agg #[vc, vd]] w fun e w' => Below w.heap.size w w' ∧ ∃ v1 v2, e = .returned (.tuple #[.agg #[v1, v2], .int .i64 (zipOut 1 (nH a b) (nL a b) (nH c d) (nL c d)).2.2]) ∧ Fresh w' w.heap.size v1 (zipOut 1 (nH a b) (nL a b) (nH c d) (nL c d)).1 ∧ Fresh w' w.heap.size v2 (zipOut 1 (nH a b) (nL a b) (nH c d) (nL c d)).2.1 ∧ Apart v1 v2 := by
  obtain ⟨s1, s2, s3⟩ := may_sizes hm1
  obtain ⟨t1, t2, t3⟩ := may_sizes hm2
  have hE1 := (may_norm hm1).1
  have hE2 := (may_norm hm2).1
  have H1 := Lib.hid h1
  have H2 := Lib.hid h2
  have H3 := Lib.hid h3
  have H4 := Lib.hid h4
  have HI1 := Lib.hid hin1
  have HI2 := Lib.hid hin2
  obtain ⟨pa, ca, rfl, ra⟩ := h1
  obtain ⟨pb, cb, rfl, rb⟩ := h2
  obtain ⟨pc, cc, rfl, rc⟩ := h3
  obtain ⟨pd, cd, rfl, rd⟩ := h4
  clear ra rb rc rd hm1 hm2 hin1 hin2
  go_enter Try.func10, Try.ntmps10
  go_wp2_with fail
  refine (by_any _ 1).mono ?_
  rintro e w1 ⟨rfl, rfl⟩
  rw [show byF 1 = .func (.func 49) #[] #[] from rfl]
  go_wp2_with fail
  refine (norm_any _ _ _ a b (H1.out.below (by repeat (first | (with_reducible exact Below.refl _ _) | (with_reducible assumption) | (with_reducible refine below_drewN ?_ _) | (with_reducible refine Below.drew ?_) | (with_reducible refine below_ext_of ?_ (by first | exact Nat.le_refl _ | assumption | (simp only [World.size_alloc, World.size_setCell, size_ext, World.heap_drewN]; omega)) _ _) | (with_reducible refine Below.alloc ?_ (by first | exact Nat.le_refl _ | assumption | (simp only [World.size_alloc, World.size_setCell, size_ext, World.heap_drewN]; omega)) _) | (with_reducible refine Below.setCell ?_ (by first | exact Nat.le_refl _ | assumption | (simp only [World.size_alloc, World.size_setCell, size_ext, World.heap_drewN]; omega)) _)))) (H2.out.below (by repeat (first | (with_reducible exact Below.refl _ _) | (with_reducible assumption) | (with_reducible refine below_drewN ?_ _) | (with_reducible refine Below.drew ?_) | (with_reducible refine below_ext_of ?_ (by first | exact Nat.le_refl _ | assumption | (simp only [World.size_alloc, World.size_setCell, size_ext, World.heap_drewN]; omega)) _ _) | (with_reducible refine Below.alloc ?_ (by first | exact Nat.le_refl _ | assumption | (simp only [World.size_alloc, World.size_setCell, size_ext, World.heap_drewN]; omega)) _) | (with_reducible refine Below.setCell ?_ (by first | exact Nat.le_refl _ | assumption | (simp only [World.size_alloc, World.size_setCell, size_ext, World.heap_drewN]; omega)) _))))).mono ?_
  rintro e w1 ⟨hb, v1, v2, rfl, o1, o2, hap⟩
  rw [hE1]
  obtain ⟨X, e0, rfl⟩ := below_ext hb
  clear hb hE1 hap
  have r1 := o1.row
  have r2 := o2.row
  have O1 := Lib.hid o1
  have O2 := Lib.hid o2
  clear o1 o2
  obtain ⟨p1, c1, rfl, _, _, _, _⟩ := r1
  obtain ⟨p2, c2, rfl, _, _, _, _⟩ := r2
  obtain ⟨n1, hn1⟩ : ∃ n, n = (nH a b).length := ⟨_, rfl⟩
  obtain ⟨m1, hmm1⟩ : ∃ m, m = (nL a b).length := ⟨_, rfl⟩
  have HN1 := Lib.hid hn1
  have HM1 := Lib.hid hmm1
  rw [← hn1] at s1 O1
  rw [← hmm1] at s2 s3 O2
  rw [← hn1, ← hmm1]
  clear hn1 hmm1
  go_wp2_with fail
  refine (norm_any _ _ _ c d (H3.out.below (by repeat (first | (with_reducible exact Below.refl _ _) | (with_reducible assumption) | (with_reducible refine below_drewN ?_ _) | (with_reducible refine Below.drew ?_) | (with_reducible refine below_ext_of ?_ (by first | exact Nat.le_refl _ | assumption | (simp only [World.size_alloc, World.size_setCell, size_ext, World.heap_drewN]; omega)) _ _) | (with_reducible refine Below.alloc ?_ (by first | exact Nat.le_refl _ | assumption | (simp only [World.size_alloc, World.size_setCell, size_ext, World.heap_drewN]; omega)) _) | (with_reducible refine Below.setCell ?_ (by first | exact Nat.le_refl _ | assumption | (simp only [World.size_alloc, World.size_setCell, size_ext, World.heap_drewN]; omega)) _)))) (H4.out.below (by repeat (first | (with_reducible exact Below.refl _ _) | (with_reducible assumption) | (with_reducible refine below_drewN ?_ _) | (with_reducible refine Below.drew ?_) | (with_reducible refine below_ext_of ?_ (by first | exact Nat.le_refl _ | assumption | (simp only [World.size_alloc, World.size_setCell, size_ext, World.heap_drewN]; omega)) _ _) | (with_reducible refine Below.alloc ?_ (by first | exact Nat.le_refl _ | assumption | (simp only [World.size_alloc, World.size_setCell, size_ext, World.heap_drewN]; omega)) _) | (with_reducible refine Below.setCell ?_ (by first | exact Nat.le_refl _ | assumption | (simp only [World.size_alloc, World.size_setCell, size_ext, World.heap_drewN]; omega)) _))))).mono ?_
  rintro e w1 ⟨hb, v3, v4, rfl, o3, o4, hap⟩
  rw [hE2]
  obtain ⟨X1, e1, rfl⟩ := below_ext hb
  clear hb hE2 hap
  have r3 := o3.row
  have r4 := o4.row
  have O3 := Lib.hid o3
  have O4 := Lib.hid o4
  clear o3 o4
  obtain ⟨p3, c3, rfl, _, _, _, _⟩ := r3
  obtain ⟨p4, c4, rfl, _, _, _, _⟩ := r4
  obtain ⟨n2, hn2⟩ : ∃ n, n = (nH c d).length := ⟨_, rfl⟩
  obtain ⟨m2, hmm2⟩ : ∃ m, m = (nL c d).length := ⟨_, rfl⟩
  have HN2 := Lib.hid hn2
  have HM2 := Lib.hid hmm2
  rw [← hn2] at t1 O3
  rw [← hmm2] at t2 t3 O4
  rw [← hn2, ← hmm2]
  clear hn2 hmm2
  obtain ⟨M, hM⟩ : ∃ M, M = max n1 n2 := ⟨_, rfl⟩
  obtain ⟨P, hP⟩ : ∃ P, P = Nat.lcm m1 m2 := ⟨_, rfl⟩
  obtain ⟨_, lc2, lc3, lc4⟩ := lcm_nat m1 m2 s3 t3
  have hP0 : 0 < P := by rw [hP]; exact Nat.lcm_pos s2 t2
  rw [← hP] at lc2 lc3
  have HLC := Lib.hid lc3
  have HLB := Lib.hid lc4
  have hMb : M ≤ 4096 := by omega
  have hmx : mxI (n1 : Int) (n2 : Int) = (M : Int) := by unfold mxI; split <;> omega
  have hmx2 : IntKind.i64.wrap (M : Int) = (M : Int) := by rw [IntKind.wrap_i64]; omega
  have HMM := Lib.hid hM
  have HPP := Lib.hid hP
  clear hM hP lc3 lc4
  go_wp2_with fail
  refine (num_lcm (m1 : Int) (m2 : Int) _ (by omega) (by omega) (by omega) (by omega)).mono ?_
  rintro e w2 ⟨rfl, rfl⟩
  rw [HLC.out, HLB.out]
  obtain ⟨n, hn⟩ : ∃ n, n = M + P := ⟨_, rfl⟩
  have HNN := Lib.hid hn
  have q1 : ((M : Int) + (P : Int)) = (n : Int) := by omega
  have q2 : IntKind.i64.wrap ((M : Int) + (P : Int)) = (n : Int) := by rw [IntKind.wrap_i64]; omega
  have q3 : IntKind.i64.wrap (n : Int) = (n : Int) := by rw [IntKind.wrap_i64]; omega
  by_cases hbig : 65536 < n
  · have g1 : (65536 : Int) < n := by omega
    have g2 := decide_eq_true g1
    have g3 : decide ((n : Int) > 65536) = true := g2
    have g4 := decide_eq_true hbig
    have HL : Hid (zipOut 1 (nH a b) (nL a b) (nH c d) (nL c d) = ([], [], 4)) := Lib.hid (by
      unfold zipOut
      rw [if_pos (by rw [← HN1.out, ← HM1.out, ← HN2.out, ← HM2.out, ← HMM.out, ← HPP.out]; omega)])
    clear hn hmx
    go_wp2_with fail
    refine bodyPost_ret (v := .tuple #[.agg #[.slice none 0 0, .slice none 0 0], .int .i64 4]) (by simp [results, Try.results10, go_sem]) rfl ⟨?_, ?_⟩
    · exact below_ext_of (((((Below.refl _ _).alloc (Nat.le_refl _) _).alloc (by simp) _)).alloc (by simp; omega) _) (by simp; omega) _ _
    · rw [HL.out]; exact ⟨_, _, rfl, Fresh.nil _ _, Fresh.nil _ _, Apart.nil⟩
  · have g1 : ¬ ((65536 : Int) < n) := by omega
    have g2 := decide_eq_false g1
    have g3 : decide ((n : Int) > 65536) = false := g2
    have g4 := decide_eq_false hbig
    clear hn
    go_upto_region 10 with (fail)
    obtain ⟨W, hW⟩ : ∃ W, W = ext (((w.alloc (.cells #[.slice p1 n1 c1, .slice p2 m1 c2] 24)).alloc (.cells #[.slice p3 n2 c3, .slice p4 m2 c4] 24)).alloc (.cells #[.slice none 0 0, .slice none 0 0] 24)) (X ++ X1) e1 := ⟨_, rfl⟩
    rw [← hW]
    have hbW : Below w.heap.size w W := by rw [hW]; exact below_ext_of (((((Below.refl _ _).alloc (Nat.le_refl _) _).alloc (by simp) _)).alloc (by simp; omega) _) (by simp; omega) _ _
    have kA0 : W.cell? ⟨w.heap.size, 0, none⟩ = some (.slice p1 n1 c1) := by rw [hW]; simp [go_sem]
    have kA1 : W.cell? ⟨w.heap.size, 1, none⟩ = some (.slice p2 m1 c2) := by rw [hW]; simp [go_sem]
    have kB0 : W.cell? ⟨w.heap.size + 1, 0, none⟩ = some (.slice p3 n2 c3) := by rw [hW]; simp [go_sem]
    have kB1 : W.cell? ⟨w.heap.size + 1, 1, none⟩ = some (.slice p4 m2 c4) := by rw [hW]; simp [go_sem]
    have hz1 : w.heap.size < W.heap.size := by rw [hW]; simp [go_sem]; omega
    have hz2 : w.heap.size + 1 < W.heap.size := by rw [hW]; simp [go_sem]; omega
    have hz3 : w.heap.size + 2 < W.heap.size := by rw [hW]; simp [go_sem]; omega
    have hblk : W.heap[w.heap.size + 2]? = some (.cells #[.slice none 0 0, .slice none 0 0] 24) := by
      rw [hW, (ext_below _ _ _).block _ (by simp)]
      have := heap_alloc_new ((w.alloc (.cells #[.slice p1 n1 c1, .slice p2 m1 c2] 24)).alloc (.cells #[.slice p3 n2 c3, .slice p4 m2 c4] 24)) (.cells #[.slice none 0 0, .slice none 0 0] 24)
      rwa [World.size_alloc, World.size_alloc] at this
    have O1x := O1.out.below (ext_below _ X1 e1)
    have O2x := O2.out.below (ext_below _ X1 e1)
    have O3x := O3.out
    have O4x := O4.out
    rw [ext_ext] at O1x O2x O3x O4x
    have R1 : Hid (RowAt W (.slice p1 n1 c1) (nH a b)) := Lib.hid (by rw [hW]; exact (O1x.ext_swap (by simp) (Nat.le_refl _)).row)
    have R2 : Hid (RowAt W (.slice p2 m1 c2) (nL a b)) := Lib.hid (by rw [hW]; exact (O2x.ext_swap (by simp) (Nat.le_refl _)).row)
    have R3 : Hid (RowAt W (.slice p3 n2 c3) (nH c d)) := Lib.hid (by rw [hW]; exact (O3x.ext_swap (by simp) (le_ext _ _ _ _ (Nat.le_refl _))).row)
    have R4 : Hid (RowAt W (.slice p4 m2 c4) (nL c d)) := Lib.hid (by rw [hW]; exact (O4x.ext_swap (by simp) (le_ext _ _ _ _ (Nat.le_refl _))).row)
    have HBW := Lib.hid hbW
    have HKB := Lib.hid hblk
    clear hW hbW hblk O1x O2x O3x O4x O1 O2 O3 O4 hmx hmx2
    obtain ⟨i0, ii, z0, z1, z2⟩ := info_parts infoI
    obtain ⟨w1, hmk, hown, hgrow⟩ := run_makeSlice_full (P := Try.prog) W W.heap.size 22 2 i0 (.int .i64 0) 1 Try.underlying22 ii z0 z1 .i64 .i64 n (by omega) (by rw [z2]; omega) (by unfold maxLen; omega) (Nat.le_refl _)
    have HO := Lib.hid hown
    have hb1 : Below W.heap.size W w1 := Below.grown (Below.refl _ _) hgrow (Nat.le_refl _) (fun k hk => by cases hk)
    have HB1 := Lib.hid hb1
    clear hown hgrow hb1
    go_wp2_with fail
    have hown1 : Hid (∃ us : List Value, w1.ownsRow W.heap.size 2 1 (.slice (some ⟨W.heap.size, 0, none⟩) n n) n us ∧ us.length = n ∧ ∀ i, i < 0 → us[i]? = some (.int .i64 ((zS 1 (nH a b) (nL a b) (nH c d) (nL c d)) i))) := Lib.hid (by
      have h := HO.out
      exact ⟨_, h, by have := h.1; omega, fun i hi => by omega⟩)
    clear HO hmk z0 z1 z2
    go_loopw [69] (fun i wr => ∃ (j : Nat), i = .int .i64 (j : Int) ∧ j ≤ n ∧ Hid (∃ us : List Value, wr.ownsRow W.heap.size 2 1 (.slice (some ⟨W.heap.size, 0, none⟩) n n) n us ∧ us.length = n ∧ ∀ i, i < j → us[i]? = some (.int .i64 ((zS 1 (nH a b) (nL a b) (nH c d) (nL c d)) i))) ∧ Hid (∀ i, i < j → zB 1 (num (nH a b) (nL a b) i) (num (nH c d) (nL c d) i) = true) ∧ Hid (Below W.heap.size W wr)) (fun i _ => n - (intOf i).toNat)
    case atStart => exact ⟨0, rfl, by omega, hown1, Lib.hid (fun i hi => by omega), HB1⟩
    case round =>
    clear hown1 HB1
    obtain ⟨j, rfl, hjn, hO, hZ, hB⟩ := hrel
    have kA0r := (hB.out.cell (p := ⟨w.heap.size, 0, none⟩) hz1).trans kA0
    have kA1r := (hB.out.cell (p := ⟨w.heap.size, 1, none⟩) hz1).trans kA1
    have kB0r := (hB.out.cell (p := ⟨w.heap.size + 1, 0, none⟩) hz2).trans kB0
    have kB1r := (hB.out.cell (p := ⟨w.heap.size + 1, 1, none⟩) hz2).trans kB1
    have hblk : wr.heap[w.heap.size + 2]? = some (.cells #[.slice none 0 0, .slice none 0 0] 24) := (hB.out.block _ hz3).trans HKB.out
    have k0r : wr.cell? ⟨w.heap.size + 2, 0, none⟩ = some (.slice none 0 0) := by simp [World.cell?, hblk]
    have k1r : wr.cell? ⟨w.heap.size + 2, 1, none⟩ = some (.slice none 0 0) := by simp [World.cell?, hblk]
    have kfr : ∀ o, wr.frozen? ⟨w.heap.size + 2, o, none⟩ = false := fun o => by simp [World.frozen?, hblk]
    have hz1r : w.heap.size < wr.heap.size := Nat.lt_of_lt_of_le hz1 hB.out.size
    have hz2r : w.heap.size + 1 < wr.heap.size := Nat.lt_of_lt_of_le hz2 hB.out.size
    have hzr : w.heap.size + 2 < wr.heap.size := Nat.lt_of_lt_of_le hz3 hB.out.size
    have HKr := Lib.hid hblk
    have HBR := Lib.hid (HBW.out.trans (hB.out.mono HBW.out.size))
    have HBr := Lib.hid hB.out
    clear hblk
    by_cases hj : j < n
    · have u4 : (j : Int) < n := by omega
      have u5 := decide_eq_true u4
      have u6 : (0 : Int) ≤ j := by omega
      have u7 : IntKind.i64.wrap ((j : Int) + 1) = (j : Int) + 1 := by have := HNN.out; rw [IntKind.wrap_i64]; omega
      have u8 : IntKind.i64.wrap (j : Int) = (j : Int) := by rw [IntKind.wrap_i64]; omega
      have S1 : Hid (RowAt wr (.slice p1 n1 c1) (nH a b)) := Lib.hid (R1.out.below hB.out)
      have S2 : Hid (RowAt wr (.slice p2 m1 c2) (nL a b)) := Lib.hid (R2.out.below hB.out)
      have S3 : Hid (RowAt wr (.slice p3 n2 c3) (nH c d)) := Lib.hid (R3.out.below hB.out)
      have S4 : Hid (RowAt wr (.slice p4 m2 c4) (nL c d)) := Lib.hid (R4.out.below hB.out)
      have A1 : ∀ V, Below wr.heap.size wr V → Calls Try.prog 37 #[.agg #[.slice p1 n1 c1, .slice p2 m1 c2], .int .i64 (j : Int)] V fun e w' => e = .returned (.int .i64 (num (nH a b) (nL a b) j)) ∧ Below V.heap.size V w' := fun V hV =>
        at_any _ _ _ (nH a b) (nL a b) j (S1.out.below hV) (S2.out.below hV) (by rw [← HM1.out]; omega) (by omega) (by rw [← HN1.out]; omega)
      have A2 : ∀ V, Below wr.heap.size wr V → Calls Try.prog 37 #[.agg #[.slice p3 n2 c3, .slice p4 m2 c4], .int .i64 (j : Int)] V fun e w' => e = .returned (.int .i64 (num (nH c d) (nL c d) j)) ∧ Below V.heap.size V w' := fun V hV =>
        at_any _ _ _ (nH c d) (nL c d) j (S3.out.below hV) (S4.out.below hV) (by rw [← HM2.out]; omega) (by omega) (by rw [← HN2.out]; omega)
      have HA1 := Lib.hid A1
      have HA2 := Lib.hid A2
      have D1 := fun W' => does1 W' (num (nH a b) (nL a b) j) (num (nH c d) (nL c d) j) (HI1.out j) (HI2.out j)
      have HZS : Hid (zV 1 (num (nH a b) (nL a b) j) (num (nH c d) (nL c d) j) = (zS 1 (nH a b) (nL a b) (nH c d) (nL c d)) j) := Lib.hid rfl
      obtain ⟨us, hu1, hu2, hu3⟩ := hO.out
      have hlt := (hu1.lt W.heap.size rfl).2
      have hc : wr.cell? ⟨W.heap.size, j, none⟩ = some (us[j]'(by omega)) := (hu1.cellAt j (by omega)).trans (List.getElem?_eq_getElem (by omega))
      have hfz := hu1.frozenAt j
      generalize (us[j]'(by omega)) = u0 at hc
      have HU := Lib.hid hu1
      have HU3 := Lib.hid hu3
      clear hu1 hu3 A1 A2 S1 S2 S3 S4
      cases hzb : zB 1 (num (nH a b) (nL a b) j) (num (nH c d) (nL c d) j) with
      | true =>
        rw [hzb] at D1
        have HD1 := Lib.hid D1
        have HZB := Lib.hid hzb
        clear D1 hzb
        go_wp2_with fail
        refine wp_region_held_drew (S := (fun W' => W'.cell? ⟨w.heap.size, 0, none⟩ = some (.slice p1 n1 c1) ∧ W'.cell? ⟨w.heap.size, 1, none⟩ = some (.slice p2 m1 c2) ∧ W'.cell? ⟨w.heap.size + 1, 0, none⟩ = some (.slice p3 n2 c3) ∧ W'.cell? ⟨w.heap.size + 1, 1, none⟩ = some (.slice p4 m2 c4))) (by kernel_rfl) ?hS37 (fun hHeld => ?go37)
        case hS37 =>
          (try dsimp only)
          try go_simp
        case go37 =>
        refine' wpAnyH_take (i := 0) (oi := ⟨_, _, _, _, _, _⟩) (v := ?v38) rfl (by kernel_rfl) (by kernel_rfl) (by kernel_rfl) (fun _ _ _ h => h) (Or.inl ⟨by rfl, ?hy38⟩) (by assumption) ?rest38
        case hy38 =>
          intro w hSw
          (try dsimp only at hSw)
          go_simp
          try (with_reducible rfl)
        case rest38 =>
        (try simp only [Act.put, List.setIfInBounds_toArray, List.set_cons_zero, List.set_cons_succ])
        refine' wpAnyH_take (i := 1) (oi := ⟨_, _, _, _, _, _⟩) (v := ?v39) rfl (by kernel_rfl) (by kernel_rfl) (by kernel_rfl) (fun _ _ _ h => h) (Or.inl ⟨by rfl, ?hy39⟩) (by assumption) ?rest39
        case hy39 =>
          intro w hSw
          (try dsimp only at hSw)
          go_simp
          try (with_reducible rfl)
        case rest39 =>
        (try simp only [Act.put, List.setIfInBounds_toArray, List.set_cons_zero, List.set_cons_succ])
        refine' wpAnyH_take (i := 2) (oi := ⟨_, _, _, _, _, _⟩) (v := ?v40) rfl (by kernel_rfl) (by kernel_rfl) (by kernel_rfl) (fun _ _ _ h => h) (Or.inl ⟨by rfl, ?hy40⟩) (by assumption) ?rest40
        case hy40 =>
          intro w hSw
          (try dsimp only at hSw)
          go_simp
          try (with_reducible rfl)
        case rest40 =>
        (try simp only [Act.put, List.setIfInBounds_toArray, List.set_cons_zero, List.set_cons_succ])
        refine' wpAnyH_take (i := 4) (oi := ⟨_, _, _, _, _, _⟩) (v := ?v41) rfl (by kernel_rfl) (by kernel_rfl) (by kernel_rfl) (fun _ _ _ h => h) (Or.inl ⟨by rfl, ?hy41⟩) (by assumption) ?rest41
        case hy41 =>
          intro w hSw
          (try dsimp only at hSw)
          go_simp
          try (with_reducible rfl)
        case rest41 =>
        (try simp only [Act.put, List.setIfInBounds_toArray, List.set_cons_zero, List.set_cons_succ])
        refine' wpAnyH_take (i := 5) (oi := ⟨_, _, _, _, _, _⟩) (v := ?v42) rfl (by kernel_rfl) (by kernel_rfl) (by kernel_rfl) (fun _ _ _ h => h) (Or.inl ⟨by rfl, ?hy42⟩) (by assumption) ?rest42
        case hy42 =>
          intro w hSw
          (try dsimp only at hSw)
          go_simp
          try (with_reducible rfl)
        case rest42 =>
        (try simp only [Act.put, List.setIfInBounds_toArray, List.set_cons_zero, List.set_cons_succ])
        refine wpAnyH_ready (rs := [3]) (by kernel_rfl) (by simp) ?_
        refine AllReadyH.cons (o := ⟨_, _, _, _, _, _⟩) rfl (fun K hK => ?_) AllReadyH.nil
        go_simp
        (go_at_call 37; refine (HA1.out _ (by repeat (first | (with_reducible exact Below.refl _ _) | (with_reducible assumption) | (with_reducible refine below_drewN ?_ _) | (with_reducible refine Below.drew ?_) | (with_reducible refine below_ext_of ?_ (by first | exact Nat.le_refl _ | assumption | (simp only [World.size_alloc, World.size_setCell, size_ext, World.heap_drewN]; omega)) _ _) | (with_reducible refine Below.alloc ?_ (by first | exact Nat.le_refl _ | assumption | (simp only [World.size_alloc, World.size_setCell, size_ext, World.heap_drewN]; omega)) _) | (with_reducible refine Below.setCell ?_ (by first | exact Nat.le_refl _ | assumption | (simp only [World.size_alloc, World.size_setCell, size_ext, World.heap_drewN]; omega)) _)))).mono ?_; rintro e wx ⟨rfl, hbx⟩; obtain ⟨Xx, dx, rfl⟩ := below_ext hbx; clear hbx; go_simp)
        refine hK.out _ _ ?hS43 (fun hHeld2 => ?go43)
        case hS43 =>
          (try dsimp only)
          try go_simp
        case go43 =>
        clear hK K
        clear hHeld
        have hHeld := hHeld2
        clear hHeld2
        (try simp only [Act.put, List.setIfInBounds_toArray, List.set_cons_zero, List.set_cons_succ])
        refine wpAnyH_ready (rs := [6]) (by kernel_rfl) (by simp) ?_
        refine AllReadyH.cons (o := ⟨_, _, _, _, _, _⟩) rfl (fun K hK => ?_) AllReadyH.nil
        go_simp
        (go_at_call 37; refine (HA2.out _ (by repeat (first | (with_reducible exact Below.refl _ _) | (with_reducible assumption) | (with_reducible refine below_drewN ?_ _) | (with_reducible refine Below.drew ?_) | (with_reducible refine below_ext_of ?_ (by first | exact Nat.le_refl _ | assumption | (simp only [World.size_alloc, World.size_setCell, size_ext, World.heap_drewN]; omega)) _ _) | (with_reducible refine Below.alloc ?_ (by first | exact Nat.le_refl _ | assumption | (simp only [World.size_alloc, World.size_setCell, size_ext, World.heap_drewN]; omega)) _) | (with_reducible refine Below.setCell ?_ (by first | exact Nat.le_refl _ | assumption | (simp only [World.size_alloc, World.size_setCell, size_ext, World.heap_drewN]; omega)) _)))).mono ?_; rintro e wx ⟨rfl, hbx⟩; obtain ⟨Xx, dx, rfl⟩ := below_ext hbx; clear hbx; go_simp)
        refine hK.out _ _ ?hS44 (fun hHeld2 => ?go44)
        case hS44 =>
          (try dsimp only)
          try go_simp
        case go44 =>
        clear hK K
        clear hHeld
        have hHeld := hHeld2
        clear hHeld2
        (try simp only [Act.put, List.setIfInBounds_toArray, List.set_cons_zero, List.set_cons_succ])
        refine wpAnyH_ready (rs := [7]) (by kernel_rfl) (by simp) ?_
        refine AllReadyH.cons (o := ⟨_, _, _, _, _, _⟩) rfl (fun K hK => ?_) AllReadyH.nil
        go_simp
        (go_at_call 49; refine (HD1.out _).mono ?_; rintro e wx ⟨rfl, rfl⟩; go_simp)
        refine hK.out _ _ ?hS45 (fun hHeld2 => ?go45)
        case hS45 =>
          (try dsimp only)
          try go_simp
        case go45 =>
        clear hK K
        clear hHeld
        have hHeld := hHeld2
        clear hHeld2
        (try simp only [Act.put, List.setIfInBounds_toArray, List.set_cons_zero, List.set_cons_succ])
        refine' wpAnyH_take (i := 8) (oi := ⟨_, _, _, _, _, _⟩) (v := ?v46) rfl (by kernel_rfl) (by kernel_rfl) (by kernel_rfl) (fun _ _ _ h => h) (Or.inl ⟨by rfl, ?hy46⟩) (by assumption) ?rest46
        case hy46 =>
          intro w hSw
          (try dsimp only at hSw)
          go_simp
          try (with_reducible rfl)
        case rest46 =>
        (try simp only [Act.put, List.setIfInBounds_toArray, List.set_cons_zero, List.set_cons_succ])
        refine' wpAnyH_take (i := 9) (oi := ⟨_, _, _, _, _, _⟩) (v := ?v47) rfl (by kernel_rfl) (by kernel_rfl) (by kernel_rfl) (fun _ _ _ h => h) (Or.inl ⟨by rfl, ?hy47⟩) (by assumption) ?rest47
        case hy47 =>
          intro w hSw
          (try dsimp only at hSw)
          go_simp
          try (with_reducible rfl)
        case rest47 =>
        (try simp only [Act.put, List.setIfInBounds_toArray, List.set_cons_zero, List.set_cons_succ])
        refine' wpAnyH_take (i := 10) (oi := ⟨_, _, _, _, _, _⟩) (v := ?v48) rfl (by kernel_rfl) (by kernel_rfl) (by kernel_rfl) (fun _ _ _ h => h) (Or.inl ⟨by rfl, ?hy48⟩) (by assumption) ?rest48
        case hy48 =>
          intro w hSw
          (try dsimp only at hSw)
          go_simp
          try (with_reducible rfl)
        case rest48 =>
        (try simp only [Act.put, List.setIfInBounds_toArray, List.set_cons_zero, List.set_cons_succ])
        refine' wpAnyH_take (i := 11) (oi := ⟨_, _, _, _, _, _⟩) (v := ?v49) rfl (by kernel_rfl) (by kernel_rfl) (by kernel_rfl) (fun _ _ _ h => h) (Or.inl ⟨by rfl, ?hy49⟩) (by assumption) ?rest49
        case hy49 =>
          intro w hSw
          (try dsimp only at hSw)
          go_simp
          try (with_reducible rfl)
        case rest49 =>
        (try simp only [Act.put, List.setIfInBounds_toArray, List.set_cons_zero, List.set_cons_succ])
        refine' wpAnyH_take (i := 12) (oi := ⟨_, _, _, _, _, _⟩) (v := ?v50) rfl (by kernel_rfl) (by kernel_rfl) (by kernel_rfl) (fun _ _ _ h => h) (Or.inl ⟨by rfl, ?hy50⟩) (by assumption) ?rest50
        case hy50 =>
          intro w hSw
          (try dsimp only at hSw)
          go_simp
          try (with_reducible rfl)
        case rest50 =>
        (try simp only [Act.put, List.setIfInBounds_toArray, List.set_cons_zero, List.set_cons_succ])
        refine wpAnyH_done (by kernel_rfl) ?_ _
        go_wp2_with fail
        go_roundw
        case measure =>
          simp only [intOf, Int.toNat_natCast]
          omega
        case rel =>
          refine ⟨j + 1, rfl, by omega, Lib.hid ⟨us.set j (.int .i64 (zV 1 (num (nH a b) (nL a b) j) (num (nH c d) (nL c d) j))), own_ext (HU.out.stored j _).1 _ _, by simpa using hu2, fun i hi => ?_⟩, Lib.hid (fun i hi => ?_), Lib.hid (below_ext_of (HBr.out.setCell (p := ⟨W.heap.size, j, none⟩) (Nat.le_refl _) _) (by simpa [World.setCell] using HBr.out.size) _ _)⟩
          · rw [List.getElem?_set]
            by_cases hij : j = i
            · subst hij; rw [if_pos rfl, if_pos (by omega), HZS.out]
            · rw [if_neg hij]; exact HU3.out i (by omega)
          · by_cases hij : i = j
            · subst hij; exact HZB.out
            · exact hZ.out i (by omega)
      | false =>
        rw [hzb] at D1
        have HD1 := Lib.hid D1
        have HZB := Lib.hid hzb
        clear D1 hzb
        have HL : Hid (zipOut 1 (nH a b) (nL a b) (nH c d) (nL c d) = ([], [], 7)) := Lib.hid (by
          unfold zipOut
          rw [← HN1.out, ← HM1.out, ← HN2.out, ← HM2.out, ← HMM.out, ← HPP.out, if_neg (by omega), if_neg (by rw [zOk_not (by omega : j < M + P) HZB.out]; decide)])
        go_wp2_with fail
        refine wp_region_held_drew (S := (fun W' => W'.cell? ⟨w.heap.size, 0, none⟩ = some (.slice p1 n1 c1) ∧ W'.cell? ⟨w.heap.size, 1, none⟩ = some (.slice p2 m1 c2) ∧ W'.cell? ⟨w.heap.size + 1, 0, none⟩ = some (.slice p3 n2 c3) ∧ W'.cell? ⟨w.heap.size + 1, 1, none⟩ = some (.slice p4 m2 c4))) (by kernel_rfl) ?hS51 (fun hHeld => ?go51)
        case hS51 =>
          (try dsimp only)
          try go_simp
        case go51 =>
        refine' wpAnyH_take (i := 0) (oi := ⟨_, _, _, _, _, _⟩) (v := ?v52) rfl (by kernel_rfl) (by kernel_rfl) (by kernel_rfl) (fun _ _ _ h => h) (Or.inl ⟨by rfl, ?hy52⟩) (by assumption) ?rest52
        case hy52 =>
          intro w hSw
          (try dsimp only at hSw)
          go_simp
          try (with_reducible rfl)
        case rest52 =>
        (try simp only [Act.put, List.setIfInBounds_toArray, List.set_cons_zero, List.set_cons_succ])
        refine' wpAnyH_take (i := 1) (oi := ⟨_, _, _, _, _, _⟩) (v := ?v53) rfl (by kernel_rfl) (by kernel_rfl) (by kernel_rfl) (fun _ _ _ h => h) (Or.inl ⟨by rfl, ?hy53⟩) (by assumption) ?rest53
        case hy53 =>
          intro w hSw
          (try dsimp only at hSw)
          go_simp
          try (with_reducible rfl)
        case rest53 =>
        (try simp only [Act.put, List.setIfInBounds_toArray, List.set_cons_zero, List.set_cons_succ])
        refine' wpAnyH_take (i := 2) (oi := ⟨_, _, _, _, _, _⟩) (v := ?v54) rfl (by kernel_rfl) (by kernel_rfl) (by kernel_rfl) (fun _ _ _ h => h) (Or.inl ⟨by rfl, ?hy54⟩) (by assumption) ?rest54
        case hy54 =>
          intro w hSw
          (try dsimp only at hSw)
          go_simp
          try (with_reducible rfl)
        case rest54 =>
        (try simp only [Act.put, List.setIfInBounds_toArray, List.set_cons_zero, List.set_cons_succ])
        refine' wpAnyH_take (i := 4) (oi := ⟨_, _, _, _, _, _⟩) (v := ?v55) rfl (by kernel_rfl) (by kernel_rfl) (by kernel_rfl) (fun _ _ _ h => h) (Or.inl ⟨by rfl, ?hy55⟩) (by assumption) ?rest55
        case hy55 =>
          intro w hSw
          (try dsimp only at hSw)
          go_simp
          try (with_reducible rfl)
        case rest55 =>
        (try simp only [Act.put, List.setIfInBounds_toArray, List.set_cons_zero, List.set_cons_succ])
        refine' wpAnyH_take (i := 5) (oi := ⟨_, _, _, _, _, _⟩) (v := ?v56) rfl (by kernel_rfl) (by kernel_rfl) (by kernel_rfl) (fun _ _ _ h => h) (Or.inl ⟨by rfl, ?hy56⟩) (by assumption) ?rest56
        case hy56 =>
          intro w hSw
          (try dsimp only at hSw)
          go_simp
          try (with_reducible rfl)
        case rest56 =>
        (try simp only [Act.put, List.setIfInBounds_toArray, List.set_cons_zero, List.set_cons_succ])
        refine wpAnyH_ready (rs := [3]) (by kernel_rfl) (by simp) ?_
        refine AllReadyH.cons (o := ⟨_, _, _, _, _, _⟩) rfl (fun K hK => ?_) AllReadyH.nil
        go_simp
        (go_at_call 37; refine (HA1.out _ (by repeat (first | (with_reducible exact Below.refl _ _) | (with_reducible assumption) | (with_reducible refine below_drewN ?_ _) | (with_reducible refine Below.drew ?_) | (with_reducible refine below_ext_of ?_ (by first | exact Nat.le_refl _ | assumption | (simp only [World.size_alloc, World.size_setCell, size_ext, World.heap_drewN]; omega)) _ _) | (with_reducible refine Below.alloc ?_ (by first | exact Nat.le_refl _ | assumption | (simp only [World.size_alloc, World.size_setCell, size_ext, World.heap_drewN]; omega)) _) | (with_reducible refine Below.setCell ?_ (by first | exact Nat.le_refl _ | assumption | (simp only [World.size_alloc, World.size_setCell, size_ext, World.heap_drewN]; omega)) _)))).mono ?_; rintro e wx ⟨rfl, hbx⟩; obtain ⟨Xx, dx, rfl⟩ := below_ext hbx; clear hbx; go_simp)
        refine hK.out _ _ ?hS57 (fun hHeld2 => ?go57)
        case hS57 =>
          (try dsimp only)
          try go_simp
        case go57 =>
        clear hK K
        clear hHeld
        have hHeld := hHeld2
        clear hHeld2
        (try simp only [Act.put, List.setIfInBounds_toArray, List.set_cons_zero, List.set_cons_succ])
        refine wpAnyH_ready (rs := [6]) (by kernel_rfl) (by simp) ?_
        refine AllReadyH.cons (o := ⟨_, _, _, _, _, _⟩) rfl (fun K hK => ?_) AllReadyH.nil
        go_simp
        (go_at_call 37; refine (HA2.out _ (by repeat (first | (with_reducible exact Below.refl _ _) | (with_reducible assumption) | (with_reducible refine below_drewN ?_ _) | (with_reducible refine Below.drew ?_) | (with_reducible refine below_ext_of ?_ (by first | exact Nat.le_refl _ | assumption | (simp only [World.size_alloc, World.size_setCell, size_ext, World.heap_drewN]; omega)) _ _) | (with_reducible refine Below.alloc ?_ (by first | exact Nat.le_refl _ | assumption | (simp only [World.size_alloc, World.size_setCell, size_ext, World.heap_drewN]; omega)) _) | (with_reducible refine Below.setCell ?_ (by first | exact Nat.le_refl _ | assumption | (simp only [World.size_alloc, World.size_setCell, size_ext, World.heap_drewN]; omega)) _)))).mono ?_; rintro e wx ⟨rfl, hbx⟩; obtain ⟨Xx, dx, rfl⟩ := below_ext hbx; clear hbx; go_simp)
        refine hK.out _ _ ?hS58 (fun hHeld2 => ?go58)
        case hS58 =>
          (try dsimp only)
          try go_simp
        case go58 =>
        clear hK K
        clear hHeld
        have hHeld := hHeld2
        clear hHeld2
        (try simp only [Act.put, List.setIfInBounds_toArray, List.set_cons_zero, List.set_cons_succ])
        refine wpAnyH_ready (rs := [7]) (by kernel_rfl) (by simp) ?_
        refine AllReadyH.cons (o := ⟨_, _, _, _, _, _⟩) rfl (fun K hK => ?_) AllReadyH.nil
        go_simp
        (go_at_call 49; refine (HD1.out _).mono ?_; rintro e wx ⟨rfl, rfl⟩; go_simp)
        refine hK.out _ _ ?hS59 (fun hHeld2 => ?go59)
        case hS59 =>
          (try dsimp only)
          try go_simp
        case go59 =>
        clear hK K
        clear hHeld
        have hHeld := hHeld2
        clear hHeld2
        (try simp only [Act.put, List.setIfInBounds_toArray, List.set_cons_zero, List.set_cons_succ])
        refine' wpAnyH_take (i := 8) (oi := ⟨_, _, _, _, _, _⟩) (v := ?v60) rfl (by kernel_rfl) (by kernel_rfl) (by kernel_rfl) (fun _ _ _ h => h) (Or.inl ⟨by rfl, ?hy60⟩) (by assumption) ?rest60
        case hy60 =>
          intro w hSw
          (try dsimp only at hSw)
          go_simp
          try (with_reducible rfl)
        case rest60 =>
        (try simp only [Act.put, List.setIfInBounds_toArray, List.set_cons_zero, List.set_cons_succ])
        refine' wpAnyH_take (i := 9) (oi := ⟨_, _, _, _, _, _⟩) (v := ?v61) rfl (by kernel_rfl) (by kernel_rfl) (by kernel_rfl) (fun _ _ _ h => h) (Or.inl ⟨by rfl, ?hy61⟩) (by assumption) ?rest61
        case hy61 =>
          intro w hSw
          (try dsimp only at hSw)
          go_simp
          try (with_reducible rfl)
        case rest61 =>
        (try simp only [Act.put, List.setIfInBounds_toArray, List.set_cons_zero, List.set_cons_succ])
        refine' wpAnyH_take (i := 10) (oi := ⟨_, _, _, _, _, _⟩) (v := ?v62) rfl (by kernel_rfl) (by kernel_rfl) (by kernel_rfl) (fun _ _ _ h => h) (Or.inl ⟨by rfl, ?hy62⟩) (by assumption) ?rest62
        case hy62 =>
          intro w hSw
          (try dsimp only at hSw)
          go_simp
          try (with_reducible rfl)
        case rest62 =>
        (try simp only [Act.put, List.setIfInBounds_toArray, List.set_cons_zero, List.set_cons_succ])
        refine' wpAnyH_take (i := 11) (oi := ⟨_, _, _, _, _, _⟩) (v := ?v63) rfl (by kernel_rfl) (by kernel_rfl) (by kernel_rfl) (fun _ _ _ h => h) (Or.inl ⟨by rfl, ?hy63⟩) (by assumption) ?rest63
        case hy63 =>
          intro w hSw
          (try dsimp only at hSw)
          go_simp
          try (with_reducible rfl)
        case rest63 =>
        (try simp only [Act.put, List.setIfInBounds_toArray, List.set_cons_zero, List.set_cons_succ])
        refine' wpAnyH_take (i := 12) (oi := ⟨_, _, _, _, _, _⟩) (v := ?v64) rfl (by kernel_rfl) (by kernel_rfl) (by kernel_rfl) (fun _ _ _ h => h) (Or.inl ⟨by rfl, ?hy64⟩) (by assumption) ?rest64
        case hy64 =>
          intro w hSw
          (try dsimp only at hSw)
          go_simp
          try (with_reducible rfl)
        case rest64 =>
        (try simp only [Act.put, List.setIfInBounds_toArray, List.set_cons_zero, List.set_cons_succ])
        refine wpAnyH_done (by kernel_rfl) ?_ _
        go_wp2_with fail
        refine bodyPost_ret (v := .tuple #[.agg #[.slice none 0 0, .slice none 0 0], .int .i64 7]) (by simp [results, Try.results10, go_sem, k0r, k1r, hzr]) rfl ⟨?_, ?_⟩
        · have hB2 := (HBR.out.setCell (p := ⟨w.heap.size + 2, 0, none⟩) (by show _ ≤ w.heap.size + 2; omega) (.slice none 0 0)).setCell (p := ⟨w.heap.size + 2, 1, none⟩) (by show _ ≤ w.heap.size + 2; omega) (.slice none 0 0)
          exact below_ext_of hB2 hB2.size _ _
        · rw [HL.out]; exact ⟨_, _, rfl, Fresh.nil _ _, Fresh.nil _ _, Apart.nil⟩
    · have u4 : ¬ ((j : Int) < n) := by omega
      have u5 := decide_eq_false u4
      obtain rfl : j = n := by omega
      have hNn := HNN.out
      have hrow : RowAt wr (.slice (some ⟨W.heap.size, 0, none⟩) j j) (tab (zS 1 (nH a b) (nL a b) (nH c d) (nL c d)) j) := by
        obtain ⟨us, hu1, hu2, hu3⟩ := hO.out
        have hue : us = vals (tab (zS 1 (nH a b) (nL a b) (nH c d) (nL c d)) j) := by
          apply List.ext_getElem?
          intro i
          by_cases hi : i < j
          · rw [hu3 i hi]; simp [vals, tab, hi]
          · rw [List.getElem?_eq_none (by omega), List.getElem?_eq_none (by simp [vals, tab]; omega)]
        have hlen : (tab (zS 1 (nH a b) (nL a b) (nH c d) (nL c d)) j).length = j := by simp [tab]
        refine row_of (B := W.heap.size) ?_
        rw [hlen, ← hue]
        exact hu1
      have hlen : (tab (zS 1 (nH a b) (nL a b) (nH c d) (nL c d)) j).length = j := by simp [tab]
      have ht1 : (tab (zS 1 (nH a b) (nL a b) (nH c d) (nL c d)) j).take M = (zA 1 (nH a b) (nL a b) (nH c d) (nL c d)) := by
        unfold zA
        rw [← HN1.out, ← HN2.out, ← HMM.out]
        apply List.ext_getElem?
        intro i
        by_cases hi : i < M
        · simp [tab, List.getElem?_take, hi, show i < j by omega]
        · rw [List.getElem?_eq_none (by simp [tab]; omega), List.getElem?_eq_none (by simp [tab]; omega)]
      have ht2 : (tab (zS 1 (nH a b) (nL a b) (nH c d) (nL c d)) j).drop M = (zC 1 (nH a b) (nL a b) (nH c d) (nL c d)) := by
        unfold zC
        rw [← HN1.out, ← HN2.out, ← HMM.out, ← HM1.out, ← HM2.out, ← HPP.out]
        apply List.ext_getElem?
        intro i
        by_cases hi : i < P
        · simp [tab, hi, show M + i < j by omega]
        · rw [List.getElem?_eq_none (by simp [tab]; omega), List.getElem?_eq_none (by simp [tab]; omega)]
      have lA : ((zA 1 (nH a b) (nL a b) (nH c d) (nL c d))).length = M := by rw [← ht1, List.length_take, hlen]; omega
      have lC : ((zC 1 (nH a b) (nL a b) (nH c d) (nL c d))).length = P := by rw [← ht2, List.length_drop, hlen]; omega
      have HL : Hid (zipOut 1 (nH a b) (nL a b) (nH c d) (nL c d) = (outH (zA 1 (nH a b) (nL a b) (nH c d) (nL c d)) (zC 1 (nH a b) (nL a b) (nH c d) (nL c d)), outL (zA 1 (nH a b) (nL a b) (nH c d) (nL c d)) (zC 1 (nH a b) (nL a b) (nH c d) (nL c d)), outE (zA 1 (nH a b) (nL a b) (nH c d) (nL c d)) (zC 1 (nH a b) (nL a b) (nH c d) (nL c d)))) := Lib.hid (by
        unfold zipOut
        rw [← HN1.out, ← HM1.out, ← HN2.out, ← HM2.out, ← HMM.out, ← HPP.out, if_neg (by omega), if_pos (zOk_of (fun i hi => hZ.out i (by omega)))])
      have T1 : Hid (RowAt wr (.slice (some ⟨W.heap.size, 0, none⟩) M j) (zA 1 (nH a b) (nL a b) (nH c d) (nL c d))) := Lib.hid (by rw [← ht1]; exact take_row hrow hlen M (by omega))
      have T2 : Hid (RowAt wr (.slice (some ⟨W.heap.size, M, none⟩) (j - M) (j - M)) (zC 1 (nH a b) (nL a b) (nH c d) (nL c d))) := Lib.hid (by
        have := drop_row hrow hlen M (by omega)
        rwa [ht2, Nat.zero_add] at this)
      have LA := Lib.hid lA
      have LC := Lib.hid lC
      have g1 : M ≤ j := by omega
      have g2 : (M : Int) ≤ j := by omega
      have g3 : ¬ (j = M) := by omega
      have g4 : (0 : Int) ≤ M := by omega
      clear hrow hlen ht1 ht2 lA lC hNn q1 q2
      go_wp2_with fail
      go_region_with (first
        | (go_at_call 38; refine (short_any _ _ _ (zA 1 (nH a b) (nL a b) (nH c d) (nL c d)) (zC 1 (nH a b) (nL a b) (nH c d) (nL c d)) (T1.out.below (by repeat (first | (with_reducible exact Below.refl _ _) | (with_reducible assumption) | (with_reducible refine below_drewN ?_ _) | (with_reducible refine Below.drew ?_) | (with_reducible refine below_ext_of ?_ (by first | exact Nat.le_refl _ | assumption | (simp only [World.size_alloc, World.size_setCell, size_ext, World.heap_drewN]; omega)) _ _) | (with_reducible refine Below.alloc ?_ (by first | exact Nat.le_refl _ | assumption | (simp only [World.size_alloc, World.size_setCell, size_ext, World.heap_drewN]; omega)) _) | (with_reducible refine Below.setCell ?_ (by first | exact Nat.le_refl _ | assumption | (simp only [World.size_alloc, World.size_setCell, size_ext, World.heap_drewN]; omega)) _)))) (T2.out.below (by repeat (first | (with_reducible exact Below.refl _ _) | (with_reducible assumption) | (with_reducible refine below_drewN ?_ _) | (with_reducible refine Below.drew ?_) | (with_reducible refine below_ext_of ?_ (by first | exact Nat.le_refl _ | assumption | (simp only [World.size_alloc, World.size_setCell, size_ext, World.heap_drewN]; omega)) _ _) | (with_reducible refine Below.alloc ?_ (by first | exact Nat.le_refl _ | assumption | (simp only [World.size_alloc, World.size_setCell, size_ext, World.heap_drewN]; omega)) _) | (with_reducible refine Below.setCell ?_ (by first | exact Nat.le_refl _ | assumption | (simp only [World.size_alloc, World.size_setCell, size_ext, World.heap_drewN]; omega)) _)))) (by rw [LC.out]; omega) (by rw [LA.out]; omega) (by have hh := HNN.out; rw [LC.out]; omega)).mono ?_; rintro e w3 ⟨hb, hS⟩
           obtain ⟨v1, v2, rfl, o1, o2, hap⟩ := hS.form
           have Q1 := Lib.hid o1
           have Q2 := Lib.hid o2
           have HAP := Lib.hid hap
           have r1 := o1.row
           have r2 := o2.row
           clear o1 o2 hap
           obtain ⟨y1, f1, rfl, _⟩ := r1
           obtain ⟨y2, f2, rfl, _⟩ := r2
           have HLT := Lib.hid hzr
           have hblk : w3.heap[w.heap.size + 2]? = some (.cells #[.slice none 0 0, .slice none 0 0] 24) := (hb.block _ hzr).trans HKr.out
           have k0 : w3.cell? ⟨w.heap.size + 2, 0, none⟩ = some (.slice none 0 0) := by simp [World.cell?, hblk]
           have k1 : w3.cell? ⟨w.heap.size + 2, 1, none⟩ = some (.slice none 0 0) := by simp [World.cell?, hblk]
           have kf : ∀ o, w3.frozen? ⟨w.heap.size + 2, o, none⟩ = false := fun o => by simp [World.frozen?, hblk]
           have hz : w.heap.size + 2 < w3.heap.size := (Array.getElem?_eq_some_iff.1 hblk).1
           have HB3 := Lib.hid (HBR.out.trans (((Below.refl wr.heap.size wr).drew.trans hb).mono HBR.out.size))
           have HLW := Lib.hid (Nat.lt_of_lt_of_le hz3 hB.out.size)
           clear hb hS hblk
           generalize (outH (zA 1 (nH a b) (nL a b) (nH c d) (nL c d)) (zC 1 (nH a b) (nL a b) (nH c d) (nL c d))).length = y3 at *
           generalize (outL (zA 1 (nH a b) (nL a b) (nH c d) (nL c d)) (zC 1 (nH a b) (nL a b) (nH c d) (nL c d))).length = y4 at *))
      all_goals
        go_wp2_with fail
        refine bodyPost_ret (v := .tuple #[.agg #[.slice y1 y3 f1, .slice y2 y4 f2], .int .i64 (outE (zA 1 (nH a b) (nL a b) (nH c d) (nL c d)) (zC 1 (nH a b) (nL a b) (nH c d) (nL c d)))]) (by simp [results, Try.results10, go_sem, k0, k1, hz]) rfl ⟨?_, ?_⟩
        · exact (HB3.out.setCell (p := ⟨w.heap.size + 2, 0, none⟩) (by show _ ≤ w.heap.size + 2; omega) _).setCell (p := ⟨w.heap.size + 2, 1, none⟩) (by show _ ≤ w.heap.size + 2; omega) _
        · rw [HL.out]
          exact ⟨_, _, rfl, ((Q1.out.put (b := w.heap.size + 2) HLW.out 0 _).put (b := w.heap.size + 2) HLW.out 1 _).mono (by have := HBR.out.size; exact this), ((Q2.out.put (b := w.heap.size + 2) HLW.out 0 _).put (b := w.heap.size + 2) HLW.out 1 _).mono (by have := HBR.out.size; exact this), HAP.out⟩
end Go.Proofs.Ytpcnapmlmhhcpaa
