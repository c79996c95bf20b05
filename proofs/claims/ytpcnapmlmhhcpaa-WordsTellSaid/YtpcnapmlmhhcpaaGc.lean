/-
  The reference's Cons, Drop: contracts.
  Conditions: the rows lie in memory; the word may be.
-/
import Derived.Test.YtpcnapmlmhhcpaaGb
import Derived.WalkKit
import Derived.WalkSpells
import Derived.WalkLawsBesides
import Derived.Deep.QuietTactic
import Derived.BigQuiet
import Derived.Lib.Hide
import Derived.Handy
import Derived.Deep.AppendLies
import Derived.Maps.AppendAt
import Derived.OwnWalk
import Derived.Lib.LazyBuf
import Derived.Deep.DeepCutAuto
import Derived.Deep.RegionLaw
import Derived.Deep.RegionHeld3
import Derived.Deep.RegionWith
import Derived.BigRegion
import Derived.Deep.CutBlock
set_option linter.unusedVariables false
set_option linter.unusedSimpArgs false
namespace Go.Proofs.Ytpcnapmlmhhcpaa
open Go.RowKit 
open Big
attribute [local go_sem] setCell_drewN alloc_drewN size_ext ext_ext ext_drewN ext_drew drewN_ext drew_ext cell?_ext frozen?_ext setCell_ext cell?_past1 frozen?_past1 setCell_past1 cell?_past2 frozen?_past2 setCell_past2 cell?_past3 frozen?_past3 setCell_past3 cell?_past4 frozen?_past4 setCell_past4 cell?_past5 frozen?_past5 setCell_past5 cell?_past6 frozen?_past6 setCell_past6 cell?_past7 frozen?_past7 setCell_past7 cell?_past8 frozen?_past8 setCell_past8

set_option maxRecDepth 100000 in
set_option maxHeartbeats 8000000 in
theorem rcons_call (w : World) (vh vl : Value) (h l x y : List Int) (z : Int) (v : Int) (h1 : RowAt w vh h) (h2 : RowAt w vl l) (hm : may h l = true) (hz : outT (v :: h) l = (x, y, z)) :
    Calls Try.prog 18 #[.int .i64 v, .agg #[vh, vl]] w fun e w' => Below w.heap.size w w' ∧ ∃ p1 c1 p2 c2, e = .returned (.tuple #[.agg #[.slice p1 x.length c1, .slice p2 y.length c2], .int .i64 z]) ∧ RowAt w' (.slice p1 x.length c1) x ∧ RowAt w' (.slice p2 y.length c2) y := by
  have hos := (cons_outS v h l).trans hz
  have hper : Per (Go.Proofs.Ytpcnapmlmhhcpaa.num (v :: h) l) (h.length + 1) l.length := by
    have : Per (Go.Proofs.Ytpcnapmlmhhcpaa.num (v :: h) l) (v :: h).length l.length := num_per
    rwa [List.length_cons] at this
  obtain ⟨s, hs⟩ : ∃ s, s = Go.Proofs.Ytpcnapmlmhhcpaa.num (v :: h) l := ⟨_, rfl⟩
  have HS : Hid (∀ k, Go.Proofs.Ytpcnapmlmhhcpaa.num h l k = s (k + 1)) := Lib.hid (fun k => by rw [hs, num_cons, if_neg (by omega), Nat.add_sub_cancel])
  have HS0 : Hid (s 0 = v) := Lib.hid (by rw [hs, num_cons, if_pos rfl])
  rw [← hs] at hos hper
  clear hs hz
  obtain ⟨m1, m2, m3⟩ := may_len hm
  have H1 := Lib.hid h1
  have H2 := Lib.hid h2
  obtain ⟨ph, ch, rfl, rh⟩ := h1
  obtain ⟨pl, cl, rfl, rl⟩ := h2
  obtain ⟨p, hp⟩ : ∃ p, p = h.length := ⟨_, rfl⟩
  obtain ⟨q, hq⟩ : ∃ q, q = l.length := ⟨_, rfl⟩
  rw [← hp] at m3 hos hper 
  rw [← hq] at m1 m2 hos hper 
  rw [← hp, ← hq]
  have R1 : Hid (RowAt w (.slice ph p ch) h) := Lib.hid (by rw [hp]; exact H1.out)
  have R2 : Hid (RowAt w (.slice pl q cl) l) := Lib.hid (by rw [hq]; exact H2.out)
  have HP := Lib.hid hp
  have HQ := Lib.hid hq
  have HOS := Lib.hid hos
  have HPER := Lib.hid hper
  clear rh rl hm hp hq hos hper H1 H2
  obtain ⟨q2, hq2⟩ : ∃ q2, q2 = 2 * q := ⟨_, rfl⟩
  obtain ⟨n, hn⟩ : ∃ n, n = p + q2 := ⟨_, rfl⟩
  have e1 : ((2 : Int) * (q : Int)) = (q2 : Int) := by omega
  have e2 : IntKind.i64.wrap ((2 : Int) * (q : Int)) = (q2 : Int) := by rw [IntKind.wrap_i64]; omega
  have e3 : ((p : Int) + (q2 : Int)) = (n : Int) := by omega
  have e4 : IntKind.i64.wrap ((p : Int) + (q2 : Int)) = (n : Int) := by rw [IntKind.wrap_i64]; omega
  have e5 : n ≤ 30000 := by omega
  obtain ⟨p1, hp1⟩ : ∃ p1, p1 = p + 1 := ⟨_, rfl⟩
  have e6 : ((p : Int) + 1) = (p1 : Int) := by omega
  have e7 : IntKind.i64.wrap ((p : Int) + 1) = (p1 : Int) := by rw [IntKind.wrap_i64]; omega
  have HN : Hid (n + 1 = p1 + 2 * q) := Lib.hid (by omega)
  have HOS1 : Hid (outS s p1 q = (x, y, z)) := Lib.hid (by rw [hp1]; exact HOS.out)
  have HPER1 : Hid (Per s p1 q) := Lib.hid (by rw [hp1]; exact HPER.out)
  have hp1b : p1 ≤ 5000 := by omega
  clear hq2 hn hp1 HOS HPER
  have HOS := HOS1
  have HPER := HPER1
  clear HOS1 HPER1
  go_enter Try.func18, Try.ntmps18
  go_wp2_with fail
  obtain ⟨W, hW⟩ : ∃ W, W = ((w.alloc (.cells #[.slice ph p ch, .slice pl q cl] 24)).alloc (.cells #[.slice none 0 0, .slice none 0 0] 24)).alloc (.cells #[.int .i64 v] 2) := ⟨_, rfl⟩
  rw [← hW]
  have hbW : Below w.heap.size w W := by
    rw [hW]
    repeat (first | (with_reducible exact Below.refl _ _) | (with_reducible assumption) | (with_reducible refine below_drewN ?_ _) | (with_reducible refine Below.drew ?_) | (with_reducible refine below_ext_of ?_ (by first | exact Nat.le_refl _ | assumption | (simp only [World.size_alloc, World.size_setCell, size_ext, World.heap_drewN]; omega)) _ _) | (with_reducible refine Below.alloc ?_ (by first | exact Nat.le_refl _ | assumption | (simp only [World.size_alloc, World.size_setCell, size_ext, World.heap_drewN]; omega)) _) | (with_reducible refine Below.setCell ?_ (by first | exact Nat.le_refl _ | assumption | (simp only [World.size_alloc, World.size_setCell, size_ext, World.heap_drewN]; omega)) _))
  obtain ⟨Bn, hBn⟩ : ∃ Bn, Bn = w.heap.size + 1 + 1 := ⟨_, rfl⟩
  have hWz := congrArg (fun W => W.heap.size) hW
  simp only [World.size_alloc] at hWz
  have hw1 : w.heap.size < Bn := by omega
  have hw2 : w.heap.size + 1 < Bn := by omega
  have hBW : Bn ≤ W.heap.size := by omega
  clear hWz
  have hf0 : Fresh W Bn (.slice (some ⟨w.heap.size + 1 + 1, 0, none⟩) 1 1) (tab s 1) := by
    have := fresh_one ((w.alloc (.cells #[.slice ph p ch, .slice pl q cl] 24)).alloc (.cells #[.slice none 0 0, .slice none 0 0] 24)) v
    rw [← hW] at this
    rw [World.size_alloc, World.size_alloc] at this
    rw [show tab s 1 = [v] by rw [← HS0.out]; rfl, hBn]
    exact this
  have hbx : W.heap[w.heap.size]? = some (.cells #[.slice ph p ch, .slice pl q cl] 24) := by
    rw [hW]
    repeat (rw [Below.heap_alloc _ _ _ (by simp only [World.size_alloc]; omega)])
    exact heap_alloc_new w _
  have hbr : W.heap[w.heap.size + 1]? = some (.cells #[.slice none 0 0, .slice none 0 0] 24) := by
    rw [hW]
    rw [Below.heap_alloc _ _ _ (by simp only [World.size_alloc]; omega)]
    have := heap_alloc_new (w.alloc (.cells #[.slice ph p ch, .slice pl q cl] 24)) (.cells #[.slice none 0 0, .slice none 0 0] 24)
    rwa [World.size_alloc] at this
  have HBW := Lib.hid hbW
  have HBX := Lib.hid hbx
  have HBR := Lib.hid hbr
  clear hW hbW hbx hbr hBn
  have HF0 := Lib.hid hf0
  clear hf0
  go_loopw [6, 7] (fun i3 i4 wr => ∃ (k : Nat) (V : World), i4 = .int .i64 (k : Int) ∧ k ≤ n ∧ V = wr ∧ Hid (Fresh V Bn i3 (tab s (k + 1))) ∧ Hid (Below Bn W V)) (fun _ i4 _ => n - (intOf i4).toNat)
  case atStart => exact ⟨0, _, rfl, Nat.zero_le _, rfl, HF0, Lib.hid (Below.refl _ _)⟩
  case round =>
  obtain ⟨k, V, rfl, hkn, rfl, hfr, hbv⟩ := hrel
  have hVs := hbv.out.size
  obtain ⟨x0, x1⟩ := cell_of ((hbv.out.block _ hw1).trans HBX.out)
  have hBV : Bn ≤ V.heap.size := Nat.le_trans hBW hVs
  have hv1 : w.heap.size < V.heap.size := by omega
  have hv2 : w.heap.size + 1 < V.heap.size := by omega
  by_cases hlt : k < n
  · have a1 : (k : Int) < n := by omega
    have a2 := decide_eq_true a1
    have a3 : IntKind.i64.wrap ((k : Int) + 1) = (k : Int) + 1 := by rw [IntKind.wrap_i64]; omega
    go_wp2_with (first
      | (go_at_call 34; refine (rat_any _ _ _ h l (k) (R1.out.below (HBW.out.trans (hbv.out.mono (by omega)))) (R2.out.below (HBW.out.trans (hbv.out.mono (by omega)))) (by rw [← HQ.out]; exact m1) (by omega) (by rw [← HP.out]; omega)).mono ?_; rintro e w1 ⟨rfl, hb⟩; obtain ⟨X, d, rfl⟩ := below_ext hb; clear hb; rw [HS.out])
      | (at_builtin
         have hF2 := (hfr.out.below (ext_below V X d)).below (w' := (ext V X d).alloc (.cells #[.int .i64 (s (k + 1))] 2)) ((Below.refl _ _).alloc (Nat.le_refl _) _)
         have hB2 : Below Bn W ((ext V X d).alloc (.cells #[.int .i64 (s (k + 1))] 2)) := (below_ext_of hbv.out hBV X d).alloc (le_ext _ _ _ _ hBV) _
         refine wpList_append_row (by rfl) _ _ (by rfl) Bn u6 (tab s (k + 1)) [s (k + 1)] (some ⟨V.heap.size + X.size, 0, none⟩) 1 1 (by rfl) (by rfl) hF2 (by have := (fresh_one (ext V X d) (s (k + 1))).row; rwa [size_ext] at this) (by rw [tab_length]; simp; omega) (Nat.le_trans hBW hB2.size) ?_
         intro v' w' hf hgrow
         rw [← tab_succ] at hf
         have hbn := Lib.hid (hB2.grown hgrow (Nat.le_trans hBW hB2.size) (fun j hj => (hF2.ge j hj).1))
         have hfn := Lib.hid hf
         clear hf hgrow hF2 hB2))
    go_roundw
    case measure =>
      simp only [intOf, Int.toNat_natCast]
      omega
    case rel => exact ⟨k + 1, w', by go_num, by omega, rfl, hfn, hbn⟩
  · have hk : k = n := by omega
    subst hk
    have a1 : ¬ ((k : Int) < k) := by omega
    have a2 := decide_eq_false a1
    have hrow : Hid (RowAt V u6 (tab s (k + 1))) := Lib.hid hfr.out.row
    go_wp2_with fail
    refine (rshort_call _ u6 s p1 q (k + 1) x y z HN.out hrow.out m1 HPER.out (by omega) (by omega) HOS.out).mono ?_
    rintro e w2 ⟨hb, p1, c1, p2, c2, rfl, r1, r2⟩
    have hbr2 := (hb.block _ hv2).trans ((hbv.out.block _ hw2).trans HBR.out)
    obtain ⟨x4, x5⟩ := cell_of hbr2
    have xf := frozen_of hbr2
    have HBR2 := Lib.hid hbr2
    have HR1 := Lib.hid r1
    have HR2 := Lib.hid r2
    have hz2 : w.heap.size + 1 < w2.heap.size := Nat.lt_of_lt_of_le hv2 hb.size
    have HB2 := Lib.hid (HBW.out.trans ((hbv.out.trans (hb.mono hBV)).mono (Nat.le_of_lt hw1)))
    clear hb hbr2 r1 r2 hrow
    go_wp2_with fail
    have g1 := set_word0 HBR2.out (.slice p1 x.length c1)
    refine bodyPost_ret (v := .tuple #[.agg #[.slice p1 x.length c1, .slice p2 y.length c2], .int .i64 z]) (by simp [results, Try.results18, go_sem, x4, x5, hz2]) rfl ⟨?_, p1, c1, p2, c2, rfl, ?_, ?_⟩
    · exact (HB2.out.setCell (Nat.le_succ _) _).setCell (Nat.le_succ _) _
    · exact (HR1.out.put HBR2.out 0 _).put g1 1 _
    · exact (HR2.out.put HBR2.out 0 _).put g1 1 _
attribute [local go_sem] min_ab max_ab

set_option maxRecDepth 100000 in
set_option maxHeartbeats 8000000 in
theorem rdrop_call (w : World) (vh vl : Value) (h l x y : List Int) (z : Int) (k : Nat) (hk : k < 9223372036854775808) (h1 : RowAt w vh h) (h2 : RowAt w vl l) (hm : may h l = true) (hz : dropT h l k = (x, y, z)) :
    Calls Try.prog 20 #[.agg #[vh, vl], .int .i64 (k : Int)] w fun e w' => Below w.heap.size w w' ∧ ∃ p1 c1 p2 c2, e = .returned (.tuple #[.agg #[.slice p1 x.length c1, .slice p2 y.length c2], .int .i64 z]) ∧ RowAt w' (.slice p1 x.length c1) x ∧ RowAt w' (.slice p2 y.length c2) y := by
  have hos := (drop_outS h l k).trans hz
  have hper := drop_per h l k
  obtain ⟨K, hK⟩ : ∃ K, K = dropK h.length l.length k := ⟨_, rfl⟩
  rw [← hK] at hos hper
  obtain ⟨s, hs⟩ : ∃ s, s = fun i => Go.Proofs.Ytpcnapmlmhhcpaa.num h l (i + K) := ⟨_, rfl⟩
  have HS : Hid (∀ i, Go.Proofs.Ytpcnapmlmhhcpaa.num h l (i + K) = s i) := Lib.hid (fun i => by rw [hs])
  rw [← hs] at hos hper
  clear hs hz
  obtain ⟨m1, m2, m3⟩ := may_len hm
  have H1 := Lib.hid h1
  have H2 := Lib.hid h2
  obtain ⟨ph, ch, rfl, rh⟩ := h1
  obtain ⟨pl, cl, rfl, rl⟩ := h2
  obtain ⟨p, hp⟩ : ∃ p, p = h.length := ⟨_, rfl⟩
  obtain ⟨q, hq⟩ : ∃ q, q = l.length := ⟨_, rfl⟩
  rw [← hp] at m3 hos hper hK
  rw [← hq] at m1 m2 hos hper hK
  rw [← hp, ← hq]
  have R1 : Hid (RowAt w (.slice ph p ch) h) := Lib.hid (by rw [hp]; exact H1.out)
  have R2 : Hid (RowAt w (.slice pl q cl) l) := Lib.hid (by rw [hq]; exact H2.out)
  have HP := Lib.hid hp
  have HQ := Lib.hid hq
  have HOS := Lib.hid hos
  have HPER := Lib.hid hper
  clear rh rl hm hp hq hos hper H1 H2
  obtain ⟨hh, hhh⟩ : ∃ hh, hh = p - k := ⟨_, rfl⟩
  have HOS1 : Hid (outS s hh q = (x, y, z)) := Lib.hid (by rw [hhh]; exact HOS.out)
  have HPER1 : Hid (Per s hh q) := Lib.hid (by rw [hhh]; exact HPER.out)
  clear HOS HPER
  have HOS := HOS1
  have HPER := HPER1
  clear HOS1 HPER1
  have hKb : K ≤ 10000 := by
    rw [hK]; unfold dropK
    have := Nat.mod_lt (k - p) m1
    split <;> omega
  obtain ⟨q2, hq2⟩ : ∃ q2, q2 = 2 * q := ⟨_, rfl⟩
  obtain ⟨n, hn⟩ : ∃ n, n = hh + q2 := ⟨_, rfl⟩
  have e1 : ((2 : Int) * (q : Int)) = (q2 : Int) := by omega
  have e2 : IntKind.i64.wrap ((2 : Int) * (q : Int)) = (q2 : Int) := by rw [IntKind.wrap_i64]; omega
  have e3 : ((hh : Int) + (q2 : Int)) = (n : Int) := by omega
  have e4 : IntKind.i64.wrap ((hh : Int) + (q2 : Int)) = (n : Int) := by rw [IntKind.wrap_i64]; omega
  have e5 : n ≤ 30000 := by omega
  have HN : Hid (n = hh + 2 * q) := Lib.hid (by omega)
  have f0 : IntKind.i64.wrap ((p : Int) - (k : Int)) = (p : Int) - (k : Int) := by rw [IntKind.wrap_i64]; omega
  have f1 : mxI ((p : Int) - (k : Int)) 0 = (hh : Int) := by unfold mxI; split <;> omega
  have hhb : hh ≤ 5000 := by omega
  have HK := Lib.hid hK
  clear hq2 hn hK hhh
  go_enter Try.func20, Try.ntmps20
  go_upto_if 19 with (fail)
  obtain ⟨W, hW⟩ : ∃ W, W = (w.alloc (.cells #[.slice ph p ch, .slice pl q cl] 24)).alloc (.cells #[.slice none 0 0, .slice none 0 0] 24) := ⟨_, rfl⟩
  rw [← hW]
  have hbW : Below w.heap.size w W := by
    rw [hW]
    repeat (first | (with_reducible exact Below.refl _ _) | (with_reducible assumption) | (with_reducible refine below_drewN ?_ _) | (with_reducible refine Below.drew ?_) | (with_reducible refine below_ext_of ?_ (by first | exact Nat.le_refl _ | assumption | (simp only [World.size_alloc, World.size_setCell, size_ext, World.heap_drewN]; omega)) _ _) | (with_reducible refine Below.alloc ?_ (by first | exact Nat.le_refl _ | assumption | (simp only [World.size_alloc, World.size_setCell, size_ext, World.heap_drewN]; omega)) _) | (with_reducible refine Below.setCell ?_ (by first | exact Nat.le_refl _ | assumption | (simp only [World.size_alloc, World.size_setCell, size_ext, World.heap_drewN]; omega)) _))
  obtain ⟨Bn, hBn⟩ : ∃ Bn, Bn = W.heap.size := ⟨_, rfl⟩
  have hWz := congrArg (fun W => W.heap.size) hW
  simp only [World.size_alloc] at hWz
  have hw1 : w.heap.size < Bn := by omega
  have hw2 : w.heap.size + 1 < Bn := by omega
  have hBW : Bn ≤ W.heap.size := by omega
  clear hWz
  have hbx : W.heap[w.heap.size]? = some (.cells #[.slice ph p ch, .slice pl q cl] 24) := by
    rw [hW]
    repeat (rw [Below.heap_alloc _ _ _ (by simp only [World.size_alloc]; omega)])
    exact heap_alloc_new w _
  have hbr : W.heap[w.heap.size + 1]? = some (.cells #[.slice none 0 0, .slice none 0 0] 24) := by
    rw [hW]
    have := heap_alloc_new (w.alloc (.cells #[.slice ph p ch, .slice pl q cl] 24)) (.cells #[.slice none 0 0, .slice none 0 0] 24)
    rwa [World.size_alloc] at this
  have HBW := Lib.hid hbW
  have HBX := Lib.hid hbx
  have HBR := Lib.hid hbr
  clear hW hbW hbx hbr hBn
  obtain ⟨y0, y1⟩ := cell_of HBX.out
  have yw : w.heap.size < W.heap.size := by omega
  go_cut [1] (fun s1 wc => s1 = .int .i64 (K : Int) ∧ ∃ V0, V0 = wc ∧ Hid (Below W.heap.size W V0))
  case first =>
    by_cases hkp : p < k
    · have g1 : (p : Int) < k := by omega
      have g2 : decide ((k : Int) > p) = true := decide_eq_true g1
      obtain ⟨m, hm⟩ : ∃ m, m = k - p := ⟨_, rfl⟩
      obtain ⟨r, hr⟩ : ∃ r, r = m % q := ⟨_, rfl⟩
      have hrq : r < q := by rw [hr]; exact Nat.mod_lt _ m1
      have hKr : K = p + r := by rw [HK.out, hr, hm]; unfold dropK; rw [if_pos hkp]
      have g3 : ((k : Int) - (p : Int)) = (m : Int) := by omega
      have g4 : IntKind.i64.wrap ((k : Int) - (p : Int)) = (m : Int) := by rw [IntKind.wrap_i64]; omega
      have g5 : Int.tmod (m : Int) (q : Int) = (r : Int) := by rw [hr, Int.tmod_eq_emod_of_nonneg (by omega)]; rfl
      have g6 : ((p : Int) + (r : Int)) = (K : Int) := by omega
      have g7 : IntKind.i64.wrap ((p : Int) + (r : Int)) = (K : Int) := by rw [IntKind.wrap_i64]; omega
      have g8 : ¬ ((q : Int) = 0) := by omega
      have g9 : ¬ (q = 0) := by omega
      clear hm hr hKr
      go_wp2_with fail
      go_quiet (fail)
      go_wp2_with fail
      go_meet
      case rel => exact ⟨rfl, _, rfl, Lib.hid (by repeat (first | (with_reducible exact Below.refl _ _) | (with_reducible assumption) | (with_reducible refine below_drewN ?_ _) | (with_reducible refine Below.drew ?_) | (with_reducible refine below_ext_of ?_ (by first | exact Nat.le_refl _ | assumption | (simp only [World.size_alloc, World.size_setCell, size_ext, World.heap_drewN]; omega)) _ _) | (with_reducible refine Below.alloc ?_ (by first | exact Nat.le_refl _ | assumption | (simp only [World.size_alloc, World.size_setCell, size_ext, World.heap_drewN]; omega)) _) | (with_reducible refine Below.setCell ?_ (by first | exact Nat.le_refl _ | assumption | (simp only [World.size_alloc, World.size_setCell, size_ext, World.heap_drewN]; omega)) _)))⟩
    · have g1 : ¬ ((p : Int) < k) := by omega
      have g2 : decide ((k : Int) > p) = false := decide_eq_false g1
      have HKk : Hid (K = k) := Lib.hid (by rw [HK.out]; unfold dropK; rw [if_neg hkp])
      go_wp2_with fail
      go_meet
      case rel => exact ⟨by rw [HKk.out], _, rfl, Lib.hid (Below.refl _ _)⟩
  case rest =>
  obtain ⟨rfl, V0, rfl, hb0⟩ := hcut
  have hb0n := Lib.hid (hb0.out.mono hBW)
  clear hb0 f0 f1 y0 y1
  go_wp2_with fail
  go_loopw [7, 8] (fun i3 i4 wr => ∃ (k : Nat) (V : World), i4 = .int .i64 (k : Int) ∧ k ≤ n ∧ V = wr ∧ Hid (Fresh V Bn i3 (tab s k)) ∧ Hid (Below Bn W V)) (fun _ i4 _ => n - (intOf i4).toNat)
  case atStart => exact ⟨0, _, rfl, Nat.zero_le _, rfl, Lib.hid (Fresh.nil _ _), hb0n⟩
  case round =>
  obtain ⟨k, V, rfl, hkn, rfl, hfr, hbv⟩ := hrel
  have hVs := hbv.out.size
  obtain ⟨x0, x1⟩ := cell_of ((hbv.out.block _ hw1).trans HBX.out)
  have hBV : Bn ≤ V.heap.size := Nat.le_trans hBW hVs
  have hv1 : w.heap.size < V.heap.size := by omega
  have hv2 : w.heap.size + 1 < V.heap.size := by omega
  by_cases hlt : k < n
  · have a1 : (k : Int) < n := by omega
    have a2 := decide_eq_true a1
    have a3 : IntKind.i64.wrap ((k : Int) + 1) = (k : Int) + 1 := by rw [IntKind.wrap_i64]; omega
    obtain ⟨kK, hkK⟩ : ∃ kK, kK = k + K := ⟨_, rfl⟩
    have a4 : ((k : Int) + (K : Int)) = (kK : Int) := by omega
    have a5 : IntKind.i64.wrap ((k : Int) + (K : Int)) = (kK : Int) := by rw [IntKind.wrap_i64]; omega
    have a6 : kK < 100000 := by omega
    have HSK : Hid (Go.Proofs.Ytpcnapmlmhhcpaa.num h l kK = s k) := Lib.hid (by rw [hkK]; exact HS.out k)
    clear hkK
    go_wp2_with (first
      | (go_at_call 34; refine (rat_any _ _ _ h l (kK) (R1.out.below (HBW.out.trans (hbv.out.mono (by omega)))) (R2.out.below (HBW.out.trans (hbv.out.mono (by omega)))) (by rw [← HQ.out]; exact m1) (by omega) (by rw [← HP.out]; omega)).mono ?_; rintro e w1 ⟨rfl, hb⟩; obtain ⟨X, d, rfl⟩ := below_ext hb; clear hb; rw [HSK.out])
      | (at_builtin
         have hF2 := (hfr.out.below (ext_below V X d)).below (w' := (ext V X d).alloc (.cells #[.int .i64 (s k)] 2)) ((Below.refl _ _).alloc (Nat.le_refl _) _)
         have hB2 : Below Bn W ((ext V X d).alloc (.cells #[.int .i64 (s k)] 2)) := (below_ext_of hbv.out hBV X d).alloc (le_ext _ _ _ _ hBV) _
         refine wpList_append_row (by rfl) _ _ (by rfl) Bn u7 (tab s k) [s k] (some ⟨V.heap.size + X.size, 0, none⟩) 1 1 (by rfl) (by rfl) hF2 (by have := (fresh_one (ext V X d) (s k)).row; rwa [size_ext] at this) (by rw [tab_length]; simp; omega) (Nat.le_trans hBW hB2.size) ?_
         intro v' w' hf hgrow
         rw [← tab_succ] at hf
         have hbn := Lib.hid (hB2.grown hgrow (Nat.le_trans hBW hB2.size) (fun j hj => (hF2.ge j hj).1))
         have hfn := Lib.hid hf
         clear hf hgrow hF2 hB2))
    go_roundw
    case measure =>
      simp only [intOf, Int.toNat_natCast]
      omega
    case rel => exact ⟨k + 1, w', by go_num, by omega, rfl, hfn, hbn⟩
  · have hk : k = n := by omega
    subst hk
    have a1 : ¬ ((k : Int) < k) := by omega
    have a2 := decide_eq_false a1
    have hrow : Hid (RowAt V u7 (tab s k)) := Lib.hid hfr.out.row
    go_wp2_with fail
    refine (rshort_call _ u7 s hh q (k) x y z HN.out hrow.out m1 HPER.out (by omega) (by omega) HOS.out).mono ?_
    rintro e w2 ⟨hb, p1, c1, p2, c2, rfl, r1, r2⟩
    have hbr2 := (hb.block _ hv2).trans ((hbv.out.block _ hw2).trans HBR.out)
    obtain ⟨x4, x5⟩ := cell_of hbr2
    have xf := frozen_of hbr2
    have HBR2 := Lib.hid hbr2
    have HR1 := Lib.hid r1
    have HR2 := Lib.hid r2
    have hz2 : w.heap.size + 1 < w2.heap.size := Nat.lt_of_lt_of_le hv2 hb.size
    have HB2 := Lib.hid (HBW.out.trans ((hbv.out.trans (hb.mono hBV)).mono (Nat.le_of_lt hw1)))
    clear hb hbr2 r1 r2 hrow
    go_wp2_with fail
    have g1 := set_word0 HBR2.out (.slice p1 x.length c1)
    refine bodyPost_ret (v := .tuple #[.agg #[.slice p1 x.length c1, .slice p2 y.length c2], .int .i64 z]) (by simp [results, Try.results20, go_sem, x4, x5, hz2]) rfl ⟨?_, p1, c1, p2, c2, rfl, ?_, ?_⟩
    · exact (HB2.out.setCell (Nat.le_succ _) _).setCell (Nat.le_succ _) _
    · exact (HR1.out.put HBR2.out 0 _).put g1 1 _
    · exact (HR2.out.put HBR2.out 0 _).put g1 1 _
end Go.Proofs.Ytpcnapmlmhhcpaa
