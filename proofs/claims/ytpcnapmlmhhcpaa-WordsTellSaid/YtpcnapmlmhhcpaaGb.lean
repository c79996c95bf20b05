/-
  The reference's Norm, Cons, Drop: contracts.
  Conditions: the rows lie in memory; the word may be.
-/
import Derived.Test.YtpcnapmlmhhcpaaGa
import Derived.WalkKit
import Derived.WalkSpells
import Derived.WalkLawsBesides
import Derived.Deep.QuietTactic
import Derived.BigQuiet
import Derived.Lib.Hide
import Derived.Handy
import Derived.Deep.AppendLies
import Derived.Maps.AppendAt
import Derived.OwnWalk
import Derived.Lib.LazyBuf
import Derived.Deep.DeepCutAuto
import Derived.Deep.RegionLaw
import Derived.Deep.RegionHeld3
import Derived.Deep.RegionWith
import Derived.BigRegion
import Derived.Deep.CutBlock
set_option linter.unusedVariables false
set_option linter.unusedSimpArgs false
namespace Go.Proofs.Ytpcnapmlmhhcpaa
open Go.RowKit 
open Big
attribute [local go_sem] setCell_drewN alloc_drewN size_ext ext_ext ext_drewN ext_drew drewN_ext drew_ext cell?_ext frozen?_ext setCell_ext cell?_past1 frozen?_past1 setCell_past1 cell?_past2 frozen?_past2 setCell_past2 cell?_past3 frozen?_past3 setCell_past3 cell?_past4 frozen?_past4 setCell_past4 cell?_past5 frozen?_past5 setCell_past5 cell?_past6 frozen?_past6 setCell_past6 cell?_past7 frozen?_past7 setCell_past7 cell?_past8 frozen?_past8 setCell_past8

set_option maxRecDepth 100000 in
set_option maxHeartbeats 8000000 in
theorem rnorm_call (w : World) (vh vl : Value) (h l x y : List Int) (h1 : RowAt w vh h) (h2 : RowAt w vl l) (hm : may h l = true) (hx : nH h l = x) (hy : nL h l = y) :
    Calls Try.prog 33 #[.agg #[vh, vl]] w fun e w' => Below w.heap.size w w' ∧ ∃ p1 c1 p2 c2, e = .returned (.agg #[.slice p1 x.length c1, .slice p2 y.length c2]) ∧ RowAt w' (.slice p1 x.length c1) x ∧ RowAt w' (.slice p2 y.length c2) y := by
  obtain ⟨m1, m2, m3⟩ := may_len hm
  have hos := norm_outS hm
  rw [hx, hy] at hos
  clear hx hy
  have H1 := Lib.hid h1
  have H2 := Lib.hid h2
  obtain ⟨ph, ch, rfl, rh⟩ := h1
  obtain ⟨pl, cl, rfl, rl⟩ := h2
  have hper : Per (Go.Proofs.Ytpcnapmlmhhcpaa.num h l) h.length l.length := num_per
  obtain ⟨s, hs⟩ : ∃ s, s = Go.Proofs.Ytpcnapmlmhhcpaa.num h l := ⟨_, rfl⟩
  have hsv : ∀ k, Go.Proofs.Ytpcnapmlmhhcpaa.num h l k = s k := fun k => by rw [hs]
  rw [← hs] at hos hper
  obtain ⟨p, hp⟩ : ∃ p, p = h.length := ⟨_, rfl⟩
  obtain ⟨q, hq⟩ : ∃ q, q = l.length := ⟨_, rfl⟩
  rw [← hp] at m3 hos hper
  rw [← hq] at m1 m2 hos hper
  rw [← hp, ← hq]
  have R1 : Hid (RowAt w (.slice ph p ch) h) := Lib.hid (by rw [hp]; exact H1.out)
  have R2 : Hid (RowAt w (.slice pl q cl) l) := Lib.hid (by rw [hq]; exact H2.out)
  have HP := Lib.hid hp
  have HQ := Lib.hid hq
  have HS := Lib.hid hsv
  have HOS := Lib.hid hos
  have HPER := Lib.hid hper
  clear rh rl hm hp hq hs hsv hos hper H1 H2
  obtain ⟨q2, hq2⟩ : ∃ q2, q2 = 2 * q := ⟨_, rfl⟩
  obtain ⟨n, hn⟩ : ∃ n, n = p + q2 := ⟨_, rfl⟩
  have e1 : ((2 : Int) * (q : Int)) = (q2 : Int) := by omega
  have e2 : IntKind.i64.wrap ((2 : Int) * (q : Int)) = (q2 : Int) := by rw [IntKind.wrap_i64]; omega
  have e3 : ((p : Int) + (q2 : Int)) = (n : Int) := by omega
  have e4 : IntKind.i64.wrap ((p : Int) + (q2 : Int)) = (n : Int) := by rw [IntKind.wrap_i64]; omega
  have e5 : n ≤ 20000 := by omega
  have HN : Hid (n = p + 2 * q) := Lib.hid (by omega)
  clear hq2 hn
  go_enter Try.func33, Try.ntmps33
  go_wp2_with fail
  obtain ⟨W, hW⟩ : ∃ W, W = (w.alloc (.cells #[.slice ph p ch, .slice pl q cl] 24)).alloc (.cells #[.slice none 0 0, .slice none 0 0] 24) := ⟨_, rfl⟩
  rw [← hW]
  have hbW : Below w.heap.size w W := by rw [hW]; exact ((Below.refl _ _).alloc (Nat.le_refl _) _).alloc (by simp) _
  have hw1 : w.heap.size < W.heap.size := by rw [hW]; simp only [World.size_alloc]; omega
  have hw2 : w.heap.size + 1 < W.heap.size := by rw [hW]; simp [go_sem]
  have hbx : W.heap[w.heap.size]? = some (.cells #[.slice ph p ch, .slice pl q cl] 24) := by
    rw [hW, Below.heap_alloc _ _ _ (by simp)]
    exact heap_alloc_new w _
  have hbr : W.heap[w.heap.size + 1]? = some (.cells #[.slice none 0 0, .slice none 0 0] 24) := by
    rw [hW]
    have := heap_alloc_new (w.alloc (.cells #[.slice ph p ch, .slice pl q cl] 24)) (.cells #[.slice none 0 0, .slice none 0 0] 24)
    rwa [World.size_alloc] at this
  have HBW := Lib.hid hbW
  have HBX := Lib.hid hbx
  have HBR := Lib.hid hbr
  clear hW hbW hbx hbr
  go_loopw [3, 4] (fun i3 i4 wr => ∃ (k : Nat) (V : World), i4 = .int .i64 (k : Int) ∧ k ≤ n ∧ V = wr ∧ Hid (Fresh V W.heap.size i3 (tab s k)) ∧ Hid (Below W.heap.size W V)) (fun _ i4 _ => n - (intOf i4).toNat)
  case atStart => exact ⟨0, _, rfl, Nat.zero_le _, rfl, Lib.hid (Fresh.nil _ _), Lib.hid (Below.refl _ _)⟩
  case round =>
  obtain ⟨k, V, rfl, hkn, rfl, hfr, hbv⟩ := hrel
  have hVs := hbv.out.size
  obtain ⟨x0, x1⟩ := cell_of ((hbv.out.block _ hw1).trans HBX.out)
  have hv1 : w.heap.size < V.heap.size := by omega
  have hv2 : w.heap.size + 1 < V.heap.size := by omega
  by_cases hlt : k < n
  · have a1 : (k : Int) < n := by omega
    have a2 := decide_eq_true a1
    have a3 : IntKind.i64.wrap ((k : Int) + 1) = (k : Int) + 1 := by rw [IntKind.wrap_i64]; omega
    go_wp2_with (first
      | (go_at_call 34; refine (rat_any _ _ _ h l k (R1.out.below (HBW.out.trans (hbv.out.mono (by omega)))) (R2.out.below (HBW.out.trans (hbv.out.mono (by omega)))) (by rw [← HQ.out]; exact m1) (by omega) (by rw [← HP.out]; omega)).mono ?_; rintro e w1 ⟨rfl, hb⟩; obtain ⟨X, d, rfl⟩ := below_ext hb; clear hb; rw [HS.out])
      | (at_builtin
         have hF2 := (hfr.out.below (ext_below V X d)).below (w' := (ext V X d).alloc (.cells #[.int .i64 (s k)] 2)) ((Below.refl _ _).alloc (Nat.le_refl _) _)
         have hB2 : Below W.heap.size W ((ext V X d).alloc (.cells #[.int .i64 (s k)] 2)) := (below_ext_of hbv.out hVs X d).alloc (le_ext _ _ _ _ hVs) _
         refine wpList_append_row (by rfl) _ _ (by rfl) W.heap.size u3 (tab s k) [s k] (some ⟨V.heap.size + X.size, 0, none⟩) 1 1 (by rfl) (by rfl) hF2 (by have := (fresh_one (ext V X d) (s k)).row; rwa [size_ext] at this) (by rw [tab_length]; simp; omega) hB2.size ?_
         intro v' w' hf hgrow
         rw [← tab_succ] at hf
         have hbn := Lib.hid (hB2.grown hgrow hB2.size (fun j hj => (hF2.ge j hj).1))
         have hfn := Lib.hid hf
         clear hf hgrow hF2 hB2))
    go_roundw
    case measure =>
      simp only [intOf, Int.toNat_natCast]
      omega
    case rel => exact ⟨k + 1, w', by go_num, by omega, rfl, hfn, hbn⟩
  · have hk : k = n := by omega
    subst hk
    have a1 : ¬ ((k : Int) < k) := by omega
    have a2 := decide_eq_false a1
    have hrow : Hid (RowAt V u3 (tab s k)) := Lib.hid hfr.out.row
    go_wp2_with fail
    refine (rshort_call _ u3 s p q k x y _ HN.out hrow.out m1 HPER.out (by omega) (by omega) HOS.out).mono ?_
    rintro e w2 ⟨hb, p1, c1, p2, c2, rfl, r1, r2⟩
    have hbr2 := (hb.block _ hv2).trans ((hbv.out.block _ hw2).trans HBR.out)
    obtain ⟨x4, x5⟩ := cell_of hbr2
    have xf := frozen_of hbr2
    have HBR2 := Lib.hid hbr2
    have HR1 := Lib.hid r1
    have HR2 := Lib.hid r2
    have hz2 : w.heap.size + 1 < w2.heap.size := Nat.lt_of_lt_of_le hv2 hb.size
    have HB2 := Lib.hid (HBW.out.trans ((hbv.out.trans (hb.mono hVs)).mono (Nat.le_of_lt hw1)))
    clear hb hbr2 r1 r2 hrow
    go_wp2_with fail
    have g1 := set_word0 HBR2.out (.slice p1 x.length c1)
    refine bodyPost_ret (v := .agg #[.slice p1 x.length c1, .slice p2 y.length c2]) (by simp [results, Try.results33, go_sem, x4, x5, hz2]) rfl ⟨?_, p1, c1, p2, c2, rfl, ?_, ?_⟩
    · exact ((HB2.out.setCell (Nat.le_succ _) _).setCell (Nat.le_succ _) _).alloc (by rw [World.size_setCell, World.size_setCell]; omega) _
    · exact ((HR1.out.put HBR2.out 0 _).put g1 1 _).below ((Below.refl _ _).alloc (Nat.le_refl _) _)
    · exact ((HR2.out.put HBR2.out 0 _).put g1 1 _).below ((Below.refl _ _).alloc (Nat.le_refl _) _)
end Go.Proofs.Ytpcnapmlmhhcpaa
