/-
  copied and same of the laws: contracts.
  Conditions: the rows lie in memory; at most a hundred thousand numbers.
-/
import Derived.Test.YtpcnapmlmhhcpaaGa
import Derived.Test.YtpcnapmlmhhcpaaCc
import Derived.WalkKit
import Derived.WalkSpells
import Derived.WalkLawsBesides
import Derived.Deep.QuietTactic
import Derived.BigQuiet
import Derived.Lib.Hide
import Derived.Handy
import Derived.Deep.AppendLies
import Derived.Maps.AppendAt
import Derived.OwnWalk
import Derived.Lib.LazyBuf
import Derived.Deep.DeepCutAuto
import Derived.Deep.RegionLaw
import Derived.Deep.RegionHeld3
import Derived.Deep.RegionWith
import Derived.BigRegion
import Derived.Deep.CutBlock
set_option linter.unusedVariables false
set_option linter.unusedSimpArgs false
namespace Go.Proofs.Ytpcnapmlmhhcpaa
open Go.RowKit 
open Big
attribute [local go_sem] setCell_drewN alloc_drewN size_ext ext_ext ext_drewN ext_drew drewN_ext drew_ext cell?_ext frozen?_ext setCell_ext cell?_past1 frozen?_past1 setCell_past1 cell?_past2 frozen?_past2 setCell_past2 cell?_past3 frozen?_past3 setCell_past3 cell?_past4 frozen?_past4 setCell_past4 cell?_past5 frozen?_past5 setCell_past5 cell?_past6 frozen?_past6 setCell_past6 cell?_past7 frozen?_past7 setCell_past7 cell?_past8 frozen?_past8 setCell_past8
attribute [local go_sem] min_ab max_ab

theorem set_oth {W : World} {b c i : Nat} {v : Value} (h : b ≠ c) : (W.setCell ⟨b, i, none⟩ v).heap[c]? = W.heap[c]? := by
  simp only [World.setCell, Array.getElem?_modify]
  rw [if_neg h]
set_option maxRecDepth 100000 in
set_option maxHeartbeats 8000000 in
theorem lsame_true (w : World) (v1 v2 v3 v4 : Value) (a b : List Int) (E : Int) (h1 : RowAt w v1 a) (h2 : RowAt w v2 b) (h3 : RowAt w v3 a) (h4 : RowAt w v4 b) :
    Calls Try.prog 19 #[.agg #[v1, v2], .int .i64 E, .agg #[v3, v4], .int .i64 E] w fun e w' => e = .returned (.bool true) ∧ Below w.heap.size w w' := by
  have R1 := Lib.hid h1
  have R2 := Lib.hid h2
  have R3 := Lib.hid h3
  have R4 := Lib.hid h4
  obtain ⟨p1, c1, rfl, _⟩ := h1
  obtain ⟨p2, c2, rfl, _⟩ := h2
  obtain ⟨p3, c3, rfl, _⟩ := h3
  obtain ⟨p4, c4, rfl, _⟩ := h4
  have hE : (E == E) = true := by simp
  go_enter Try.func19, Try.ntmps19
  go_wp2_with fail
  refine (Equal_same _ _ _ _ _ a b a b (R1.out.below (by repeat (first | (with_reducible exact Below.refl _ _) | (with_reducible assumption) | (with_reducible refine below_drewN ?_ _) | (with_reducible refine Below.drew ?_) | (with_reducible refine below_ext_of ?_ (by first | exact Nat.le_refl _ | assumption | (simp only [World.size_alloc, World.size_setCell, size_ext, World.heap_drewN]; omega)) _ _) | (with_reducible refine Below.alloc ?_ (by first | exact Nat.le_refl _ | assumption | (simp only [World.size_alloc, World.size_setCell, size_ext, World.heap_drewN]; omega)) _) | (with_reducible refine Below.setCell ?_ (by first | exact Nat.le_refl _ | assumption | (simp only [World.size_alloc, World.size_setCell, size_ext, World.heap_drewN]; omega)) _)))) (R2.out.below (by repeat (first | (with_reducible exact Below.refl _ _) | (with_reducible assumption) | (with_reducible refine below_drewN ?_ _) | (with_reducible refine Below.drew ?_) | (with_reducible refine below_ext_of ?_ (by first | exact Nat.le_refl _ | assumption | (simp only [World.size_alloc, World.size_setCell, size_ext, World.heap_drewN]; omega)) _ _) | (with_reducible refine Below.alloc ?_ (by first | exact Nat.le_refl _ | assumption | (simp only [World.size_alloc, World.size_setCell, size_ext, World.heap_drewN]; omega)) _) | (with_reducible refine Below.setCell ?_ (by first | exact Nat.le_refl _ | assumption | (simp only [World.size_alloc, World.size_setCell, size_ext, World.heap_drewN]; omega)) _)))) (R3.out.below (by repeat (first | (with_reducible exact Below.refl _ _) | (with_reducible assumption) | (with_reducible refine below_drewN ?_ _) | (with_reducible refine Below.drew ?_) | (with_reducible refine below_ext_of ?_ (by first | exact Nat.le_refl _ | assumption | (simp only [World.size_alloc, World.size_setCell, size_ext, World.heap_drewN]; omega)) _ _) | (with_reducible refine Below.alloc ?_ (by first | exact Nat.le_refl _ | assumption | (simp only [World.size_alloc, World.size_setCell, size_ext, World.heap_drewN]; omega)) _) | (with_reducible refine Below.setCell ?_ (by first | exact Nat.le_refl _ | assumption | (simp only [World.size_alloc, World.size_setCell, size_ext, World.heap_drewN]; omega)) _)))) (R4.out.below (by repeat (first | (with_reducible exact Below.refl _ _) | (with_reducible assumption) | (with_reducible refine below_drewN ?_ _) | (with_reducible refine Below.drew ?_) | (with_reducible refine below_ext_of ?_ (by first | exact Nat.le_refl _ | assumption | (simp only [World.size_alloc, World.size_setCell, size_ext, World.heap_drewN]; omega)) _ _) | (with_reducible refine Below.alloc ?_ (by first | exact Nat.le_refl _ | assumption | (simp only [World.size_alloc, World.size_setCell, size_ext, World.heap_drewN]; omega)) _) | (with_reducible refine Below.setCell ?_ (by first | exact Nat.le_refl _ | assumption | (simp only [World.size_alloc, World.size_setCell, size_ext, World.heap_drewN]; omega)) _)))) rfl rfl).mono ?_
  rintro e w1 ⟨rfl, hb⟩
  obtain ⟨X, d, rfl⟩ := below_ext hb
  clear hb
  go_wp2_with fail
  go_ret
  exact ⟨rfl, by repeat (first | (with_reducible exact Below.refl _ _) | (with_reducible assumption) | (with_reducible refine below_drewN ?_ _) | (with_reducible refine Below.drew ?_) | (with_reducible refine below_ext_of ?_ (by first | exact Nat.le_refl _ | assumption | (simp only [World.size_alloc, World.size_setCell, size_ext, World.heap_drewN]; omega)) _ _) | (with_reducible refine Below.alloc ?_ (by first | exact Nat.le_refl _ | assumption | (simp only [World.size_alloc, World.size_setCell, size_ext, World.heap_drewN]; omega)) _) | (with_reducible refine Below.setCell ?_ (by first | exact Nat.le_refl _ | assumption | (simp only [World.size_alloc, World.size_setCell, size_ext, World.heap_drewN]; omega)) _))⟩
set_option maxRecDepth 100000 in
set_option maxHeartbeats 8000000 in
theorem copied_call (w : World) (vh vl : Value) (h l : List Int) (h1 : RowAt w vh h) (h2 : RowAt w vl l) (hh : h.length ≤ 100000) (hl : l.length ≤ 100000) :
    Calls Try.prog 12 #[.agg #[vh, vl]] w fun e w' => Below w.heap.size w w' ∧ ∃ p1 c1 p2 c2, e = .returned (.agg #[.slice p1 h.length c1, .slice p2 l.length c2]) ∧ RowAt w' (.slice p1 h.length c1) h ∧ RowAt w' (.slice p2 l.length c2) l := by
  have H1 := Lib.hid h1
  have H2 := Lib.hid h2
  obtain ⟨ph, ch, rfl, rh⟩ := h1
  obtain ⟨pl, cl, rfl, rl⟩ := h2
  obtain ⟨p, hp⟩ : ∃ p, p = h.length := ⟨_, rfl⟩
  obtain ⟨q, hq⟩ : ∃ q, q = l.length := ⟨_, rfl⟩
  rw [← hp, ← hq]
  rw [← hp] at hh
  rw [← hq] at hl
  have R1 : Hid (RowAt w (.slice ph p ch) h) := Lib.hid (by rw [hp]; exact H1.out)
  have R2 : Hid (RowAt w (.slice pl q cl) l) := Lib.hid (by rw [hq]; exact H2.out)
  have HP := Lib.hid hp
  have HQ := Lib.hid hq
  clear rh rl H1 H2 hp hq
  go_enter Try.func12, Try.ntmps12
  go_upto_region 2 with (fail)
  obtain ⟨W, hW⟩ : ∃ W, W = ((w.alloc (.cells #[.slice ph p ch, .slice pl q cl] 24)).alloc (.cells #[.slice none 0 0, .slice none 0 0] 24)).alloc (.cells #[.slice none 0 0, .slice none 0 0] 24) := ⟨_, rfl⟩
  rw [← hW]
  have HBW : Hid (Below w.heap.size w W) := Lib.hid (by
    rw [hW]
    repeat (first | (with_reducible exact Below.refl _ _) | (with_reducible assumption) | (with_reducible refine below_drewN ?_ _) | (with_reducible refine Below.drew ?_) | (with_reducible refine below_ext_of ?_ (by first | exact Nat.le_refl _ | assumption | (simp only [World.size_alloc, World.size_setCell, size_ext, World.heap_drewN]; omega)) _ _) | (with_reducible refine Below.alloc ?_ (by first | exact Nat.le_refl _ | assumption | (simp only [World.size_alloc, World.size_setCell, size_ext, World.heap_drewN]; omega)) _) | (with_reducible refine Below.setCell ?_ (by first | exact Nat.le_refl _ | assumption | (simp only [World.size_alloc, World.size_setCell, size_ext, World.heap_drewN]; omega)) _)))
  have hs0 := congrArg (fun W => W.heap.size) hW
  simp only [World.size_alloc] at hs0
  have K0 : Hid (W.heap[w.heap.size]? = some (.cells #[.slice ph p ch, .slice pl q cl] 24)) := Lib.hid (by
    rw [hW, Below.heap_alloc _ _ _ (by simp only [World.size_alloc]; omega), Below.heap_alloc _ _ _ (by simp only [World.size_alloc]; omega)]
    exact heap_alloc_new w _)
  have K1 : Hid (W.heap[w.heap.size + 1]? = some (.cells #[.slice none 0 0, .slice none 0 0] 24)) := Lib.hid (by
    rw [hW, Below.heap_alloc _ _ _ (by simp only [World.size_alloc]; omega)]
    have := heap_alloc_new (w.alloc (.cells #[.slice ph p ch, .slice pl q cl] 24)) (.cells #[.slice none 0 0, .slice none 0 0] 24)
    rwa [World.size_alloc] at this)
  have K2 : Hid (W.heap[w.heap.size + 1 + 1]? = some (.cells #[.slice none 0 0, .slice none 0 0] 24)) := Lib.hid (by
    rw [hW]
    have := heap_alloc_new ((w.alloc (.cells #[.slice ph p ch, .slice pl q cl] 24)).alloc (.cells #[.slice none 0 0, .slice none 0 0] 24)) (.cells #[.slice none 0 0, .slice none 0 0] 24)
    rwa [World.size_alloc, World.size_alloc] at this)
  have hw0 : w.heap.size < W.heap.size := by omega
  have hw1 : w.heap.size + 1 < W.heap.size := by omega
  have hw2 : w.heap.size + 1 + 1 < W.heap.size := by omega
  clear hW hs0
  obtain ⟨x0, x1⟩ := cell_of K0.out
  obtain ⟨x2, x3⟩ := cell_of K2.out
  have RW := Lib.hid (R1.out.below HBW.out)
  have hlen : ([] : List Int).length + h.length ≤ 1000000 := by
    rw [← HP.out]
    simp
    omega
  go_upto_region 3 with (at_builtin
                         refine wpList_append_row (by rfl) _ _ (by rfl) W.heap.size (.slice none 0 0) [] h ph p ch (by rfl) (by rfl) (Fresh.nil _ _) RW.out hlen (Nat.le_refl _) ?_
                         intro v' w' hf hgrow
                         rw [List.nil_append] at hf
                         obtain ⟨p1, c1, hv⟩ := row_form hf
                         rw [← HP.out] at hv
                         subst hv
                         have hgb := grown_none hgrow
                         have bl := (hgb.block _ hw2).trans K2.out
                         obtain ⟨y0, y1⟩ := cell_of bl
                         have yf := frozen_of bl
                         have hz2 : w.heap.size + 1 + 1 < w'.heap.size := Nat.lt_of_lt_of_le hw2 hgb.size
                         have HB2 := Lib.hid hgb
                         have HL2 := Lib.hid bl
                         have HFr := Lib.hid hf
                         clear hgb bl hf hgrow RW)
  obtain ⟨V, hV⟩ : ∃ V, V = w'.setCell ⟨w.heap.size + 1 + 1, 0, none⟩ (.slice p1 p c1) := ⟨_, rfl⟩
  rw [← hV]
  have HBV : Hid (Below W.heap.size W w') := HB2
  have KV0 : Hid (V.heap[w.heap.size]? = some (.cells #[.slice ph p ch, .slice pl q cl] 24)) := Lib.hid (by rw [hV, set_oth (by omega)]; exact (HB2.out.block _ hw0).trans K0.out)
  have KV1 : Hid (V.heap[w.heap.size + 1]? = some (.cells #[.slice none 0 0, .slice none 0 0] 24)) := Lib.hid (by rw [hV, set_oth (by omega)]; exact (HB2.out.block _ hw1).trans K1.out)
  have KV2 : Hid (V.heap[w.heap.size + 1 + 1]? = some (.cells #[.slice p1 p c1, .slice none 0 0] 24)) := Lib.hid (by rw [hV]; exact set_word0 HL2.out _)
  have RV1 : Hid (RowAt V (.slice p1 p c1) h) := Lib.hid (by rw [hV]; exact (HFr.out.put hw2 0 _).row)
  have HBV : Hid (Below w.heap.size w V) := Lib.hid (by rw [hV]; exact (HBW.out.trans (HB2.out.mono (Nat.le_of_lt hw0))).setCell (Nat.le_trans (Nat.le_succ _) (Nat.le_succ _)) _)
  have RV2 := Lib.hid (R2.out.below HBV.out)
  have hv2 : w.heap.size + 1 + 1 < V.heap.size := by rw [hV, World.size_setCell]; exact hz2
  clear hV HB2 HL2 HFr y0 y1 yf hz2 x0 x1 x2 x3 K0 K1 K2 hw0 hw1 hw2 HBW
  obtain ⟨x0, x1⟩ := cell_of KV0.out
  obtain ⟨x2, x3⟩ := cell_of KV2.out
  have hlen2 : ([] : List Int).length + l.length ≤ 1000000 := by
    rw [← HQ.out]
    simp
    omega
  go_upto_region 4 with (at_builtin
                         refine wpList_append_row (by rfl) _ _ (by rfl) V.heap.size (.slice none 0 0) [] l pl q cl (by rfl) (by rfl) (Fresh.nil _ _) RV2.out hlen2 (Nat.le_refl _) ?_
                         intro v' w3 hf hgrow
                         rw [List.nil_append] at hf
                         obtain ⟨p2, c2, hv⟩ := row_form hf
                         rw [← HQ.out] at hv
                         subst hv
                         have hgb := grown_none hgrow
                         have bl := (hgb.block _ hv2).trans KV2.out
                         obtain ⟨y0, y1⟩ := cell_of bl
                         have yf := frozen_of bl
                         have bl1 := (hgb.block _ (show w.heap.size + 1 < V.heap.size by omega)).trans KV1.out
                         obtain ⟨y2, y3⟩ := cell_of bl1
                         have yf1 := frozen_of bl1
                         have hz2 : w.heap.size + 1 + 1 < w3.heap.size := Nat.lt_of_lt_of_le hv2 hgb.size
                         have hz1 : w.heap.size + 1 < w3.heap.size := by omega
                         have HB2 := Lib.hid hgb
                         have HL2 := Lib.hid bl
                         have HL1 := Lib.hid bl1
                         have HFr := Lib.hid hf
                         clear hgb bl bl1 hf hgrow)
  go_wp2_with fail
  have g0 := set_word1 HL2.out (.slice p2 q c2)
  have g1 : (w3.setCell ⟨w.heap.size + 1 + 1, 1, none⟩ (.slice p2 q c2)).heap[w.heap.size + 1]? = some (.cells #[.slice none 0 0, .slice none 0 0] 24) := by rw [set_oth (by omega)]; exact HL1.out
  have g2 := set_word0 g1 (.slice p1 p c1)
  refine bodyPost_ret (v := .agg #[.slice p1 p c1, .slice p2 q c2]) (by simp [results, Try.results12, go_sem, y2, y3, hz1, hz2]) rfl ⟨?_, p1, c1, p2, c2, rfl, ?_, ?_⟩
  · exact (((HBV.out.trans (HB2.out.mono (by omega))).setCell (Nat.le_trans (Nat.le_succ _) (Nat.le_succ _)) _).setCell (Nat.le_succ _) _).setCell (Nat.le_succ _) _
  · exact ((((RV1.out.below HB2.out).put HL2.out 1 _).put g1 0 _).put g2 1 _)
  · exact ((HFr.out.put hv2 1 _).row.put g1 0 _).put g2 1 _
end Go.Proofs.Ytpcnapmlmhhcpaa
