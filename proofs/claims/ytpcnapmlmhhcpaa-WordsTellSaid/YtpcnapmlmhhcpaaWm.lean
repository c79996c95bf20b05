/-
  words.made: a head and a loop, each number by its place: contract.
  Conditions: the function's contract; at least one number in the loop; at most 400000 numbers.
-/
import Derived.Test.YtpcnapmlmhhcpaaWl
import Derived.WalkKit
import Derived.WalkSpells
import Derived.WalkLawsBesides
import Derived.Deep.QuietTactic
import Derived.BigQuiet
import Derived.Lib.Hide
import Derived.Handy
import Derived.Deep.AppendLies
import Derived.Maps.AppendAt
import Derived.OwnWalk
import Derived.Lib.LazyBuf
import Derived.Deep.DeepCutAuto
import Derived.Deep.RegionLaw
import Derived.Deep.RegionHeld3
import Derived.Deep.RegionWith
import Derived.BigRegion
set_option linter.unusedVariables false
set_option linter.unusedSimpArgs false
namespace Go.Proofs.Ytpcnapmlmhhcpaa
open Go.RowKit 
attribute [local go_sem] setCell_drewN alloc_drewN size_ext ext_ext ext_drewN ext_drew drewN_ext drew_ext cell?_ext frozen?_ext setCell_ext cell?_past1 frozen?_past1 setCell_past1 cell?_past2 frozen?_past2 setCell_past2 cell?_past3 frozen?_past3 setCell_past3 cell?_past4 frozen?_past4 setCell_past4 cell?_past5 frozen?_past5 setCell_past5 cell?_past6 frozen?_past6 setCell_past6 cell?_past7 frozen?_past7 setCell_past7 cell?_past8 frozen?_past8 setCell_past8

def tab (f : Nat → Int) (n : Nat) : List Int := (List.range n).map f
set_option maxRecDepth 100000 in
set_option maxHeartbeats 4000000 in
theorem made_drop (w : World) (a1 a2 : Value) (hN pN : Nat) (f : Nat → Int) (hp : 0 < pN) (hh : hN ≤ 200000) (hl : pN ≤ 200000)
    (hf : ∀ i, i < hN + pN → ∀ w', Below w.heap.size w w' → Calls Try.prog 41 #[.int .i64 (i : Int), a1, a2] w' fun e w'' => e = .returned (.int .i64 (f i)) ∧ Below w'.heap.size w' w'') :
    Calls Try.prog 40 #[.int .i64 (hN : Int), .int .i64 (pN : Int), .func (.func 41) #[] #[a1, a2]] w fun e w' => Below w.heap.size w w' ∧ Norms w' w.heap.size (tab f hN) (tab (fun i => f (hN + i)) pN) e := by
  obtain ⟨i0, hi, hz0, hz1, hz2⟩ := info_parts infoI
  obtain ⟨n, hn⟩ : ∃ n, n = hN + pN := ⟨_, rfl⟩
  have e1 : ((hN : Int) + (pN : Int)) = (n : Int) := by omega
  have e2 : IntKind.i64.wrap ((hN : Int) + (pN : Int)) = (n : Int) := by rw [IntKind.wrap_i64]; omega
  have e3 : IntKind.i64.wrap (n : Int) = (n : Int) := by rw [IntKind.wrap_i64]; omega
  obtain ⟨w1, hmk, hown, hgrow⟩ := run_makeSlice_full (P := Try.prog) (w.alloc (.cells #[.slice none 0 0, .slice none 0 0] 24)) (w.heap.size + 1) 22 2 i0 (.int .i64 0) 1 Try.underlying22 hi hz0 hz1 .i64 .i64 n (by omega) (by rw [hz2]; omega) (by unfold maxLen; omega) (by simp)
  have HF := Lib.hid hf
  have HNN := Lib.hid hn
  clear hn
  have HO := Lib.hid hown
  have HG := Lib.hid hgrow
  clear hf hown hgrow
  go_enter Try.func40, Try.ntmps40
  go_wp2_with fail
  have hb1 : Below w.heap.size w w1 := Below.grown ((Below.refl _ _).alloc (Nat.le_refl _) _) HG.out (by simp) (fun k hk => by cases hk)
  have hblk : w1.heap[w.heap.size]? = some (.cells #[.slice none 0 0, .slice none 0 0] 24) := (HG.out.block w.heap.size (by simp) (by simp)).trans (heap_alloc_new w _)
  have hown1 : Hid (∃ us : List Value, w1.ownsRow (w.heap.size + 1) 2 1 (.slice (some ⟨w.heap.size + 1, 0, none⟩) n n) n us ∧ us.length = n ∧ ∀ i, i < 0 → us[i]? = some (.int .i64 (f i))) := Lib.hid (by
    have h := HO.out
    rw [World.size_alloc] at h
    exact ⟨_, h, by have := h.1; omega, fun i hi => by omega⟩)
  have HB1 := Lib.hid hb1
  have HK1 := Lib.hid hblk
  clear hb1 hblk HO HG hmk e1 e2 hz0 hz1 hz2
  go_loopw [16] (fun i wr => ∃ (j : Nat), i = .int .i64 (j : Int) ∧ j ≤ n ∧ Hid (∃ us : List Value, wr.ownsRow (w.heap.size + 1) 2 1 (.slice (some ⟨w.heap.size + 1, 0, none⟩) n n) n us ∧ us.length = n ∧ ∀ i, i < j → us[i]? = some (.int .i64 (f i))) ∧ Hid (Below w.heap.size w wr) ∧ Hid (wr.heap[w.heap.size]? = some (.cells #[.slice none 0 0, .slice none 0 0] 24))) (fun i _ => n - (intOf i).toNat)
  case atStart => exact ⟨0, rfl, by omega, hown1, HB1, HK1⟩
  case round =>
  clear hown1 HB1 HK1
  obtain ⟨j, rfl, hjn, hO, hB, hK⟩ := hrel
  by_cases hj : j < n
  · have e4 : (j : Int) < n := by omega
    have e5 := decide_eq_true e4
    have e6 : (0 : Int) ≤ j := by omega
    have e7 : IntKind.i64.wrap ((j : Int) + 1) = (j : Int) + 1 := by have := HNN.out; rw [IntKind.wrap_i64]; omega
    go_wp2_with fail
    refine (HF.out j (by have := HNN.out; omega) _ hB.out).mono ?_
    rintro e w2 ⟨rfl, hb2⟩
    obtain ⟨us, hu1, hu2, hu3⟩ := hO.out
    have hlt := (hu1.lt (w.heap.size + 1) rfl).2
    have hu1' : w2.ownsRow (w.heap.size + 1) 2 1 (.slice (some ⟨w.heap.size + 1, 0, none⟩) n n) n us := hu1.kept (row := none) ⟨hb2.os, hb2.tape, hb2.output, hb2.size, fun k hk _ => hb2.block k hk⟩ (by simp [Value.ownBlock])
    have hc : w2.cell? ⟨w.heap.size + 1, j, none⟩ = some (us[j]'(by omega)) := (hu1'.cellAt j (by omega)).trans (List.getElem?_eq_getElem (by omega))
    have hfz := hu1'.frozenAt j
    generalize (us[j]'(by omega)) = u0 at hc
    have HU := Lib.hid hu1'
    have HU3 := Lib.hid hu3
    have hk2 := Lib.hid ((hb2.block w.heap.size (by have := (Array.getElem?_eq_some_iff.1 hK.out).1; exact this)).trans hK.out)
    have hB2 := Lib.hid (hB.out.trans (hb2.mono hB.out.size))
    clear hu1 hu1' hu3 hb2 hO hB hK
    go_wp2_with fail
    go_roundw
    case measure =>
      simp only [intOf, Int.toNat_natCast]
      omega
    case rel =>
      refine ⟨j + 1, rfl, by omega, Lib.hid ⟨us.set j (.int .i64 (f j)), (HU.out.stored j _).1, by simpa using hu2, fun i hi => ?_⟩, Lib.hid (hB2.out.setCell (p := ⟨w.heap.size + 1, j, none⟩) (Nat.le_succ _) _), Lib.hid ?_⟩
      · rw [List.getElem?_set]
        by_cases hij : j = i
        · subst hij; rw [if_pos rfl, if_pos (by omega)]
        · rw [if_neg hij]; exact HU3.out i (by omega)
      · simp only [World.setCell, Array.getElem?_modify]
        rw [if_neg (by omega)]
        exact hk2.out
  · have e4 : ¬ ((j : Int) < n) := by omega
    have e5 := decide_eq_false e4
    obtain rfl : j = n := by omega
    have hN2 := HNN.out
    have hrow : RowAt wr (.slice (some ⟨w.heap.size + 1, 0, none⟩) j j) (tab f j) := by
      obtain ⟨us, hu1, hu2, hu3⟩ := hO.out
      have hue : us = vals (tab f j) := by
        apply List.ext_getElem?
        intro i
        by_cases hi : i < j
        · rw [hu3 i hi]; simp [vals, tab, hi]
        · rw [List.getElem?_eq_none (by omega), List.getElem?_eq_none (by simp [vals, tab]; omega)]
      have hlen : (tab f j).length = j := by simp [tab]
      refine row_of (B := w.heap.size + 1) ?_
      rw [hlen, ← hue]
      exact hu1
    have hlen : (tab f j).length = j := by simp [tab]
    have ht1 : (tab f j).take hN = tab f hN := by
      apply List.ext_getElem?
      intro i
      by_cases hi : i < hN
      · simp [tab, List.getElem?_take, hi, show i < j by omega]
      · rw [List.getElem?_eq_none (by simp [tab]; omega), List.getElem?_eq_none (by simp [tab]; omega)]
    have ht2 : (tab f j).drop hN = tab (fun i => f (hN + i)) pN := by
      apply List.ext_getElem?
      intro i
      by_cases hi : i < pN
      · simp [tab, hi, show hN + i < j by omega]
      · rw [List.getElem?_eq_none (by simp [tab]; omega), List.getElem?_eq_none (by simp [tab]; omega)]
    have R1 : Hid (RowAt wr (.slice (some ⟨w.heap.size + 1, 0, none⟩) hN j) (tab f hN)) := Lib.hid (by rw [← ht1]; exact take_row hrow hlen hN (by omega))
    have R2 : Hid (RowAt wr (.slice (some ⟨w.heap.size + 1, hN, none⟩) (j - hN) (j - hN)) (tab (fun i => f (hN + i)) pN)) := Lib.hid (by
      have := drop_row hrow hlen hN (by omega)
      rwa [ht2, Nat.zero_add] at this)
    have g1 : hN ≤ j := by omega
    have g2 : (hN : Int) ≤ j := by omega
    have g3 : ¬ (j = hN) := by omega
    have g4 : (0 : Int) ≤ hN := by omega
    have HK := hK
    have HBR := hB
    clear hrow hlen ht1 ht2 hO hK hB hN2
    go_wp2_with fail
    go_region_with (first
      | (go_at_call 38; refine (short_any _ _ _ (tab f hN) (tab (fun i => f (hN + i)) pN) (R1.out.below (by repeat (first | (with_reducible exact Below.refl _ _) | (with_reducible assumption) | (with_reducible refine below_drewN ?_ _) | (with_reducible refine Below.drew ?_) | (with_reducible refine below_ext_of ?_ (by first | exact Nat.le_refl _ | assumption | (simp only [World.size_alloc, World.size_setCell, size_ext, World.heap_drewN]; omega)) _ _) | (with_reducible refine Below.alloc ?_ (by first | exact Nat.le_refl _ | assumption | (simp only [World.size_alloc, World.size_setCell, size_ext, World.heap_drewN]; omega)) _) | (with_reducible refine Below.setCell ?_ (by first | exact Nat.le_refl _ | assumption | (simp only [World.size_alloc, World.size_setCell, size_ext, World.heap_drewN]; omega)) _)))) (R2.out.below (by repeat (first | (with_reducible exact Below.refl _ _) | (with_reducible assumption) | (with_reducible refine below_drewN ?_ _) | (with_reducible refine Below.drew ?_) | (with_reducible refine below_ext_of ?_ (by first | exact Nat.le_refl _ | assumption | (simp only [World.size_alloc, World.size_setCell, size_ext, World.heap_drewN]; omega)) _ _) | (with_reducible refine Below.alloc ?_ (by first | exact Nat.le_refl _ | assumption | (simp only [World.size_alloc, World.size_setCell, size_ext, World.heap_drewN]; omega)) _) | (with_reducible refine Below.setCell ?_ (by first | exact Nat.le_refl _ | assumption | (simp only [World.size_alloc, World.size_setCell, size_ext, World.heap_drewN]; omega)) _)))) (by simp [tab]; omega) (by simp [tab]; omega) (by simp [tab]; omega)).mono ?_; rintro e w3 ⟨hb, hS⟩
         obtain ⟨v1, v2, rfl, o1, o2, hap⟩ := hS.form
         have Q1 := Lib.hid o1
         have Q2 := Lib.hid o2
         have HAP := Lib.hid hap
         have r1 := o1.row
         have r2 := o2.row
         clear o1 o2 hap
         obtain ⟨p1, c1, rfl, _⟩ := r1
         obtain ⟨p2, c2, rfl, _⟩ := r2
         have hltw : w.heap.size < wr.heap.size := (Array.getElem?_eq_some_iff.1 HK.out).1
         have HLT := Lib.hid hltw
         have hblk : w3.heap[w.heap.size]? = some (.cells #[.slice none 0 0, .slice none 0 0] 24) := (hb.block _ hltw).trans HK.out
         have k0 : w3.cell? ⟨w.heap.size, 0, none⟩ = some (.slice none 0 0) := by simp [World.cell?, hblk]
         have k1 : w3.cell? ⟨w.heap.size, 1, none⟩ = some (.slice none 0 0) := by simp [World.cell?, hblk]
         have kf : ∀ o, w3.frozen? ⟨w.heap.size, o, none⟩ = false := fun o => by simp [World.frozen?, hblk]
         have hz : w.heap.size < w3.heap.size := (Array.getElem?_eq_some_iff.1 hblk).1
         have HB3 := Lib.hid (HBR.out.trans (((Below.refl wr.heap.size wr).drew.trans hb).mono HBR.out.size))
         have HK3 := Lib.hid hblk
         clear hb hS hblk hltw
         generalize (outH (tab f hN) (tab (fun i => f (hN + i)) pN)).length = q1 at *
         generalize (outL (tab f hN) (tab (fun i => f (hN + i)) pN)).length = q2 at *))
    all_goals
      go_wp2_with fail
      have hb2 : (w3.setCell ⟨w.heap.size, 0, none⟩ (.slice p1 q1 c1)).heap[w.heap.size]? = some (.cells #[.slice p1 q1 c1, .slice none 0 0] 24) := by
        simp only [World.setCell, Array.getElem?_modify, if_pos, HK3.out]; rfl
      refine bodyPost_ret (v := .tuple #[.agg #[.slice p1 q1 c1, .slice p2 q2 c2], .int .i64 (outE (tab f hN) (tab (fun i => f (hN + i)) pN))]) (by simp [results, Try.results40, go_sem, k0, k1, hz]) rfl ⟨?_, _, _, rfl, ((Q1.out.put (b := w.heap.size) HLT.out 0 _).put (b := w.heap.size) HLT.out 1 _).mono (Nat.le_of_lt HLT.out), ((Q2.out.put (b := w.heap.size) HLT.out 0 _).put (b := w.heap.size) HLT.out 1 _).mono (Nat.le_of_lt HLT.out), HAP.out⟩
      exact (HB3.out.setCell (p := ⟨w.heap.size, 0, none⟩) (Nat.le_refl _) _).setCell (p := ⟨w.heap.size, 1, none⟩) (Nat.le_refl _) _
set_option maxRecDepth 100000 in
set_option maxHeartbeats 4000000 in
theorem made_up (w : World) (a1 a2 : Value) (hN pN : Nat) (f : Nat → Int) (hp : 0 < pN) (hh : hN ≤ 200000) (hl : pN ≤ 200000)
    (hf : ∀ i, i < hN + pN → ∀ w', Below w.heap.size w w' → Calls Try.prog 42 #[.int .i64 (i : Int), a1, a2] w' fun e w'' => e = .returned (.int .i64 (f i)) ∧ Below w'.heap.size w' w'') :
    Calls Try.prog 40 #[.int .i64 (hN : Int), .int .i64 (pN : Int), .func (.func 42) #[] #[a1, a2]] w fun e w' => Below w.heap.size w w' ∧ Norms w' w.heap.size (tab f hN) (tab (fun i => f (hN + i)) pN) e := by
  obtain ⟨i0, hi, hz0, hz1, hz2⟩ := info_parts infoI
  obtain ⟨n, hn⟩ : ∃ n, n = hN + pN := ⟨_, rfl⟩
  have e1 : ((hN : Int) + (pN : Int)) = (n : Int) := by omega
  have e2 : IntKind.i64.wrap ((hN : Int) + (pN : Int)) = (n : Int) := by rw [IntKind.wrap_i64]; omega
  have e3 : IntKind.i64.wrap (n : Int) = (n : Int) := by rw [IntKind.wrap_i64]; omega
  obtain ⟨w1, hmk, hown, hgrow⟩ := run_makeSlice_full (P := Try.prog) (w.alloc (.cells #[.slice none 0 0, .slice none 0 0] 24)) (w.heap.size + 1) 22 2 i0 (.int .i64 0) 1 Try.underlying22 hi hz0 hz1 .i64 .i64 n (by omega) (by rw [hz2]; omega) (by unfold maxLen; omega) (by simp)
  have HF := Lib.hid hf
  have HNN := Lib.hid hn
  clear hn
  have HO := Lib.hid hown
  have HG := Lib.hid hgrow
  clear hf hown hgrow
  go_enter Try.func40, Try.ntmps40
  go_wp2_with fail
  have hb1 : Below w.heap.size w w1 := Below.grown ((Below.refl _ _).alloc (Nat.le_refl _) _) HG.out (by simp) (fun k hk => by cases hk)
  have hblk : w1.heap[w.heap.size]? = some (.cells #[.slice none 0 0, .slice none 0 0] 24) := (HG.out.block w.heap.size (by simp) (by simp)).trans (heap_alloc_new w _)
  have hown1 : Hid (∃ us : List Value, w1.ownsRow (w.heap.size + 1) 2 1 (.slice (some ⟨w.heap.size + 1, 0, none⟩) n n) n us ∧ us.length = n ∧ ∀ i, i < 0 → us[i]? = some (.int .i64 (f i))) := Lib.hid (by
    have h := HO.out
    rw [World.size_alloc] at h
    exact ⟨_, h, by have := h.1; omega, fun i hi => by omega⟩)
  have HB1 := Lib.hid hb1
  have HK1 := Lib.hid hblk
  clear hb1 hblk HO HG hmk e1 e2 hz0 hz1 hz2
  go_loopw [16] (fun i wr => ∃ (j : Nat), i = .int .i64 (j : Int) ∧ j ≤ n ∧ Hid (∃ us : List Value, wr.ownsRow (w.heap.size + 1) 2 1 (.slice (some ⟨w.heap.size + 1, 0, none⟩) n n) n us ∧ us.length = n ∧ ∀ i, i < j → us[i]? = some (.int .i64 (f i))) ∧ Hid (Below w.heap.size w wr) ∧ Hid (wr.heap[w.heap.size]? = some (.cells #[.slice none 0 0, .slice none 0 0] 24))) (fun i _ => n - (intOf i).toNat)
  case atStart => exact ⟨0, rfl, by omega, hown1, HB1, HK1⟩
  case round =>
  clear hown1 HB1 HK1
  obtain ⟨j, rfl, hjn, hO, hB, hK⟩ := hrel
  by_cases hj : j < n
  · have e4 : (j : Int) < n := by omega
    have e5 := decide_eq_true e4
    have e6 : (0 : Int) ≤ j := by omega
    have e7 : IntKind.i64.wrap ((j : Int) + 1) = (j : Int) + 1 := by have := HNN.out; rw [IntKind.wrap_i64]; omega
    go_wp2_with fail
    refine (HF.out j (by have := HNN.out; omega) _ hB.out).mono ?_
    rintro e w2 ⟨rfl, hb2⟩
    obtain ⟨us, hu1, hu2, hu3⟩ := hO.out
    have hlt := (hu1.lt (w.heap.size + 1) rfl).2
    have hu1' : w2.ownsRow (w.heap.size + 1) 2 1 (.slice (some ⟨w.heap.size + 1, 0, none⟩) n n) n us := hu1.kept (row := none) ⟨hb2.os, hb2.tape, hb2.output, hb2.size, fun k hk _ => hb2.block k hk⟩ (by simp [Value.ownBlock])
    have hc : w2.cell? ⟨w.heap.size + 1, j, none⟩ = some (us[j]'(by omega)) := (hu1'.cellAt j (by omega)).trans (List.getElem?_eq_getElem (by omega))
    have hfz := hu1'.frozenAt j
    generalize (us[j]'(by omega)) = u0 at hc
    have HU := Lib.hid hu1'
    have HU3 := Lib.hid hu3
    have hk2 := Lib.hid ((hb2.block w.heap.size (by have := (Array.getElem?_eq_some_iff.1 hK.out).1; exact this)).trans hK.out)
    have hB2 := Lib.hid (hB.out.trans (hb2.mono hB.out.size))
    clear hu1 hu1' hu3 hb2 hO hB hK
    go_wp2_with fail
    go_roundw
    case measure =>
      simp only [intOf, Int.toNat_natCast]
      omega
    case rel =>
      refine ⟨j + 1, rfl, by omega, Lib.hid ⟨us.set j (.int .i64 (f j)), (HU.out.stored j _).1, by simpa using hu2, fun i hi => ?_⟩, Lib.hid (hB2.out.setCell (p := ⟨w.heap.size + 1, j, none⟩) (Nat.le_succ _) _), Lib.hid ?_⟩
      · rw [List.getElem?_set]
        by_cases hij : j = i
        · subst hij; rw [if_pos rfl, if_pos (by omega)]
        · rw [if_neg hij]; exact HU3.out i (by omega)
      · simp only [World.setCell, Array.getElem?_modify]
        rw [if_neg (by omega)]
        exact hk2.out
  · have e4 : ¬ ((j : Int) < n) := by omega
    have e5 := decide_eq_false e4
    obtain rfl : j = n := by omega
    have hN2 := HNN.out
    have hrow : RowAt wr (.slice (some ⟨w.heap.size + 1, 0, none⟩) j j) (tab f j) := by
      obtain ⟨us, hu1, hu2, hu3⟩ := hO.out
      have hue : us = vals (tab f j) := by
        apply List.ext_getElem?
        intro i
        by_cases hi : i < j
        · rw [hu3 i hi]; simp [vals, tab, hi]
        · rw [List.getElem?_eq_none (by omega), List.getElem?_eq_none (by simp [vals, tab]; omega)]
      have hlen : (tab f j).length = j := by simp [tab]
      refine row_of (B := w.heap.size + 1) ?_
      rw [hlen, ← hue]
      exact hu1
    have hlen : (tab f j).length = j := by simp [tab]
    have ht1 : (tab f j).take hN = tab f hN := by
      apply List.ext_getElem?
      intro i
      by_cases hi : i < hN
      · simp [tab, List.getElem?_take, hi, show i < j by omega]
      · rw [List.getElem?_eq_none (by simp [tab]; omega), List.getElem?_eq_none (by simp [tab]; omega)]
    have ht2 : (tab f j).drop hN = tab (fun i => f (hN + i)) pN := by
      apply List.ext_getElem?
      intro i
      by_cases hi : i < pN
      · simp [tab, hi, show hN + i < j by omega]
      · rw [List.getElem?_eq_none (by simp [tab]; omega), List.getElem?_eq_none (by simp [tab]; omega)]
    have R1 : Hid (RowAt wr (.slice (some ⟨w.heap.size + 1, 0, none⟩) hN j) (tab f hN)) := Lib.hid (by rw [← ht1]; exact take_row hrow hlen hN (by omega))
    have R2 : Hid (RowAt wr (.slice (some ⟨w.heap.size + 1, hN, none⟩) (j - hN) (j - hN)) (tab (fun i => f (hN + i)) pN)) := Lib.hid (by
      have := drop_row hrow hlen hN (by omega)
      rwa [ht2, Nat.zero_add] at this)
    have g1 : hN ≤ j := by omega
    have g2 : (hN : Int) ≤ j := by omega
    have g3 : ¬ (j = hN) := by omega
    have g4 : (0 : Int) ≤ hN := by omega
    have HK := hK
    have HBR := hB
    clear hrow hlen ht1 ht2 hO hK hB hN2
    go_wp2_with fail
    go_region_with (first
      | (go_at_call 38; refine (short_any _ _ _ (tab f hN) (tab (fun i => f (hN + i)) pN) (R1.out.below (by repeat (first | (with_reducible exact Below.refl _ _) | (with_reducible assumption) | (with_reducible refine below_drewN ?_ _) | (with_reducible refine Below.drew ?_) | (with_reducible refine below_ext_of ?_ (by first | exact Nat.le_refl _ | assumption | (simp only [World.size_alloc, World.size_setCell, size_ext, World.heap_drewN]; omega)) _ _) | (with_reducible refine Below.alloc ?_ (by first | exact Nat.le_refl _ | assumption | (simp only [World.size_alloc, World.size_setCell, size_ext, World.heap_drewN]; omega)) _) | (with_reducible refine Below.setCell ?_ (by first | exact Nat.le_refl _ | assumption | (simp only [World.size_alloc, World.size_setCell, size_ext, World.heap_drewN]; omega)) _)))) (R2.out.below (by repeat (first | (with_reducible exact Below.refl _ _) | (with_reducible assumption) | (with_reducible refine below_drewN ?_ _) | (with_reducible refine Below.drew ?_) | (with_reducible refine below_ext_of ?_ (by first | exact Nat.le_refl _ | assumption | (simp only [World.size_alloc, World.size_setCell, size_ext, World.heap_drewN]; omega)) _ _) | (with_reducible refine Below.alloc ?_ (by first | exact Nat.le_refl _ | assumption | (simp only [World.size_alloc, World.size_setCell, size_ext, World.heap_drewN]; omega)) _) | (with_reducible refine Below.setCell ?_ (by first | exact Nat.le_refl _ | assumption | (simp only [World.size_alloc, World.size_setCell, size_ext, World.heap_drewN]; omega)) _)))) (by simp [tab]; omega) (by simp [tab]; omega) (by simp [tab]; omega)).mono ?_; rintro e w3 ⟨hb, hS⟩
         obtain ⟨v1, v2, rfl, o1, o2, hap⟩ := hS.form
         have Q1 := Lib.hid o1
         have Q2 := Lib.hid o2
         have HAP := Lib.hid hap
         have r1 := o1.row
         have r2 := o2.row
         clear o1 o2 hap
         obtain ⟨p1, c1, rfl, _⟩ := r1
         obtain ⟨p2, c2, rfl, _⟩ := r2
         have hltw : w.heap.size < wr.heap.size := (Array.getElem?_eq_some_iff.1 HK.out).1
         have HLT := Lib.hid hltw
         have hblk : w3.heap[w.heap.size]? = some (.cells #[.slice none 0 0, .slice none 0 0] 24) := (hb.block _ hltw).trans HK.out
         have k0 : w3.cell? ⟨w.heap.size, 0, none⟩ = some (.slice none 0 0) := by simp [World.cell?, hblk]
         have k1 : w3.cell? ⟨w.heap.size, 1, none⟩ = some (.slice none 0 0) := by simp [World.cell?, hblk]
         have kf : ∀ o, w3.frozen? ⟨w.heap.size, o, none⟩ = false := fun o => by simp [World.frozen?, hblk]
         have hz : w.heap.size < w3.heap.size := (Array.getElem?_eq_some_iff.1 hblk).1
         have HB3 := Lib.hid (HBR.out.trans (((Below.refl wr.heap.size wr).drew.trans hb).mono HBR.out.size))
         have HK3 := Lib.hid hblk
         clear hb hS hblk hltw
         generalize (outH (tab f hN) (tab (fun i => f (hN + i)) pN)).length = q1 at *
         generalize (outL (tab f hN) (tab (fun i => f (hN + i)) pN)).length = q2 at *))
    all_goals
      go_wp2_with fail
      have hb2 : (w3.setCell ⟨w.heap.size, 0, none⟩ (.slice p1 q1 c1)).heap[w.heap.size]? = some (.cells #[.slice p1 q1 c1, .slice none 0 0] 24) := by
        simp only [World.setCell, Array.getElem?_modify, if_pos, HK3.out]; rfl
      refine bodyPost_ret (v := .tuple #[.agg #[.slice p1 q1 c1, .slice p2 q2 c2], .int .i64 (outE (tab f hN) (tab (fun i => f (hN + i)) pN))]) (by simp [results, Try.results40, go_sem, k0, k1, hz]) rfl ⟨?_, _, _, rfl, ((Q1.out.put (b := w.heap.size) HLT.out 0 _).put (b := w.heap.size) HLT.out 1 _).mono (Nat.le_of_lt HLT.out), ((Q2.out.put (b := w.heap.size) HLT.out 0 _).put (b := w.heap.size) HLT.out 1 _).mono (Nat.le_of_lt HLT.out), HAP.out⟩
      exact (HB3.out.setCell (p := ⟨w.heap.size, 0, none⟩) (Nat.le_refl _) _).setCell (p := ⟨w.heap.size, 1, none⟩) (Nat.le_refl _) _
set_option maxRecDepth 100000 in
set_option maxHeartbeats 4000000 in
theorem made_down (w : World) (a1 a2 : Value) (hN pN : Nat) (f : Nat → Int) (hp : 0 < pN) (hh : hN ≤ 200000) (hl : pN ≤ 200000)
    (hf : ∀ i, i < hN + pN → ∀ w', Below w.heap.size w w' → Calls Try.prog 43 #[.int .i64 (i : Int), a1, a2] w' fun e w'' => e = .returned (.int .i64 (f i)) ∧ Below w'.heap.size w' w'') :
    Calls Try.prog 40 #[.int .i64 (hN : Int), .int .i64 (pN : Int), .func (.func 43) #[] #[a1, a2]] w fun e w' => Below w.heap.size w w' ∧ Norms w' w.heap.size (tab f hN) (tab (fun i => f (hN + i)) pN) e := by
  obtain ⟨i0, hi, hz0, hz1, hz2⟩ := info_parts infoI
  obtain ⟨n, hn⟩ : ∃ n, n = hN + pN := ⟨_, rfl⟩
  have e1 : ((hN : Int) + (pN : Int)) = (n : Int) := by omega
  have e2 : IntKind.i64.wrap ((hN : Int) + (pN : Int)) = (n : Int) := by rw [IntKind.wrap_i64]; omega
  have e3 : IntKind.i64.wrap (n : Int) = (n : Int) := by rw [IntKind.wrap_i64]; omega
  obtain ⟨w1, hmk, hown, hgrow⟩ := run_makeSlice_full (P := Try.prog) (w.alloc (.cells #[.slice none 0 0, .slice none 0 0] 24)) (w.heap.size + 1) 22 2 i0 (.int .i64 0) 1 Try.underlying22 hi hz0 hz1 .i64 .i64 n (by omega) (by rw [hz2]; omega) (by unfold maxLen; omega) (by simp)
  have HF := Lib.hid hf
  have HNN := Lib.hid hn
  clear hn
  have HO := Lib.hid hown
  have HG := Lib.hid hgrow
  clear hf hown hgrow
  go_enter Try.func40, Try.ntmps40
  go_wp2_with fail
  have hb1 : Below w.heap.size w w1 := Below.grown ((Below.refl _ _).alloc (Nat.le_refl _) _) HG.out (by simp) (fun k hk => by cases hk)
  have hblk : w1.heap[w.heap.size]? = some (.cells #[.slice none 0 0, .slice none 0 0] 24) := (HG.out.block w.heap.size (by simp) (by simp)).trans (heap_alloc_new w _)
  have hown1 : Hid (∃ us : List Value, w1.ownsRow (w.heap.size + 1) 2 1 (.slice (some ⟨w.heap.size + 1, 0, none⟩) n n) n us ∧ us.length = n ∧ ∀ i, i < 0 → us[i]? = some (.int .i64 (f i))) := Lib.hid (by
    have h := HO.out
    rw [World.size_alloc] at h
    exact ⟨_, h, by have := h.1; omega, fun i hi => by omega⟩)
  have HB1 := Lib.hid hb1
  have HK1 := Lib.hid hblk
  clear hb1 hblk HO HG hmk e1 e2 hz0 hz1 hz2
  go_loopw [16] (fun i wr => ∃ (j : Nat), i = .int .i64 (j : Int) ∧ j ≤ n ∧ Hid (∃ us : List Value, wr.ownsRow (w.heap.size + 1) 2 1 (.slice (some ⟨w.heap.size + 1, 0, none⟩) n n) n us ∧ us.length = n ∧ ∀ i, i < j → us[i]? = some (.int .i64 (f i))) ∧ Hid (Below w.heap.size w wr) ∧ Hid (wr.heap[w.heap.size]? = some (.cells #[.slice none 0 0, .slice none 0 0] 24))) (fun i _ => n - (intOf i).toNat)
  case atStart => exact ⟨0, rfl, by omega, hown1, HB1, HK1⟩
  case round =>
  clear hown1 HB1 HK1
  obtain ⟨j, rfl, hjn, hO, hB, hK⟩ := hrel
  by_cases hj : j < n
  · have e4 : (j : Int) < n := by omega
    have e5 := decide_eq_true e4
    have e6 : (0 : Int) ≤ j := by omega
    have e7 : IntKind.i64.wrap ((j : Int) + 1) = (j : Int) + 1 := by have := HNN.out; rw [IntKind.wrap_i64]; omega
    go_wp2_with fail
    refine (HF.out j (by have := HNN.out; omega) _ hB.out).mono ?_
    rintro e w2 ⟨rfl, hb2⟩
    obtain ⟨us, hu1, hu2, hu3⟩ := hO.out
    have hlt := (hu1.lt (w.heap.size + 1) rfl).2
    have hu1' : w2.ownsRow (w.heap.size + 1) 2 1 (.slice (some ⟨w.heap.size + 1, 0, none⟩) n n) n us := hu1.kept (row := none) ⟨hb2.os, hb2.tape, hb2.output, hb2.size, fun k hk _ => hb2.block k hk⟩ (by simp [Value.ownBlock])
    have hc : w2.cell? ⟨w.heap.size + 1, j, none⟩ = some (us[j]'(by omega)) := (hu1'.cellAt j (by omega)).trans (List.getElem?_eq_getElem (by omega))
    have hfz := hu1'.frozenAt j
    generalize (us[j]'(by omega)) = u0 at hc
    have HU := Lib.hid hu1'
    have HU3 := Lib.hid hu3
    have hk2 := Lib.hid ((hb2.block w.heap.size (by have := (Array.getElem?_eq_some_iff.1 hK.out).1; exact this)).trans hK.out)
    have hB2 := Lib.hid (hB.out.trans (hb2.mono hB.out.size))
    clear hu1 hu1' hu3 hb2 hO hB hK
    go_wp2_with fail
    go_roundw
    case measure =>
      simp only [intOf, Int.toNat_natCast]
      omega
    case rel =>
      refine ⟨j + 1, rfl, by omega, Lib.hid ⟨us.set j (.int .i64 (f j)), (HU.out.stored j _).1, by simpa using hu2, fun i hi => ?_⟩, Lib.hid (hB2.out.setCell (p := ⟨w.heap.size + 1, j, none⟩) (Nat.le_succ _) _), Lib.hid ?_⟩
      · rw [List.getElem?_set]
        by_cases hij : j = i
        · subst hij; rw [if_pos rfl, if_pos (by omega)]
        · rw [if_neg hij]; exact HU3.out i (by omega)
      · simp only [World.setCell, Array.getElem?_modify]
        rw [if_neg (by omega)]
        exact hk2.out
  · have e4 : ¬ ((j : Int) < n) := by omega
    have e5 := decide_eq_false e4
    obtain rfl : j = n := by omega
    have hN2 := HNN.out
    have hrow : RowAt wr (.slice (some ⟨w.heap.size + 1, 0, none⟩) j j) (tab f j) := by
      obtain ⟨us, hu1, hu2, hu3⟩ := hO.out
      have hue : us = vals (tab f j) := by
        apply List.ext_getElem?
        intro i
        by_cases hi : i < j
        · rw [hu3 i hi]; simp [vals, tab, hi]
        · rw [List.getElem?_eq_none (by omega), List.getElem?_eq_none (by simp [vals, tab]; omega)]
      have hlen : (tab f j).length = j := by simp [tab]
      refine row_of (B := w.heap.size + 1) ?_
      rw [hlen, ← hue]
      exact hu1
    have hlen : (tab f j).length = j := by simp [tab]
    have ht1 : (tab f j).take hN = tab f hN := by
      apply List.ext_getElem?
      intro i
      by_cases hi : i < hN
      · simp [tab, List.getElem?_take, hi, show i < j by omega]
      · rw [List.getElem?_eq_none (by simp [tab]; omega), List.getElem?_eq_none (by simp [tab]; omega)]
    have ht2 : (tab f j).drop hN = tab (fun i => f (hN + i)) pN := by
      apply List.ext_getElem?
      intro i
      by_cases hi : i < pN
      · simp [tab, hi, show hN + i < j by omega]
      · rw [List.getElem?_eq_none (by simp [tab]; omega), List.getElem?_eq_none (by simp [tab]; omega)]
    have R1 : Hid (RowAt wr (.slice (some ⟨w.heap.size + 1, 0, none⟩) hN j) (tab f hN)) := Lib.hid (by rw [← ht1]; exact take_row hrow hlen hN (by omega))
    have R2 : Hid (RowAt wr (.slice (some ⟨w.heap.size + 1, hN, none⟩) (j - hN) (j - hN)) (tab (fun i => f (hN + i)) pN)) := Lib.hid (by
      have := drop_row hrow hlen hN (by omega)
      rwa [ht2, Nat.zero_add] at this)
    have g1 : hN ≤ j := by omega
    have g2 : (hN : Int) ≤ j := by omega
    have g3 : ¬ (j = hN) := by omega
    have g4 : (0 : Int) ≤ hN := by omega
    have HK := hK
    have HBR := hB
    clear hrow hlen ht1 ht2 hO hK hB hN2
    go_wp2_with fail
    go_region_with (first
      | (go_at_call 38; refine (short_any _ _ _ (tab f hN) (tab (fun i => f (hN + i)) pN) (R1.out.below (by repeat (first | (with_reducible exact Below.refl _ _) | (with_reducible assumption) | (with_reducible refine below_drewN ?_ _) | (with_reducible refine Below.drew ?_) | (with_reducible refine below_ext_of ?_ (by first | exact Nat.le_refl _ | assumption | (simp only [World.size_alloc, World.size_setCell, size_ext, World.heap_drewN]; omega)) _ _) | (with_reducible refine Below.alloc ?_ (by first | exact Nat.le_refl _ | assumption | (simp only [World.size_alloc, World.size_setCell, size_ext, World.heap_drewN]; omega)) _) | (with_reducible refine Below.setCell ?_ (by first | exact Nat.le_refl _ | assumption | (simp only [World.size_alloc, World.size_setCell, size_ext, World.heap_drewN]; omega)) _)))) (R2.out.below (by repeat (first | (with_reducible exact Below.refl _ _) | (with_reducible assumption) | (with_reducible refine below_drewN ?_ _) | (with_reducible refine Below.drew ?_) | (with_reducible refine below_ext_of ?_ (by first | exact Nat.le_refl _ | assumption | (simp only [World.size_alloc, World.size_setCell, size_ext, World.heap_drewN]; omega)) _ _) | (with_reducible refine Below.alloc ?_ (by first | exact Nat.le_refl _ | assumption | (simp only [World.size_alloc, World.size_setCell, size_ext, World.heap_drewN]; omega)) _) | (with_reducible refine Below.setCell ?_ (by first | exact Nat.le_refl _ | assumption | (simp only [World.size_alloc, World.size_setCell, size_ext, World.heap_drewN]; omega)) _)))) (by simp [tab]; omega) (by simp [tab]; omega) (by simp [tab]; omega)).mono ?_; rintro e w3 ⟨hb, hS⟩
         obtain ⟨v1, v2, rfl, o1, o2, hap⟩ := hS.form
         have Q1 := Lib.hid o1
         have Q2 := Lib.hid o2
         have HAP := Lib.hid hap
         have r1 := o1.row
         have r2 := o2.row
         clear o1 o2 hap
         obtain ⟨p1, c1, rfl, _⟩ := r1
         obtain ⟨p2, c2, rfl, _⟩ := r2
         have hltw : w.heap.size < wr.heap.size := (Array.getElem?_eq_some_iff.1 HK.out).1
         have HLT := Lib.hid hltw
         have hblk : w3.heap[w.heap.size]? = some (.cells #[.slice none 0 0, .slice none 0 0] 24) := (hb.block _ hltw).trans HK.out
         have k0 : w3.cell? ⟨w.heap.size, 0, none⟩ = some (.slice none 0 0) := by simp [World.cell?, hblk]
         have k1 : w3.cell? ⟨w.heap.size, 1, none⟩ = some (.slice none 0 0) := by simp [World.cell?, hblk]
         have kf : ∀ o, w3.frozen? ⟨w.heap.size, o, none⟩ = false := fun o => by simp [World.frozen?, hblk]
         have hz : w.heap.size < w3.heap.size := (Array.getElem?_eq_some_iff.1 hblk).1
         have HB3 := Lib.hid (HBR.out.trans (((Below.refl wr.heap.size wr).drew.trans hb).mono HBR.out.size))
         have HK3 := Lib.hid hblk
         clear hb hS hblk hltw
         generalize (outH (tab f hN) (tab (fun i => f (hN + i)) pN)).length = q1 at *
         generalize (outL (tab f hN) (tab (fun i => f (hN + i)) pN)).length = q2 at *))
    all_goals
      go_wp2_with fail
      have hb2 : (w3.setCell ⟨w.heap.size, 0, none⟩ (.slice p1 q1 c1)).heap[w.heap.size]? = some (.cells #[.slice p1 q1 c1, .slice none 0 0] 24) := by
        simp only [World.setCell, Array.getElem?_modify, if_pos, HK3.out]; rfl
      refine bodyPost_ret (v := .tuple #[.agg #[.slice p1 q1 c1, .slice p2 q2 c2], .int .i64 (outE (tab f hN) (tab (fun i => f (hN + i)) pN))]) (by simp [results, Try.results40, go_sem, k0, k1, hz]) rfl ⟨?_, _, _, rfl, ((Q1.out.put (b := w.heap.size) HLT.out 0 _).put (b := w.heap.size) HLT.out 1 _).mono (Nat.le_of_lt HLT.out), ((Q2.out.put (b := w.heap.size) HLT.out 0 _).put (b := w.heap.size) HLT.out 1 _).mono (Nat.le_of_lt HLT.out), HAP.out⟩
      exact (HB3.out.setCell (p := ⟨w.heap.size, 0, none⟩) (Nat.le_refl _) _).setCell (p := ⟨w.heap.size, 1, none⟩) (Nat.le_refl _) _
end Go.Proofs.Ytpcnapmlmhhcpaa
