/-
  slices.Grow of nil, slices.Concat of two rows: contracts.
  Conditions: the rows lie in memory; at least one number and at most a hundred thousand.
-/
import Derived.Test.YtpcnapmlmhhcpaaWd
import Derived.WalkKit
import Derived.WalkSpells
import Derived.WalkLawsBesides
import Derived.Deep.QuietTactic
import Derived.BigQuiet
import Derived.Lib.Hide
import Derived.Handy
import Derived.Deep.AppendLies
import Derived.Maps.AppendAt
import Derived.OwnWalk
import Derived.Lib.LazyBuf
import Derived.Deep.DeepCutAuto
import Derived.Deep.RegionLaw
import Derived.Deep.RegionHeld3
import Derived.Deep.RegionWith
import Derived.BigRegion
import Derived.Lib.AppendZeros
set_option linter.unusedVariables false
set_option linter.unusedSimpArgs false
namespace Go.Proofs.Ytpcnapmlmhhcpaa
open Go.RowKit 
attribute [local go_sem] setCell_drewN alloc_drewN size_ext ext_ext ext_drewN ext_drew drewN_ext drew_ext cell?_ext frozen?_ext setCell_ext cell?_past1 frozen?_past1 setCell_past1 cell?_past2 frozen?_past2 setCell_past2 cell?_past3 frozen?_past3 setCell_past3 cell?_past4 frozen?_past4 setCell_past4 cell?_past5 frozen?_past5 setCell_past5 cell?_past6 frozen?_past6 setCell_past6 cell?_past7 frozen?_past7 setCell_past7 cell?_past8 frozen?_past8 setCell_past8

attribute [local go_sem] eqnil eqnil0
set_option maxHeartbeats 1000000 in
theorem grow_nil (w : World) (n : Nat) (h0 : 0 < n) (hn : n ≤ 1000000) : Calls Try.prog 65 #[.slice none 0 0, .int .i64 n] w fun e w' => ∃ cap, e = .returned (.slice (some ⟨w.heap.size, 0, none⟩) 0 cap) ∧ w'.ownsRow w.heap.size 2 1 (.slice (some ⟨w.heap.size, 0, none⟩) 0 cap) 0 [] ∧ Below w.heap.size w w' := by
  obtain ⟨i0, hi, hz0, hz1, hz2⟩ := info_parts infoI
  have hrz := fun W => Lib.run_append_nil_zeros (P := Try.prog) W 22 3 22 2 i0 (.int .i64 0) .i64 .i64 Try.underlying22 Try.underlying3 hi hz0 n h0 (by rw [hz1]; decide) (by omega) (by rw [hz2]; omega)
  have e1 : ¬ ((n : Int) < 0) := by omega
  have e2 := decide_eq_false e1
  have e3 : (0 : Int) < n := by omega
  have e4 : decide ((n : Int) > 0) = true := decide_eq_true e3
  have e5 : IntKind.i64.wrap (n : Int) = n := by rw [IntKind.wrap_i64]; omega
  have hge := grownCap_ge w n 0 2
  have hle := grownCap_le_maxLen w n 0 2 (by unfold maxLen; omega)
  obtain ⟨cap, hcap⟩ : ∃ cap, cap = grownCap w n 0 2 := ⟨_, rfl⟩
  have hrw := hrz w
  rw [← hcap] at hge hle hrw
  have Hge := Lib.hid hge
  have Hle := Lib.hid hle
  clear hge hle hrz hcap hz1 hz2
  go_enter Try.func65, Try.ntmps65
  go_wp2_with (at_builtin; refine Lib.wpList_append_run _ rfl _ _ _ _ rfl _ _ rfl rfl _ _ hrw ?_)
  go_ret
  refine ⟨cap, rfl, ⟨rfl, .inr ⟨w.heap.size, cap, _, rfl, Nat.le_refl _, heap_alloc_new w.drew _, Nat.zero_le _, Hle.out, ?_, rfl⟩⟩, (Below.refl _ _).drew.alloc (Nat.le_refl _) _⟩
  simp [size_zeroCells]
  have := Hge.out
  omega
theorem catlen (a b : Nat) (h : a + b ≤ 1000000) : IntKind.i64.wrap ((a : Int) + (b : Int)) = ((a + b : Nat) : Int) := by rw [IntKind.wrap_i64]; omega
set_option maxRecDepth 100000 in
set_option maxHeartbeats 4000000 in
theorem concat_two (w : World) (B : Nat) (a1 a2 : Addr) (c1 c2 : Nat) (xs ys : List Int) (hB : B < w.heap.size) (b0 : w.cell? ⟨B, 0, none⟩ = some (.slice (some a1) xs.length c1)) (b1 : w.cell? ⟨B, 1, none⟩ = some (.slice (some a2) ys.length c2))
    (h1 : RowAt w (.slice (some a1) xs.length c1) xs) (h2 : RowAt w (.slice (some a2) ys.length c2) ys) (h0 : 0 < xs.length + ys.length) (hn : xs.length + ys.length ≤ 1000000) :
    Calls Try.prog 59 #[.slice (some ⟨B, 0, none⟩) 2 2] w fun e w' => ∃ v', e = .returned v' ∧ RowAt w' v' (xs ++ ys) ∧ Below w.heap.size w w' ∧ Fresh w' w.heap.size v' (xs ++ ys) := by
  obtain ⟨i0, hi, hz0, hz1, hz2⟩ := info_parts infoI
  obtain ⟨_, _, hh1, _, _, _, hr1⟩ := h1
  cases hh1
  obtain ⟨_, _, hh2, _, _, _, hr2⟩ := h2
  cases hh2
  obtain ⟨n, hln⟩ : ∃ n, n = xs.length := ⟨_, rfl⟩
  obtain ⟨m, hlm⟩ : ∃ m, m = ys.length := ⟨_, rfl⟩
  rw [← hln] at b0 hn h0
  rw [← hlm] at b1 hn h0
  have HN := Lib.hid hln
  have HM := Lib.hid hlm
  have R1 := Lib.hid hr1
  have R2 := Lib.hid hr2
  have hw := catlen n m hn
  have e0 : IntKind.i64.wrap (n : Int) = n := by rw [IntKind.wrap_i64]; omega
  have e1 : ¬ ((n : Int) < 0) := by omega
  have e2 := decide_eq_false e1
  have e3 : ¬ (((n + m : Nat) : Int) < 0) := by omega
  have e4 := decide_eq_false e3
  clear hln hlm hr1 hr2
  go_enter Try.func59, Try.ntmps59
  go_wp2_with fail
  refine wp_loop_rounds 3 ?_
  rw [rounds_succ]
  go_wp2_with fail
  rw [rounds_succ]
  go_wp2_with fail
  rw [rounds_succ]
  go_wp2_with fail
  rw [show ((n : Int) + (m : Int)) = ((n + m : Nat) : Int) by omega]
  refine (grow_nil _ (n + m) h0 hn).mono ?_
  rintro e w1 ⟨cap, rfl, hown0, hb1⟩
  have B0 := (hb1.cell (p := ⟨B, 0, none⟩) hB).trans b0
  have B1 := (hb1.cell (p := ⟨B, 1, none⟩) hB).trans b1
  have hs1 := hb1.size
  have hB1 : B < w1.heap.size := by omega
  have HO0 := Lib.hid hown0
  have HB1 := Lib.hid hb1
  have N1 := row_news (n := 0) (cap := 0) (xs := xs) (a := a1) (w := w1) (fun h => by obtain ⟨g, o, ha, hg, hi⟩ := R1.out h; exact ⟨g, o, ha, Nat.lt_of_lt_of_le hg hs1, hi.below hb1 hg⟩)
  have HN1 := Lib.hid N1
  clear b0 b1 hown0 hb1 N1 e0 e1 e2 e3 e4 hw
  go_wp2_with fail
  refine wp_loop_rounds 3 ?_
  rw [rounds_succ]
  go_wp2_with (first
    | (at_builtin; refine wpList_append_own_at _ (by rfl) _ _ 22 rfl w.heap.size 2 i0 (.int .i64 0) 1 8 Try.underlying22 hi hz0 hz1 hz2 rfl (by decide) (.slice (some ⟨w.heap.size, 0, none⟩) 0 cap) 0 [] (by rfl) HO0.out a1 n c1 (vals xs) (by rfl) (by rw [vals_length, HN.out]; simp) HN1.out (vals_one xs) (by unfold maxLen; omega) (by omega) hs1 ?_
       intro v2 w2 hown hgrow hnil hat
       rw [Nat.zero_add, List.nil_append] at hown
       obtain ⟨p2, cp2, rfl⟩ := row_form hown
       have hne : ∀ b, b < w.heap.size → some b ≠ (Value.slice (some ⟨w.heap.size, 0, none⟩) 0 cap).ownBlock := fun b hb e => by simp [Value.ownBlock] at e; omega
       have B1' := (hgrow.cell_far ⟨B, 1, none⟩ hB1 (hne _ hB)).trans B1
       have hb2 : Below w.heap.size w w2 := HB1.out.grown hgrow hs1 (fun k hk => by simp [Value.ownBlock] at hk; omega)
       have hs2 := hb2.size
       have hB2 : B < w2.heap.size := by omega
       have HN2 := Lib.hid (row_news (n := 0) (cap := 0) (xs := ys) (a := a2) (w := w2) (fun h => by obtain ⟨g, o, ha, hg, hi⟩ := R2.out h; exact ⟨g, o, ha, Nat.lt_of_lt_of_le hg hs2, hi.below hb2 hg⟩))
       have HO2 := Lib.hid hown
       have HB2 := Lib.hid hb2
       clear hown hgrow hnil hat hne HO0 HB1 B0 B1 HN1 hb2 hs1 hB1))
  rw [rounds_succ]
  go_wp2_with (first
    | (at_builtin; refine wpList_append_own_at _ (by rfl) _ _ 22 rfl w.heap.size 2 i0 (.int .i64 0) 1 8 Try.underlying22 hi hz0 hz1 hz2 rfl (by decide) (.slice p2 n cp2) n (vals xs) (by rfl) HO2.out a2 m c2 (vals ys) (by rfl) (by rw [vals_length, HM.out]; simp) HN2.out (vals_one ys) (by unfold maxLen; omega) (by omega) hs2 ?_
       intro v3 w3 hown hgrow hnil hat
       obtain ⟨p3, cp3, rfl⟩ := row_form hown
       have hb3 : Below w.heap.size w w3 := HB2.out.grown hgrow hs2 (fun k hk => (HO2.out.lt k hk).1)
       have HO3 := Lib.hid hown
       have HB3 := Lib.hid hb3
       clear hown hgrow hnil hat HO2 HB2 B1' HN2 hb3 hs2 hB2))
  rw [rounds_succ]
  go_wp2_with fail
  go_ret
  suffices hfr : Fresh w3 w.heap.size _ (xs ++ ys) from ⟨_, rfl, hfr.row, HB3.out, hfr⟩
  unfold Fresh
  have h3 := HO3.out
  rw [show vals (xs ++ ys) = vals xs ++ vals ys by simp [vals], show (xs ++ ys).length = n + m by rw [List.length_append, HN.out, HM.out]]
  exact h3
end Go.Proofs.Ytpcnapmlmhhcpaa
