/-
  carillonlaw14.Heavy ends.
  Conditions: the rows lie in memory.
-/
import Derived.Test.YtkabmpbfabgkfaaPx4
import Derived.Test.YtkabmpbfabgkfaaPt
import Derived.WalkKit
import Derived.WalkSpells
import Derived.WalkLawsBesides
import Derived.Deep.QuietTactic
import Derived.BigQuiet
import Derived.Lib.Hide
import Derived.Handy
import Derived.Deep.AppendLies
import Derived.Maps.AppendAt
import Derived.OwnWalk
import Derived.Lib.LazyBuf
import Derived.Deep.DeepCutAuto
import Derived.Deep.RegionLaw
import Derived.Deep.RegionHeld3
import Derived.Deep.RegionWith
import Derived.BigRegion
import Derived.Deep.CutBlock
import Derived.LoopN
import Derived.Shelf.SlSortCmp.WholeK
import Derived.Shelf.SlSortCmp.NoneTotal
import Derived.Laws.AppendOwn
set_option linter.unusedVariables false
set_option linter.unusedSimpArgs false
namespace Go.Proofs.Ytkabmpbfabgkfaa
open Go.RowKit 
open Big
attribute [local go_sem] setCell_drewN alloc_drewN size_ext ext_ext ext_drewN ext_drew drewN_ext drew_ext cell?_ext frozen?_ext setCell_ext cell?_past1 frozen?_past1 setCell_past1 cell?_past2 frozen?_past2 setCell_past2 cell?_past3 frozen?_past3 setCell_past3 cell?_past4 frozen?_past4 setCell_past4 cell?_past5 frozen?_past5 setCell_past5 cell?_past6 frozen?_past6 setCell_past6 cell?_past7 frozen?_past7 setCell_past7 cell?_past8 frozen?_past8 setCell_past8
open Go.Proofs.Ytkabmpbfabgkfaa.P Go.Proofs.YtkabmpbfabgkfaaW.PrintWords Go.Proofs.YtkabmpbfabgkfaaW.PrintLast Go.Proofs.YtkabmpbfabgkfaaW.PrintMore
theorem Heavy_l1 (l : List S44) (i : Nat) (hi : i < l.length) (h200 : i < 200) (H : ∀ n : Int, ∃ r, Ev (fun k => carillonlaw14_Heavy.l0 k l n ((i + 1 : Nat) : Int)) r) :
    ∀ (e j : Nat), 50 ≤ j + e → ∀ n : Int, ∃ r, Ev (fun k => carillonlaw14_Heavy.l1 k l n i j) r := by
  have hw : wrap64 ((i : Int) + 1) = ((i + 1 : Nat) : Int) := by rw [wrap_small (by omega) (by omega)]; omega
  intro e
  induction e with
  | zero =>
    intro j hj n
    obtain ⟨r, K, hK⟩ := H n
    refine ⟨r, K + 1, fun k hk => ?_⟩
    obtain ⟨q, rfl⟩ : ∃ q, k = q + 1 := ⟨k - 1, by omega⟩
    replace hK := hK q (by omega)
    dsimp only at hK
    simp only [carillonlaw14_Heavy.l1]
    rw [if_pos (by omega), if_pos (by omega), hw]
    split
    · rw [if_neg (by omega)]; exact hK
    · exact hK
  | succ e ih =>
    intro j hj n
    by_cases h1 : (j : Int) < ((rd_T44 l (i : Int)).f4).length ∧ (j : Int) < 50
    · have hwj : wrap64 ((j : Int) + 1) = ((j + 1 : Nat) : Int) := by rw [wrap_small (by omega) (by omega)]; omega
      obtain ⟨r, K, hK⟩ := ih (j + 1) (by omega) (wrap64 ((wrap64 (n + (((rd_T69 ((rd_T44 l i).f4) j).f3.f0).length : Int))) + (((rd_T69 ((rd_T44 l i).f4) j).f3.f1).length : Int)))
      refine ⟨r, K + 1, fun k hk => ?_⟩
      obtain ⟨q, rfl⟩ : ∃ q, k = q + 1 := ⟨k - 1, by omega⟩
      replace hK := hK q (by omega)
      dsimp only at hK
      simp only [carillonlaw14_Heavy.l1]
      rw [if_pos (by omega), if_pos (by omega), if_pos h1.1, if_pos h1.2, if_pos (by omega), hwj]
      exact hK
    · obtain ⟨r, K, hK⟩ := H n
      refine ⟨r, K + 1, fun k hk => ?_⟩
      obtain ⟨q, rfl⟩ : ∃ q, k = q + 1 := ⟨k - 1, by omega⟩
      replace hK := hK q (by omega)
      dsimp only at hK
      simp only [carillonlaw14_Heavy.l1]
      rw [if_pos (by omega), if_pos (by omega), hw]
      split
      · rename_i h2
        rw [if_neg (fun h3 => h1 ⟨h2, h3⟩)]
        exact hK
      · exact hK
theorem Heavy_j1 (l : List S44) (n i : Int) (q : Nat) (h : 1 ≤ q) : carillonlaw14_Heavy.j1 q l n i false = some (decide (n > 4000)) := by
  obtain ⟨s, rfl⟩ : ∃ s, q = s + 1 := ⟨q - 1, by omega⟩
  simp only [carillonlaw14_Heavy.j1]
  rw [if_neg (by decide)]
theorem Heavy_j1t (l : List S44) (n i : Int) (q : Nat) (h0 : 0 ≤ i) (h1 : i < l.length) : carillonlaw14_Heavy.j1 (q + 1) l n i true = carillonlaw14_Heavy.l1 q l (wrap64 (n + (((rd_T44 l i).f4).length : Int))) i 0 := by
  simp only [carillonlaw14_Heavy.j1]
  rw [if_pos trivial, if_pos h0, if_pos h1]
theorem Heavy_l0 (l : List S44) : ∀ (d i : Nat), 200 ≤ i + d → i ≤ 200 → ∀ n : Int, ∃ r, Ev (fun k => carillonlaw14_Heavy.l0 k l n i) r := by
  have hend : ∀ (i : Nat) (n : Int), ¬ (i < l.length ∧ i < 200) → ∃ r, Ev (fun k => carillonlaw14_Heavy.l0 k l n i) r := by
    intro i n h
    refine ⟨decide (n > 4000), 2, fun k hk => ?_⟩
    obtain ⟨q, rfl⟩ : ∃ q, k = q + 1 := ⟨k - 1, by omega⟩
    simp only [carillonlaw14_Heavy.l0]
    split
    · rw [show decide ((i : Int) < 200) = false from decide_eq_false (by omega)]
      exact Heavy_j1 l n i q (by omega)
    · exact Heavy_j1 l n i q (by omega)
  intro d
  induction d with
  | zero => exact fun i hi hi2 n => hend i n (by omega)
  | succ d ih =>
    intro i hi hi2 n
    by_cases h1 : i < l.length ∧ i < 200
    · obtain ⟨r, K, hK⟩ := Heavy_l1 l i h1.1 h1.2 (fun n => ih (i + 1) (by omega) (by omega) n) 50 0 (by omega) (wrap64 (n + (((rd_T44 l i).f4).length : Int)))
      refine ⟨r, K + 2, fun k hk => ?_⟩
      obtain ⟨q, rfl⟩ : ∃ q, k = q + 1 := ⟨k - 1, by omega⟩
      obtain ⟨s, rfl⟩ : ∃ s, q = s + 1 := ⟨q - 1, by omega⟩
      replace hK := hK s (by omega)
      dsimp only at hK
      have h2 := Heavy_j1t l n i s (by omega) (by omega)
      generalize s + 1 = q at h2 ⊢
      simp only [carillonlaw14_Heavy.l0]
      rw [if_pos (by omega), show decide ((i : Int) < 200) = true from decide_eq_true (by omega), h2]
      exact hK
    · exact hend i n h1
theorem Heavy_any (w : World) (A0 : Option Addr) (c0 : Nat) (l : List S44) (hr0 : Kd.C k44 w A0 l.length l) (hc0 : l.length ≤ c0) :
    ∃ b : Bool, Calls Try.prog 12 #[.slice A0 l.length c0] w fun e w' => e = .returned (.bool b) ∧ Below w.heap.size w w' := by
  obtain ⟨r, K, hK⟩ := Heavy_l0 l 200 0 (by omega) (by omega) (l.length : Int)
  refine ⟨r, (carillonlaw14_Heavy.calls K A0 c0 l r w hr0 hc0 (hK K (Nat.le_refl _))).mono ?_⟩
  rintro e w' ⟨rfl, hd⟩
  exact ⟨rfl, Drawn0.below hd⟩
end Go.Proofs.Ytkabmpbfabgkfaa
