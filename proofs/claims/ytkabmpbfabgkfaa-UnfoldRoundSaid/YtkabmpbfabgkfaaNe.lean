/-
  unfold.Needs: what it answers.
  Conditions: none.
-/
import Derived.Test.YtkabmpbfabgkfaaPx11
import Derived.Test.YtkabmpbfabgkfaaPt
import Derived.Test.YtkabmpbfabgkfaaUs
import Derived.WalkKit
import Derived.WalkSpells
import Derived.WalkLawsBesides
import Derived.Deep.QuietTactic
import Derived.BigQuiet
import Derived.Lib.Hide
import Derived.Handy
import Derived.Deep.AppendLies
import Derived.Maps.AppendAt
import Derived.OwnWalk
import Derived.Lib.LazyBuf
import Derived.Deep.DeepCutAuto
import Derived.Deep.RegionLaw
import Derived.Deep.RegionHeld3
import Derived.Deep.RegionWith
import Derived.BigRegion
import Derived.Deep.CutBlock
import Derived.LoopN
import Derived.Shelf.SlSortCmp.WholeK
import Derived.Shelf.SlSortCmp.NoneTotal
import Derived.Laws.AppendOwn
set_option linter.unusedVariables false
set_option linter.unusedSimpArgs false
namespace Go.Proofs.Ytkabmpbfabgkfaa
open Go.RowKit 
open Big
attribute [local go_sem] setCell_drewN alloc_drewN size_ext ext_ext ext_drewN ext_drew drewN_ext drew_ext cell?_ext frozen?_ext setCell_ext cell?_past1 frozen?_past1 setCell_past1 cell?_past2 frozen?_past2 setCell_past2 cell?_past3 frozen?_past3 setCell_past3 cell?_past4 frozen?_past4 setCell_past4 cell?_past5 frozen?_past5 setCell_past5 cell?_past6 frozen?_past6 setCell_past6 cell?_past7 frozen?_past7 setCell_past7 cell?_past8 frozen?_past8 setCell_past8
open Go.Proofs.Ytkabmpbfabgkfaa.P Go.Proofs.YtkabmpbfabgkfaaW.PrintWords Go.Proofs.YtkabmpbfabgkfaaW.PrintLast Go.Proofs.YtkabmpbfabgkfaaW.PrintMore
/-- What a job needs. -/
def needOf (n : Int) (r : S69) : List S51 := if (atD r.f3.f0 r.f3.f1 r.f3.f2 n).1 = true then [] else [⟨r.f0, r.f1, r.f2, (atD r.f3.f0 r.f3.f1 r.f3.f2 n).2.2.1⟩]
def needsL (n : Int) : List S69 → List S51
  | [] => []
  | r :: rs => needOf n r ++ needsL n rs
def needsOk (n : Int) (rs : List S69) : Bool := rs.all (fun r => mayD r.f3.f0 r.f3.f1 r.f3.f2 && decide ((atD r.f3.f0 r.f3.f1 r.f3.f2 n).2.2.2 = 0))
theorem needsL_len (n : Int) : ∀ rs : List S69, (needsL n rs).length ≤ rs.length
  | [] => Nat.le_refl _
  | r :: rs => by
    have := needsL_len n rs
    simp only [needsL, List.length_append, List.length_cons]
    unfold needOf
    split <;> simp <;> omega
theorem Needs_l0 (n : Int) (hn : n ≤ 9223372036854775807) (rs : List S69) (hl : rs.length ≤ 32) (hok : needsOk n rs = true) :
    ∀ (m i : Nat) (acc : List S51), i + m = rs.length → acc.length ≤ i → Ev (fun k => unfold_Needs.l0 k n acc rs (rs.length : Int) i) (acc ++ needsL n (rs.drop i), 0)
  | 0, i, acc, hi, ha => ⟨1, fun k hk => by
      obtain ⟨q, rfl⟩ : ∃ q, k = q + 1 := ⟨k - 1, by omega⟩
      simp only [unfold_Needs.l0]
      rw [if_neg (by omega), show rs.drop i = [] from List.drop_eq_nil_of_le (by omega)]
      simp [needsL]⟩
  | m + 1, i, acc, hi, ha => by
      have hlt : i < rs.length := by omega
      have hr := List.all_eq_true.1 hok _ (List.getElem_mem hlt)
      rw [Bool.and_eq_true, decide_eq_true_eq] at hr
      have hrd : rd_T69 rs (i : Int) = rs[i] := by unfold rd_T69; rw [Int.toNat_natCast]; exact getD_eq _ _ _ hlt
      have hw : wrap64 ((i : Int) + 1) = ((i + 1 : Nat) : Int) := by rw [wrap_small (by omega) (by omega)]; omega
      have hacc : (acc ++ needOf n rs[i]).length ≤ i + 1 := by
        rw [List.length_append]
        unfold needOf
        split <;> simp <;> omega
      obtain ⟨K, hK⟩ := Needs_l0 n hn rs hl hok m (i + 1) (acc ++ needOf n rs[i]) (by omega) hacc
      refine ⟨K + 1, fun k hk => ?_⟩
      obtain ⟨q, rfl⟩ : ∃ q, k = q + 1 := ⟨k - 1, by omega⟩
      replace hK := hK q (by omega)
      dsimp only at hK
      simp only [unfold_Needs.l0]
      rw [if_pos (show (i : Int) < rs.length by omega), if_pos (show 0 ≤ (i : Int) by omega), if_pos (show (i : Int) < rs.length by omega), hrd]
      unfold deps_At.f
      rw [if_pos hn]
      simp only [Option.bind_some]
      rw [if_pos hr.2, List.drop_eq_getElem_cons hlt, hw]
      simp only [needsL]
      rw [← List.append_assoc]
      unfold needOf at hK ⊢
      cases hc : (atD rs[i].f3.f0 rs[i].f3.f1 rs[i].f3.f2 n).1 with
      | true =>
        rw [hc] at hK
        simp only [if_true, List.append_nil] at hK ⊢
        exact hK
      | false =>
        rw [hc] at hK
        simp only [Bool.false_eq_true, if_false] at hK ⊢
        rw [if_pos (by omega)]
        exact hK
theorem Needs_f (a b c d e g n : Int) (rs : List S69) (h0 : 0 ≤ n) (hn : n ≤ 9223372036854775807) (hl : rs.length ≤ 32) (hok : needsOk n rs = true) : ∃ k, unfold_Needs.f k a b c d e rs g n = some (needsL n rs, 0) := by
  obtain ⟨K, hK⟩ := Needs_l0 n hn rs hl hok rs.length 0 [] (by omega) (Nat.le_refl _)
  refine ⟨K + 1, ?_⟩
  have hK := hK K (Nat.le_refl _)
  dsimp only at hK
  have hall : rs.all ok69 = true := List.all_eq_true.2 (fun x _ => rfl)
  have hany : rs.any bad69 = false := by
    rw [List.any_eq_false]
    intro x hx
    have h1 := List.all_eq_true.1 hok x hx
    rw [Bool.and_eq_true] at h1
    unfold bad69
    rw [h1.1]
    decide
  unfold unfold_Needs.f api_Read.f
  rw [if_neg (by omega), if_pos hall, hany]
  simp only [Option.bind_some, unfold_Needs.j0, Bool.false_eq_true, if_false]
  rw [show (0 : Int) = ((0 : Nat) : Int) from rfl, hK]
  simp
theorem needs_val : needsL 3 task1.f4 = [⟨1, 0, 0, 1⟩, ⟨2, 0, 0, 2⟩] := by kernel_rfl
theorem needs_ok : needsOk 3 task1.f4 = true := by decide +kernel
end Go.Proofs.Ytkabmpbfabgkfaa
