/-
  deps.product: what links of a kind have, at most so much: contract.
  Conditions: the links lie in memory; their numbers are int64s.
-/
import Derived.Test.YtdfpoemghnhlfaaDf
import Derived.Test.YtdfpoemghnhlfaaNu
import Derived.WalkKit
import Derived.WalkSpells
import Derived.WalkLawsBesides
import Derived.Deep.QuietTactic
import Derived.BigQuiet
import Derived.Lib.Hide
import Derived.Handy
set_option linter.unusedVariables false
set_option linter.unusedSimpArgs false
namespace Go.Proofs.Ytdfpoemghnhlfaa.P
open Go.RowKit Go.Shelf Go.Proofs.YtdfpoemghnhlfaaW.PrintWords Go.Proofs.YtdfpoemghnhlfaaW.PrintLast Go.Proofs.YtdfpoemghnhlfaaW.PrintMore
attribute [local go_sem] setCell_drewN alloc_drewN size_ext ext_ext ext_drewN ext_drew drewN_ext drew_ext cell?_ext frozen?_ext setCell_ext cell?_past1 frozen?_past1 setCell_past1 cell?_past2 frozen?_past2 setCell_past2 cell?_past3 frozen?_past3 setCell_past3 cell?_past4 frozen?_past4 setCell_past4 cell?_past5 frozen?_past5 setCell_past5 cell?_past6 frozen?_past6 setCell_past6 cell?_past7 frozen?_past7 setCell_past7 cell?_past8 frozen?_past8 setCell_past8

def in64 (x : Int) : Bool := decide (-9223372036854775808 ≤ x) && decide (x ≤ 9223372036854775807)
/-- What a call of product's closure leaves. -/
def Byd (bn bi : Nat) (n2 : Int) (is2 : Bool) (w w' : World) : Prop := w'.heap[bn]? = some (.cells #[.int .i64 n2] 2) ∧ w'.heap[bi]? = some (.cells #[.bool is2] 4) ∧ (∀ j, j ≠ bn → j ≠ bi → w'.heap[j]? = w.heap[j]?) ∧ ∀ B, B ≤ bn → B ≤ bi → Below B w w'
theorem byd_set {w : World} {bn bi : Nat} {n : Int} {is : Bool} (h3 : bn ≠ bi) (cn : w.heap[bn]? = some (.cells #[.int .i64 n] 2)) (ci : w.heap[bi]? = some (.cells #[.bool is] 4)) (n2 : Int) (b1 b2 : Bool) :
    Byd bn bi n2 b2 w (((w.setCell ⟨bn, 0, none⟩ (.int .i64 n2)).setCell ⟨bi, 0, none⟩ (.bool b1)).setCell ⟨bi, 0, none⟩ (.bool b2)) :=
  ⟨blk_other (blk_other (blk_same cn _) h3 _) h3 _, blk_same (blk_same (blk_other ci h3.symm _) _) _,
    fun j h1 h2 => ((Below.heap_setCell _ ⟨bi, 0, none⟩ _ j h2).trans (Below.heap_setCell _ ⟨bi, 0, none⟩ _ j h2)).trans (Below.heap_setCell _ ⟨bn, 0, none⟩ _ j h1),
    fun B h1 h2 => (((Below.refl B w).setCell (p := ⟨bn, 0, none⟩) h1 _).setCell (p := ⟨bi, 0, none⟩) h2 _).setCell (p := ⟨bi, 0, none⟩) h2 _⟩
theorem byd_no {w : World} {bn bi : Nat} {n : Int} {is : Bool} (cn : w.heap[bn]? = some (.cells #[.int .i64 n] 2)) (ci : w.heap[bi]? = some (.cells #[.bool is] 4)) (h3 : bn ≠ bi) (b2 : Bool) :
    Byd bn bi n b2 w (w.setCell ⟨bi, 0, none⟩ (.bool b2)) :=
  ⟨blk_other cn h3 _, blk_same ci _, fun j h1 h2 => Below.heap_setCell _ ⟨bi, 0, none⟩ _ j h2, fun B h1 h2 => (Below.refl B w).setCell (p := ⟨bi, 0, none⟩) h2 _⟩
theorem byd_id {w : World} {bn bi : Nat} {n : Int} {is : Bool} (cn : w.heap[bn]? = some (.cells #[.int .i64 n] 2)) (ci : w.heap[bi]? = some (.cells #[.bool is] 4)) : Byd bn bi n is w w :=
  ⟨cn, ci, fun _ _ _ => rfl, fun B _ _ => Below.refl B w⟩
/-- One more link of a product: what is told so far, and whether it is. -/
def mulStep (most : Int) (s : Int × Bool) (k : Int) : Int × Bool := if s.2 = true then (fitV (s.1 * k), fitB (s.1 * k) && decide (fitV (s.1 * k) ≤ most)) else s
set_option maxHeartbeats 2000000 in
theorem by_any (w : World) (bm bn bi : Nat) (k n most : Int) (is : Bool) (hk : in64 k = true) (hn : in64 n = true) (h1 : bm ≠ bn) (h2 : bm ≠ bi) (h3 : bn ≠ bi)
    (cm : w.heap[bm]? = some (.cells #[.int .i64 most] 2)) (cn : w.heap[bn]? = some (.cells #[.int .i64 n] 2)) (ci : w.heap[bi]? = some (.cells #[.bool is] 4)) :
    Calls Try.prog 35 #[.int .i64 k, .pointer (some ⟨bi, 0, none⟩), .pointer (some ⟨bn, 0, none⟩), .pointer (some ⟨bm, 0, none⟩)] w fun e w' => e = .returned (.tuple #[]) ∧ Byd bn bi (mulStep most (n, is) k).1 (mulStep most (n, is) k).2 w w' := by
  unfold in64 at hk hn
  simp only [Bool.and_eq_true, decide_eq_true_eq] at hk hn
  have m0 := cell_of cm 0
  have n0 := cell_of cn 0
  have i0 := cell_of ci 0
  have nf := froz_of cn 0
  have if_ := froz_of ci 0
  simp only [List.getElem?_toArray, List.getElem?_cons_zero] at m0 n0 i0
  have HK := Lib.hid hk
  have HN := Lib.hid hn
  have CN := Lib.hid cn
  have CI := Lib.hid ci
  clear hk hn cm cn ci
  cases is with
  | false =>
    go_enter Try.func35, Try.ntmps35
    go_wp2_with fail
    go_end0
    exact ⟨rfl, by first | exact byd_id CN.out CI.out | exact byd_no CN.out CI.out h3 _⟩
  | true =>
    obtain ⟨V, hV⟩ : ∃ V, V = fitV (n * k) := ⟨_, rfl⟩
    obtain ⟨b, hb⟩ : ∃ b, b = fitB (n * k) := ⟨_, rfl⟩
    have hs : Hid (mulStep most (n, true) k = (V, b && decide (V ≤ most))) := Lib.hid (by unfold mulStep; rw [if_pos rfl, hV, hb])
    have HV := Lib.hid hV
    have HB := Lib.hid hb
    clear hV hb
    go_enter Try.func35, Try.ntmps35
    go_wp2_with fail
    refine (num_mul n k _ HN.out.1 HN.out.2 HK.out.1 HK.out.2).mono ?_
    rintro e w' ⟨rfl, rfl⟩
    rw [← HV.out, ← HB.out]
    cases b with
    | false =>
      have hs2 : Hid (mulStep most (n, true) k = (V, false)) := Lib.hid (by rw [hs.out, Bool.false_and])
      go_wp2_with fail
      go_end0
      exact ⟨rfl, by rw [hs2.out]; exact byd_set h3 CN.out CI.out _ _ _⟩
    | true =>
      have hs2 : Hid (mulStep most (n, true) k = (V, decide (V ≤ most))) := Lib.hid (by rw [hs.out, Bool.true_and])
      go_wp2_with fail
      go_end0
      exact ⟨rfl, by rw [hs2.out]; exact byd_set h3 CN.out CI.out _ _ _⟩
end Go.Proofs.Ytdfpoemghnhlfaa.P
