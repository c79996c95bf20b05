/-
  append(xs, ys...) where xs is the call's own row: nil or not; words.Cons of a word that may be: contracts.
  Conditions: the rows lie in memory.
-/
import Derived.Test.YtpcnapmlmhhcpaaWu
import Derived.WalkKit
import Derived.WalkSpells
import Derived.WalkLawsBesides
import Derived.Deep.QuietTactic
import Derived.BigQuiet
import Derived.Lib.Hide
import Derived.Handy
import Derived.Deep.AppendLies
import Derived.Maps.AppendAt
import Derived.OwnWalk
import Derived.Lib.LazyBuf
import Derived.Deep.DeepCutAuto
import Derived.Deep.RegionLaw
import Derived.Deep.RegionHeld3
import Derived.Deep.RegionWith
import Derived.BigRegion
import Derived.Laws.AppendOwnNone
set_option linter.unusedVariables false
set_option linter.unusedSimpArgs false
namespace Go.Proofs.Ytpcnapmlmhhcpaa
open Go.RowKit 
attribute [local go_sem] setCell_drewN alloc_drewN size_ext ext_ext ext_drewN ext_drew drewN_ext drew_ext cell?_ext frozen?_ext setCell_ext cell?_past1 frozen?_past1 setCell_past1 cell?_past2 frozen?_past2 setCell_past2 cell?_past3 frozen?_past3 setCell_past3 cell?_past4 frozen?_past4 setCell_past4 cell?_past5 frozen?_past5 setCell_past5 cell?_past6 frozen?_past6 setCell_past6 cell?_past7 frozen?_past7 setCell_past7 cell?_past8 frozen?_past8 setCell_past8

theorem run_append_row (W : World) (ty : TypeId) (B : Nat) (v : Value) (xs ys : List Int) (A : Option Addr) (m c : Nat) (ho : Fresh W B v xs) (hr : RowAt W (.slice A m c) ys) (hl : xs.length + ys.length ≤ 1000000) (hB : B ≤ W.heap.size) :
    ∃ v' w', (Builtin.append_ #[22, 22] ty #[v, .slice A m c]).run Try.prog W = .ok v' w' ∧ Fresh w' B v' (xs ++ ys) ∧ W.grownBy w' v.ownBlock := by
  obtain ⟨i0, hi, hz0, hz1, hz2⟩ := info_parts infoI
  obtain ⟨p, cap, hh, h2, h3, h4, h5⟩ := hr
  cases hh
  cases A with
  | none =>
    have h0 := h4 rfl
    obtain rfl : ys = [] := List.eq_nil_of_length_eq_zero h0
    have hrun : (Builtin.append_ #[22, 22] ty #[v, .slice none ([] : List Int).length c]).run Try.prog W = .ok v W := by
      show (Builtin.append_ #[22, 22] ty #[v, .slice none 0 c]).run Try.prog W = .ok v W
      rcases ho.2 with ⟨rfl, hn⟩ | ⟨g, cp, cur, rfl, _, _, hnc, _⟩
      · simp [Builtin.append_, run_underlying Try.underlying22, sizeOf, typeInfo, hi, Builtin.lenOf, Builtin.firstCells]
      · simp [Builtin.append_, run_underlying Try.underlying22, sizeOf, typeInfo, hi, Builtin.lenOf, Builtin.firstCells, hnc, storeCells]
    exact ⟨v, W, hrun, by rw [List.append_nil]; exact ho, World.grownBy.refl W _⟩
  | some ad =>
    obtain ⟨v1, w1, hrun, h2', hg, _, _⟩ := run_append_own_at (P := Try.prog) W B 22 ty 2 i0 (.int .i64 0) 1 8 Try.underlying22 hi hz0 hz1 hz2 rfl (by decide) v xs.length (vals xs) ho ad ys.length c (vals ys) (by rw [vals_length]; simp) (row_news (n := 0) (cap := 0) h5) (vals_one ys) (by unfold maxLen; omega) (by omega) hB
    refine ⟨v1, w1, hrun, ?_, hg⟩
    unfold Fresh
    rw [show vals (xs ++ ys) = vals xs ++ vals ys by simp [vals], List.length_append]
    exact h2'
theorem wpList_append_row {w : World} {ops : Array Oper} {rest : List Oper} {o : Oper} {a : Act} {Q : Exit → Act → World → Prop} (hgd : o.guard = none) (s x : Operand)
    (hop : o.op = .call { callee := .builtin .append, args := #[s, x], argTypes := #[22, 22] })
    (B : Nat) (v : Value) (xs ys : List Int) (A : Option Addr) (m c : Nat) (hs : a.eval s = v) (hx : a.eval x = .slice A m c) (ho : Fresh w B v xs) (hr : RowAt w (.slice A m c) ys) (hl : xs.length + ys.length ≤ 1000000) (hB : B ≤ w.heap.size)
    (h : ∀ v' w', Fresh w' B v' (xs ++ ys) → w.grownBy w' v.ownBlock → wpList Try.prog ops Q rest (a.put o.dst v') w') : wpList Try.prog ops Q (o :: rest) a w := by
  refine wpList_plain hgd fun K hK => ?_
  obtain ⟨v', w', hrun, h2, h3⟩ := run_append_row w o.type B v xs ys A m c ho hr hl hB
  unfold Oper.wp
  simp [execOp, hop, resolve, invoke, builtin, hs, hx, hrun, Result.andThen]
  exact hK _ _ (h v' w' h2 h3)
end Go.Proofs.Ytpcnapmlmhhcpaa
