/-
  heap.Rows of whatever heap: a row of its own with the heap's jobs.
  Conditions: at most 4096 jobs.
-/
import Derived.Test.YtbplaiooipldlaaSd
import Derived.WalkKit
import Derived.WalkSpells
import Derived.WalkLawsBesides
import Derived.Deep.QuietTactic
import Derived.BigQuiet
import Derived.Lib.Hide
import Derived.Handy
import Derived.Maps.AppendAt
import Derived.OwnWalk
import Derived.Lib.LazyBuf
set_option linter.unusedVariables false
set_option linter.unusedSimpArgs false
namespace Go.Proofs.Ytbplaiooipldlaa
open Go.RowKit Hp
attribute [local go_sem] setCell_drewN alloc_drewN size_ext ext_ext ext_drewN ext_drew drewN_ext drew_ext cell?_ext frozen?_ext setCell_ext cell?_past1 frozen?_past1 setCell_past1 cell?_past2 frozen?_past2 setCell_past2 cell?_past3 frozen?_past3 setCell_past3 cell?_past4 frozen?_past4 setCell_past4 cell?_past5 frozen?_past5 setCell_past5 cell?_past6 frozen?_past6 setCell_past6 cell?_past7 frozen?_past7 setCell_past7 cell?_past8 frozen?_past8 setCell_past8

attribute [local go_sem] eqnil
theorem eqnil0 (w : World) : (binOp .eql 22 (.slice none 0 0) (.slice none 0 0)).run Try.prog w = .ok (.bool true) w := run_eql_slice_nil w 22 31 none 0 0 Try.underlying22
attribute [local go_sem] eqnil0
theorem clone_nil (w : World) : Calls Try.prog 24 #[.slice none 0 0] w fun e w' => e = .returned (.slice none 0 0) ∧ w = w' := by
  go_enter Try.func24, Try.ntmps24
  go_wp2_with fail
  go_ret
  exact ⟨rfl, rfl⟩
set_option maxHeartbeats 1000000 in
theorem clone_empty (g cap : Nat) (w : World) : Calls Try.prog 24 #[.slice (some ⟨g, 0, none⟩) 0 cap] w fun e w' => ∃ p cap', e = .returned (.slice p 0 cap') ∧ Below w.heap.size w w' := by
  obtain ⟨i0, hi, hz0, hz1, hz2⟩ := info_parts infoK
  go_enter Try.func24, Try.ntmps24
  go_wp2_with (first
    | (at_builtin; refine wpList_append_own_at _ (by rfl) _ _ 22 rfl w.heap.size 31 i0 (.agg #[.int .i64 0, .int .i64 0, .int .i64 0]) 3 24 Try.underlying22 hi hz0 hz1 hz2 rfl (by decide) _ 0 [] (by rfl) (⟨rfl, .inr ⟨w.heap.size, 0, #[], rfl, Nat.le_refl _, by simp only [heap_alloc_new], Nat.le_refl _, by unfold maxLen; omega, rfl, rfl⟩⟩) ⟨g, 0, none⟩ 0 cap [] (by rfl) rfl (fun j u h => by simp at h) (fun u h => by simp at h) (by unfold maxLen; omega) (by omega) (by simp [go_sem]) ?_
       intro v1 w1 hown hgrow hnil hat
       obtain ⟨p1, cp1, rfl⟩ := row_form hown
       have hb : Below w.heap.size w w1 := ((Below.refl _ _).alloc (Nat.le_refl _) _).grown hgrow (by simp [go_sem]) (fun k hk => by
         simp [Value.ownBlock] at hk
         omega)
       clear hown hgrow hnil hat))
  go_ret
  exact ⟨p1, cp1, rfl, hb⟩
theorem rows_any (w : World) (H : Nat) (v : Value) (most : Int) (xs : List Key) (h : IsHeap w H v most xs) (hn : xs.length ≤ 4096) :
    Calls Try.prog 17 #[.pointer (some ⟨H, 0, none⟩)] w fun e w' => ∃ p cap', e = .returned (.slice p xs.length cap') ∧ RowAt w' p xs ∧ Below w.heap.size w w' := by
  by_cases h0 : 0 < xs.length
  · refine (rows_ok w H v most xs h h0 hn).mono ?_
    rintro e w' ⟨g, cap', rfl, h1, h2, h3⟩
    exact ⟨_, cap', rfl, fun _ => ⟨g, 0, rfl, (h1.lt g rfl).2, h1.src rfl⟩, h3⟩
  · obtain rfl : xs = [] := List.eq_nil_of_length_eq_zero (by omega)
    obtain ⟨c0, c1, c2, cf⟩ := h.cells
    have hH := h.lt H (.inl rfl)
    rcases h.2.2 with ⟨rfl, _⟩ | ⟨g, cap, cur, rfl, _⟩
    · clear h
      go_enter Try.func17, Try.ntmps17
      go_wp2_with fail
      refine (clone_nil _).mono ?_
      rintro e w' ⟨rfl, rfl⟩
      go_wp2_with fail
      go_ret
      exact ⟨none, 0, rfl, fun h => absurd h (by simp), Below.refl _ _⟩
    · clear h
      go_enter Try.func17, Try.ntmps17
      go_wp2_with fail
      refine (clone_empty g cap _).mono ?_
      rintro e w' ⟨p, cap', rfl, h3⟩
      go_wp2_with fail
      go_ret
      exact ⟨p, cap', rfl, fun h => absurd h (by simp), h3⟩
end Go.Proofs.Ytbplaiooipldlaa
