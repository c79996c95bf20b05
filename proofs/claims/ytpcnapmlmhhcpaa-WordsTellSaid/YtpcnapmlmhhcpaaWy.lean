/-
  The law's samples (carillonlaw12.works): each call's answer, by its contract.
  Conditions: the rows lie in memory.
-/
import Derived.Test.YtpcnapmlmhhcpaaWu
import Derived.WalkKit
import Derived.WalkSpells
import Derived.WalkLawsBesides
import Derived.Deep.QuietTactic
import Derived.BigQuiet
import Derived.Lib.Hide
import Derived.Handy
import Derived.Test.YtpcnapmlmhhcpaaWt
import Derived.Test.YtpcnapmlmhhcpaaWp
set_option linter.unusedVariables false
set_option linter.unusedSimpArgs false
namespace Go.Proofs.Ytpcnapmlmhhcpaa
open Go.RowKit 
open Big
attribute [local go_sem] setCell_drewN alloc_drewN size_ext ext_ext ext_drewN ext_drew drewN_ext drew_ext cell?_ext frozen?_ext setCell_ext cell?_past1 frozen?_past1 setCell_past1 cell?_past2 frozen?_past2 setCell_past2 cell?_past3 frozen?_past3 setCell_past3 cell?_past4 frozen?_past4 setCell_past4 cell?_past5 frozen?_past5 setCell_past5 cell?_past6 frozen?_past6 setCell_past6 cell?_past7 frozen?_past7 setCell_past7 cell?_past8 frozen?_past8 setCell_past8
theorem heap_new (W : World) (o : Obj) (n : Nat) (h : n = W.heap.size) : (W.alloc o).heap[n]? = some o := by subst h; exact heap_alloc_new W o
theorem heap_old (W : World) (o : Obj) (n : Nat) (h : n < W.heap.size) : (W.alloc o).heap[n]? = W.heap[n]? := Below.heap_alloc W o n h
theorem keep_cell {w w' : World} {n i : Nat} {v : Value} (hb : Below w.heap.size w w') (hn : n < w.heap.size) (h : w.cell? ⟨n, i, none⟩ = some v) : w'.cell? ⟨n, i, none⟩ = some v := by
  obtain ⟨X, d, rfl⟩ := below_ext hb
  rw [cell?_ext _ _ _ _ _ hn]; exact h
/-- A block that holds just these numbers is a row of them. -/
theorem row_lit {w : World} {B : Nat} (xs : List Int) (hl : xs.length ≤ maxLen) (h : w.heap[B]? = some (.cells (xs.map (Value.int .i64 ·)).toArray 2)) : RowAt w (.slice (some ⟨B, 0, none⟩) xs.length xs.length) xs := by
  refine ⟨_, _, rfl, Nat.le_refl _, hl, (fun h => by cases h), fun _ => ⟨B, 0, rfl, (Array.getElem?_eq_some_iff.1 h).1, fun i hi => ?_⟩⟩
  simp [World.cell?, h, at_, hi]
theorem w1H : nH [1, 2] [1, 2, 1, 2] = [] := by decide +kernel
theorem w1L : nL [1, 2] [1, 2, 1, 2] = [1, 2] := by decide +kernel
theorem w1E : nE [1, 2] [1, 2, 1, 2] = 0 := by decide +kernel
theorem w3H : nH [] [10, 20, 30] = [] := by decide +kernel
theorem w3L : nL [] [10, 20, 30] = [10, 20, 30] := by decide +kernel
theorem w1U : upOut [] [1, 2] 2 = ([], [1, 1, 2, 2], 0) := by decide +kernel
theorem w1D1 : outH (tab (fun i => num [] [1, 1, 2, 2] (i * 2)) ((([] : List Int).length + 2 - 1) / 2)) (tab (fun i => num [] [1, 1, 2, 2] (((([] : List Int).length + 2 - 1) / 2 + i) * 2)) ([1, 1, 2, 2] : List Int).length) = [] := by decide +kernel
theorem w1D2 : outL (tab (fun i => num [] [1, 1, 2, 2] (i * 2)) ((([] : List Int).length + 2 - 1) / 2)) (tab (fun i => num [] [1, 1, 2, 2] (((([] : List Int).length + 2 - 1) / 2 + i) * 2)) ([1, 1, 2, 2] : List Int).length) = [1, 2] := by decide +kernel
theorem w1D3 : outE (tab (fun i => num [] [1, 1, 2, 2] (i * 2)) ((([] : List Int).length + 2 - 1) / 2)) (tab (fun i => num [] [1, 1, 2, 2] (((([] : List Int).length + 2 - 1) / 2 + i) * 2)) ([1, 1, 2, 2] : List Int).length) = 0 := by decide +kernel
theorem w1Z : zipOut 1 [] [1, 2] [] [10, 20, 30] = ([], [11, 22, 31, 12, 21, 32], 0) := by decide +kernel
theorem w1S : same [] [1, 2] [1, 2] [1, 2, 1, 2] = true := by decide +kernel
theorem num_in (h l : List Int) (hh : h.all in64 = true) (hl : l.all in64 = true) (i : Nat) : in64P (num h l i) := by
  have key : ∀ (xs : List Int) (j : Nat), xs.all in64 = true → in64P (at_ xs j) := by
    intro xs j hx
    unfold at_
    by_cases hj : j < xs.length
    · have := List.all_eq_true.1 hx xs[j] (List.getElem_mem hj)
      simp only [in64, Bool.and_eq_true, decide_eq_true_eq] at this
      simpa [hj, in64P] using this
    · simp [List.getElem?_eq_none (Nat.le_of_not_lt hj), in64P]
  unfold num
  split
  · exact key _ _ hh
  · exact key _ _ hl
theorem norm_w (w : World) (v1 v2 : Value) (h1 : RowAt w v1 [1, 2]) (h2 : RowAt w v2 [1, 2, 1, 2]) : Calls Try.prog 30 #[.agg #[v1, v2]] w fun e w' => Below w.heap.size w w' ∧ ∃ p1 c1 p2 c2, e = .returned (.tuple #[.agg #[.slice p1 0 c1, .slice p2 2 c2], .int .i64 0]) ∧ RowAt w' (.slice p1 0 c1) ([] : List Int) ∧ RowAt w' (.slice p2 2 c2) [1, 2] := by
  refine (norm_any w v1 v2 [1, 2] [1, 2, 1, 2] h1 h2).mono ?_
  rintro e w' ⟨hb, v1, v2, rfl, o1, o2, _⟩
  have r1 := o1.row
  have r2 := o2.row
  rw [w1H] at r1
  rw [w1L] at r2
  rw [w1E]
  obtain ⟨p1, c1, rfl, q1⟩ := id r1
  obtain ⟨p2, c2, rfl, q2⟩ := id r2
  exact ⟨hb, p1, c1, p2, c2, rfl, r1, r2⟩
theorem up_w (w : World) (v1 v2 : Value) (h1 : RowAt w v1 [1, 2]) (h2 : RowAt w v2 [1, 2, 1, 2]) : Calls Try.prog 15 #[.agg #[v1, v2], .int .i64 2] w fun e w' => Below w.heap.size w w' ∧ ∃ p1 c1 p2 c2, e = .returned (.tuple #[.agg #[.slice p1 0 c1, .slice p2 4 c2], .int .i64 0]) ∧ RowAt w' (.slice p1 0 c1) ([] : List Int) ∧ RowAt w' (.slice p2 4 c2) [1, 1, 2, 2] := by
  refine (up_ok w v1 v2 [1, 2] [1, 2, 1, 2] 2 h1 h2 (by decide) (by decide) (by decide)).mono ?_
  rw [w1H, w1L, w1U]
  rintro e w' ⟨hb, v1, v2, rfl, o1, o2, _⟩
  have r1 := o1.row
  have r2 := o2.row
  obtain ⟨p1, c1, rfl, q1⟩ := id r1
  obtain ⟨p2, c2, rfl, q2⟩ := id r2
  exact ⟨hb, p1, c1, p2, c2, rfl, r1, r2⟩
theorem down_w (w : World) (v1 v2 : Value) (h1 : RowAt w v1 ([] : List Int)) (h2 : RowAt w v2 [1, 1, 2, 2]) : Calls Try.prog 16 #[.agg #[v1, v2], .int .i64 2] w fun e w' => Below w.heap.size w w' ∧ ∃ p1 c1 p2 c2, e = .returned (.tuple #[.agg #[.slice p1 0 c1, .slice p2 2 c2], .int .i64 0]) ∧ RowAt w' (.slice p1 0 c1) ([] : List Int) ∧ RowAt w' (.slice p2 2 c2) [1, 2] := by
  refine (down_ok w v1 v2 [] [1, 1, 2, 2] 2 h1 h2 (by decide) (by decide) (by decide)).mono ?_
  rintro e w' ⟨hb, v1, v2, rfl, o1, o2, _⟩
  have r1 := o1.row
  have r2 := o2.row
  rw [w1D1] at r1
  rw [w1D2] at r2
  rw [w1D3]
  obtain ⟨p1, c1, rfl, q1⟩ := id r1
  obtain ⟨p2, c2, rfl, q2⟩ := id r2
  exact ⟨hb, p1, c1, p2, c2, rfl, r1, r2⟩
theorem zip_w (w : World) (v1 v2 v3 v4 : Value) (h1 : RowAt w v1 [1, 2]) (h2 : RowAt w v2 [1, 2, 1, 2]) (h3 : RowAt w v3 ([] : List Int)) (h4 : RowAt w v4 [10, 20, 30]) : Calls Try.prog 10 #[.int .u8 1, .agg #[v1, v2], .agg #[v3, v4]] w fun e w' => Below w.heap.size w w' ∧ ∃ p1 c1 p2 c2, e = .returned (.tuple #[.agg #[.slice p1 0 c1, .slice p2 6 c2], .int .i64 0]) ∧ RowAt w' (.slice p1 0 c1) ([] : List Int) ∧ RowAt w' (.slice p2 6 c2) [11, 22, 31, 12, 21, 32] := by
  refine (zip_ok1 w v1 v2 v3 v4 [1, 2] [1, 2, 1, 2] [] [10, 20, 30] h1 h2 h3 h4 (by decide) (by decide) (fun i => by rw [w1H, w1L]; exact num_in _ _ (by decide) (by decide) i) (fun i => by rw [w3H, w3L]; exact num_in _ _ (by decide) (by decide) i)).mono ?_
  rw [w1H, w1L, w3H, w3L, w1Z]
  rintro e w' ⟨hb, v1, v2, rfl, o1, o2, _⟩
  have r1 := o1.row
  have r2 := o2.row
  obtain ⟨p1, c1, rfl, q1⟩ := id r1
  obtain ⟨p2, c2, rfl, q2⟩ := id r2
  exact ⟨hb, p1, c1, p2, c2, rfl, r1, r2⟩
theorem at_w (w : World) (v1 v2 : Value) (h1 : RowAt w v1 [1, 2]) (h2 : RowAt w v2 [1, 2, 1, 2]) : Calls Try.prog 29 #[.agg #[v1, v2], .int .i64 5] w fun e w' => e = .returned (.tuple #[.int .i64 2, .int .i64 0]) ∧ Below w.heap.size w w' :=
  At_ok w v1 v2 [1, 2] [1, 2, 1, 2] 5 h1 h2 (by decide) (by decide)
theorem same_w (w : World) (v1 v2 v3 v4 : Value) (h1 : RowAt w v1 ([] : List Int)) (h2 : RowAt w v2 [1, 2]) (h3 : RowAt w v3 [1, 2]) (h4 : RowAt w v4 [1, 2, 1, 2]) : Calls Try.prog 26 #[.agg #[v1, v2], .agg #[v3, v4]] w fun e w' => e = .returned (.bool true) ∧ Below w.heap.size w w' := by
  have := same_any w v1 v2 v3 v4 [] [1, 2] [1, 2] [1, 2, 1, 2] h1 h2 h3 h4
  rwa [w1S] at this
theorem may_w (w : World) (v1 v2 : Value) (h1 : RowAt w v1 [1, 2]) (h2 : RowAt w v2 [1, 2, 1, 2]) : Calls Try.prog 24 #[.agg #[v1, v2]] w fun e w' => e = .returned (.bool true) ∧ Below w.heap.size w w' := may_any w v1 v2 [1, 2] [1, 2, 1, 2] h1 h2
theorem norm_0 (w : World) : Calls Try.prog 30 #[.agg #[.slice none 0 0, .slice none 0 0]] w fun e w' => e = .returned (.tuple #[.agg #[.slice none 0 0, .slice none 0 0], .int .i64 2]) ∧ Below w.heap.size w w' := norm_no w _ _ [] [] (RowAt.nil w) (RowAt.nil w) rfl
end Go.Proofs.Ytpcnapmlmhhcpaa
