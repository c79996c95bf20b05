/-
  A slice of links that came in as an argument: where its links lie, and that their numbers are Go's.
  Conditions: none.
-/
import Derived.Test.YtdfpoemghnhlfaaPx0
import Derived.WalkKit
import Derived.ProofKit
import Derived.OpenShut
import Derived.Deep.Slices
set_option linter.unusedVariables false
set_option linter.unusedSimpArgs false
namespace Go.Proofs.Ytdfpoemghnhlfaa.P
open Go.RowKit Go.ChangeShapes Go.WideShapes Go.Deep Go.Proofs.YtdfpoemghnhlfaaW.PrintWords Go.Proofs.YtdfpoemghnhlfaaW.PrintLast Go.Proofs.YtdfpoemghnhlfaaW.PrintMore
/-- A link's numbers are Go's. -/
def WfL (x : S48) : Prop := -9223372036854775808 ≤ x.f1 ∧ x.f1 ≤ 9223372036854775807
def cl (x : S48) : List Value := [.int .u8 x.f0, .int .i64 x.f1, .int .i64 x.f2, .int .i64 x.f3, .int .u8 x.f4, .int .i64 x.f5]
theorem lCells : Try.prog.cellsOf 48 = 6 := by kernel_rfl
theorem e2 : Try.prog.cellsOf 2 = 1 := by kernel_rfl
theorem e3 : Try.prog.cellsOf 3 = 1 := by kernel_rfl
theorem e5 : Try.prog.cellsOf 5 = 1 := by kernel_rfl
theorem six (l : List Value) (h : l.length = 6) : ∃ a b c d e f, l = [a, b, c, d, e, f] := by
  match l, h with
  | [a, b, c, d, e, f], _ => exact ⟨a, b, c, d, e, f, rfl⟩
theorem link_of {H : Type} {enc : TypeId × Value → H} {w : World} {base : Nat} {sp : Nat → Bool} {held : Bool} {n : Nat} {cs : List Value} {x : DataW H × List MemPlace} (h : DataW.trod enc Try.prog w base sp held n 48 cs = some x) :
    ∃ k : S48, cs = cl k ∧ WfL k := by
  obtain ⟨xs, m, _, _, hl, hlen, hf⟩ := DataW.trod_struct Try.underlying48 h
  rw [lCells] at hl
  obtain ⟨c0, c1, c2, c3, c4, c5, rfl⟩ := six cs hl
  have hlen' : xs.length = 6 := hlen
  obtain ⟨x0, x1, x2, x3, x4, x5, rfl⟩ : ∃ a b c d e f, xs = [a, b, c, d, e, f] := by
    match xs, hlen' with
    | [a, b, c, d, e, f], _ => exact ⟨a, b, c, d, e, f, rfl⟩
  have h0 : DataW.trod enc Try.prog w base sp held m 5 (List.take (Try.prog.cellsOf 5) [c0, c1, c2, c3, c4, c5]) = some x0 := hf 0 _ rfl
  rw [e5] at h0
  obtain ⟨a0, d0, _, w0⟩ := DataW.trod_int Try.underlying5 h0
  simp at d0
  subst d0
  have h1 : DataW.trod enc Try.prog w base sp held m 2 (List.take (Try.prog.cellsOf 2) [c1, c2, c3, c4, c5]) = some x1 := hf 1 _ rfl
  rw [e2] at h1
  obtain ⟨a1, d1, _, w1⟩ := DataW.trod_int Try.underlying2 h1
  simp at d1
  subst d1
  have h2 : DataW.trod enc Try.prog w base sp held m 2 (List.take (Try.prog.cellsOf 2) [c2, c3, c4, c5]) = some x2 := hf 2 _ rfl
  rw [e2] at h2
  obtain ⟨a2, d2, _, w2⟩ := DataW.trod_int Try.underlying2 h2
  simp at d2
  subst d2
  have h3 : DataW.trod enc Try.prog w base sp held m 2 (List.take (Try.prog.cellsOf 2) [c3, c4, c5]) = some x3 := hf 3 _ rfl
  rw [e2] at h3
  obtain ⟨a3, d3, _, w3⟩ := DataW.trod_int Try.underlying2 h3
  simp at d3
  subst d3
  have h4 : DataW.trod enc Try.prog w base sp held m 5 (List.take (Try.prog.cellsOf 5) [c4, c5]) = some x4 := hf 4 _ rfl
  rw [e5] at h4
  obtain ⟨a4, d4, _, w4⟩ := DataW.trod_int Try.underlying5 h4
  simp at d4
  subst d4
  have h5 : DataW.trod enc Try.prog w base sp held m 3 (List.take (Try.prog.cellsOf 3) [c5]) = some x5 := hf 5 _ rfl
  rw [e3] at h5
  obtain ⟨a5, d5, _, w5⟩ := DataW.trod_int Try.underlying3 h5
  simp at d5
  subst d5
  have b1 := bounds_i64 w1
  exact ⟨⟨a0, a1, a2, a3, a4, a5⟩, rfl, b1⟩
/-- A slice of links that came in. -/
theorem links_of {H : Type} {enc : TypeId × Value → H} {W : World} {sp : Nat → Bool} {held : Bool} {t : TypeId} (hu : Try.prog.underlying t = some (.slice 48)) {p : Option Addr} {len cap : Nat} {d : DataW H} {ps : List MemPlace} (h : DataW.Trod enc Try.prog W 0 sp held t (.slice p len cap) d ps) :
    ∃ l : List S48, l.length = len ∧ Kd.C k48 W p l.length l ∧ l.length ≤ cap ∧ ∀ x ∈ l, WfL x := by
  obtain ⟨fuel, hf⟩ := h
  rcases open_slice hu hf with ⟨hcs, _⟩ | ⟨a, len', cap', m, n, D, Pl, hcs, hb, hl, hm, hmm, hx, hi⟩
  · simp [Value.cells] at hcs
    obtain ⟨rfl, rfl, rfl⟩ := hcs
    exact ⟨[], rfl, Kd.C_nil _ _, Nat.le_refl _, fun x hx => by cases hx⟩
  · simp [Value.cells] at hcs
    obtain ⟨rfl, rfl, rfl⟩ := hcs
    have hlm : len ≤ m := by
      subst hmm
      split <;> omega
    have key : ∀ i, i < len → ∃ k : S48, (∀ j, j < 6 → W.cell? (a.add (i * 6 + j)) = (cl k)[j]?) ∧ WfL k := by
      intro i hil
      obtain ⟨cs', hc, ht⟩ := hi i (by omega)
      rw [lCells] at hc
      obtain ⟨k, rfl, hw⟩ := link_of ht
      obtain ⟨_, _, hat⟩ := World.cells?_some hc
      exact ⟨k, fun j hj => by rw [← Go.Deep.add_add]; exact hat j hj, hw⟩
    let f : Nat → S48 := fun i => if h : i < len then Classical.choose (key i h) else z48
    have hfi : ∀ i, i < len → (∀ j, j < 6 → W.cell? (a.add (i * 6 + j)) = (cl (f i))[j]?) ∧ WfL (f i) := by
      intro i h
      have := Classical.choose_spec (key i h)
      simp only [f, dif_pos h]
      exact this
    have hmax : cap ≤ 9223372036854775807 := hm
    refine ⟨(List.range len).map f, by simp, ⟨rfl, by simp; omega, fun _ => ⟨a, rfl, fun j q hj => ?_⟩⟩, by simp; exact hl, ?_⟩
    · have hj2 : j < len := by have := (List.getElem?_eq_some_iff.1 hj).1; simpa using this
      have hq : q = f j := by simp [hj2] at hj; exact hj.symm
      subst hq
      refine ⟨_, rfl, k48_mk W (f j), fun i u hu => ?_⟩
      have hi6 : i < 6 := (List.getElem?_eq_some_iff.1 hu).1
      exact ((hfi j hj2).1 i hi6).trans hu
    · intro x hx
      obtain ⟨i, hi, rfl⟩ := List.mem_map.1 hx
      exact (hfi i (List.mem_range.1 hi)).2
end Go.Proofs.Ytdfpoemghnhlfaa.P
