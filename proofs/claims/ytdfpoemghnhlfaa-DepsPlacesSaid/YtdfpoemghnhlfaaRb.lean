/-
  A dep that came in as an argument: its two rows of sources, where they lie, and its step.
  Conditions: none.
-/
import Derived.Test.YtdfpoemghnhlfaaRa
set_option linter.unusedVariables false
set_option linter.unusedSimpArgs false
namespace Go.Proofs.Ytdfpoemghnhlfaa.P
open Go.RowKit Go.ChangeShapes Go.WideShapes Go.Deep Go.Proofs.YtdfpoemghnhlfaaW.PrintWords Go.Proofs.YtdfpoemghnhlfaaW.PrintLast Go.Proofs.YtdfpoemghnhlfaaW.PrintMore
def cs26 (x : S26) : List Value := [.bool x.f0, .int .i64 x.f1, .int .i64 x.f2]
theorem sCells : Try.prog.cellsOf 26 = 3 := by kernel_rfl
theorem dCells : Try.prog.cellsOf 32 = 3 := by kernel_rfl
theorem e4 : Try.prog.cellsOf 4 = 1 := by kernel_rfl
theorem e30 : Try.prog.cellsOf 30 = 1 := by kernel_rfl
theorem three (l : List Value) (h : l.length = 3) : ∃ a b c, l = [a, b, c] := by
  match l, h with
  | [a, b, c], _ => exact ⟨a, b, c, rfl⟩
theorem source_of {H : Type} {enc : TypeId × Value → H} {w : World} {base : Nat} {sp : Nat → Bool} {held : Bool} {n : Nat} {cs : List Value} {x : DataW H × List MemPlace} (h : DataW.trod enc Try.prog w base sp held n 26 cs = some x) :
    ∃ k : S26, cs = cs26 k := by
  obtain ⟨xs, m, _, _, hl, hlen, hf⟩ := DataW.trod_struct Try.underlying26 h
  rw [sCells] at hl
  obtain ⟨c0, c1, c2, rfl⟩ := three cs hl
  have hlen' : xs.length = 3 := hlen
  obtain ⟨x0, x1, x2, rfl⟩ : ∃ a b c, xs = [a, b, c] := by
    match xs, hlen' with
    | [a, b, c], _ => exact ⟨a, b, c, rfl⟩
  have h0 : DataW.trod enc Try.prog w base sp held m 4 (List.take (Try.prog.cellsOf 4) [c0, c1, c2]) = some x0 := hf 0 _ rfl
  rw [e4] at h0
  obtain ⟨a0, d0, _⟩ := DataW.trod_bool Try.underlying4 h0
  simp at d0
  subst d0
  have h1 : DataW.trod enc Try.prog w base sp held m 2 (List.take (Try.prog.cellsOf 2) [c1, c2]) = some x1 := hf 1 _ rfl
  rw [e2] at h1
  obtain ⟨a1, d1, _, w1⟩ := DataW.trod_int Try.underlying2 h1
  simp at d1
  subst d1
  have h2 : DataW.trod enc Try.prog w base sp held m 2 (List.take (Try.prog.cellsOf 2) [c2]) = some x2 := hf 2 _ rfl
  rw [e2] at h2
  obtain ⟨a2, d2, _, w2⟩ := DataW.trod_int Try.underlying2 h2
  simp at d2
  subst d2
  exact ⟨⟨a0, a1, a2⟩, rfl⟩
/-- A slice of sources that came in. -/
theorem sources_of {H : Type} {enc : TypeId × Value → H} {W : World} {sp : Nat → Bool} {held : Bool} {f : Nat} {cs : List Value} {x : DataW H × List MemPlace} (hf : DataW.trod enc Try.prog W 0 sp held f 30 cs = some x) :
    ∃ (p : Option Addr) (cap : Nat) (l : List S26), cs = [.slice p l.length cap] ∧ Kd.C k26 W p l.length l ∧ l.length ≤ cap := by
  rcases open_slice Try.underlying30 hf with ⟨hcs, _⟩ | ⟨a, len, cap, m, n, D, Pl, hcs, hb, hl, hm, hmm, hx, hi⟩
  · exact ⟨none, 0, [], hcs, Kd.C_nil _ _, Nat.le_refl _⟩
  · have hlm : len ≤ m := by
      subst hmm
      split <;> omega
    have key : ∀ i, i < len → ∃ k : S26, ∀ j, j < 3 → W.cell? (a.add (i * 3 + j)) = (cs26 k)[j]? := by
      intro i hil
      obtain ⟨cs', hc, ht⟩ := hi i (by omega)
      rw [sCells] at hc
      obtain ⟨k, rfl⟩ := source_of ht
      obtain ⟨_, _, hat⟩ := World.cells?_some hc
      exact ⟨k, fun j hj => by rw [← Go.Deep.add_add]; exact hat j hj⟩
    let f : Nat → S26 := fun i => if h : i < len then Classical.choose (key i h) else z26
    have hfi : ∀ i, i < len → (∀ j, j < 3 → W.cell? (a.add (i * 3 + j)) = (cs26 (f i))[j]?) := by
      intro i h
      have := Classical.choose_spec (key i h)
      simp only [f, dif_pos h]
      exact this
    have hmax : cap ≤ 9223372036854775807 := hm
    refine ⟨some a, cap, (List.range len).map f, by rw [hcs]; simp, ⟨rfl, by simp; omega, fun _ => ⟨a, rfl, fun j q hj => ?_⟩⟩, by simp; exact hl⟩
    have hj2 : j < len := by have := (List.getElem?_eq_some_iff.1 hj).1; simpa using this
    have hq : q = f j := by simp [hj2] at hj; exact hj.symm
    subst hq
    refine ⟨_, rfl, k26_mk W (f j), fun i u hu => ?_⟩
    have hi3 : i < 3 := (List.getElem?_eq_some_iff.1 hu).1
    exact (hfi j hj2 i hi3).trans hu
/-- A dep that came in. -/
theorem dep_of {H : Type} {enc : TypeId × Value → H} {W : World} {sp : Nat → Bool} {held : Bool} {cs : Array Value} {d : DataW H} {ps : List MemPlace} (h : DataW.Trod enc Try.prog W 0 sp held 32 (.agg cs) d ps) :
    ∃ (A0 A1 : Option Addr) (c0 c1 : Nat) (l0 l1 : List S26) (st : Int), cs = #[.slice A0 l0.length c0, .slice A1 l1.length c1, .int .i64 st] ∧ Kd.C k26 W A0 l0.length l0 ∧ l0.length ≤ c0 ∧ Kd.C k26 W A1 l1.length l1 ∧ l1.length ≤ c1 := by
  obtain ⟨fuel, hf0⟩ := h
  have hcs : (Value.agg cs).cells.toList = cs.toList := rfl
  rw [hcs] at hf0
  obtain ⟨xs, m, _, _, hl, hlen, hf⟩ := DataW.trod_struct Try.underlying32 hf0
  rw [dCells] at hl
  obtain ⟨c0, c1, c2, hcs3⟩ := three cs.toList hl
  rw [hcs3] at hf
  have hlen' : xs.length = 3 := hlen
  obtain ⟨x0, x1, x2, rfl⟩ : ∃ a b c, xs = [a, b, c] := by
    match xs, hlen' with
    | [a, b, c], _ => exact ⟨a, b, c, rfl⟩
  have h0 : DataW.trod enc Try.prog W 0 sp held m 30 (List.take (Try.prog.cellsOf 30) [c0, c1, c2]) = some x0 := hf 0 _ rfl
  rw [e30] at h0
  obtain ⟨A0, cap0, l0, d0, r0, k0⟩ := sources_of h0
  simp at d0
  subst d0
  have h1 : DataW.trod enc Try.prog W 0 sp held m 30 (List.take (Try.prog.cellsOf 30) [c1, c2]) = some x1 := hf 1 _ rfl
  rw [e30] at h1
  obtain ⟨A1, cap1, l1, d1, r1, k1⟩ := sources_of h1
  simp at d1
  subst d1
  have h2 : DataW.trod enc Try.prog W 0 sp held m 2 (List.take (Try.prog.cellsOf 2) [c2]) = some x2 := hf 2 _ rfl
  rw [e2] at h2
  obtain ⟨a2, d2, _, w2⟩ := DataW.trod_int Try.underlying2 h2
  simp at d2
  subst d2
  exact ⟨A0, A1, cap0, cap1, l0, l1, a2, by rw [← Array.toList_inj]; exact hcs3, r0, k0, r1, k1⟩
end Go.Proofs.Ytdfpoemghnhlfaa.P
