/-
  Slices of numbers and words that came in as arguments: where their numbers lie, and that they are int64s.
  Conditions: none.
-/
import Derived.Test.YtpcnapmlmhhcpaaWs
import Derived.WalkKit
import Derived.ProofKit
import Derived.OpenShut
import Derived.Deep.Slices
set_option linter.unusedVariables false
set_option linter.unusedSimpArgs false
namespace Go.Proofs.Ytpcnapmlmhhcpaa
open Go.RowKit Go.ChangeShapes Go.WideShapes Go.Deep
theorem iCells : Try.prog.cellsOf 2 = 1 := by kernel_rfl
theorem slCells : Try.prog.cellsOf 22 = 1 := by kernel_rfl
theorem wCells : Try.prog.cellsOf 24 = 2 := by kernel_rfl
/-- A slice of int64s that came in. -/
theorem ints_of {H : Type} {enc : TypeId × Value → H} {W : World} {sp : Nat → Bool} {held : Bool} {f : Nat} {cs : List Value} {x : DataW H × List MemPlace} (hf : DataW.trod enc Try.prog W 0 sp held f 22 cs = some x) :
    ∃ (p : Option Addr) (cap : Nat) (l : List Int), cs = [.slice p l.length cap] ∧ RowAt W (.slice p l.length cap) l ∧ l.all in64 = true := by
  rcases open_slice Try.underlying22 hf with ⟨hcs, _⟩ | ⟨a, len, cap, m, n, D, Pl, hcs, hb, hl, hm, hmm, hx, hi⟩
  · exact ⟨none, 0, [], hcs, RowAt.nil W, rfl⟩
  · have hlm : len ≤ m := by
      subst hmm
      split <;> omega
    have key : ∀ i, i < len → ∃ z : Int, W.cell? (a.add i) = some (.int .i64 z) ∧ in64 z = true := by
      intro i hil
      obtain ⟨cs', hc, ht⟩ := hi i (by omega)
      rw [iCells, Nat.mul_one] at hc
      obtain ⟨z, hz, _, wz⟩ := DataW.trod_int Try.underlying2 ht
      subst hz
      obtain ⟨_, _, hat⟩ := World.cells?_some hc
      have h0 := hat 0 (by omega)
      rw [Go.Deep.add_add, Nat.add_zero] at h0
      have b := bounds_i64 wz
      exact ⟨z, h0, by unfold in64; rw [decide_eq_true b.1, decide_eq_true b.2]; rfl⟩
    let g : Nat → Int := fun i => if h : i < len then Classical.choose (key i h) else 0
    have hgi : ∀ i, i < len → W.cell? (a.add i) = some (.int .i64 (g i)) ∧ in64 (g i) = true := by
      intro i h
      have := Classical.choose_spec (key i h)
      simp only [g, dif_pos h]
      exact this
    have hlen : ((List.range len).map g).length = len := by simp
    refine ⟨some a, cap, (List.range len).map g, by rw [hcs, hlen], ⟨some a, cap, rfl, by rw [hlen]; exact hl, by rw [hlen]; exact Nat.le_trans hl hm, (fun h => by cases h), fun h0 => ?_⟩, ?_⟩
    · rw [hlen] at h0
      have hspot : a.spot = none := by
        have h1 := (hgi 0 h0).1
        simp only [Addr.add, if_pos] at h1
        unfold World.cell? at h1
        split at h1
        · split at h1
          · simp at h1
          · rename_i hs; cases hq : a.spot with
            | none => rfl
            | some s => rw [hq] at hs; simp at hs
        · simp at h1
      obtain ⟨ab, ao, asp⟩ := a
      obtain rfl : asp = none := hspot
      have hadd : ∀ i, (⟨ab, ao, none⟩ : Addr).add i = ⟨ab, ao + i, none⟩ := by
        intro i; unfold Addr.add; split <;> simp_all
      refine ⟨ab, ao, rfl, ?_, fun i hi => ?_⟩
      · have h1 := (hgi 0 h0).1
        rw [hadd] at h1
        exact World.block_lt_of_cell? W ⟨ab, ao + 0, none⟩ h1
      · rw [hlen] at hi
        have h1 := (hgi i hi).1
        rw [hadd] at h1
        rw [h1]
        simp [at_, hi]
    · rw [List.all_eq_true]
      intro z hz
      obtain ⟨i, hi, rfl⟩ := List.mem_map.1 hz
      exact (hgi i (List.mem_range.1 hi)).2
theorem ints_arg {H : Type} {enc : TypeId × Value → H} {W : World} {sp : Nat → Bool} {held : Bool} {p : Option Addr} {len cap : Nat} {d : DataW H} {ps : List MemPlace} (h : DataW.Trod enc Try.prog W 0 sp held 22 (.slice p len cap) d ps) :
    ∃ l : List Int, len = l.length ∧ RowAt W (.slice p l.length cap) l ∧ l.all in64 = true := by
  obtain ⟨f, hf⟩ := h
  obtain ⟨p', cap', l, hcs, hr, ha⟩ := ints_of hf
  simp [Value.cells] at hcs
  obtain ⟨rfl, rfl, rfl⟩ := hcs
  exact ⟨l, rfl, hr, ha⟩
/-- A word that came in. -/
theorem word_arg {H : Type} {enc : TypeId × Value → H} {W : World} {sp : Nat → Bool} {held : Bool} {cs : Array Value} {d : DataW H} {ps : List MemPlace} (h : DataW.Trod enc Try.prog W 0 sp held 24 (.agg cs) d ps) :
    ∃ (v1 v2 : Value) (h l : List Int), cs = #[v1, v2] ∧ RowAt W v1 h ∧ RowAt W v2 l ∧ h.all in64 = true ∧ l.all in64 = true := by
  obtain ⟨fuel, hf0⟩ := h
  have hcs : (Value.agg cs).cells.toList = cs.toList := rfl
  rw [hcs] at hf0
  obtain ⟨xs, m, _, _, hl, hlen, hf⟩ := DataW.trod_struct Try.underlying24 hf0
  rw [wCells] at hl
  obtain ⟨c0, c1, hcs2⟩ : ∃ a b, cs.toList = [a, b] := by
    match cs.toList, hl with
    | [a, b], _ => exact ⟨a, b, rfl⟩
  rw [hcs2] at hf
  have hlen' : xs.length = 2 := hlen
  obtain ⟨x0, x1, rfl⟩ : ∃ a b, xs = [a, b] := by
    match xs, hlen' with
    | [a, b], _ => exact ⟨a, b, rfl⟩
  have h0 : DataW.trod enc Try.prog W 0 sp held m 22 (List.take (Try.prog.cellsOf 22) [c0, c1]) = some x0 := hf 0 _ rfl
  rw [slCells] at h0
  obtain ⟨A0, cap0, l0, d0, r0, k0⟩ := ints_of h0
  simp at d0
  subst d0
  have h1 : DataW.trod enc Try.prog W 0 sp held m 22 (List.take (Try.prog.cellsOf 22) [c1]) = some x1 := hf 1 _ rfl
  rw [slCells] at h1
  obtain ⟨A1, cap1, l1, d1, r1, k1⟩ := ints_of h1
  simp at d1
  subst d1
  exact ⟨_, _, l0, l1, by rw [← Array.toList_inj]; exact hcs2, r0, r1, k0, k1⟩
end Go.Proofs.Ytpcnapmlmhhcpaa
