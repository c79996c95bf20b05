/-
  A row of jobs that came in as an argument: where its jobs lie, and that their numbers are Go's.
  Conditions: none.
-/
import Derived.Test.YtbplaiooipldlaaSr
import Derived.WalkKit
import Derived.WalkSpells
import Derived.WalkLawsBesides
import Derived.Deep.QuietTactic
import Derived.BigQuiet
import Derived.Lib.Hide
import Derived.Handy
import Derived.Deep.Slices
import Derived.Deep.Strs
import Derived.ProofKit
set_option linter.unusedVariables false
set_option linter.unusedSimpArgs false
namespace Go.Proofs.Ytbplaiooipldlaa
open Go.RowKit Hp

open Go.ChangeShapes Go.WideShapes Go.Deep
theorem three (l : List Value) (h : l.length = 3) : ∃ a b c, l = [a, b, c] := by
  match l, h with
  | [a, b, c], _ => exact ⟨a, b, c, rfl⟩
theorem key_of {H : Type} {enc : TypeId × Value → H} {w : World} {base : Nat} {sp : Nat → Bool} {held : Bool} {n : Nat} {cs : List Value} {x : DataW H × List MemPlace} (h : DataW.trod enc Try.prog w base sp held n 31 cs = some x) :
    ∃ k : Key, cs = kv k ∧ Wf k := by
  obtain ⟨y0, y1, y2, m, hx, hl, hy0, hy1, hy2⟩ := trod_struct3 Try.underlying31 h
  rw [kCells] at hl
  obtain ⟨c0, c1, c2, rfl⟩ := three cs hl
  obtain ⟨a, e0, rfl, wa⟩ := DataW.trod_int Try.underlying2 hy0
  obtain ⟨b, e1, rfl, wb⟩ := DataW.trod_int Try.underlying3 hy1
  obtain ⟨c, e2, rfl, wc⟩ := DataW.trod_int Try.underlying2 hy2
  simp [kCells2, kCells3] at e0 e1 e2
  subst e0 e1 e2
  exact ⟨⟨a, b, c⟩, rfl, wa, wb, wc⟩
theorem src_of {H : Type} {enc : TypeId × Value → H} {W : World} {sp : Nat → Bool} {held : Bool} {p : Option Addr} {len cap : Nat} {d : DataW H} {ps : List MemPlace} (h : DataW.Trod enc Try.prog W 0 sp held 22 (.slice p len cap) d ps) (h0 : 0 < len) :
    ∃ (ab ao : Nat) (l : List Key), p = some ⟨ab, ao, none⟩ ∧ l.length = len ∧ Src W ab ao l ∧ (∀ i, i < l.length → Wf (at_ l i)) ∧ ab < W.heap.size := by
  obtain ⟨fuel, hf⟩ := h
  rcases open_slice Try.underlying22 hf with ⟨hcs, _⟩ | ⟨a, len', cap', m, n, D, Pl, hcs, hb, hl, hm, hmm, hx, hi⟩
  · simp [Value.cells] at hcs
    omega
  · simp [Value.cells] at hcs
    obtain ⟨rfl, rfl, rfl⟩ := hcs
    have hlm : len ≤ m := by
      subst hmm
      split <;> omega
    have key : ∀ i, i < len → ∃ k : Key, (∀ j, j < 3 → W.cell? (a.add (i * 3 + j)) = (kv k)[j]?) ∧ Wf k := by
      intro i hil
      obtain ⟨cs', hc, ht⟩ := hi i (by omega)
      rw [kCells] at hc
      obtain ⟨k, rfl, hw⟩ := key_of ht
      obtain ⟨_, _, hat⟩ := World.cells?_some hc
      exact ⟨k, fun j hj => by rw [← add_add]; exact hat j hj, hw⟩
    have hspot : a.spot = none := by
      obtain ⟨k, hk, _⟩ := key 0 h0
      have h1 := hk 0 (by omega)
      simp only [Nat.zero_mul, Nat.zero_add, Addr.add, if_pos] at h1
      unfold World.cell? at h1
      split at h1
      · split at h1
        · simp [kv] at h1
        · rename_i hs; cases hq : a.spot with
          | none => rfl
          | some s => rw [hq] at hs; simp at hs
      · simp [kv] at h1
    obtain ⟨ab, ao, asp⟩ := a
    obtain rfl : asp = none := hspot
    let f : Nat → Key := fun i => if h : i < len then Classical.choose (key i h) else zero
    have hfl : ∀ i, i < len → at_ ((List.range len).map f) i = f i := by
      intro i hi
      simp [at_, hi]
    refine ⟨ab, ao, (List.range len).map f, rfl, by simp, ?_, ?_, ?_⟩
    · intro i hi
      simp only [List.length_map, List.length_range] at hi
      rw [hfl i hi]
      have hk := (Classical.choose_spec (key i hi)).1
      have hfi : f i = Classical.choose (key i hi) := by simp only [f, dif_pos hi]
      rw [← hfi] at hk
      have ha : ∀ j, j < 3 → W.cell? ⟨ab, ao + i * 3 + j, none⟩ = (kv (f i))[j]? := by
        intro j hj
        rw [← hk j hj]
        unfold Addr.add
        split
        · rename_i hz
          rw [show ao + i * 3 + j = ao by omega]
        · rw [Nat.add_assoc]
      exact ⟨ha 0 (by omega), ha 1 (by omega), ha 2 (by omega)⟩
    · intro i hi
      simp only [List.length_map, List.length_range] at hi
      rw [hfl i hi]
      simp only [f, dif_pos hi]
      exact (Classical.choose_spec (key i hi)).2
    · obtain ⟨k, hk, _⟩ := key 0 h0
      have h1 := hk 0 (by omega)
      simp only [Nat.zero_mul, Nat.zero_add, Addr.add, if_pos] at h1
      rcases Nat.lt_or_ge ab W.heap.size with hlt | hge
      · exact hlt
      · unfold World.cell? at h1
        rw [show (⟨ab, ao, none⟩ : Addr).block = ab from rfl, Array.getElem?_eq_none hge] at h1
        simp [kv] at h1
end Go.Proofs.Ytbplaiooipldlaa
