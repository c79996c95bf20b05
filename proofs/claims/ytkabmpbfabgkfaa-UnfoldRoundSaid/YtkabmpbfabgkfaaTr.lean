/-
  Tasks and clocks that came in as arguments: where their rows lie, and that their numbers are int64s.
  Conditions: none.
-/
import Derived.Test.YtkabmpbfabgkfaaPt
import Derived.Test.YtkabmpbfabgkfaaUs
import Derived.WalkKit
import Derived.ProofKit
import Derived.OpenShut
import Derived.Deep.Slices
set_option linter.unusedVariables false
set_option linter.unusedSimpArgs false
namespace Go.Proofs.Ytkabmpbfabgkfaa
open Go.RowKit Go.ChangeShapes Go.WideShapes Go.Deep Go.Proofs.Ytkabmpbfabgkfaa.P Go.Proofs.YtkabmpbfabgkfaaW.PrintWords Go.Proofs.YtkabmpbfabgkfaaW.PrintLast Go.Proofs.YtkabmpbfabgkfaaW.PrintMore
theorem ec2 : Try.prog.cellsOf 2 = 1 := by kernel_rfl
theorem ec3 : Try.prog.cellsOf 3 = 1 := by kernel_rfl
theorem ec4 : Try.prog.cellsOf 4 = 1 := by kernel_rfl
theorem ec5 : Try.prog.cellsOf 5 = 1 := by kernel_rfl
theorem ec26 : Try.prog.cellsOf 26 = 1 := by kernel_rfl
theorem ec25 : Try.prog.cellsOf 25 = 2 := by kernel_rfl
theorem ec23 : Try.prog.cellsOf 23 = 2 := by kernel_rfl
theorem ec65 : Try.prog.cellsOf 65 = 1 := by kernel_rfl
theorem ec42 : Try.prog.cellsOf 42 = 1 := by kernel_rfl
theorem ec36 : Try.prog.cellsOf 36 = 1 := by kernel_rfl
theorem ec37 : Try.prog.cellsOf 37 = 1 := by kernel_rfl
theorem ec79 : Try.prog.cellsOf 79 = 3 := by kernel_rfl
theorem ec67 : Try.prog.cellsOf 67 = 3 := by kernel_rfl
theorem ec69 : Try.prog.cellsOf 69 = 6 := by kernel_rfl
theorem ec44 : Try.prog.cellsOf 44 = 7 := by kernel_rfl
theorem len2 (l : List Value) (h : l.length = 2) : ∃ c0 c1, l = [c0, c1] := by
  match l, h with
  | [c0, c1], _ => exact ⟨c0, c1, rfl⟩
theorem len3 (l : List Value) (h : l.length = 3) : ∃ c0 c1 c2, l = [c0, c1, c2] := by
  match l, h with
  | [c0, c1, c2], _ => exact ⟨c0, c1, c2, rfl⟩
theorem len6 (l : List Value) (h : l.length = 6) : ∃ c0 c1 c2 c3 c4 c5, l = [c0, c1, c2, c3, c4, c5] := by
  match l, h with
  | [c0, c1, c2, c3, c4, c5], _ => exact ⟨c0, c1, c2, c3, c4, c5, rfl⟩
theorem len7 (l : List Value) (h : l.length = 7) : ∃ c0 c1 c2 c3 c4 c5 c6, l = [c0, c1, c2, c3, c4, c5, c6] := by
  match l, h with
  | [c0, c1, c2, c3, c4, c5, c6], _ => exact ⟨c0, c1, c2, c3, c4, c5, c6, rfl⟩
theorem lenx2 {α : Type} (l : List α) (h : l.length = 2) : ∃ c0 c1, l = [c0, c1] := by
  match l, h with
  | [c0, c1], _ => exact ⟨c0, c1, rfl⟩
theorem lenx3 {α : Type} (l : List α) (h : l.length = 3) : ∃ c0 c1 c2, l = [c0, c1, c2] := by
  match l, h with
  | [c0, c1, c2], _ => exact ⟨c0, c1, c2, rfl⟩
theorem lenx4 {α : Type} (l : List α) (h : l.length = 4) : ∃ c0 c1 c2 c3, l = [c0, c1, c2, c3] := by
  match l, h with
  | [c0, c1, c2, c3], _ => exact ⟨c0, c1, c2, c3, rfl⟩
theorem lenx6 {α : Type} (l : List α) (h : l.length = 6) : ∃ c0 c1 c2 c3 c4 c5, l = [c0, c1, c2, c3, c4, c5] := by
  match l, h with
  | [c0, c1, c2, c3, c4, c5], _ => exact ⟨c0, c1, c2, c3, c4, c5, rfl⟩
theorem rows_of {α : Type} (d : Kd α) (z : α) (wf : α → Bool) {H : Type} {enc : TypeId × Value → H} {W : World} {sp : Nat → Bool} {held : Bool} {n : Nat} {cs : List Value} {x : DataW H × List MemPlace} {t e : TypeId} (hpos : 0 < d.sz) (hsz : Try.prog.cellsOf e = d.sz) (hu : Try.prog.underlying t = some (.slice e))
    (hel : ∀ {n : Nat} {cs : List Value} {x : DataW H × List MemPlace}, DataW.trod enc Try.prog W 0 sp held n e cs = some x → ∃ k : α, d.K W k cs ∧ wf k = true) (h : DataW.trod enc Try.prog W 0 sp held n t cs = some x) :
    ∃ (p : Option Addr) (cap : Nat) (l : List α), cs = [.slice p l.length cap] ∧ Kd.C d W p l.length l ∧ l.length ≤ cap ∧ l.all wf = true := by
  rcases open_slice hu h with ⟨hcs, _⟩ | ⟨a, len, cap, m, n, D, Pl, hcs, hb, hl, hm, hmm, hx, hi⟩
  · exact ⟨none, 0, [], hcs, Kd.C_nil _ _, Nat.le_refl _, rfl⟩
  · have hlm : len ≤ m := by
      subst hmm
      split <;> omega
    have key : ∀ i, i < len → ∃ k : α, (∃ c : List Value, c.length = d.sz ∧ d.K W k c ∧ ∀ j, j < d.sz → W.cell? (a.add (i * d.sz + j)) = c[j]?) ∧ wf k = true := by
      intro i hil
      obtain ⟨cs', hc, ht⟩ := hi i (by omega)
      rw [hsz] at hc
      obtain ⟨k, hk, hw⟩ := hel ht
      obtain ⟨_, _, hat⟩ := World.cells?_some hc
      exact ⟨k, ⟨cs', d.K_len hk, hk, fun j hj => by rw [← Go.Deep.add_add]; exact hat j (by omega)⟩, hw⟩
    let f : Nat → α := fun i => if h : i < len then Classical.choose (key i h) else z
    have hfi : ∀ i, i < len → (∃ c : List Value, c.length = d.sz ∧ d.K W (f i) c ∧ ∀ j, j < d.sz → W.cell? (a.add (i * d.sz + j)) = c[j]?) ∧ wf (f i) = true := by
      intro i h
      have := Classical.choose_spec (key i h)
      simp only [f, dif_pos h]
      exact this
    have hmax : cap ≤ 9223372036854775807 := hm
    refine ⟨some a, cap, (List.range len).map f, by rw [hcs]; simp, ⟨rfl, by simp; omega, fun _ => ⟨a, rfl, fun j q hj => ?_⟩⟩, by simp; exact hl, ?_⟩
    · have hj2 : j < len := by have := (List.getElem?_eq_some_iff.1 hj).1; simpa using this
      have hq : q = f j := by simp [hj2] at hj; exact hj.symm
      subst hq
      obtain ⟨c, hcl, hK, hat⟩ := (hfi j hj2).1
      exact ⟨c, hcl, hK, fun i u hu => (hat i (by have := (List.getElem?_eq_some_iff.1 hu).1; omega)).trans hu⟩
    · rw [List.all_eq_true]
      intro x hx
      obtain ⟨i, hi, rfl⟩ := List.mem_map.1 hx
      exact (hfi i (List.mem_range.1 hi)).2
theorem source_of {H : Type} {enc : TypeId × Value → H} {W : World} {sp : Nat → Bool} {held : Bool} {n : Nat} {cs : List Value} {x : DataW H × List MemPlace} (h : DataW.trod enc Try.prog W 0 sp held n 79 cs = some x) : ∃ k : S79, k79.K W k cs ∧ inSrc k = true := by
  obtain ⟨xs, m, _, _, hl, hlen, hf⟩ := DataW.trod_struct Try.underlying79 h
  rw [ec79] at hl
  obtain ⟨c0, c1, c2, rfl⟩ := len3 cs hl
  have hlen' : xs.length = 3 := hlen
  obtain ⟨x0, x1, x2, rfl⟩ := lenx3 xs hlen'
  have h0 : DataW.trod enc Try.prog W 0 sp held m 4 (List.take (Try.prog.cellsOf 4) [c0, c1, c2]) = some x0 := hf 0 _ rfl
  rw [ec4] at h0
  obtain ⟨a0, d0, _⟩ := DataW.trod_bool Try.underlying4 h0
  simp at d0
  subst d0
  have h1 : DataW.trod enc Try.prog W 0 sp held m 2 (List.take (Try.prog.cellsOf 2) [c1, c2]) = some x1 := hf 1 _ rfl
  rw [ec2] at h1
  obtain ⟨a1, d1, _, w1⟩ := DataW.trod_int Try.underlying2 h1
  simp at d1
  subst d1
  have b1 := bounds_i64 w1
  have h2 : DataW.trod enc Try.prog W 0 sp held m 2 (List.take (Try.prog.cellsOf 2) [c2]) = some x2 := hf 2 _ rfl
  rw [ec2] at h2
  obtain ⟨a2, d2, _, w2⟩ := DataW.trod_int Try.underlying2 h2
  simp at d2
  subst d2
  have b2 := bounds_i64 w2
  exact ⟨⟨a0, a1, a2⟩, src_K W ⟨a0, a1, a2⟩, by unfold inSrc; rw [Bool.and_eq_true]; exact ⟨(in64_iff.2 b1), (in64_iff.2 b2)⟩⟩
theorem sources_of {H : Type} {enc : TypeId × Value → H} {W : World} {sp : Nat → Bool} {held : Bool} {n : Nat} {cs : List Value} {x : DataW H × List MemPlace} (h : DataW.trod enc Try.prog W 0 sp held n 65 cs = some x) : ∃ (p : Option Addr) (cap : Nat) (l : List S79), cs = [.slice p l.length cap] ∧ Kd.C k79 W p l.length l ∧ l.length ≤ cap ∧ l.all inSrc = true :=
  rows_of k79 z79 inSrc (by decide +kernel) (by kernel_rfl) Try.underlying65 (fun h => source_of h) h
theorem dep_of {H : Type} {enc : TypeId × Value → H} {W : World} {sp : Nat → Bool} {held : Bool} {n : Nat} {cs : List Value} {x : DataW H × List MemPlace} (h : DataW.trod enc Try.prog W 0 sp held n 67 cs = some x) : ∃ k : S67, k67.K W k cs ∧ inDep k = true := by
  obtain ⟨xs, m, _, _, hl, hlen, hf⟩ := DataW.trod_struct Try.underlying67 h
  rw [ec67] at hl
  obtain ⟨c0, c1, c2, rfl⟩ := len3 cs hl
  have hlen' : xs.length = 3 := hlen
  obtain ⟨x0, x1, x2, rfl⟩ := lenx3 xs hlen'
  have h0 : DataW.trod enc Try.prog W 0 sp held m 65 (List.take (Try.prog.cellsOf 65) [c0, c1, c2]) = some x0 := hf 0 _ rfl
  rw [ec65] at h0
  obtain ⟨A0, p0, l0, d0, r0, k0, w0⟩ := sources_of h0
  simp at d0
  subst d0
  have h1 : DataW.trod enc Try.prog W 0 sp held m 65 (List.take (Try.prog.cellsOf 65) [c1, c2]) = some x1 := hf 1 _ rfl
  rw [ec65] at h1
  obtain ⟨A1, p1, l1, d1, r1, k1, w1⟩ := sources_of h1
  simp at d1
  subst d1
  have h2 : DataW.trod enc Try.prog W 0 sp held m 2 (List.take (Try.prog.cellsOf 2) [c2]) = some x2 := hf 2 _ rfl
  rw [ec2] at h2
  obtain ⟨a2, d2, _, w2⟩ := DataW.trod_int Try.underlying2 h2
  simp at d2
  subst d2
  have b2 := bounds_i64 w2
  exact ⟨⟨l0, l1, a2⟩, dep_K (x := ⟨l0, l1, a2⟩) k0 r0 k1 r1, by unfold inDep; simp only [Bool.and_eq_true]; exact ⟨w0, w1, (in64_iff.2 b2)⟩⟩
theorem read_of {H : Type} {enc : TypeId × Value → H} {W : World} {sp : Nat → Bool} {held : Bool} {n : Nat} {cs : List Value} {x : DataW H × List MemPlace} (h : DataW.trod enc Try.prog W 0 sp held n 69 cs = some x) : ∃ k : S69, k69.K W k cs ∧ inRead k = true := by
  obtain ⟨xs, m, _, _, hl, hlen, hf⟩ := DataW.trod_struct Try.underlying69 h
  rw [ec69] at hl
  obtain ⟨c0, c1, c2, c3, c4, c5, rfl⟩ := len6 cs hl
  have hlen' : xs.length = 4 := hlen
  obtain ⟨x0, x1, x2, x3, rfl⟩ := lenx4 xs hlen'
  have h0 : DataW.trod enc Try.prog W 0 sp held m 5 (List.take (Try.prog.cellsOf 5) [c0, c1, c2, c3, c4, c5]) = some x0 := hf 0 _ rfl
  rw [ec5] at h0
  obtain ⟨a0, d0, _, w0⟩ := DataW.trod_int Try.underlying5 h0
  simp at d0
  subst d0
  have h1 : DataW.trod enc Try.prog W 0 sp held m 3 (List.take (Try.prog.cellsOf 3) [c1, c2, c3, c4, c5]) = some x1 := hf 1 _ rfl
  rw [ec3] at h1
  obtain ⟨a1, d1, _, w1⟩ := DataW.trod_int Try.underlying3 h1
  simp at d1
  subst d1
  have b1 := bounds_i64 w1
  have h2 : DataW.trod enc Try.prog W 0 sp held m 3 (List.take (Try.prog.cellsOf 3) [c2, c3, c4, c5]) = some x2 := hf 2 _ rfl
  rw [ec3] at h2
  obtain ⟨a2, d2, _, w2⟩ := DataW.trod_int Try.underlying3 h2
  simp at d2
  subst d2
  have b2 := bounds_i64 w2
  have h3 : DataW.trod enc Try.prog W 0 sp held m 67 (List.take (Try.prog.cellsOf 67) [c3, c4, c5]) = some x3 := hf 3 _ rfl
  rw [ec67] at h3
  obtain ⟨a3, d3, w3⟩ := dep_of h3
  obtain ⟨A3, q3, A4, q4, e3, g3, r3, g4, r4⟩ := k67_open d3
  simp only [List.take_succ_cons, List.take_zero] at e3
  injection e3 with e3 e3'
  injection e3' with e4 e4'
  injection e4' with e5 _
  subst e3 e4 e5
  exact ⟨⟨a0, a1, a2, a3⟩, read_K (x := ⟨a0, a1, a2, a3⟩) g3 r3 g4 r4, by unfold inRead; simp only [Bool.and_eq_true]; exact ⟨(in64_iff.2 b1), (in64_iff.2 b2), w3⟩⟩
theorem reads_of {H : Type} {enc : TypeId × Value → H} {W : World} {sp : Nat → Bool} {held : Bool} {n : Nat} {cs : List Value} {x : DataW H × List MemPlace} (h : DataW.trod enc Try.prog W 0 sp held n 42 cs = some x) : ∃ (p : Option Addr) (cap : Nat) (l : List S69), cs = [.slice p l.length cap] ∧ Kd.C k69 W p l.length l ∧ l.length ≤ cap ∧ l.all inRead = true :=
  rows_of k69 z69 inRead (by decide +kernel) (by kernel_rfl) Try.underlying42 (fun h => read_of h) h
theorem clock_of {H : Type} {enc : TypeId × Value → H} {W : World} {sp : Nat → Bool} {held : Bool} {n : Nat} {cs : List Value} {x : DataW H × List MemPlace} (h : DataW.trod enc Try.prog W 0 sp held n 25 cs = some x) : ∃ k : S25, k25.K W k cs ∧ ok25 k = true := by
  obtain ⟨xs, m, _, _, hl, hlen, hf⟩ := DataW.trod_struct Try.underlying25 h
  rw [ec25] at hl
  obtain ⟨c0, c1, rfl⟩ := len2 cs hl
  have hlen' : xs.length = 2 := hlen
  obtain ⟨x0, x1, rfl⟩ := lenx2 xs hlen'
  have h0 : DataW.trod enc Try.prog W 0 sp held m 2 (List.take (Try.prog.cellsOf 2) [c0, c1]) = some x0 := hf 0 _ rfl
  rw [ec2] at h0
  obtain ⟨a0, d0, _, w0⟩ := DataW.trod_int Try.underlying2 h0
  simp at d0
  subst d0
  have b0 := bounds_i64 w0
  have h1 : DataW.trod enc Try.prog W 0 sp held m 2 (List.take (Try.prog.cellsOf 2) [c1]) = some x1 := hf 1 _ rfl
  rw [ec2] at h1
  obtain ⟨a1, d1, _, w1⟩ := DataW.trod_int Try.underlying2 h1
  simp at d1
  subst d1
  have b1 := bounds_i64 w1
  exact ⟨⟨a0, a1⟩, clock_K W ⟨a0, a1⟩, by unfold ok25; rw [Bool.and_eq_true]; exact ⟨(in64_iff.2 b0), (in64_iff.2 b1)⟩⟩
theorem clocks_of {H : Type} {enc : TypeId × Value → H} {W : World} {sp : Nat → Bool} {held : Bool} {n : Nat} {cs : List Value} {x : DataW H × List MemPlace} (h : DataW.trod enc Try.prog W 0 sp held n 37 cs = some x) : ∃ (p : Option Addr) (cap : Nat) (l : List S25), cs = [.slice p l.length cap] ∧ Kd.C k25 W p l.length l ∧ l.length ≤ cap ∧ l.all ok25 = true :=
  rows_of k25 z25 ok25 (by decide +kernel) (by kernel_rfl) Try.underlying37 (fun h => clock_of h) h
theorem task_of {H : Type} {enc : TypeId × Value → H} {W : World} {sp : Nat → Bool} {held : Bool} {n : Nat} {cs : List Value} {x : DataW H × List MemPlace} (h : DataW.trod enc Try.prog W 0 sp held n 44 cs = some x) : ∃ k : S44, k44.K W k cs ∧ inTask k = true := by
  obtain ⟨xs, m, _, _, hl, hlen, hf⟩ := DataW.trod_struct Try.underlying44 h
  rw [ec44] at hl
  obtain ⟨c0, c1, c2, c3, c4, c5, c6, rfl⟩ := len7 cs hl
  have hlen' : xs.length = 6 := hlen
  obtain ⟨x0, x1, x2, x3, x4, x5, rfl⟩ := lenx6 xs hlen'
  have h0 : DataW.trod enc Try.prog W 0 sp held m 25 (List.take (Try.prog.cellsOf 25) [c0, c1, c2, c3, c4, c5, c6]) = some x0 := hf 0 _ rfl
  rw [ec25] at h0
  obtain ⟨a0, d0, w0⟩ := clock_of h0
  have h1 : DataW.trod enc Try.prog W 0 sp held m 2 (List.take (Try.prog.cellsOf 2) [c2, c3, c4, c5, c6]) = some x1 := hf 1 _ rfl
  rw [ec2] at h1
  obtain ⟨a1, d1, _, w1⟩ := DataW.trod_int Try.underlying2 h1
  simp at d1
  subst d1
  have b1 := bounds_i64 w1
  have h2 : DataW.trod enc Try.prog W 0 sp held m 3 (List.take (Try.prog.cellsOf 3) [c3, c4, c5, c6]) = some x2 := hf 2 _ rfl
  rw [ec3] at h2
  obtain ⟨a2, d2, _, w2⟩ := DataW.trod_int Try.underlying3 h2
  simp at d2
  subst d2
  have b2 := bounds_i64 w2
  have h3 : DataW.trod enc Try.prog W 0 sp held m 3 (List.take (Try.prog.cellsOf 3) [c4, c5, c6]) = some x3 := hf 3 _ rfl
  rw [ec3] at h3
  obtain ⟨a3, d3, _, w3⟩ := DataW.trod_int Try.underlying3 h3
  simp at d3
  subst d3
  have b3 := bounds_i64 w3
  have h4 : DataW.trod enc Try.prog W 0 sp held m 42 (List.take (Try.prog.cellsOf 42) [c5, c6]) = some x4 := hf 4 _ rfl
  rw [ec42] at h4
  obtain ⟨A4, p4, l4, d4, r4, k4, w4⟩ := reads_of h4
  simp at d4
  subst d4
  have h5 : DataW.trod enc Try.prog W 0 sp held m 3 (List.take (Try.prog.cellsOf 3) [c6]) = some x5 := hf 5 _ rfl
  rw [ec3] at h5
  obtain ⟨a5, d5, _, w5⟩ := DataW.trod_int Try.underlying3 h5
  simp at d5
  subst d5
  have b5 := bounds_i64 w5
  have e0 := k25_open d0
  simp only [List.take_succ_cons, List.take_zero] at e0
  injection e0 with e0 e0'
  injection e0' with e1 _
  subst e0 e1
  unfold ok25 at w0
  exact ⟨⟨a0, a1, a2, a3, l4, a5⟩, task_K (x := ⟨a0, a1, a2, a3, l4, a5⟩) k4 r4, by unfold inTask; simp only [Bool.and_eq_true]; rw [Bool.and_eq_true] at w0; exact ⟨w0, (in64_iff.2 b1), (in64_iff.2 b2), (in64_iff.2 b3), (in64_iff.2 b5), w4⟩⟩
theorem tasks_of {H : Type} {enc : TypeId × Value → H} {W : World} {sp : Nat → Bool} {held : Bool} {n : Nat} {cs : List Value} {x : DataW H × List MemPlace} (h : DataW.trod enc Try.prog W 0 sp held n 36 cs = some x) : ∃ (p : Option Addr) (cap : Nat) (l : List S44), cs = [.slice p l.length cap] ∧ Kd.C k44 W p l.length l ∧ l.length ≤ cap ∧ l.all inTask = true :=
  rows_of k44 z44 inTask (by decide +kernel) (by kernel_rfl) Try.underlying36 (fun h => task_of h) h
end Go.Proofs.Ytkabmpbfabgkfaa
