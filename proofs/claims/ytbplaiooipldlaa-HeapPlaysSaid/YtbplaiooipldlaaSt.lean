/-
  A heap in memory: its two blocks, what a call may turn, and what stands in its row.
  No condition: definitions and plain lemmas.
-/
import Derived.Test.YtbplaiooipldlaaLs
import Derived.WalkKit
import Derived.WalkSpells
import Derived.WalkLawsBesides
import Derived.Deep.QuietTactic
import Derived.BigQuiet
import Derived.Lib.Hide
import Derived.Handy
import Derived.Deep.AppendLies
set_option linter.unusedVariables false
set_option linter.unusedSimpArgs false
namespace Go.Proofs.Ytbplaiooipldlaa
open Go.RowKit Hp

/-- What a call may have turned: blocks of Fp, and new ones. -/
structure Fr (Fp : Nat → Prop) (w w' : World) : Prop where
  os : w'.os = w.os
  tape : w'.tape = w.tape
  output : w'.output = w.output
  size : w.heap.size ≤ w'.heap.size
  block : ∀ k, k < w.heap.size → ¬ Fp k → w'.heap[k]? = w.heap[k]?
theorem Fr.refl (Fp : Nat → Prop) (w : World) : Fr Fp w w := ⟨rfl, rfl, rfl, Nat.le_refl _, fun _ _ _ => rfl⟩
theorem Fr.trans {Fp G : Nat → Prop} {a b c : World} (h : Fr Fp a b) (k : Fr G b c) (hg : ∀ j, j < a.heap.size → G j → Fp j) : Fr Fp a c :=
  ⟨k.os.trans h.os, k.tape.trans h.tape, k.output.trans h.output, Nat.le_trans h.size k.size, fun i hi hn => (k.block i (Nat.lt_of_lt_of_le hi h.size) (fun hh => hn (hg i hi hh))).trans (h.block i hi hn)⟩
theorem Fr.of_below {Fp : Nat → Prop} {a b : World} (h : Below a.heap.size a b) : Fr Fp a b := ⟨h.os, h.tape, h.output, h.size, fun k hk _ => h.block k hk⟩
theorem Fr.to_below {Fp : Nat → Prop} {a b : World} (h : Fr Fp a b) {B : Nat} (hB : B ≤ a.heap.size) (hF : ∀ k, Fp k → B ≤ k) : Below B a b :=
  ⟨h.os, h.tape, h.output, h.size, fun k hk => h.block k (by omega) (fun hf => by have := hF k hf; omega)⟩
theorem Fr.cell {Fp : Nat → Prop} {a b : World} (h : Fr Fp a b) (k o : Nat) (hk : k < a.heap.size) (hn : ¬ Fp k) : b.cell? ⟨k, o, none⟩ = a.cell? ⟨k, o, none⟩ := by
  simp only [World.cell?]; rw [h.block k hk hn]
theorem Fr.frozen {Fp : Nat → Prop} {a b : World} (h : Fr Fp a b) (k o : Nat) (hk : k < a.heap.size) (hn : ¬ Fp k) : b.frozen? ⟨k, o, none⟩ = a.frozen? ⟨k, o, none⟩ := by
  simp only [World.frozen?]; rw [h.block k hk hn]
theorem Fr.mono {Fp G : Nat → Prop} {a b : World} (h : Fr Fp a b) (hg : ∀ k, Fp k → G k) : Fr G a b := ⟨h.os, h.tape, h.output, h.size, fun k hk hn => h.block k hk (fun hf => hn (hg k hf))⟩
theorem Fr.setCell {Fp : Nat → Prop} {a b : World} (h : Fr Fp a b) (k o : Nat) (u : Value) (hk : Fp k ∨ a.heap.size ≤ k) : Fr Fp a (b.setCell ⟨k, o, none⟩ u) :=
  ⟨h.os, h.tape, h.output, by have := h.size; simpa [World.setCell] using this, fun i hi hn => by
    rw [← h.block i hi hn]
    simp only [World.setCell, Array.getElem?_modify]
    rw [if_neg (by rintro rfl; rcases hk with hk | hk; exact hn hk; omega)]⟩
theorem Fr.drew {Fp : Nat → Prop} {a b : World} (h : Fr Fp a b) : Fr Fp a b.drew := ⟨h.os, h.tape, h.output, h.size, h.block⟩
theorem Fr.drewN {Fp : Nat → Prop} {a b : World} (h : Fr Fp a b) (n : Nat) : Fr Fp a (b.drewN n) := ⟨h.os, h.tape, h.output, h.size, h.block⟩
theorem Fr.ext {Fp : Nat → Prop} {a b : World} (h : Fr Fp a b) (X : Array Obj) (d : Nat) : Fr Fp a (ext b X d) :=
  h.trans (Fr.of_below (Fp := Fp) (ext_below b X d)) (fun _ _ hh => hh)
theorem Fr.alloc {Fp : Nat → Prop} {a b : World} (h : Fr Fp a b) (o : Obj) : Fr Fp a (b.alloc o) :=
  h.trans (Fr.of_below (Fp := Fp) ((Below.refl _ _).alloc (Nat.le_refl _) o)) (fun _ _ hh => hh)
theorem Fr.grown {Fp : Nat → Prop} {a b c : World} {row : Option Nat} (h : Fr Fp a b) (hg : b.grownBy c row) (hr : ∀ k, k < a.heap.size → row = some k → Fp k) : Fr Fp a c :=
  ⟨hg.os.trans h.os, hg.tape.trans h.tape, hg.output.trans h.output, Nat.le_trans h.size hg.size, fun i hi hn => (hg.block i (Nat.lt_of_lt_of_le hi h.size) (fun e => hn (hr i hi e.symm))).trans (h.block i hi hn)⟩

/-- The cells of jobs, one behind the other. -/
def kv (k : Key) : List Value := [.int .i64 k.due, .int .i64 k.task, .int .i64 k.n]
def flat : List Key → List Value
  | [] => []
  | k :: l => .int .i64 k.due :: .int .i64 k.task :: .int .i64 k.n :: flat l
theorem flat_length (xs : List Key) : (flat xs).length = xs.length * 3 := by
  induction xs with
  | nil => rfl
  | cons k l ih => simp only [flat, List.length_cons, ih]; omega
theorem flat_append (xs ys : List Key) : flat (xs ++ ys) = flat xs ++ flat ys := by
  induction xs with
  | nil => rfl
  | cons k l ih => simp [flat, ih]
theorem flat_get (xs : List Key) : ∀ i, i < xs.length → (flat xs)[i * 3]? = some (.int .i64 (at_ xs i).due) ∧ (flat xs)[i * 3 + 1]? = some (.int .i64 (at_ xs i).task) ∧ (flat xs)[i * 3 + 2]? = some (.int .i64 (at_ xs i).n) := by
  induction xs with
  | nil => intro i h; simp at h
  | cons k l ih =>
    intro i h
    cases i with
    | zero => simp [flat, at_]
    | succ i =>
      have := ih i (by simpa using h)
      rw [show (i + 1) * 3 = i * 3 + 3 by omega, show i * 3 + 3 + 1 = i * 3 + 1 + 3 by omega, show i * 3 + 3 + 2 = i * 3 + 2 + 3 by omega]
      simpa [flat, at_] using this
theorem flat_set (k : Key) : ∀ (xs : List Key) (i : Nat), flat (xs.set i k) = (((flat xs).set (i * 3) (.int .i64 k.due)).set (i * 3 + 1) (.int .i64 k.task)).set (i * 3 + 2) (.int .i64 k.n) := by
  intro xs
  induction xs with
  | nil => intro i; simp [flat]
  | cons x l ih =>
    intro i
    cases i with
    | zero => simp [flat]
    | succ i =>
      rw [show (i + 1) * 3 = i * 3 + 3 by omega, show i * 3 + 3 + 1 = i * 3 + 1 + 3 by omega, show i * 3 + 3 + 2 = i * 3 + 2 + 3 by omega]
      simp only [List.set_cons_succ, flat, ih]
theorem flat_take (xs : List Key) : ∀ n, flat (xs.take n) = (flat xs).take (n * 3) := by
  induction xs with
  | nil => intro n; simp [flat]
  | cons x l ih =>
    intro n
    cases n with
    | zero => simp [flat]
    | succ n => rw [show (n + 1) * 3 = n * 3 + 3 by omega]; simp [flat, ih]
/-- A heap in memory: at block H its row, its order, and how many it holds at most. -/
def IsHeap (w : World) (H : Nat) (v : Value) (most : Int) (xs : List Key) : Prop :=
  w.heap[H]? = some (.cells #[v, .func (.func 11) #[] #[], .int .i64 most] 53 (0, 0)) ∧ w.ownsRow 0 31 3 v xs.length (flat xs)
/-- Its blocks. -/
def foot (H : Nat) (v : Value) : Nat → Prop := fun k => k = H ∨ v.ownBlock = some k
theorem IsHeap.lt {w : World} {H : Nat} {v : Value} {most : Int} {xs : List Key} (h : IsHeap w H v most xs) : ∀ k, foot H v k → k < w.heap.size := by
  rintro k (rfl | hk)
  · rcases Nat.lt_or_ge k w.heap.size with h1 | h1
    · exact h1
    · have := h.1; rw [Array.getElem?_eq_none h1] at this; cases this
  · exact (h.2.lt k hk).2
theorem IsHeap.kept {w w' : World} {H : Nat} {v : Value} {most : Int} {xs : List Key} {Fp : Nat → Prop} (h : IsHeap w H v most xs) (hf : Fr Fp w w') (hn : ∀ k, foot H v k → ¬ Fp k) : IsHeap w' H v most xs := by
  refine ⟨(hf.block H (h.lt H (.inl rfl)) (hn H (.inl rfl))).trans h.1, h.2.1, ?_⟩
  rcases h.2.2 with h2 | ⟨g, cap, cur, rfl, hb, hg, h3⟩
  · exact .inl h2
  · exact .inr ⟨g, cap, cur, rfl, hb, (hf.block g (h.lt g (.inr rfl)) (hn g (.inr rfl))).trans hg, h3⟩
theorem IsHeap.cells {w : World} {H : Nat} {v : Value} {most : Int} {xs : List Key} (h : IsHeap w H v most xs) :
    w.cell? ⟨H, 0, none⟩ = some v ∧ w.cell? ⟨H, 1, none⟩ = some (.func (.func 11) #[] #[]) ∧ w.cell? ⟨H, 2, none⟩ = some (.int .i64 most) ∧ (∀ o, w.frozen? ⟨H, o, none⟩ = false) := by
  refine ⟨?_, ?_, ?_, fun o => ?_⟩
  all_goals simp [World.cell?, World.frozen?, h.1]
theorem IsHeap.form {w : World} {H : Nat} {v : Value} {most : Int} {xs : List Key} (h : IsHeap w H v most xs) (h0 : 0 < xs.length) : ∃ g cap, v = .slice (some ⟨g, 0, none⟩) xs.length cap ∧ g < w.heap.size ∧ g ≠ H ∧ xs.length ≤ cap ∧ cap ≤ maxLen := by
  rcases h.2.2 with ⟨_, h2⟩ | ⟨g, cap, cur, rfl, hb, hg, hl, hm, h3⟩
  · omega
  · refine ⟨g, cap, rfl, h.lt g (.inr rfl), ?_, hl, hm⟩
    rintro rfl
    rw [h.1] at hg
    simp at hg
theorem IsHeap.far {w : World} {H : Nat} {v : Value} {most : Int} {xs : List Key} (h : IsHeap w H v most xs) : some H ≠ v.ownBlock := by
  intro he
  rcases h.2.2 with ⟨rfl, _⟩ | ⟨g, cap, cur, rfl, hb, hg, hl, hm, h3⟩
  · cases he
  · cases he
    rw [h.1] at hg
    simp at hg
theorem IsHeap.frozen {w : World} {H : Nat} {g cap n : Nat} {most : Int} {xs : List Key} (h : IsHeap w H (.slice (some ⟨g, 0, none⟩) n cap) most xs) (hn : xs.length = n) (o : Nat) : w.frozen? ⟨g, o, none⟩ = false := by
  subst hn; exact h.2.frozenAt o
theorem setCell_block (w1 : World) (H k o : Nat) (u : Value) (hk : k ≠ H) : (w1.setCell ⟨H, o, none⟩ u).heap[k]? = w1.heap[k]? := by
  simp only [World.setCell, Array.getElem?_modify]
  rw [if_neg (by omega)]
theorem IsHeap.putAt {w : World} {H : Nat} {g cap n : Nat} {most : Int} {xs : List Key} (h : IsHeap w H (.slice (some ⟨g, 0, none⟩) n cap) most xs) (hn : xs.length = n) (i : Nat) (k : Key) :
    IsHeap (((w.setCell ⟨g, i * 3, none⟩ (.int .i64 k.due)).setCell ⟨g, i * 3 + 1, none⟩ (.int .i64 k.task)).setCell ⟨g, i * 3 + 2, none⟩ (.int .i64 k.n)) H (.slice (some ⟨g, 0, none⟩) n cap) most (xs.set i k) := by
  have hg : H ≠ g := fun e => h.far (by rw [e]; rfl)
  subst hn
  refine ⟨?_, ?_⟩
  · rw [setCell_block _ _ _ _ _ hg, setCell_block _ _ _ _ _ hg, setCell_block _ _ _ _ _ hg]; exact h.1
  · rw [List.length_set, flat_set]
    exact (((h.2.stored _ _).1.stored _ _).1.stored _ _).1
theorem IsHeap.cutAt {w : World} {H : Nat} {g cap N : Nat} {most : Int} {xs : List Key} (h : IsHeap w H (.slice (some ⟨g, 0, none⟩) (N + 1) cap) most xs) (hn : xs.length = N + 1) :
    IsHeap (w.setCell ⟨H, 0, none⟩ (.slice (some ⟨g, 0, none⟩) N cap)) H (.slice (some ⟨g, 0, none⟩) N cap) most (xs.take N) := by
  have hg : g ≠ H := fun e => h.far (by rw [← e]; rfl)
  refine ⟨?_, ?_, ?_⟩
  · simp only [World.setCell, Array.getElem?_modify, if_pos, h.1]; rfl
  · rw [flat_length]
  · rcases h.2.2 with ⟨h2, _⟩ | ⟨g', cap', cur, h', hb, hgg, hnc, hcm, hcs, htake⟩
    · cases h2
    · simp only [Value.slice.injEq, Option.some.injEq, Addr.mk.injEq, and_true, true_and] at h'
      obtain ⟨rfl, _, rfl⟩ := h'
      refine .inr ⟨g, cap, cur, by simp [hn], hb, ?_, by simp; omega, hcm, hcs, ?_⟩
      · rw [setCell_block _ _ _ _ _ hg]; exact hgg
      · rw [flat_take, ← htake, List.take_take, List.length_take, hn]; congr 1; omega
theorem IsHeap.rowE {w : World} {H : Nat} {g cap n : Nat} {most : Int} {xs : List Key} (h : IsHeap w H (.slice (some ⟨g, 0, none⟩) n cap) most xs) (hn : xs.length = n) (i : Nat) (hi : i < xs.length) :
    w.cell? ⟨g, i * 3, none⟩ = some (.int .i64 (at_ xs i).due) ∧ w.cell? ⟨g, i * 3 + 1, none⟩ = some (.int .i64 (at_ xs i).task) ∧ w.cell? ⟨g, i * 3 + 2, none⟩ = some (.int .i64 (at_ xs i).n) := by
  subst hn
  obtain ⟨f1, f2, f3⟩ := flat_get xs i hi
  exact ⟨(h.2.cellAt _ (by omega)).trans f1, (h.2.cellAt _ (by omega)).trans f2, (h.2.cellAt _ (by omega)).trans f3⟩
theorem IsHeap.row {w : World} {H : Nat} {g cap : Nat} {most : Int} {xs : List Key} (h : IsHeap w H (.slice (some ⟨g, 0, none⟩) xs.length cap) most xs) (i : Nat) (hi : i < xs.length) :
    w.cell? ⟨g, i * 3, none⟩ = some (.int .i64 (at_ xs i).due) ∧ w.cell? ⟨g, i * 3 + 1, none⟩ = some (.int .i64 (at_ xs i).task) ∧ w.cell? ⟨g, i * 3 + 2, none⟩ = some (.int .i64 (at_ xs i).n) := by
  obtain ⟨f1, f2, f3⟩ := flat_get xs i hi
  exact ⟨(h.2.cellAt _ (by omega)).trans f1, (h.2.cellAt _ (by omega)).trans f2, (h.2.cellAt _ (by omega)).trans f3⟩
end Go.Proofs.Ytbplaiooipldlaa
