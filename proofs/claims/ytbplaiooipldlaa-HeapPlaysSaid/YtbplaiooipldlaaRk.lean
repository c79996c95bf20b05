/-
  A row of jobs that a call has made: how it reads, and what a store into it leaves; slices.Clone and heap.Rows.
  Conditions: the row holds at least one job, and at most 4096.
-/
import Derived.Test.YtbplaiooipldlaaSr
import Derived.WalkKit
import Derived.WalkSpells
import Derived.WalkLawsBesides
import Derived.Deep.QuietTactic
import Derived.BigQuiet
import Derived.Lib.Hide
import Derived.Handy
import Derived.Deep.AppendLies
import Derived.OwnWalk
import Derived.Lib.LazyBuf
set_option linter.unusedVariables false
set_option linter.unusedSimpArgs false
namespace Go.Proofs.Ytbplaiooipldlaa
open Go.RowKit Hp
attribute [local go_sem] setCell_drewN alloc_drewN size_ext ext_ext ext_drewN ext_drew drewN_ext drew_ext cell?_ext frozen?_ext setCell_ext cell?_past1 frozen?_past1 setCell_past1 cell?_past2 frozen?_past2 setCell_past2 cell?_past3 frozen?_past3 setCell_past3 cell?_past4 frozen?_past4 setCell_past4 cell?_past5 frozen?_past5 setCell_past5 cell?_past6 frozen?_past6 setCell_past6 cell?_past7 frozen?_past7 setCell_past7 cell?_past8 frozen?_past8 setCell_past8

def RowK (w : World) (B : Nat) (v : Value) (xs : List Key) : Prop := w.ownsRow B 31 3 v xs.length (flat xs)
theorem RowK.kept {w w' : World} {B : Nat} {v : Value} {xs : List Key} {Fp : Nat → Prop} (h : RowK w B v xs) (hf : Fr Fp w w') (hn : ∀ k, v.ownBlock = some k → ¬ Fp k) : RowK w' B v xs := by
  refine ⟨h.1, ?_⟩
  rcases h.2 with h2 | ⟨g, cap, cur, rfl, hb, hg, h3⟩
  · exact .inl h2
  · exact .inr ⟨g, cap, cur, rfl, hb, (hf.block g (h.lt g rfl).2 (hn g rfl)).trans hg, h3⟩
theorem RowK.mono {w : World} {B B' : Nat} {v : Value} {xs : List Key} (h : RowK w B v xs) (hb : B' ≤ B) : RowK w B' v xs := ⟨h.1, h.2.imp id fun ⟨g, cap, cur, h1, h2, h3⟩ => ⟨g, cap, cur, h1, Nat.le_trans hb h2, h3⟩⟩
theorem RowK.rowE {w : World} {B g cap n : Nat} {xs : List Key} (h : RowK w B (.slice (some ⟨g, 0, none⟩) n cap) xs) (hn : xs.length = n) (i : Nat) (hi : i < xs.length) :
    w.cell? ⟨g, i * 3, none⟩ = some (.int .i64 (at_ xs i).due) ∧ w.cell? ⟨g, i * 3 + 1, none⟩ = some (.int .i64 (at_ xs i).task) ∧ w.cell? ⟨g, i * 3 + 2, none⟩ = some (.int .i64 (at_ xs i).n) := by
  subst hn
  obtain ⟨f1, f2, f3⟩ := flat_get xs i hi
  have h' : w.ownsRow B 31 3 (.slice (some ⟨g, 0, none⟩) xs.length cap) xs.length (flat xs) := h
  exact ⟨(h'.cellAt _ (by omega)).trans f1, (h'.cellAt _ (by omega)).trans f2, (h'.cellAt _ (by omega)).trans f3⟩
theorem RowK.frozen {w : World} {B g cap n : Nat} {xs : List Key} (h : RowK w B (.slice (some ⟨g, 0, none⟩) n cap) xs) (hn : xs.length = n) (o : Nat) : w.frozen? ⟨g, o, none⟩ = false := by
  subst hn
  exact World.ownsRow.frozenAt h o
theorem RowK.putAt {w : World} {B g cap n : Nat} {xs : List Key} (h : RowK w B (.slice (some ⟨g, 0, none⟩) n cap) xs) (hn : xs.length = n) (i : Nat) (k : Key) :
    RowK (((w.setCell ⟨g, i * 3, none⟩ (.int .i64 k.due)).setCell ⟨g, i * 3 + 1, none⟩ (.int .i64 k.task)).setCell ⟨g, i * 3 + 2, none⟩ (.int .i64 k.n)) B (.slice (some ⟨g, 0, none⟩) n cap) (xs.set i k) := by
  subst hn
  unfold RowK
  rw [List.length_set, flat_set]
  exact ((((World.ownsRow.stored h) _ _).1.stored _ _).1.stored _ _).1
theorem RowK.lt {w : World} {B : Nat} {v : Value} {xs : List Key} (h : RowK w B v xs) : ∀ k, v.ownBlock = some k → B ≤ k ∧ k < w.heap.size := World.ownsRow.lt h
theorem RowK.src {w : World} {B g cap n : Nat} {xs : List Key} (h : RowK w B (.slice (some ⟨g, 0, none⟩) n cap) xs) (hn : xs.length = n) : Src w g 0 xs := by
  intro i hi
  simp only [Nat.zero_add]
  exact h.rowE hn i hi
theorem IsHeap.src {w : World} {H : Nat} {g cap n : Nat} {most : Int} {xs : List Key} (h : IsHeap w H (.slice (some ⟨g, 0, none⟩) n cap) most xs) (hn : xs.length = n) : Src w g 0 xs := by
  intro i hi
  simp only [Nat.zero_add]
  exact h.rowE hn i hi
theorem src_news {w : World} {ab ao : Nat} {l : List Key} (h : Src w ab ao l) : ∀ j u, (flat l)[j]? = some u → w.cell? ((⟨ab, ao, none⟩ : Addr).add j) = some u := by
  intro j u hj
  have hadd : (⟨ab, ao, none⟩ : Addr).add j = ⟨ab, ao + j, none⟩ := by unfold Addr.add; split <;> simp_all
  rw [hadd]
  have hlt : j < l.length * 3 := by
    have := (List.getElem?_eq_some_iff.1 hj).1
    rw [flat_length] at this
    exact this
  obtain ⟨q, r, hr, rfl⟩ : ∃ q r, r < 3 ∧ j = q * 3 + r := ⟨j / 3, j % 3, by omega, by omega⟩
  obtain ⟨h1, h2, h3⟩ := h q (by omega)
  obtain ⟨f1, f2, f3⟩ := flat_get l q (by omega)
  match r, hr with
  | 0, _ => rw [Nat.add_zero] at hj ⊢; rw [h1, ← hj, f1]
  | 1, _ => rw [← Nat.add_assoc, h2, ← hj, f2]
  | 2, _ => rw [← Nat.add_assoc, h3, ← hj, f3]
theorem flat_one (l : List Key) : ∀ u ∈ flat l, u.oneCell' = true := by
  induction l with
  | nil => intro u hu; simp [flat] at hu
  | cons k l ih =>
    intro u hu
    simp only [flat, List.mem_cons] at hu
    rcases hu with rfl | rfl | rfl | hu
    · rfl
    · rfl
    · rfl
    · exact ih u hu
theorem eqnil (w : World) (a : Addr) (n c : Nat) : (binOp .eql 22 (.slice (some a) n c) (.slice none 0 0)).run Try.prog w = .ok (.bool false) w := run_eql_slice_nil w 22 31 (some a) n c Try.underlying22
attribute [local go_sem] eqnil
set_option maxHeartbeats 1000000 in
theorem clone_ok (l : List Key) (ab ao cap : Nat) (w : World) (hs : Src w ab ao l) (hab : ab < w.heap.size) (h0 : 0 < l.length) (hn : l.length ≤ 4096) :
    Calls Try.prog 24 #[.slice (some ⟨ab, ao, none⟩) l.length cap] w fun e w' => ∃ g cap', e = .returned (.slice (some ⟨g, 0, none⟩) l.length cap') ∧ RowK w' w.heap.size (.slice (some ⟨g, 0, none⟩) l.length cap') l ∧ w.heap.size ≤ g ∧ Below w.heap.size w w' := by
  obtain ⟨i0, hi, hz0, hz1, hz2⟩ := info_parts infoK
  have Hs := Lib.hid hs
  clear hs
  obtain ⟨n, hln⟩ : ∃ n, n = l.length := ⟨_, rfl⟩
  rw [← hln] at h0 hn
  have Hln := Lib.hid hln
  rw [← hln]
  clear hln
  go_enter Try.func24, Try.ntmps24
  go_wp2_with (first
    | (at_builtin; refine wpList_append_lies _ (by rfl) _ _ 22 rfl w.heap.size 31 i0 (.agg #[.int .i64 0, .int .i64 0, .int .i64 0]) 3 24 Try.underlying22 hi hz0 hz1 hz2 rfl (by decide) _ 0 [] (by rfl) (⟨rfl, .inr ⟨w.heap.size, 0, #[], rfl, Nat.le_refl _, by simp only [heap_alloc_new], Nat.le_refl _, by unfold maxLen; omega, rfl, rfl⟩⟩) ⟨ab, ao, none⟩ n cap (flat l) (by rfl) (by rw [flat_length, Hln.out]) (src_news (Hs.out.below ((Below.refl _ _).alloc (Nat.le_refl _) _) hab)) (flat_one l) h0 (by unfold maxLen; omega) (by omega) (by simp [go_sem]) _ rfl ?_
       intro g cap' w1 hown hgrow hat hlt))
  have hg : w.heap.size ≤ g := (hown.lt g rfl).1
  have hb : Below w.heap.size w w1 := ((Below.refl _ _).alloc (Nat.le_refl _) _).grown hgrow (by simp [go_sem]) (fun k hk => by
    simp [Value.ownBlock] at hk
    omega)
  have hown2 : w1.ownsRow w.heap.size 31 3 (.slice (some ⟨g, 0, none⟩) n cap') n (flat l) := by simpa using hown
  go_ret
  refine ⟨g, cap', rfl, ?_, hg, hb⟩
  unfold RowK
  rw [← Hln.out]
  exact hown2
theorem rows_ok (w : World) (H : Nat) (v : Value) (most : Int) (xs : List Key) (h : IsHeap w H v most xs) (h0 : 0 < xs.length) (hn : xs.length ≤ 4096) :
    Calls Try.prog 17 #[.pointer (some ⟨H, 0, none⟩)] w fun e w' => ∃ g cap', e = .returned (.slice (some ⟨g, 0, none⟩) xs.length cap') ∧ RowK w' w.heap.size (.slice (some ⟨g, 0, none⟩) xs.length cap') xs ∧ w.heap.size ≤ g ∧ Below w.heap.size w w' := by
  obtain ⟨g1, cap1, rfl, hg, hgH, hcap, hcm⟩ := h.form h0
  obtain ⟨c0, c1, c2, cf⟩ := h.cells
  have hH := h.lt H (.inl rfl)
  have Hs := Lib.hid (h.src rfl)
  clear h
  go_enter Try.func17, Try.ntmps17
  go_wp2_with fail
  refine (clone_ok xs g1 0 cap1 _ Hs.out hg h0 hn).mono ?_
  rintro e w' ⟨g, cap', rfl, h1, h2, h3⟩
  go_wp2_with fail
  go_ret
  exact ⟨g, cap', rfl, h1, h2, h3⟩
end Go.Proofs.Ytbplaiooipldlaa
