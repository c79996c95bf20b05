/-
  The jobs of tasks, plain.
  Conditions: none.
-/
import Derived.Test.YtkabmpbfabgkfaaJb
import Derived.Test.YtkabmpbfabgkfaaAx
import Derived.Test.YtkabmpbfabgkfaaUd
import Derived.WalkKit
import Derived.WalkSpells
import Derived.WalkLawsBesides
import Derived.Deep.QuietTactic
import Derived.BigQuiet
import Derived.Lib.Hide
import Derived.Handy
import Derived.Deep.AppendLies
import Derived.Maps.AppendAt
import Derived.OwnWalk
import Derived.Lib.LazyBuf
import Derived.Deep.DeepCutAuto
import Derived.Deep.RegionLaw
import Derived.Deep.RegionHeld3
import Derived.Deep.RegionWith
import Derived.BigRegion
import Derived.Deep.CutBlock
import Derived.LoopN
import Derived.Shelf.SlSortCmp.WholeK
import Derived.Shelf.SlSortCmp.NoneTotal
import Derived.Laws.AppendOwn
set_option linter.unusedVariables false
set_option linter.unusedSimpArgs false
namespace Go.Proofs.Ytkabmpbfabgkfaa
open Go.RowKit 
open Big
attribute [local go_sem] setCell_drewN alloc_drewN size_ext ext_ext ext_drewN ext_drew drewN_ext drew_ext cell?_ext frozen?_ext setCell_ext cell?_past1 frozen?_past1 setCell_past1 cell?_past2 frozen?_past2 setCell_past2 cell?_past3 frozen?_past3 setCell_past3 cell?_past4 frozen?_past4 setCell_past4 cell?_past5 frozen?_past5 setCell_past5 cell?_past6 frozen?_past6 setCell_past6 cell?_past7 frozen?_past7 setCell_past7 cell?_past8 frozen?_past8 setCell_past8
open Go.Proofs.Ytkabmpbfabgkfaa.P Go.Proofs.YtkabmpbfabgkfaaW.PrintWords Go.Proofs.YtkabmpbfabgkfaaW.PrintLast Go.Proofs.YtkabmpbfabgkfaaW.PrintMore
open Go.Shelf Go.Lib Go.Sort
/-- The n-th job of task i. -/
def jobOf (i : Nat) (t : S44) (n : Nat) : S60 := ⟨i, n, t.f0.f1 + n * t.f0.f0, IntKind.i64.wrap (t.f0.f1 + n * t.f0.f0 + t.f1)⟩
def jobsN (i : Nat) (t : S44) (m : Nat) : List S60 := (List.range m).map (jobOf i t)
def jobsOf (u : Int) (i : Nat) (t : S44) : List S60 := jobsN i t (belowN t.f0.f0 t.f0.f1 u).toNat
def jobsL (u : Int) : Nat → List S44 → List S60
  | _, [] => []
  | i, t :: ts => jobsOf u i t ++ jobsL u (i + 1) ts
def sumB (u : Int) : List S44 → Int → Option Int
  | [], n => some n
  | t :: ts, n => if 4096 < n + belowN t.f0.f0 t.f0.f1 u then none else sumB u ts (n + belowN t.f0.f0 t.f0.f1 u)
/-- What unfold.Jobs answers. -/
def jobsF (l : List S44) (u : Int) : List S60 × Int :=
  if 160 < l.length then ([], 2) else if u < 0 then ([], 2) else if 1125899906842624 < u then ([], 2) else if l.any bad44 = true then ([], 2) else
    match sumB u l 0 with
    | none => ([], 4)
    | some _ => (sortJ (jobsL u 0 l), 0)
theorem jobsN_succ (i : Nat) (t : S44) (m : Nat) : jobsN i t (m + 1) = jobsN i t m ++ [jobOf i t m] := by unfold jobsN; rw [List.range_succ, List.map_append]; rfl
theorem jobsN_length (i : Nat) (t : S44) (m : Nat) : (jobsN i t m).length = m := by simp [jobsN]
theorem jobsL_append (u : Int) : ∀ (i : Nat) (a b : List S44), jobsL u i (a ++ b) = jobsL u i a ++ jobsL u (i + a.length) b
  | i, [], b => by simp [jobsL]
  | i, t :: a, b => by
    simp only [List.cons_append, jobsL, List.append_assoc, List.length_cons]
    rw [jobsL_append u (i + 1) a b, show i + 1 + a.length = i + (a.length + 1) by omega]
theorem sumB_append (u : Int) : ∀ (a b : List S44) (n : Int), sumB u (a ++ b) n = (sumB u a n).bind (sumB u b)
  | [], _, _ => rfl
  | t :: a, b, n => by
    simp only [List.cons_append, sumB]
    split
    · rfl
    · exact sumB_append u a b _
theorem sumB_len (u : Int) : ∀ (l : List S44) (i : Nat) (n m : Int), (∀ t ∈ l, mayC t.f0.f0 t.f0.f1 = true) → n ≤ 4096 → sumB u l n = some m → m = n + (jobsL u i l).length ∧ m ≤ 4096
  | [], i, n, m, _, h1, h => by cases h; exact ⟨by simp [jobsL], h1⟩
  | t :: l, i, n, m, hl, h1, h => by
    simp only [sumB] at h
    split at h
    · cases h
    · have hb := belowN_nonneg (s := t.f0.f1) (u := u) (mayC_spec (hl t List.mem_cons_self)).1
      have := sumB_len u l (i + 1) _ m (fun z hz => hl z (List.mem_cons_of_mem _ hz)) (by omega) h
      simp only [jobsL, List.length_append, jobsOf, jobsN_length]
      omega
theorem jobsL_mono (u : Int) (l : List S44) (k : Nat) : (jobsL u 0 (l.take k)).length ≤ (jobsL u 0 l).length := by
  conv => rhs; rw [← List.take_append_drop k l]
  rw [jobsL_append, List.length_append]
  omega
/-- The cells of jobs. -/
def flatJ (l : List S60) : List Value := l.flatMap kvJ
theorem flatJ_length (l : List S60) : (flatJ l).length = l.length * 4 := by
  induction l with
  | nil => rfl
  | cons x l ih => unfold flatJ at *; rw [List.flatMap_cons, List.length_append, ih]; simp [kvJ]; omega
theorem flatJ_append (a b : List S60) : flatJ (a ++ b) = flatJ a ++ flatJ b := by simp [flatJ]
theorem flatJ_get : ∀ (l : List S60) (j : Nat), j < l.length * 4 → (flatJ l)[j]? = some (kvJ l[j / 4]!)[j % 4]!
  | [], j, h => by simp at h
  | x :: l, j, h => by
    unfold flatJ
    rw [List.flatMap_cons]
    rcases Nat.lt_or_ge j 4 with h4 | h4
    · rw [List.getElem?_append_left (by simpa [kvJ] using h4), show j / 4 = 0 by omega, show j % 4 = j by omega]
      match j, h4 with
      | 0, _ => rfl
      | 1, _ => rfl
      | 2, _ => rfl
      | 3, _ => rfl
    · rw [List.getElem?_append_right (by simpa [kvJ] using h4), show (kvJ x).length = 4 from rfl]
      have := flatJ_get l (j - 4) (by simp at h; omega)
      unfold flatJ at this
      rw [this, show j / 4 = (j - 4) / 4 + 1 by omega, show j % 4 = (j - 4) % 4 by omega]
      simp
theorem holds_own {W : World} {base g cap n : Nat} {l : List S60} (h : W.ownsRow base 60 4 (.slice (some ⟨g, 0, none⟩) n cap) n (flatJ l)) : HoldsK kvJ 4 W g 0 l.toArray ∧ g < W.heap.size ∧ base ≤ g ∧ n = l.length := by
  have hn : n = l.length := by have h1 := h.1; rw [flatJ_length] at h1; omega
  have hc := h.cells rfl
  rcases h.2 with ⟨hv, _⟩ | ⟨g', cap', cur, hv, hb, hg, _, _, _, _⟩
  · cases hv
  · cases hv
    refine ⟨fun j hj => ?_, lt_of_blk hg, hb, hn⟩
    rw [size_flatK] at hj
    have hj' : j < l.length * 4 := by simpa using hj
    refine ⟨?_, by simp [World.frozen?, hg]⟩
    have := hc j _ (flatJ_get l j hj')
    rw [get_flatK _ _ _ _ hj]
    have e : (⟨g, 0, none⟩ : Addr).add j = ⟨g, 0 + j, none⟩ := Addr.add_lit _ _ _
    rw [e] at this
    simpa using this
theorem reads_holds {W : World} {g : Nat} {d : Array S60} (h : HoldsK kvJ 4 W g 0 d) (hn : d.size ≤ 4096) : Kd.C k60 W (some ⟨g, 0, none⟩) d.size d.toList := by
  refine ⟨by simp, by omega, fun _ => ⟨_, rfl, fun j q hj => ?_⟩⟩
  refine ⟨kvJ q, rfl, k60_mk W q, fun i v hv => ?_⟩
  have hjl : j < d.size := by have := (List.getElem?_eq_some_iff.1 hj).1; simpa using this
  have hi : i < 4 := by have := (List.getElem?_eq_some_iff.1 hv).1; simpa [kvJ] using this
  have h1 := (h (j * 4 + i) (by rw [size_flatK]; omega)).1
  rw [get_flatK _ _ _ _ (by omega), show (j * 4 + i) / 4 = j by omega, show (j * 4 + i) % 4 = i by omega] at h1
  have e : (⟨g, 0, none⟩ : Addr).add (j * 4 + i) = ⟨g, 0 + (j * 4 + i), none⟩ := Addr.add_lit _ _ _
  show W.cell? ((⟨g, 0, none⟩ : Addr).add (j * 4 + i)) = some v
  rw [e]
  refine h1.trans ?_
  have hq : d[j]! = q := by
    rw [getElem!_pos d j hjl]
    have := (List.getElem?_eq_some_iff.1 hj).2
    simpa using this
  rw [hq]
  show some (kvJ q)[i]! = some v
  rw [List.getElem!_eq_getElem?_getD, hv]; rfl
theorem infoJ : (Try.prog.info? 60).map (fun i => (i.zero, i.size, i.bytes)) = some (some (.agg #[.int .i64 0, .int .i64 0, .int .i64 0, .int .i64 0]), 4, 32) := by kernel_rfl
theorem row_formJ {w : World} {base : Nat} {e : TypeId} {size : Nat} {v : Value} {n : Nat} {xs : List Value} (h : w.ownsRow base e size v n xs) : ∃ p cap, v = .slice p n cap := by
  rcases h.2 with ⟨rfl, rfl⟩ | ⟨g, cap, cur, rfl, _⟩
  · exact ⟨none, 0, rfl⟩
  · exact ⟨_, cap, rfl⟩
theorem job_src (w : World) (k : S60) : ∀ j u, (kvJ k)[j]? = some u → (w.alloc (.cells #[.int .i64 k.f0, .int .i64 k.f1, .int .i64 k.f2, .int .i64 k.f3] 60)).cell? ((⟨w.heap.size, 0, none⟩ : Addr).add j) = some u := by
  intro j u hj
  unfold kvJ at hj
  match j, hj with
  | 0, hj => simp at hj; subst hj; simp [Addr.add, go_sem]
  | 1, hj => simp at hj; subst hj; simp [Addr.add, go_sem]
  | 2, hj => simp at hj; subst hj; simp [Addr.add, go_sem]
  | 3, hj => simp at hj; subst hj; simp [Addr.add, go_sem]
  | j + 4, hj => simp at hj
theorem one_kvJ (k : S60) : ∀ u ∈ kvJ k, u.oneCell' = true := by
  intro u hu
  simp [kvJ] at hu
  rcases hu with rfl | rfl | rfl | rfl <;> rfl
end Go.Proofs.Ytkabmpbfabgkfaa
