/-
  What a job's reads need, and what they need a turn on: the plain law of UnfoldRound.
  Conditions: none.
-/
import Derived.Test.YtkabmpbfabgkfaaJp
import Derived.Test.YtkabmpbfabgkfaaPt
import Derived.Test.YtkabmpbfabgkfaaNe
import Derived.Test.YtkabmpbfabgkfaaWb
set_option linter.unusedVariables false
set_option linter.unusedSimpArgs false
namespace Go.Proofs.Ytkabmpbfabgkfaa
open Go.RowKit 
open Go.Proofs.Ytkabmpbfabgkfaa.P Go.Proofs.YtkabmpbfabgkfaaW.PrintWords Go.Proofs.YtkabmpbfabgkfaaW.PrintLast Go.Proofs.YtkabmpbfabgkfaaW.PrintMore
open Go.Proofs.Ytkabmpbfabgkfaa.P Go.Proofs.YtkabmpbfabgkfaaW.PrintWords Go.Proofs.YtkabmpbfabgkfaaW.PrintLast Go.Proofs.YtkabmpbfabgkfaaW.PrintMore
/-- Ahead of, or the same. -/
def leJ (x y : S60) : Prop := x.f2 < y.f2 ∨ x.f2 = y.f2 ∧ x.f0 ≤ y.f0
theorem below_iff {p s u : Int} (hp : 1 ≤ p) (n : Nat) : (n : Int) < belowN p s u ↔ s + n * p < u := by
  unfold belowN
  have hn : 0 ≤ (n : Int) * p := Int.mul_nonneg (by omega) (by omega)
  split
  · rw [show ((n : Int) < (u - s + p - 1) / p) ↔ ((n : Int) + 1 ≤ (u - s + p - 1) / p) from Iff.rfl, Int.le_ediv_iff_mul_le (by omega), Int.add_mul, Int.one_mul]
    omega
  · omega
theorem sortJ_pairwise (l : List S60) : (sortJ l).Pairwise leJ := by
  rw [List.pairwise_iff_getElem]
  intro i j hi hj hij
  have := sortJ_sorted l i j hij hj
  rw [getElem!_pos (sortJ l) i hi, getElem!_pos (sortJ l) j hj] at this
  exact this
theorem mem_jobsN {i : Nat} {t : S44} {m : Nat} {x : S60} : x ∈ jobsN i t m ↔ ∃ n, n < m ∧ x = jobOf i t n := by
  unfold jobsN
  rw [List.mem_map]
  constructor
  · rintro ⟨n, hn, rfl⟩; exact ⟨n, List.mem_range.1 hn, rfl⟩
  · rintro ⟨n, hn, rfl⟩; exact ⟨n, List.mem_range.2 hn, rfl⟩
theorem mem_jobsL {u : Int} {x : S60} : ∀ {l : List S44} {i : Nat}, x ∈ jobsL u i l → ∃ (k : Nat) (hk : k < l.length) (n : Nat), n < (belowN l[k].f0.f0 l[k].f0.f1 u).toNat ∧ x = jobOf (i + k) l[k] n
  | [], i, h => by simp [jobsL] at h
  | t :: l, i, h => by
    simp only [jobsL, List.mem_append] at h
    rcases h with h | h
    · obtain ⟨n, hn, rfl⟩ := mem_jobsN.1 h
      exact ⟨0, by simp, n, hn, rfl⟩
    · obtain ⟨k, hk, n, hn, rfl⟩ := mem_jobsL h
      exact ⟨k + 1, by simpa using hk, n, hn, by rw [show i + 1 + k = i + (k + 1) by omega]; rfl⟩
theorem key_inj {u : Int} {l : List S44} (hl : ∀ t ∈ l, mayC t.f0.f0 t.f0.f1 = true) {x y : S60} (hx : x ∈ jobsL u 0 l) (hy : y ∈ jobsL u 0 l) (h2 : x.f2 = y.f2) (h0 : x.f0 = y.f0) : x = y := by
  obtain ⟨k, hk, n, _, rfl⟩ := mem_jobsL hx
  obtain ⟨k', hk', n', _, rfl⟩ := mem_jobsL hy
  have e : k = k' := by have : ((0 + k : Nat) : Int) = ((0 + k' : Nat) : Int) := h0; omega
  subst e
  have hp := (mayC_spec (hl _ (List.getElem_mem hk))).1
  have h3 : l[k].f0.f1 + n * l[k].f0.f0 = l[k].f0.f1 + n' * l[k].f0.f0 := h2
  have h4 : (n : Int) * l[k].f0.f0 = n' * l[k].f0.f0 := by omega
  have h5 := Int.eq_of_mul_eq_mul_right (by omega) h4
  rw [show n = n' by omega]
theorem eq_sorted {u : Int} {l : List S44} (hl : ∀ t ∈ l, mayC t.f0.f0 t.f0.f1 = true) {X Y : List S60} (hX : ∀ x ∈ X, x ∈ jobsL u 0 l) (hx : X.Pairwise leJ) (hy : Y.Pairwise leJ) (hp : X.Perm Y) : X = Y := by
  refine List.Perm.eq_of_pairwise (le := leJ) (fun a b ha hb h1 h2 => ?_) hx hy hp
  refine key_inj hl (hX a ha) (hX b (hp.mem_iff.2 hb)) ?_ ?_ <;> (unfold leJ at h1 h2; omega)
theorem filter_range (m M : Nat) (h : m ≤ M) : (List.range M).filter (fun n => decide (n < m)) = List.range m := by
  induction M with
  | zero => rw [show m = 0 by omega]; rfl
  | succ M ih =>
    rw [List.range_succ, List.filter_append]
    rcases Nat.lt_or_ge M m with h1 | h1
    · rw [show m = M + 1 by omega]
      rw [List.range_succ, List.filter_eq_self.2 (by intro a ha; have := List.mem_range.1 ha; simp; omega)]
      simp
    · rw [ih h1]
      simp; omega
theorem filter_jobsN {i : Nat} {t : S44} (ht : mayC t.f0.f0 t.f0.f1 = true) {u U : Int} (hu : u ≤ U) : (jobsN i t (belowN t.f0.f0 t.f0.f1 U).toNat).filter (fun x => decide (x.f2 < u)) = jobsN i t (belowN t.f0.f0 t.f0.f1 u).toNat := by
  have hp := (mayC_spec ht).1
  have b1 := belowN_nonneg (s := t.f0.f1) (u := u) hp
  have b2 := belowN_nonneg (s := t.f0.f1) (u := U) hp
  unfold jobsN
  rw [List.filter_map]
  congr 1
  have hle : (belowN t.f0.f0 t.f0.f1 u).toNat ≤ (belowN t.f0.f0 t.f0.f1 U).toNat := by
    rcases Nat.lt_or_ge (belowN t.f0.f0 t.f0.f1 U).toNat (belowN t.f0.f0 t.f0.f1 u).toNat with h | h
    · have h1 := (below_iff (s := t.f0.f1) (u := u) hp (belowN t.f0.f0 t.f0.f1 U).toNat).1 (by omega)
      have h2 := (below_iff (s := t.f0.f1) (u := U) hp (belowN t.f0.f0 t.f0.f1 U).toNat).2 (by omega)
      omega
    · exact h
  rw [← filter_range _ _ hle]
  congr 1
  funext n
  show decide ((jobOf i t n).f2 < u) = decide (n < _)
  rw [decide_eq_decide]
  show t.f0.f1 + n * t.f0.f0 < u ↔ _
  have := below_iff (s := t.f0.f1) (u := u) hp n
  omega
theorem filter_jobsL {u U : Int} (hu : u ≤ U) : ∀ (i : Nat) (l : List S44), (∀ t ∈ l, mayC t.f0.f0 t.f0.f1 = true) → (jobsL U i l).filter (fun x => decide (x.f2 < u)) = jobsL u i l
  | i, [], _ => rfl
  | i, t :: l, h => by
    simp only [jobsL, List.filter_append]
    rw [filter_jobsL hu (i + 1) l (fun z hz => h z (List.mem_cons_of_mem _ hz))]
    unfold jobsOf
    rw [filter_jobsN (h t List.mem_cons_self) hu]
theorem filter_takeWhile {α : Type} {R : α → α → Prop} {p : α → Bool} (hm : ∀ x y, R x y → p y = true → p x = true) : ∀ {l : List α}, l.Pairwise R → l.filter p = l.takeWhile p ∧ ∀ x ∈ l.dropWhile p, p x = false
  | [], _ => ⟨rfl, fun x hx => by cases hx⟩
  | a :: l, h => by
    obtain ⟨h1, h2⟩ := List.pairwise_cons.1 h
    cases ha : p a with
    | true =>
      obtain ⟨e1, e2⟩ := filter_takeWhile hm h2
      rw [List.filter_cons, List.takeWhile_cons, List.dropWhile_cons, if_pos ha, if_pos ha, if_pos ha, e1]
      exact ⟨rfl, e2⟩
    | false =>
      have hno : ∀ x ∈ l, p x = false := fun x hx => by
        cases hx' : p x with
        | false => rfl
        | true => have := hm a x (h1 x hx) hx'; rw [ha] at this; cases this
      rw [List.filter_cons, List.takeWhile_cons, List.dropWhile_cons, if_neg (by rw [ha]; decide), if_neg (by rw [ha]; decide), if_neg (by rw [ha]; decide)]
      refine ⟨List.filter_eq_nil_iff.2 (fun x hx => by rw [hno x hx]; decide), fun x hx => ?_⟩
      rcases List.mem_cons.1 hx with rfl | hx
      · exact ha
      · exact hno x hx
theorem jobsN_task {i : Nat} {t : S44} {m : Nat} {q : Int} (h : q = i) : (jobsN i t m).filter (fun x => decide (x.f0 = q)) = jobsN i t m := by
  refine List.filter_eq_self.2 (fun x hx => ?_)
  obtain ⟨n, _, rfl⟩ := mem_jobsN.1 hx
  exact decide_eq_true h.symm
theorem jobsN_none {i : Nat} {t : S44} {m : Nat} {q : Int} (h : q ≠ i) : (jobsN i t m).filter (fun x => decide (x.f0 = q)) = [] := by
  refine List.filter_eq_nil_iff.2 (fun x hx => ?_)
  obtain ⟨n, _, rfl⟩ := mem_jobsN.1 hx
  simp only [decide_eq_true_eq]
  exact fun e => h e.symm
theorem jobsL_task (u : Int) : ∀ (i : Nat) (l : List S44) (k : Nat) (hk : k < l.length), (jobsL u i l).filter (fun x => decide (x.f0 = ((i + k : Nat) : Int))) = jobsN (i + k) l[k] (belowN l[k].f0.f0 l[k].f0.f1 u).toNat
  | i, [], k, hk => by simp at hk
  | i, t :: l, 0, _ => by
    simp only [jobsL, List.filter_append]
    unfold jobsOf
    rw [jobsN_task (i := i) (q := ((i + 0 : Nat) : Int)) (by omega)]
    have : (jobsL u (i + 1) l).filter (fun x => decide (x.f0 = ((i + 0 : Nat) : Int))) = [] := by
      refine List.filter_eq_nil_iff.2 (fun x hx => ?_)
      obtain ⟨k, hk, n, _, rfl⟩ := mem_jobsL hx
      show ¬ (decide (((i + 1 + k : Nat) : Int) = ((i + 0 : Nat) : Int)) = true)
      rw [decide_eq_true_eq]
      omega
    rw [this, List.append_nil]
    rfl
  | i, t :: l, k + 1, hk => by
    simp only [jobsL, List.filter_append]
    unfold jobsOf
    rw [jobsN_none (by omega), List.nil_append]
    have := jobsL_task u (i + 1) l k (by simpa using hk)
    rw [show i + 1 + k = i + (k + 1) by omega] at this
    rw [this]
    rfl
theorem jobsN_pairwise {i : Nat} {t : S44} (hp : 1 ≤ t.f0.f0) (m : Nat) : (jobsN i t m).Pairwise leJ := by
  rw [List.pairwise_iff_getElem]
  intro a b ha hb hab
  have e : ∀ (c : Nat) (hc : c < (jobsN i t m).length), (jobsN i t m)[c] = jobOf i t c := fun c hc => by simp [jobsN]
  rw [e a ha, e b hb]
  unfold leJ jobOf
  dsimp only
  have : (a : Int) * t.f0.f0 ≤ b * t.f0.f0 := Int.mul_le_mul_of_nonneg_right (by omega) (by omega)
  omega
theorem filter_at {α : Type} (q : α → Bool) (B : List α) (i : Nat) (hi : i < B.length) (hq : q B[i] = true) : (B.filter q)[((B.take i).filter q).length]? = some B[i] := by
  have h : B = B.take i ++ B[i] :: B.drop (i + 1) := by rw [← List.drop_eq_getElem_cons hi, List.take_append_drop]
  conv => lhs; rw [h]
  rw [List.filter_append, List.filter_cons, if_pos hq, List.take_left' (by rw [List.length_take]; omega)]
  rw [List.getElem?_append_right (Nat.le_refl _)]
  simp
/-- How many of the first i jobs are task k's. -/
def cntB (B : List S60) (i k : Nat) : Nat := ((B.take i).filter (fun x => decide (x.f0 = (k : Int)))).length
theorem cntB_succ (B : List S60) (i k : Nat) (hi : i < B.length) : cntB B (i + 1) k = cntB B i k + (if B[i].f0 = (k : Int) then 1 else 0) := by
  unfold cntB
  rw [List.take_add_one, List.getElem?_eq_getElem hi]
  show ((B.take i ++ [B[i]]).filter _).length = _
  rw [List.filter_append, List.length_append]
  congr 1
  by_cases h : B[i].f0 = (k : Int)
  · rw [if_pos h]; simp [h]
  · rw [if_neg h]; simp [h]
theorem jobs_prefix {l : List S44} {u U : Int} (hl : ∀ t ∈ l, mayC t.f0.f0 t.f0.f1 = true) (hu : u ≤ U) : sortJ (jobsL u 0 l) = (sortJ (jobsL U 0 l)).takeWhile (fun x => decide (x.f2 < u)) ∧ ∀ x ∈ (sortJ (jobsL U 0 l)).dropWhile (fun x => decide (x.f2 < u)), decide (x.f2 < u) = false := by
  have hm : ∀ x y : S60, leJ x y → decide (y.f2 < u) = true → decide (x.f2 < u) = true := fun x y h hy => by
    rw [decide_eq_true_eq] at hy ⊢
    unfold leJ at h
    omega
  obtain ⟨e1, e2⟩ := filter_takeWhile hm (sortJ_pairwise (jobsL U 0 l))
  refine ⟨?_, e2⟩
  rw [← e1]
  have h1 : ((sortJ (jobsL U 0 l)).filter (fun x => decide (x.f2 < u))).Perm (jobsL u 0 l) := by
    have := (sortJ_perm (jobsL U 0 l)).filter (fun x => decide (x.f2 < u))
    rwa [filter_jobsL hu 0 l hl] at this
  exact eq_sorted hl (fun x hx => (sortJ_perm _).mem_iff.1 hx) (sortJ_pairwise _) ((sortJ_pairwise _).filter _) ((sortJ_perm _).trans h1.symm)
theorem jobs_len {l : List S44} {u U : Int} (hl : ∀ t ∈ l, mayC t.f0.f0 t.f0.f1 = true) (hu : u ≤ U) : (sortJ (jobsL u 0 l)).length ≤ (sortJ (jobsL U 0 l)).length := by
  rw [(jobs_prefix hl hu).1]
  conv => rhs; rw [← List.takeWhile_append_dropWhile (p := fun x : S60 => decide (x.f2 < u)) (l := sortJ (jobsL U 0 l)), List.length_append]
  omega
theorem jobs_ahead {l : List S44} {u U : Int} (hl : ∀ t ∈ l, mayC t.f0.f0 t.f0.f1 = true) (hu : u ≤ U) (i : Nat) (hi : i < (sortJ (jobsL U 0 l)).length) : (i < (sortJ (jobsL u 0 l)).length ↔ (sortJ (jobsL U 0 l))[i].f2 < u) ∧ ((h : i < (sortJ (jobsL u 0 l)).length) → (sortJ (jobsL u 0 l))[i] = (sortJ (jobsL U 0 l))[i]) := by
  obtain ⟨e1, e2⟩ := jobs_prefix hl hu
  have hB := List.takeWhile_append_dropWhile (p := fun x : S60 => decide (x.f2 < u)) (l := sortJ (jobsL U 0 l))
  rw [← e1] at hB
  have key : (h : i < (sortJ (jobsL u 0 l)).length) → (sortJ (jobsL u 0 l))[i] = (sortJ (jobsL U 0 l))[i] := fun h => by
    have : (sortJ (jobsL U 0 l))[i]? = (sortJ (jobsL u 0 l))[i]? := by
      rw [← hB]
      rw [List.getElem?_append_left h]
    rw [List.getElem?_eq_getElem hi, List.getElem?_eq_getElem h] at this
    exact (Option.some.inj this).symm
  refine ⟨⟨fun h => ?_, fun h => ?_⟩, key⟩
  · have hmem := List.getElem_mem h
    rw [key h] at hmem
    have := (sortJ_perm _).mem_iff.1 hmem
    obtain ⟨k, hk, n, hn, e⟩ := mem_jobsL this
    rw [e]
    have hp := (mayC_spec (hl _ (List.getElem_mem hk))).1
    have hb := belowN_nonneg (s := l[k].f0.f1) (u := u) hp
    exact (below_iff hp n).1 (by omega)
  · rcases Nat.lt_or_ge i (sortJ (jobsL u 0 l)).length with h1 | h1
    · exact h1
    · have hmem : (sortJ (jobsL U 0 l))[i] ∈ (sortJ (jobsL U 0 l)).dropWhile (fun x => decide (x.f2 < u)) := by
        have : (sortJ (jobsL U 0 l))[i]? = ((sortJ (jobsL U 0 l)).dropWhile (fun x => decide (x.f2 < u)))[i - (sortJ (jobsL u 0 l)).length]? := by
          conv => lhs; rw [← hB]
          rw [List.getElem?_append_right h1]
        rw [List.getElem?_eq_getElem hi] at this
        exact List.mem_of_getElem? this.symm
      have := e2 _ hmem
      rw [decide_eq_false_iff_not] at this
      exact (this h).elim
theorem jobs_of_task {l : List S44} {U : Int} (hl : ∀ t ∈ l, mayC t.f0.f0 t.f0.f1 = true) (k : Nat) (hk : k < l.length) : (sortJ (jobsL U 0 l)).filter (fun x => decide (x.f0 = (k : Int))) = jobsN k l[k] (belowN l[k].f0.f0 l[k].f0.f1 U).toNat := by
  have h1 := (sortJ_perm (jobsL U 0 l)).filter (fun x => decide (x.f0 = (k : Int)))
  have h2 := jobsL_task U 0 l k hk
  rw [Nat.zero_add] at h2
  rw [h2] at h1
  exact eq_sorted hl (fun x hx => (sortJ_perm _).mem_iff.1 (List.mem_filter.1 hx).1) ((sortJ_pairwise _).filter _) (jobsN_pairwise (mayC_spec (hl _ (List.getElem_mem hk))).1 _) h1
theorem jobs_at {l : List S44} {U : Int} (hl : ∀ t ∈ l, mayC t.f0.f0 t.f0.f1 = true) (i : Nat) (hi : i < (sortJ (jobsL U 0 l)).length) : ∃ (k : Nat) (hk : k < l.length), (sortJ (jobsL U 0 l))[i] = jobOf k l[k] (cntB (sortJ (jobsL U 0 l)) i k) ∧ ((cntB (sortJ (jobsL U 0 l)) i k : Nat) : Int) < belowN l[k].f0.f0 l[k].f0.f1 U := by
  obtain ⟨k, hk, n, hn, e⟩ := mem_jobsL ((sortJ_perm _).mem_iff.1 (List.getElem_mem hi))
  rw [Nat.zero_add] at e
  have hq : decide ((sortJ (jobsL U 0 l))[i].f0 = (k : Int)) = true := by rw [e]; exact decide_eq_true rfl
  have h1 := filter_at (fun x : S60 => decide (x.f0 = (k : Int))) (sortJ (jobsL U 0 l)) i hi hq
  rw [jobs_of_task hl k hk] at h1
  have hc : cntB (sortJ (jobsL U 0 l)) i k < (belowN l[k].f0.f0 l[k].f0.f1 U).toNat := by
    have := (List.getElem?_eq_some_iff.1 h1).1
    rw [jobsN_length] at this
    exact this
  refine ⟨k, hk, ?_, by omega⟩
  have h2 : (jobsN k l[k] (belowN l[k].f0.f0 l[k].f0.f1 U).toNat)[cntB (sortJ (jobsL U 0 l)) i k]? = some (jobOf k l[k] (cntB (sortJ (jobsL U 0 l)) i k)) := by
    unfold jobsN
    rw [List.getElem?_map, List.getElem?_range hc]
    rfl
  exact Option.some.inj (h1.symm.trans h2)
theorem jobs_next {l : List S44} {U : Int} (hl : ∀ t ∈ l, mayC t.f0.f0 t.f0.f1 = true) (i : Nat) (hi : i + 1 < (sortJ (jobsL U 0 l)).length) : (sortJ (jobsL U 0 l))[i].f2 < (sortJ (jobsL U 0 l))[i + 1].f2 ∨ (sortJ (jobsL U 0 l))[i].f2 = (sortJ (jobsL U 0 l))[i + 1].f2 ∧ (sortJ (jobsL U 0 l))[i].f0 < (sortJ (jobsL U 0 l))[i + 1].f0 := by
  have h1 := List.pairwise_iff_getElem.1 (sortJ_pairwise (jobsL U 0 l)) i (i + 1) (by omega) hi (by omega)
  rcases h1 with h1 | ⟨h1, h2⟩
  · exact .inl h1
  · refine .inr ⟨h1, ?_⟩
    rcases Int.lt_or_le (sortJ (jobsL U 0 l))[i].f0 (sortJ (jobsL U 0 l))[i + 1].f0 with h3 | h3
    · exact h3
    · obtain ⟨k, hk, e, _⟩ := jobs_at (U := U) hl i (by omega)
      obtain ⟨k', hk', e', _⟩ := jobs_at (U := U) hl (i + 1) hi
      have hkk : k = k' := by
        have h4 : (sortJ (jobsL U 0 l))[i].f0 = (k : Int) := by rw [e]; rfl
        have h5 : (sortJ (jobsL U 0 l))[i + 1].f0 = (k' : Int) := by rw [e']; rfl
        omega
      subst hkk
      have hc := cntB_succ (sortJ (jobsL U 0 l)) i k (by omega)
      rw [if_pos (by rw [e]; rfl)] at hc
      rw [e, e', hc] at h1
      simp only [jobOf] at h1
      have hp := (mayC_spec (hl _ (List.getElem_mem hk))).1
      have : ((cntB (sortJ (jobsL U 0 l)) i k : Nat) : Int) * l[k].f0.f0 = ((cntB (sortJ (jobsL U 0 l)) i k + 1 : Nat) : Int) * l[k].f0.f0 := by omega
      have := Int.eq_of_mul_eq_mul_right (by omega) this
      omega
theorem jobs_end {l : List S44} {U : Int} (hl : ∀ t ∈ l, mayC t.f0.f0 t.f0.f1 = true) (k : Nat) (hk : k < l.length) : U ≤ l[k].f0.f1 + (cntB (sortJ (jobsL U 0 l)) (sortJ (jobsL U 0 l)).length k : Nat) * l[k].f0.f0 := by
  have hp := (mayC_spec (hl _ (List.getElem_mem hk))).1
  have hb := belowN_nonneg (s := l[k].f0.f1) (u := U) hp
  have h1 : cntB (sortJ (jobsL U 0 l)) (sortJ (jobsL U 0 l)).length k = (belowN l[k].f0.f0 l[k].f0.f1 U).toNat := by
    unfold cntB
    rw [List.take_length, jobs_of_task hl k hk, jobsN_length]
  rw [h1]
  have := below_iff (s := l[k].f0.f1) (u := U) hp (belowN l[k].f0.f0 l[k].f0.f1 U).toNat
  omega
end Go.Proofs.Ytkabmpbfabgkfaa
set_option linter.unusedVariables false
set_option linter.unusedSimpArgs false
namespace Go.Proofs.Ytkabmpbfabgkfaa
open Go.RowKit
open Go.Proofs.Ytkabmpbfabgkfaa.P Go.Proofs.YtkabmpbfabgkfaaW.PrintWords Go.Proofs.YtkabmpbfabgkfaaW.PrintLast Go.Proofs.YtkabmpbfabgkfaaW.PrintMore
theorem mayD_src {h l : List S79} {st : Int} (hd : mayD h l st = true) (k : Nat) (hk : k < h.length + l.length) : mayS h.length (srcs h l k) = true := by
  unfold mayD allMay at hd
  simp only [Bool.and_eq_true] at hd
  exact List.all_eq_true.1 hd.2.2.2.2.2 _ (by unfold upto; exact List.mem_map.2 ⟨k, List.mem_range.2 hk, rfl⟩)
theorem mayS_spec {n : Nat} {x : Nat × S79} (h : mayS n x = true) : 0 ≤ x.2.f2 ∧ x.2.f2 ≤ 1125899906842624 ∧ (n ≤ x.1 → x.2.f0 = false) := by
  unfold mayS at h
  rw [Bool.not_eq_true', Bool.or_eq_false_iff, Bool.or_eq_false_iff, Bool.or_eq_false_iff] at h
  obtain ⟨⟨⟨h1, h2⟩, h3⟩, h4⟩ := h
  have h1 := of_decide_eq_false h1
  have h2 := of_decide_eq_false h2
  refine ⟨by omega, by omega, fun hn => ?_⟩
  rw [Bool.and_eq_false_iff] at h3
  rcases h3 with h3 | h3
  · exact h3
  · rw [Bool.or_eq_false_iff] at h3
    have := of_decide_eq_false h3.2
    omega
theorem src_head {h l : List S79} {st : Int} (hd : mayD h l st = true) (i : Nat) (hi : i < h.length) : 0 ≤ (rd_T79 h (i : Int)).f2 ∧ (rd_T79 h (i : Int)).f2 ≤ 1125899906842624 := by
  have h1 := mayS_spec (mayD_src hd i (by omega))
  rw [srcs_head h l i hi] at h1
  exact ⟨h1.1, h1.2.1⟩
theorem src_loop {h l : List S79} {st : Int} (hd : mayD h l st = true) (i : Nat) (hi : i < l.length) : 0 ≤ (rd_T79 l (i : Int)).f2 ∧ (rd_T79 l (i : Int)).f2 ≤ 1125899906842624 ∧ (rd_T79 l (i : Int)).f0 = false := by
  have h1 := mayS_spec (mayD_src hd (h.length + i) (by omega))
  rw [srcs_loop h l i] at h1
  exact ⟨h1.1, h1.2.1, h1.2.2 (Nat.le_add_right _ _)⟩
theorem at_loop {h l : List S79} {st : Int} (hd : mayD h l st = true) (i k : Nat) (hi : i < l.length) (hk : st * k ≤ 1152921504606846976) :
    atD h l st ((h.length + l.length * k + i : Nat) : Int) = (false, (rd_T79 l (i : Int)).f1, (rd_T79 l (i : Int)).f2 + st * k, 0) := by
  obtain ⟨s1, s2, s3⟩ := src_loop hd i hi
  obtain ⟨d1, d2, d3, d4, d5⟩ := mayD_len hd
  have hk0 : 0 ≤ st * (k : Int) := Int.mul_nonneg d4 (by omega)
  have e1 : (((h.length + l.length * k + i : Nat) : Int) - h.length) % l.length = i := by
    rw [show ((h.length + l.length * k + i : Nat) : Int) - h.length = (i : Int) + l.length * k by push_cast; omega, Int.add_mul_emod_self_left]
    exact Int.emod_eq_of_lt (by omega) (by omega)
  have e2 : (((h.length + l.length * k + i : Nat) : Int) - h.length) / l.length = k := by
    rw [show ((h.length + l.length * k + i : Nat) : Int) - h.length = (i : Int) + l.length * k by push_cast; omega, Int.add_mul_ediv_left _ _ (by omega), Int.ediv_eq_zero_of_lt (by omega) (by omega)]
    omega
  have f1 : fitB (st * (k : Int)) = true := by unfold fitB; exact decide_eq_true (by omega)
  have f2 : fitB ((rd_T79 l (i : Int)).f2 + st * (k : Int)) = true := by unfold fitB; exact decide_eq_true (by omega)
  unfold atD
  rw [if_pos ⟨hd, by omega⟩, if_neg (by push_cast; have := Nat.zero_le (l.length * k); push_cast at this; omega), e1, e2, if_pos ⟨f1, f2⟩, s3]
theorem part_loop {h l : List S79} (m : Nat) (hm : h.length ≤ m) (hl : 1 ≤ l.length) : ∃ i k : Nat, i < l.length ∧ k ≤ m ∧ m = h.length + l.length * k + i := by
  refine ⟨(m - h.length) % l.length, (m - h.length) / l.length, Nat.mod_lt _ hl, Nat.le_trans (Nat.div_le_self _ _) (by omega), ?_⟩
  have := Nat.div_add_mod (m - h.length) l.length
  omega
theorem step_small {st : Int} (h0 : 0 ≤ st) (h1 : st ≤ 1099511627776) (k : Nat) (hk : k ≤ 255) : 0 ≤ st * (k : Int) ∧ st * (k : Int) ≤ 280375465082880 :=
  ⟨Int.mul_nonneg h0 (by omega), by
    have h2 : st * (k : Int) ≤ 1099511627776 * k := Int.mul_le_mul_of_nonneg_right h1 (by omega)
    omega⟩
/-- A turn of J rounds of the loop on, the same source, J steps on. -/
theorem at_turn {h l : List S79} {st : Int} (hd : mayD h l st = true) (m J : Nat) (hm : h.length ≤ m) (hm2 : m ≤ 255) (hJ : st * J ≤ 17592186044416) :
    (atD h l st m).1 = false ∧ (atD h l st m).2.2.2 = 0 ∧ (atD h l st ((m + l.length * J : Nat) : Int)).1 = false ∧ (atD h l st ((m + l.length * J : Nat) : Int)).2.2.2 = 0 ∧ (atD h l st ((m + l.length * J : Nat) : Int)).2.2.1 = (atD h l st m).2.2.1 + st * J := by
  obtain ⟨d1, d2, d3, d4, d5⟩ := mayD_len hd
  obtain ⟨i, k, hi, hk, e⟩ := part_loop (h := h) m hm d1
  have hs := step_small d4 d5 k (by omega)
  have a1 := at_loop hd i k hi (by omega)
  have a2 := at_loop hd i (k + J) hi (by push_cast; rw [Int.mul_add]; omega)
  rw [show h.length + l.length * (k + J) + i = m + l.length * J by rw [Nat.mul_add]; omega] at a2
  rw [← e] at a1
  rw [a1, a2]
  refine ⟨rfl, rfl, rfl, rfl, ?_⟩
  dsimp only
  push_cast
  rw [Int.mul_add, Int.add_assoc]
theorem at_ok {h l : List S79} {st : Int} (hd : mayD h l st = true) (m : Nat) (hm2 : m ≤ 255) : (atD h l st m).2.2.2 = 0 := by
  rcases Nat.lt_or_ge m h.length with hm | hm
  · unfold atD
    rw [if_pos ⟨hd, by omega⟩, if_pos (by omega)]
  · exact (at_turn hd m 0 hm hm2 (by simp)).2.1
theorem mayR_spec {h l : List S79} {st p s q t : Int} (hr : mayR h l st p s q t = true) : mayD h l st = true ∧ 1 ≤ st ∧ p * l.length = q * st ∧ ∀ m : Nat, m < h.length + l.length → okAt h l st p s q t m = true := by
  unfold mayR at hr
  simp only [Bool.and_eq_true, decide_eq_true_eq] at hr
  exact ⟨hr.1, hr.2.1, hr.2.2.2.2.1, fun m hm => List.all_eq_true.1 hr.2.2.2.2.2 m (List.mem_range.2 hm)⟩
/-- What is read is there when it is read. -/
theorem at_date {h l : List S79} {st p s q t : Int} (hp : mayC p s = true) (hq : mayC q t = true) (hr : mayR h l st p s q t = true) (m : Nat) (hm2 : m ≤ 4351 + 4096) (hn : m < h.length + l.length) (h0 : (atD h l st m).1 = false) :
    0 ≤ (atD h l st m).2.2.1 ∧ t + q * (atD h l st m).2.2.1 ≤ s + p * m := by
  obtain ⟨hd, hst, he, hk⟩ := mayR_spec hr
  obtain ⟨p1, p2, s1, s2⟩ := mayC_spec hp
  have h1 := hk m hn
  unfold okAt at h1
  rw [h0, Bool.false_or, Bool.and_eq_true, decide_eq_true_eq] at h1
  obtain ⟨h1, h2⟩ := h1
  have hpm : p * (m : Int) ≤ 1099511627776 * m := Int.mul_le_mul_of_nonneg_right p2 (by omega)
  have hpm0 : 0 ≤ p * (m : Int) := Int.mul_nonneg (by omega) (by omega)
  have h3 : dateB p s m = true := by
    unfold dateB
    rw [hp, show fitB (p * (m : Int)) = true by unfold fitB; exact decide_eq_true (by omega), show fitB (s + p * (m : Int)) = true by unfold fitB; exact decide_eq_true (by omega), decide_eq_true (by omega : (0 : Int) ≤ m)]
    rfl
  unfold dateV at h2
  rw [if_pos h1, if_pos h3] at h2
  refine ⟨?_, h2⟩
  unfold dateB at h1
  simp only [Bool.and_eq_true, decide_eq_true_eq] at h1
  exact h1.2.1
theorem at_date_all {h l : List S79} {st p s q t : Int} (hp : mayC p s = true) (hq : mayC q t = true) (hr : mayR h l st p s q t = true) (m : Nat) (hm2 : m ≤ 255) (h0 : (atD h l st m).1 = false) :
    0 ≤ (atD h l st m).2.2.1 ∧ t + q * (atD h l st m).2.2.1 ≤ s + p * m := by
  obtain ⟨hd, hst, he, hk⟩ := mayR_spec hr
  obtain ⟨d1, d2, d3, d4, d5⟩ := mayD_len hd
  rcases Nat.lt_or_ge m h.length with hm | hm
  · exact at_date hp hq hr m (by omega) (by omega) h0
  · obtain ⟨i, k, hi, hk, e⟩ := part_loop (h := h) m hm d1
    have hs := step_small d4 d5 k (by omega)
    have a1 := at_loop hd i k hi (by omega)
    have a0 := at_loop hd i 0 hi (by simp)
    rw [← e] at a1
    rw [Nat.mul_zero, Nat.add_zero] at a0
    have h1 := at_date hp hq hr (h.length + i) (by omega) (by omega) (by rw [a0])
    rw [a0] at h1
    rw [a1]
    dsimp only at h1 ⊢
    rw [show st * ((0 : Nat) : Int) = 0 by simp, Int.add_zero] at h1
    have h2 : q * (st * (k : Int)) = p * ((l.length : Int) * k) := by rw [← Int.mul_assoc, ← he, Int.mul_assoc]
    refine ⟨by omega, ?_⟩
    rw [Int.mul_add, h2, e]
    push_cast
    rw [Int.mul_add, Int.mul_add]
    have h3 := h1.2
    push_cast at h3
    rw [Int.mul_add] at h3
    omega
theorem dvd_lcmV (a b : Int) : a ∣ lcmV a b ∧ b ∣ lcmV a b := by
  unfold lcmV
  obtain ⟨x, hx⟩ := Nat.gcd_dvd_left a.natAbs b.natAbs
  obtain ⟨y, hy⟩ := Nat.gcd_dvd_right a.natAbs b.natAbs
  generalize Nat.gcd a.natAbs b.natAbs = g at hx hy ⊢
  rw [← Int.natAbs_dvd, ← Int.natAbs_dvd (a := b)]
  refine ⟨Int.natCast_dvd_natCast.2 ?_, Int.natCast_dvd_natCast.2 (Nat.dvd_mul_left _ _)⟩
  rcases Nat.eq_zero_or_pos g with h0 | h0
  · subst h0
    rw [Nat.div_zero, Nat.zero_mul]
    exact Nat.dvd_zero _
  · refine ⟨y, ?_⟩
    rw [show a.natAbs / g = x by rw [hx, Nat.mul_div_cancel_left x h0], hx, hy, ← Nat.mul_assoc, Nat.mul_comm x g]
theorem stepOf_spec {p s : Int} {st x : Int × Int} {r : S69} (hx : stepOf p s st r = some x) : st.1 ≤ x.1 ∧ s + r.f3.f0.length * p ≤ x.1 ∧ st.2 ∣ x.2 ∧ p * r.f3.f1.length ∣ x.2 := by
  unfold stepOf at hx
  split at hx
  · cases hx
    exact ⟨(le_mxI _ _).1, (le_mxI _ _).2, (dvd_lcmV _ _).1, (dvd_lcmV _ _).2⟩
  · cases hx
theorem foldR_spec {p s : Int} : ∀ (rs : List S69) (st x : Int × Int), foldR p s rs st = some x → st.1 ≤ x.1 ∧ st.2 ∣ x.2 ∧ ∀ r ∈ rs, s + r.f3.f0.length * p ≤ x.1 ∧ p * r.f3.f1.length ∣ x.2
  | [], st, x, h => by
    simp only [foldR] at h
    cases h
    exact ⟨Int.le_refl _, Int.dvd_refl _, fun r hr => by cases hr⟩
  | r :: rs, st, x, h => by
    simp only [foldR] at h
    cases hs : stepOf p s st r with
    | none => rw [hs] at h; cases h
    | some y =>
      rw [hs] at h
      obtain ⟨a1, a2, a3, a4⟩ := stepOf_spec hs
      obtain ⟨b1, b2, b3⟩ := foldR_spec rs y x h
      refine ⟨Int.le_trans a1 b1, Int.dvd_trans a3 b2, fun z hz => ?_⟩
      rcases List.mem_cons.1 hz with rfl | hz
      · exact ⟨Int.le_trans a2 b1, Int.dvd_trans a4 b2⟩
      · exact b3 z hz
theorem foldT_spec : ∀ (l : List S44) (st x : Int × Int), foldT l st = some x → st.1 ≤ x.1 ∧ st.2 ∣ x.2 ∧ ∀ t ∈ l, ∀ r ∈ t.f4, t.f0.f1 + r.f3.f0.length * t.f0.f0 ≤ x.1 ∧ t.f0.f0 * r.f3.f1.length ∣ x.2
  | [], st, x, h => by
    simp only [foldT] at h
    cases h
    exact ⟨Int.le_refl _, Int.dvd_refl _, fun r hr => by cases hr⟩
  | t :: l, st, x, h => by
    simp only [foldT] at h
    cases hs : foldR t.f0.f0 t.f0.f1 t.f4 (mxI st.1 t.f0.f1, st.2) with
    | none => rw [hs] at h; cases h
    | some y =>
      rw [hs] at h
      obtain ⟨a1, a2, a3⟩ := foldR_spec _ _ _ hs
      obtain ⟨b1, b2, b3⟩ := foldT_spec l y x h
      refine ⟨Int.le_trans (Int.le_trans (le_mxI _ _).1 a1) b1, Int.dvd_trans a2 b2, fun z hz r hr => ?_⟩
      rcases List.mem_cons.1 hz with rfl | hz
      · exact ⟨Int.le_trans (a3 r hr).1 b1, Int.dvd_trans (a3 r hr).2 b2⟩
      · exact b3 z hz r hr
theorem head_below {p s P : Int} (hp : 1 ≤ p) (n : Nat) (h : s + n * p ≤ P) : (n : Int) ≤ belowN p s P := by
  rcases Nat.eq_zero_or_pos n with rfl | h0
  · exact belowN_nonneg hp
  · obtain ⟨k, rfl⟩ : ∃ k, n = k + 1 := ⟨n - 1, by omega⟩
    have h1 : ((k : Nat) : Int) < belowN p s P := (below_iff hp k).2 (by push_cast at h; rw [Int.add_mul] at h; omega)
    push_cast
    omega
theorem turn_div {p q st H : Int} {len : Nat} (hp : 1 ≤ p) (hq : 1 ≤ q) (hl : 1 ≤ len) (he : p * len = q * st) (hH : 1 ≤ H) (hd : p * len ∣ H) : ∃ J : Nat, H / p = ((len * J : Nat) : Int) ∧ H / q = st * J := by
  obtain ⟨j, hj⟩ := hd
  have hpl : 1 ≤ p * (len : Int) := by
    have := Int.mul_le_mul hp (show (1 : Int) ≤ len by omega) (by omega) (by omega)
    omega
  have hj0 : 0 ≤ j := by
    rcases Int.lt_or_le j 0 with h | h
    · have := Int.mul_neg_of_pos_of_neg (show (0 : Int) < p * len by omega) h
      omega
    · exact h
  obtain ⟨J, rfl⟩ : ∃ J : Nat, j = J := ⟨j.toNat, by omega⟩
  refine ⟨J, ?_, ?_⟩
  · rw [hj, Int.mul_assoc, Int.mul_ediv_cancel_left _ (by omega)]
    push_cast
    rfl
  · rw [hj, he, Int.mul_assoc, Int.mul_ediv_cancel_left _ (by omega)]
theorem needsL_mem (n : Int) : ∀ (rs : List S69) (x : S51), x ∈ needsL n rs → ∃ r ∈ rs, (atD r.f3.f0 r.f3.f1 r.f3.f2 n).1 = false ∧ x = ⟨r.f0, r.f1, r.f2, (atD r.f3.f0 r.f3.f1 r.f3.f2 n).2.2.1⟩
  | [], x, h => by cases h
  | r :: rs, x, h => by
    simp only [needsL, List.mem_append] at h
    rcases h with h | h
    · unfold needOf at h
      split at h
      · cases h
      · rename_i h2
        exact ⟨r, List.mem_cons_self, by simpa using h2, by simpa using h⟩
    · obtain ⟨z, hz, h1⟩ := needsL_mem n rs x h
      exact ⟨z, List.mem_cons_of_mem _ hz, h1⟩
theorem needsL_map (n : Int) : ∀ (rs : List S69), (∀ r ∈ rs, (atD r.f3.f0 r.f3.f1 r.f3.f2 n).1 = false) → needsL n rs = rs.map (fun r => (⟨r.f0, r.f1, r.f2, (atD r.f3.f0 r.f3.f1 r.f3.f2 n).2.2.1⟩ : S51))
  | [], h => rfl
  | r :: rs, h => by
    simp only [needsL, List.map_cons]
    rw [needsL_map n rs (fun z hz => h z (List.mem_cons_of_mem _ hz))]
    unfold needOf
    rw [if_neg (by rw [h r List.mem_cons_self]; decide)]
    rfl
/-- The law's own reading of a need: the clock it waits for. -/
def lawCk (x : S51) (l : List S44) (ins : List S25) : Int × Int × Bool :=
  if x.f0 = 1 ∧ 0 ≤ x.f1 ∧ x.f1 < ins.length then ((rd_T25 ins x.f1).f0, (rd_T25 ins x.f1).f1, true)
  else if x.f0 = 2 ∧ 0 ≤ x.f1 ∧ x.f1 < l.length then ((rd_T44 l x.f1).f0.f0, (rd_T44 l x.f1).f0.f1, true)
  else (0, 0, false)
theorem lawCk_of {r : S69} {l : List S44} {ins : List S25} (v : Int) (h : (mayCk r l ins).2.2 = true) : lawCk ⟨r.f0, r.f1, r.f2, v⟩ l ins = mayCk r l ins := by
  unfold mayCk at h ⊢
  unfold lawCk
  dsimp only
  split at h
  · rename_i h1
    rw [if_pos h1, if_pos ⟨h1.1, h1.2.1, h1.2.2.1⟩]
  · rename_i h1
    split at h
    · rename_i h2
      rw [if_neg h1, if_pos h2, if_neg (fun h3 => by omega), if_pos ⟨h2.1, h2.2.1, h2.2.2.1⟩]
    · cases h
theorem mayTs_spec {l : List S44} {ins : List S25} (h : mayTs l ins = true) : l.length ≤ 160 ∧ ins.length ≤ 32 ∧ (∀ x ∈ ins, mayC x.f0 x.f1 = true) ∧ (∀ t ∈ l, mayT t = true) ∧ ∀ t ∈ l, ∀ r ∈ t.f4, (mayCk r l ins).2.2 = true ∧ mayR r.f3.f0 r.f3.f1 r.f3.f2 t.f0.f0 t.f0.f1 (mayCk r l ins).1 (mayCk r l ins).2.1 = true := by
  unfold mayTs at h
  simp only [Bool.and_eq_true, decide_eq_true_eq] at h
  obtain ⟨h1, h2, h3, h4, h5⟩ := h
  refine ⟨h1, h2, fun x hx => ?_, fun t ht => List.all_eq_true.1 h4 t ht, fun t ht r hr => ?_⟩
  · rw [Bool.not_eq_true'] at h3
    have := List.any_eq_false.1 h3 x hx
    unfold bad25 at this
    simpa using this
  · have h6 := List.all_eq_true.1 h5 t ht
    unfold tkOk at h6
    have h7 := List.all_eq_true.1 h6 r hr
    unfold rdOk at h7
    rwa [Bool.and_eq_true] at h7
theorem mayT_spec {t : S44} (h : mayT t = true) : mayC t.f0.f0 t.f0.f1 = true ∧ 1 ≤ t.f4.length ∧ t.f4.length ≤ 32 := by
  unfold mayT at h
  simp only [Bool.and_eq_true, decide_eq_true_eq] at h
  exact ⟨h.1, h.2.2.2.1, h.2.2.2.2.1⟩
theorem ck_may {l : List S44} {ins : List S25} (hm : mayTs l ins = true) {r : S69} (h : (mayCk r l ins).2.2 = true) : mayC (mayCk r l ins).1 (mayCk r l ins).2.1 = true := by
  obtain ⟨_, _, h3, h4, _⟩ := mayTs_spec hm
  unfold mayCk at h ⊢
  split at h
  · rename_i h1
    rw [if_pos h1]
    have e : rd_T25 ins r.f1 = ins[r.f1.toNat]'(by omega) := by unfold rd_T25; exact getD_eq _ _ _ (by omega)
    dsimp only
    rw [e]
    exact h3 _ (List.getElem_mem _)
  · rename_i h1
    split at h
    · rename_i h2
      rw [if_neg h1, if_pos h2]
      have e : rd_T44 l r.f1 = l[r.f1.toNat]'(by omega) := by unfold rd_T44; exact getD_eq _ _ _ (by omega)
      dsimp only
      rw [e]
      exact (mayT_spec (h4 _ (List.getElem_mem _))).1
    · cases h
theorem ofF_spec {l : List S44} {ins : List S25} {P H : Int} (hm : mayTs l ins = true) (h : ofF true l = (P, H, 0)) : foldT l (0, 1) = some (P, H) ∧ 0 ≤ P ∧ 1 ≤ H ∧ P + H ≤ 17592186044416 := by
  unfold ofF at h
  rw [if_pos rfl] at h
  cases hf : foldT l (0, 1) with
  | none => rw [hf] at h; simp at h
  | some st =>
    rw [hf] at h
    dsimp only at h
    split at h
    · simp at h
    · rename_i h1
      have hin := inOf_foldT l (0, 1) st (fun t ht => okOf_of hm t ht) ⟨by decide, by decide, by decide, by decide⟩ hf
      cases hc : cntT st.1 st.2 l 0 with
      | none => rw [hc] at h; simp at h
      | some n =>
        rw [hc] at h
        simp only [Prod.mk.injEq] at h
        obtain ⟨e1, e2, _⟩ := h
        subst e1 e2
        exact ⟨rfl, hin.1, hin.2.2.1, by omega⟩
theorem round_okS {l : List S44} {ins : List S25} {P H : Int} (hm : mayTs l ins = true) (h : ofF true l = (P, H, 0)) {t : S44} (ht : t ∈ l) : okS P H t.f0.f0 t.f0.f1 = true := by
  obtain ⟨_, _, _, h4, _⟩ := mayTs_spec hm
  obtain ⟨m1, m2, m3⟩ := mayT_spec (h4 t ht)
  obtain ⟨f, a1, a2, a3⟩ := ofF_spec hm h
  obtain ⟨r, hr⟩ : ∃ r, r ∈ t.f4 := by
    cases e : t.f4 with
    | nil => rw [e] at m2; simp at m2
    | cons r rs => exact ⟨r, List.mem_cons_self⟩
  have hd := ((foldT_spec l (0, 1) _ f).2.2 t ht r hr).2
  refine okS_of ⟨m1, a1, by omega, a2, by omega, ?_⟩
  exact Int.tmod_eq_zero_of_dvd (Int.dvd_trans (Int.dvd_mul_right _ _) hd)
/-- A need of the m-th job: its clock may be, and it is there in time. -/
theorem round_date {l : List S44} {ins : List S25} (hm : mayTs l ins = true) {t : S44} (ht : t ∈ l) (m : Nat) (hm2 : m ≤ 255) {x : S51} (hx : x ∈ needsL m t.f4) :
    ∃ q tt, lawCk x l ins = (q, tt, true) ∧ mayC q tt = true ∧ 0 ≤ x.f3 ∧ tt + q * x.f3 ≤ t.f0.f1 + t.f0.f0 * m := by
  obtain ⟨_, _, _, h4, h5⟩ := mayTs_spec hm
  obtain ⟨r, hr, h0, rfl⟩ := needsL_mem _ _ _ hx
  obtain ⟨c1, c2⟩ := h5 t ht r hr
  have hc := ck_may hm c1
  have h6 := at_date_all (mayT_spec (h4 t ht)).1 hc c2 m hm2 h0
  refine ⟨_, _, ?_, hc, h6.1, h6.2⟩
  rw [lawCk_of _ c1, ← c1]
theorem round_ok {l : List S44} {ins : List S25} (hm : mayTs l ins = true) {t : S44} (ht : t ∈ l) (m : Nat) (hm2 : m ≤ 255) : needsOk m t.f4 = true := by
  obtain ⟨_, _, _, h4, h5⟩ := mayTs_spec hm
  unfold needsOk
  refine List.all_eq_true.2 (fun r hr => ?_)
  obtain ⟨hd, _, _, _⟩ := mayR_spec (h5 t ht r hr).2
  rw [hd, at_ok hd m hm2]
  rfl
/-- A read of the m-th job behind the prefix, and the same a turn on. -/
theorem round_read {l : List S44} {ins : List S25} {P H : Int} (hm : mayTs l ins = true) (h : ofF true l = (P, H, 0)) {t : S44} (ht : t ∈ l) {r : S69} (hr : r ∈ t.f4) (m : Nat) (hm2 : m ≤ 255) (hb : belowN t.f0.f0 t.f0.f1 P ≤ m) :
    (atD r.f3.f0 r.f3.f1 r.f3.f2 m).1 = false ∧ (atD r.f3.f0 r.f3.f1 r.f3.f2 (m + H / t.f0.f0)).1 = false ∧ (atD r.f3.f0 r.f3.f1 r.f3.f2 (m + H / t.f0.f0)).2.2.2 = 0 ∧
    (atD r.f3.f0 r.f3.f1 r.f3.f2 (m + H / t.f0.f0)).2.2.1 = (atD r.f3.f0 r.f3.f1 r.f3.f2 m).2.2.1 + H / (mayCk r l ins).1 := by
  obtain ⟨_, _, _, h4, h5⟩ := mayTs_spec hm
  obtain ⟨c1, c2⟩ := h5 t ht r hr
  obtain ⟨q1, q2, _, _⟩ := mayC_spec (ck_may hm c1)
  obtain ⟨p1, p2, _, _⟩ := mayC_spec (mayT_spec (h4 t ht)).1
  obtain ⟨f, a1, a2, a3⟩ := ofF_spec hm h
  obtain ⟨b1, b2⟩ := (foldT_spec l (0, 1) _ f).2.2 t ht r hr
  obtain ⟨hd, st1, he, _⟩ := mayR_spec c2
  have hl := mayD_len hd
  obtain ⟨J, e1, e2⟩ := turn_div p1 q1 hl.1 he a2 b2
  have hh : r.f3.f0.length ≤ m := by
    have : (r.f3.f0.length : Int) ≤ belowN t.f0.f0 t.f0.f1 P := head_below p1 r.f3.f0.length b1
    omega
  have hle : H / (mayCk r l ins).1 ≤ H := Int.ediv_le_self _ (by omega)
  have h7 := at_turn hd m J hh hm2 (by omega)
  rw [e1, e2, show (m : Int) + ((r.f3.f1.length * J : Nat) : Int) = ((m + r.f3.f1.length * J : Nat) : Int) by push_cast; rfl]
  exact ⟨h7.1, h7.2.2.1, h7.2.2.2.1, h7.2.2.2.2⟩
theorem round_needs {l : List S44} {ins : List S25} {P H : Int} (hm : mayTs l ins = true) (h : ofF true l = (P, H, 0)) {t : S44} (ht : t ∈ l) (m : Nat) (hm2 : m ≤ 255) (hb : belowN t.f0.f0 t.f0.f1 P ≤ m) :
    needsOk (m + H / t.f0.f0) t.f4 = true ∧ (needsL m t.f4).length = t.f4.length ∧ (needsL (m + H / t.f0.f0) t.f4).length = t.f4.length ∧
    ∀ (i : Nat) (h1 : i < (needsL m t.f4).length) (h2 : i < (needsL (m + H / t.f0.f0) t.f4).length), ∃ q tt, lawCk (needsL m t.f4)[i] l ins = (q, tt, true) ∧ mayC q tt = true ∧ 0 ≤ (needsL m t.f4)[i].f3 ∧ (needsL m t.f4)[i].f3 ≤ 1125899906842624 ∧ 0 ≤ H / q ∧ H / q ≤ 17592186044416 ∧
      (needsL (m + H / t.f0.f0) t.f4)[i] = ⟨(needsL m t.f4)[i].f0, (needsL m t.f4)[i].f1, (needsL m t.f4)[i].f2, (needsL m t.f4)[i].f3 + H / q⟩ := by
  obtain ⟨_, _, _, h4, h5⟩ := mayTs_spec hm
  have e1 := needsL_map m t.f4 (fun r hr => (round_read hm h ht hr m hm2 hb).1)
  have e2 := needsL_map (m + H / t.f0.f0) t.f4 (fun r hr => (round_read hm h ht hr m hm2 hb).2.1)
  obtain ⟨_, a1, a2, a3⟩ := ofF_spec hm h
  refine ⟨?_, by rw [e1, List.length_map], by rw [e2, List.length_map], fun i h1 h2 => ?_⟩
  · unfold needsOk
    refine List.all_eq_true.2 (fun r hr => ?_)
    rw [(mayR_spec (h5 t ht r hr).2).1, (round_read hm h ht hr m hm2 hb).2.2.1]
    rfl
  · have hi : i < t.f4.length := by rw [e1, List.length_map] at h1; exact h1
    have hr := List.getElem_mem hi
    have g1 : (needsL m t.f4)[i] = ⟨t.f4[i].f0, t.f4[i].f1, t.f4[i].f2, (atD t.f4[i].f3.f0 t.f4[i].f3.f1 t.f4[i].f3.f2 m).2.2.1⟩ := by simp only [e1, List.getElem_map]
    have g2 : (needsL (m + H / t.f0.f0) t.f4)[i] = ⟨t.f4[i].f0, t.f4[i].f1, t.f4[i].f2, (atD t.f4[i].f3.f0 t.f4[i].f3.f1 t.f4[i].f3.f2 (m + H / t.f0.f0)).2.2.1⟩ := by simp only [e2, List.getElem_map]
    obtain ⟨c1, c2⟩ := h5 t ht _ hr
    have hc := ck_may hm c1
    obtain ⟨q1, q2, t1, t2⟩ := mayC_spec hc
    obtain ⟨p1, p2, s1, s2⟩ := mayC_spec (mayT_spec (h4 t ht)).1
    have hrd := round_read hm h ht hr m hm2 hb
    have h6 := at_date_all (mayT_spec (h4 t ht)).1 hc c2 m hm2 hrd.1
    have hpm : t.f0.f0 * (m : Int) ≤ 1099511627776 * m := Int.mul_le_mul_of_nonneg_right p2 (by omega)
    have hqa : 1 * (atD t.f4[i].f3.f0 t.f4[i].f3.f1 t.f4[i].f3.f2 m).2.2.1 ≤ (mayCk t.f4[i] l ins).1 * (atD t.f4[i].f3.f0 t.f4[i].f3.f1 t.f4[i].f3.f2 m).2.2.1 := Int.mul_le_mul_of_nonneg_right q1 h6.1
    refine ⟨(mayCk t.f4[i] l ins).1, (mayCk t.f4[i] l ins).2.1, by rw [g1, lawCk_of _ c1, ← c1], hc, ?_, ?_, Int.ediv_nonneg (by omega) (by omega), Int.le_trans (Int.ediv_le_self _ (by omega)) (by omega), ?_⟩
    · rw [g1]; exact h6.1
    · rw [g1]; dsimp only; omega
    · rw [g2, g1, hrd.2.2.2]
theorem round_fold {P H p s : Int} (h : okS P H p s = true) (m : Nat) (hm2 : m ≤ 255) (hb : belowN p s P ≤ m) :
    foldE P H p s m = 0 ∧ foldE P H p s (m + H / p) = 0 ∧ foldN P H p s (m + H / p) = foldN P H p s m ∧ wrap64 (foldM P H p s m + H) = foldM P H p s (m + H / p) := by
  obtain ⟨l1, l2⟩ := loop_pos h
  obtain ⟨o1, o2, o3, o4, o5, o6⟩ := okS_spec h
  have o1' : foldOk P H p s m = true := by
    unfold foldOk; rw [h, decide_eq_true (by omega), decide_eq_true (by omega)]; rfl
  have o2' : foldOk P H p s (m + H / p) = true := by
    unfold foldOk; rw [h, decide_eq_true (by omega), decide_eq_true (by omega)]; rfl
  obtain ⟨a1, a2, a3⟩ := fold_yes o1'
  obtain ⟨b1, b2, b3⟩ := fold_yes o2'
  have ht : turnN P H p s (m + H / p) = turnN P H p s m + 1 := by
    unfold turnN
    rw [if_neg (by omega), if_neg (by omega), show (m : Int) + H / p - belowN p s P = (m - belowN p s P) + 1 * (H / p) by omega, Int.add_mul_ediv_right _ _ (by omega)]
  obtain ⟨k0, k1, _, _⟩ := turn_in (n := m) h (by omega)
  rw [a1, a2, a3, b1, b2, b3, ht]
  generalize turnN P H p s m = k at *
  have hk : k * H ≤ 255 * H := Int.mul_le_mul_of_nonneg_right (by omega) (by omega)
  have hk0 : 0 ≤ k * H := Int.mul_nonneg k0 (by omega)
  refine ⟨rfl, rfl, by rw [Int.add_mul, Int.one_mul]; omega, ?_⟩
  rw [Int.add_mul, Int.one_mul, wrap_small (i := k * H) (by omega) (by omega)]
end Go.Proofs.Ytkabmpbfabgkfaa
