/-
  The jobs of tasks, in order: the plain law of UnfoldJobs.
  Conditions: none.
-/
import Derived.Test.YtkabmpbfabgkfaaJp
import Derived.Test.YtkabmpbfabgkfaaPt
set_option linter.unusedVariables false
set_option linter.unusedSimpArgs false
namespace Go.Proofs.Ytkabmpbfabgkfaa
open Go.RowKit 
open Go.Proofs.Ytkabmpbfabgkfaa.P Go.Proofs.YtkabmpbfabgkfaaW.PrintWords Go.Proofs.YtkabmpbfabgkfaaW.PrintLast Go.Proofs.YtkabmpbfabgkfaaW.PrintMore
open Go.Proofs.Ytkabmpbfabgkfaa.P Go.Proofs.YtkabmpbfabgkfaaW.PrintWords Go.Proofs.YtkabmpbfabgkfaaW.PrintLast Go.Proofs.YtkabmpbfabgkfaaW.PrintMore
/-- Ahead of, or the same. -/
def leJ (x y : S60) : Prop := x.f2 < y.f2 ∨ x.f2 = y.f2 ∧ x.f0 ≤ y.f0
theorem below_iff {p s u : Int} (hp : 1 ≤ p) (n : Nat) : (n : Int) < belowN p s u ↔ s + n * p < u := by
  unfold belowN
  have hn : 0 ≤ (n : Int) * p := Int.mul_nonneg (by omega) (by omega)
  split
  · rw [show ((n : Int) < (u - s + p - 1) / p) ↔ ((n : Int) + 1 ≤ (u - s + p - 1) / p) from Iff.rfl, Int.le_ediv_iff_mul_le (by omega), Int.add_mul, Int.one_mul]
    omega
  · omega
theorem sortJ_pairwise (l : List S60) : (sortJ l).Pairwise leJ := by
  rw [List.pairwise_iff_getElem]
  intro i j hi hj hij
  have := sortJ_sorted l i j hij hj
  rw [getElem!_pos (sortJ l) i hi, getElem!_pos (sortJ l) j hj] at this
  exact this
theorem mem_jobsN {i : Nat} {t : S44} {m : Nat} {x : S60} : x ∈ jobsN i t m ↔ ∃ n, n < m ∧ x = jobOf i t n := by
  unfold jobsN
  rw [List.mem_map]
  constructor
  · rintro ⟨n, hn, rfl⟩; exact ⟨n, List.mem_range.1 hn, rfl⟩
  · rintro ⟨n, hn, rfl⟩; exact ⟨n, List.mem_range.2 hn, rfl⟩
theorem mem_jobsL {u : Int} {x : S60} : ∀ {l : List S44} {i : Nat}, x ∈ jobsL u i l → ∃ (k : Nat) (hk : k < l.length) (n : Nat), n < (belowN l[k].f0.f0 l[k].f0.f1 u).toNat ∧ x = jobOf (i + k) l[k] n
  | [], i, h => by simp [jobsL] at h
  | t :: l, i, h => by
    simp only [jobsL, List.mem_append] at h
    rcases h with h | h
    · obtain ⟨n, hn, rfl⟩ := mem_jobsN.1 h
      exact ⟨0, by simp, n, hn, rfl⟩
    · obtain ⟨k, hk, n, hn, rfl⟩ := mem_jobsL h
      exact ⟨k + 1, by simpa using hk, n, hn, by rw [show i + 1 + k = i + (k + 1) by omega]; rfl⟩
theorem key_inj {u : Int} {l : List S44} (hl : ∀ t ∈ l, mayC t.f0.f0 t.f0.f1 = true) {x y : S60} (hx : x ∈ jobsL u 0 l) (hy : y ∈ jobsL u 0 l) (h2 : x.f2 = y.f2) (h0 : x.f0 = y.f0) : x = y := by
  obtain ⟨k, hk, n, _, rfl⟩ := mem_jobsL hx
  obtain ⟨k', hk', n', _, rfl⟩ := mem_jobsL hy
  have e : k = k' := by have : ((0 + k : Nat) : Int) = ((0 + k' : Nat) : Int) := h0; omega
  subst e
  have hp := (mayC_spec (hl _ (List.getElem_mem hk))).1
  have h3 : l[k].f0.f1 + n * l[k].f0.f0 = l[k].f0.f1 + n' * l[k].f0.f0 := h2
  have h4 : (n : Int) * l[k].f0.f0 = n' * l[k].f0.f0 := by omega
  have h5 := Int.eq_of_mul_eq_mul_right (by omega) h4
  rw [show n = n' by omega]
theorem eq_sorted {u : Int} {l : List S44} (hl : ∀ t ∈ l, mayC t.f0.f0 t.f0.f1 = true) {X Y : List S60} (hX : ∀ x ∈ X, x ∈ jobsL u 0 l) (hx : X.Pairwise leJ) (hy : Y.Pairwise leJ) (hp : X.Perm Y) : X = Y := by
  refine List.Perm.eq_of_pairwise (le := leJ) (fun a b ha hb h1 h2 => ?_) hx hy hp
  refine key_inj hl (hX a ha) (hX b (hp.mem_iff.2 hb)) ?_ ?_ <;> (unfold leJ at h1 h2; omega)
theorem filter_range (m M : Nat) (h : m ≤ M) : (List.range M).filter (fun n => decide (n < m)) = List.range m := by
  induction M with
  | zero => rw [show m = 0 by omega]; rfl
  | succ M ih =>
    rw [List.range_succ, List.filter_append]
    rcases Nat.lt_or_ge M m with h1 | h1
    · rw [show m = M + 1 by omega]
      rw [List.range_succ, List.filter_eq_self.2 (by intro a ha; have := List.mem_range.1 ha; simp; omega)]
      simp
    · rw [ih h1]
      simp; omega
theorem filter_jobsN {i : Nat} {t : S44} (ht : mayC t.f0.f0 t.f0.f1 = true) {u U : Int} (hu : u ≤ U) : (jobsN i t (belowN t.f0.f0 t.f0.f1 U).toNat).filter (fun x => decide (x.f2 < u)) = jobsN i t (belowN t.f0.f0 t.f0.f1 u).toNat := by
  have hp := (mayC_spec ht).1
  have b1 := belowN_nonneg (s := t.f0.f1) (u := u) hp
  have b2 := belowN_nonneg (s := t.f0.f1) (u := U) hp
  unfold jobsN
  rw [List.filter_map]
  congr 1
  have hle : (belowN t.f0.f0 t.f0.f1 u).toNat ≤ (belowN t.f0.f0 t.f0.f1 U).toNat := by
    rcases Nat.lt_or_ge (belowN t.f0.f0 t.f0.f1 U).toNat (belowN t.f0.f0 t.f0.f1 u).toNat with h | h
    · have h1 := (below_iff (s := t.f0.f1) (u := u) hp (belowN t.f0.f0 t.f0.f1 U).toNat).1 (by omega)
      have h2 := (below_iff (s := t.f0.f1) (u := U) hp (belowN t.f0.f0 t.f0.f1 U).toNat).2 (by omega)
      omega
    · exact h
  rw [← filter_range _ _ hle]
  congr 1
  funext n
  show decide ((jobOf i t n).f2 < u) = decide (n < _)
  rw [decide_eq_decide]
  show t.f0.f1 + n * t.f0.f0 < u ↔ _
  have := below_iff (s := t.f0.f1) (u := u) hp n
  omega
theorem filter_jobsL {u U : Int} (hu : u ≤ U) : ∀ (i : Nat) (l : List S44), (∀ t ∈ l, mayC t.f0.f0 t.f0.f1 = true) → (jobsL U i l).filter (fun x => decide (x.f2 < u)) = jobsL u i l
  | i, [], _ => rfl
  | i, t :: l, h => by
    simp only [jobsL, List.filter_append]
    rw [filter_jobsL hu (i + 1) l (fun z hz => h z (List.mem_cons_of_mem _ hz))]
    unfold jobsOf
    rw [filter_jobsN (h t List.mem_cons_self) hu]
theorem filter_takeWhile {α : Type} {R : α → α → Prop} {p : α → Bool} (hm : ∀ x y, R x y → p y = true → p x = true) : ∀ {l : List α}, l.Pairwise R → l.filter p = l.takeWhile p ∧ ∀ x ∈ l.dropWhile p, p x = false
  | [], _ => ⟨rfl, fun x hx => by cases hx⟩
  | a :: l, h => by
    obtain ⟨h1, h2⟩ := List.pairwise_cons.1 h
    cases ha : p a with
    | true =>
      obtain ⟨e1, e2⟩ := filter_takeWhile hm h2
      rw [List.filter_cons, List.takeWhile_cons, List.dropWhile_cons, if_pos ha, if_pos ha, if_pos ha, e1]
      exact ⟨rfl, e2⟩
    | false =>
      have hno : ∀ x ∈ l, p x = false := fun x hx => by
        cases hx' : p x with
        | false => rfl
        | true => have := hm a x (h1 x hx) hx'; rw [ha] at this; cases this
      rw [List.filter_cons, List.takeWhile_cons, List.dropWhile_cons, if_neg (by rw [ha]; decide), if_neg (by rw [ha]; decide), if_neg (by rw [ha]; decide)]
      refine ⟨List.filter_eq_nil_iff.2 (fun x hx => by rw [hno x hx]; decide), fun x hx => ?_⟩
      rcases List.mem_cons.1 hx with rfl | hx
      · exact ha
      · exact hno x hx
theorem jobsN_task {i : Nat} {t : S44} {m : Nat} {q : Int} (h : q = i) : (jobsN i t m).filter (fun x => decide (x.f0 = q)) = jobsN i t m := by
  refine List.filter_eq_self.2 (fun x hx => ?_)
  obtain ⟨n, _, rfl⟩ := mem_jobsN.1 hx
  exact decide_eq_true h.symm
theorem jobsN_none {i : Nat} {t : S44} {m : Nat} {q : Int} (h : q ≠ i) : (jobsN i t m).filter (fun x => decide (x.f0 = q)) = [] := by
  refine List.filter_eq_nil_iff.2 (fun x hx => ?_)
  obtain ⟨n, _, rfl⟩ := mem_jobsN.1 hx
  simp only [decide_eq_true_eq]
  exact fun e => h e.symm
theorem jobsL_task (u : Int) : ∀ (i : Nat) (l : List S44) (k : Nat) (hk : k < l.length), (jobsL u i l).filter (fun x => decide (x.f0 = ((i + k : Nat) : Int))) = jobsN (i + k) l[k] (belowN l[k].f0.f0 l[k].f0.f1 u).toNat
  | i, [], k, hk => by simp at hk
  | i, t :: l, 0, _ => by
    simp only [jobsL, List.filter_append]
    unfold jobsOf
    rw [jobsN_task (i := i) (q := ((i + 0 : Nat) : Int)) (by omega)]
    have : (jobsL u (i + 1) l).filter (fun x => decide (x.f0 = ((i + 0 : Nat) : Int))) = [] := by
      refine List.filter_eq_nil_iff.2 (fun x hx => ?_)
      obtain ⟨k, hk, n, _, rfl⟩ := mem_jobsL hx
      show ¬ (decide (((i + 1 + k : Nat) : Int) = ((i + 0 : Nat) : Int)) = true)
      rw [decide_eq_true_eq]
      omega
    rw [this, List.append_nil]
    rfl
  | i, t :: l, k + 1, hk => by
    simp only [jobsL, List.filter_append]
    unfold jobsOf
    rw [jobsN_none (by omega), List.nil_append]
    have := jobsL_task u (i + 1) l k (by simpa using hk)
    rw [show i + 1 + k = i + (k + 1) by omega] at this
    rw [this]
    rfl
theorem jobsN_pairwise {i : Nat} {t : S44} (hp : 1 ≤ t.f0.f0) (m : Nat) : (jobsN i t m).Pairwise leJ := by
  rw [List.pairwise_iff_getElem]
  intro a b ha hb hab
  have e : ∀ (c : Nat) (hc : c < (jobsN i t m).length), (jobsN i t m)[c] = jobOf i t c := fun c hc => by simp [jobsN]
  rw [e a ha, e b hb]
  unfold leJ jobOf
  dsimp only
  have : (a : Int) * t.f0.f0 ≤ b * t.f0.f0 := Int.mul_le_mul_of_nonneg_right (by omega) (by omega)
  omega
theorem filter_at {α : Type} (q : α → Bool) (B : List α) (i : Nat) (hi : i < B.length) (hq : q B[i] = true) : (B.filter q)[((B.take i).filter q).length]? = some B[i] := by
  have h : B = B.take i ++ B[i] :: B.drop (i + 1) := by rw [← List.drop_eq_getElem_cons hi, List.take_append_drop]
  conv => lhs; rw [h]
  rw [List.filter_append, List.filter_cons, if_pos hq, List.take_left' (by rw [List.length_take]; omega)]
  rw [List.getElem?_append_right (Nat.le_refl _)]
  simp
/-- How many of the first i jobs are task k's. -/
def cntB (B : List S60) (i k : Nat) : Nat := ((B.take i).filter (fun x => decide (x.f0 = (k : Int)))).length
theorem cntB_succ (B : List S60) (i k : Nat) (hi : i < B.length) : cntB B (i + 1) k = cntB B i k + (if B[i].f0 = (k : Int) then 1 else 0) := by
  unfold cntB
  rw [List.take_add_one, List.getElem?_eq_getElem hi]
  show ((B.take i ++ [B[i]]).filter _).length = _
  rw [List.filter_append, List.length_append]
  congr 1
  by_cases h : B[i].f0 = (k : Int)
  · rw [if_pos h]; simp [h]
  · rw [if_neg h]; simp [h]
theorem jobs_prefix {l : List S44} {u U : Int} (hl : ∀ t ∈ l, mayC t.f0.f0 t.f0.f1 = true) (hu : u ≤ U) : sortJ (jobsL u 0 l) = (sortJ (jobsL U 0 l)).takeWhile (fun x => decide (x.f2 < u)) ∧ ∀ x ∈ (sortJ (jobsL U 0 l)).dropWhile (fun x => decide (x.f2 < u)), decide (x.f2 < u) = false := by
  have hm : ∀ x y : S60, leJ x y → decide (y.f2 < u) = true → decide (x.f2 < u) = true := fun x y h hy => by
    rw [decide_eq_true_eq] at hy ⊢
    unfold leJ at h
    omega
  obtain ⟨e1, e2⟩ := filter_takeWhile hm (sortJ_pairwise (jobsL U 0 l))
  refine ⟨?_, e2⟩
  rw [← e1]
  have h1 : ((sortJ (jobsL U 0 l)).filter (fun x => decide (x.f2 < u))).Perm (jobsL u 0 l) := by
    have := (sortJ_perm (jobsL U 0 l)).filter (fun x => decide (x.f2 < u))
    rwa [filter_jobsL hu 0 l hl] at this
  exact eq_sorted hl (fun x hx => (sortJ_perm _).mem_iff.1 hx) (sortJ_pairwise _) ((sortJ_pairwise _).filter _) ((sortJ_perm _).trans h1.symm)
theorem jobs_len {l : List S44} {u U : Int} (hl : ∀ t ∈ l, mayC t.f0.f0 t.f0.f1 = true) (hu : u ≤ U) : (sortJ (jobsL u 0 l)).length ≤ (sortJ (jobsL U 0 l)).length := by
  rw [(jobs_prefix hl hu).1]
  conv => rhs; rw [← List.takeWhile_append_dropWhile (p := fun x : S60 => decide (x.f2 < u)) (l := sortJ (jobsL U 0 l)), List.length_append]
  omega
theorem jobs_ahead {l : List S44} {u U : Int} (hl : ∀ t ∈ l, mayC t.f0.f0 t.f0.f1 = true) (hu : u ≤ U) (i : Nat) (hi : i < (sortJ (jobsL U 0 l)).length) : (i < (sortJ (jobsL u 0 l)).length ↔ (sortJ (jobsL U 0 l))[i].f2 < u) ∧ ((h : i < (sortJ (jobsL u 0 l)).length) → (sortJ (jobsL u 0 l))[i] = (sortJ (jobsL U 0 l))[i]) := by
  obtain ⟨e1, e2⟩ := jobs_prefix hl hu
  have hB := List.takeWhile_append_dropWhile (p := fun x : S60 => decide (x.f2 < u)) (l := sortJ (jobsL U 0 l))
  rw [← e1] at hB
  have key : (h : i < (sortJ (jobsL u 0 l)).length) → (sortJ (jobsL u 0 l))[i] = (sortJ (jobsL U 0 l))[i] := fun h => by
    have : (sortJ (jobsL U 0 l))[i]? = (sortJ (jobsL u 0 l))[i]? := by
      rw [← hB]
      rw [List.getElem?_append_left h]
    rw [List.getElem?_eq_getElem hi, List.getElem?_eq_getElem h] at this
    exact (Option.some.inj this).symm
  refine ⟨⟨fun h => ?_, fun h => ?_⟩, key⟩
  · have hmem := List.getElem_mem h
    rw [key h] at hmem
    have := (sortJ_perm _).mem_iff.1 hmem
    obtain ⟨k, hk, n, hn, e⟩ := mem_jobsL this
    rw [e]
    have hp := (mayC_spec (hl _ (List.getElem_mem hk))).1
    have hb := belowN_nonneg (s := l[k].f0.f1) (u := u) hp
    exact (below_iff hp n).1 (by omega)
  · rcases Nat.lt_or_ge i (sortJ (jobsL u 0 l)).length with h1 | h1
    · exact h1
    · have hmem : (sortJ (jobsL U 0 l))[i] ∈ (sortJ (jobsL U 0 l)).dropWhile (fun x => decide (x.f2 < u)) := by
        have : (sortJ (jobsL U 0 l))[i]? = ((sortJ (jobsL U 0 l)).dropWhile (fun x => decide (x.f2 < u)))[i - (sortJ (jobsL u 0 l)).length]? := by
          conv => lhs; rw [← hB]
          rw [List.getElem?_append_right h1]
        rw [List.getElem?_eq_getElem hi] at this
        exact List.mem_of_getElem? this.symm
      have := e2 _ hmem
      rw [decide_eq_false_iff_not] at this
      exact (this h).elim
theorem jobs_of_task {l : List S44} {U : Int} (hl : ∀ t ∈ l, mayC t.f0.f0 t.f0.f1 = true) (k : Nat) (hk : k < l.length) : (sortJ (jobsL U 0 l)).filter (fun x => decide (x.f0 = (k : Int))) = jobsN k l[k] (belowN l[k].f0.f0 l[k].f0.f1 U).toNat := by
  have h1 := (sortJ_perm (jobsL U 0 l)).filter (fun x => decide (x.f0 = (k : Int)))
  have h2 := jobsL_task U 0 l k hk
  rw [Nat.zero_add] at h2
  rw [h2] at h1
  exact eq_sorted hl (fun x hx => (sortJ_perm _).mem_iff.1 (List.mem_filter.1 hx).1) ((sortJ_pairwise _).filter _) (jobsN_pairwise (mayC_spec (hl _ (List.getElem_mem hk))).1 _) h1
theorem jobs_at {l : List S44} {U : Int} (hl : ∀ t ∈ l, mayC t.f0.f0 t.f0.f1 = true) (i : Nat) (hi : i < (sortJ (jobsL U 0 l)).length) : ∃ (k : Nat) (hk : k < l.length), (sortJ (jobsL U 0 l))[i] = jobOf k l[k] (cntB (sortJ (jobsL U 0 l)) i k) ∧ ((cntB (sortJ (jobsL U 0 l)) i k : Nat) : Int) < belowN l[k].f0.f0 l[k].f0.f1 U := by
  obtain ⟨k, hk, n, hn, e⟩ := mem_jobsL ((sortJ_perm _).mem_iff.1 (List.getElem_mem hi))
  rw [Nat.zero_add] at e
  have hq : decide ((sortJ (jobsL U 0 l))[i].f0 = (k : Int)) = true := by rw [e]; exact decide_eq_true rfl
  have h1 := filter_at (fun x : S60 => decide (x.f0 = (k : Int))) (sortJ (jobsL U 0 l)) i hi hq
  rw [jobs_of_task hl k hk] at h1
  have hc : cntB (sortJ (jobsL U 0 l)) i k < (belowN l[k].f0.f0 l[k].f0.f1 U).toNat := by
    have := (List.getElem?_eq_some_iff.1 h1).1
    rw [jobsN_length] at this
    exact this
  refine ⟨k, hk, ?_, by omega⟩
  have h2 : (jobsN k l[k] (belowN l[k].f0.f0 l[k].f0.f1 U).toNat)[cntB (sortJ (jobsL U 0 l)) i k]? = some (jobOf k l[k] (cntB (sortJ (jobsL U 0 l)) i k)) := by
    unfold jobsN
    rw [List.getElem?_map, List.getElem?_range hc]
    rfl
  exact Option.some.inj (h1.symm.trans h2)
theorem jobs_next {l : List S44} {U : Int} (hl : ∀ t ∈ l, mayC t.f0.f0 t.f0.f1 = true) (i : Nat) (hi : i + 1 < (sortJ (jobsL U 0 l)).length) : (sortJ (jobsL U 0 l))[i].f2 < (sortJ (jobsL U 0 l))[i + 1].f2 ∨ (sortJ (jobsL U 0 l))[i].f2 = (sortJ (jobsL U 0 l))[i + 1].f2 ∧ (sortJ (jobsL U 0 l))[i].f0 < (sortJ (jobsL U 0 l))[i + 1].f0 := by
  have h1 := List.pairwise_iff_getElem.1 (sortJ_pairwise (jobsL U 0 l)) i (i + 1) (by omega) hi (by omega)
  rcases h1 with h1 | ⟨h1, h2⟩
  · exact .inl h1
  · refine .inr ⟨h1, ?_⟩
    rcases Int.lt_or_le (sortJ (jobsL U 0 l))[i].f0 (sortJ (jobsL U 0 l))[i + 1].f0 with h3 | h3
    · exact h3
    · obtain ⟨k, hk, e, _⟩ := jobs_at (U := U) hl i (by omega)
      obtain ⟨k', hk', e', _⟩ := jobs_at (U := U) hl (i + 1) hi
      have hkk : k = k' := by
        have h4 : (sortJ (jobsL U 0 l))[i].f0 = (k : Int) := by rw [e]; rfl
        have h5 : (sortJ (jobsL U 0 l))[i + 1].f0 = (k' : Int) := by rw [e']; rfl
        omega
      subst hkk
      have hc := cntB_succ (sortJ (jobsL U 0 l)) i k (by omega)
      rw [if_pos (by rw [e]; rfl)] at hc
      rw [e, e', hc] at h1
      simp only [jobOf] at h1
      have hp := (mayC_spec (hl _ (List.getElem_mem hk))).1
      have : ((cntB (sortJ (jobsL U 0 l)) i k : Nat) : Int) * l[k].f0.f0 = ((cntB (sortJ (jobsL U 0 l)) i k + 1 : Nat) : Int) * l[k].f0.f0 := by omega
      have := Int.eq_of_mul_eq_mul_right (by omega) this
      omega
theorem jobs_end {l : List S44} {U : Int} (hl : ∀ t ∈ l, mayC t.f0.f0 t.f0.f1 = true) (k : Nat) (hk : k < l.length) : U ≤ l[k].f0.f1 + (cntB (sortJ (jobsL U 0 l)) (sortJ (jobsL U 0 l)).length k : Nat) * l[k].f0.f0 := by
  have hp := (mayC_spec (hl _ (List.getElem_mem hk))).1
  have hb := belowN_nonneg (s := l[k].f0.f1) (u := U) hp
  have h1 : cntB (sortJ (jobsL U 0 l)) (sortJ (jobsL U 0 l)).length k = (belowN l[k].f0.f0 l[k].f0.f1 U).toNat := by
    unfold cntB
    rw [List.take_length, jobs_of_task hl k hk, jobsN_length]
  rw [h1]
  have := below_iff (s := l[k].f0.f1) (u := U) hp (belowN l[k].f0.f0 l[k].f0.f1 U).toNat
  omega
end Go.Proofs.Ytkabmpbfabgkfaa
