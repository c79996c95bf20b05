/-
  Jobs in order: where a job goes, and that two rows in order of the same jobs are one.
  No condition: plain lemmas over lists; no program.
-/
import Derived.Test.YtbplaiooipldlaaPure
set_option linter.unusedVariables false
set_option linter.unusedSimpArgs false
namespace Go.Proofs.Ytbplaiooipldlaa.Hp
/-- Ordered: none stands ahead of one that is ahead of it. -/
def Sorted (xs : List Key) : Prop := xs.Pairwise (fun a b => less b a = false)
/-- Where a job goes: behind all that it is not ahead of. -/
def ins (k : Key) : List Key → List Key
  | [] => [k]
  | x :: l => if less k x = true then k :: x :: l else x :: ins k l
/-- How many it goes behind. -/
def pos (k : Key) : List Key → Nat
  | [] => 0
  | x :: l => if less k x = true then 0 else pos k l + 1
theorem ins_pos (k : Key) (xs : List Key) : ins k xs = xs.take (pos k xs) ++ [k] ++ xs.drop (pos k xs) := by
  induction xs with
  | nil => rfl
  | cons x l ih =>
    unfold ins pos
    split
    · rfl
    · rw [ih]; simp
theorem pos_le (k : Key) (xs : List Key) : pos k xs ≤ xs.length := by
  induction xs with
  | nil => simp [pos]
  | cons x l ih => unfold pos; split <;> simp <;> omega
theorem pos_before (k : Key) (xs : List Key) : ∀ i, i < pos k xs → less k (at_ xs i) = false := by
  induction xs with
  | nil => intro i h; simp [pos] at h
  | cons x l ih =>
    intro i h
    unfold pos at h
    split at h
    · omega
    · rename_i hx
      cases i with
      | zero => simpa [at_] using hx
      | succ i => simpa [at_] using ih i (by omega)
theorem pos_at (k : Key) (xs : List Key) (h : pos k xs < xs.length) : less k (at_ xs (pos k xs)) = true := by
  induction xs with
  | nil => simp [pos] at h
  | cons x l ih =>
    unfold pos at h ⊢
    split
    · rename_i hx; simpa [at_] using hx
    · rename_i hx
      rw [if_neg hx] at h
      simpa [at_] using ih (by simpa using h)
theorem ins_perm (k : Key) (xs : List Key) : (ins k xs).Perm (k :: xs) := by
  induction xs with
  | nil => exact List.Perm.refl _
  | cons x l ih =>
    unfold ins
    split
    · exact List.Perm.refl _
    · exact (ih.cons x).trans (List.Perm.swap k x l)
theorem ins_length (k : Key) (xs : List Key) : (ins k xs).length = xs.length + 1 := by
  rw [(ins_perm k xs).length_eq]; rfl
theorem ins_sorted (k : Key) (xs : List Key) (h : Sorted xs) : Sorted (ins k xs) := by
  induction xs with
  | nil => simp [ins, Sorted]
  | cons x l ih =>
    obtain ⟨h1, h2⟩ := List.pairwise_cons.1 h
    unfold ins
    split
    · rename_i hk
      refine List.pairwise_cons.2 ⟨fun y hy => ?_, h⟩
      rcases List.mem_cons.1 hy with rfl | hy
      · exact less_asymm hk
      · exact nl_trans (less_asymm hk) (h1 y hy)
    · rename_i hk
      refine List.pairwise_cons.2 ⟨fun y hy => ?_, ih h2⟩
      rcases List.mem_cons.1 ((ins_perm k l).mem_iff.1 hy) with rfl | hy
      · simpa using hk
      · exact h1 y hy
theorem sorted_eq : ∀ (xs ys : List Key), Sorted xs → Sorted ys → xs.Perm ys → xs = ys := by
  intro xs
  induction xs with
  | nil => intro ys _ _ h; exact (List.nil_perm.1 h).symm
  | cons x l ih =>
    intro ys hx hy hp
    cases ys with
    | nil => exact absurd hp.length_eq (by simp)
    | cons y m =>
      obtain ⟨h1, h2⟩ := List.pairwise_cons.1 hx
      obtain ⟨h3, h4⟩ := List.pairwise_cons.1 hy
      have e : x = y := by
        refine eq_of_not ?_ ?_
        · rcases List.mem_cons.1 (hp.symm.mem_iff.1 (List.mem_cons_self (a := y) (l := m))) with rfl | hm
          · exact less_irrefl _
          · rcases List.mem_cons.1 (hp.mem_iff.1 (List.mem_cons_self (a := x) (l := l))) with rfl | hm2
            · exact less_irrefl _
            · exact h3 x hm2
        · rcases List.mem_cons.1 (hp.symm.mem_iff.1 (List.mem_cons_self (a := y) (l := m))) with rfl | hm
          · exact less_irrefl _
          · exact h1 y hm
      subst e
      rw [ih m h2 h4 ((List.perm_cons x).1 hp)]
/-- The first of a heap and the first of the row in order are one. -/
theorem heap_first (xs ys : List Key) (h1 : Ok xs) (h2 : Sorted ys) (hp : xs.Perm ys) (h0 : 0 < xs.length) : at_ xs 0 = at_ ys 0 := by
  cases ys with
  | nil => have h := hp.length_eq; simp only [List.length_nil] at h; omega
  | cons y m =>
    obtain ⟨h3, h4⟩ := List.pairwise_cons.1 h2
    have hm : at_ xs 0 ∈ xs := by rw [at_eq xs 0 h0]; exact List.getElem_mem _
    have e : at_ (y :: m) 0 = y := rfl
    rw [e]
    refine eq_of_not ?_ ?_
    · rcases List.mem_cons.1 (hp.mem_iff.1 hm) with h | h
      · rw [h]; exact less_irrefl _
      · exact h3 _ h
    · exact first_mem xs h1 y (hp.symm.mem_iff.1 (by simp))
/-- Jobs put one by one. -/
def insAll : List Key → List Key
  | [] => []
  | k :: l => ins k (insAll l)
theorem tail_perm (xs ys : List Key) (h1 : Ok xs) (h2 : Sorted ys) (hp : xs.Perm ys) (h0 : 0 < xs.length) : (rest xs).Perm ys.tail ∧ Sorted ys.tail := by
  have hf := heap_first xs ys h1 h2 hp h0
  obtain ⟨_, r2⟩ := rest_spec xs h1 h0
  cases ys with
  | nil => have h := hp.length_eq; simp only [List.length_nil] at h; omega
  | cons y m =>
    obtain ⟨h3, h4⟩ := List.pairwise_cons.1 h2
    have e : at_ (y :: m) 0 = y := rfl
    rw [hf, e] at r2
    exact ⟨(List.perm_cons y).1 (r2.trans hp), h4⟩
end Go.Proofs.Ytbplaiooipldlaa.Hp
