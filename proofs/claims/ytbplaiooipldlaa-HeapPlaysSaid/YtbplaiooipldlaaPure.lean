/-
  Plain laws of a binary heap of jobs: the way up, the way down, and that the first one is ahead of none's back.
  No condition: plain lemmas over lists; no program.
-/
namespace Go.Proofs.Ytbplaiooipldlaa.Hp

/-- A job in the queue. -/
structure Key where
  due : Int
  task : Int
  n : Int
deriving DecidableEq, Inhabited

def zero : Key := ⟨0, 0, 0⟩
/-- Does one job precede another one? -/
def less (a b : Key) : Bool := if a.due = b.due then (if a.task = b.task then decide (a.n < b.n) else decide (a.task < b.task)) else decide (a.due < b.due)
theorem less_iff (a b : Key) : less a b = true ↔ a.due < b.due ∨ (a.due = b.due ∧ (a.task < b.task ∨ (a.task = b.task ∧ a.n < b.n))) := by
  unfold less
  split
  · split
    · simp; omega
    · simp; omega
  · simp; omega
theorem less_irrefl (a : Key) : less a a = false := by
  cases h : less a a
  · rfl
  · rw [less_iff] at h; omega
theorem less_trans {a b c : Key} (h1 : less a b = true) (h2 : less b c = true) : less a c = true := by
  rw [less_iff] at *; omega
theorem less_asymm {a b : Key} (h1 : less a b = true) : less b a = false := by
  cases h : less b a
  · rfl
  · rw [less_iff] at *; omega
theorem eq_of_not {a b : Key} (h1 : less a b = false) (h2 : less b a = false) : a = b := by
  have e1 : ¬ less a b = true := by simp [h1]
  have e2 : ¬ less b a = true := by simp [h2]
  rw [less_iff] at e1 e2
  cases a; cases b
  simp only [Key.mk.injEq]
  simp only at e1 e2
  omega
/-- Not ahead: a weak order. -/
theorem nl_trans {a b c : Key} (h1 : less b a = false) (h2 : less c b = false) : less c a = false := by
  cases h : less c a
  · rfl
  · have e1 : ¬ less b a = true := by simp [h1]
    have e2 : ¬ less c b = true := by simp [h2]
    rw [less_iff] at *; omega

def at_ (xs : List Key) (i : Nat) : Key := xs.getD i zero
def swap (xs : List Key) (i j : Nat) : List Key := (xs.set i (at_ xs j)).set j (at_ xs i)
theorem swap_length (xs : List Key) (i j : Nat) : (swap xs i j).length = xs.length := by simp [swap]
theorem at_eq (xs : List Key) (i : Nat) (h : i < xs.length) : at_ xs i = xs[i] := by simp [at_, h]
theorem at_set (xs : List Key) (i k : Nat) (v : Key) : at_ (xs.set i v) k = if k = i ∧ i < xs.length then v else at_ xs k := by
  unfold at_
  rw [List.getD_eq_getElem?_getD, List.getD_eq_getElem?_getD, List.getElem?_set]
  by_cases h : i = k
  · subst h
    by_cases h2 : i < xs.length
    · rw [if_pos rfl, if_pos h2, if_pos ⟨rfl, h2⟩]; rfl
    · rw [if_pos rfl, if_neg h2, if_neg (by omega), List.getElem?_eq_none (by omega)]
  · rw [if_neg h, if_neg (by omega)]
theorem at_swap (xs : List Key) (i j k : Nat) (hi : i < xs.length) (hj : j < xs.length) :
    at_ (swap xs i j) k = if k = j then at_ xs i else if k = i then at_ xs j else at_ xs k := by
  unfold swap
  rw [at_set, at_set]
  by_cases h1 : k = j
  · rw [if_pos ⟨h1, by simpa using hj⟩, if_pos h1]
  · rw [if_neg (by omega), if_neg h1]
    by_cases h2 : k = i
    · rw [if_pos ⟨h2, hi⟩, if_pos h2]
    · rw [if_neg (by omega), if_neg h2]
theorem count_set' (xs : List Key) (i : Nat) (v b : Key) (h : i < xs.length) : (xs.set i v).count b + (if at_ xs i = b then 1 else 0) = xs.count b + (if v = b then 1 else 0) := by
  rw [List.count_set h, at_eq xs i h]
  have hc : (if (xs[i] == b) = true then 1 else 0) ≤ xs.count b := by
    split
    · rename_i he
      have : xs[i] = b := by simpa using he
      exact List.count_pos_iff.2 (this ▸ List.getElem_mem h)
    · omega
  simp only [beq_iff_eq] at hc ⊢
  split <;> split <;> simp_all <;> omega
theorem swap_perm (xs : List Key) (i j : Nat) (hi : i < xs.length) (hj : j < xs.length) : (swap xs i j).Perm xs := by
  rw [List.perm_iff_count]
  intro b
  have h1 := count_set' xs i (at_ xs j) b hi
  have h2 := count_set' (xs.set i (at_ xs j)) j (at_ xs i) b (by simpa using hj)
  rw [at_set, ite_self] at h2
  unfold swap
  omega

/-- The way up. -/
def up : Nat → List Key → Nat → List Key
  | 0, xs, _ => xs
  | f + 1, xs, i => if i = 0 then xs else if less (at_ xs i) (at_ xs ((i - 1) / 2)) then up f (swap xs i ((i - 1) / 2)) ((i - 1) / 2) else xs
/-- A heap: none is ahead of the one that stands over it. -/
def Ok (xs : List Key) : Prop := ∀ i, 0 < i → i < xs.length → less (at_ xs i) (at_ xs ((i - 1) / 2)) = false
/-- A heap but at i, whose ones below are not ahead of the one above i. -/
def OkUp (xs : List Key) (i : Nat) : Prop :=
  (∀ k, 0 < k → k < xs.length → k ≠ i → less (at_ xs k) (at_ xs ((k - 1) / 2)) = false) ∧
  (0 < i → ∀ k, k < xs.length → 0 < k → (k - 1) / 2 = i → less (at_ xs k) (at_ xs ((i - 1) / 2)) = false)
theorem up_spec : ∀ (f : Nat) (xs : List Key) (i : Nat), i < f → i < xs.length → OkUp xs i → Ok (up f xs i) ∧ (up f xs i).Perm xs := by
  intro f
  induction f with
  | zero => intro xs i h; omega
  | succ f ih =>
    intro xs i hf hi ⟨h1, h2⟩
    unfold up
    by_cases h0 : i = 0
    · rw [if_pos h0]
      exact ⟨fun k hk hk2 => h1 k hk hk2 (by omega), List.Perm.refl _⟩
    · rw [if_neg h0]
      by_cases hl : less (at_ xs i) (at_ xs ((i - 1) / 2)) = true
      · rw [if_pos hl]
        have hp : (i - 1) / 2 < i := by omega
        have hpl : (i - 1) / 2 < xs.length := by omega
        have hok : OkUp (swap xs i ((i - 1) / 2)) ((i - 1) / 2) := by
          constructor
          · intro k hk hk2 hne
            rw [swap_length] at hk2
            rw [at_swap _ _ _ _ hi hpl, at_swap _ _ _ _ hi hpl, if_neg hne]
            by_cases hki : k = i
            · subst hki
              rw [if_pos rfl, if_pos rfl]
              exact less_asymm hl
            · rw [if_neg hki]
              by_cases hk3 : (k - 1) / 2 = (i - 1) / 2
              · rw [if_pos hk3]
                have := h1 k hk hk2 hki
                rw [hk3] at this
                exact nl_trans (less_asymm hl) this
              · rw [if_neg hk3]
                by_cases hk4 : (k - 1) / 2 = i
                · rw [if_pos hk4]; exact h2 (by omega) k hk2 hk hk4
                · rw [if_neg hk4]; exact h1 k hk hk2 hki
          · intro hp0 k hk2 hk hkp
            rw [swap_length] at hk2
            rw [at_swap _ _ _ _ hi hpl, at_swap _ _ _ _ hi hpl]
            have hpp : ((i - 1) / 2 - 1) / 2 ≠ (i - 1) / 2 := by omega
            have hpi : ((i - 1) / 2 - 1) / 2 ≠ i := by omega
            rw [if_neg hpp, if_neg hpi]
            have hup := h1 ((i - 1) / 2) hp0 hpl (by omega)
            by_cases hki : k = i
            · subst hki
              rw [if_neg (by omega), if_pos rfl]
              exact hup
            · rw [if_neg (by omega), if_neg hki]
              have := h1 k hk hk2 hki
              rw [hkp] at this
              exact nl_trans hup this
        obtain ⟨g1, g2⟩ := ih (swap xs i ((i - 1) / 2)) ((i - 1) / 2) (by omega) (by rw [swap_length]; omega) hok
        exact ⟨g1, g2.trans (swap_perm _ _ _ hi hpl)⟩
      · rw [if_neg hl]
        refine ⟨fun k hk hk2 => ?_, List.Perm.refl _⟩
        by_cases hki : k = i
        · subst hki; simpa using hl
        · exact h1 k hk hk2 hki
/-- One more. -/
def put (xs : List Key) (k : Key) : List Key := up (xs.length + 1) (xs ++ [k]) xs.length
theorem at_append_left (xs ys : List Key) (i : Nat) (h : i < xs.length) : at_ (xs ++ ys) i = at_ xs i := by
  unfold at_; rw [List.getD_eq_getElem?_getD, List.getD_eq_getElem?_getD, List.getElem?_append_left h]
theorem put_spec (xs : List Key) (k : Key) (h : Ok xs) : Ok (put xs k) ∧ (put xs k).Perm (xs ++ [k]) := by
  refine up_spec _ _ _ (by omega) (by simp) ⟨?_, ?_⟩
  · intro j hj hj2 hne
    simp only [List.length_append, List.length_cons, List.length_nil] at hj2
    rw [at_append_left _ _ _ (by omega), at_append_left _ _ _ (by omega)]
    exact h j hj (by omega)
  · intro _ j hj hj2 hj3
    simp only [List.length_append, List.length_cons, List.length_nil] at hj
    omega

/-- The way down, of the first n. -/
def down : Nat → List Key → Nat → List Key
  | 0, xs, _ => xs
  | f + 1, xs, i =>
    if 2 * i + 1 ≥ xs.length then xs
    else if less (at_ xs (if 2 * i + 2 < xs.length ∧ less (at_ xs (2 * i + 2)) (at_ xs (2 * i + 1)) = true then 2 * i + 2 else 2 * i + 1)) (at_ xs i) = true then
      down f (swap xs i (if 2 * i + 2 < xs.length ∧ less (at_ xs (2 * i + 2)) (at_ xs (2 * i + 1)) = true then 2 * i + 2 else 2 * i + 1)) (if 2 * i + 2 < xs.length ∧ less (at_ xs (2 * i + 2)) (at_ xs (2 * i + 1)) = true then 2 * i + 2 else 2 * i + 1)
    else xs
/-- The lesser one of those below. -/
def low (xs : List Key) (i : Nat) : Nat := if 2 * i + 2 < xs.length ∧ less (at_ xs (2 * i + 2)) (at_ xs (2 * i + 1)) = true then 2 * i + 2 else 2 * i + 1
theorem down_succ (f : Nat) (xs : List Key) (i : Nat) : down (f + 1) xs i = if 2 * i + 1 ≥ xs.length then xs else if less (at_ xs (low xs i)) (at_ xs i) = true then down f (swap xs i (low xs i)) (low xs i) else xs := rfl
def OkDown (xs : List Key) (i : Nat) : Prop :=
  (∀ k, 0 < k → k < xs.length → (k - 1) / 2 ≠ i → less (at_ xs k) (at_ xs ((k - 1) / 2)) = false) ∧
  (0 < i → ∀ k, k < xs.length → 0 < k → (k - 1) / 2 = i → less (at_ xs k) (at_ xs ((i - 1) / 2)) = false)
theorem low_least (xs : List Key) (i : Nat) (h : 2 * i + 1 < xs.length) : low xs i < xs.length ∧ (low xs i = 2 * i + 1 ∨ low xs i = 2 * i + 2) ∧ ∀ k, k < xs.length → 0 < k → (k - 1) / 2 = i → less (at_ xs k) (at_ xs (low xs i)) = false := by
  unfold low
  by_cases hc : 2 * i + 2 < xs.length ∧ less (at_ xs (2 * i + 2)) (at_ xs (2 * i + 1)) = true
  · rw [if_pos hc]
    refine ⟨hc.1, .inr rfl, ?_⟩
    intro k hk hk0 hki
    rcases (show k = 2 * i + 1 ∨ k = 2 * i + 2 by omega) with rfl | rfl
    · exact less_asymm hc.2
    · exact less_irrefl _
  · rw [if_neg hc]
    refine ⟨h, .inl rfl, ?_⟩
    intro k hk hk0 hki
    rcases (show k = 2 * i + 1 ∨ k = 2 * i + 2 by omega) with rfl | rfl
    · exact less_irrefl _
    · cases h2 : less (at_ xs (2 * i + 2)) (at_ xs (2 * i + 1))
      · rfl
      · exact absurd ⟨hk, h2⟩ hc
theorem down_spec : ∀ (f : Nat) (xs : List Key) (i : Nat), xs.length < f + i → i < xs.length → OkDown xs i → Ok (down f xs i) ∧ (down f xs i).Perm xs := by
  intro f
  induction f with
  | zero => intro xs i h1 h2; omega
  | succ f ih =>
    intro xs i hf hi ⟨h1, h2⟩
    rw [down_succ]
    by_cases h0 : 2 * i + 1 ≥ xs.length
    · rw [if_pos h0]
      exact ⟨fun k hk hk2 => h1 k hk hk2 (by omega), List.Perm.refl _⟩
    · rw [if_neg h0]
      obtain ⟨l1, l2, l3⟩ := low_least xs i (by omega)
      generalize hl : low xs i = l at *
      by_cases hls : less (at_ xs l) (at_ xs i) = true
      · rw [if_pos hls]
        have hli : (l - 1) / 2 = i := by omega
        have hok : OkDown (swap xs i l) l := by
          constructor
          · intro k hk hk2 hne
            rw [swap_length] at hk2
            rw [at_swap _ _ _ _ hi l1, at_swap _ _ _ _ hi l1, if_neg hne]
            by_cases hkl : k = l
            · subst hkl
              rw [if_pos rfl, if_pos hli]
              exact less_asymm hls
            · rw [if_neg hkl]
              by_cases hki : k = i
              · subst hki
                rw [if_pos rfl, if_neg (by omega)]
                exact h2 hk l l1 (by omega) hli
              · rw [if_neg hki]
                by_cases hk3 : (k - 1) / 2 = i
                · rw [if_pos hk3]; exact l3 k hk2 hk hk3
                · rw [if_neg hk3]; exact h1 k hk hk2 hk3
          · intro hl0 k hk2 hk hkl
            rw [swap_length] at hk2
            rw [at_swap _ _ _ _ hi l1, at_swap _ _ _ _ hi l1]
            rw [if_neg (by omega), if_neg (by omega), if_neg (by omega), if_pos hli]
            have := h1 k hk hk2 (by omega)
            rw [hkl] at this
            exact this
        obtain ⟨g1, g2⟩ := ih (swap xs i l) l (by rw [swap_length]; omega) (by rw [swap_length]; exact l1) hok
        exact ⟨g1, g2.trans (swap_perm _ _ _ hi l1)⟩
      · rw [if_neg hls]
        refine ⟨fun k hk hk2 => ?_, List.Perm.refl _⟩
        by_cases hk3 : (k - 1) / 2 = i
        · rw [hk3]
          exact nl_trans (by simpa using hls) (l3 k hk2 hk hk3)
        · exact h1 k hk hk2 hk3
/-- What is left when the first one is taken. -/
def rest (xs : List Key) : List Key := down xs.length ((xs.set 0 (at_ xs (xs.length - 1))).take (xs.length - 1)) 0
theorem at_take (xs : List Key) (n i : Nat) (h : i < n) : at_ (xs.take n) i = at_ xs i := by
  unfold at_; rw [List.getD_eq_getElem?_getD, List.getD_eq_getElem?_getD, List.getElem?_take, if_pos h]
theorem down_nil (f : Nat) (xs : List Key) (i : Nat) (h : xs.length ≤ 2 * i + 1) : down f xs i = xs := by
  cases f with
  | zero => rfl
  | succ f => rw [down_succ, if_pos h]
theorem moved_perm (xs : List Key) (h : 0 < xs.length) : (at_ xs 0 :: (xs.set 0 (at_ xs (xs.length - 1))).take (xs.length - 1)).Perm xs := by
  rw [List.perm_iff_count]
  intro b
  have h1 := count_set' xs 0 (at_ xs (xs.length - 1)) b h
  generalize hys : xs.set 0 (at_ xs (xs.length - 1)) = ys at *
  have hl : ys.length = xs.length := by rw [← hys]; simp
  have hlast : at_ ys (xs.length - 1) = at_ xs (xs.length - 1) := by
    rw [← hys, at_set]; split
    · rfl
    · rfl
  have hsplit : ys = ys.take (xs.length - 1) ++ [at_ xs (xs.length - 1)] := by
    have := List.take_append_drop (xs.length - 1) ys
    rw [List.drop_eq_getElem_cons (by omega), List.drop_eq_nil_of_le (by omega)] at this
    rw [← at_eq _ _ (by omega), hlast] at this
    exact this.symm
  have hcnt : ys.count b = (ys.take (xs.length - 1)).count b + (if at_ xs (xs.length - 1) = b then 1 else 0) := by
    conv => lhs; rw [hsplit]
    rw [List.count_append, List.count_singleton]
    simp only [beq_iff_eq]
  rw [List.count_cons]
  simp only [beq_iff_eq]
  omega
theorem rest_spec (xs : List Key) (h : Ok xs) (h0 : 0 < xs.length) : Ok (rest xs) ∧ (at_ xs 0 :: rest xs).Perm xs := by
  unfold rest
  generalize hys : (xs.set 0 (at_ xs (xs.length - 1))).take (xs.length - 1) = ys
  have hl : ys.length = xs.length - 1 := by rw [← hys]; simp
  have hat : ∀ k, 0 < k → k < ys.length → at_ ys k = at_ xs k := by
    intro k hk hk2
    rw [← hys, at_take _ _ _ (by omega), at_set, if_neg (by omega)]
  have hperm : (at_ xs 0 :: ys).Perm xs := by rw [← hys]; exact moved_perm xs h0
  by_cases h1 : ys.length = 0
  · have : ys = [] := List.eq_nil_of_length_eq_zero h1
    rw [down_nil _ _ _ (by omega)]
    exact ⟨fun k _ hk => by omega, hperm⟩
  · obtain ⟨g1, g2⟩ := down_spec xs.length ys 0 (by omega) (by omega) ⟨fun k hk hk2 hne => by
      rw [hat k hk hk2, hat ((k - 1) / 2) (by omega) (by omega)]
      exact h k hk (by omega), fun h => by omega⟩
    exact ⟨g1, (List.Perm.cons _ g2).trans hperm⟩
/-- The first one of a heap is ahead of none's back. -/
theorem first_least (xs : List Key) (h : Ok xs) : ∀ i, i < xs.length → less (at_ xs i) (at_ xs 0) = false := by
  intro i
  induction i using Nat.strongRecOn with
  | _ i ih =>
    intro hi
    by_cases h0 : i = 0
    · subst h0; exact less_irrefl _
    · exact nl_trans (ih ((i - 1) / 2) (by omega) (by omega)) (h i (by omega) hi)
theorem first_mem (xs : List Key) (h : Ok xs) : ∀ x ∈ xs, less x (at_ xs 0) = false := by
  intro x hx
  obtain ⟨i, hi, rfl⟩ := List.mem_iff_getElem.1 hx
  rw [← at_eq xs i hi]; exact first_least xs h i hi
/-- Two heaps of the same jobs have the same first one. -/
theorem first_eq (xs ys : List Key) (h1 : Ok xs) (h2 : Ok ys) (hp : xs.Perm ys) (h0 : 0 < xs.length) : at_ xs 0 = at_ ys 0 := by
  have hl := hp.length_eq
  have m1 : at_ xs 0 ∈ xs := by rw [at_eq _ _ h0]; exact List.getElem_mem _
  have m2 : at_ ys 0 ∈ ys := by rw [at_eq _ _ (by omega)]; exact List.getElem_mem _
  exact eq_of_not (first_mem ys h2 _ (hp.mem_iff.1 m1)) (first_mem xs h1 _ (hp.mem_iff.2 m2))
theorem ok_nil : Ok [] := fun i _ h => by simp at h
theorem put_length (xs : List Key) (k : Key) (h : Ok xs) : (put xs k).length = xs.length + 1 := by
  rw [(put_spec xs k h).2.length_eq]; simp
theorem rest_length (xs : List Key) (h : Ok xs) (h0 : 0 < xs.length) : (rest xs).length + 1 = xs.length := by
  have := (rest_spec xs h h0).2.length_eq
  simpa using this
end Go.Proofs.Ytbplaiooipldlaa.Hp
