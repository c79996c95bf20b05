/-
  The canonical form of a stream of numbers: the least head, and the least loop; it is what words.short makes.
  Conditions: each theorem's own.
-/
import Derived.Test.YtpcnapmlmhhcpaaWs
set_option linter.unusedVariables false
set_option linter.unusedSimpArgs false
namespace Go.Proofs.Ytpcnapmlmhhcpaa
open Go.RowKit Big
/-- From h on, s comes again after q. -/
def Per (s : Nat → Int) (h q : Nat) : Prop := ∀ i, h ≤ i → s (i + q) = s i
structure Canon (s : Nat → Int) (K P : Nat) : Prop where
  pos : 1 ≤ P
  per : Per s K P
  least : ∀ h q, 1 ≤ q → Per s h q → P ≤ q
  head : K = 0 ∨ s (K - 1 + P) ≠ s (K - 1)
theorem Per.mono {s : Nat → Int} {h h' q : Nat} (p : Per s h q) (hh : h ≤ h') : Per s h' q := fun i hi => p i (by omega)
theorem Per.mul {s : Nat → Int} {h q : Nat} (p : Per s h q) : ∀ k : Nat, Per s h (k * q) := by
  intro k
  induction k with
  | zero => intro i _; rw [Nat.zero_mul]; rfl
  | succ k ih =>
    intro i hi
    rw [Nat.succ_mul, ← Nat.add_assoc, p _ (by omega), ih i hi]
theorem Per.dvd {s : Nat → Int} {h q p : Nat} (hp : Per s h q) (hd : q ∣ p) : Per s h p := by
  obtain ⟨k, rfl⟩ := hd
  rw [Nat.mul_comm]
  exact hp.mul k
/-- A period's period from far on holds from where another one holds. -/
theorem Per.back {s : Nat → Int} {h h' q p : Nat} (hp : Per s h p) (h0 : 1 ≤ p) (hq : Per s h' q) : Per s h q := by
  intro i hi
  have e1 := hp.mul h' i hi
  have e2 := hp.mul h' (i + q) (by omega)
  have : h' ≤ h' * p := Nat.le_mul_of_pos_right h' h0
  rw [← e2, ← e1, show i + q + h' * p = i + h' * p + q by omega]
  exact hq _ (by omega)
theorem Per.sub {s : Nat → Int} {h q p : Nat} (hp : Per s h p) (hq : Per s h q) (hle : q ≤ p) : Per s h (p - q) := by
  intro i hi
  have e1 := hq (i + (p - q)) (by omega)
  have e2 := hp i hi
  rw [show i + (p - q) + q = i + p by omega] at e1
  rw [← e1, e2]
theorem Per.gcd {s : Nat → Int} {h : Nat} : ∀ (n p q : Nat), p + q ≤ n → Per s h p → Per s h q → Per s h (Nat.gcd p q) := by
  intro n
  induction n with
  | zero => intro p q hn hp hq; obtain rfl : p = 0 := by omega
            obtain rfl : q = 0 := by omega
            exact hp
  | succ n ih =>
    intro p q hn hp hq
    rcases Nat.eq_zero_or_pos p with rfl | h1
    · rw [Nat.gcd_zero_left]; exact hq
    rcases Nat.eq_zero_or_pos q with rfl | h2
    · rw [Nat.gcd_zero_right]; exact hp
    rcases Nat.le_total q p with hle | hle
    · have := ih (p - q) q (by omega) (hp.sub hq hle) hq
      rwa [Nat.gcd_sub_self_left hle] at this
    · have := ih p (q - p) (by omega) hp (hq.sub hp hle)
      rwa [Nat.gcd_sub_self_right hle] at this
theorem Canon.unique {s : Nat → Int} {K P K' P' : Nat} (a : Canon s K P) (b : Canon s K' P') : K = K' ∧ P = P' := by
  have hP : P = P' := Nat.le_antisymm (a.least _ _ b.pos b.per) (b.least _ _ a.pos a.per)
  subst hP
  refine ⟨?_, rfl⟩
  rcases Nat.lt_trichotomy K K' with h | h | h
  · rcases b.head with h0 | h0
    · omega
    · exact absurd (a.per (K' - 1) (by omega)) h0
  · exact h
  · rcases a.head with h0 | h0
    · omega
    · exact absurd (b.per (K - 1) (by omega)) h0
/-- The least divisor of a period that is one is the least of all. -/
theorem least_of_div {s : Nat → Int} {h p P : Nat} (hp : Per s h p) (h0 : 1 ≤ p) (hmin : ∀ q, 1 ≤ q → q ∣ p → Per s h q → P ≤ q) : ∀ h' q, 1 ≤ q → Per s h' q → P ≤ q := by
  intro h' q hq hpq
  have hg := (hp.gcd (p + q) p q (Nat.le_refl _) (hp.back h0 hpq))
  have := hmin (Nat.gcd p q) (Nat.gcd_pos_of_pos_left _ (by omega)) (Nat.gcd_dvd_left _ _) hg
  exact Nat.le_trans this (Nat.gcd_le_right _ (by omega))
/-! ### the short loop -/
theorem at_getElem (xs : List Int) (i : Nat) (h : i < xs.length) : at_ xs i = xs[i] := by simp [at_, h]
theorem ext_at {xs ys : List Int} (hl : xs.length = ys.length) (h : ∀ i, i < xs.length → at_ xs i = at_ ys i) : xs = ys := by
  apply List.ext_getElem hl
  intro i h1 h2
  rw [← at_getElem xs i h1, ← at_getElem ys i h2]
  exact h i h1
theorem at_take (xs : List Int) (n i : Nat) (h : i < n) : at_ (xs.take n) i = at_ xs i := by simp [at_, h]
theorem at_drop (xs : List Int) (n i : Nat) : at_ (xs.drop n) i = at_ xs (n + i) := by simp [at_]
theorem at_append (xs ys : List Int) (i : Nat) : at_ (xs ++ ys) i = if i < xs.length then at_ xs i else at_ ys (i - xs.length) := by
  unfold at_
  split
  · rename_i h; simp [List.getElem?_append_left h]
  · rename_i h; simp [List.getElem?_append_right (Nat.le_of_not_lt h)]
theorem tab_length (f : Nat → Int) (n : Nat) : (tab f n).length = n := by simp [tab]
theorem at_tab (f : Nat → Int) (n i : Nat) (h : i < n) : at_ (tab f n) i = f i := by simp [at_, tab, h]
/-- A loop goes round after q: as it is read. -/
def Rot (l : List Int) (q : Nat) : Prop := ∀ i, at_ l ((i + q) % l.length) = at_ l (i % l.length)
theorem good_rot {l : List Int} {q : Nat} (hl : 0 < l.length) (h1 : 1 ≤ q) (h2 : q ≤ l.length) : good l q = true ↔ q ∣ l.length ∧ Rot l q := by
  unfold good
  simp only [Bool.and_eq_true, decide_eq_true_eq]
  constructor
  · rintro ⟨hd, he⟩
    have hdv := Nat.dvd_of_mod_eq_zero hd
    refine ⟨hdv, ?_⟩
    have hstep : ∀ i, i + q < l.length → at_ l (i + q) = at_ l i := by
      intro i hi
      have := congrArg (fun x => at_ x i) he
      simp only [at_drop] at this
      rw [at_take _ _ _ (by omega), Nat.add_comm] at this
      exact this
    -- all of one class are alike
    have hcls : ∀ k i, i + k * q < l.length → at_ l (i + k * q) = at_ l i := by
      intro k
      induction k with
      | zero => intro i _; simp
      | succ k ih =>
        intro i hi
        rw [Nat.succ_mul, ← Nat.add_assoc] at hi ⊢
        rw [hstep _ hi, ih i (by omega)]
    have hmod : ∀ j, j < l.length → at_ l j = at_ l (j % q) := by
      intro j hj
      have := hcls (j / q) (j % q) (by rw [Nat.mul_comm, Nat.mod_add_div]; exact hj)
      rwa [Nat.mul_comm, Nat.mod_add_div] at this
    intro i
    rw [hmod _ (Nat.mod_lt _ hl), hmod _ (Nat.mod_lt _ hl), Nat.mod_mod_of_dvd _ hdv, Nat.mod_mod_of_dvd _ hdv, Nat.add_mod_right]
  · rintro ⟨hd, hr⟩
    refine ⟨Nat.mod_eq_zero_of_dvd hd, ?_⟩
    apply ext_at
    · simp
    intro i hi
    rw [List.length_drop] at hi
    rw [at_drop, at_take _ _ _ hi]
    have := hr i
    rwa [Nat.mod_eq_of_lt (by omega), Nat.mod_eq_of_lt (by omega), Nat.add_comm] at this
theorem lpf_spec : ∀ (f : Nat) (l : List Int) (q : Nat), 0 < l.length → 1 ≤ q → q ≤ l.length → l.length ≤ f + q → (∀ r, 1 ≤ r → r < q → ¬ (good l r = true)) →
    good l (lpf f l q) = true ∧ 1 ≤ lpf f l q ∧ lpf f l q ≤ l.length ∧ ∀ r, 1 ≤ r → r < lpf f l q → ¬ (good l r = true) := by
  intro f
  induction f with
  | zero =>
    intro l q h0 h1 h2 h3 hm
    obtain rfl : q = l.length := by omega
    unfold lpf
    exact ⟨by simp [good], h0, Nat.le_refl _, hm⟩
  | succ f ih =>
    intro l q h0 h1 h2 h3 hm
    unfold lpf
    split
    · rename_i hlt
      split
      · rename_i hg
        exact ⟨hg, h1, h2, hm⟩
      · rename_i hg
        refine ih l (q + 1) h0 (by omega) hlt (by omega) (fun r hr1 hr2 => ?_)
        rcases Nat.lt_or_ge r q with h | h
        · exact hm r hr1 h
        · obtain rfl : r = q := by omega
          exact hg
    · rename_i hlt
      obtain rfl : q = l.length := by omega
      exact ⟨by simp [good], h0, Nat.le_refl _, hm⟩
theorem lp_spec {l : List Int} (h0 : 0 < l.length) : good l (lp l) = true ∧ 1 ≤ lp l ∧ lp l ≤ l.length ∧ ∀ r, 1 ≤ r → r < lp l → ¬ (good l r = true) :=
  lpf_spec _ _ _ h0 (by omega) h0 (by omega) (fun r h1 h2 => by omega)
theorem at_loop {l : List Int} (h0 : 0 < l.length) (i : Nat) : at_ (l.take (lp l)) (i % lp l) = at_ l (i % l.length) := by
  obtain ⟨hg, h1, h2, _⟩ := lp_spec h0
  obtain ⟨hd, hr⟩ := (good_rot h0 h1 h2).1 hg
  rw [at_take _ _ _ (Nat.mod_lt _ (by omega))]
  -- i = i % P + k * P
  have hk : ∀ k j, at_ l ((j + k * lp l) % l.length) = at_ l (j % l.length) := by
    intro k
    induction k with
    | zero => intro j; simp
    | succ k ih => intro j; rw [Nat.succ_mul, ← Nat.add_assoc, hr, ih]
  have := hk (i / lp l) (i % lp l)
  rw [Nat.mul_comm, Nat.mod_add_div] at this
  rw [this, Nat.mod_eq_of_lt (Nat.lt_of_lt_of_le (Nat.mod_lt _ (by omega)) h2)]
theorem num_per {h l : List Int} : Per (num h l) h.length l.length := by
  intro i hi
  unfold num
  rw [if_neg (by omega), if_neg (by omega), show i + l.length - h.length = i - h.length + l.length by omega, Nat.add_mod_right]
theorem per_rot {h l : List Int} {q : Nat} (hp : Per (num h l) h.length q) : Rot l q := by
  intro i
  have := hp (h.length + i) (by omega)
  unfold num at this
  rw [if_neg (by omega), if_neg (by omega), show h.length + i + q - h.length = i + q by omega, show h.length + i - h.length = i by omega] at this
  exact this
theorem rot_per {h l : List Int} {q : Nat} (hr : Rot l q) : Per (num h l) h.length q := by
  intro i hi
  unfold num
  rw [if_neg (by omega), if_neg (by omega), show i + q - h.length = i - h.length + q by omega]
  exact hr _
theorem lp_per {h l : List Int} (h0 : 0 < l.length) : Per (num h l) h.length (lp l) := by
  obtain ⟨hg, h1, h2, _⟩ := lp_spec h0
  exact rot_per ((good_rot h0 h1 h2).1 hg).2
theorem lp_least {h l : List Int} (h0 : 0 < l.length) : ∀ h' q, 1 ≤ q → Per (num h l) h' q → lp l ≤ q := by
  apply least_of_div (num_per (h := h) (l := l)) h0
  intro q hq hd hp
  rcases Nat.lt_or_ge q (lp l) with hlt | hge
  · exact absurd ((good_rot h0 hq (Nat.le_of_dvd h0 hd)).2 ⟨hd, per_rot hp⟩) ((lp_spec h0).2.2.2 q hq hlt)
  · exact hge
/-! ### how far back -/
theorem trn_spec (h c : List Int) : ∀ (f t : Nat), t ≤ h.length → h.length ≤ f + t → (∀ j, j < t → at_ h (h.length - 1 - j) = at_ c ((2 * c.length - 1 - j % c.length) % c.length)) →
    trn h c f t ≤ h.length ∧ (∀ j, j < trn h c f t → at_ h (h.length - 1 - j) = at_ c ((2 * c.length - 1 - j % c.length) % c.length)) ∧ (trn h c f t = h.length ∨ at_ h (h.length - 1 - trn h c f t) ≠ at_ c ((2 * c.length - 1 - trn h c f t % c.length) % c.length)) := by
  intro f
  induction f with
  | zero =>
    intro t h1 h2 hj
    unfold trn
    exact ⟨h1, hj, .inl (by omega)⟩
  | succ f ih =>
    intro t h1 h2 hj
    unfold trn
    split
    · rename_i hh
      refine ih (t + 1) (by omega) (by omega) (fun j hj' => ?_)
      rcases Nat.lt_or_ge j t with hlt | hge
      · exact hj j hlt
      · obtain rfl : j = t := by omega
        exact hh.2
    · rename_i hh
      refine ⟨h1, hj, ?_⟩
      rcases Nat.lt_or_ge t h.length with hlt | hge
      · exact .inr (fun e => hh ⟨hlt, e⟩)
      · exact .inl (by omega)
theorem back_mod (P j : Nat) (hP : 0 < P) : (P * (j + 1) - 1 - j) % P = (2 * P - 1 - j % P) % P := by
  have h1 : j % P < P := Nat.mod_lt _ hP
  have h2 := Nat.div_add_mod j P
  have h6 : j / P ≤ j := Nat.div_le_self _ _
  obtain ⟨d, hd⟩ : ∃ d, j = j / P + d := ⟨j - j / P, by omega⟩
  have h7 : P * (j + 1) = P * (j / P) + P * d + P := by rw [Nat.mul_succ, ← Nat.mul_add, ← hd]
  rw [show P * (j + 1) - 1 - j = (P - 1 - j % P) + P * d by omega, Nat.add_mul_mod_self_left, show 2 * P - 1 - j % P = (P - 1 - j % P) + P * 1 by omega, Nat.add_mul_mod_self_left]
theorem back_at {h l : List Int} (h0 : 0 < l.length) (j : Nat) (hj : j < h.length) : at_ (l.take (lp l)) ((2 * (l.take (lp l)).length - 1 - j % (l.take (lp l)).length) % (l.take (lp l)).length) = num h l (h.length - 1 - j + lp l * (j + 1)) := by
  obtain ⟨_, h1, h2, _⟩ := lp_spec h0
  rw [show (l.take (lp l)).length = lp l by rw [List.length_take]; omega, ← back_mod _ _ (by omega), at_loop h0]
  have h3 : j + 1 ≤ lp l * (j + 1) := Nat.le_mul_of_pos_left _ (by omega)
  unfold num
  rw [if_neg (by omega)]
  congr 2
  omega
theorem num_head {h l : List Int} (i : Nat) (hi : i < h.length) : num h l i = at_ h i := by unfold num; rw [if_pos hi]
theorem canon_of {h l : List Int} (h0 : 0 < l.length) : Canon (num h l) (h.length - turns h (l.take (lp l))) (lp l) := by
  obtain ⟨_, h1, h2, _⟩ := lp_spec h0
  obtain ⟨t1, t2, t3⟩ := trn_spec h (l.take (lp l)) h.length 0 (by omega) (by omega) (fun j hj => by omega)
  change turns h (l.take (lp l)) ≤ h.length at t1
  change ∀ j, j < turns h (l.take (lp l)) → _ at t2
  rw [show trn h (l.take (lp l)) h.length 0 = turns h (l.take (lp l)) from rfl] at t3
  generalize turns h (l.take (lp l)) = t at *
  have hper : ∀ j, j ≤ t → Per (num h l) (h.length - j) (lp l) := by
    intro j
    induction j with
    | zero => intro _; exact lp_per h0
    | succ j ih =>
      intro hj
      have hp := ih (by omega)
      intro i hi
      rcases Nat.lt_or_ge i (h.length - j) with hlt | hge
      · obtain rfl : i = h.length - 1 - j := by omega
        have e := t2 j (by omega)
        rw [back_at (h := h) h0 j (by omega), ← num_head (h := h) (l := l) _ (by omega)] at e
        rw [e, Nat.mul_succ, show h.length - 1 - j + (lp l * j + lp l) = h.length - 1 - j + lp l + j * lp l by rw [Nat.mul_comm]; omega]
        exact ((hp.mul j) _ (by omega)).symm
      · exact hp i hge
  refine ⟨h1, hper t (Nat.le_refl _), lp_least h0, ?_⟩
  rcases t3 with rfl | hne
  · exact .inl (by omega)
  · rcases Nat.lt_or_ge t h.length with hlt | hge
    · refine .inr (fun e => hne ?_)
      rw [back_at (h := h) h0 t hlt, ← num_head (h := h) (l := l) _ (by omega), Nat.mul_succ, show h.length - 1 - t + (lp l * t + lp l) = h.length - t - 1 + lp l + t * lp l by rw [Nat.mul_comm]; omega]
      rw [(hper t (Nat.le_refl _)).mul t _ (by omega), e]
      rw [show h.length - 1 - t = h.length - t - 1 by omega]
    · exact .inl (by omega)
theorem turns_le (h c : List Int) : turns h c ≤ h.length := (trn_spec h c h.length 0 (by omega) (by omega) (fun j hj => by omega)).1
theorem sHead_tab {h l : List Int} : sHead h l = tab (num h l) (h.length - turns h (l.take (lp l))) := by
  unfold sHead
  apply ext_at
  · rw [List.length_take, tab_length]; omega
  intro i hi
  rw [List.length_take] at hi
  rw [at_take _ _ _ (by omega), at_tab _ _ _ (by omega), num_head _ (by omega)]
theorem sLoop_length {h l : List Int} (h0 : 0 < l.length) : (sLoop h l).length = lp l := by
  obtain ⟨_, h1, h2, _⟩ := lp_spec h0
  have : sBack h l < lp l := Nat.mod_lt _ (by omega)
  unfold sLoop
  have hcl : (l.take (lp l)).length = lp l := by rw [List.length_take]; omega
  rw [List.length_append, List.length_drop, hcl, List.length_take, hcl]
  omega
theorem sLoop_tab {h l : List Int} (h0 : 0 < l.length) : sLoop h l = tab (fun i => num h l (h.length - turns h (l.take (lp l)) + i)) (lp l) := by
  obtain ⟨_, h1, h2, _⟩ := lp_spec h0
  have hc := canon_of (h := h) h0
  have hle := turns_le h (l.take (lp l))
  apply ext_at
  · rw [sLoop_length h0, tab_length]
  intro i hi
  rw [sLoop_length h0] at hi
  rw [at_tab _ _ _ hi]
  unfold sLoop
  have hb : sBack h l = (lp l - turns h (l.take (lp l)) % lp l) % lp l := rfl
  generalize turns h (l.take (lp l)) = t at *
  generalize hP : lp l = P at *
  have hcl : (l.take P).length = P := by rw [List.length_take]; omega
  have hbl : sBack h l < P := by rw [hb]; exact Nat.mod_lt _ (by omega)
  -- the value: c at (Q + i) mod P
  have e1 : at_ (List.drop (sBack h l) (List.take P l) ++ List.take (sBack h l) (List.take P l)) i = at_ (l.take P) ((sBack h l + i) % P) := by
    rw [at_append, List.length_drop, hcl]
    split
    · rename_i hlt
      rw [at_drop, Nat.mod_eq_of_lt (by omega)]
    · rename_i hge
      rw [at_take _ _ _ (by omega), Nat.mod_eq_sub_mod (by omega), Nat.mod_eq_of_lt (by omega)]
      congr 1
      omega
  rw [e1]
  -- the stream: far on, at |h| + (P * t - t + i)
  have ht : t ≤ P * t := Nat.le_mul_of_pos_left _ (by omega)
  have e2 : num h l (h.length - t + i) = num h l (h.length + (P * t - t + i)) := by
    rw [show h.length + (P * t - t + i) = h.length - t + i + t * P by rw [Nat.mul_comm t P]; omega]
    exact (hc.per.mul t _ (by omega)).symm
  rw [e2]
  unfold num
  rw [if_neg (by omega), show h.length + (P * t - t + i) - h.length = P * t - t + i by omega]
  have := at_loop h0 (P * t - t + i)
  rw [hP] at this
  rw [← this]
  congr 1
  rw [hb, Nat.mod_add_mod]
  -- (P - t % P + i) % P = (P * t - t + i) % P
  have h3 : t % P < P := Nat.mod_lt _ (by omega)
  have h4 := Nat.div_add_mod t P
  have h6 : t / P ≤ t := Nat.div_le_self _ _
  obtain ⟨d, hd⟩ : ∃ d, t = t / P + d := ⟨t - t / P, by omega⟩
  have h7 : P * t = P * (t / P) + P * d := by rw [← Nat.mul_add, ← hd]
  rcases Nat.eq_zero_or_pos d with rfl | hd0
  · have h8 : t % P = 0 := by
      have := Nat.le_mul_of_pos_left (t / P) (show 0 < P by omega)
      omega
    rw [h8, show P * t - t + i = i by omega, show P - 0 + i = i + P by omega, Nat.add_mod_right]
  · obtain ⟨d, rfl⟩ : ∃ e, d = e + 1 := ⟨d - 1, by omega⟩
    rw [Nat.mul_succ] at h7
    rw [show P * t - t + i = P - t % P + i + P * d by omega, Nat.add_mul_mod_self_left]
theorem tab_num {s : Nat → Int} {K P : Nat} (hP : 0 < P) (hp : Per s K P) (n : Nat) : num (tab s K) (tab (fun i => s (K + i)) P) n = s n := by
  unfold num
  rw [tab_length, tab_length]
  split
  · rename_i h; exact at_tab _ _ _ h
  · rename_i h
    rw [at_tab _ _ _ (Nat.mod_lt _ hP)]
    have := hp.mul ((n - K) / P) (K + (n - K) % P) (by omega)
    rw [← this]
    congr 1
    rw [Nat.mul_comm]
    have := Nat.mod_add_div (n - K) P
    omega
end Go.Proofs.Ytpcnapmlmhhcpaa
