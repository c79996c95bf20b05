/-
  The reference's words: Short's numbers are the canonical form of a stream; what Drop, Cons, Up, Down make of it.
  Conditions: each theorem's own.
-/
import Derived.Test.YtpcnapmlmhhcpaaCd
set_option linter.unusedVariables false
set_option linter.unusedSimpArgs false
namespace Go.Proofs.Ytpcnapmlmhhcpaa
open Go.RowKit Big

theorem tab_succ (f : Nat → Int) (n : Nat) : tab f (n + 1) = tab f n ++ [f n] := by simp [tab, List.range_succ]
theorem tab_take (f : Nat → Int) (n m : Nat) (h : m ≤ n) : (tab f n).take m = tab f m := by
  apply ext_at
  · rw [List.length_take, tab_length, tab_length]; omega
  intro i hi
  rw [List.length_take, tab_length] at hi
  rw [at_take _ _ _ (by omega), at_tab _ _ _ (by omega), at_tab _ _ _ (by omega)]
theorem tab_drop (f : Nat → Int) (n m : Nat) (h : m ≤ n) : (tab f n).drop m = tab (fun i => f (m + i)) (n - m) := by
  apply ext_at
  · rw [List.length_drop, tab_length, tab_length]
  intro i hi
  rw [List.length_drop, tab_length] at hi
  rw [at_drop, at_tab _ _ _ (by omega), at_tab _ _ _ (by omega)]
theorem tab_head (h l : List Int) : tab (Go.Proofs.Ytpcnapmlmhhcpaa.num h l) h.length = h := by
  apply ext_at
  · rw [tab_length]
  intro i hi
  rw [tab_length] at hi
  rw [at_tab _ _ _ hi, num_head i hi]
theorem tab_loop (h l : List Int) : tab (fun i => Go.Proofs.Ytpcnapmlmhhcpaa.num h l (h.length + i)) l.length = l := by
  apply ext_at
  · rw [tab_length]
  intro i hi
  rw [tab_length] at hi
  rw [at_tab _ _ _ hi]
  unfold Go.Proofs.Ytpcnapmlmhhcpaa.num
  rw [if_neg (by omega), Nat.add_sub_cancel_left, Nat.mod_eq_of_lt hi]
/-- The reference's test of a loop's length, its first one that fits, and its head. -/
def rFit (s : Nat → Int) (h p q : Nat) : Bool := decide (p % q = 0) && (List.range (2 * p - q)).all fun j => decide (s (h + j) = s (h + j + q))
def rQ (s : Nat → Int) (h p : Nat) : Nat → Nat → Nat
  | 0, q => q
  | f + 1, q => if rFit s h p q = true then q else rQ s h p f (q + 1)
def rK (s : Nat → Int) (q : Nat) : Nat → Nat
  | 0 => 0
  | h + 1 => if s h = s (h + q) then rK s q h else h + 1
theorem rFit_iff {s : Nat → Int} {h p q : Nat} (per : Per s h p) (h1 : 1 ≤ q) (h2 : q ≤ p) : rFit s h p q = true ↔ q ∣ p ∧ Per s h q := by
  unfold rFit
  simp only [Bool.and_eq_true, decide_eq_true_eq, List.all_eq_true, List.mem_range]
  constructor
  · rintro ⟨hd, ha⟩
    refine ⟨Nat.dvd_of_mod_eq_zero hd, fun i hi => ?_⟩
    have hj : (i - h) % p < p := Nat.mod_lt _ (by omega)
    have e := ha ((i - h) % p) (by omega)
    have hm := Nat.mod_add_div (i - h) p
    have p1 := (per.mul ((i - h) / p)) (h + (i - h) % p) (by omega)
    have p2 := (per.mul ((i - h) / p)) (h + (i - h) % p + q) (by omega)
    have hc : (i - h) / p * p = p * ((i - h) / p) := Nat.mul_comm _ _
    rw [show h + (i - h) % p + (i - h) / p * p = i by omega] at p1
    rw [show h + (i - h) % p + q + (i - h) / p * p = i + q by omega] at p2
    rw [p1, p2]
    exact e.symm
  · rintro ⟨hd, hp⟩
    exact ⟨Nat.mod_eq_zero_of_dvd hd, fun j _ => (hp (h + j) (by omega)).symm⟩
theorem rFit_p {s : Nat → Int} {h p : Nat} (per : Per s h p) (hp : 1 ≤ p) : rFit s h p p = true := (rFit_iff per hp (Nat.le_refl _)).2 ⟨Nat.dvd_refl _, per⟩
theorem rQ_spec {s : Nat → Int} {h p : Nat} (hf : rFit s h p p = true) : ∀ (f q : Nat), 1 ≤ q → q ≤ p → p ≤ f + q → (∀ r, 1 ≤ r → r < q → ¬ (rFit s h p r = true)) →
    rFit s h p (rQ s h p f q) = true ∧ 1 ≤ rQ s h p f q ∧ rQ s h p f q ≤ p ∧ ∀ r, 1 ≤ r → r < rQ s h p f q → ¬ (rFit s h p r = true) := by
  intro f
  induction f with
  | zero =>
    intro q h1 h2 h3 h4
    obtain rfl : q = p := by omega
    exact ⟨hf, h1, Nat.le_refl _, h4⟩
  | succ f ih =>
    intro q h1 h2 h3 h4
    unfold rQ
    split
    · rename_i hq
      exact ⟨hq, h1, h2, h4⟩
    · rename_i hq
      have hlt : q < p := by
        rcases Nat.lt_or_ge q p with h | h
        · exact h
        · obtain rfl : q = p := by omega
          exact absurd hf hq
      refine ih (q + 1) (by omega) hlt (by omega) (fun r hr1 hr2 => ?_)
      rcases Nat.lt_or_ge r q with h | h
      · exact h4 r hr1 h
      · obtain rfl : r = q := by omega
        exact hq
theorem rK_spec {s : Nat → Int} {q : Nat} : ∀ h, Per s h q → Per s (rK s q h) q ∧ rK s q h ≤ h ∧ (rK s q h = 0 ∨ s (rK s q h - 1 + q) ≠ s (rK s q h - 1)) := by
  intro h
  induction h with
  | zero => intro hp; exact ⟨hp, Nat.le_refl _, .inl rfl⟩
  | succ h ih =>
    intro hp
    unfold rK
    split
    · rename_i he
      obtain ⟨a, b, c⟩ := ih (fun i hi => by
        rcases Nat.lt_or_ge h i with h2 | h2
        · exact hp i h2
        · obtain rfl : i = h := by omega
          exact he.symm)
      exact ⟨a, by omega, c⟩
    · rename_i he
      exact ⟨hp, Nat.le_refl _, .inr (fun e => he (by rw [Nat.add_sub_cancel] at e; exact e.symm))⟩
theorem rCanon {s : Nat → Int} {h p : Nat} (hp : 1 ≤ p) (per : Per s h p) : Canon s (rK s (rQ s h p p 1) h) (rQ s h p p 1) := by
  obtain ⟨a, b, c, d⟩ := rQ_spec (rFit_p per hp) p 1 (Nat.le_refl _) hp (by omega) (fun r h1 h2 => by omega)
  generalize rQ s h p p 1 = Q at *
  obtain ⟨hd, hq⟩ := (rFit_iff per b c).1 a
  obtain ⟨k1, k2, k3⟩ := rK_spec h hq
  refine ⟨b, k1, least_of_div per hp (fun q h1 h2 h3 => ?_), k3⟩
  rcases Nat.lt_or_ge q Q with hlt | hge
  · exact absurd ((rFit_iff per h1 (Nat.le_of_dvd hp h2)).2 ⟨h2, h3⟩) (d q h1 hlt)
  · exact hge
/-- What is made of a stream's numbers: of its canonical form. -/
theorem out_canon {s : Nat → Int} {h p K P : Nat} (hp : 1 ≤ p) (per : Per s h p) (c : Canon s K P) : outT (tab s h) (tab (fun i => s (h + i)) p) = if K ≤ 4096 ∧ P ≤ 4096 then (tab s K, tab (fun i => s (K + i)) P, 0) else ([], [], 4) := by
  have hl : 0 < (tab (fun i => s (h + i)) p).length := by rw [tab_length]; omega
  have hn : Go.Proofs.Ytpcnapmlmhhcpaa.num (tab s h) (tab (fun i => s (h + i)) p) = s := by funext n; exact tab_num hp per n
  have w := short_is (h := tab s h) hl
  rw [hn] at w
  obtain ⟨e1, e2⟩ := w.unique ⟨K, P, c, rfl, rfl⟩
  have e3 : lp (tab (fun i => s (h + i)) p) = P := by rw [← sLoop_length (h := tab s h) hl, e2, tab_length]
  unfold outT outH outL outE fits
  rw [e1, e2, e3, tab_length]
  by_cases h1 : K ≤ 4096
  · by_cases h2 : P ≤ 4096
    · rw [decide_eq_true h1, decide_eq_true h2, if_pos (show K ≤ 4096 ∧ P ≤ 4096 from ⟨h1, h2⟩)]; rfl
    · rw [decide_eq_false h2, Bool.and_false, if_neg (show ¬ (K ≤ 4096 ∧ P ≤ 4096) from fun h => h2 h.2)]; rfl
  · rw [decide_eq_false h1, Bool.false_and, if_neg (show ¬ (K ≤ 4096 ∧ P ≤ 4096) from fun h => h1 h.1)]; rfl
theorem ref_out {s : Nat → Int} {h p : Nat} (hp : 1 ≤ p) (per : Per s h p) : outT (tab s h) (tab (fun i => s (h + i)) p) = if rK s (rQ s h p p 1) h ≤ 4096 ∧ rQ s h p p 1 ≤ 4096 then (tab s (rK s (rQ s h p p 1) h), tab (fun i => s (rK s (rQ s h p p 1) h + i)) (rQ s h p p 1), 0) else ([], [], 4) := out_canon hp per (rCanon hp per)
/-- The stream's words. -/
def outS (s : Nat → Int) (h p : Nat) : List Int × List Int × Int := outT (tab s h) (tab (fun i => s (h + i)) p)
theorem norm_outS {h l : List Int} (hm : may h l = true) : outS (Go.Proofs.Ytpcnapmlmhhcpaa.num h l) h.length l.length = (nH h l, nL h l, nE h l) := by
  unfold outS
  rw [tab_head, tab_loop]
  obtain ⟨a, b, c⟩ := may_norm hm
  unfold outT
  unfold nH nL nE
  rw [if_pos hm, if_pos hm, if_pos hm]
theorem cons_outS (v : Int) (h l : List Int) : outS (Go.Proofs.Ytpcnapmlmhhcpaa.num (v :: h) l) (h.length + 1) l.length = outT (v :: h) l := by
  unfold outS
  have e := tab_head (v :: h) l
  have e2 := tab_loop (v :: h) l
  rw [List.length_cons] at e e2
  rw [e, e2]
theorem drop_outS (h l : List Int) (k : Nat) : outS (fun i => Go.Proofs.Ytpcnapmlmhhcpaa.num h l (i + dropK h.length l.length k)) (h.length - k) l.length = dropT h l k := by
  unfold outS dropT
  rw [show h.length - dropK h.length l.length k = h.length - k by unfold dropK; split <;> omega]
theorem down_outS (h l : List Int) (k : Nat) : outS (fun i => Go.Proofs.Ytpcnapmlmhhcpaa.num h l (i * k)) ((h.length + k - 1) / k) l.length = downT h l k := rfl
theorem drop_per (h l : List Int) (k : Nat) : Per (fun i => Go.Proofs.Ytpcnapmlmhhcpaa.num h l (i + dropK h.length l.length k)) (h.length - k) l.length := by
  intro i hi
  have := num_per' (h := h) (l := l) (i + dropK h.length l.length k) (by unfold dropK; split <;> omega)
  show Go.Proofs.Ytpcnapmlmhhcpaa.num h l (i + l.length + dropK h.length l.length k) = Go.Proofs.Ytpcnapmlmhhcpaa.num h l (i + dropK h.length l.length k)
  rw [← this]
  congr 1
  omega
theorem down_per (h l : List Int) {k : Nat} (hk : 0 < k) : Per (fun i => Go.Proofs.Ytpcnapmlmhhcpaa.num h l (i * k)) ((h.length + k - 1) / k) l.length := by
  intro i hi
  have hge : h.length ≤ i * k := by
    have h1 : (h.length + k - 1) / k < i + 1 := by omega
    rw [Nat.div_lt_iff_lt_mul hk, Nat.succ_mul] at h1
    omega
  show Go.Proofs.Ytpcnapmlmhhcpaa.num h l ((i + l.length) * k) = Go.Proofs.Ytpcnapmlmhhcpaa.num h l (i * k)
  rw [Nat.add_mul, Nat.mul_comm l.length k]
  exact num_per'.mul k (i * k) hge
/-- Told k times as often: the canonical form. -/
theorem up_canon {s : Nat → Int} {K P k : Nat} (c : Canon s K P) (hk : 0 < k) : Canon (fun i => s (i / k)) (K * k) (if P = 1 then 1 else P * k) := by
  have hper : ∀ d, 1 ≤ d → Per s K d → Per (fun i => s (i / k)) (K * k) (d * k) := by
    intro d _ hd i hi
    show s ((i + d * k) / k) = s (i / k)
    rw [Nat.add_mul_div_right _ _ hk]
    exact hd (i / k) ((Nat.le_div_iff_mul_le hk).2 hi)
  have hmul : ∀ j r, r < k → (j * k + r) / k = j := fun j r hr => by rw [Nat.mul_comm, Nat.mul_add_div hk, Nat.div_eq_of_lt hr, Nat.add_zero]
  have hhead : ∀ q, 1 ≤ q → (K = 0 ∨ s ((K * k - 1 + q) / k) ≠ s ((K * k - 1) / k)) → (K * k = 0 ∨ (fun i => s (i / k)) (K * k - 1 + q) ≠ (fun i => s (i / k)) (K * k - 1)) := by
    intro q _ h
    rcases h with h | h
    · exact .inl (by rw [h, Nat.zero_mul])
    · exact .inr h
  have hK1 : K ≠ 0 → (K * k - 1) / k = K - 1 := by
    intro h0
    have h1 : K * k = (K - 1) * k + k := by rw [← Nat.succ_mul]; congr 1; omega
    rw [show K * k - 1 = (K - 1) * k + (k - 1) by omega]
    exact hmul _ _ (by omega)
  by_cases h1 : P = 1
  · subst h1
    rw [if_pos rfl]
    refine ⟨Nat.le_refl _, ?_, fun _ _ h _ => h, hhead 1 (Nat.le_refl _) ?_⟩
    · intro i hi
      show s ((i + 1) / k) = s (i / k)
      have hconst : ∀ j, K ≤ j → s j = s K := by
        intro j hj
        have := (c.per.mul (j - K)) K (Nat.le_refl _)
        rw [show K + (j - K) * 1 = j by omega] at this
        exact this
      have g1 : K ≤ i / k := (Nat.le_div_iff_mul_le hk).2 hi
      have g2 : K ≤ (i + 1) / k := Nat.le_trans g1 (Nat.div_le_div_right (by omega))
      rw [hconst _ g1, hconst _ g2]
    · rcases c.head with h | h
      · exact .inl h
      · by_cases h0 : K = 0
        · exact .inl h0
        · have h2 : K * k ≠ 0 := Nat.mul_ne_zero h0 (by omega)
          rw [show K * k - 1 + 1 = K * k + 0 by omega, hmul K 0 hk, hK1 h0]
          rw [show K - 1 + 1 = K by omega] at h
          exact .inr h
  · rw [if_neg h1]
    have hpos := c.pos
    refine ⟨Nat.mul_pos hpos hk, hper P hpos c.per, ?_, hhead (P * k) (Nat.mul_pos hpos hk) ?_⟩
    · apply least_of_div (hper P hpos c.per) (Nat.mul_pos hpos hk)
      intro q hq hd hp
      -- q is a whole number of k's
      have hmodlt : q % k < k := Nat.mod_lt _ hk
      have hqe := Nat.div_add_mod q k
      by_cases hr : q % k = 0
      · have hpq : Per s K (q / k) := by
          intro j hj
          have := hp (j * k) (Nat.mul_le_mul_right k hj)
          simp only at this
          rw [show j * k + q = (j + q / k) * k + 0 by rw [Nat.add_mul, Nat.mul_comm (q / k)]; omega, hmul _ _ hk, show j * k = j * k + 0 from rfl, hmul _ _ hk] at this
          exact this
        have hq1 : 1 ≤ q / k := by
          rcases Nat.eq_zero_or_pos (q / k) with h | h
          · rw [h] at hqe; omega
          · exact h
        have hP := c.least K (q / k) hq1 hpq
        have : P * k ≤ q / k * k := Nat.mul_le_mul_right k hP
        rw [Nat.mul_comm (q / k)] at this
        omega
      · -- else the stream stays: its loop is 1
        exfalso
        have hstep : ∀ j, K ≤ j → s (j + q / k + 1) = s (j + q / k) := by
          intro j hj
          have a1 := hp (j * k + 0) (by have := Nat.mul_le_mul_right k hj; omega)
          have a2 := hp (j * k + (k - q % k)) (by have := Nat.mul_le_mul_right k hj; omega)
          simp only at a1 a2
          rw [hmul _ _ hk, show j * k + 0 + q = (j + q / k) * k + q % k by rw [Nat.add_mul, Nat.mul_comm (q / k)]; omega, hmul _ _ hmodlt] at a1
          rw [hmul _ _ (by omega), show j * k + (k - q % k) + q = (j + q / k + 1) * k + 0 by rw [Nat.add_mul, Nat.add_mul, Nat.mul_comm (q / k)]; omega, hmul _ _ hk] at a2
          rw [a1, a2]
        have h1p : Per s (K + q / k) 1 := by
          intro i hi
          have := hstep (i - q / k) (by omega)
          rw [show i - q / k + q / k = i by omega] at this
          exact this
        have := c.least _ 1 (Nat.le_refl _) h1p
        omega
    · rcases c.head with h | h
      · exact .inl h
      · by_cases h0 : K = 0
        · exact .inl h0
        · have h2 : K * k ≠ 0 := Nat.mul_ne_zero h0 (by omega)
          have h3 : K * k = (K - 1) * k + k := by rw [← Nat.succ_mul]; congr 1; omega
          rw [show K * k - 1 + P * k = (K - 1 + P) * k + (k - 1) by rw [Nat.add_mul]; omega, hmul _ _ (by omega), hK1 h0]
          exact .inr h
theorem up_per {h l : List Int} {k : Nat} (hk : 0 < k) : Per (fun i => Go.Proofs.Ytpcnapmlmhhcpaa.num h l (i / k)) (h.length * k) (l.length * k) := by
  intro i hi
  show Go.Proofs.Ytpcnapmlmhhcpaa.num h l ((i + l.length * k) / k) = Go.Proofs.Ytpcnapmlmhhcpaa.num h l (i / k)
  rw [Nat.add_mul_div_right _ _ hk]
  exact num_per' (i / k) ((Nat.le_div_iff_mul_le hk).2 hi)
theorem up_one {H L : List Int} {k : Nat} (h : H.length = 0 ∧ L.length = 1) : upOut H L k = (H, L, 0) := by unfold upOut; rw [if_pos h]
theorem up_long {H L : List Int} {k : Nat} (h : ¬ (H.length = 0 ∧ L.length = 1)) (hl : 4096 < k ∨ 1048576 < H.length * k + 2 * (L.length * k)) : upOut H L k = ([], [], 4) := by
  unfold upOut
  rw [if_neg h, if_pos]
  rcases hl with hl | hl
  · exact .inl hl
  · by_cases hk : 4096 < k
    · exact .inl hk
    · by_cases h1 : 4096 < H.length * k
      · exact .inr (.inl h1)
      · refine .inr (.inr ?_)
        by_cases h2 : 1 < L.length
        · exact ⟨h2, by omega⟩
        · exfalso
          have : L.length * k ≤ 1 * k := Nat.mul_le_mul_right k (by omega)
          omega
/-- Where the program tells that it is too long at once, the reference tells it of what it made. -/
theorem up_outS {s : Nat → Int} {H L : List Int} (w : IsW s H L) {k : Nat} (hk : 0 < k) (h : ¬ (H.length = 0 ∧ L.length = 1)) (hk2 : k ≤ 4096) : outS (fun i => Go.Proofs.Ytpcnapmlmhhcpaa.num H L (i / k)) (H.length * k) (L.length * k) = upOut H L k := by
  have hper := up_per (h := H) (l := L) hk
  unfold upOut
  rw [if_neg h]
  by_cases hbig : 4096 < k ∨ 4096 < H.length * k ∨ (1 < L.length ∧ 4096 < L.length * k)
  · rw [if_pos hbig]
    obtain ⟨K, P, c, rfl, rfl⟩ := id w
    rw [w.num] at hper ⊢
    rw [tab_length, tab_length] at *
    unfold outS
    rw [out_canon (Nat.mul_pos c.pos hk) hper (up_canon c hk), if_neg]
    rintro ⟨g1, g2⟩
    rcases hbig with hb | hb | hb
    · omega
    · omega
    · rw [if_neg (by omega)] at g2; omega
  · rw [if_neg hbig]; rfl
/-- The reference's test, up to a place. -/
def rF (s : Nat → Int) (h p q i : Nat) : Bool := decide (p % q = 0) && (List.range (i - h)).all fun j => decide (s (h + j) = s (h + j + q))
theorem rF_start (s : Nat → Int) (h p q : Nat) : rF s h p q h = decide (p % q = 0) := by
  unfold rF; rw [Nat.sub_self]; simp
theorem rF_succ (s : Nat → Int) {h p q i : Nat} (hi : h ≤ i) : rF s h p q (i + 1) = (rF s h p q i && decide (s i = s (i + q))) := by
  unfold rF
  rw [show i + 1 - h = (i - h) + 1 by omega, List.range_succ, List.all_append]
  simp [Bool.and_assoc, show h + (i - h) = i by omega]
theorem rF_end (s : Nat → Int) {h p q i : Nat} (hi : i + q = h + 2 * p) : rF s h p q i = rFit s h p q := by
  unfold rF rFit; rw [show i - h = 2 * p - q by omega]
theorem rF_false {s : Nat → Int} {h p q i : Nat} (hi : i + q ≤ h + 2 * p) (hf : rF s h p q i = false) : rFit s h p q = false := by
  cases hc : rFit s h p q
  · rfl
  · unfold rFit at hc
    unfold rF at hf
    simp only [Bool.and_eq_true, decide_eq_true_eq, List.all_eq_true, List.mem_range] at hc
    rw [decide_eq_true hc.1, Bool.true_and] at hf
    have : ((List.range (i - h)).all fun j => decide (s (h + j) = s (h + j + q))) = true := by
      rw [List.all_eq_true]
      intro j hj
      rw [List.mem_range] at hj
      exact decide_eq_true (hc.2 j (by omega))
    rw [this] at hf
    cases hf
theorem sub_mod (A p q : Nat) (hq : 0 < q) (h : p ≤ A) : (A % q + q - p % q) % q = (A - p) % q := by
  have h1 := Nat.div_add_mod A q
  have h2 := Nat.div_add_mod p q
  have h3 := Nat.mod_lt p hq
  have h4 : p / q ≤ A / q := Nat.div_le_div_right h
  obtain ⟨c, hc⟩ : ∃ c, A / q = p / q + c := ⟨A / q - p / q, by omega⟩
  have h5 : q * (A / q) = q * (p / q) + q * c := by rw [hc, Nat.mul_add]
  rw [← Nat.add_mul_mod_self_left (A % q + q - p % q) q c, ← Nat.add_mul_mod_self_left (A - p) q 1]
  congr 1
  omega
/-- The reference's place, made less. -/
theorem down_at {h l : List Int} {i k : Nat} (hl : 0 < l.length) (hA : h.length < i * k) : Go.Proofs.Ytpcnapmlmhhcpaa.num h l (h.length + (i % l.length * (k % l.length) % l.length + l.length - h.length % l.length) % l.length) = Go.Proofs.Ytpcnapmlmhhcpaa.num h l (i * k) := by
  unfold Go.Proofs.Ytpcnapmlmhhcpaa.num
  rw [if_neg (by omega), if_neg (by omega), Nat.add_sub_cancel_left, Nat.mod_mod, ← Nat.mul_mod, sub_mod _ _ _ hl (by omega)]
theorem zip_small {H L H' L' : List Int} (h1 : 0 < L.length) (h2 : 0 < L'.length) {k : Nat} (hk : max H.length H'.length + Nat.lcm L.length L'.length ≤ k) :
    ∃ j, j < max H.length H'.length + Nat.lcm L.length L'.length ∧ Go.Proofs.Ytpcnapmlmhhcpaa.num H L k = Go.Proofs.Ytpcnapmlmhhcpaa.num H L j ∧ Go.Proofs.Ytpcnapmlmhhcpaa.num H' L' k = Go.Proofs.Ytpcnapmlmhhcpaa.num H' L' j := by
  have hp := Nat.lcm_pos h1 h2
  refine ⟨max H.length H'.length + (k - max H.length H'.length) % Nat.lcm L.length L'.length, by have := Nat.mod_lt (k - max H.length H'.length) hp; omega, ?_⟩
  have hm := Nat.mod_add_div (k - max H.length H'.length) (Nat.lcm L.length L'.length)
  have hc : (k - max H.length H'.length) / Nat.lcm L.length L'.length * Nat.lcm L.length L'.length = Nat.lcm L.length L'.length * ((k - max H.length H'.length) / Nat.lcm L.length L'.length) := Nat.mul_comm _ _
  have a := ((num_per' (h := H) (l := L)).dvd (Nat.dvd_lcm_left _ L'.length)).mul ((k - max H.length H'.length) / Nat.lcm L.length L'.length) (max H.length H'.length + (k - max H.length H'.length) % Nat.lcm L.length L'.length) (by omega)
  have b := ((num_per' (h := H') (l := L')).dvd (Nat.dvd_lcm_right L.length _)).mul ((k - max H.length H'.length) / Nat.lcm L.length L'.length) (max H.length H'.length + (k - max H.length H'.length) % Nat.lcm L.length L'.length) (by omega)
  rw [show max H.length H'.length + (k - max H.length H'.length) % Nat.lcm L.length L'.length + (k - max H.length H'.length) / Nat.lcm L.length L'.length * Nat.lcm L.length L'.length = k by omega] at a b
  exact ⟨a, b⟩
theorem zip_outS {op : Nat} {H L H' L' : List Int} (hs : ¬ 65536 < max H.length H'.length + Nat.lcm L.length L'.length) (hok : zOk op H L H' L' (max H.length H'.length + Nat.lcm L.length L'.length) = true) :
    outS (zS op H L H' L') (max H.length H'.length) (Nat.lcm L.length L'.length) = zipOut op H L H' L' := by
  unfold zipOut
  rw [if_neg hs, if_pos hok]
  rfl
theorem zip_over {op : Nat} {H L H' L' : List Int} {k : Nat} (h1 : 0 < L.length) (h2 : 0 < L'.length) (hs : ¬ 65536 < max H.length H'.length + Nat.lcm L.length L'.length) (hk : zB op (Go.Proofs.Ytpcnapmlmhhcpaa.num H L k) (Go.Proofs.Ytpcnapmlmhhcpaa.num H' L' k) = false) : zipOut op H L H' L' = ([], [], 7) := by
  obtain ⟨j, hj, hb⟩ : ∃ j, j < max H.length H'.length + Nat.lcm L.length L'.length ∧ zB op (Go.Proofs.Ytpcnapmlmhhcpaa.num H L j) (Go.Proofs.Ytpcnapmlmhhcpaa.num H' L' j) = false := by
    rcases Nat.lt_or_ge k (max H.length H'.length + Nat.lcm L.length L'.length) with h | h
    · exact ⟨k, h, hk⟩
    · obtain ⟨j, hj, e1, e2⟩ := zip_small h1 h2 h
      exact ⟨j, hj, by rw [← e1, ← e2]; exact hk⟩
  unfold zipOut
  rw [if_neg hs, if_neg (by rw [zOk_not hj hb]; decide)]
theorem zip_perS (op : Nat) (H L H' L' : List Int) : Per (zS op H L H' L') (max H.length H'.length) (Nat.lcm L.length L'.length) := (num_per' (h := H) (l := L)).both (num_per' (h := H') (l := L')) (zV op)
theorem nH_len {h l : List Int} (hm : may h l = true) : (nH h l).length ≤ h.length := by
  rw [(may_norm hm).2.1]; unfold sHead; rw [List.length_take]; omega
theorem nL_len {h l : List Int} (hm : may h l = true) : (nL h l).length ≤ l.length := by
  rw [(may_norm hm).2.2, sLoop_length (may_len hm).1]; exact lp_le l
end Go.Proofs.Ytpcnapmlmhhcpaa
