/-
  A chain's dep: what At and Last answer of it.
  Conditions: each theorem's own.
-/
import Derived.Test.YtdfpoemghnhlfaaPd
import Derived.Test.YtdfpoemghnhlfaaPo
set_option linter.unusedVariables false
set_option linter.unusedSimpArgs false
namespace Go.Proofs.Ytdfpoemghnhlfaa.P
open Go.RowKit Big Go.Proofs.YtdfpoemghnhlfaaW.PrintWords Go.Proofs.YtdfpoemghnhlfaaW.PrintLast Go.Proofs.YtdfpoemghnhlfaaW.PrintMore

theorem gi_bound (t : List S48) (hm : ∀ x ∈ t, mayK x = true) : ∀ a n, 0 ≤ a → gi t a = .at n → 0 ≤ n ∧ n ≤ (a + t.length) * pk 5 t := by
  induction t with
  | nil => intro a n h e; cases e; simp [pk]; exact h
  | cons x t ih =>
    intro a n ha e
    have hm' : ∀ y ∈ t, mayK y = true := fun y hy => hm y (List.mem_cons_of_mem _ hy)
    have ih := ih hm'
    have hx := may_k (hm x (List.mem_cons_self ..))
    have hp := pk_pos 5 (Or.inr rfl) t hm'
    have hlen : (((x :: t).length : Nat) : Int) = t.length + 1 := by simp
    rw [hlen]
    have mono : ∀ b : Int, b ≤ a + 1 → pk 5 (x :: t) = pk 5 t → 0 ≤ n ∧ n ≤ (b + t.length) * pk 5 t → 0 ≤ n ∧ n ≤ (a + (t.length + 1)) * pk 5 (x :: t) := by
      intro b h e h2
      rw [e]
      have : (b + t.length) * pk 5 t ≤ (a + (t.length + 1)) * pk 5 t := Int.mul_le_mul_of_nonneg_right (by omega) (by omega)
      omega
    rw [gi] at e
    by_cases h4 : x.f0 = 4
    · rw [if_pos h4] at e
      have := ediv_in (b := x.f1) ha (hx.1 h4)
      exact mono _ (by omega) (by rw [pk, if_neg (by omega)]) (ih _ _ this.1 e)
    rw [if_neg h4] at e
    by_cases h5 : x.f0 = 5
    · have h1 := hx.2 h5
      rw [if_pos h5] at e
      have h0 : 0 ≤ a * x.f1 := Int.mul_nonneg ha (by omega)
      have b := ih _ _ h0 e
      rw [pk, if_pos h5, ← Int.mul_assoc]
      have e1 : (a * x.f1 + t.length) ≤ (a + (t.length + 1)) * x.f1 := by
        rw [Int.add_mul]
        have : ((t.length : Int) + 1) * 1 ≤ (t.length + 1) * x.f1 := Int.mul_le_mul_of_nonneg_left h1 (by omega)
        omega
      have e2 : (a * x.f1 + t.length) * pk 5 t ≤ (a + (t.length + 1)) * x.f1 * pk 5 t := Int.mul_le_mul_of_nonneg_right e1 (by omega)
      omega
    rw [if_neg h5] at e
    have hpk : pk 5 (x :: t) = pk 5 t := by rw [pk, if_neg h5]
    by_cases h12 : x.f0 = 1 ∨ x.f0 = 2
    · rw [if_pos h12] at e
      by_cases hz : a = 0
      · rw [if_pos hz] at e; cases e
      · rw [if_neg hz] at e
        exact mono _ (by omega) hpk (ih _ _ (by omega) e)
    rw [if_neg h12] at e
    by_cases h3 : x.f0 = 3
    · rw [if_pos h3] at e
      exact mono _ (by omega) hpk (ih _ _ (by omega) e)
    rw [if_neg h3] at e
    exact mono _ (by omega) hpk (ih _ _ ha e)
/-- A chain whose dep is told: from its T-th value on nothing is told. -/
structure Chain (l : List S48) (T : Nat) : Prop extends Fits l where
  hT : T ≤ 4096
  ut : (goOf l.reverse (T : Int)).1 = false
  td : ∀ a < T, (goOf l.reverse (a : Int)).1 = true
namespace Chain
variable {l : List S48} {T : Nat}
theorem hmr (c : Chain l T) : ∀ x ∈ l.reverse, mayK x = true := fun x hx => c.hm x (List.mem_reverse.1 hx)
theorem told (c : Chain l T) (k : Nat) (hk : k < T) : ∃ v, gi l.reverse (k : Int) = .told v := by
  have h := c.td k hk
  have hT := c.hT
  rw [c.toFits.ideal _ (by omega) (by omega)] at h
  cases e : gi l.reverse (k : Int) with
  | told v => exact ⟨v, rfl⟩
  | «at» n => rw [e] at h; cases h
theorem ats (c : Chain l T) (k : Int) (hk : (T : Int) ≤ k) : ∃ n, gi l.reverse k = .at n := by
  have h := c.ut
  have hT := c.hT
  rw [c.toFits.ideal _ (by omega) (by omega)] at h
  cases e : gi l.reverse (T : Int) with
  | told v => rw [e] at h; cases h
  | «at» n =>
    obtain ⟨m, e2, _⟩ := gi_mono _ c.hmr (T : Int) k n (by omega) hk e
    exact ⟨m, e2⟩
theorem ge (c : Chain l T) (k n : Int) (h0 : 0 ≤ k) (h : gi l.reverse k = .at n) : (T : Int) ≤ k := by
  by_cases hk : (T : Int) ≤ k
  · exact hk
  · obtain ⟨v, e⟩ := c.told k.toNat (by omega)
    rw [Int.toNat_of_nonneg h0, h] at e
    cases e
theorem p4 (c : Chain l T) : 1 ≤ pk 4 l := pk_pos 4 (Or.inl rfl) l c.hm
theorem p5 (c : Chain l T) : 1 ≤ pk 5 l := pk_pos 5 (Or.inr rfl) l c.hm
theorem lin (c : Chain l T) (j q n : Int) (hj : 0 ≤ j) (hq : 0 ≤ q) (h : gi l.reverse j = .at n) : gi l.reverse (j + pk 4 l * q) = .at (n + pk 5 l * q) := by
  have := gi_lin l.reverse c.hmr j n q hj hq h
  rwa [pk_reverse, pk_reverse] at this
theorem bound (c : Chain l T) (k n : Int) (h0 : 0 ≤ k) (h : gi l.reverse k = .at n) : 0 ≤ n ∧ n ≤ (k + l.length) * pk 5 l := by
  have := gi_bound l.reverse c.hmr k n h0 h
  rwa [pk_reverse, List.length_reverse] at this
theorem ideal (c : Chain l T) (k : Int) (h0 : 0 ≤ k) (hb : (k + l.length) * pk 5 l ≤ 9223372036854775807) : goOf l.reverse k = (gi l.reverse k).out :=
  goOf_gi _ c.hmr k h0 (by rw [List.length_reverse, pk_reverse]; exact hb)
theorem rd_tab (R : List S48) (i n j : Nat) (hj : j < n) : rd_T26 (tab R i n) (j : Int) = srcAt R (i + j) := by
  unfold rd_T26 tab; simp [hj]
theorem src_told (c : Chain l T) (k : Nat) (hk : k < T) : ∃ v, srcAt l.reverse k = ⟨true, v, 0⟩ ∧ gi l.reverse (k : Int) = .told v := by
  obtain ⟨v, e⟩ := c.told k hk
  have hT := c.hT
  refine ⟨v, ?_, e⟩
  unfold srcAt
  rw [c.toFits.ideal _ (by omega) (by omega), e]
  rfl
theorem src_at (c : Chain l T) (k : Nat) (hk : T ≤ k) (hk2 : k ≤ 100000) : ∃ n, srcAt l.reverse k = ⟨false, 0, n⟩ ∧ gi l.reverse (k : Int) = .at n := by
  obtain ⟨n, e⟩ := c.ats k (by omega)
  refine ⟨n, ?_, e⟩
  unfold srcAt
  rw [c.toFits.ideal _ (by omega) (by omega), e]
  rfl
theorem srcs_tab (c : Chain l T) (k : Nat) (hk : k < T + (pk 4 l).toNat) : srcs (tab l.reverse 0 T) (tab l.reverse T (pk 4 l).toNat) k = (k, srcAt l.reverse k) := by
  by_cases h : k < T
  · rw [srcs_head _ _ _ (by rw [tab_len]; exact h), rd_tab _ _ _ _ h, Nat.zero_add]
  · obtain ⟨j, rfl⟩ : ∃ j, k = T + j := ⟨k - T, by omega⟩
    have e := srcs_loop (tab l.reverse 0 T) (tab l.reverse T (pk 4 l).toNat) j
    rw [tab_len] at e
    rw [e, rd_tab _ _ _ _ (by omega)]
theorem mayD_tab (c : Chain l T) : mayD (tab l.reverse 0 T) (tab l.reverse T (pk 4 l).toNat) (pk 5 l) = true := by
  have h4 := c.p4
  have h5 := c.p5
  have hd := c.hd
  have hu := c.hu
  have hT := c.hT
  have hl := c.hl
  unfold mayD
  rw [tab_len, tab_len, decide_eq_true (by omega), decide_eq_true (by omega), decide_eq_true hT, decide_eq_true (by omega), decide_eq_true (by omega)]
  simp only [Bool.true_and]
  unfold allMay upto
  rw [List.all_eq_true]
  intro x hx
  obtain ⟨k, hk, rfl⟩ := List.mem_map.1 hx
  have hk := List.mem_range.1 hk
  rw [c.srcs_tab k hk]
  unfold mayS
  by_cases h : k < T
  · obtain ⟨v, e, _⟩ := c.src_told k h
    rw [e]
    simp
    omega
  · obtain ⟨n, e, e2⟩ := c.src_at k (by omega) (by omega)
    obtain ⟨b1, b2⟩ := c.bound k n (by omega) e2
    have b3 : ((k : Int) + l.length) * pk 5 l ≤ 20000 * 1073741824 := Int.mul_le_mul (by omega) hu (by omega) (by omega)
    rw [e]
    simp
    omega
theorem atD_gi (c : Chain l T) (n : Int) (h0 : 0 ≤ n) (hb : (n + l.length) * pk 5 l ≤ 9223372036854775807) : atD (tab l.reverse 0 T) (tab l.reverse T (pk 4 l).toNat) (pk 5 l) n = (gi l.reverse n).out := by
  have h4 := c.p4
  have h5 := c.p5
  have hd := c.hd
  unfold atD
  rw [if_pos ⟨c.mayD_tab, h0⟩, tab_len, tab_len]
  by_cases hn : n < (T : Int)
  · rw [if_pos hn]
    obtain ⟨k, rfl⟩ : ∃ k : Nat, n = (k : Int) := ⟨n.toNat, (Int.toNat_of_nonneg h0).symm⟩
    obtain ⟨v, e, e2⟩ := c.src_told k (by omega)
    rw [rd_tab _ _ _ _ (by omega), Nat.zero_add, e, e2]
    rfl
  · rw [if_neg hn]
    have eD : (((pk 4 l).toNat : Nat) : Int) = pk 4 l := Int.toNat_of_nonneg (by omega)
    rw [eD]
    have b1 := Int.emod_nonneg (n - (T : Int)) (show pk 4 l ≠ 0 by omega)
    have b2 := Int.emod_lt_of_pos (n - (T : Int)) (show 0 < pk 4 l by omega)
    have b3 := ediv_in (a := n - (T : Int)) (b := pk 4 l) (by omega) (by omega)
    have b4 := Int.mul_ediv_add_emod (n - (T : Int)) (pk 4 l)
    generalize (n - (T : Int)) / pk 4 l = q at *
    generalize (n - (T : Int)) % pk 4 l = r at *
    obtain ⟨j, rfl⟩ : ∃ j : Nat, r = (j : Int) := ⟨r.toNat, (Int.toNat_of_nonneg b1).symm⟩
    have hT := c.hT
    obtain ⟨p, e, e2⟩ := c.src_at (T + j) (by omega) (by omega)
    have e3 := c.lin _ q p (by omega) b3.1 e2
    rw [show ((T + j : Nat) : Int) + pk 4 l * q = n from by omega] at e3
    obtain ⟨_, c2⟩ := c.bound n _ h0 e3
    obtain ⟨c3, _⟩ := c.bound _ p (by omega) e2
    have c4 : 0 ≤ pk 5 l * q := Int.mul_nonneg (by omega) b3.1
    rw [rd_tab _ _ _ _ (by omega), e, e3]
    rw [if_pos ⟨by unfold fitB; exact decide_eq_true (by omega), by unfold fitB; exact decide_eq_true (by simp only; omega)⟩]
    rfl
/-- What Last finds: the last place that reads p. -/
def Found (l : List S48) (T : Nat) (p : Int) (K : Nat) (acc : Int × Bool) : Prop :=
  (acc.2 = true → gi l.reverse acc.1 = .at p ∧ 0 ≤ acc.1 ∧ acc.1 ≤ K + p / pk 5 l * pk 4 l) ∧
  ∀ (j : Nat) (q : Int), T ≤ j → j < K → 0 ≤ q → gi l.reverse ((j : Int) + pk 4 l * q) = .at p → acc.2 = true ∧ (j : Int) + pk 4 l * q ≤ acc.1
theorem found (c : Chain l T) (p : Int) (hp : 0 ≤ p) : ∀ K, K ≤ T + (pk 4 l).toNat → Found l T p K (lastF T (pk 4 l).toNat (pk 5 l) p (upto (srcs (tab l.reverse 0 T) (tab l.reverse T (pk 4 l).toNat)) K)) := by
  have h4 := c.p4
  have h5 := c.p5
  have hd := c.hd
  have hT := c.hT
  have eD : (((pk 4 l).toNat : Nat) : Int) = pk 4 l := Int.toNat_of_nonneg (by omega)
  intro K
  induction K with
  | zero => exact fun _ => ⟨fun h => (by cases h), fun j q h1 h2 => absurd h2 (by omega)⟩
  | succ K ih =>
    intro hK
    have ih := ih (by omega)
    rw [upto_succ, lastF_snoc, c.srcs_tab K (by omega)]
    generalize lastF T (pk 4 l).toNat (pk 5 l) p (upto (srcs (tab l.reverse 0 T) (tab l.reverse T (pk 4 l).toNat)) K) = acc at *
    obtain ⟨i1, i2⟩ := ih
    have keep : (acc.2 = true → gi l.reverse acc.1 = .at p ∧ 0 ≤ acc.1 ∧ acc.1 ≤ ((K + 1 : Nat) : Int) + p / pk 5 l * pk 4 l) := fun h => ⟨(i1 h).1, (i1 h).2.1, by have := (i1 h).2.2; omega⟩
    by_cases hlt : K < T
    · obtain ⟨v, e, _⟩ := c.src_told K hlt
      have : lastStep T (pk 4 l).toNat (pk 5 l) p acc (K, srcAt l.reverse K) = acc := by
        unfold lastStep
        rw [if_pos (by rw [e])]
      rw [this]
      exact ⟨keep, fun j q h1 h2 => absurd h2 (by omega)⟩
    · obtain ⟨n, e, e2⟩ := c.src_at K (by omega) (by omega)
      have same : ∀ q, 0 ≤ q → gi l.reverse ((K : Int) + pk 4 l * q) = .at p → p - n = pk 5 l * q := by
        intro q hq h
        have := c.lin K q n (by omega) hq e2
        rw [this] at h
        injection h with h
        omega
      have n0 := (c.bound K n (by omega) e2).1
      rw [lastStep_loop acc _ (by simp only; omega) (by simp only [e])]
      simp only [e]
      have rest : ∀ acc' : Int × Bool, (∀ j : Nat, ∀ q, T ≤ j → j < K → 0 ≤ q → gi l.reverse ((j : Int) + pk 4 l * q) = .at p → acc'.2 = true ∧ (j : Int) + pk 4 l * q ≤ acc'.1) → (∀ q, 0 ≤ q → gi l.reverse ((K : Int) + pk 4 l * q) = .at p → acc'.2 = true ∧ (K : Int) + pk 4 l * q ≤ acc'.1) →
          ∀ j : Nat, ∀ q, T ≤ j → j < K + 1 → 0 ≤ q → gi l.reverse ((j : Int) + pk 4 l * q) = .at p → acc'.2 = true ∧ (j : Int) + pk 4 l * q ≤ acc'.1 := by
        intro acc' g1 g2 j q t1 t2 t3 t4
        by_cases hj : j = K
        · subst hj; exact g2 q t3 t4
        · exact g1 j q t1 (by omega) t3 t4
      by_cases hneg : p - n < 0
      · rw [if_pos hneg]
        refine ⟨keep, rest acc i2 fun q hq h => ?_⟩
        have s := same q hq h
        have : 0 ≤ pk 5 l * q := Int.mul_nonneg (by omega) hq
        omega
      · rw [if_neg hneg]
        by_cases hmod : (p - n) % pk 5 l = 0
        · rw [if_pos hmod]
          have hq0 := ediv_in (a := p - n) (b := pk 5 l) (by omega) h5
          have hle : (p - n) / pk 5 l ≤ p / pk 5 l := Int.ediv_le_ediv (by omega) (by omega)
          have hmul := Int.mul_ediv_add_emod (p - n) (pk 5 l)
          have hgi := c.lin K ((p - n) / pk 5 l) n (by omega) hq0.1 e2
          rw [show n + pk 5 l * ((p - n) / pk 5 l) = p from by omega] at hgi
          have uniq : ∀ q, 0 ≤ q → gi l.reverse ((K : Int) + pk 4 l * q) = .at p → q = (p - n) / pk 5 l := by
            intro q hq h
            rw [same q hq h, Int.mul_ediv_cancel_left _ (by omega)]
          rw [eD]
          rw [Int.mul_comm ((p - n) / pk 5 l) (pk 4 l)]
          have hm1 : pk 4 l * ((p - n) / pk 5 l) ≤ pk 4 l * (p / pk 5 l) := Int.mul_le_mul_of_nonneg_left hle (by omega)
          have hm0 : 0 ≤ pk 4 l * ((p - n) / pk 5 l) := Int.mul_nonneg (by omega) hq0.1
          rw [Int.mul_comm (p / pk 5 l) (pk 4 l)] at keep
          unfold Found
          rw [Int.mul_comm (p / pk 5 l) (pk 4 l)]
          by_cases hup : acc.2 = false ∨ acc.1 < (K : Int) + pk 4 l * ((p - n) / pk 5 l)
          · rw [if_pos hup]
            refine ⟨fun _ => ⟨hgi, by simp only; omega, by simp only; omega⟩, rest _ (fun j q t1 t2 t3 t4 => ?_) (fun q hq h => ?_)⟩
            · have := i2 j q t1 t2 t3 t4
              refine ⟨rfl, ?_⟩
              rcases hup with hup | hup
              · rw [hup] at this; cases this.1
              · simp only; omega
            · rw [uniq q hq h]
              exact ⟨rfl, Int.le_refl _⟩
          · rw [if_neg hup]
            refine ⟨keep, rest acc i2 fun q hq h => ?_⟩
            rw [uniq q hq h]
            refine ⟨?_, by omega⟩
            cases ha : acc.2
            · exact absurd (Or.inl ha) hup
            · rfl
        · rw [if_neg hmod]
          refine ⟨keep, rest acc i2 fun q hq h => ?_⟩
          rw [same q hq h] at hmod
          exact absurd (Int.mul_emod_right _ _) hmod
/-- Last, of a chain's dep: the last place that reads what the n-th reads. -/
theorem last (c : Chain l T) (n p : Int) (h0 : 0 ≤ n) (h1 : n ≤ 100000) (h : gi l.reverse n = .at p) :
    ∃ m, lastD (tab l.reverse 0 T) (tab l.reverse T (pk 4 l).toNat) (pk 5 l) p = (m, true, 0) ∧ n ≤ m ∧ m ≤ 1000000000 ∧ gi l.reverse m = .at p ∧ ∀ k, 0 ≤ k → gi l.reverse k = .at p → k ≤ m := by
  have h4 := c.p4
  have h5 := c.p5
  have hd := c.hd
  have hu := c.hu
  have hT := c.hT
  have hl := c.hl
  have eD : (((pk 4 l).toNat : Nat) : Int) = pk 4 l := Int.toNat_of_nonneg (by omega)
  obtain ⟨b1, b2⟩ := c.bound n p h0 h
  have b3 : (n + (l.length : Int)) * pk 5 l ≤ 200000 * 1073741824 := Int.mul_le_mul (by omega) hu (by omega) (by omega)
  have b4 : p / pk 5 l ≤ n + (l.length : Int) := Int.ediv_le_of_le_mul (by omega) b2
  have b5 := (ediv_in (a := p) (b := pk 5 l) b1 h5).1
  have b6 : p / pk 5 l * pk 4 l ≤ 200000 * 4096 := Int.mul_le_mul (by omega) hd (by omega) (by omega)
  obtain ⟨f1, f2⟩ := c.found p b1 (T + (pk 4 l).toNat) (Nat.le_refl _)
  have all : ∀ k, 0 ≤ k → gi l.reverse k = .at p → (lastF T (pk 4 l).toNat (pk 5 l) p (upto (srcs (tab l.reverse 0 T) (tab l.reverse T (pk 4 l).toNat)) (T + (pk 4 l).toNat))).2 = true ∧ k ≤ (lastF T (pk 4 l).toNat (pk 5 l) p (upto (srcs (tab l.reverse 0 T) (tab l.reverse T (pk 4 l).toNat)) (T + (pk 4 l).toNat))).1 := by
    intro k hk e
    have hge := c.ge k p hk e
    have c1 := Int.emod_nonneg (k - (T : Int)) (show pk 4 l ≠ 0 by omega)
    have c2 := Int.emod_lt_of_pos (k - (T : Int)) (show 0 < pk 4 l by omega)
    have c3 := ediv_in (a := k - (T : Int)) (b := pk 4 l) (by omega) (by omega)
    have c4 := Int.mul_ediv_add_emod (k - (T : Int)) (pk 4 l)
    have := f2 (T + ((k - (T : Int)) % pk 4 l).toNat) ((k - (T : Int)) / pk 4 l) (by omega) (by omega) c3.1 (by rw [show (((T + ((k - (T : Int)) % pk 4 l).toNat : Nat) : Int)) + pk 4 l * ((k - (T : Int)) / pk 4 l) = k from by omega]; exact e)
    exact ⟨this.1, by omega⟩
  unfold lastD
  rw [if_pos ⟨c.mayD_tab, h5, b1, by omega⟩, tab_len, tab_len]
  generalize lastF T (pk 4 l).toNat (pk 5 l) p (upto (srcs (tab l.reverse 0 T) (tab l.reverse T (pk 4 l).toNat)) (T + (pk 4 l).toNat)) = acc at *
  obtain ⟨a1, a2⟩ := acc
  have hn := all n h0 h
  simp only at hn f1 all
  obtain ⟨rfl, hn⟩ := hn
  obtain ⟨g1, g2, g3⟩ := f1 rfl
  exact ⟨a1, rfl, hn, by omega, g1, fun k hk e => (all k hk e).2⟩
end Chain

end Go.Proofs.Ytdfpoemghnhlfaa.P
