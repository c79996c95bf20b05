/-
  The reference's At and Last, as printed: what the program's answer.
  Conditions: each theorem's own.
-/
import Derived.Test.YtdfpoemghnhlfaaPb
import Derived.Test.YtdfpoemghnhlfaaDj
import Derived.Test.YtdfpoemghnhlfaaPx11
import Derived.Test.YtdfpoemghnhlfaaPx12
set_option linter.unusedVariables false
set_option linter.unusedSimpArgs false
namespace Go.Proofs.Ytdfpoemghnhlfaa.P
open Go.RowKit Big Go.Proofs.YtdfpoemghnhlfaaW.PrintWords Go.Proofs.YtdfpoemghnhlfaaW.PrintLast Go.Proofs.YtdfpoemghnhlfaaW.PrintMore

theorem mayD_parts {h l : List S26} {st : Int} (hm : mayD h l st = true) : 1 ≤ l.length ∧ l.length ≤ 4096 ∧ h.length ≤ 4096 ∧ 0 ≤ st ∧ st ≤ 1099511627776 ∧ allMay h.length (upto (srcs h l) (h.length + l.length)) = true := by
  unfold mayD at hm
  simp only [Bool.and_eq_true, decide_eq_true_eq] at hm
  exact ⟨hm.1, hm.2.1, hm.2.2.1, hm.2.2.2.1, hm.2.2.2.2.1, hm.2.2.2.2.2⟩
theorem may_src {h l : List S26} {st : Int} (hm : mayD h l st = true) (k : Nat) (hk : k < h.length + l.length) : mayS h.length (srcs h l k) = true :=
  srcs_may ⟨by have := (mayD_parts hm).1; omega, (mayD_parts hm).2.2.2.2.2⟩ k hk
theorem mayS_parts {n : Nat} {x : Nat × S26} (h : mayS n x = true) : 0 ≤ x.2.f2 ∧ x.2.f2 ≤ 1125899906842624 ∧ (x.2.f0 = true → x.2.f2 = 0 ∧ x.1 < n) ∧ (x.2.f0 = false → x.2.f1 = 0) := by
  unfold mayS at h
  cases e : x.2.f0 <;> rw [e] at h <;> simp at h
  · exact ⟨by omega, by omega, fun c => (by cases c), fun _ => (by omega)⟩
  · exact ⟨by omega, by omega, fun _ => ⟨by omega, by omega⟩, fun c => (by cases c)⟩
theorem head_may {h l : List S26} {st : Int} (hm : mayD h l st = true) (j : Nat) (hj : j < h.length) : 0 ≤ (rd_T26 h j).f2 ∧ (rd_T26 h j).f2 ≤ 1125899906842624 := by
  have := mayS_parts (may_src hm j (by omega))
  rw [srcs_head h l j hj] at this
  exact ⟨this.1, this.2.1⟩
theorem loop_may {h l : List S26} {st : Int} (hm : mayD h l st = true) (j : Nat) (hj : j < l.length) : 0 ≤ (rd_T26 l j).f2 ∧ (rd_T26 l j).f2 ≤ 1125899906842624 ∧ (rd_T26 l j).f0 = false := by
  have := mayS_parts (may_src hm (h.length + j) (by omega))
  rw [srcs_loop h l j] at this
  refine ⟨this.1, this.2.1, ?_⟩
  cases e : (rd_T26 l j).f0
  · rfl
  · have := (this.2.2.1 e).2
    exact absurd this (by omega)
theorem RAt_f (h l : List S26) (st n : Int) (hm : mayD h l st = true) (h0 : 0 ≤ n) (h1 : n ≤ 9223372036854775807) : carillonref13_At.f h l st n = some (atD h l st n) := by
  obtain ⟨p1, p2, p3, p4, p5, _⟩ := mayD_parts hm
  unfold carillonref13_At.f atD
  rw [if_pos (⟨hm, h0⟩ : _ ∧ _)]
  by_cases hh : n < (h.length : Int)
  · rw [if_pos hh, if_pos hh, if_pos h0]
  · rw [if_neg hh, if_neg hh, if_neg (by omega)]
    have hw : wrap64 (n - (h.length : Int)) = n - (h.length : Int) := wrap_in (by omega) (by omega)
    have e1 : Int.tmod (n - (h.length : Int)) (l.length : Int) = (n - (h.length : Int)) % (l.length : Int) := Int.tmod_eq_emod_of_nonneg (by omega)
    have e2 : Int.tdiv (n - (h.length : Int)) (l.length : Int) = (n - (h.length : Int)) / (l.length : Int) := Int.tdiv_eq_ediv_of_nonneg (by omega)
    have b1 := Int.emod_nonneg (n - (h.length : Int)) (show (l.length : Int) ≠ 0 by omega)
    have b2 := Int.emod_lt_of_pos (n - (h.length : Int)) (show (0 : Int) < l.length by omega)
    have b3 := ediv_in (a := n - (h.length : Int)) (b := (l.length : Int)) (by omega) (by omega)
    rw [hw, e1, e2, wrap_in (v := (n - (h.length : Int)) / (l.length : Int)) (by omega) (by omega), if_pos b1, if_pos b2]
    clear hw e1 e2
    generalize (n - (h.length : Int)) / (l.length : Int) = q at *
    generalize (n - (h.length : Int)) % (l.length : Int) = r at *
    obtain ⟨j, rfl⟩ : ∃ j : Nat, r = (j : Int) := ⟨r.toNat, (Int.toNat_of_nonneg b1).symm⟩
    have hs := loop_may hm j (by omega)
    rw [carillonref01_Mul.f, if_pos ⟨in64_iff.2 ⟨by omega, by omega⟩, in64_iff.2 ⟨by omega, by omega⟩⟩]
    simp only [Option.bind_some]
    by_cases f1 : fitB (st * q) = true
    · obtain ⟨e, g1, g2⟩ := fit_pos f1
      rw [if_pos f1, e, carillonref01_Add.f, if_pos ⟨in64_iff.2 ⟨by omega, by omega⟩, in64_iff.2 ⟨g1, g2⟩⟩]
      simp only [Option.bind_some]
      by_cases f2 : fitB ((rd_T26 l j).f2 + st * q) = true
      · rw [if_pos f2, (fit_pos f2).1, if_pos ⟨f1, f2⟩]
      · rw [if_neg f2, if_neg (fun c => f2 c.2)]
    · rw [if_neg f1, if_neg (fun c => f1 c.1)]
theorem lastStep_head {n0 n1 : Nat} {st m : Int} (acc : Int × Bool) (x : Nat × S26) (hx : x.1 < n0) (hi : acc.2 = true → acc.1 < x.1) : lastStep n0 n1 st m acc x = if x.2.f0 = true then acc else if x.2.f2 = m then ((x.1 : Int), true) else acc := by
  unfold lastStep
  by_cases h0 : x.2.f0 = true
  · rw [if_pos h0, if_pos h0]
  rw [if_neg h0, if_neg h0]
  by_cases h2 : x.2.f2 = m
  · have e : m - x.2.f2 = 0 := by omega
    have hv : ¬ n0 ≤ x.1 := by omega
    simp only [if_neg hv]
    rw [e, if_neg (fun c => c.2 rfl), if_neg (by omega), if_neg (by simp), if_pos h2, if_pos]
    cases ha : acc.2
    · exact .inl rfl
    · exact .inr (hi ha)
  · rw [if_pos ⟨hx, by omega⟩, if_neg h2]
theorem lastStep_loop {n0 n1 : Nat} {st m : Int} (acc : Int × Bool) (x : Nat × S26) (hx : n0 ≤ x.1) (h0 : x.2.f0 = false) : lastStep n0 n1 st m acc x = if m - x.2.f2 < 0 then acc else if (m - x.2.f2) % st = 0 then (if acc.2 = false ∨ acc.1 < (x.1 : Int) + (m - x.2.f2) / st * n1 then ((x.1 : Int) + (m - x.2.f2) / st * n1, true) else acc) else acc := by
  unfold lastStep
  rw [if_neg (by rw [h0]; decide), if_neg (by omega)]
  by_cases h1 : m - x.2.f2 < 0
  · rw [if_pos h1, if_pos h1]
  rw [if_neg h1, if_neg h1]
  by_cases h2 : (m - x.2.f2) % st = 0
  · rw [if_neg (by simpa using h2), if_pos h2, if_pos hx]
  · rw [if_pos h2, if_neg h2]
theorem Rlast_loop (h l : List S26) (st n : Int) (hm : mayD h l st = true) (hs : 1 ≤ st) (h0 : 0 ≤ n) (h1 : n ≤ 1125899906842624) : ∀ (d i k : Nat), i + d = l.length → 2 * d + 1 ≤ k →
    carillonref13_Last.l1 k n (l.length : Int) (h.length : Int) (lastF h.length l.length st n (upto (srcs h l) (h.length + i))).1 (lastF h.length l.length st n (upto (srcs h l) (h.length + i))).2 (i : Int) h l st = some (lastF h.length l.length st n (upto (srcs h l) (h.length + l.length))) := by
  obtain ⟨p1, p2, p3, p4, p5, _⟩ := mayD_parts hm
  intro d
  induction d with
  | zero =>
    intro i k hi hk
    obtain ⟨k, rfl⟩ : ∃ q, k = q + 1 := ⟨k - 1, by omega⟩
    obtain rfl : i = l.length := by omega
    rw [carillonref13_Last.l1, if_neg (by omega)]
  | succ d ih =>
    intro i k hi hk
    obtain ⟨k, rfl⟩ : ∃ q, k = q + 1 + 1 := ⟨k - 2, by omega⟩
    obtain ⟨s1, s2, s3⟩ := loop_may hm i (by omega)
    have ih := ih (i + 1) k (by omega) (by omega)
    rw [show h.length + (i + 1) = h.length + i + 1 from rfl, upto_succ, lastF_snoc, srcs_loop, lastStep_loop _ _ (by simp) s3] at ih
    generalize lastF h.length l.length st n (upto (srcs h l) (h.length + i)) = acc at *
    obtain ⟨a1, a2⟩ := acc
    have hw : wrap64 ((i : Int) + 1) = ((i + 1 : Nat) : Int) := by rw [wrap_in (by omega) (by omega)]; omega
    rw [carillonref13_Last.l1, if_pos (by omega), if_pos (by omega), if_pos (by omega), wrap_in (v := n - (rd_T26 l i).f2) (by omega) (by omega)]
    simp only at ih ⊢
    have hKb : n - (rd_T26 l i).f2 ≤ 1125899906842624 := by omega
    generalize n - (rd_T26 l i).f2 = K at *
    by_cases hk0 : K < 0
    · rw [if_pos hk0] at ih
      rw [if_neg (by omega), carillonref13_Last.j2, if_neg (by decide), hw]
      exact ih
    · have e1 : Int.tmod K st = K % st := Int.tmod_eq_emod_of_nonneg (by omega)
      have e2 : Int.tdiv K st = K / st := Int.tdiv_eq_ediv_of_nonneg (by omega)
      rw [if_neg hk0] at ih
      rw [if_pos (by omega), if_neg (by omega), e1]
      by_cases hz : K % st = 0
      · rw [if_pos hz] at ih
        have b := ediv_in (a := K) (b := st) (by omega) hs
        have b2 : K / st * (l.length : Int) ≤ 1125899906842624 * 4096 := Int.mul_le_mul (by omega) (by omega) (by omega) (by omega)
        have b3 : 0 ≤ K / st * (l.length : Int) := Int.mul_nonneg b.1 (by omega)
        rw [carillonref13_Last.j2, if_pos (by rw [hz]; rfl), if_neg (by omega), e2, wrap_in (v := K / st) (by omega) (by omega)]
        generalize K / st * (l.length : Int) = Q at *
        rw [wrap_in (v := Q) (by omega) (by omega), wrap_in (v := (h.length : Int) + Q) (by omega) (by omega), wrap_in (v := (h.length : Int) + Q + (i : Int)) (by omega) (by omega), hw]
        have em : (h.length : Int) + Q + (i : Int) = ((h.length + i : Nat) : Int) + Q := by omega
        rw [em]
        cases a2
        · rw [if_neg (by decide)]
          rw [if_pos (Or.inl rfl)] at ih
          exact ih
        · rw [if_pos rfl]
          by_cases hg : a1 < ((h.length + i : Nat) : Int) + Q
          · rw [if_pos (Or.inr hg)] at ih
            rw [if_pos hg]
            exact ih
          · rw [if_neg (by simp; omega)] at ih
            rw [if_neg (by omega)]
            exact ih
      · rw [if_neg hz] at ih
        rw [carillonref13_Last.j2, if_neg (by simpa using hz), hw]
        exact ih
theorem Rlast_head (h l : List S26) (st n : Int) (hl : h.length ≤ 4096) (r : Int × Bool) (K : Nat)
    (hnext : ∀ k', K ≤ k' → carillonref13_Last.l1 k' n (l.length : Int) (h.length : Int) (lastF h.length l.length st n (upto (srcs h l) h.length)).1 (lastF h.length l.length st n (upto (srcs h l) h.length)).2 0 h l st = some r) : ∀ (d j k : Nat), j + d = h.length → K + d + 1 ≤ k →
    ((lastF h.length l.length st n (upto (srcs h l) j)).2 = true → (lastF h.length l.length st n (upto (srcs h l) j)).1 < (j : Int)) →
    carillonref13_Last.l0 k n (l.length : Int) (h.length : Int) (lastF h.length l.length st n (upto (srcs h l) j)).1 (lastF h.length l.length st n (upto (srcs h l) j)).2 (j : Int) h l st = some r := by
  intro d
  induction d with
  | zero =>
    intro j k hj hk _
    obtain ⟨k, rfl⟩ : ∃ q, k = q + 1 := ⟨k - 1, by omega⟩
    obtain rfl : j = h.length := by omega
    rw [carillonref13_Last.l0, if_neg (by omega)]
    exact hnext k (by omega)
  | succ d ih =>
    intro j k hj hk hinv
    obtain ⟨k, rfl⟩ : ∃ q, k = q + 1 := ⟨k - 1, by omega⟩
    have ih := ih (j + 1) k (by omega) (by omega)
    rw [upto_succ, lastF_snoc, srcs_head h l j (by omega)] at ih
    generalize lastF h.length l.length st n (upto (srcs h l) j) = acc at *
    obtain ⟨a1, a2⟩ := acc
    rw [lastStep_head _ _ (by simp; omega) hinv] at ih
    have hw : wrap64 ((j : Int) + 1) = ((j + 1 : Nat) : Int) := by rw [wrap_in (by omega) (by omega)]; omega
    rw [carillonref13_Last.l0, if_pos (by omega), if_pos (by omega), if_pos (by omega), hw]
    simp only at ih ⊢ hinv
    by_cases h0 : (rd_T26 h j).f0 = true
    · rw [if_pos h0] at ih ⊢
      exact ih (fun c => by have := hinv c; simp only; omega)
    · rw [if_neg h0] at ih ⊢
      by_cases h2 : (rd_T26 h j).f2 = n
      · rw [if_pos h2] at ih ⊢
        exact ih (fun _ => by simp only; omega)
      · rw [if_neg h2] at ih ⊢
        exact ih (fun c => by have := hinv c; simp only; omega)
theorem RLast_f (h l : List S26) (st n : Int) (hm : mayD h l st = true) (hs : 1 ≤ st) (h0 : 0 ≤ n) (h1 : n ≤ 1125899906842624) (k : Nat) (hk : h.length + 2 * l.length + 3 ≤ k) : carillonref13_Last.f k h l st n = some (lastF h.length l.length st n (upto (srcs h l) (h.length + l.length))) := by
  obtain ⟨p1, p2, p3, p4, p5, _⟩ := mayD_parts hm
  unfold carillonref13_Last.f
  exact Rlast_head h l st n p3 _ (2 * l.length + 1) (fun k' hk' => Rlast_loop h l st n hm hs h0 h1 l.length 0 k' (by omega) hk') h.length 0 k (by omega) (by omega) (fun c => by cases c)

end Go.Proofs.Ytdfpoemghnhlfaa.P
