/-
  A dep that may be: its sources; what one step of Last does.
  Conditions: each theorem's own.
-/
import Derived.Test.YtdfpoemghnhlfaaPb
import Derived.Test.YtdfpoemghnhlfaaDj
set_option linter.unusedVariables false
set_option linter.unusedSimpArgs false
namespace Go.Proofs.Ytdfpoemghnhlfaa.P
open Go.RowKit Big Go.Proofs.YtdfpoemghnhlfaaW.PrintWords Go.Proofs.YtdfpoemghnhlfaaW.PrintLast Go.Proofs.YtdfpoemghnhlfaaW.PrintMore

theorem mayD_parts {h l : List S26} {st : Int} (hm : mayD h l st = true) : 1 ≤ l.length ∧ l.length ≤ 4096 ∧ h.length ≤ 4096 ∧ 0 ≤ st ∧ st ≤ 1099511627776 ∧ allMay h.length (upto (srcs h l) (h.length + l.length)) = true := by
  unfold mayD at hm
  simp only [Bool.and_eq_true, decide_eq_true_eq] at hm
  exact ⟨hm.1, hm.2.1, hm.2.2.1, hm.2.2.2.1, hm.2.2.2.2.1, hm.2.2.2.2.2⟩
theorem may_src {h l : List S26} {st : Int} (hm : mayD h l st = true) (k : Nat) (hk : k < h.length + l.length) : mayS h.length (srcs h l k) = true :=
  srcs_may ⟨by have := (mayD_parts hm).1; omega, (mayD_parts hm).2.2.2.2.2⟩ k hk
theorem mayS_parts {n : Nat} {x : Nat × S26} (h : mayS n x = true) : 0 ≤ x.2.f2 ∧ x.2.f2 ≤ 1125899906842624 ∧ (x.2.f0 = true → x.2.f2 = 0 ∧ x.1 < n) ∧ (x.2.f0 = false → x.2.f1 = 0) := by
  unfold mayS at h
  cases e : x.2.f0 <;> rw [e] at h <;> simp at h
  · exact ⟨by omega, by omega, fun c => (by cases c), fun _ => (by omega)⟩
  · exact ⟨by omega, by omega, fun _ => ⟨by omega, by omega⟩, fun c => (by cases c)⟩
theorem head_may {h l : List S26} {st : Int} (hm : mayD h l st = true) (j : Nat) (hj : j < h.length) : 0 ≤ (rd_T26 h j).f2 ∧ (rd_T26 h j).f2 ≤ 1125899906842624 := by
  have := mayS_parts (may_src hm j (by omega))
  rw [srcs_head h l j hj] at this
  exact ⟨this.1, this.2.1⟩
theorem loop_may {h l : List S26} {st : Int} (hm : mayD h l st = true) (j : Nat) (hj : j < l.length) : 0 ≤ (rd_T26 l j).f2 ∧ (rd_T26 l j).f2 ≤ 1125899906842624 ∧ (rd_T26 l j).f0 = false := by
  have := mayS_parts (may_src hm (h.length + j) (by omega))
  rw [srcs_loop h l j] at this
  refine ⟨this.1, this.2.1, ?_⟩
  cases e : (rd_T26 l j).f0
  · rfl
  · have := (this.2.2.1 e).2
    exact absurd this (by omega)
theorem lastStep_head {n0 n1 : Nat} {st m : Int} (acc : Int × Bool) (x : Nat × S26) (hx : x.1 < n0) (hi : acc.2 = true → acc.1 < x.1) : lastStep n0 n1 st m acc x = if x.2.f0 = true then acc else if x.2.f2 = m then ((x.1 : Int), true) else acc := by
  unfold lastStep
  by_cases h0 : x.2.f0 = true
  · rw [if_pos h0, if_pos h0]
  rw [if_neg h0, if_neg h0]
  by_cases h2 : x.2.f2 = m
  · have e : m - x.2.f2 = 0 := by omega
    have hv : ¬ n0 ≤ x.1 := by omega
    simp only [if_neg hv]
    rw [e, if_neg (fun c => c.2 rfl), if_neg (by omega), if_neg (by simp), if_pos h2, if_pos]
    cases ha : acc.2
    · exact .inl rfl
    · exact .inr (hi ha)
  · rw [if_pos ⟨hx, by omega⟩, if_neg h2]
theorem lastStep_loop {n0 n1 : Nat} {st m : Int} (acc : Int × Bool) (x : Nat × S26) (hx : n0 ≤ x.1) (h0 : x.2.f0 = false) : lastStep n0 n1 st m acc x = if m - x.2.f2 < 0 then acc else if (m - x.2.f2) % st = 0 then (if acc.2 = false ∨ acc.1 < (x.1 : Int) + (m - x.2.f2) / st * n1 then ((x.1 : Int) + (m - x.2.f2) / st * n1, true) else acc) else acc := by
  unfold lastStep
  rw [if_neg (by rw [h0]; decide), if_neg (by omega)]
  by_cases h1 : m - x.2.f2 < 0
  · rw [if_pos h1, if_pos h1]
  rw [if_neg h1, if_neg h1]
  by_cases h2 : (m - x.2.f2) % st = 0
  · rw [if_neg (by simpa using h2), if_pos h2, if_pos hx]
  · rw [if_pos h2, if_neg h2]

end Go.Proofs.Ytdfpoemghnhlfaa.P
