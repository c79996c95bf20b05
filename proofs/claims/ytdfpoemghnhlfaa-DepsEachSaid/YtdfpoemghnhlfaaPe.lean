/-
  All of a chain, in the program.
  Conditions: each theorem's own.
-/
import Derived.Test.YtdfpoemghnhlfaaPd
set_option linter.unusedVariables false
set_option linter.unusedSimpArgs false
namespace Go.Proofs.Ytdfpoemghnhlfaa.P
open Go.RowKit Big Go.Proofs.YtdfpoemghnhlfaaW.PrintWords Go.Proofs.YtdfpoemghnhlfaaW.PrintLast Go.Proofs.YtdfpoemghnhlfaaW.PrintMore

theorem all_in {l : List S48} (g : Good l) : l.all (fun x => in64 x.f1) = true := List.all_eq_true.2 fun x hx => in64_iff.2 (g.hi x hx)
/-- What All answers, as a function. -/
theorem All_f {l : List S48} (g : Good l) (k : Nat) (hk : 3 * l.length + 8300 ≤ k) :
    (∀ T, Fits l → T ≤ 4096 → (goOf l.reverse ((T : Nat) : Int)).1 = false → (∀ a < T, (goOf l.reverse ((a : Nat) : Int)).1 = true) → deps_All.f k l = some (tab l.reverse 0 T, tab l.reverse T (pk 4 l).toNat, pk 5 l, 0)) ∧
    (Fits l → (∀ a ≤ 4096, (goOf l.reverse ((a : Nat) : Int)).1 = true) → deps_All.f k l = some ([], [], 0, 4)) ∧ (¬ Fits l → deps_All.f k l = some ([], [], 0, 4)) := by
  have hl := g.hl
  have hp4 := pk_pos 4 (Or.inl rfl) l g.hm
  have hp5 := pk_pos 5 (Or.inr rfl) l g.hm
  have hmay : mayL l = true := by unfold mayL; rw [List.all_eq_true.2 g.hm, decide_eq_true g.hl]; rfl
  have p4 := prod_fold 4 4096 (Or.inl rfl) (by omega) l g.hm 1 (by omega) (by omega)
  have p5 := prod_fold 5 1073741824 (Or.inr rfl) (by omega) l g.hm 1 (by omega) (by omega)
  rw [Int.one_mul] at p4 p5
  obtain ⟨k, rfl⟩ : ∃ q, k = q + 1 := ⟨k - 1, by omega⟩
  have e0 : deps_All.f (k + 1) l = (if (prodF 4 4096 l).2 = true then (deps_All.j0 (k + 1) l (prodF 4 4096 l).1 (prodF 5 1073741824 l).1 (!(prodF 5 1073741824 l).2)) else (deps_All.j0 (k + 1) l (prodF 4 4096 l).1 (prodF 5 1073741824 l).1 true)) := by
    unfold deps_All.f
    rw [mayAll_f l (by omega) _ (by omega)]
    simp only [Option.bind_some]
    rw [if_pos hmay]
    unfold deps_product.f
    rw [if_pos (all_in g)]
    simp only [Option.bind_some]
    rw [if_pos (all_in g)]
    simp only [Option.bind_some]
  have yes : Fits l → deps_All.f (k + 1) l = deps_All.l0 k l (((pk 4 l).toNat : Nat) : Int) 0 [] [] (pk 5 l) := by
    intro f
    have q4 : prodF 4 4096 l = (pk 4 l, true) := p4.1 f.hd
    have q5 : prodF 5 1073741824 l = (pk 5 l, true) := p5.1 f.hu
    rw [e0, q4, q5, if_pos rfl]
    simp only [deps_All.j0]
    rw [if_neg (by decide), Int.toNat_of_nonneg (by omega)]
  refine ⟨?_, ?_, ?_⟩
  · intro T f hT hu ht
    have hd := f.hd
    rw [yes f]
    exact all_head f T hT (pk 4 l).toNat (by omega) _ hu ht T 0 k (by omega) (by omega)
  · intro f ht
    rw [yes f]
    exact all_many f _ _ ht 4096 0 k (by omega) (by omega)
  · intro nf
    rw [e0]
    by_cases h4 : pk 4 l ≤ 4096
    · have h5 : ¬ pk 5 l ≤ 1073741824 := fun h5 => nf { toGood := g, hd := h4, hu := h5 }
      have q5 : (prodF 5 1073741824 l).2 = false := p5.2 (by omega)
      rw [q5]
      split <;> simp only [deps_All.j0] <;> rw [if_pos (by decide)]
    · have q4 : (prodF 4 4096 l).2 = false := p4.2 (by omega)
      rw [if_neg (by rw [q4]; decide)]
      simp only [deps_All.j0]
      rw [if_pos trivial]

end Go.Proofs.Ytdfpoemghnhlfaa.P
