/-
  All of a chain, in the program and in the reference.
  Conditions: each theorem's own.
-/
import Derived.Test.YtdfpoemghnhlfaaPd
import Derived.Test.YtdfpoemghnhlfaaPx9
import Derived.Test.YtdfpoemghnhlfaaPx8
set_option linter.unusedVariables false
set_option linter.unusedSimpArgs false
namespace Go.Proofs.Ytdfpoemghnhlfaa.P
open Go.RowKit Big Go.Proofs.YtdfpoemghnhlfaaW.PrintWords Go.Proofs.YtdfpoemghnhlfaaW.PrintLast Go.Proofs.YtdfpoemghnhlfaaW.PrintMore

theorem all_in {l : List S48} (g : Good l) : l.all (fun x => in64 x.f1) = true := List.all_eq_true.2 fun x hx => in64_iff.2 (g.hi x hx)
/-- What All answers, as a function. -/
theorem All_f {l : List S48} (g : Good l) (k : Nat) (hk : 3 * l.length + 8300 ≤ k) :
    (∀ T, Fits l → T ≤ 4096 → (goOf l.reverse ((T : Nat) : Int)).1 = false → (∀ a < T, (goOf l.reverse ((a : Nat) : Int)).1 = true) → deps_All.f k l = some (tab l.reverse 0 T, tab l.reverse T (pk 4 l).toNat, pk 5 l, 0)) ∧
    (Fits l → (∀ a ≤ 4096, (goOf l.reverse ((a : Nat) : Int)).1 = true) → deps_All.f k l = some ([], [], 0, 4)) ∧ (¬ Fits l → deps_All.f k l = some ([], [], 0, 4)) := by
  have hl := g.hl
  have hp4 := pk_pos 4 (Or.inl rfl) l g.hm
  have hp5 := pk_pos 5 (Or.inr rfl) l g.hm
  have hmay : mayL l = true := by unfold mayL; rw [List.all_eq_true.2 g.hm, decide_eq_true g.hl]; rfl
  have p4 := prod_fold 4 4096 (Or.inl rfl) (by omega) l g.hm 1 (by omega) (by omega)
  have p5 := prod_fold 5 1073741824 (Or.inr rfl) (by omega) l g.hm 1 (by omega) (by omega)
  rw [Int.one_mul] at p4 p5
  obtain ⟨k, rfl⟩ : ∃ q, k = q + 1 := ⟨k - 1, by omega⟩
  have e0 : deps_All.f (k + 1) l = (if (prodF 4 4096 l).2 = true then (deps_All.j0 (k + 1) l (prodF 4 4096 l).1 (prodF 5 1073741824 l).1 (!(prodF 5 1073741824 l).2)) else (deps_All.j0 (k + 1) l (prodF 4 4096 l).1 (prodF 5 1073741824 l).1 true)) := by
    unfold deps_All.f
    rw [mayAll_f l (by omega) _ (by omega)]
    simp only [Option.bind_some]
    rw [if_pos hmay]
    unfold deps_product.f
    rw [if_pos (all_in g)]
    simp only [Option.bind_some]
    rw [if_pos (all_in g)]
    simp only [Option.bind_some]
  have yes : Fits l → deps_All.f (k + 1) l = deps_All.l0 k l (((pk 4 l).toNat : Nat) : Int) 0 [] [] (pk 5 l) := by
    intro f
    have q4 : prodF 4 4096 l = (pk 4 l, true) := p4.1 f.hd
    have q5 : prodF 5 1073741824 l = (pk 5 l, true) := p5.1 f.hu
    rw [e0, q4, q5, if_pos rfl]
    simp only [deps_All.j0]
    rw [if_neg (by decide), Int.toNat_of_nonneg (by omega)]
  refine ⟨?_, ?_, ?_⟩
  · intro T f hT hu ht
    have hd := f.hd
    rw [yes f]
    exact all_head f T hT (pk 4 l).toNat (by omega) _ hu ht T 0 k (by omega) (by omega)
  · intro f ht
    rw [yes f]
    exact all_many f _ _ ht 4096 0 k (by omega) (by omega)
  · intro nf
    rw [e0]
    by_cases h4 : pk 4 l ≤ 4096
    · have h5 : ¬ pk 5 l ≤ 1073741824 := fun h5 => nf { toGood := g, hd := h4, hu := h5 }
      have q5 : (prodF 5 1073741824 l).2 = false := p5.2 (by omega)
      rw [q5]
      split <;> simp only [deps_All.j0] <;> rw [if_pos (by decide)]
    · have q4 : (prodF 4 4096 l).2 = false := p4.2 (by omega)
      rw [if_neg (by rw [q4]; decide)]
      simp only [deps_All.j0]
      rw [if_pos trivial]
/-- The reference: its loop looked at, place by place. -/
theorem from_loop {l : List S48} (f : Fits l) (T : Nat) (hT : T ≤ 4096) (D : Nat) (hD : (D : Int) = pk 4 l) (hu : (goOf l.reverse (T : Int)).1 = false) : ∀ (n j k : Nat), j + n = D → n + 2 * l.length + 6 ≤ k →
    carillonref13_from.l0 k l (T : Int) (D : Int) (pk 5 l) (j : Int) = some true := by
  have hd := f.hd
  have hu5 := f.hu
  have hp5 := pk_pos 5 (Or.inr rfl) l f.hm
  have hm : ∀ x ∈ l.reverse, mayK x = true := fun x hx => f.hm x (List.mem_reverse.1 hx)
  intro n
  induction n with
  | zero =>
    intro j k hj hk
    obtain ⟨k, rfl⟩ : ∃ q, k = q + 1 := ⟨k - 1, by omega⟩
    rw [carillonref13_from.l0, if_neg (by omega)]
  | succ n ih =>
    intro j k hj hk
    obtain ⟨k, rfl⟩ : ∃ q, k = q + 1 := ⟨k - 1, by omega⟩
    obtain ⟨_, m, e1⟩ := f.untold T (T + j) (by omega) (by omega) hu
    have e2 := gi_lin _ hm _ m 1 (by omega) (by omega) e1
    rw [Int.mul_one, Int.mul_one, pk_reverse, pk_reverse, ← hD] at e2
    have g1 : goOf l.reverse ((T : Int) + (j : Int)) = (false, 0, m, 0) := by
      have := f.ideal ((T + j : Nat) : Int) (by omega) (by omega)
      rw [e1] at this; rw [show (T : Int) + (j : Int) = ((T + j : Nat) : Int) from by omega, this]; rfl
    have g2 : goOf l.reverse ((T : Int) + (j : Int) + (D : Int)) = (false, 0, m + pk 5 l, 0) := by
      have := f.ideal (((T + j : Nat) : Int) + (D : Int)) (by omega) (by omega)
      rw [e2] at this; rw [show (T : Int) + (j : Int) = ((T + j : Nat) : Int) from by omega, this]; rfl
    rw [carillonref13_from.l0, if_pos (by omega), wrap_in (v := (T : Int) + (j : Int)) (by omega) (by omega), wrap_in (v := (T : Int) + (j : Int) + (D : Int)) (by omega) (by omega), Rof_f f.toGood _ _ (by omega) (by omega) (by omega), Rof_f f.toGood _ _ (by omega) (by omega) (by omega), g1, g2]
    simp only [Option.bind_some]
    rw [if_neg (by decide), if_neg (by decide), show wrap64 (m + pk 5 l - m) = pk 5 l from by rw [show m + pk 5 l - m = pk 5 l from by omega]; exact wrap_in (by omega) (by omega), if_pos rfl, wrap_in (by omega) (by omega), show (j : Int) + 1 = ((j + 1 : Nat) : Int) from by omega]
    exact ih (j + 1) k (by omega) (by omega)
theorem from_told {l : List S48} (f : Fits l) (a : Nat) (ha : a ≤ 4096) (D : Nat) (hD : (D : Int) = pk 4 l) (ht : (goOf l.reverse (a : Int)).1 = true) (k : Nat) (hk : 2 * l.length + 6 ≤ k) :
    carillonref13_from.l0 k l (a : Int) (D : Int) (pk 5 l) 0 = some false := by
  have hd := f.hd
  have hp4 := pk_pos 4 (Or.inl rfl) l f.hm
  obtain ⟨k, rfl⟩ : ∃ q, k = q + 1 := ⟨k - 1, by omega⟩
  rw [carillonref13_from.l0, if_pos (by omega), Int.add_zero, wrap_in (v := (a : Int)) (by omega) (by omega), wrap_in (v := (a : Int) + (D : Int)) (by omega) (by omega), Rof_f f.toGood _ _ (by omega) (by omega) (by omega), Rof_f f.toGood _ _ (by omega) (by omega) (by omega)]
  simp only [Option.bind_some]
  rw [if_pos ht]
theorem Rl2 {l : List S48} (f : Fits l) (T : Nat) (hT : T ≤ 4096) (D : Nat) (hD : (D : Int) = pk 4 l) (H : List S26) (U : Int) : ∀ (n j k : Nat), j + n = D → n + 2 * l.length + 6 ≤ k →
    carillonref13_All.l2 k l (D : Int) (T : Int) (j : Int) H (tab l.reverse T j) U = some (H, tab l.reverse T D, U, 0) := by
  have hd := f.hd
  intro n
  induction n with
  | zero =>
    intro j k hj hk
    obtain ⟨k, rfl⟩ : ∃ q, k = q + 1 := ⟨k - 1, by omega⟩
    rw [carillonref13_All.l2, if_neg (by omega), show j = D from by omega]
  | succ n ih =>
    intro j k hj hk
    obtain ⟨k, rfl⟩ : ∃ q, k = q + 1 := ⟨k - 1, by omega⟩
    rw [carillonref13_All.l2, if_pos (by omega), wrap_in (v := (T : Int) + (j : Int)) (by omega) (by omega), Rof_f f.toGood _ _ (by omega) (by omega) (by omega)]
    simp only [Option.bind_some]
    rw [if_pos (by rw [tab_len]; omega), show (T : Int) + (j : Int) = ((T + j : Nat) : Int) from by omega, show (⟨_, _, _⟩ : S26) = srcAt l.reverse (T + j) from rfl, tab_snoc, wrap_in (by omega) (by omega), show (j : Int) + 1 = ((j + 1 : Nat) : Int) from by omega]
    exact ih (j + 1) k (by omega) (by omega)
theorem Rl1 {l : List S48} (f : Fits l) (T : Nat) (hT : T ≤ 4096) (D : Nat) (hD : (D : Int) = pk 4 l) (hu : (goOf l.reverse (T : Int)).1 = false) (ht : ∀ a < T, (goOf l.reverse (a : Int)).1 = true) (U : Int) : ∀ (n i k : Nat), i + n = T → n + D + 2 * l.length + 10 ≤ k →
    carillonref13_All.l1 k l (D : Int) (pk 5 l) (i : Int) (tab l.reverse 0 i) U = some (tab l.reverse 0 T, tab l.reverse T D, U, 0) := by
  have hd := f.hd
  intro n
  induction n with
  | zero =>
    intro i k hi hk
    obtain ⟨k, rfl⟩ : ∃ q, k = q + 1 := ⟨k - 1, by omega⟩
    obtain rfl : i = T := by omega
    have hfl : carillonref13_from.l0 k l (i : Int) (D : Int) (pk 5 l) 0 = some true := from_loop f i hT D hD hu D 0 k (by omega) (by omega)
    rw [carillonref13_All.l1, carillonref13_from.f, hfl]
    simp only [Option.bind_some]
    rw [if_pos trivial]
    exact Rl2 f i hT D hD _ U D 0 k (by omega) (by omega)
  | succ n ih =>
    intro i k hi hk
    obtain ⟨k, rfl⟩ : ∃ q, k = q + 1 := ⟨k - 1, by omega⟩
    have e := tab_snoc l.reverse 0 i
    rw [Nat.zero_add] at e
    rw [carillonref13_All.l1, carillonref13_from.f, from_told f i (by omega) D hD (ht i (by omega)) k (by omega), Rof_f f.toGood _ _ (by omega) (by omega) (by omega)]
    simp only [Option.bind_some]
    rw [if_neg (by decide), if_neg (by omega), if_pos (by rw [tab_len]; omega), show (⟨_, _, _⟩ : S26) = srcAt l.reverse i from rfl, e, wrap_in (by omega) (by omega), show (i : Int) + 1 = ((i + 1 : Nat) : Int) from by omega]
    exact ih (i + 1) k (by omega) (by omega)
theorem Rl1_many {l : List S48} (f : Fits l) (D : Nat) (hD : (D : Int) = pk 4 l) (ht : ∀ a ≤ 4096, (goOf l.reverse ((a : Nat) : Int)).1 = true) (U : Int) : ∀ (n i k : Nat), i + n = 4096 → n + 2 * l.length + 10 ≤ k →
    carillonref13_All.l1 k l (D : Int) (pk 5 l) (i : Int) (tab l.reverse 0 i) U = some ([], [], 0, 4) := by
  intro n
  induction n with
  | zero =>
    intro i k hi hk
    obtain ⟨k, rfl⟩ : ∃ q, k = q + 1 := ⟨k - 1, by omega⟩
    rw [carillonref13_All.l1, carillonref13_from.f, from_told f i (by omega) D hD (ht i (by omega)) k (by omega)]
    simp only [Option.bind_some]
    rw [if_neg (by decide), if_pos (by omega)]
  | succ n ih =>
    intro i k hi hk
    obtain ⟨k, rfl⟩ : ∃ q, k = q + 1 := ⟨k - 1, by omega⟩
    have e := tab_snoc l.reverse 0 i
    rw [Nat.zero_add] at e
    rw [carillonref13_All.l1, carillonref13_from.f, from_told f i (by omega) D hD (ht i (by omega)) k (by omega), Rof_f f.toGood _ _ (by omega) (by omega) (by omega)]
    simp only [Option.bind_some]
    rw [if_neg (by decide), if_neg (by omega), if_pos (by rw [tab_len]; omega), show (⟨_, _, _⟩ : S26) = srcAt l.reverse i from rfl, e, wrap_in (by omega) (by omega), show (i : Int) + 1 = ((i + 1 : Nat) : Int) from by omega]
    exact ih (i + 1) k (by omega) (by omega)
/-- The reference's first loop: the two products, as far as they may be. -/
theorem Rl0 {l : List S48} (g : Good l) (r : List S26 × List S26 × Int × Int) (K : Nat) : ∀ (n j k : Nat) (p q : Int), j + n = l.length → K + 2 * n + 3 ≤ k → 1 ≤ p → p ≤ 4096 → 1 ≤ q → q ≤ 1073741824 →
    (∀ k', K ≤ k' → p * pk 4 (l.drop j) ≤ 4096 → q * pk 5 (l.drop j) ≤ 1073741824 → carillonref13_All.l1 k' l (p * pk 4 (l.drop j)) (q * pk 5 (l.drop j)) 0 [] (q * pk 5 (l.drop j)) = some r) →
    (¬ (p * pk 4 (l.drop j) ≤ 4096 ∧ q * pk 5 (l.drop j) ≤ 1073741824) → r = ([], [], 0, 4)) →
    carillonref13_All.l0 k l p q (j : Int) = some r := by
  have hl := g.hl
  intro n
  induction n with
  | zero =>
    intro j k p q hj hk hp1 hp2 hq1 hq2 hy hn
    obtain ⟨k, rfl⟩ : ∃ q, k = q + 1 := ⟨k - 1, by omega⟩
    have hd : l.drop j = [] := List.drop_eq_nil_of_le (by omega)
    rw [hd] at hy
    simp only [pk, Int.mul_one] at hy
    rw [carillonref13_All.l0, if_neg (by omega)]
    exact hy k (by omega) hp2 hq2
  | succ n ih =>
    intro j k p q hj hk hp1 hp2 hq1 hq2 hy hn
    obtain ⟨k, rfl⟩ : ∃ q, k = q + 1 + 1 := ⟨k - 2, by omega⟩
    have hdr : l.drop j = l[j] :: l.drop (j + 1) := List.drop_eq_getElem_cons (by omega : j < l.length)
    have hx := g.hi l[j] (List.getElem_mem _)
    have hmk := may_k (g.hm l[j] (List.getElem_mem _))
    have hpt4 := pk_pos 4 (Or.inl rfl) (l.drop (j + 1)) (fun x hx => g.hm x (List.mem_of_mem_drop hx))
    have hpt5 := pk_pos 5 (Or.inr rfl) (l.drop (j + 1)) (fun x hx => g.hm x (List.mem_of_mem_drop hx))
    have ih := ih (j + 1) k
    have hwj : wrap64 ((j : Int) + 1) = ((j + 1 : Nat) : Int) := by rw [wrap_in (by omega) (by omega)]; omega
    have c1 : (0 : Int) ≤ (j : Int) := Int.natCast_nonneg _
    have c2 : (j : Int) < (l.length : Int) := by omega
    rw [carillonref13_All.l0, if_pos c2, if_pos c1, rd_at l j (by omega)]
    have hrd := rd_at l j (by omega)
    rw [hdr] at hy hn
    clear hdr
    generalize l[j] = x at *
    generalize l.drop (j + 1) = t at *
    by_cases h4 : x.f0 = 4
    · have h5 : ¬ x.f0 = 5 := by omega
      have hf1 := hmk.1 h4
      rw [pk, if_pos h4, pk, if_neg h5] at hy hn
      generalize pk 4 t = P4 at *
      generalize pk 5 t = P5 at *
      rw [← Int.mul_assoc p x.f1 P4] at hy hn
      rw [if_pos h4, carillonref01_Mul.f, if_pos ⟨in64_iff.2 ⟨by omega, by omega⟩, in64_iff.2 hx⟩]
      simp only [Option.bind_some]
      rw [carillonref13_All.j1, if_pos c1, if_pos c2, hrd, if_neg h5]
      have hq : p * 1 ≤ p * x.f1 := Int.mul_le_mul_of_nonneg_left hf1 (by omega)
      have hbig : p * x.f1 * 1 ≤ p * x.f1 * P4 := Int.mul_le_mul_of_nonneg_left hpt4 (by omega)
      by_cases hf : fitB (p * x.f1) = true
      · rw [if_pos hf, if_pos rfl, (fit_pos hf).1]
        by_cases hle : p * x.f1 ≤ 4096
        · rw [if_neg (by omega), if_neg (by omega), hwj]
          exact ih _ _ (by omega) (by omega) (by omega) hle hq1 hq2 hy hn
        · rw [if_pos (by omega), hn (by omega)]
      · have : ¬ p * x.f1 ≤ 4096 := fun h => hf (by unfold fitB; exact decide_eq_true (by omega))
        rw [if_neg hf, hn (by omega)]
    rw [if_neg h4, carillonref13_All.j1, if_pos c1, if_pos c2, hrd]
    by_cases h5 : x.f0 = 5
    · have hf1 := hmk.2 h5
      rw [pk, if_neg h4, pk, if_pos h5] at hy hn
      generalize pk 4 t = P4 at *
      generalize pk 5 t = P5 at *
      rw [← Int.mul_assoc q x.f1 P5] at hy hn
      rw [if_pos h5, carillonref01_Mul.f, if_pos ⟨in64_iff.2 ⟨by omega, by omega⟩, in64_iff.2 hx⟩]
      simp only [Option.bind_some]
      rw [if_pos trivial]
      have hq : q * 1 ≤ q * x.f1 := Int.mul_le_mul_of_nonneg_left hf1 (by omega)
      have hbig : q * x.f1 * 1 ≤ q * x.f1 * P5 := Int.mul_le_mul_of_nonneg_left hpt5 (by omega)
      by_cases hf : fitB (q * x.f1) = true
      · rw [if_pos hf, if_neg (by omega), (fit_pos hf).1]
        by_cases hle : q * x.f1 ≤ 1073741824
        · rw [if_neg (by omega), hwj]
          exact ih _ _ (by omega) (by omega) hp1 hp2 (by omega) hle hy hn
        · rw [if_pos (by omega), hn (by omega)]
      · have : ¬ q * x.f1 ≤ 1073741824 := fun h => hf (by unfold fitB; exact decide_eq_true (by omega))
        rw [if_neg hf, hn (by omega)]
    · rw [pk, if_neg h4, pk, if_neg h5] at hy hn
      generalize pk 4 t = P4 at *
      generalize pk 5 t = P5 at *
      rw [if_neg h5, if_pos rfl, if_pos rfl, if_neg (by omega), if_neg (by omega), hwj]
      exact ih _ _ (by omega) (by omega) hp1 hp2 hq1 hq2 hy hn
/-- All of a chain: the program's and the reference's. -/
theorem All_same {l : List S48} (g : Good l) (k : Nat) (hk : 4 * l.length + 8600 ≤ k) : ∃ r, deps_All.f k l = some r ∧ carillonref13_All.f k l = some r ∧ r.1.length ≤ 4096 ∧ r.2.1.length ≤ 4096 := by
  have hl := g.hl
  obtain ⟨a1, a2, a3⟩ := All_f g k (by omega)
  have hp4 := pk_pos 4 (Or.inl rfl) l g.hm
  have ref : ∀ r, (Fits l → ∀ k', 8300 + 2 * l.length ≤ k' → carillonref13_All.l1 k' l (((pk 4 l).toNat : Nat) : Int) (pk 5 l) 0 [] (pk 5 l) = some r) → (¬ Fits l → r = ([], [], 0, 4)) → carillonref13_All.f k l = some r := by
    intro r hy hn
    unfold carillonref13_All.f
    refine Rl0 g r (8300 + 2 * l.length) l.length 0 k 1 1 (by omega) (by omega) (by omega) (by omega) (by omega) (by omega) ?_ ?_
    · rw [List.drop_zero, Int.one_mul, Int.one_mul]
      intro k' hk' h4 h5
      have := hy { toGood := g, hd := h4, hu := h5 } k' hk'
      rw [Int.toNat_of_nonneg (by omega)] at this
      exact this
    · rw [List.drop_zero, Int.one_mul, Int.one_mul]
      intro h
      exact hn (fun f => h ⟨f.hd, f.hu⟩)
  by_cases f : Fits l
  · have hd := f.hd
    rcases least_untold (fun a => (goOf l.reverse ((a : Nat) : Int)).1) 4096 with ht | ⟨T, hT, hu, ht⟩
    · exact ⟨_, a2 f ht, ref _ (fun _ k' hk' => Rl1_many f _ (by omega) ht _ 4096 0 k' (by omega) (by omega)) (fun nf => absurd f nf), by simp, by simp⟩
    · exact ⟨_, a1 T f hT hu ht, ref _ (fun _ k' hk' => Rl1 f T hT _ (by omega) hu ht _ T 0 k' (by omega) (by omega)) (fun nf => absurd f nf), by rw [tab_len]; omega, by rw [tab_len]; omega⟩
  · exact ⟨_, a3 f, ref _ (fun f' => absurd f' f) (fun _ => rfl), by simp, by simp⟩

end Go.Proofs.Ytdfpoemghnhlfaa.P
