/-
  All of a chain, in the program.
  Conditions: each theorem's own.
-/
import Derived.Test.YtdfpoemghnhlfaaPc
import Derived.Test.YtdfpoemghnhlfaaPx5
import Derived.Test.YtdfpoemghnhlfaaDh
set_option linter.unusedVariables false
set_option linter.unusedSimpArgs false
namespace Go.Proofs.Ytdfpoemghnhlfaa.P
open Go.RowKit Big Go.Proofs.YtdfpoemghnhlfaaW.PrintWords Go.Proofs.YtdfpoemghnhlfaaW.PrintLast Go.Proofs.YtdfpoemghnhlfaaW.PrintMore

structure Good (l : List S48) : Prop where
  hi : ∀ x ∈ l, -9223372036854775808 ≤ x.f1 ∧ x.f1 ≤ 9223372036854775807
  hm : ∀ x ∈ l, mayK x = true
  hl : l.length ≤ 4096
theorem of_f {l : List S48} (g : Good l) (a : Int) (k : Nat) (h1 : 0 ≤ a) (h2 : a ≤ 9223372036854775807) (hk : 2 * l.length + 4 ≤ k) : deps_of.f k l a = some (goOf l.reverse a) := by
  have hl := g.hl
  unfold deps_of.f
  rw [wrap_in (by omega) (by omega), of_go l (fun x hx => (g.hi x hx).2) g.hm l.length a k (Nat.le_refl _) (by omega) h1 h2 hk, List.take_length]
theorem pk_append (kind : Int) (a b : List S48) : pk kind (a ++ b) = pk kind a * pk kind b := by
  induction a with
  | nil => simp [pk]
  | cons x a ih =>
    rw [List.cons_append, pk, pk]
    split
    · rw [ih, Int.mul_assoc]
    · exact ih
theorem pk_reverse (kind : Int) (a : List S48) : pk kind a.reverse = pk kind a := by
  induction a with
  | nil => rfl
  | cons x a ih =>
    rw [List.reverse_cons, pk_append, ih]
    by_cases h : x.f0 = kind <;> simp [pk, h, Int.mul_comm]
theorem prod_stuck (kind most : Int) (l : List S48) (s : Int × Bool) (h : s.2 = false) : (l.foldl (prodStep kind most) s).2 = false := by
  induction l generalizing s with
  | nil => exact h
  | cons x l ih =>
    rw [List.foldl_cons]
    apply ih
    unfold prodStep mulStep
    split
    · rw [if_neg (by rw [h]; decide)]; exact h
    · exact h
theorem prod_fold (kind most : Int) (hk : kind = 4 ∨ kind = 5) (h1 : most ≤ 9223372036854775807) (l : List S48) (hm : ∀ x ∈ l, mayK x = true) : ∀ p, 1 ≤ p → p ≤ most →
    (p * pk kind l ≤ most → l.foldl (prodStep kind most) (p, true) = (p * pk kind l, true)) ∧ (most < p * pk kind l → (l.foldl (prodStep kind most) (p, true)).2 = false) := by
  induction l with
  | nil => intro p h1 h2; refine ⟨fun _ => by simp [pk], fun h => by simp [pk] at h; omega⟩
  | cons x t ih =>
    intro p hp1 hp2
    have hm' : ∀ y ∈ t, mayK y = true := fun y hy => hm y (List.mem_cons_of_mem _ hy)
    have ih := ih hm'
    have hx := may_k (hm x (List.mem_cons_self ..))
    have hpt := pk_pos kind hk t hm'
    rw [List.foldl_cons, pk]
    unfold prodStep
    by_cases hkx : x.f0 = kind
    · have hf1 : 1 ≤ x.f1 := by rcases hk with rfl | rfl; exact hx.1 hkx; exact hx.2 hkx
      rw [if_pos hkx, if_pos hkx, ← Int.mul_assoc]
      have hq : p * 1 ≤ p * x.f1 := Int.mul_le_mul_of_nonneg_left hf1 (by omega)
      by_cases hle : p * x.f1 ≤ most
      · have hf : fitB (p * x.f1) = true := by unfold fitB; exact decide_eq_true (by omega)
        have hms : mulStep most (p, true) x.f1 = (p * x.f1, true) := by
          unfold mulStep; rw [if_pos rfl]; show (fitV (p * x.f1), fitB (p * x.f1) && decide (fitV (p * x.f1) ≤ most)) = _
          rw [(fit_pos hf).1, hf, decide_eq_true hle]; rfl
        rw [hms]
        exact ih _ (by omega) hle
      · have hbig : most < p * x.f1 * pk kind t := by
          have : p * x.f1 * 1 ≤ p * x.f1 * pk kind t := Int.mul_le_mul_of_nonneg_left hpt (by omega)
          omega
        refine ⟨fun h => absurd h (by omega), fun _ => ?_⟩
        apply prod_stuck
        unfold mulStep; rw [if_pos rfl]; show (fitB (p * x.f1) && decide (fitV (p * x.f1) ≤ most)) = false
        by_cases hf : fitB (p * x.f1) = true
        · rw [(fit_pos hf).1, decide_eq_false hle]; simp
        · simp [hf]
    · rw [if_neg hkx, if_neg hkx]
      exact ih p hp1 hp2
/-- A chain's sources, one by one. -/
def srcAt (R : List S48) (a : Nat) : S26 := ⟨(goOf R (a : Int)).1, (goOf R (a : Int)).2.1, (goOf R (a : Int)).2.2.1⟩
def tab (R : List S48) (i n : Nat) : List S26 := (List.range n).map (fun j => srcAt R (i + j))
theorem tab_len (R : List S48) (i n : Nat) : (tab R i n).length = n := by simp [tab]
theorem tab_snoc (R : List S48) (i n : Nat) : tab R i n ++ [srcAt R (i + n)] = tab R i (n + 1) := by simp [tab, List.range_succ]
/-- Told up to T (at most 4096), and not from there on. -/
theorem least_untold (p : Nat → Bool) (n : Nat) : (∀ a ≤ n, p a = true) ∨ ∃ T, T ≤ n ∧ p T = false ∧ ∀ a < T, p a = true := by
  induction n with
  | zero =>
    cases h : p 0
    · exact Or.inr ⟨0, Nat.le_refl _, h, fun a ha => absurd ha (by omega)⟩
    · exact Or.inl (fun a ha => by rw [Nat.le_zero.1 ha]; exact h)
  | succ n ih =>
    rcases ih with ih | ⟨T, h1, h2, h3⟩
    · cases h : p (n + 1)
      · exact Or.inr ⟨n + 1, Nat.le_refl _, h, fun a ha => ih a (by omega)⟩
      · refine Or.inl (fun a ha => ?_)
        by_cases e : a = n + 1
        · rw [e]; exact h
        · exact ih a (by omega)
    · exact Or.inr ⟨T, by omega, h2, h3⟩
structure Fits (l : List S48) : Prop extends Good l where
  hd : pk 4 l ≤ 4096
  hu : pk 5 l ≤ 1073741824
theorem Fits.ideal {l : List S48} (f : Fits l) (a : Int) (h0 : 0 ≤ a) (h1 : a ≤ 100000) : goOf l.reverse a = (gi l.reverse a).out := by
  have hm : ∀ x ∈ l.reverse, mayK x = true := fun x hx => f.hm x (List.mem_reverse.1 hx)
  have hl := f.hl
  have hp := pk_pos 5 (Or.inr rfl) l.reverse hm
  have hu := f.hu
  rw [← pk_reverse] at hu
  apply goOf_gi _ hm _ h0
  rw [List.length_reverse]
  have e1 : (a + (l.length : Int)) * pk 5 l.reverse ≤ (a + (l.length : Int)) * 1073741824 := Int.mul_le_mul_of_nonneg_left hu (by omega)
  omega
theorem Fits.untold {l : List S48} (f : Fits l) (T a : Nat) (hT : T ≤ a) (ha : a ≤ 100000) (h : (goOf l.reverse (T : Int)).1 = false) : (goOf l.reverse (a : Int)).1 = false ∧ ∃ n, gi l.reverse (a : Int) = .at n := by
  have hm : ∀ x ∈ l.reverse, mayK x = true := fun x hx => f.hm x (List.mem_reverse.1 hx)
  rw [f.ideal _ (by omega) (by omega)] at h ⊢
  cases e : gi l.reverse (T : Int) with
  | told v => rw [e] at h; cases h
  | «at» n =>
    obtain ⟨m, e2, _⟩ := gi_mono _ hm (T : Int) (a : Int) n (by omega) (by omega) e
    rw [e2]
    exact ⟨rfl, m, rfl⟩
theorem all_loop {l : List S48} (f : Fits l) (T : Nat) (hT : T ≤ 4096) (D : Nat) (hD : (D : Int) = pk 4 l) (U : Int) (H : List S26) (hu : (goOf l.reverse (T : Int)).1 = false) : ∀ (n j k : Nat), j + n + 1 = D → n + 2 * l.length + 6 ≤ k →
    deps_All.l0 k l (D : Int) ((T + j : Nat) : Int) H (tab l.reverse T j) U = some (H, tab l.reverse T D, U, 0) := by
  have hd := f.hd
  intro n
  induction n with
  | zero =>
    intro j k hj hk
    obtain ⟨k, rfl⟩ : ∃ q, k = q + 1 := ⟨k - 1, by omega⟩
    obtain ⟨h1, _⟩ := f.untold T (T + j) (by omega) (by omega) hu
    rw [deps_All.l0, of_f f.toGood _ _ (by omega) (by omega) (by omega)]
    simp only [Option.bind_some]
    rw [if_neg (by rw [h1]; decide), if_pos (by rw [tab_len]; omega), show (⟨_, _, _⟩ : S26) = srcAt l.reverse (T + j) from rfl, tab_snoc, if_pos (by rw [tab_len]; omega), hj]
  | succ n ih =>
    intro j k hj hk
    obtain ⟨k, rfl⟩ : ∃ q, k = q + 1 := ⟨k - 1, by omega⟩
    obtain ⟨h1, _⟩ := f.untold T (T + j) (by omega) (by omega) hu
    rw [deps_All.l0, of_f f.toGood _ _ (by omega) (by omega) (by omega)]
    simp only [Option.bind_some]
    rw [if_neg (by rw [h1]; decide), if_pos (by rw [tab_len]; omega), show (⟨_, _, _⟩ : S26) = srcAt l.reverse (T + j) from rfl, tab_snoc, if_neg (by rw [tab_len]; omega), wrap_in (by omega) (by omega), show ((T + j : Nat) : Int) + 1 = ((T + (j + 1) : Nat) : Int) from by omega]
    exact ih (j + 1) k (by omega) (by omega)
theorem all_head {l : List S48} (f : Fits l) (T : Nat) (hT : T ≤ 4096) (D : Nat) (hD : (D : Int) = pk 4 l) (U : Int) (hu : (goOf l.reverse (T : Int)).1 = false) (ht : ∀ a < T, (goOf l.reverse (a : Int)).1 = true) : ∀ (n i k : Nat), i + n = T → n + D + 2 * l.length + 6 ≤ k →
    deps_All.l0 k l (D : Int) (i : Int) (tab l.reverse 0 i) [] U = some (tab l.reverse 0 T, tab l.reverse T D, U, 0) := by
  have hd := f.hd
  have hp := pk_pos 4 (Or.inl rfl) l f.hm
  intro n
  induction n with
  | zero =>
    intro i k hi hk
    obtain rfl : i = T := by omega
    exact all_loop f i hT D hD U _ hu (D - 1) 0 k (by omega) (by omega)
  | succ n ih =>
    intro i k hi hk
    obtain ⟨k, rfl⟩ : ∃ q, k = q + 1 := ⟨k - 1, by omega⟩
    rw [deps_All.l0, of_f f.toGood _ _ (by omega) (by omega) (by omega)]
    simp only [Option.bind_some]
    have e := tab_snoc l.reverse 0 i
    rw [Nat.zero_add] at e
    rw [if_pos (ht i (by omega)), if_pos (by rw [tab_len]; omega), show (⟨_, _, _⟩ : S26) = srcAt l.reverse i from rfl, e, if_neg (by rw [tab_len]; omega), wrap_in (by omega) (by omega), show (i : Int) + 1 = ((i + 1 : Nat) : Int) from by omega]
    exact ih (i + 1) k (by omega) (by omega)
theorem all_many {l : List S48} (f : Fits l) (D U : Int) (ht : ∀ a ≤ 4096, (goOf l.reverse ((a : Nat) : Int)).1 = true) : ∀ (n i k : Nat), i + n = 4096 → n + 2 * l.length + 6 ≤ k →
    deps_All.l0 k l D (i : Int) (tab l.reverse 0 i) [] U = some ([], [], 0, 4) := by
  intro n
  induction n with
  | zero =>
    intro i k hi hk
    obtain ⟨k, rfl⟩ : ∃ q, k = q + 1 := ⟨k - 1, by omega⟩
    have e := tab_snoc l.reverse 0 i
    rw [Nat.zero_add] at e
    rw [deps_All.l0, of_f f.toGood _ _ (by omega) (by omega) (by omega)]
    simp only [Option.bind_some]
    rw [if_pos (ht i (by omega)), if_pos (by rw [tab_len]; omega), show (⟨_, _, _⟩ : S26) = srcAt l.reverse i from rfl, e, if_pos (by rw [tab_len]; omega)]
  | succ n ih =>
    intro i k hi hk
    obtain ⟨k, rfl⟩ : ∃ q, k = q + 1 := ⟨k - 1, by omega⟩
    have e := tab_snoc l.reverse 0 i
    rw [Nat.zero_add] at e
    rw [deps_All.l0, of_f f.toGood _ _ (by omega) (by omega) (by omega)]
    simp only [Option.bind_some]
    rw [if_pos (ht i (by omega)), if_pos (by rw [tab_len]; omega), show (⟨_, _, _⟩ : S26) = srcAt l.reverse i from rfl, e, if_neg (by rw [tab_len]; omega), wrap_in (by omega) (by omega), show (i : Int) + 1 = ((i + 1 : Nat) : Int) from by omega]
    exact ih (i + 1) k (by omega) (by omega)

end Go.Proofs.Ytdfpoemghnhlfaa.P
