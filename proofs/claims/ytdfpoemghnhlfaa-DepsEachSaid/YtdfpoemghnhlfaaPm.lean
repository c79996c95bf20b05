/-
  DepsEach: the plain law.
  Conditions: each theorem's own.
-/
import Derived.Test.YtdfpoemghnhlfaaPe
import Derived.Test.YtdfpoemghnhlfaaPl
import Derived.Test.YtdfpoemghnhlfaaPf
import Derived.Test.YtdfpoemghnhlfaaPj
import Derived.Test.YtdfpoemghnhlfaaPx14
set_option linter.unusedVariables false
set_option linter.unusedSimpArgs false
namespace Go.Proofs.Ytdfpoemghnhlfaa.P
open Go.RowKit Big Go.Proofs.YtdfpoemghnhlfaaW.PrintWords Go.Proofs.YtdfpoemghnhlfaaW.PrintLast Go.Proofs.YtdfpoemghnhlfaaW.PrintMore

theorem out_told (x : Ide) : x.out.1 = true ↔ ∃ v, x = .told v := by
  cases x with
  | told v => exact ⟨fun _ => ⟨v, rfl⟩, fun _ => rfl⟩
  | «at» n => exact ⟨fun h => (by cases h), fun ⟨_, h⟩ => (by cases h)⟩
theorem each_loop {l : List S48} {T : Nat} (c : Chain l T) (hl : l.length ≤ 40) (a1 : Int) (h0 : 0 ≤ a1) (h1 : a1 ≤ 65535) : ∀ (d i k : Nat) (b0 : Bool) (b1 b2 : Int), i + d = 60 → 4 * d + 200 ≤ k → (0 < i → b0 = false → gi l.reverse (a1 % 500 + i - 1) = .at b2) →
    carillonlaw13_DepsEach.l0 k l a1 (i : Int) (tab l.reverse 0 T) (tab l.reverse T (pk 4 l).toNat) (pk 5 l) b0 b1 b2 = some true := by
  have h5 := c.p5
  have hu := c.hu
  have e500 : Int.tmod a1 500 = a1 % 500 := Int.tmod_eq_emod_of_nonneg h0
  have m0 := Int.emod_nonneg a1 (show (500 : Int) ≠ 0 by omega)
  have m1 := Int.emod_lt_of_pos a1 (show (0 : Int) < 500 by omega)
  have bd : ∀ n : Int, 0 ≤ n → n ≤ 1000000001 → (n + (l.length : Int)) * pk 5 l ≤ 9223372036854775807 := by
    intro n g0 g1
    have : (n + (l.length : Int)) * pk 5 l ≤ 1000000041 * 1073741824 := Int.mul_le_mul (by omega) hu (by omega) (by omega)
    omega
  intro d
  induction d with
  | zero =>
    intro i k b0 b1 b2 hi hk _
    obtain ⟨k, rfl⟩ : ∃ q, k = q + 1 := ⟨k - 1, by omega⟩
    rw [carillonlaw13_DepsEach.l0, if_neg (by omega), carillonlaw13_works.f]
    rfl
  | succ d ih =>
    intro i k b0 b1 b2 hi hk hb
    obtain ⟨k, rfl⟩ : ∃ q, k = q + 1 + 1 + 1 + 1 := ⟨k - 4, by omega⟩
    have hwi : wrap64 ((i : Int) + 1) = ((i + 1 : Nat) : Int) := by rw [wrap_in (by omega) (by omega)]; omega
    obtain ⟨n, hn⟩ : ∃ n : Int, n = a1 % 500 + i := ⟨_, rfl⟩
    have hw : wrap64 (wrap64 a1) = wrap64 a1 := by unfold wrap64; omega
    rw [carillonlaw13_DepsEach.l0, if_pos (by omega), wrap_in (v := a1) (by omega) (by omega), e500, wrap_in (v := a1 % 500 + (i : Int)) (by omega) (by omega), ← hn, deps_At.f, if_pos (by omega), c.atD_gi n (by omega) (bd n (by omega) (by omega)), Of_f l c.hi c.hl n (by omega) _ (by omega)]
    have hmay : mayL l = true := by unfold mayL; rw [List.all_eq_true.2 c.hm, decide_eq_true c.hl]; rfl
    rw [if_pos ⟨hmay, by omega⟩, c.ideal n (by omega) (bd n (by omega) (by omega))]
    simp only [Option.bind_some]
    rw [if_neg (by simp), if_pos trivial]
    have next : ∀ b0 b1 b2 k', 4 * d + 200 ≤ k' → (b0 = false → gi l.reverse n = .at b2) → carillonlaw13_DepsEach.l0 k' l a1 ((i + 1 : Nat) : Int) (tab l.reverse 0 T) (tab l.reverse T (pk 4 l).toNat) (pk 5 l) b0 b1 b2 = some true := by
      intro b0 b1 b2 k' hk' h
      refine ih (i + 1) k' b0 b1 b2 (by omega) hk' (fun _ hb => ?_)
      rw [show a1 % 500 + ((i + 1 : Nat) : Int) - 1 = n from by omega]
      exact h hb
    cases e : gi l.reverse n with
    | told v =>
      have hT : Ide.out (.told v) = (true, v, 0, 0) := rfl
      have step : carillonlaw13_DepsEach.j1 (k + 1 + 1 + 1) l a1 (i : Int) n 0 false (tab l.reverse 0 T) (tab l.reverse T (pk 4 l).toNat) (pk 5 l) true v 0 = some true := by
        rw [carillonlaw13_DepsEach.j1, if_neg (by decide), if_pos rfl, carillonlaw13_DepsEach.j2, if_pos rfl, hwi]
        exact next _ _ _ _ (by omega) (fun h => by cases h)
      rw [hT]
      simp only
      by_cases hi0 : (i : Int) > 0
      · rw [if_pos hi0]
        cases b0 with
        | true => rw [if_pos rfl]; exact step
        | false =>
          obtain ⟨m, em, _⟩ := gi_mono _ c.hmr _ n b2 (by omega) (by omega) (hb (by omega) rfl)
          rw [em] at e
          cases e
      · rw [if_neg hi0]; exact step
    | «at» p =>
      have hA : Ide.out (.at p) = (false, 0, p, 0) := rfl
      obtain ⟨m, l1, l2, l3, l4, l5⟩ := c.last n p (by omega) (by omega) e
      obtain ⟨p', e3, hp'⟩ := gi_mono _ c.hmr m (m + 1) p (by omega) (by omega) l4
      have hne : ¬ p' = p := by
        rintro rfl
        have := l5 (m + 1) (by omega) e3
        omega
      have step : carillonlaw13_DepsEach.j1 (k + 1 + 1 + 1) l a1 (i : Int) n 0 false (tab l.reverse 0 T) (tab l.reverse T (pk 4 l).toNat) (pk 5 l) false 0 p = some true := by
        rw [carillonlaw13_DepsEach.j1, if_neg (by decide), if_neg (by decide), carillonlaw13_DepsEach.j2, if_neg (by decide), deps_Last.f, l1]
        simp only [Option.bind_some]
        rw [if_pos trivial, if_pos trivial, carillonlaw13_DepsEach.j3, if_neg (by simp; omega), deps_At.f, if_pos (by omega), deps_At.f, wrap_in (v := m + 1) (by omega) (by omega), if_pos (by omega), c.atD_gi m (by omega) (bd m (by omega) (by omega)), c.atD_gi (m + 1) (by omega) (bd (m + 1) (by omega) (by omega)), l4, e3]
        simp only [Option.bind_some, Ide.out]
        rw [if_pos trivial, if_neg hne, hwi]
        exact next _ _ _ _ (by omega) (fun _ => e)
      rw [hA]
      simp only
      by_cases hi0 : (i : Int) > 0
      · rw [if_pos hi0]
        cases b0 with
        | true => rw [if_pos rfl]; exact step
        | false =>
          obtain ⟨m', em, hm'⟩ := gi_mono _ c.hmr _ n b2 (by omega) (by omega) (hb (by omega) rfl)
          rw [em] at e
          injection e with e
          rw [if_neg (by decide), if_neg (by decide), decide_eq_false (by omega)]
          exact step
      · rw [if_neg hi0]; exact step
/-- The plain law of DepsEach. -/
theorem DepsEach_f (l : List S48) (a1 : Int) (hi : ∀ x ∈ l, -9223372036854775808 ≤ x.f1 ∧ x.f1 ≤ 9223372036854775807) (h0 : 0 ≤ a1) (h1 : a1 ≤ 65535) : carillonlaw13_DepsEach.f 20000 l a1 = some true := by
  obtain ⟨b, hb, hb2⟩ := large_loop l 100 0 20000 1 (by omega) (by omega)
  have hlf : carillonlaw13_large.f 20000 l = some b := hb
  unfold carillonlaw13_DepsEach.f
  rw [hlf]
  simp only [Option.bind_some, carillonlaw13_works.f, List.nil_append, List.length_nil, Nat.zero_add]
  cases b with
  | true => rfl
  | false =>
    have h40 := hb2 rfl
    rw [if_neg (by decide), if_pos (by omega)]
    cases hm : mayL l with
    | false =>
      have hA : deps_All.f 20000 l = some ([], [], 0, 2) := by
        unfold deps_All.f
        rw [mayAll_f l (by omega) _ (by omega), hm]; rfl
      rw [hA]
      rfl
    | true =>
      have g : Good l := ⟨hi, fun x hx => by unfold mayL at hm; rw [Bool.and_eq_true] at hm; exact List.all_eq_true.1 hm.1 x hx, by omega⟩
      obtain ⟨y1, y2, y3⟩ := All_f g 20000 (by omega)
      by_cases f : Fits l
      · rcases least_untold (fun a => (goOf l.reverse ((a : Nat) : Int)).1) 4096 with ht | ⟨T, hT, hu, ht⟩
        · rw [y2 f ht]
          rfl
        · have c : Chain l T := { toFits := f, hT := hT, ut := hu, td := ht }
          rw [y1 T f hT hu ht]
          simp only [Option.bind_some]
          rw [if_pos trivial, deps_May.f, c.mayD_tab]
          simp only [Option.bind_some]
          rw [if_pos trivial]
          exact each_loop c h40 a1 h0 h1 60 0 20000 true 0 0 (by omega) (by omega) (fun h => absurd h (by omega))
      · rw [y3 f]
        rfl

end Go.Proofs.Ytdfpoemghnhlfaa.P
