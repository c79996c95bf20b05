/-
  DepsPlaces: the plain law.
  Conditions: each theorem's own.
-/
import Derived.Test.YtdfpoemghnhlfaaPh
import Derived.Test.YtdfpoemghnhlfaaPx13
set_option linter.unusedVariables false
set_option linter.unusedSimpArgs false
namespace Go.Proofs.Ytdfpoemghnhlfaa.P
open Go.RowKit Big Go.Proofs.YtdfpoemghnhlfaaW.PrintWords Go.Proofs.YtdfpoemghnhlfaaW.PrintLast Go.Proofs.YtdfpoemghnhlfaaW.PrintMore

/-- The plain law of DepsPlaces. -/
theorem DepsPlaces_f (h l : List S26) (st n : Int) (hn : n ≤ 9223372036854775807) : carillonlaw13_DepsPlaces.f 20000 h l st n = some true := by
  unfold carillonlaw13_DepsPlaces.f
  by_cases hbig : wrap64 ((h.length : Int) + (l.length : Int)) > 1024
  · rw [if_pos hbig, carillonlaw13_works.f]; rfl
  rw [if_neg hbig, deps_At.f, if_pos hn, deps_Last.f, carillonref13_May.f, deps_May.f]
  simp only [Option.bind_some]
  cases hm : mayD h l st with
  | false =>
    have ha : atD h l st n = (false, 0, 0, 2) := by unfold atD; rw [if_neg (fun c => by rw [hm] at c; cases c.1)]
    have hl : lastD h l st n = (0, false, 2) := by unfold lastD; rw [if_neg (fun c => by rw [hm] at c; cases c.1)]
    rw [ha, hl, if_neg (by decide), if_neg (by decide), carillonlaw13_DepsPlaces.j0, if_neg (by decide), carillonlaw13_DepsPlaces.j1, if_neg (by decide), carillonlaw13_DepsPlaces.j2, if_neg (by decide), if_neg (by decide), carillonlaw13_DepsPlaces.j3, if_pos rfl, if_pos rfl, if_neg (by decide), if_pos rfl, carillonlaw13_works.f]
    rfl
  | true =>
    obtain ⟨p1, p2, p3, p4, p5, _⟩ := mayD_parts hm
    rw [if_neg (by decide), if_pos rfl]
    have w2 : (!((2 : Int) == 2)) = false := by decide
    by_cases h0 : 0 ≤ n
    · have tail : ∀ x268 : Bool × Int × Int × Int, x268 = atD h l st n → carillonlaw13_DepsPlaces.j1 19999 n (atD h l st n).2.2.2 (lastD h l st n).1 (lastD h l st n).2.1 (lastD h l st n).2.2 true x268.2.2.2 h l st (atD h l st n).1 (atD h l st n).2.1 (atD h l st n).2.2.1 x268.1 x268.2.1 x268.2.2.1 = some true := by
        rintro _ rfl
        rw [carillonlaw13_DepsPlaces.j1, if_neg (by simp), carillonlaw13_DepsPlaces.j2, if_neg (by simp), if_pos rfl]
        by_cases hs : st < 1
        · have hl : lastD h l st n = (0, false, 2) := by unfold lastD; rw [if_neg (fun c => by omega)]
          rw [if_pos hs, hl, carillonlaw13_DepsPlaces.j3, if_pos rfl, if_pos rfl, if_neg (by decide), if_pos rfl, carillonlaw13_works.f]
          rfl
        rw [if_neg hs, if_neg (by omega), carillonlaw13_DepsPlaces.j3]
        by_cases hb : n > 1125899906842624
        · have hl : lastD h l st n = (0, false, 2) := by unfold lastD; rw [if_neg (fun c => by omega)]
          rw [if_pos (decide_eq_true hb), hl, if_pos rfl, if_neg (by decide), if_pos rfl, carillonlaw13_works.f]
          rfl
        · have hl : lastD h l st n = ((lastF h.length l.length st n (upto (srcs h l) (h.length + l.length))).1, (lastF h.length l.length st n (upto (srcs h l) (h.length + l.length))).2, 0) := by unfold lastD; rw [if_pos ⟨hm, by omega, h0, by omega⟩]
          rw [if_neg (by simpa using hb), hl, RLast_f h l st n hm (by omega) h0 (by omega) _ (by omega)]
          simp only [Option.bind_some]
          rw [if_pos trivial, if_pos (by simp), if_pos trivial, carillonlaw13_works.f]
          rfl
      rw [carillonlaw13_DepsPlaces.j0, if_pos (decide_eq_true h0), RAt_f h l st n hm h0 hn]
      simp only [Option.bind_some]
      exact tail _ rfl
    · have ha : atD h l st n = (false, 0, 0, 2) := by unfold atD; rw [if_neg (fun c => h0 c.2)]
      have hl : lastD h l st n = (0, false, 2) := by unfold lastD; rw [if_neg (fun c => h0 c.2.2.1)]
      rw [ha, hl, carillonlaw13_DepsPlaces.j0, if_neg (by simpa using h0), carillonlaw13_DepsPlaces.j1, if_neg (by decide), carillonlaw13_DepsPlaces.j2, if_neg (by decide), if_pos rfl]
      have z : ∀ k, carillonlaw13_DepsPlaces.j3 (k + 1) n 0 false 2 true h l st = some true := by
        intro k
        rw [carillonlaw13_DepsPlaces.j3, if_pos rfl, if_pos rfl, if_neg (by decide), if_pos rfl, carillonlaw13_works.f]
        rfl
      split
      · exact z _
      · rw [if_pos (by omega)]
        exact z _

end Go.Proofs.Ytdfpoemghnhlfaa.P
