/-
  words.Zip of whatever words: contract; equal words are told equal.
  Conditions: the rows lie in memory; their numbers are int64s.
-/
import Derived.Test.YtpcnapmlmhhcpaaWz
import Derived.WalkKit
import Derived.WalkSpells
import Derived.WalkLawsBesides
import Derived.Deep.QuietTactic
import Derived.BigQuiet
import Derived.Lib.Hide
import Derived.Handy
import Derived.Test.YtpcnapmlmhhcpaaWt2
import Derived.Test.YtpcnapmlmhhcpaaWt3
import Derived.Test.YtpcnapmlmhhcpaaWt4
import Derived.Test.YtpcnapmlmhhcpaaWl
import Derived.Test.YtpcnapmlmhhcpaaCb
set_option linter.unusedVariables false
set_option linter.unusedSimpArgs false
namespace Go.Proofs.Ytpcnapmlmhhcpaa
open Go.RowKit 
open Big
attribute [local go_sem] setCell_drewN alloc_drewN size_ext ext_ext ext_drewN ext_drew drewN_ext drew_ext cell?_ext frozen?_ext setCell_ext cell?_past1 frozen?_past1 setCell_past1 cell?_past2 frozen?_past2 setCell_past2 cell?_past3 frozen?_past3 setCell_past3 cell?_past4 frozen?_past4 setCell_past4 cell?_past5 frozen?_past5 setCell_past5 cell?_past6 frozen?_past6 setCell_past6 cell?_past7 frozen?_past7 setCell_past7 cell?_past8 frozen?_past8 setCell_past8

/-- The numbers of a word are int64s. -/
def in64W (a b : List Int) : Prop := ∀ i, in64P (num (nH a b) (nL a b) i)
theorem in64W_of {a b : List Int} (ha : a.all in64 = true) (hb : b.all in64 = true) : in64W a b := by
  intro i
  cases hm : may a b with
  | true => rw [(norm_is hm).num]; exact num_in a b ha hb i
  | false =>
    unfold nH nL
    rw [hm, if_neg (by decide), if_neg (by decide)]
    exact num_in [] [] rfl rfl i
theorem zV_in {op : Nat} (hop : op = 1 ∨ op = 2 ∨ op = 3 ∨ op = 4) {x y : Int} (hx : in64P x) (hy : in64P y) : in64P (zV op x y) := by
  unfold in64P at *
  rcases hop with rfl | rfl | rfl | rfl
  · show -9223372036854775808 ≤ fitV (x + y) ∧ fitV (x + y) ≤ 9223372036854775807
    unfold fitV; split <;> omega
  · show -9223372036854775808 ≤ fitV (x - y) ∧ fitV (x - y) ≤ 9223372036854775807
    unfold fitV; split <;> omega
  · show -9223372036854775808 ≤ mnI x y ∧ mnI x y ≤ 9223372036854775807
    unfold mnI; split <;> omega
  · show -9223372036854775808 ≤ mxI x y ∧ mxI x y ≤ 9223372036854775807
    unfold mxI; split <;> omega
theorem in64W_zip {op : Nat} (hop : op = 1 ∨ op = 2 ∨ op = 3 ∨ op = 4) {a b c d x1 x2 : List Int} (h1 : in64W a b) (h2 : in64W c d) (hz : zipF op a b c d = (x1, x2, 0)) : in64W x1 x2 := by
  have he : (zipF op a b c d).2.2 = 0 := by rw [hz]
  obtain ⟨m1, m2, z, _⟩ := zipF_ok he
  have n := norm_of_is z.is z.hl z.ll
  have w := z.is
  rw [hz] at n w
  intro i
  show in64P (num (nH x1 x2) (nL x1 x2) i)
  rw [n.2.1, n.2.2, w.num]
  have q1 := h1 i
  have q2 := h2 i
  rw [(norm_is m1).num] at q1
  rw [(norm_is m2).num] at q2
  exact zV_in hop q1 q2
theorem Equal_same (w : World) (v1 v2 v3 v4 : Value) (a b c d : List Int) (h1 : RowAt w v1 a) (h2 : RowAt w v2 b) (h3 : RowAt w v3 c) (h4 : RowAt w v4 d) (e1 : a = c) (e2 : b = d) : Calls Try.prog 11 #[.agg #[v1, v2], .agg #[v3, v4]] w fun e w' => e = .returned (.bool true) ∧ Below w.heap.size w w' := by
  have := Equal_any w v1 v2 v3 v4 a b c d h1 h2 h3 h4
  rwa [show eqW a b c d = true by unfold eqW; rw [decide_eq_true e1, decide_eq_true e2]; rfl] at this
theorem heavy_is (w : World) (v1 v2 : Value) (a b : List Int) (r : Bool) (h1 : RowAt w v1 a) (h2 : RowAt w v2 b) (hr : heavyB a b = r) : Calls Try.prog 8 #[.agg #[v1, v2]] w fun e w' => e = .returned (.bool r) ∧ Below w.heap.size w w' := by
  subst hr; exact heavy_any w v1 v2 a b h1 h2
theorem not_heavy {h l : List Int} (hr : heavyB h l = false) : h.length ≤ 200 ∧ l.length ≤ 200 := by
  unfold heavyB at hr
  simp only [Bool.or_eq_false_iff, decide_eq_false_iff_not] at hr
  omega
theorem zip_any1 (w : World) (va vb vc vd : Value) (a b c d x1 x2 : List Int) (e : Int) (h1 : RowAt w va a) (h2 : RowAt w vb b) (h3 : RowAt w vc c) (h4 : RowAt w vd d) (i1 : in64W a b) (i2 : in64W c d) (hz : zipF 1 a b c d = (x1, x2, e)) :
    Calls Try.prog 10 #[.int .u8 1, .agg #[va, vb], .agg #[vc, vd]] w fun en w' => Below w.heap.size w w' ∧ ∃ p1 c1 p2 c2, en = .returned (.tuple #[.agg #[.slice p1 x1.length c1, .slice p2 x2.length c2], .int .i64 e]) ∧ RowAt w' (.slice p1 x1.length c1) x1 ∧ RowAt w' (.slice p2 x2.length c2) x2 := by
  by_cases h : nE a b = 0 ∧ nE c d = 0
  · refine (zip_ok1 w va vb vc vd a b c d h1 h2 h3 h4 (nE_may h.1) (nE_may h.2) i1 i2).mono ?_
    rw [← zipF_of (op := 1) h, hz]
    rintro e w' ⟨hb, v1, v2, rfl, o1, o2, _⟩
    have r1 := o1.row
    have r2 := o2.row
    obtain ⟨p1, c1, rfl, _⟩ := id r1
    obtain ⟨p2, c2, rfl, _⟩ := id r2
    exact ⟨hb, p1, c1, p2, c2, rfl, r1, r2⟩
  · have hz2 : zipF 1 a b c d = ([], [], 2) := if_neg h
    rw [hz2] at hz
    cases hz
    refine (zip_no w 1 va vb vc vd a b c d h1 h2 h3 h4 (Classical.not_and_iff_not_or_not.1 h)).mono ?_
    rintro e w' ⟨rfl, hb⟩
    exact ⟨hb, none, 0, none, 0, rfl, RowAt.nil _, RowAt.nil _⟩
theorem zip_any2 (w : World) (va vb vc vd : Value) (a b c d x1 x2 : List Int) (e : Int) (h1 : RowAt w va a) (h2 : RowAt w vb b) (h3 : RowAt w vc c) (h4 : RowAt w vd d) (i1 : in64W a b) (i2 : in64W c d) (hz : zipF 2 a b c d = (x1, x2, e)) :
    Calls Try.prog 10 #[.int .u8 2, .agg #[va, vb], .agg #[vc, vd]] w fun en w' => Below w.heap.size w w' ∧ ∃ p1 c1 p2 c2, en = .returned (.tuple #[.agg #[.slice p1 x1.length c1, .slice p2 x2.length c2], .int .i64 e]) ∧ RowAt w' (.slice p1 x1.length c1) x1 ∧ RowAt w' (.slice p2 x2.length c2) x2 := by
  by_cases h : nE a b = 0 ∧ nE c d = 0
  · refine (zip_ok2 w va vb vc vd a b c d h1 h2 h3 h4 (nE_may h.1) (nE_may h.2) i1 i2).mono ?_
    rw [← zipF_of (op := 2) h, hz]
    rintro e w' ⟨hb, v1, v2, rfl, o1, o2, _⟩
    have r1 := o1.row
    have r2 := o2.row
    obtain ⟨p1, c1, rfl, _⟩ := id r1
    obtain ⟨p2, c2, rfl, _⟩ := id r2
    exact ⟨hb, p1, c1, p2, c2, rfl, r1, r2⟩
  · have hz2 : zipF 2 a b c d = ([], [], 2) := if_neg h
    rw [hz2] at hz
    cases hz
    refine (zip_no w 2 va vb vc vd a b c d h1 h2 h3 h4 (Classical.not_and_iff_not_or_not.1 h)).mono ?_
    rintro e w' ⟨rfl, hb⟩
    exact ⟨hb, none, 0, none, 0, rfl, RowAt.nil _, RowAt.nil _⟩
theorem zip_any3 (w : World) (va vb vc vd : Value) (a b c d x1 x2 : List Int) (e : Int) (h1 : RowAt w va a) (h2 : RowAt w vb b) (h3 : RowAt w vc c) (h4 : RowAt w vd d) (i1 : in64W a b) (i2 : in64W c d) (hz : zipF 3 a b c d = (x1, x2, e)) :
    Calls Try.prog 10 #[.int .u8 3, .agg #[va, vb], .agg #[vc, vd]] w fun en w' => Below w.heap.size w w' ∧ ∃ p1 c1 p2 c2, en = .returned (.tuple #[.agg #[.slice p1 x1.length c1, .slice p2 x2.length c2], .int .i64 e]) ∧ RowAt w' (.slice p1 x1.length c1) x1 ∧ RowAt w' (.slice p2 x2.length c2) x2 := by
  by_cases h : nE a b = 0 ∧ nE c d = 0
  · refine (zip_ok3 w va vb vc vd a b c d h1 h2 h3 h4 (nE_may h.1) (nE_may h.2) i1 i2).mono ?_
    rw [← zipF_of (op := 3) h, hz]
    rintro e w' ⟨hb, v1, v2, rfl, o1, o2, _⟩
    have r1 := o1.row
    have r2 := o2.row
    obtain ⟨p1, c1, rfl, _⟩ := id r1
    obtain ⟨p2, c2, rfl, _⟩ := id r2
    exact ⟨hb, p1, c1, p2, c2, rfl, r1, r2⟩
  · have hz2 : zipF 3 a b c d = ([], [], 2) := if_neg h
    rw [hz2] at hz
    cases hz
    refine (zip_no w 3 va vb vc vd a b c d h1 h2 h3 h4 (Classical.not_and_iff_not_or_not.1 h)).mono ?_
    rintro e w' ⟨rfl, hb⟩
    exact ⟨hb, none, 0, none, 0, rfl, RowAt.nil _, RowAt.nil _⟩
theorem zip_any4 (w : World) (va vb vc vd : Value) (a b c d x1 x2 : List Int) (e : Int) (h1 : RowAt w va a) (h2 : RowAt w vb b) (h3 : RowAt w vc c) (h4 : RowAt w vd d) (i1 : in64W a b) (i2 : in64W c d) (hz : zipF 4 a b c d = (x1, x2, e)) :
    Calls Try.prog 10 #[.int .u8 4, .agg #[va, vb], .agg #[vc, vd]] w fun en w' => Below w.heap.size w w' ∧ ∃ p1 c1 p2 c2, en = .returned (.tuple #[.agg #[.slice p1 x1.length c1, .slice p2 x2.length c2], .int .i64 e]) ∧ RowAt w' (.slice p1 x1.length c1) x1 ∧ RowAt w' (.slice p2 x2.length c2) x2 := by
  by_cases h : nE a b = 0 ∧ nE c d = 0
  · refine (zip_ok4 w va vb vc vd a b c d h1 h2 h3 h4 (nE_may h.1) (nE_may h.2) i1 i2).mono ?_
    rw [← zipF_of (op := 4) h, hz]
    rintro e w' ⟨hb, v1, v2, rfl, o1, o2, _⟩
    have r1 := o1.row
    have r2 := o2.row
    obtain ⟨p1, c1, rfl, _⟩ := id r1
    obtain ⟨p2, c2, rfl, _⟩ := id r2
    exact ⟨hb, p1, c1, p2, c2, rfl, r1, r2⟩
  · have hz2 : zipF 4 a b c d = ([], [], 2) := if_neg h
    rw [hz2] at hz
    cases hz
    refine (zip_no w 4 va vb vc vd a b c d h1 h2 h3 h4 (Classical.not_and_iff_not_or_not.1 h)).mono ?_
    rintro e w' ⟨rfl, hb⟩
    exact ⟨hb, none, 0, none, 0, rfl, RowAt.nil _, RowAt.nil _⟩
theorem zip_swap1 (w : World) (va vb vc vd : Value) (a b c d x1 x2 : List Int) (e : Int) (h1 : RowAt w va a) (h2 : RowAt w vb b) (h3 : RowAt w vc c) (h4 : RowAt w vd d) (i1 : in64W a b) (i2 : in64W c d) (hz : zipF 1 c d a b = (x1, x2, e)) :
    Calls Try.prog 10 #[.int .u8 1, .agg #[va, vb], .agg #[vc, vd]] w fun en w' => Below w.heap.size w w' ∧ ∃ p1 c1 p2 c2, en = .returned (.tuple #[.agg #[.slice p1 x1.length c1, .slice p2 x2.length c2], .int .i64 e]) ∧ RowAt w' (.slice p1 x1.length c1) x1 ∧ RowAt w' (.slice p2 x2.length c2) x2 :=
  zip_any1 w va vb vc vd a b c d x1 x2 e h1 h2 h3 h4 i1 i2 (by rw [zipF_comm 1 (by decide)]; exact hz)
theorem zip_swap3 (w : World) (va vb vc vd : Value) (a b c d x1 x2 : List Int) (e : Int) (h1 : RowAt w va a) (h2 : RowAt w vb b) (h3 : RowAt w vc c) (h4 : RowAt w vd d) (i1 : in64W a b) (i2 : in64W c d) (hz : zipF 3 c d a b = (x1, x2, e)) :
    Calls Try.prog 10 #[.int .u8 3, .agg #[va, vb], .agg #[vc, vd]] w fun en w' => Below w.heap.size w w' ∧ ∃ p1 c1 p2 c2, en = .returned (.tuple #[.agg #[.slice p1 x1.length c1, .slice p2 x2.length c2], .int .i64 e]) ∧ RowAt w' (.slice p1 x1.length c1) x1 ∧ RowAt w' (.slice p2 x2.length c2) x2 :=
  zip_any3 w va vb vc vd a b c d x1 x2 e h1 h2 h3 h4 i1 i2 (by rw [zipF_comm 3 (by decide)]; exact hz)
theorem zip_swap4 (w : World) (va vb vc vd : Value) (a b c d x1 x2 : List Int) (e : Int) (h1 : RowAt w va a) (h2 : RowAt w vb b) (h3 : RowAt w vc c) (h4 : RowAt w vd d) (i1 : in64W a b) (i2 : in64W c d) (hz : zipF 4 c d a b = (x1, x2, e)) :
    Calls Try.prog 10 #[.int .u8 4, .agg #[va, vb], .agg #[vc, vd]] w fun en w' => Below w.heap.size w w' ∧ ∃ p1 c1 p2 c2, en = .returned (.tuple #[.agg #[.slice p1 x1.length c1, .slice p2 x2.length c2], .int .i64 e]) ∧ RowAt w' (.slice p1 x1.length c1) x1 ∧ RowAt w' (.slice p2 x2.length c2) x2 :=
  zip_any4 w va vb vc vd a b c d x1 x2 e h1 h2 h3 h4 i1 i2 (by rw [zipF_comm 4 (by decide)]; exact hz)
end Go.Proofs.Ytpcnapmlmhhcpaa
