/-
  unfold.Of, plain.
  Conditions: none.
-/
import Derived.Test.YtkabmpbfabgkfaaUe
import Derived.Test.YtkabmpbfabgkfaaPx0
import Derived.WalkKit
import Derived.WalkSpells
import Derived.WalkLawsBesides
import Derived.Deep.QuietTactic
import Derived.BigQuiet
import Derived.Lib.Hide
import Derived.Handy
import Derived.Deep.AppendLies
import Derived.Maps.AppendAt
import Derived.OwnWalk
import Derived.Lib.LazyBuf
import Derived.Deep.DeepCutAuto
import Derived.Deep.RegionLaw
import Derived.Deep.RegionHeld3
import Derived.Deep.RegionWith
import Derived.BigRegion
import Derived.Deep.CutBlock
import Derived.LoopN
set_option linter.unusedVariables false
set_option linter.unusedSimpArgs false
namespace Go.Proofs.Ytkabmpbfabgkfaa
open Go.RowKit 
open Big
attribute [local go_sem] setCell_drewN alloc_drewN size_ext ext_ext ext_drewN ext_drew drewN_ext drew_ext cell?_ext frozen?_ext setCell_ext cell?_past1 frozen?_past1 setCell_past1 cell?_past2 frozen?_past2 setCell_past2 cell?_past3 frozen?_past3 setCell_past3 cell?_past4 frozen?_past4 setCell_past4 cell?_past5 frozen?_past5 setCell_past5 cell?_past6 frozen?_past6 setCell_past6 cell?_past7 frozen?_past7 setCell_past7 cell?_past8 frozen?_past8 setCell_past8
open Go.Proofs.Ytkabmpbfabgkfaa.P Go.Proofs.YtkabmpbfabgkfaaW.PrintWords Go.Proofs.YtkabmpbfabgkfaaW.PrintLast Go.Proofs.YtkabmpbfabgkfaaW.PrintMore
/-- A read of a task with clock (p, s): prefix and period of what goes round. -/
def stepOf (p s : Int) (st : Int × Int) (r : S69) : Option (Int × Int) :=
  if fitB (lcmV st.2 (p * r.f3.f1.length)) = true ∧ lcmV st.2 (p * r.f3.f1.length) ≤ 17592186044416 then some (mxI st.1 (s + r.f3.f0.length * p), lcmV st.2 (p * r.f3.f1.length)) else none
def foldR (p s : Int) : List S69 → Int × Int → Option (Int × Int)
  | [], st => some st
  | r :: rs, st => (stepOf p s st r).bind (foldR p s rs)
def foldT : List S44 → Int × Int → Option (Int × Int)
  | [], st => some st
  | t :: ts, st => (foldR t.f0.f0 t.f0.f1 t.f4 (mxI st.1 t.f0.f1, st.2)).bind (foldT ts)
def cntJ (P H : Int) (t : S44) : Int := belowN t.f0.f0 t.f0.f1 P + H / t.f0.f0
def cntT (P H : Int) : List S44 → Int → Option Int
  | [], n => some n
  | t :: ts, n => if 1024 < n + cntJ P H t then none else cntT P H ts (n + cntJ P H t)
def ofF (may : Bool) (l : List S44) : Int × Int × Int :=
  if may = true then (match foldT l (0, 1) with | none => (0, 0, 4) | some st => if 17592186044416 < st.1 + st.2 then (0, 0, 4) else match cntT st.1 st.2 l 0 with | none => (0, 0, 4) | some _ => (st.1, st.2, 0)) else (0, 0, 2)
theorem foldR_append (p s : Int) : ∀ (a b : List S69) (st : Int × Int), foldR p s (a ++ b) st = (foldR p s a st).bind (foldR p s b)
  | [], _, _ => rfl
  | r :: a, b, st => by
    simp only [List.cons_append, foldR]
    cases h : stepOf p s st r with
    | none => rfl
    | some x => simp only [Option.bind_some]; exact foldR_append p s a b x
theorem foldT_append : ∀ (a b : List S44) (st : Int × Int), foldT (a ++ b) st = (foldT a st).bind (foldT b)
  | [], _, _ => rfl
  | t :: a, b, st => by
    simp only [List.cons_append, foldT]
    cases h : foldR t.f0.f0 t.f0.f1 t.f4 (mxI st.1 t.f0.f1, st.2) with
    | none => rfl
    | some x => simp only [Option.bind_some]; exact foldT_append a b x
theorem cntT_append (P H : Int) : ∀ (a b : List S44) (n : Int), cntT P H (a ++ b) n = (cntT P H a n).bind (cntT P H b)
  | [], _, _ => rfl
  | t :: a, b, n => by
    simp only [List.cons_append, cntT]
    split
    · rfl
    · exact cntT_append P H a b _
theorem take_succ' {α : Type} (l : List α) (z : α) (k : Nat) (h : k < l.length) : l.take (k + 1) = l.take k ++ [l.getD k z] := by
  rw [List.take_add_one, List.getElem?_eq_getElem h, List.getD_eq_getElem?_getD, List.getElem?_eq_getElem h]; rfl
theorem drop_getD {α : Type} (l : List α) (z : α) (k : Nat) (h : k < l.length) : l = l.take k ++ l.getD k z :: l.drop (k + 1) := by
  rw [List.getD_eq_getElem?_getD, List.getElem?_eq_getElem h]
  exact (by rw [Option.getD_some, ← List.drop_eq_getElem_cons h, List.take_append_drop])
/-- What a clock's task may be, as far as Of asks. -/
def okOf (t : S44) : Prop := mayC t.f0.f0 t.f0.f1 = true ∧ ∀ r ∈ t.f4, r.f3.f0.length ≤ 4096 ∧ r.f3.f1.length ≤ 4096 ∧ 1 ≤ r.f3.f1.length
/-- Prefix and period as long as nothing is too long. -/
def inOf (st : Int × Int) : Prop := 0 ≤ st.1 ∧ st.1 ≤ 9007199254740992 ∧ 1 ≤ st.2 ∧ st.2 ≤ 17592186044416
theorem mxI_le {a b c : Int} (ha : a ≤ c) (hb : b ≤ c) : mxI a b ≤ c := by unfold mxI; split <;> assumption
theorem le_mxI (a b : Int) : a ≤ mxI a b ∧ b ≤ mxI a b := by unfold mxI; split <;> omega
theorem lcmV_pos {a b : Int} (ha : 1 ≤ a) (hb : 1 ≤ b) : 1 ≤ lcmV a b := by
  unfold lcmV
  have h1 : 1 ≤ a.natAbs / Nat.gcd a.natAbs b.natAbs := Nat.div_pos (Nat.le_of_dvd (by omega) (Nat.gcd_dvd_left _ _)) (Nat.gcd_pos_of_pos_left _ (by omega))
  have h2 : 1 ≤ b.natAbs := by omega
  have := Nat.mul_le_mul h1 h2
  omega
theorem len_mul {p : Int} {n : Nat} (h0 : 0 ≤ p) (h1 : p ≤ 1099511627776) (hn : n ≤ 4096) : 0 ≤ (n : Int) * p ∧ (n : Int) * p ≤ 4503599627370496 := by
  constructor
  · exact Int.mul_nonneg (by omega) h0
  · calc (n : Int) * p ≤ 4096 * p := Int.mul_le_mul_of_nonneg_right (by omega) h0
      _ ≤ 4503599627370496 := by omega
theorem inOf_step {p s : Int} {r : S69} {st x : Int × Int} (hp0 : 1 ≤ p) (hp : p ≤ 1099511627776) (hs : s ≤ 1099511627776) (hr : r.f3.f0.length ≤ 4096 ∧ r.f3.f1.length ≤ 4096 ∧ 1 ≤ r.f3.f1.length) (h : inOf st) (hx : stepOf p s st r = some x) : inOf x := by
  unfold stepOf at hx
  split at hx
  · rename_i hc
    cases hx
    have := len_mul (show 0 ≤ p by omega) hp hr.1
    have hl : 1 ≤ p * (r.f3.f1.length : Int) := by
      have h1 : p * 1 ≤ p * (r.f3.f1.length : Int) := Int.mul_le_mul_of_nonneg_left (by omega) (by omega)
      rw [Int.mul_one] at h1
      omega
    exact ⟨Int.le_trans h.1 (le_mxI _ _).1, mxI_le h.2.1 (by omega), lcmV_pos h.2.2.1 hl, hc.2⟩
  · cases hx
theorem inOf_task {st : Int × Int} {s : Int} (hs : s ≤ 1099511627776) (h : inOf st) : inOf (mxI st.1 s, st.2) := ⟨Int.le_trans h.1 (le_mxI _ _).1, mxI_le h.2.1 (by omega), h.2.2.1, h.2.2.2⟩
theorem inOf_foldR {p s : Int} (hp0 : 1 ≤ p) (hp : p ≤ 1099511627776) (hs : s ≤ 1099511627776) : ∀ (rs : List S69) (st x : Int × Int), (∀ r ∈ rs, r.f3.f0.length ≤ 4096 ∧ r.f3.f1.length ≤ 4096 ∧ 1 ≤ r.f3.f1.length) → inOf st → foldR p s rs st = some x → inOf x
  | [], st, x, _, h, hx => by cases hx; exact h
  | r :: rs, st, x, hr, h, hx => by
    simp only [foldR] at hx
    cases hy : stepOf p s st r with
    | none => rw [hy] at hx; cases hx
    | some y =>
      rw [hy] at hx
      exact inOf_foldR hp0 hp hs rs y x (fun z hz => hr z (List.mem_cons_of_mem _ hz)) (inOf_step hp0 hp hs (hr r List.mem_cons_self) h hy) hx
theorem inOf_foldT : ∀ (l : List S44) (st x : Int × Int), (∀ t ∈ l, okOf t) → inOf st → foldT l st = some x → inOf x
  | [], st, x, _, h, hx => by cases hx; exact h
  | t :: l, st, x, hl, h, hx => by
    simp only [foldT] at hx
    have ht := hl t List.mem_cons_self
    obtain ⟨p1, p2, s1, s2⟩ := mayC_spec ht.1
    cases hy : foldR t.f0.f0 t.f0.f1 t.f4 (mxI st.1 t.f0.f1, st.2) with
    | none => rw [hy] at hx; cases hx
    | some y =>
      rw [hy] at hx
      exact inOf_foldT l y x (fun z hz => hl z (List.mem_cons_of_mem _ hz)) (inOf_foldR p1 p2 s2 _ _ _ ht.2 (inOf_task s2 h) hy) hx
theorem cntJ_in {P H : Int} {t : S44} (ht : mayC t.f0.f0 t.f0.f1 = true) (hP : 0 ≤ P) (hP2 : P ≤ 17592186044416) (hH : 0 ≤ H) (hH2 : H ≤ 17592186044416) : 0 ≤ cntJ P H t ∧ cntJ P H t ≤ 35184372088832 := by
  obtain ⟨p1, p2, s1, s2⟩ := mayC_spec ht
  unfold cntJ
  have a := belowN_nonneg (s := t.f0.f1) (u := P) p1
  have b := belowN_le (u := P) p1 s1 hP
  have c := quo_le p1 hH
  omega
theorem cntT_in {P H : Int} (hP : 0 ≤ P) (hP2 : P ≤ 17592186044416) (hH : 0 ≤ H) (hH2 : H ≤ 17592186044416) : ∀ (l : List S44) (n m : Int), (∀ t ∈ l, okOf t) → 0 ≤ n → n ≤ 1024 → cntT P H l n = some m → 0 ≤ m ∧ m ≤ 1024
  | [], n, m, _, h0, h1, h => by cases h; exact ⟨h0, h1⟩
  | t :: l, n, m, hl, h0, h1, h => by
    simp only [cntT] at h
    split at h
    · cases h
    · have := cntJ_in (hl t List.mem_cons_self).1 hP hP2 hH hH2
      exact cntT_in hP hP2 hH hH2 l _ m (fun z hz => hl z (List.mem_cons_of_mem _ hz)) (by omega) (by omega) h
end Go.Proofs.Ytkabmpbfabgkfaa
