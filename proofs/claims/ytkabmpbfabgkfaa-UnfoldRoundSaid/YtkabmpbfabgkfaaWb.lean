/-
  unfold.Of and unfold.Needs: contracts.
  Conditions: the rows lie in memory.
-/
import Derived.Test.YtkabmpbfabgkfaaJc
import Derived.Test.YtkabmpbfabgkfaaOb
import Derived.Test.YtkabmpbfabgkfaaPt
import Derived.Test.YtkabmpbfabgkfaaNe
import Derived.WalkKit
import Derived.WalkSpells
import Derived.WalkLawsBesides
import Derived.Deep.QuietTactic
import Derived.BigQuiet
import Derived.Lib.Hide
import Derived.Handy
import Derived.Deep.AppendLies
import Derived.Maps.AppendAt
import Derived.OwnWalk
import Derived.Lib.LazyBuf
import Derived.Deep.DeepCutAuto
import Derived.Deep.RegionLaw
import Derived.Deep.RegionHeld3
import Derived.Deep.RegionWith
import Derived.BigRegion
import Derived.Deep.CutBlock
import Derived.LoopN
import Derived.Shelf.SlSortCmp.WholeK
import Derived.Shelf.SlSortCmp.NoneTotal
import Derived.Laws.AppendOwn
set_option linter.unusedVariables false
set_option linter.unusedSimpArgs false
namespace Go.Proofs.Ytkabmpbfabgkfaa
open Go.RowKit 
open Big
attribute [local go_sem] setCell_drewN alloc_drewN size_ext ext_ext ext_drewN ext_drew drewN_ext drew_ext cell?_ext frozen?_ext setCell_ext cell?_past1 frozen?_past1 setCell_past1 cell?_past2 frozen?_past2 setCell_past2 cell?_past3 frozen?_past3 setCell_past3 cell?_past4 frozen?_past4 setCell_past4 cell?_past5 frozen?_past5 setCell_past5 cell?_past6 frozen?_past6 setCell_past6 cell?_past7 frozen?_past7 setCell_past7 cell?_past8 frozen?_past8 setCell_past8
open Go.Proofs.Ytkabmpbfabgkfaa.P Go.Proofs.YtkabmpbfabgkfaaW.PrintWords Go.Proofs.YtkabmpbfabgkfaaW.PrintLast Go.Proofs.YtkabmpbfabgkfaaW.PrintMore
open Go.Shelf Go.Lib Go.Sort
/-- What Needs hands back. -/
def NeedsPost (w : World) (L : List S51) (e : Ending) (w' : World) : Prop := ∃ A cap, e = .returned (.tuple #[.slice A L.length cap, .int .i64 0]) ∧ Kd.C k51 w' A L.length L ∧ Below w.heap.size w w'
theorem Needs_any (w : World) (x : S44) (n : Int) (A5 : Option Addr) (c5 : Nat) (h0 : 0 ≤ n) (hn : n ≤ 9223372036854775807) (hl : x.f4.length ≤ 32) (hok : needsOk n x.f4 = true) (hr : Kd.C k69 w A5 x.f4.length x.f4) (hc : x.f4.length ≤ c5) :
    Calls Try.prog 15 #[.agg #[.int .i64 x.f0.f0, .int .i64 x.f0.f1, .int .i64 x.f1, .int .i64 x.f2, .int .i64 x.f3, .slice A5 x.f4.length c5, .int .i64 x.f5], .int .i64 n] w (NeedsPost w (needsL n x.f4)) := by
  obtain ⟨k, hk⟩ := Needs_f x.f0.f0 x.f0.f1 x.f1 x.f2 x.f3 x.f5 n x.f4 h0 hn hl hok
  refine (unfold_Needs.calls k x.f0.f0 x.f0.f1 x.f1 x.f2 x.f3 A5 c5 x.f4 x.f5 n _ 0 w hr hc hk).mono ?_
  rintro e w' ⟨v, rfl, hv, hb⟩
  obtain ⟨A, c, rfl, _, hC⟩ := Kd.R_reads hv
  exact ⟨A, c, rfl, hC, hb⟩
theorem okOf_of {l : List S44} {ins : List S25} (h : mayTs l ins = true) : ∀ t ∈ l, okOf t := by
  unfold mayTs at h
  simp only [Bool.and_eq_true] at h
  intro t ht
  have h1 := List.all_eq_true.1 h.2.2.2.1 t ht
  have h2 := List.all_eq_true.1 h.2.2.2.2 t ht
  refine ⟨?_, fun r hr => ?_⟩
  · unfold mayT at h1
    rw [Bool.and_eq_true] at h1
    exact h1.1
  · have h3 := List.all_eq_true.1 h2 r hr
    unfold rdOk mayR at h3
    simp only [Bool.and_eq_true] at h3
    have := mayD_len h3.2.1
    exact ⟨this.2.2.1, this.2.1, this.1⟩
theorem Of_call (w : World) (A0 A1 : Option Addr) (c0 c1 : Nat) (l : List S44) (ins : List S25) (hl : l.all inTask = true) (hi : ins.all ok25 = true) (hr0 : Kd.C k44 w A0 l.length l) (hc0 : l.length ≤ c0) (hr1 : Kd.C k25 w A1 ins.length ins) (hc1 : ins.length ≤ c1) :
    Calls Try.prog 13 #[.slice A0 l.length c0, .slice A1 ins.length c1] w fun e w' => e = .returned (.tuple #[.agg #[.int .i64 (ofF (mayTs l ins) l).1, .int .i64 (ofF (mayTs l ins) l).2.1], .int .i64 (ofF (mayTs l ins) l).2.2]) ∧ Below w.heap.size w w' := by
  obtain ⟨k, hk⟩ := (tasks_May_f l ins hl hi).rounds
  refine Of_any w A0 A1 c0 c1 l ins (mayTs l ins) (fun W hb => ?_) (fun h => okOf_of h) hr0
  exact tasks_May.calls k A0 c0 l A1 c1 ins _ W (Kd.C_below hr0 hb) hc0 (Kd.C_below hr1 hb) hc1 hk
end Go.Proofs.Ytkabmpbfabgkfaa
