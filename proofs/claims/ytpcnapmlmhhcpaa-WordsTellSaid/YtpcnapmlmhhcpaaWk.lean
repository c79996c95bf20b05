/-
  words.by: what two numbers are put together by.
  No condition.
-/
import Derived.Test.YtpcnapmlmhhcpaaWj
import Derived.WalkKit
import Derived.WalkSpells
import Derived.WalkLawsBesides
import Derived.Deep.QuietTactic
import Derived.BigQuiet
import Derived.Lib.Hide
import Derived.Handy
import Derived.Deep.AppendLies
import Derived.Maps.AppendAt
import Derived.OwnWalk
import Derived.Lib.LazyBuf
import Derived.Deep.DeepCutAuto
import Derived.Deep.RegionLaw
import Derived.Deep.RegionHeld3
import Derived.Deep.RegionWith
import Derived.BigRegion
set_option linter.unusedVariables false
set_option linter.unusedSimpArgs false
namespace Go.Proofs.Ytpcnapmlmhhcpaa
open Go.RowKit 
attribute [local go_sem] setCell_drewN alloc_drewN size_ext ext_ext ext_drewN ext_drew drewN_ext drew_ext cell?_ext frozen?_ext setCell_ext cell?_past1 frozen?_past1 setCell_past1 cell?_past2 frozen?_past2 setCell_past2 cell?_past3 frozen?_past3 setCell_past3 cell?_past4 frozen?_past4 setCell_past4 cell?_past5 frozen?_past5 setCell_past5 cell?_past6 frozen?_past6 setCell_past6 cell?_past7 frozen?_past7 setCell_past7 cell?_past8 frozen?_past8 setCell_past8

def byF (op : Int) : Value := if op = 1 then .func (.func 49) #[] #[] else if op = 2 then .func (.func 50) #[] #[] else if op = 3 then .func (.func 51) #[] #[] else if op = 4 then .func (.func 52) #[] #[] else Value.nilFunc
theorem ret_v {x y : Value} (h : x = y) : Ending.returned x = Ending.returned y := by rw [h]
set_option maxHeartbeats 1000000 in
theorem by_any (w : World) (op : Int) : Calls Try.prog 35 #[.int .u8 op] w fun e w' => e = .returned (byF op) ∧ w = w' := by
  by_cases h1 : op = 1
  · subst h1
    go_enter Try.func35, Try.ntmps35
    go_wp2
    go_ret
    exact ⟨rfl, rfl⟩
  · have e1 : (op == 1) = false := beq_false_of_ne h1
    by_cases h2 : op = 2
    · subst h2
      go_enter Try.func35, Try.ntmps35
      go_wp2
      go_ret
      exact ⟨rfl, rfl⟩
    · have e2 : (op == 2) = false := beq_false_of_ne h2
      by_cases h3 : op = 3
      · subst h3
        go_enter Try.func35, Try.ntmps35
        go_wp2
        go_ret
        exact ⟨rfl, rfl⟩
      · have e3 : (op == 3) = false := beq_false_of_ne h3
        by_cases h4 : op = 4
        · subst h4
          go_enter Try.func35, Try.ntmps35
          go_wp2
          go_ret
          exact ⟨rfl, rfl⟩
        · have e4 : (op == 4) = false := beq_false_of_ne h4
          have H : Hid (Value.nilFunc = byF op) := Lib.hid (by unfold byF; rw [if_neg h1, if_neg h2, if_neg h3, if_neg h4])
          clear h1 h2 h3 h4
          go_enter Try.func35, Try.ntmps35
          go_wp2
          go_ret
          exact ⟨ret_v H.out, rfl⟩
end Go.Proofs.Ytpcnapmlmhhcpaa
