/-
  The Go function carillonlaw15.UnfoldCounts returns true at every span, every clock and every number (what unfold.Count and Fold answer is what carillonref15.Count and Fold answer), and its arguments read as before.
  Conditions: none beyond the row's own.
-/
import Derived.Test.YtkabmpbfabgkfaaRows
import Derived.Test.YtkabmpbfabgkfaaUg
import Derived.Test.YtkabmpbfabgkfaaWd
import Derived.Test.YtkabmpbfabgkfaaTr
import Derived.WalkKit
import Derived.ProofKit
import Derived.OpenShut
import Derived.Below
import Derived.SizedLaws
set_option linter.unusedVariables false
set_option linter.unusedSimpArgs false
namespace Go.Proofs.Ytkabmpbfabgkfaa.unfoldCounts
open Go.ChangeShapes Go.WideShapes Go.ChangeAt Go.RowKit Go.Proofs.Ytkabmpbfabgkfaa.P
theorem own : ownKnob Try.prog.godebug = none := by kernel_rfl
theorem laidOut : laidOutB Try.prog = true := by kernel_rfl
theorem two_of_23 {H : Type} {enc : TypeId × Value → H} {W : World} {sp : Nat → Bool} {held : Bool} {n : Nat} {cs : List Value} {x : DataW H × List MemPlace} (h : DataW.trod enc Try.prog W 0 sp held n 23 cs = some x) : ∃ k : Int × Int, cs = [.int .i64 k.1, .int .i64 k.2] ∧ (-9223372036854775808 ≤ k.1 ∧ k.1 ≤ 9223372036854775807) ∧ (-9223372036854775808 ≤ k.2 ∧ k.2 ≤ 9223372036854775807) := by
  obtain ⟨xs, m, _, _, hl, hlen, hf⟩ := DataW.trod_struct Try.underlying23 h
  rw [ec23] at hl
  obtain ⟨c0, c1, rfl⟩ := len2 cs hl
  have hlen' : xs.length = 2 := hlen
  obtain ⟨x0, x1, rfl⟩ := lenx2 xs hlen'
  have h0 : DataW.trod enc Try.prog W 0 sp held m 2 (List.take (Try.prog.cellsOf 2) [c0, c1]) = some x0 := hf 0 _ rfl
  rw [ec2] at h0
  obtain ⟨a0, d0, _, w0⟩ := DataW.trod_int Try.underlying2 h0
  simp at d0
  subst d0
  have h1 : DataW.trod enc Try.prog W 0 sp held m 2 (List.take (Try.prog.cellsOf 2) [c1]) = some x1 := hf 1 _ rfl
  rw [ec2] at h1
  obtain ⟨a1, d1, _, w1⟩ := DataW.trod_int Try.underlying2 h1
  simp at d1
  subst d1
  exact ⟨(a0, a1), rfl, bounds_i64 w0, bounds_i64 w1⟩
theorem two_of_25 {H : Type} {enc : TypeId × Value → H} {W : World} {sp : Nat → Bool} {held : Bool} {n : Nat} {cs : List Value} {x : DataW H × List MemPlace} (h : DataW.trod enc Try.prog W 0 sp held n 25 cs = some x) : ∃ k : Int × Int, cs = [.int .i64 k.1, .int .i64 k.2] ∧ (-9223372036854775808 ≤ k.1 ∧ k.1 ≤ 9223372036854775807) ∧ (-9223372036854775808 ≤ k.2 ∧ k.2 ≤ 9223372036854775807) := by
  obtain ⟨xs, m, _, _, hl, hlen, hf⟩ := DataW.trod_struct Try.underlying25 h
  rw [ec25] at hl
  obtain ⟨c0, c1, rfl⟩ := len2 cs hl
  have hlen' : xs.length = 2 := hlen
  obtain ⟨x0, x1, rfl⟩ := lenx2 xs hlen'
  have h0 : DataW.trod enc Try.prog W 0 sp held m 2 (List.take (Try.prog.cellsOf 2) [c0, c1]) = some x0 := hf 0 _ rfl
  rw [ec2] at h0
  obtain ⟨a0, d0, _, w0⟩ := DataW.trod_int Try.underlying2 h0
  simp at d0
  subst d0
  have h1 : DataW.trod enc Try.prog W 0 sp held m 2 (List.take (Try.prog.cellsOf 2) [c1]) = some x1 := hf 1 _ rfl
  rw [ec2] at h1
  obtain ⟨a1, d1, _, w1⟩ := DataW.trod_int Try.underlying2 h1
  simp at d1
  subst d1
  exact ⟨(a0, a1), rfl, bounds_i64 w0, bounds_i64 w1⟩
set_option maxRecDepth 100000 in
theorem lifted (os : Os) (started : os.Started) (H : Type) (enc : TypeId × Value → H) :
    ReturnsInHanded {} Try.checked os 3 .any (Rows.unfoldCountsSpec.pre6 enc Try.prog Try.f3 Rows.unfoldCountsRow.domain false) (Rows.unfoldCountsSpec.post enc Try.prog Try.f3 false true false false) := by
  refine returnsInHanded_of_change (C := Try.checked) own started (by kernel_rfl) Try.func3
    (ChangeSpec.witness6 (enc := enc) (C := Try.checked) false ⟨#[], #[.agg #[.int .i64 0, .int .i64 0], .agg #[.int .i64 0, .int .i64 0], .int .i64 0], []⟩ 8 (by kernel_rfl) (by kernel_rfl) (by kernel_rfl) (by kernel_rfl)) ?_
  intro W base args ds gs before hval0 hW hcnd _
  have hval : ∀ (j : Nat) t v, Try.f3.params[j]? = some t → args[j]? = some v → Value.okWide Try.prog W .any base t v := hval0
  have hW' := hW
  obtain ⟨p, q, hA0, hV, rfl, hfz, hnd⟩ := hW
  have hA : DataW.TrodAll enc Try.prog W 0 (fun _ => true) true Try.f3.params.toList args.toList ds p := hA0
  rw [Try.params3] at hA hval
  obtain ⟨v0, vs0, d0, ds0, p0, q0, hargs, rfl, rfl, h0, r0⟩ := trodAll_cons hA
  obtain ⟨v1, vs1, d1, ds1, p1, q1, rfl, rfl, rfl, h1, r1⟩ := trodAll_cons r0
  obtain ⟨v2, vs2, d2, ds2, p2, q2, rfl, rfl, rfl, h2, r2⟩ := trodAll_cons r1
  obtain ⟨rfl, rfl, rfl⟩ := trodAll_nil r2
  obtain rfl : args = #[v0, v1, v2] := by cases args; simp_all
  obtain ⟨rfl, rfl⟩ := trodVars_none hV
  obtain ⟨cs0, rfl, hs0⟩ := okWide_struct Try.underlying23 (hval 0 23 v0 rfl rfl)
  have k0 := h0
  have lt0 : ∀ x ∈ p0, x.block < W.heap.size := by obtain ⟨m, hm⟩ := k0; exact DataW.trod_lt m _ _ _ hm
  obtain ⟨fu0, hf0⟩ := h0
  have hcs0 : (Value.agg cs0).cells.toList = cs0.toList := rfl
  rw [hcs0] at hf0
  obtain ⟨s0, hv0, hw0⟩ := two_of_23 hf0
  obtain rfl : cs0 = #[.int .i64 s0.1, .int .i64 s0.2] := by rw [← Array.toList_inj]; exact hv0
  obtain ⟨cs1, rfl, hs1⟩ := okWide_struct Try.underlying25 (hval 1 25 v1 rfl rfl)
  have k1 := h1
  have lt1 : ∀ x ∈ p1, x.block < W.heap.size := by obtain ⟨m, hm⟩ := k1; exact DataW.trod_lt m _ _ _ hm
  obtain ⟨fu1, hf1⟩ := h1
  have hcs1 : (Value.agg cs1).cells.toList = cs1.toList := rfl
  rw [hcs1] at hf1
  obtain ⟨s1, hv1, hw1⟩ := two_of_25 hf1
  obtain rfl : cs1 = #[.int .i64 s1.1, .int .i64 s1.2] := by rw [← Array.toList_inj]; exact hv1
  obtain ⟨a2, rfl, rfl, rfl, w2⟩ := open_int Try.underlying2 (hval 2 2 v2 rfl rfl) h2
  clear hA0 hval0
  have b2 := bounds_i64 w2
  have hcall := counts_with (fun w => works_any w) W s0.1 s0.2 s1.1 s1.2 a2 hw1.1.1 hw1.1.2 hw1.2.1 hw1.2.2 hw0.1.1 hw0.1.2 hw0.2.1 hw0.2.2 b2.1 b2.2
  refine hcall.mono fun e W' ⟨he, bel⟩ => ?_
  subst he
  exact ⟨_, rfl, _, _, _, [], _, [], hW', trodAll_cons_mk (shut_bool Try.underlying4 _) trodAll_mk0, (trodAll_cons_mk (Below.trod laidOut (by kernel_rfl) (of_decide_eq_true (by kernel_rfl)) k0 bel lt0) (trodAll_cons_mk (Below.trod laidOut (by kernel_rfl) (of_decide_eq_true (by kernel_rfl)) k1 bel lt1) (trodAll_cons_mk (shut_int Try.underlying2 w2) trodAll_mk0))), rfl, bel.frame _, fun h => by cases h⟩
theorem over : Rows.unfoldCountsRow.holds Try.pinned (OpenSpec.ofChange Rows.unfoldCountsSpec) :=
  OpenClaim.holds_of_wide 3 Try.f3 rfl rfl rfl rfl rfl rfl rfl ⟨rfl, rfl, rfl, rfl, rfl⟩ rfl rfl rfl rfl rfl (by kernel_rfl) Try.func3 (by kernel_rfl)
    (of_decide_eq_true (by kernel_rfl)) (by unfold Func.isWrapper; first | (rw [if_pos (by decide +kernel)]; kernel_rfl) | (rw [if_neg (by decide +kernel)]; exact ⟨rfl, rfl⟩))
    (fun os started H enc _ => lifted os started H enc)
theorem proved : Rows.UnfoldCountsSaid := over
#print axioms proved
end Go.Proofs.Ytkabmpbfabgkfaa.unfoldCounts
