/-
  The Go function carillonlaw25.HeapOrder returns true at every row of jobs and every other order (jobs come in the same order, in whatever order they were put), and its arguments read as before.
  Conditions: none beyond the row's own.
-/
import Derived.Test.YtbplaiooipldlaaAr
import Derived.Test.YtbplaiooipldlaaOr
import Derived.ProofKit
import Derived.OpenShut
set_option linter.unusedVariables false
set_option linter.unusedSimpArgs false
namespace Go.Proofs.Ytbplaiooipldlaa.heapOrder
open Go.ChangeShapes Go.WideShapes Go.ChangeAt Go.RowKit Go.Deep Hp
theorem own : ownKnob Try.prog.godebug = none := by kernel_rfl
theorem uCells : Try.prog.cellsOf 48 = 1 := by kernel_rfl
theorem ints_of {H : Type} {enc : TypeId × Value → H} {W : World} {sp : Nat → Bool} {held : Bool} {p : Option Addr} {len cap : Nat} {d : DataW H} {ps : List MemPlace} (h : DataW.Trod enc Try.prog W 0 sp held 47 (.slice p len cap) d ps) (h0 : 0 < len) :
    ∃ (ab ao : Nat), p = some ⟨ab, ao, none⟩ ∧ ab < W.heap.size ∧ ∀ i, i < len → ∃ u : Nat, u < 65536 ∧ W.cell? ⟨ab, ao + i, none⟩ = some (.int .u16 u) := by
  obtain ⟨fuel, hf⟩ := h
  rcases open_slice Try.underlying47 hf with ⟨hcs, _⟩ | ⟨a, len', cap', m, n, D, Pl, hcs, hb, hl, hm, hmm, hx, hi⟩
  · simp [Value.cells] at hcs
    omega
  · simp [Value.cells] at hcs
    obtain ⟨rfl, rfl, rfl⟩ := hcs
    have hlm : len ≤ m := by
      subst hmm
      split <;> omega
    have key : ∀ i, i < len → ∃ u : Nat, u < 65536 ∧ W.cell? (a.add i) = some (.int .u16 u) := by
      intro i hil
      obtain ⟨cs', hc, ht⟩ := hi i (by omega)
      rw [uCells, Nat.mul_one] at hc
      obtain ⟨v, rfl, _, wv⟩ := DataW.trod_int Try.underlying48 ht
      obtain ⟨_, _, hat⟩ := World.cells?_some hc
      have := hat 0 (by omega)
      have hv : 0 ≤ v ∧ v < 65536 := by
        simp [Lit.wf, IntKind.min, IntKind.max, IntKind.signed, IntKind.bits] at wv
        omega
      refine ⟨v.toNat, by omega, ?_⟩
      rw [Int.toNat_of_nonneg hv.1]
      simpa [Addr.add] using this
    have hspot : a.spot = none := by
      obtain ⟨k, _, h1⟩ := key 0 h0
      simp only [Addr.add, if_pos] at h1
      unfold World.cell? at h1
      split at h1
      · split at h1
        · simp at h1
        · rename_i hs; cases hq : a.spot with
          | none => rfl
          | some s => rw [hq] at hs; simp at hs
      · simp at h1
    obtain ⟨ab, ao, asp⟩ := a
    obtain rfl : asp = none := hspot
    have hadd : ∀ i, (⟨ab, ao, none⟩ : Addr).add i = ⟨ab, ao + i, none⟩ := by intro i; unfold Addr.add; split <;> simp_all
    refine ⟨ab, ao, rfl, ?_, fun i hi => ?_⟩
    · obtain ⟨k, _, h1⟩ := key 0 h0
      exact World.block_lt_of_cell? W ⟨ab, ao, none⟩ h1
    · obtain ⟨u, hu, h1⟩ := key i hi
      rw [hadd] at h1
      exact ⟨u, hu, h1⟩
set_option maxRecDepth 100000 in
theorem lifted (os : Os) (started : os.Started) (H : Type) (enc : TypeId × Value → H) :
    ReturnsInHanded {} Try.checked os 6 .any (Rows.heapOrderSpec.pre6 enc Try.prog Try.f6 Rows.heapOrderRow.domain false) (Rows.heapOrderSpec.post enc Try.prog Try.f6 false true false false) := by
  refine returnsInHanded_of_change (C := Try.checked) own started (by kernel_rfl) Try.func6
    (ChangeSpec.witness6 (enc := enc) (C := Try.checked) false ⟨#[], #[.slice none 0 0, .slice none 0 0], []⟩ 8 (by kernel_rfl) (by kernel_rfl) (by kernel_rfl) (by kernel_rfl)) ?_
  intro W base args ds gs before hval0 hW hcnd _
  have hval : ∀ (j : Nat) t v, Try.f6.params[j]? = some t → args[j]? = some v → Value.okWide Try.prog W .any base t v := hval0
  have hW' := hW
  obtain ⟨p, q, hA0, hV, rfl, hfz, hnd⟩ := hW
  have hA : DataW.TrodAll enc Try.prog W 0 (fun _ => true) true Try.f6.params.toList args.toList ds p := hA0
  rw [Try.params6] at hA hval
  obtain ⟨v0, vs0, d0, ds0, p0, q0, hargs, rfl, rfl, h0, r0⟩ := trodAll_cons hA
  obtain ⟨v1, vs1, d1, ds1, p1, q1, rfl, rfl, rfl, h1, r1⟩ := trodAll_cons r0
  obtain ⟨rfl, rfl, rfl⟩ := trodAll_nil r1
  obtain rfl : args = #[v0, v1] := by cases args; simp_all
  obtain ⟨rfl, rfl⟩ := trodVars_none hV
  obtain ⟨a0, len, cap, rfl⟩ := okWide_slice Try.underlying22 (hval 0 22 v0 rfl rfl)
  obtain ⟨a1, on, oc, rfl⟩ := okWide_slice Try.underlying47 (hval 1 47 v1 rfl rfl)
  clear hA0 hval0
  simp only [List.append_nil] at hW'
  have hlt : ∀ x ∈ p0 ++ p1, x.block < W.heap.size := fun x hx => by simpa using hW'.lt x hx
  have hargs : ∀ (W' : World), Below W.heap.size W W' → DataW.TrodAll enc Try.prog W' 0 (fun b => decide (b < W.heap.size)) true [22, 47] [.slice a0 len cap, .slice a1 on oc] [d0, d1] (p0 ++ (p1 ++ [])) :=
    fun W' hn => trodAll_cons_mk (Below.trod kLaidOut (by kernel_rfl) (of_decide_eq_true (by kernel_rfl)) h0 hn (fun x hx => hlt x (by simp [hx]))) (trodAll_cons_mk (Below.trod kLaidOut (by kernel_rfl) (of_decide_eq_true (by kernel_rfl)) h1 hn (fun x hx => hlt x (by simp [hx]))) trodAll_mk0)
  by_cases hl : len = 0 ∨ 300 < len ∨ 300 < on
  · refine (HeapOrder_out a0 len cap a1 on oc W hl).mono fun e W' ⟨he, hg⟩ => ?_
    subst he
    exact ⟨_, rfl, _, _, _, [], p0 ++ (p1 ++ []), [], hW', trodAll_cons_mk (shut_bool Try.underlying4 _) trodAll_mk0, hargs _ hg, rfl, hg.frame _, fun h => by cases h⟩
  · obtain ⟨ab, ao, l, rfl, hlen, hs, hwf, hab⟩ := src_of h0 (by omega)
    subst hlen
    refine (HeapOrder_walk l ab ao cap a1 on oc W hs hab (by omega) (by omega) (by omega) (fun h => ints_of h1 h)).mono fun e W' ⟨he, hg⟩ => ?_
    subst he
    exact ⟨_, rfl, _, _, _, [], p0 ++ (p1 ++ []), [], hW', trodAll_cons_mk (shut_bool Try.underlying4 _) trodAll_mk0, hargs _ hg, rfl, hg.frame _, fun h => by cases h⟩
theorem over : Rows.heapOrderRow.holds Try.pinned (OpenSpec.ofChange Rows.heapOrderSpec) :=
  OpenClaim.holds_of_wide 6 Try.f6 rfl rfl rfl rfl rfl rfl rfl ⟨rfl, rfl, rfl, rfl, rfl⟩ rfl rfl rfl rfl rfl (by kernel_rfl) Try.func6 (by kernel_rfl)
    (of_decide_eq_true (by kernel_rfl)) (by unfold Func.isWrapper; first | (rw [if_pos (by decide +kernel)]; kernel_rfl) | (rw [if_neg (by decide +kernel)]; exact ⟨rfl, rfl⟩))
    (fun os started H enc _ => lifted os started H enc)
theorem proved : Rows.HeapOrderSaid := over
#print axioms proved
end Go.Proofs.Ytbplaiooipldlaa.heapOrder
