/-
  deps.values: a dep's head and its loop, one by one, with their places: the iterator's contract.
  Conditions: the dep's rows lie in memory, ahead of all that the loop's body writes.
-/
import Derived.Test.YtkabmpbfabgkfaaPx0
import Derived.RangeFuncNested
import Derived.RangeFuncBox
import Derived.RangeFuncBound
import Derived.RangeFuncCalls
import Derived.RangeFuncLeaves
import Derived.Shelf.Abstract
import Derived.WalkKit
import Derived.OwnWalkIn
import Derived.TacticsInMore
import Derived.LoopNIn
import Derived.LoopIn
import Derived.Lib.Hide
set_option linter.unusedVariables false
set_option linter.unusedSimpArgs false
namespace Go.Proofs.Ytkabmpbfabgkfaa.P
open Go.RowKit Go.Shelf Go.Proofs.YtkabmpbfabgkfaaW.PrintWords Go.Proofs.YtkabmpbfabgkfaaW.PrintLast Go.Proofs.YtkabmpbfabgkfaaW.PrintMore
attribute [local go_sem] Oper.semAt_some
/-- What has come when k rounds are over. -/
def upto {α : Type} (f : Nat → α) (k : Nat) : List α := (List.range k).map f
theorem upto_succ {α : Type} (f : Nat → α) (k : Nat) : upto f (k + 1) = upto f k ++ [f k] := by simp [upto, List.range_succ]
theorem upto_length {α : Type} (f : Nat → α) (k : Nat) : (upto f k).length = k := by simp [upto]
/-- The k-th source of a dep: its place, and what it is. -/
def srcs (h l : List S79) (k : Nat) : Nat × S79 := (k, if k < h.length then rd_T79 h k else rd_T79 l ((k - h.length : Nat) : Int))
theorem srcs_head (h l : List S79) (k : Nat) (hk : k < h.length) : srcs h l k = (k, rd_T79 h k) := by unfold srcs; rw [if_pos hk]
theorem srcs_loop (h l : List S79) (k : Nat) : srcs h l (h.length + k) = (h.length + k, rd_T79 l k) := by unfold srcs; rw [if_neg (by omega), show h.length + k - h.length = k by omega]
def intOf : Value → Int
  | .int _ i => i
  | _ => 0
def encS (x : Nat × S79) : Array Value := #[Value.int .i64 (x.1 : Int), Value.agg #[.bool x.2.f0, .int .i64 x.2.f1, .int .i64 x.2.f2]]
/-- What a round keeps: all below n₀, and the block of the dep that is told. -/
def Keep (n₀ Bd : Nat) (W W' : World) : Prop := Below n₀ W W' ∧ W'.heap[Bd]? = W.heap[Bd]?
theorem Keep.trans {n₀ Bd : Nat} {A B C : World} (h : Keep n₀ Bd A B) (k : Keep n₀ Bd B C) : Keep n₀ Bd A C := ⟨h.1.trans k.1, k.2.trans h.2⟩
theorem Keep.cell {n₀ Bd : Nat} {A B : World} (h : Keep n₀ Bd A B) (i : Nat) : B.cell? ⟨Bd, i, none⟩ = A.cell? ⟨Bd, i, none⟩ := by simp only [World.cell?, h.2]
theorem Keep.alloc {n₀ Bd : Nat} {A B : World} (h : Keep n₀ Bd A B) (hn : n₀ ≤ A.heap.size) (hB : Bd < A.heap.size) (o : Obj) : Keep n₀ Bd A (B.alloc o) :=
  ⟨h.1.alloc (Nat.le_trans hn h.1.size) _, (Below.heap_alloc B _ Bd (Nat.lt_of_lt_of_le hB h.1.size)).trans h.2⟩
set_option maxRecDepth 100000 in
set_option maxHeartbeats 4000000 in
theorem values1_in (F : Fence) (n : Nat) (h71 : F.fn 71) (hro : F.round = none) (hn : 1 ≤ n) (lp Bd n₀ : Nat) (A0 A1 : Option Addr) (c0 c1 : Nat) (h l : List S79) (st : Int) {α : Type} (g : Nat → α) (en : α → Array Value) (hen : ∀ k, k < h.length + l.length → en (g k) = encS (srcs h l k)) (J Jx : List α → World → Prop) (W : World)
    (hJ : AbidesFrom W.heap.size J)
    (hn₀ : n₀ ≤ W.heap.size) (hBd : Bd < W.heap.size) (hlen : h.length + l.length ≤ 9223372036854775807)
    (hY : ∀ pre x W1, J pre W1 → pre.length < h.length + l.length → YieldAt F (n - 1) Try.prog lp (en x) W1 fun e W' =>
      (e = .returned (.bool true) ∧ J (pre ++ [x]) W' ∧ Keep n₀ Bd W1 W') ∨ (e = .returned (.bool false) ∧ Jx (pre ++ [x]) W'))
    (hc0 : W.cell? ⟨Bd, 0, none⟩ = some (.slice A0 h.length c0)) (hc1 : W.cell? ⟨Bd, 1, none⟩ = some (.slice A1 l.length c1))
    (hr0 : ∀ W', Below n₀ W W' → Kd.C k79 W' A0 h.length h) (hr1 : ∀ W', Below n₀ W W' → Kd.C k79 W' A1 l.length l) (h0 : J [] W) :
    CallsIn F n Try.prog 71 #[.func (.yield lp) #[] #[], .pointer (some ⟨Bd, 0, none⟩)] W fun e W' => (∃ v, e = .returned v) ∧
      ((∃ ys, ys = upto g (h.length + l.length) ∧ J ys W') ∨ (∃ pre, (∃ k, k ≤ h.length + l.length ∧ pre = upto g k) ∧ Jx pre W')) := by
  have HR0 := Lib.hid hr0
  have HR1 := Lib.hid hr1
  have HJ := Lib.hid hJ
  clear hr0 hr1 hJ
  refine callsIn_of_wp Try.func71 rfl h71 ?_ hro
  simp only [Try.ntmps71, List.size_toArray, List.length_cons, List.length_nil, Nat.reduceAdd, Nat.reduceSub, Array.replicate_succ, Array.replicate_zero, List.push_toArray, List.append_toArray, List.nil_append, List.cons_append]
  gi_wp2
  gi_loopw [10] (fun i wr => ∃ k : Nat, k ≤ h.length ∧ i = .int .i64 k ∧ J (upto g (k)) wr ∧ Keep n₀ Bd W wr) (fun i _ => h.length - (intOf i).toNat)
  case atStart => exact ⟨0, Nat.zero_le _, rfl, h0, Below.refl _ _, rfl⟩
  case round =>
    obtain ⟨k, hk, rfl, hJs, hnx⟩ := hrel
    have hsz := hnx.1.size
    by_cases hlt : k < h.length
    · obtain ⟨ad, rfl, s0, s1, s2⟩ := at_T79 (HR0.out wr hnx.1) k (by omega) (by omega)
      rw [Int.toNat_natCast] at s0 s1 s2
      have hJa := HJ.out _ _ (wr.alloc (.cells #[.bool (rd_T79 h k).f0, .int .i64 (rd_T79 h k).f1, .int .i64 (rd_T79 h k).f2] 79)) none hJs (World.grownBy_alloc wr _ none) (fun r e => by cases e)
      obtain ⟨fn, tmps, assign, body, hy, hR⟩ := hY _ (g (k)) _ hJa (by rw [upto_length]; omega)
      rw [hen _ (by omega), srcs_head h l k hlt] at hy
      unfold encS at hy
      dsimp only at hy
      have e1 : (k : Int) < h.length := by omega
      have e2 : (0 : Int) ≤ k := by omega
      have e3 : IntKind.i64.wrap ((k : Int) + 1) = (k : Int) + 1 := by rw [IntKind.wrap_i64]; omega
      have hup : Hid (upto g (k) ++ [g (k)] = upto g (k + 1)) := Lib.hid (upto_succ _ _).symm
      generalize rd_T79 h k = x at *
      gi_wp2
      refine hR.mono ?_
      rintro e W3 (⟨rfl, hJ3, hk3⟩ | ⟨rfl, hJx3⟩)
      · have hb3 : Keep n₀ Bd W W3 := (hnx.alloc hn₀ hBd _).trans hk3
        rw [hup.out] at hJ3
        gi_wp2
        go_roundw
        case rel => exact ⟨k + 1, by omega, by simp, hJ3, hb3⟩
        case measure => simp [intOf]; omega
      · rw [hup.out] at hJx3
        gi_wp2
        refine bodyPost_ret (results_none rfl _ _ _) rfl ?_
        exact ⟨⟨_, rfl⟩, .inr ⟨_, ⟨k + 1, by omega, rfl⟩, hJx3⟩⟩
    · obtain rfl : k = h.length := by omega
      have e1 : ¬ ((h.length : Int) < h.length) := by omega
      have d1 := (hnx.cell 1).trans hc1
      gi_wp2
      obtain ⟨wo, hwo⟩ : ∃ wo : World, wo = wr := ⟨_, rfl⟩
      rw [← hwo] at hJs hnx d1 ⊢
      clear hwo hk hlt hsz
      gi_loopw [24] (fun i wr => ∃ k : Nat, k ≤ l.length ∧ i = .int .i64 k ∧ J (upto g (h.length + k)) wr ∧ Keep n₀ Bd W wr) (fun i _ => l.length - (intOf i).toNat)
      case atStart => exact ⟨0, Nat.zero_le _, rfl, hJs, hnx⟩
      case round =>
        obtain ⟨k, hk, rfl, hJs, hnx⟩ := hrel
        have hsz := hnx.1.size
        by_cases hlt : k < l.length
        · obtain ⟨ad, rfl, s0, s1, s2⟩ := at_T79 (HR1.out wr hnx.1) k (by omega) (by omega)
          rw [Int.toNat_natCast] at s0 s1 s2
          have hJa := HJ.out _ _ (wr.alloc (.cells #[.bool (rd_T79 l k).f0, .int .i64 (rd_T79 l k).f1, .int .i64 (rd_T79 l k).f2] 79)) none hJs (World.grownBy_alloc wr _ none) (fun r e => by cases e)
          obtain ⟨fn, tmps, assign, body, hy, hR⟩ := hY _ (g (h.length + k)) _ hJa (by rw [upto_length]; omega)
          rw [hen _ (by omega), srcs_loop h l k] at hy
          unfold encS at hy
          dsimp only at hy
          have e1 : (k : Int) < l.length := by omega
          have e2 : (0 : Int) ≤ k := by omega
          have e3 : IntKind.i64.wrap ((k : Int) + 1) = (k : Int) + 1 := by rw [IntKind.wrap_i64]; omega
          have hup : Hid (upto g (h.length + k) ++ [g (h.length + k)] = upto g (h.length + k + 1)) := Lib.hid (upto_succ _ _).symm
          have e4 : (h.length : Int) + (k : Int) ≤ 9223372036854775807 := by omega
          rw [Int.natCast_add] at hy
          have d0 := (hnx.cell 0).trans hc0
          have hBw : Bd < wr.heap.size := by omega
          generalize rd_T79 l k = x at *
          gi_wp2
          refine hR.mono ?_
          rintro e W3 (⟨rfl, hJ3, hk3⟩ | ⟨rfl, hJx3⟩)
          · have hb3 : Keep n₀ Bd W W3 := (hnx.alloc hn₀ hBd _).trans hk3
            rw [hup.out] at hJ3
            gi_wp2
            go_roundw
            case rel => exact ⟨k + 1, by omega, by simp, hJ3, hb3⟩
            case measure => simp [intOf]; omega
          · rw [hup.out] at hJx3
            gi_wp2
            refine bodyPost_ret (results_none rfl _ _ _) rfl ?_
            exact ⟨⟨_, rfl⟩, .inr ⟨_, ⟨h.length + k + 1, by omega, rfl⟩, hJx3⟩⟩
        · obtain rfl : k = l.length := by omega
          have e1 : ¬ ((l.length : Int) < l.length) := by omega
          gi_wp2
          go_end0
          first
            | exact ⟨⟨_, rfl⟩, .inl hJs⟩
            | exact ⟨⟨_, rfl⟩, .inl ⟨_, rfl, hJs⟩⟩
end Go.Proofs.Ytkabmpbfabgkfaa.P
