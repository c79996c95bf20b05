/-
  The reference's May, At and Short: contracts.
  Conditions: the rows lie in memory; at most a million numbers.
-/
import Derived.Test.YtpcnapmlmhhcpaaWv2
import Derived.Test.YtpcnapmlmhhcpaaCg
import Derived.WalkKit
import Derived.WalkSpells
import Derived.WalkLawsBesides
import Derived.Deep.QuietTactic
import Derived.BigQuiet
import Derived.Lib.Hide
import Derived.Handy
import Derived.Deep.AppendLies
import Derived.Maps.AppendAt
import Derived.OwnWalk
import Derived.Lib.LazyBuf
import Derived.Deep.DeepCutAuto
import Derived.Deep.RegionLaw
import Derived.Deep.RegionHeld3
import Derived.Deep.RegionWith
import Derived.BigRegion
import Derived.Deep.CutBlock
set_option linter.unusedVariables false
set_option linter.unusedSimpArgs false
namespace Go.Proofs.Ytpcnapmlmhhcpaa
open Go.RowKit 
open Big
attribute [local go_sem] setCell_drewN alloc_drewN size_ext ext_ext ext_drewN ext_drew drewN_ext drew_ext cell?_ext frozen?_ext setCell_ext cell?_past1 frozen?_past1 setCell_past1 cell?_past2 frozen?_past2 setCell_past2 cell?_past3 frozen?_past3 setCell_past3 cell?_past4 frozen?_past4 setCell_past4 cell?_past5 frozen?_past5 setCell_past5 cell?_past6 frozen?_past6 setCell_past6 cell?_past7 frozen?_past7 setCell_past7 cell?_past8 frozen?_past8 setCell_past8
set_option maxHeartbeats 1000000 in
theorem rmay_any (w : World) (vh vl : Value) (h l : List Int) (h1 : RowAt w vh h) (h2 : RowAt w vl l) : Calls Try.prog 17 #[.agg #[vh, vl]] w fun e w' => e = .returned (.bool (may h l)) ∧ Below w.heap.size w w' := by
  obtain ⟨p1, c1, rfl, _⟩ := h1
  obtain ⟨p2, c2, rfl, _⟩ := h2
  by_cases a1 : 1 ≤ l.length
  · have e1 : decide ((l.length : Int) ≥ 1) = true := decide_eq_true (by omega)
    have e2 : (1 : Int) ≤ l.length := by omega
    by_cases a2 : l.length ≤ 4096
    · have e3 : decide ((l.length : Int) ≤ 4096) = true := decide_eq_true (by omega)
      have e4 : (l.length : Int) ≤ 4096 := by omega
      have H := Lib.hid (show decide ((h.length : Int) ≤ 4096) = may h l by
        unfold may
        rw [decide_eq_true a1, decide_eq_true a2, Bool.true_and, Bool.true_and]
        exact decide_eq_decide.2 (by omega))
      clear a1 a2
      generalize h.length = n1 at *
      generalize l.length = n2 at *
      go_enter Try.func17, Try.ntmps17
      go_wp2
      go_ret
      exact ⟨ret_b (by first | exact H.out | (rw [← H.out]; exact decide_eq_decide.2 (by omega))), by repeat (first | (with_reducible exact Below.refl _ _) | (with_reducible assumption) | (with_reducible refine below_drewN ?_ _) | (with_reducible refine Below.drew ?_) | (with_reducible refine below_ext_of ?_ (by first | exact Nat.le_refl _ | assumption | (simp only [World.size_alloc, World.size_setCell, size_ext, World.heap_drewN]; omega)) _ _) | (with_reducible refine Below.alloc ?_ (by first | exact Nat.le_refl _ | assumption | (simp only [World.size_alloc, World.size_setCell, size_ext, World.heap_drewN]; omega)) _) | (with_reducible refine Below.setCell ?_ (by first | exact Nat.le_refl _ | assumption | (simp only [World.size_alloc, World.size_setCell, size_ext, World.heap_drewN]; omega)) _))⟩
    · have e3 : decide ((l.length : Int) ≤ 4096) = false := decide_eq_false (by omega)
      have e4 : ¬ ((l.length : Int) ≤ 4096) := by omega
      have H := Lib.hid (show false = may h l by unfold may; rw [decide_eq_false a2, Bool.false_and, Bool.and_false])
      clear a1 a2
      generalize h.length = n1 at *
      generalize l.length = n2 at *
      go_enter Try.func17, Try.ntmps17
      go_wp2
      go_ret
      exact ⟨ret_b H.out, by repeat (first | (with_reducible exact Below.refl _ _) | (with_reducible assumption) | (with_reducible refine below_drewN ?_ _) | (with_reducible refine Below.drew ?_) | (with_reducible refine below_ext_of ?_ (by first | exact Nat.le_refl _ | assumption | (simp only [World.size_alloc, World.size_setCell, size_ext, World.heap_drewN]; omega)) _ _) | (with_reducible refine Below.alloc ?_ (by first | exact Nat.le_refl _ | assumption | (simp only [World.size_alloc, World.size_setCell, size_ext, World.heap_drewN]; omega)) _) | (with_reducible refine Below.setCell ?_ (by first | exact Nat.le_refl _ | assumption | (simp only [World.size_alloc, World.size_setCell, size_ext, World.heap_drewN]; omega)) _))⟩
  · have e1 : decide ((l.length : Int) ≥ 1) = false := decide_eq_false (by omega)
    have e2 : ¬ ((1 : Int) ≤ l.length) := by omega
    have H := Lib.hid (show false = may h l by unfold may; rw [decide_eq_false a1, Bool.false_and])
    clear a1
    generalize h.length = n1 at *
    generalize l.length = n2 at *
    go_enter Try.func17, Try.ntmps17
    go_wp2
    go_ret
    exact ⟨ret_b H.out, by repeat (first | (with_reducible exact Below.refl _ _) | (with_reducible assumption) | (with_reducible refine below_drewN ?_ _) | (with_reducible refine Below.drew ?_) | (with_reducible refine below_ext_of ?_ (by first | exact Nat.le_refl _ | assumption | (simp only [World.size_alloc, World.size_setCell, size_ext, World.heap_drewN]; omega)) _ _) | (with_reducible refine Below.alloc ?_ (by first | exact Nat.le_refl _ | assumption | (simp only [World.size_alloc, World.size_setCell, size_ext, World.heap_drewN]; omega)) _) | (with_reducible refine Below.setCell ?_ (by first | exact Nat.le_refl _ | assumption | (simp only [World.size_alloc, World.size_setCell, size_ext, World.heap_drewN]; omega)) _))⟩
set_option maxHeartbeats 1000000 in
theorem rat_any (w : World) (vh vl : Value) (h l : List Int) (n : Nat) (h1 : RowAt w vh h) (h2 : RowAt w vl l) (hl : 0 < l.length) (hn : n < 9223372036854775808) (hh : h.length < 9223372036854775808) : Calls Try.prog 34 #[.agg #[vh, vl], .int .i64 n] w fun e w' => e = .returned (.int .i64 (num h l n)) ∧ Below w.heap.size w w' := by
  obtain ⟨p1, c1, rfl, _, _, _, r1⟩ := h1
  obtain ⟨p2, c2, rfl, _, _, _, r2⟩ := h2
  by_cases hlt : n < h.length
  · obtain ⟨g, o, rfl, hg, hi⟩ := r1 (by omega)
    have e1 : decide ((n : Int) < h.length) = true := decide_eq_true (by omega)
    have e2 : ¬ ((h.length : Int) ≤ n) := by omega
    have e3 : (n : Int) < h.length := by omega
    have e4 : (0 : Int) ≤ n := by omega
    have s1 := hi n hlt
    have H := Lib.hid (show at_ h n = num h l n by unfold num; rw [if_pos hlt])
    generalize at_ h n = x at *
    clear r2 hi
    generalize h.length = n1 at *
    go_enter Try.func34, Try.ntmps34
    go_wp2
    go_ret
    exact ⟨ret_i H.out, by repeat (first | (with_reducible exact Below.refl _ _) | (with_reducible assumption) | (with_reducible refine below_drewN ?_ _) | (with_reducible refine Below.drew ?_) | (with_reducible refine below_ext_of ?_ (by first | exact Nat.le_refl _ | assumption | (simp only [World.size_alloc, World.size_setCell, size_ext, World.heap_drewN]; omega)) _ _) | (with_reducible refine Below.alloc ?_ (by first | exact Nat.le_refl _ | assumption | (simp only [World.size_alloc, World.size_setCell, size_ext, World.heap_drewN]; omega)) _) | (with_reducible refine Below.setCell ?_ (by first | exact Nat.le_refl _ | assumption | (simp only [World.size_alloc, World.size_setCell, size_ext, World.heap_drewN]; omega)) _))⟩
  · obtain ⟨g, o, rfl, hg, hi⟩ := r2 hl
    have e1 : decide ((n : Int) < h.length) = false := decide_eq_false (by omega)
    have e1b : ¬ ((n : Int) < h.length) := by omega
    have e2 : ((h.length : Int) ≤ n) := by omega
    have H := Lib.hid (show at_ l ((n - h.length) % l.length) = num h l n by unfold num; rw [if_neg hlt])
    have s1 := hi ((n - h.length) % l.length) (Nat.mod_lt _ hl)
    have t0 : IntKind.i64.wrap ((n : Int) - h.length) = ((n - h.length : Nat) : Int) := by rw [IntKind.wrap_i64]; omega
    have t1 : Int.tmod ((n - h.length : Nat) : Int) (l.length : Int) = (((n - h.length) % l.length : Nat) : Int) := by rw [Int.tmod_eq_emod_of_nonneg (by omega)]; omega
    obtain ⟨q, hq⟩ : ∃ q, q = (n - h.length) % l.length := ⟨_, rfl⟩
    have hq2 : q < l.length := by rw [hq]; exact Nat.mod_lt _ hl
    rw [← hq] at s1 t1 H
    have t2 : (q : Int) < l.length := by omega
    have t3 : (0 : Int) ≤ q := by omega
    have t4 : ¬ ((l.length : Int) = 0) := by omega
    have t5 : ((l.length : Int) == 0) = false := beq_false_of_ne t4
    have t6 : ((n : Int) - h.length) = ((n - h.length : Nat) : Int) := by omega
    generalize hmm : n - h.length = m at *
    generalize at_ l q = x at *
    clear r1 hi hq hlt hmm
    generalize h.length = n1 at *
    generalize l.length = n2 at *
    go_enter Try.func34, Try.ntmps34
    go_wp2_with fail
    go_region
    all_goals
      go_wp2_with fail
      go_ret
      exact ⟨ret_i H.out, by repeat (first | (with_reducible exact Below.refl _ _) | (with_reducible assumption) | (with_reducible refine below_drewN ?_ _) | (with_reducible refine Below.drew ?_) | (with_reducible refine below_ext_of ?_ (by first | exact Nat.le_refl _ | assumption | (simp only [World.size_alloc, World.size_setCell, size_ext, World.heap_drewN]; omega)) _ _) | (with_reducible refine Below.alloc ?_ (by first | exact Nat.le_refl _ | assumption | (simp only [World.size_alloc, World.size_setCell, size_ext, World.heap_drewN]; omega)) _) | (with_reducible refine Below.setCell ?_ (by first | exact Nat.le_refl _ | assumption | (simp only [World.size_alloc, World.size_setCell, size_ext, World.heap_drewN]; omega)) _))⟩
theorem run_append_more (W : World) (ty : TypeId) (B : Nat) (v : Value) (xs ys : List Int) (A : Option Addr) (m c : Nat) (ho : Fresh W B v xs) (hr : RowAt W (.slice A m c) ys) (hl : xs.length + ys.length ≤ 4000000) (hB : B ≤ W.heap.size) :
    ∃ v' w', (Builtin.append_ #[22, 22] ty #[v, .slice A m c]).run Try.prog W = .ok v' w' ∧ Fresh w' B v' (xs ++ ys) ∧ W.grownBy w' v.ownBlock := by
  obtain ⟨i0, hi, hz0, hz1, hz2⟩ := info_parts infoI
  obtain ⟨p, cap, hh, h2, h3, h4, h5⟩ := hr
  cases hh
  cases A with
  | none =>
    have h0 := h4 rfl
    obtain rfl : ys = [] := List.eq_nil_of_length_eq_zero h0
    have hrun : (Builtin.append_ #[22, 22] ty #[v, .slice none ([] : List Int).length c]).run Try.prog W = .ok v W := by
      show (Builtin.append_ #[22, 22] ty #[v, .slice none 0 c]).run Try.prog W = .ok v W
      rcases ho.2 with ⟨rfl, hn⟩ | ⟨g, cp, cur, rfl, _, _, hnc, _⟩
      · simp [Builtin.append_, run_underlying Try.underlying22, sizeOf, typeInfo, hi, Builtin.lenOf, Builtin.firstCells]
      · simp [Builtin.append_, run_underlying Try.underlying22, sizeOf, typeInfo, hi, Builtin.lenOf, Builtin.firstCells, hnc, storeCells]
    exact ⟨v, W, hrun, by rw [List.append_nil]; exact ho, World.grownBy.refl W _⟩
  | some ad =>
    obtain ⟨v1, w1, hrun, h2', hg, _, _⟩ := run_append_own_at (P := Try.prog) W B 22 ty 2 i0 (.int .i64 0) 1 8 Try.underlying22 hi hz0 hz1 hz2 rfl (by decide) v xs.length (vals xs) ho ad ys.length c (vals ys) (by rw [vals_length]; simp) (row_news (n := 0) (cap := 0) h5) (vals_one ys) (by unfold maxLen; omega) (by omega) hB
    refine ⟨v1, w1, hrun, ?_, hg⟩
    unfold Fresh
    rw [show vals (xs ++ ys) = vals xs ++ vals ys by simp [vals], List.length_append]
    exact h2'
theorem wpList_append_more {w : World} {ops : Array Oper} {rest : List Oper} {o : Oper} {a : Act} {Q : Exit → Act → World → Prop} (hgd : o.guard = none) (s x : Operand)
    (hop : o.op = .call { callee := .builtin .append, args := #[s, x], argTypes := #[22, 22] })
    (B : Nat) (v : Value) (xs ys : List Int) (A : Option Addr) (m c : Nat) (hs : a.eval s = v) (hx : a.eval x = .slice A m c) (ho : Fresh w B v xs) (hr : RowAt w (.slice A m c) ys) (hl : xs.length + ys.length ≤ 4000000) (hB : B ≤ w.heap.size)
    (h : ∀ v' w', Fresh w' B v' (xs ++ ys) → w.grownBy w' v.ownBlock → wpList Try.prog ops Q rest (a.put o.dst v') w') : wpList Try.prog ops Q (o :: rest) a w := by
  refine wpList_plain hgd fun K hK => ?_
  obtain ⟨v', w', hrun, h2, h3⟩ := run_append_more w o.type B v xs ys A m c ho hr hl hB
  unfold Oper.wp
  simp [execOp, hop, resolve, invoke, builtin, hs, hx, hrun, Result.andThen]
  exact hK _ _ (h v' w' h2 h3)
theorem step_append_more {W : World} {ops : Array Oper} {o : Oper} {a : Act} {Q : Exit → Act → World → Prop} {Kc : Act → World → Prop} (hw : Region.wanted o (yielded ops a.tmps) = true) (s x : Operand)
    (hop : o.op = .call { callee := .builtin .append, args := #[s, x], argTypes := #[22, 22] })
    (B : Nat) (v : Value) (xs ys : List Int) (A : Option Addr) (m c : Nat) (hs : a.eval s = v) (hx : a.eval x = .slice A m c) (ho : Fresh W B v xs) (hr : RowAt W (.slice A m c) ys) (hl : xs.length + ys.length ≤ 4000000) (hB : B ≤ W.heap.size)
    (h : ∀ v' w', Fresh w' B v' (xs ++ ys) → W.grownBy w' v.ownBlock → Kc (a.put o.dst v') w') : if Region.wanted o (yielded ops a.tmps) = true then Oper.wp Try.prog o a W Kc Q else Kc (a.put o.dst undef) W := by
  rw [if_pos hw]
  obtain ⟨v', w', hrun, h2, h3⟩ := run_append_more W o.type B v xs ys A m c ho hr hl hB
  unfold Oper.wp
  simp [execOp, hop, resolve, invoke, builtin, hs, hx, hrun, Result.andThen]
  exact h v' w' h2 h3

theorem grown_none {W W' : World} (h : W.grownBy W' none) : Below W.heap.size W W' := (Below.refl _ _).grown h (Nat.le_refl _) (fun k hk => by cases hk)
theorem cell_of {W : World} {b : Nat} {v0 v1 : Value} {t : TypeId} {fr : Nat × Nat} (h : W.heap[b]? = some (.cells #[v0, v1] t fr)) : W.cell? ⟨b, 0, none⟩ = some v0 ∧ W.cell? ⟨b, 1, none⟩ = some v1 := by
  constructor <;> simp [World.cell?, h]
theorem frozen_of {W : World} {b : Nat} {vs : Array Value} {t : TypeId} (h : W.heap[b]? = some (.cells vs t)) (o : Nat) : W.frozen? ⟨b, o, none⟩ = false := by simp [World.frozen?, h]
theorem set_word0 {W : World} {b : Nat} {v0 v1 : Value} {t : TypeId} (h : W.heap[b]? = some (.cells #[v0, v1] t)) (u : Value) : (W.setCell ⟨b, 0, none⟩ u).heap[b]? = some (.cells #[u, v1] t) := by
  simp only [World.setCell, Array.getElem?_modify, if_pos, h]; rfl
theorem set_word1 {W : World} {b : Nat} {v0 v1 : Value} {t : TypeId} (h : W.heap[b]? = some (.cells #[v0, v1] t)) (u : Value) : (W.setCell ⟨b, 1, none⟩ u).heap[b]? = some (.cells #[v0, u] t) := by
  simp only [World.setCell, Array.getElem?_modify, if_pos, h]; rfl
theorem row_len {w : World} {v : Value} {xs : List Int} {n : Nat} (h : RowAt w v xs) (hn : xs.length = n) (h0 : 0 < n) : ∃ g o cap, v = .slice (some ⟨g, o, none⟩) n cap ∧ n ≤ cap ∧ g < w.heap.size ∧ Ints w g o xs := by
  subst hn; exact row_shape h h0
set_option maxRecDepth 100000 in
set_option maxHeartbeats 8000000 in
theorem rshort_call (w : World) (v : Value) (s : Nat → Int) (h p n : Nat) (x y : List Int) (z : Int) (hn : n = h + 2 * p) (h1 : RowAt w v (tab s n)) (hp : 1 ≤ p) (per : Per s h p) (hh : h ≤ 1100000) (hpp : p ≤ 1100000) (hz : outS s h p = (x, y, z)) :
    Calls Try.prog 44 #[v, .int .i64 (h : Int), .int .i64 (p : Int)] w fun e w' => Below w.heap.size w w' ∧ ∃ p1 c1 p2 c2, e = .returned (.tuple #[.agg #[.slice p1 x.length c1, .slice p2 y.length c2], .int .i64 z]) ∧ RowAt w' (.slice p1 x.length c1) x ∧ RowAt w' (.slice p2 y.length c2) y := by
  have hz2 := (ref_out hp per).symm.trans hz
  obtain ⟨q1, q2, q3, q4⟩ := rQ_spec (rFit_p per hp) p 1 (Nat.le_refl _) hp (by omega) (fun r h1 h2 => by omega)
  obtain ⟨Q, hQ⟩ : ∃ Q, Q = rQ s h p p 1 := ⟨_, rfl⟩
  rw [← hQ] at hz2 q1 q2 q3 q4
  obtain ⟨k1, k2, k3⟩ := rK_spec h ((rFit_iff per q2 q3).1 q1).2
  obtain ⟨K, hK⟩ : ∃ K, K = rK s Q h := ⟨_, rfl⟩
  rw [← hK] at hz2 k2
  have HK := Lib.hid hK
  have HZ := Lib.hid hz2
  have HF := Lib.hid q1
  have HM := Lib.hid q4
  have HV := Lib.hid h1
  obtain ⟨g, o, cap, rfl, hcap, hg, hi⟩ := row_len h1 (tab_length s n) (by omega)
  have HI : Hid (∀ j, j < n → w.cell? ⟨g, o + j, none⟩ = some (.int .i64 (s j))) := Lib.hid (fun j hj => by
    rw [hi j (by rw [tab_length]; exact hj), at_tab _ _ _ hj])
  have HN := Lib.hid hn
  have hnb : n ≤ 4000000 := by omega
  clear hz hz2 hQ hK q1 q4 k1 k3 h1 hi hn per
  go_enter Try.func44, Try.ntmps44
  go_wp2_with fail
  obtain ⟨W, hW⟩ : ∃ W, W = w.alloc (.cells #[.slice none 0 0, .slice none 0 0] 24) := ⟨_, rfl⟩
  rw [← hW]
  have hbW : Below w.heap.size w W := by rw [hW]; exact (Below.refl _ _).alloc (Nat.le_refl _) _
  have kf : ∀ o, W.frozen? ⟨w.heap.size, o, none⟩ = false := fun o => by rw [hW]; simp [go_sem]
  have hwW : w.heap.size < W.heap.size := by rw [hW]; simp [go_sem]
  have hblk : W.heap[w.heap.size]? = some (.cells #[.slice none 0 0, .slice none 0 0] 24) := by rw [hW]; exact heap_alloc_new w _
  have HBW := Lib.hid hbW
  have HKF := Lib.hid kf
  have HBL := Lib.hid hblk
  have hgW : g < W.heap.size := Nat.lt_of_lt_of_le hg hbW.size
  have HIW : Hid (∀ j, j < n → W.cell? ⟨g, o + j, none⟩ = some (.int .i64 (s j))) := Lib.hid (fun j hj => (hbW.cell (p := ⟨g, _, none⟩) hg).trans (HI.out j hj))
  clear hW hbW kf hblk HI
  go_loopw [8] (fun i8 wr => ∃ (q d : Nat), i8 = .int .i64 (q : Int) ∧ 1 ≤ q ∧ q ≤ Q ∧ wr = ext W #[] d) (fun i8 _ => Q - (intOf i8).toNat)
  case atStart => exact ⟨1, W.drawn, rfl, Nat.le_refl _, q2, (ext_nil W).symm⟩
  case round =>
  obtain ⟨q, d, rfl, hq1, hqQ, rfl⟩ := hrel
  have hqp : q ≤ p := by omega
  have e1 : ¬ ((q : Int) = 0) := by omega
  have e2 : ¬ (q = 0) := by omega
  have e3 : Int.tmod (p : Int) (q : Int) = ((p % q : Nat) : Int) := by rw [Int.tmod_eq_emod_of_nonneg (by omega)]; omega
  have e5 : (((p % q : Nat) : Int) == 0) = decide (p % q = 0) := by
    by_cases hm : p % q = 0
    · rw [hm]; rfl
    · rw [decide_eq_false hm]; exact beq_false_of_ne (by omega)
  have hs0 : Hid (Value.bool ((p : Int) % (q : Int) == 0) = .bool (rF s h p q h)) := Lib.hid (congrArg Value.bool (by rw [rF_start, ← e5]; rfl))
  go_wp2_with fail
  clear e3 e5
  go_loopw [9, 10] (fun i9 i10 wr => ∃ (i d : Nat), i9 = .bool (rF s h p q i) ∧ i10 = .int .i64 (i : Int) ∧ h ≤ i ∧ i + q ≤ n ∧ wr = ext W #[] d) (fun _ i10 _ => n - (intOf i10).toNat)
  case atStart => exact ⟨h, d, hs0.out, rfl, Nat.le_refl _, by have := HN.out; omega, rfl⟩
  case round =>
  clear d hs0
  obtain ⟨i, d, rfl, rfl, hhi, hin, rfl⟩ := hrel
  cases hfb : rF s h p q i with
  | true =>
    by_cases hlt : i + q < n
    · have a1 : IntKind.i64.wrap ((i : Int) + (q : Int)) = ((i + q : Nat) : Int) := by rw [IntKind.wrap_i64]; omega
      have a2 : ((i : Int) + (q : Int)) = ((i + q : Nat) : Int) := by omega
      have a3 : (((i + q : Nat) : Int) < n) := by omega
      have a4 := decide_eq_true a3
      have a5 := decide_eq_true hlt
      have a6 : (0 : Int) ≤ i := by omega
      have a7 : (i : Int) < n := by omega
      have a8 : i < n := by omega
      have a9 : (0 : Int) ≤ ((i + q : Nat) : Int) := by omega
      have a10 : IntKind.i64.wrap ((i : Int) + 1) = (i : Int) + 1 := by rw [IntKind.wrap_i64]; omega
      have s1 := HIW.out i a8
      have s2 := HIW.out (i + q) hlt
      have hnx : Hid (Value.bool (s i == s (i + q)) = .bool (rF s h p q (i + 1))) := Lib.hid (congrArg Value.bool (by
        rw [rF_succ s hhi, hfb, Bool.true_and]; exact (Bool.beq_eq_decide_eq _ _)))
      clear hfb
      generalize s i = xi at *
      generalize s (i + q) = yi at *
      generalize i + q = j at *
      go_wp2_with fail
      go_region
      go_wp2_with fail
      go_roundw
      case measure =>
        simp only [intOf, Int.toNat_natCast]
        omega
      case rel => exact ⟨i + 1, _, hnx.out, by go_num, by omega, by omega, rfl⟩
    · have a0 : i + q = h + 2 * p := by have := HN.out; omega
      have hqe : q = Q := by
        rcases Nat.lt_or_ge q Q with hl | hl
        · exact absurd ((rF_end s a0).symm.trans hfb) (HM.out q hq1 hl)
        · omega
      have a1 : IntKind.i64.wrap ((i : Int) + (q : Int)) = ((i + q : Nat) : Int) := by rw [IntKind.wrap_i64]; omega
      have a2 : ((i : Int) + (q : Int)) = ((i + q : Nat) : Int) := by omega
      have a3 : ¬ (((i + q : Nat) : Int) < n) := by omega
      have a4 := decide_eq_false a3
      have a5 := decide_eq_false hlt
      clear hfb a0
      generalize i + q = j at *
      go_wp2_with fail
      clear a1 a2 a3 a4 a5 hlt hin
      subst hqe
      clear e1 e2 hq1 hqQ hqp
      have HH := Lib.hid (rfl : rK s q h = rK s q h)
      obtain ⟨k0, hk0⟩ : ∃ k0, k0 = h := ⟨_, rfl⟩
      have K0 := Lib.hid hk0
      go_loopw [1] (fun i1 wr => ∃ (k d : Nat), i1 = .int .i64 (k : Int) ∧ k ≤ h ∧ Hid (rK s q k = K) ∧ wr = ext W #[] d) (fun i1 _ => (intOf i1).toNat)
      case atStart => exact ⟨h, d, rfl, Nat.le_refl _, Lib.hid HK.out.symm, rfl⟩
      case round =>
      clear d hk0 K0 k0 HH
      obtain ⟨k, d, rfl, hkh, hT, rfl⟩ := hrel
      go_upto_region 9 with (fail)
      go_cut [58] (fun sl wc => ∃ b, sl = .bool b ∧ Hid (b = (decide (0 < k) && decide (s (k - 1) = s (k - 1 + q)))) ∧ ∃ d, wc = ext W #[] d)
      case first =>
        by_cases hk0 : 0 < k
        · obtain ⟨J, hJ⟩ : ∃ J, k = J + 1 := ⟨k - 1, by omega⟩
          have c0 : (0 : Int) < k := by omega
          have c1 : ((k : Int) - 1) = (J : Int) := by omega
          have c2 : IntKind.i64.wrap ((k : Int) - 1) = (J : Int) := by rw [IntKind.wrap_i64]; omega
          have c3 : IntKind.i64.wrap (J : Int) = (J : Int) := by rw [IntKind.wrap_i64]; omega
          have c4 : IntKind.i64.wrap ((J : Int) + (q : Int)) = ((J + q : Nat) : Int) := by rw [IntKind.wrap_i64]; omega
          have c5 : ((J : Int) + (q : Int)) = ((J + q : Nat) : Int) := by omega
          have c6 : (0 : Int) ≤ J := by omega
          have hJn : J + q < n := by have := HN.out; omega
          have c7 : J < n := by omega
          have c8 : (J : Int) < n := by omega
          have c9 : (0 : Int) ≤ ((J + q : Nat) : Int) := by omega
          have c10 : ((J + q : Nat) : Int) < n := by omega
          have c11 : decide ((k : Int) > 0) = true := decide_eq_true c0
          have s1 := HIW.out J c7
          have s2 := HIW.out (J + q) hJn
          have hres : Hid ((s J == s (J + q)) = (decide (0 < k) && decide (s (k - 1) = s (k - 1 + q)))) := Lib.hid (by
            rw [decide_eq_true hk0, Bool.true_and, show k - 1 = J by omega]; exact Bool.beq_eq_decide_eq _ _)
          clear hJ
          generalize s J = xi at *
          generalize s (J + q) = yi at *
          generalize J + q = j at *
          go_quiet (fail)
          go_wp2_with fail
          go_meet
          case rel => exact ⟨_, rfl, hres, _, rfl⟩
        · have c0 : ¬ ((0 : Int) < k) := by omega
          have c11 : decide ((k : Int) > 0) = false := decide_eq_false c0
          have hres : Hid (false = (decide (0 < k) && decide (s (k - 1) = s (k - 1 + q)))) := Lib.hid (by rw [decide_eq_false hk0, Bool.false_and])
          go_quiet (fail)
          go_wp2_with fail
          go_meet
          case rel => exact ⟨_, rfl, hres, _, rfl⟩
      case rest =>
      clear d
      obtain ⟨b, rfl, hb, d, rfl⟩ := hcut
      cases b with
      | true =>
        have hk1 := hb.out.symm
        simp only [Bool.and_eq_true, decide_eq_true_eq] at hk1
        obtain ⟨J, hJ⟩ : ∃ J, k = J + 1 := ⟨k - 1, by omega⟩
        have hT2 : Hid (rK s q J = K) := Lib.hid (by
          rw [← hT.out, hJ]
          conv => rhs; unfold rK
          rw [if_pos]
          have := hk1.2
          rwa [show k - 1 = J by omega] at this)
        have c1 : ((k : Int) - 1) = (J : Int) := by omega
        have c2 : IntKind.i64.wrap ((k : Int) - 1) = (J : Int) := by rw [IntKind.wrap_i64]; omega
        have c3 : IntKind.i64.wrap (J : Int) = (J : Int) := by rw [IntKind.wrap_i64]; omega
        clear hk1 hb
        go_wp2_with fail
        go_roundw
        case measure =>
          simp only [intOf, Int.toNat_natCast]
          omega
        case rel => exact ⟨J, _, rfl, by omega, hT2, rfl⟩
      | false =>
        have hkK : k = K := by
          rw [← hT.out]
          cases k with
          | zero => rfl
          | succ k =>
            have hk1 := hb.out
            rw [decide_eq_true (Nat.succ_pos k), Bool.true_and, Nat.add_sub_cancel] at hk1
            unfold rK
            rw [if_neg (of_decide_eq_false hk1.symm)]
        subst hkK
        clear hb hT
        by_cases hK4 : k ≤ 4096
        · have g1 : ¬ ((4096 : Int) < k) := by omega
          have g3 : decide ((k : Int) > 4096) = false := decide_eq_false g1
          have g1n : ¬ (4096 < k) := by omega
          by_cases hQ4 : q ≤ 4096
          · have g4 : ¬ ((4096 : Int) < q) := by omega
            have g5 : decide ((q : Int) > 4096) = false := decide_eq_false g4
            have g4n : ¬ (4096 < q) := by omega
            have HZ2 := HZ.out
            rw [if_pos ⟨hK4, hQ4⟩] at HZ2
            obtain ⟨rfl, HZ3⟩ := Prod.mk.injEq .. ▸ HZ2
            clear HZ HZ2 HF HM k2 g1 g3 g4 g5 g1n g4n
            obtain ⟨rfl, rfl⟩ := Prod.mk.injEq .. ▸ HZ3
            clear HZ3
            have hkq : k + q ≤ n := by have := HN.out; omega
            have b1 : k ≤ cap := by omega
            have b2 : (k : Int) ≤ cap := by omega
            have b3 : (0 : Int) ≤ k := by omega
            obtain ⟨m, hm⟩ : ∃ m, m = k + q := ⟨_, rfl⟩
            have b4 : IntKind.i64.wrap ((k : Int) + (q : Int)) = (m : Int) := by rw [IntKind.wrap_i64]; omega
            have b5 : ((k : Int) + (q : Int)) = (m : Int) := by omega
            have b6 : m ≤ cap := by omega
            have b7 : (m : Int) ≤ cap := by omega
            have b8 : (k : Int) ≤ (m : Int) := by omega
            have b9 : ¬ (cap = k) := by omega
            have b10 : k ≤ m := by omega
            have b11 : m - k = q := by omega
            have b12 : IntKind.i64.wrap (m : Int) = (m : Int) := by rw [IntKind.wrap_i64]; omega
            clear hm
            go_upto_region 14 with (fail)
            obtain ⟨W1, hW1⟩ : ∃ W1, W1 = (ext W #[] d).alloc (.cells #[.slice none 0 0, .slice none 0 0] 24) := ⟨_, rfl⟩
            rw [← hW1]
            have hbW1 : Below W.heap.size W W1 := by rw [hW1]; exact (ext_below _ _ _).alloc (le_ext _ _ _ _ (Nat.le_refl _)) _
            have hl1 : W.heap.size < W1.heap.size := by rw [hW1, World.size_alloc, size_ext]; simp
            have hbl1 : W1.heap[W.heap.size]? = some (.cells #[.slice none 0 0, .slice none 0 0] 24) := by
              rw [hW1]
              have := heap_alloc_new (ext W #[] d) (.cells #[.slice none 0 0, .slice none 0 0] 24)
              rwa [size_ext, show W.heap.size + (#[] : Array Obj).size = W.heap.size from rfl] at this
            clear hW1
            have HB1 := Lib.hid hbW1
            have HL1 := Lib.hid hbl1
            obtain ⟨z0, z1⟩ := cell_of hbl1
            clear hbW1 hbl1
            go_cut [] (fun wc => ∃ W3, W3 = wc ∧ ∃ p1 c1, W3.heap[W.heap.size]? = some (.cells #[.slice p1 k c1, .slice none 0 0] 24) ∧ RowAt W3 (.slice p1 k c1) (tab s k) ∧ Below W.heap.size W W3 ∧ W.heap.size < W3.heap.size)
            case first =>
              have HR : Hid (RowAt W1 (.slice (some ⟨g, o, none⟩) k cap) (tab s k)) := Lib.hid (by
                have := take_row (HV.out.below (HBW.out.trans (HB1.out.mono (Nat.le_of_lt hwW)))) (tab_length s n) k (by omega)
                rwa [tab_take s n k (by omega)] at this)
              go_region_law (refine step_append_row (by rfl) _ _ (by rfl) W1.heap.size (.slice none 0 0) [] (tab s k) (some ⟨g, o, none⟩) k cap (by simp [Act.eval, Act.put]) (by simp [Act.eval, Act.put]) (Fresh.nil _ _) (HR.out.below (by repeat (first | (with_reducible exact Below.refl _ _) | (with_reducible assumption) | (with_reducible refine below_drewN ?_ _) | (with_reducible refine Below.drew ?_) | (with_reducible refine below_ext_of ?_ (by first | exact Nat.le_refl _ | assumption | (simp only [World.size_alloc, World.size_setCell, size_ext, World.heap_drewN]; omega)) _ _) | (with_reducible refine Below.alloc ?_ (by first | exact Nat.le_refl _ | assumption | (simp only [World.size_alloc, World.size_setCell, size_ext, World.heap_drewN]; omega)) _) | (with_reducible refine Below.setCell ?_ (by first | exact Nat.le_refl _ | assumption | (simp only [World.size_alloc, World.size_setCell, size_ext, World.heap_drewN]; omega)) _)))) (by rw [tab_length]; simp; omega) (Nat.le_refl _) ?_
                             intro v' w' hf hgrow
                             rw [List.nil_append] at hf
                             obtain ⟨p1, c1, hv⟩ := row_form hf
                             rw [tab_length] at hv
                             subst hv
                             have hgb : Below W1.heap.size W1 w' := ((Below.refl _ _).drew).trans (grown_none hgrow)
                             have bl : w'.heap[W.heap.size]? = some (.cells #[.slice none 0 0, .slice none 0 0] 24) := (hgb.block _ hl1).trans HL1.out
                             obtain ⟨y0, y1⟩ := cell_of bl
                             have yf := frozen_of bl
                             have HB2 := Lib.hid hgb
                             have HL2 := Lib.hid bl
                             have HFr := Lib.hid hf
                             clear hgb bl hf hgrow)
              all_goals
                go_wp2_with fail
                go_meet
                case rel =>
                  have hs := HB2.out.size
                  exact ⟨_, rfl, p1, c1, set_word0 HL2.out _, (HFr.out.put hl1 0 _).row, (HB1.out.trans (HB2.out.mono (Nat.le_of_lt hl1))).setCell (Nat.le_refl _) _, by rw [World.size_setCell]; omega⟩
            case rest =>
            obtain ⟨W3, rfl, p1, c1, hL3, hR3, hB3, hS3⟩ := hcut
            obtain ⟨x0, x1⟩ := cell_of hL3
            have HL3 := Lib.hid hL3
            have HR3 := Lib.hid hR3
            have HB3 := Lib.hid hB3
            clear hL3 hR3 hB3 z0 z1 HL1 HB1 hl1
            go_upto_region 15 with (fail)
            go_cut [] (fun wd => ∃ W5, W5 = wd ∧ ∃ p2 c2, W5.heap[W.heap.size]? = some (.cells #[.slice p1 k c1, .slice p2 q c2] 24) ∧ RowAt W5 (.slice p1 k c1) (tab s k) ∧ RowAt W5 (.slice p2 q c2) (tab (fun i => s (k + i)) q) ∧ Below W.heap.size W W5)
            case first =>
              have HR : Hid (RowAt W3 (.slice (some ⟨g, o + k, none⟩) q (cap - k)) (tab (fun i => s (k + i)) q)) := Lib.hid (by
                have h2 := drop_row (take_row (HV.out.below (HBW.out.trans (HB3.out.mono (Nat.le_of_lt hwW)))) (tab_length s n) (k + q) hkq) (by rw [List.length_take, tab_length]; omega) k (by omega)
                rwa [tab_take s n (k + q) hkq, tab_drop s (k + q) k (by omega), show k + q - k = q by omega] at h2)
              go_region_law (refine step_append_row (by rfl) _ _ (by rfl) W3.heap.size (.slice none 0 0) [] (tab (fun i => s (k + i)) q) (some ⟨g, o + k, none⟩) q (cap - k) (by simp [Act.eval, Act.put]) (by simp [Act.eval, Act.put]) (Fresh.nil _ _) (HR.out.below (by repeat (first | (with_reducible exact Below.refl _ _) | (with_reducible assumption) | (with_reducible refine below_drewN ?_ _) | (with_reducible refine Below.drew ?_) | (with_reducible refine below_ext_of ?_ (by first | exact Nat.le_refl _ | assumption | (simp only [World.size_alloc, World.size_setCell, size_ext, World.heap_drewN]; omega)) _ _) | (with_reducible refine Below.alloc ?_ (by first | exact Nat.le_refl _ | assumption | (simp only [World.size_alloc, World.size_setCell, size_ext, World.heap_drewN]; omega)) _) | (with_reducible refine Below.setCell ?_ (by first | exact Nat.le_refl _ | assumption | (simp only [World.size_alloc, World.size_setCell, size_ext, World.heap_drewN]; omega)) _)))) (by rw [tab_length]; simp; omega) (Nat.le_refl _) ?_
                             intro v' w' hf hgrow
                             rw [List.nil_append] at hf
                             obtain ⟨p2, c2, hv⟩ := row_form hf
                             rw [tab_length] at hv
                             subst hv
                             have hgb : Below W3.heap.size W3 w' := ((Below.refl _ _).drew).trans (grown_none hgrow)
                             have bl : w'.heap[W.heap.size]? = some (.cells #[.slice p1 k c1, .slice none 0 0] 24) := (hgb.block _ hS3).trans HL3.out
                             obtain ⟨y0, y1⟩ := cell_of bl
                             have yf := frozen_of bl
                             have HB4 := Lib.hid hgb
                             have HL4 := Lib.hid bl
                             have HFr := Lib.hid hf
                             clear hgb bl hf hgrow)
              all_goals
                go_wp2_with fail
                go_meet
                case rel =>
                  have hs := HB4.out.size
                  exact ⟨_, rfl, p2, c2, set_word1 HL4.out _, (HR3.out.below HB4.out).put HL4.out 1 _, (HFr.out.put hS3 1 _).row, (HB3.out.trans (HB4.out.mono (Nat.le_of_lt hS3))).setCell (Nat.le_refl _) _⟩
            case rest =>
            obtain ⟨W5, rfl, p2, c2, hL5, hR5, hS5, hB5⟩ := hcut
            obtain ⟨x2, x3⟩ := cell_of hL5
            have hbl5 := (hB5.block _ hwW).trans HBL.out
            obtain ⟨x4, x5⟩ := cell_of hbl5
            have xf := frozen_of hbl5
            have hw5 : w.heap.size < W5.heap.size := Nat.lt_of_lt_of_le hwW hB5.size
            have HL5 := Lib.hid hbl5
            have HR5 := Lib.hid hR5
            have HS5 := Lib.hid hS5
            have HB5 := Lib.hid hB5
            clear hL5 hR5 hS5 hB5 hbl5 HR3 HL3 HB3 hS3 x0 x1
            go_wp2_with fail
            have g1 := set_word0 HL5.out (.slice p1 k c1)
            refine bodyPost_ret (v := .tuple #[.agg #[.slice p1 k c1, .slice p2 q c2], .int .i64 0]) (by simp [results, Try.results44, go_sem, x4, x5, hw5]) rfl ⟨?_, p1, c1, p2, c2, ?_, ?_, ?_⟩
            · exact ((HBW.out.trans (HB5.out.mono (Nat.le_of_lt hwW))).setCell (Nat.le_refl _) _).setCell (Nat.le_refl _) _
            · rw [tab_length, tab_length]
            · rw [tab_length]; exact (HR5.out.put HL5.out 0 _).put g1 1 _
            · rw [tab_length]; exact (HS5.out.put HL5.out 0 _).put g1 1 _
          · have g4 : ((4096 : Int) < q) := by omega
            have g5 : decide ((q : Int) > 4096) = true := decide_eq_true g4
            have g4n : (4096 < q) := by omega
            have HZ2 := HZ.out
            rw [if_neg (fun h => hQ4 h.2)] at HZ2
            injection HZ2 with ha hb2
            injection hb2 with hb2 hc2
            subst ha hb2 hc2
            clear HZ HF HM k2
            obtain ⟨x4, x5⟩ := cell_of HBL.out
            have xf := frozen_of HBL.out
            go_wp2_with fail
            refine bodyPost_ret (v := .tuple #[.agg #[.slice none 0 0, .slice none 0 0], .int .i64 4]) (by simp [results, Try.results44, go_sem, x4, x5, hwW]) rfl ⟨?_, none, 0, none, 0, rfl, RowAt.nil _, RowAt.nil _⟩
            repeat (first | (with_reducible exact Below.refl _ _) | (with_reducible assumption) | (with_reducible refine below_drewN ?_ _) | (with_reducible refine Below.drew ?_) | (with_reducible refine below_ext_of ?_ (by first | exact Nat.le_refl _ | assumption | (simp only [World.size_alloc, World.size_setCell, size_ext, World.heap_drewN]; omega)) _ _) | (with_reducible refine Below.alloc ?_ (by first | exact Nat.le_refl _ | assumption | (simp only [World.size_alloc, World.size_setCell, size_ext, World.heap_drewN]; omega)) _) | (with_reducible refine Below.setCell ?_ (by first | exact Nat.le_refl _ | assumption | (simp only [World.size_alloc, World.size_setCell, size_ext, World.heap_drewN]; omega)) _))
            exact HBW.out
        · have g1 : ((4096 : Int) < k) := by omega
          have g3 : decide ((k : Int) > 4096) = true := decide_eq_true g1
          have g1n : (4096 < k) := by omega
          have HZ2 := HZ.out
          rw [if_neg (fun h => hK4 h.1)] at HZ2
          injection HZ2 with ha hb2
          injection hb2 with hb2 hc2
          subst ha hb2 hc2
          clear HZ HF HM k2
          obtain ⟨x4, x5⟩ := cell_of HBL.out
          have xf := frozen_of HBL.out
          go_wp2_with fail
          refine bodyPost_ret (v := .tuple #[.agg #[.slice none 0 0, .slice none 0 0], .int .i64 4]) (by simp [results, Try.results44, go_sem, x4, x5, hwW]) rfl ⟨?_, none, 0, none, 0, rfl, RowAt.nil _, RowAt.nil _⟩
          repeat (first | (with_reducible exact Below.refl _ _) | (with_reducible assumption) | (with_reducible refine below_drewN ?_ _) | (with_reducible refine Below.drew ?_) | (with_reducible refine below_ext_of ?_ (by first | exact Nat.le_refl _ | assumption | (simp only [World.size_alloc, World.size_setCell, size_ext, World.heap_drewN]; omega)) _ _) | (with_reducible refine Below.alloc ?_ (by first | exact Nat.le_refl _ | assumption | (simp only [World.size_alloc, World.size_setCell, size_ext, World.heap_drewN]; omega)) _) | (with_reducible refine Below.setCell ?_ (by first | exact Nat.le_refl _ | assumption | (simp only [World.size_alloc, World.size_setCell, size_ext, World.heap_drewN]; omega)) _))
          exact HBW.out
  | false =>
    have hrf : rFit s h p q = false := rF_false (by have := HN.out; omega) hfb
    have hlt : q < Q := by
      rcases Nat.lt_or_ge q Q with hl | hl
      · exact hl
      · obtain rfl : q = Q := by omega
        exact absurd (hrf.symm.trans HF.out) (by decide)
    have a10 : IntKind.i64.wrap ((q : Int) + 1) = (q : Int) + 1 := by rw [IntKind.wrap_i64]; omega
    clear hfb hrf
    go_wp2_with fail
    go_roundw
    case measure =>
      simp only [intOf, Int.toNat_natCast]
      omega
    case rel => exact ⟨q + 1, _, by go_num, by omega, by omega, rfl⟩
end Go.Proofs.Ytpcnapmlmhhcpaa
