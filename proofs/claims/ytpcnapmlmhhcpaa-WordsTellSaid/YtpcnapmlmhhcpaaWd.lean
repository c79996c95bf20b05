/-
  slices.Clone; words.loop: contracts.
  Conditions: the rows lie in memory; at most a hundred thousand numbers.
-/
import Derived.Test.YtpcnapmlmhhcpaaWc
import Derived.WalkKit
import Derived.WalkSpells
import Derived.WalkLawsBesides
import Derived.Deep.QuietTactic
import Derived.BigQuiet
import Derived.Lib.Hide
import Derived.Handy
import Derived.Deep.AppendLies
import Derived.Maps.AppendAt
import Derived.OwnWalk
import Derived.Lib.LazyBuf
import Derived.Deep.DeepCutAuto
import Derived.Deep.RegionLaw
import Derived.Deep.RegionHeld3
import Derived.Deep.RegionWith
import Derived.BigRegion
set_option linter.unusedVariables false
set_option linter.unusedSimpArgs false
namespace Go.Proofs.Ytpcnapmlmhhcpaa
open Go.RowKit 
attribute [local go_sem] setCell_drewN alloc_drewN size_ext ext_ext ext_drewN ext_drew drewN_ext drew_ext cell?_ext frozen?_ext setCell_ext cell?_past1 frozen?_past1 setCell_past1 cell?_past2 frozen?_past2 setCell_past2 cell?_past3 frozen?_past3 setCell_past3 cell?_past4 frozen?_past4 setCell_past4 cell?_past5 frozen?_past5 setCell_past5 cell?_past6 frozen?_past6 setCell_past6 cell?_past7 frozen?_past7 setCell_past7 cell?_past8 frozen?_past8 setCell_past8

def vals (xs : List Int) : List Value := xs.map (.int .i64 ·)
theorem vals_length (xs : List Int) : (vals xs).length = xs.length := by simp [vals]
theorem vals_one (xs : List Int) : ∀ u ∈ vals xs, u.oneCell' = true := by
  intro u hu
  obtain ⟨x, _, rfl⟩ := List.mem_map.1 hu
  rfl
theorem vals_get (xs : List Int) (i : Nat) (h : i < xs.length) : (vals xs)[i]? = some (.int .i64 (at_ xs i)) := by simp [vals, at_, h]
theorem row_form {w : World} {base : Nat} {e : TypeId} {size : Nat} {v : Value} {n : Nat} {xs : List Value} (h : w.ownsRow base e size v n xs) : ∃ p cap, v = .slice p n cap := by
  rcases h.2 with ⟨rfl, rfl⟩ | ⟨g, cap, cur, rfl, _⟩
  · exact ⟨none, 0, rfl⟩
  · exact ⟨_, cap, rfl⟩
theorem row_of {w : World} {B : Nat} {v : Value} {xs : List Int} (h : w.ownsRow B 2 1 v xs.length (vals xs)) : RowAt w v xs := by
  have hlt := h.lt
  rcases h.2 with ⟨rfl, h0⟩ | ⟨g, cap, cur, rfl, hb, hg, hl, hm, h3⟩
  · exact ⟨none, 0, by rw [h0], by omega, by rw [h0]; exact Nat.zero_le _, fun _ => h0, fun hp => by omega⟩
  · refine ⟨some ⟨g, 0, none⟩, cap, rfl, hl, Nat.le_trans hl hm, (fun h => by cases h), fun _ => ⟨g, 0, rfl, (hlt g rfl).2, fun i hi => ?_⟩⟩
    rw [Nat.zero_add, h.cellAt i (by omega)]
    exact vals_get xs i hi
/-- A slice of just these numbers, of the call's own: its block is none of those below B. -/
def Fresh (w : World) (B : Nat) (v : Value) (xs : List Int) : Prop := w.ownsRow B 2 1 v xs.length (vals xs)
theorem Fresh.row {w : World} {B : Nat} {v : Value} {xs : List Int} (h : Fresh w B v xs) : RowAt w v xs := row_of h
theorem Fresh.nil (w : World) (B : Nat) : Fresh w B (.slice none 0 0) [] := ⟨rfl, .inl ⟨rfl, rfl⟩⟩
theorem Fresh.move {w w' : World} {B : Nat} {v : Value} {xs : List Int} (h : Fresh w B v xs) (hm : ∀ k, B ≤ k → k < w.heap.size → w'.heap[k]? = w.heap[k]?) : Fresh w' B v xs := by
  refine ⟨h.1, ?_⟩
  rcases h.2 with h2 | ⟨g, cap, cur, h1, h2, h3, h4⟩
  · exact .inl h2
  · exact .inr ⟨g, cap, cur, h1, h2, (hm g h2 (Array.getElem?_eq_some_iff.1 h3).1).trans h3, h4⟩
theorem Fresh.below {w w' : World} {B : Nat} {v : Value} {xs : List Int} (h : Fresh w B v xs) (hb : Below w.heap.size w w') : Fresh w' B v xs := h.move fun k _ hk => hb.block k hk
theorem Fresh.put {w : World} {B : Nat} {v : Value} {xs : List Int} (h : Fresh w B v xs) {b : Nat} (hb : b < B) (i : Nat) (u : Value) : Fresh (w.setCell ⟨b, i, none⟩ u) B v xs := h.move fun k hk _ => by
  simp only [World.setCell, Array.getElem?_modify]
  rw [if_neg (by omega)]
theorem Fresh.mono {w : World} {B B' : Nat} {v : Value} {xs : List Int} (h : Fresh w B v xs) (hb : B' ≤ B) : Fresh w B' v xs := by
  refine ⟨h.1, ?_⟩
  rcases h.2 with h2 | ⟨g, cap, cur, h1, h2, h3⟩
  · exact .inl h2
  · exact .inr ⟨g, cap, cur, h1, by omega, h3⟩
theorem Fresh.ge {w : World} {B : Nat} {v : Value} {xs : List Int} (h : Fresh w B v xs) : ∀ k, v.ownBlock = some k → B ≤ k ∧ k < w.heap.size := World.ownsRow.lt h
/-- Two slices of different blocks. -/
def Apart (v1 v2 : Value) : Prop := ∀ k, v1.ownBlock = some k → v2.ownBlock = some k → False
theorem row_news {w : World} {a : Addr} {n cap : Nat} {xs : List Int} (h : 0 < xs.length → ∃ g o, some a = some (⟨g, o, none⟩ : Addr) ∧ g < w.heap.size ∧ Ints w g o xs) : ∀ j u, (vals xs)[j]? = some u → w.cell? (a.add j) = some u := by
  intro j u hj
  have hlt : j < xs.length := by
    have := (List.getElem?_eq_some_iff.1 hj).1
    rwa [vals_length] at this
  obtain ⟨g, o, ha, hg, hi⟩ := h (by omega)
  cases ha
  have hadd : (⟨g, o, none⟩ : Addr).add j = ⟨g, o + j, none⟩ := by unfold Addr.add; split <;> simp_all
  rw [hadd, hi j hlt, ← hj, vals_get xs j hlt]
theorem eqnil (w : World) (a : Addr) (n c : Nat) : (binOp .eql 22 (.slice (some a) n c) (.slice none 0 0)).run Try.prog w = .ok (.bool false) w := run_eql_slice_nil w 22 2 (some a) n c Try.underlying22
theorem eqnil0 (w : World) : (binOp .eql 22 (.slice none 0 0) (.slice none 0 0)).run Try.prog w = .ok (.bool true) w := run_eql_slice_nil w 22 2 none 0 0 Try.underlying22
theorem eqnilc (w : World) (c : Nat) : (binOp .eql 22 (.slice none 0 c) (.slice none 0 0)).run Try.prog w = .ok (.bool true) w := run_eql_slice_nil w 22 2 none 0 c Try.underlying22
attribute [local go_sem] eqnil eqnil0 eqnilc
set_option maxHeartbeats 1000000 in
theorem clone_any (w : World) (v : Value) (xs : List Int) (h : RowAt w v xs) (hn : xs.length ≤ 1000000) : Calls Try.prog 57 #[v] w fun e w' => ∃ v', e = .returned v' ∧ RowAt w' v' xs ∧ Below w.heap.size w w' ∧ Fresh w' w.heap.size v' xs := by
  obtain ⟨i0, hi, hz0, hz1, hz2⟩ := info_parts infoI
  obtain ⟨p, cap, rfl, hl, hm, hnil, hr⟩ := h
  cases p with
  | none =>
    obtain rfl : xs = [] := List.eq_nil_of_length_eq_zero (hnil rfl)
    clear hr hnil hl hm hn
    show Calls Try.prog 57 #[.slice none 0 cap] w _
    go_enter Try.func57, Try.ntmps57
    go_wp2_with fail
    go_ret
    exact ⟨_, rfl, RowAt.nil w, Below.refl _ _, Fresh.nil w _⟩
  | some a =>
    have Hr := Lib.hid hr
    clear hr hnil
    obtain ⟨n, hln⟩ : ∃ n, n = xs.length := ⟨_, rfl⟩
    rw [← hln] at hn hl ⊢
    have Hln := Lib.hid hln
    clear hln
    go_enter Try.func57, Try.ntmps57
    go_wp2_with (first
      | (at_builtin; refine wpList_append_own_at _ (by rfl) _ _ 22 rfl w.heap.size 2 i0 (.int .i64 0) 1 8 Try.underlying22 hi hz0 hz1 hz2 rfl (by decide) _ 0 [] (by rfl) (⟨rfl, .inr ⟨w.heap.size, 0, #[], rfl, Nat.le_refl _, by simp only [heap_alloc_new], Nat.le_refl _, by unfold maxLen; omega, rfl, rfl⟩⟩) a n cap (vals xs) (by rfl) (by rw [vals_length, Hln.out]; simp) (row_news (n := 0) (cap := 0) (fun h0 => by obtain ⟨g, o, ha, hg, hi⟩ := Hr.out h0; exact ⟨g, o, ha, Nat.lt_trans hg (by simp), hi.below ((Below.refl _ _).alloc (Nat.le_refl _) _) hg⟩)) (vals_one xs) (by unfold maxLen; omega) (by omega) (by simp [go_sem]) ?_
         intro v1 w1 hown hgrow hnil hat
         have hb : Below w.heap.size w w1 := ((Below.refl _ _).alloc (Nat.le_refl _) _).grown hgrow (by simp [go_sem]) (fun k hk => by
           simp [Value.ownBlock] at hk
           omega)
         rw [Nat.zero_add] at hown
         obtain ⟨p1, cp1, rfl⟩ := row_form hown
         have Hown := Lib.hid hown
         clear hown hgrow hnil hat))
    go_ret
    have hfr : Fresh w1 w.heap.size (.slice p1 n cp1) xs := by unfold Fresh; rw [← Hln.out]; exact Hown.out
    exact ⟨_, rfl, hfr.row, hb, hfr⟩
/-- Does the loop go round after q numbers? -/
def good (l : List Int) (q : Nat) : Bool := decide (l.length % q = 0) && decide (l.drop q = l.take (l.length - q))
def lpf : Nat → List Int → Nat → Nat
  | 0, l, _ => l.length
  | f + 1, l, q => if q < l.length then (if good l q = true then q else lpf f l (q + 1)) else l.length
/-- The shortest loop's length. -/
def lp (l : List Int) : Nat := lpf l.length l 1
theorem lpf_le : ∀ (f : Nat) (l : List Int) (q : Nat), lpf f l q ≤ l.length := by
  intro f
  induction f with
  | zero => intro l q; exact Nat.le_refl _
  | succ f ih =>
    intro l q
    unfold lpf
    split
    · split
      · omega
      · exact ih l (q + 1)
    · exact Nat.le_refl _
theorem take_row {w : World} {p : Option Addr} {n cap : Nat} {xs : List Int} (h : RowAt w (.slice p n cap) xs) (hn : xs.length = n) (q : Nat) (hq : q ≤ n) : RowAt w (.slice p q cap) (xs.take q) := by
  subst hn
  obtain ⟨p', cap', h1, h2, h3, h4, h5⟩ := h
  cases h1
  have e : (xs.take q).length = q := by rw [List.length_take]; omega
  refine ⟨p, cap, by rw [e], by rw [e]; omega, by rw [e]; exact Nat.le_trans hq h3, (fun h => by have := h4 h; rw [e]; omega), fun h0 => ?_⟩
  rw [e] at h0
  obtain ⟨g, o, hp, hg, hi⟩ := h5 (by omega)
  exact ⟨g, o, hp, hg, hi.take q⟩
theorem drop_row {w : World} {g o n cap : Nat} {xs : List Int} (h : RowAt w (.slice (some ⟨g, o, none⟩) n cap) xs) (hn : xs.length = n) (q : Nat) (hq : q < n) : RowAt w (.slice (some ⟨g, o + q, none⟩) (n - q) (cap - q)) (xs.drop q) := by
  subst hn
  obtain ⟨p', cap', h1, h2, h3, h4, h5⟩ := h
  cases h1
  refine ⟨_, _, by rw [List.length_drop], by rw [List.length_drop]; omega, by rw [List.length_drop]; omega, (fun h => by cases h), fun h0 => ?_⟩
  obtain ⟨g', o', hp, hg, hi⟩ := h5 (by omega)
  cases hp
  exact ⟨g, o + q, rfl, hg, hi.drop q⟩
set_option maxRecDepth 100000 in
set_option maxHeartbeats 4000000 in
theorem loop_any (w : World) (v : Value) (l : List Int) (h : RowAt w v l) : Calls Try.prog 58 #[v] w fun e w' => ∃ v', e = .returned v' ∧ RowAt w' v' (l.take (lp l)) ∧ Below w.heap.size w w' := by
  obtain ⟨p, cap, rfl, hl, hm, hnil, hr⟩ := id h
  obtain ⟨n, hln⟩ : ∃ n, n = l.length := ⟨_, rfl⟩
  rw [← hln] at hr hl hm ⊢
  have Hln := Lib.hid hln
  have Hr := Lib.hid hr
  have Hh : Hid (RowAt w (.slice p n cap) l) := Lib.hid (by rw [hln]; exact h)
  have hnm : n < 9223372036854775808 := by unfold maxLen at hm; omega
  clear hln hr hnil h
  go_enter Try.func58, Try.ntmps58
  go_wp2_with fail
  go_loopw [3] (fun i wr => ∃ (q : Nat) (X : Array Obj) (d : Nat), i = .int .i64 (q : Int) ∧ 1 ≤ q ∧ q ≤ n + 1 ∧ Hid (lpf (n + 1 - q) l q = lp l) ∧ wr = ext w X d) (fun i _ => n + 2 - (intOf i).toNat)
  case atStart => exact ⟨1, #[], w.drawn, rfl, by omega, by omega, Lib.hid (by unfold lp; rw [Hln.out]; rfl), (ext_nil w).symm⟩
  case round =>
  obtain ⟨q, X, d, rfl, hq1, hq2, hL, rfl⟩ := hrel
  by_cases hqn : q < n
  · have e1 : (q : Int) < n := by omega
    have e2 := decide_eq_true e1
    have e3 : (0 : Int) ≤ q := by omega
    have e4 : IntKind.i64.wrap ((q : Int) + 1) = (q : Int) + 1 := by rw [IntKind.wrap_i64]; omega
    have e5 : ¬ ((q : Int) = 0) := by omega
    have e9 : ¬ (q = 0) := by omega
    have e10 : IntKind.i64.wrap ((n - q : Nat) : Int) = ((n - q : Nat) : Int) := by rw [IntKind.wrap_i64]; omega
    have e6 : Int.tmod (n : Int) (q : Int) = ((n % q : Nat) : Int) := by rw [Int.tmod_eq_emod_of_nonneg (by omega)]; omega
    have e7 : ((n : Int) - q) = ((n - q : Nat) : Int) := by omega
    have e8 : IntKind.i64.wrap ((n : Int) - q) = ((n - q : Nat) : Int) := by rw [IntKind.wrap_i64]; omega
    have hstep : Hid (lp l = if good l q = true then q else lpf (n - q) l (q + 1)) := Lib.hid (by
      rw [← hL.out, show n + 1 - q = (n - q) + 1 by omega]
      conv => lhs; unfold lpf
      rw [if_pos (by have := Hln.out; omega)])
    obtain ⟨g, o, rfl, hg, hi⟩ := Hr.out (by omega)
    go_upto_region 4 with (fail)
    go_cut [26] (fun s wc => s = .bool (good l q) ∧ ∃ X d, wc = ext w X d)
    case first =>
      by_cases hmod : n % q = 0
      · have f1 : (((n % q : Nat) : Int) == 0) = true := by rw [hmod]; rfl
        have f2 : ((n % q : Nat) : Int) = 0 := by omega
        have f3 : ¬ (cap = q) := by omega
        have f4 : q ≤ n := by omega
        have f5 : (q : Int) ≤ n := by omega
        have f6 : n - q ≤ cap := by omega
        have f7 : (0 : Int) ≤ ((n - q : Nat) : Int) := by omega
        have f8 : ((n - q : Nat) : Int) ≤ cap := by omega
        have H : Hid (decide (l.drop q = l.take (n - q)) = good l q) := Lib.hid (by
          unfold good
          rw [← Hln.out, decide_eq_true hmod, Bool.true_and])
        clear hi
        refine wp_region_held_drew (S := (fun _ => True)) (by kernel_rfl) ?hS19 (fun hHeld => ?go19)
        case hS19 =>
          (try dsimp only)
          try go_simp
        case go19 =>
        refine' wpAnyH_take (i := 0) (oi := ⟨_, _, _, _, _, _⟩) (v := ?v20) rfl (by kernel_rfl) (by kernel_rfl) (by kernel_rfl) (fun _ _ _ h => h) (Or.inl ⟨by rfl, ?hy20⟩) (by assumption) ?rest20
        case hy20 =>
          intro w hSw
          (try dsimp only at hSw)
          go_simp
          try (with_reducible rfl)
        case rest20 =>
        (try simp only [Act.put, List.setIfInBounds_toArray, List.set_cons_zero, List.set_cons_succ])
        refine' wpAnyH_take (i := 1) (oi := ⟨_, _, _, _, _, _⟩) (v := ?v21) rfl (by kernel_rfl) (by kernel_rfl) (by kernel_rfl) (fun _ _ _ h => h) (Or.inl ⟨by rfl, ?hy21⟩) (by assumption) ?rest21
        case hy21 =>
          intro w hSw
          (try dsimp only at hSw)
          go_simp
          try (with_reducible rfl)
        case rest21 =>
        (try simp only [Act.put, List.setIfInBounds_toArray, List.set_cons_zero, List.set_cons_succ])
        refine' wpAnyH_take (i := 2) (oi := ⟨_, _, _, _, _, _⟩) (v := ?v22) rfl (by kernel_rfl) (by kernel_rfl) (by kernel_rfl) (fun _ _ _ h => h) (Or.inl ⟨by rfl, ?hy22⟩) (by assumption) ?rest22
        case hy22 =>
          intro w hSw
          (try dsimp only at hSw)
          go_simp
          try (with_reducible rfl)
        case rest22 =>
        (try simp only [Act.put, List.setIfInBounds_toArray, List.set_cons_zero, List.set_cons_succ])
        refine' wpAnyH_take (i := 3) (oi := ⟨_, _, _, _, _, _⟩) (v := ?v23) rfl (by kernel_rfl) (by kernel_rfl) (by kernel_rfl) (fun _ _ _ h => h) (Or.inl ⟨by rfl, ?hy23⟩) (by assumption) ?rest23
        case hy23 =>
          intro w hSw
          (try dsimp only at hSw)
          go_simp
          try (with_reducible rfl)
        case rest23 =>
        (try simp only [Act.put, List.setIfInBounds_toArray, List.set_cons_zero, List.set_cons_succ])
        refine' wpAnyH_take (i := 4) (oi := ⟨_, _, _, _, _, _⟩) (v := ?v24) rfl (by kernel_rfl) (by kernel_rfl) (by kernel_rfl) (fun _ _ _ h => h) (Or.inl ⟨by rfl, ?hy24⟩) (by assumption) ?rest24
        case hy24 =>
          intro w hSw
          (try dsimp only at hSw)
          go_simp
          try (with_reducible rfl)
        case rest24 =>
        (try simp only [Act.put, List.setIfInBounds_toArray, List.set_cons_zero, List.set_cons_succ])
        refine' wpAnyH_take (i := 5) (oi := ⟨_, _, _, _, _, _⟩) (v := ?v25) rfl (by kernel_rfl) (by kernel_rfl) (by kernel_rfl) (fun _ _ _ h => h) (Or.inl ⟨by rfl, ?hy25⟩) (by assumption) ?rest25
        case hy25 =>
          intro w hSw
          (try dsimp only at hSw)
          go_simp
          try (with_reducible rfl)
        case rest25 =>
        (try simp only [Act.put, List.setIfInBounds_toArray, List.set_cons_zero, List.set_cons_succ])
        refine' wpAnyH_take (i := 6) (oi := ⟨_, _, _, _, _, _⟩) (v := ?v26) rfl (by kernel_rfl) (by kernel_rfl) (by kernel_rfl) (fun _ _ _ h => h) (Or.inl ⟨by rfl, ?hy26⟩) (by assumption) ?rest26
        case hy26 =>
          intro w hSw
          (try dsimp only at hSw)
          go_simp
          try (with_reducible rfl)
        case rest26 =>
        (try simp only [Act.put, List.setIfInBounds_toArray, List.set_cons_zero, List.set_cons_succ])
        refine' wpAnyH_take (i := 7) (oi := ⟨_, _, _, _, _, _⟩) (v := ?v27) rfl (by kernel_rfl) (by kernel_rfl) (by kernel_rfl) (fun _ _ _ h => h) (Or.inl ⟨by rfl, ?hy27⟩) (by assumption) ?rest27
        case hy27 =>
          intro w hSw
          (try dsimp only at hSw)
          go_simp
          try (with_reducible rfl)
        case rest27 =>
        (try simp only [Act.put, List.setIfInBounds_toArray, List.set_cons_zero, List.set_cons_succ])
        refine' wpAnyH_take (i := 8) (oi := ⟨_, _, _, _, _, _⟩) (v := ?v28) rfl (by kernel_rfl) (by kernel_rfl) (by kernel_rfl) (fun _ _ _ h => h) (Or.inl ⟨by rfl, ?hy28⟩) (by assumption) ?rest28
        case hy28 =>
          intro w hSw
          (try dsimp only at hSw)
          go_simp
          try (with_reducible rfl)
        case rest28 =>
        (try simp only [Act.put, List.setIfInBounds_toArray, List.set_cons_zero, List.set_cons_succ])
        refine' wpAnyH_take (i := 9) (oi := ⟨_, _, _, _, _, _⟩) (v := ?v29) rfl (by kernel_rfl) (by kernel_rfl) (by kernel_rfl) (fun _ _ _ h => h) (Or.inl ⟨by rfl, ?hy29⟩) (by assumption) ?rest29
        case hy29 =>
          intro w hSw
          (try dsimp only at hSw)
          go_simp
          try (with_reducible rfl)
        case rest29 =>
        (try simp only [Act.put, List.setIfInBounds_toArray, List.set_cons_zero, List.set_cons_succ])
        refine' wpAnyH_take (i := 10) (oi := ⟨_, _, _, _, _, _⟩) (v := ?v30) rfl (by kernel_rfl) (by kernel_rfl) (by kernel_rfl) (fun _ _ _ h => h) (Or.inl ⟨by rfl, ?hy30⟩) (by assumption) ?rest30
        case hy30 =>
          intro w hSw
          (try dsimp only at hSw)
          go_simp
          try (with_reducible rfl)
        case rest30 =>
        (try simp only [Act.put, List.setIfInBounds_toArray, List.set_cons_zero, List.set_cons_succ])
        refine' wpAnyH_take (i := 11) (oi := ⟨_, _, _, _, _, _⟩) (v := ?v31) rfl (by kernel_rfl) (by kernel_rfl) (by kernel_rfl) (fun _ _ _ h => h) (Or.inl ⟨by rfl, ?hy31⟩) (by assumption) ?rest31
        case hy31 =>
          intro w hSw
          (try dsimp only at hSw)
          go_simp
          try (with_reducible rfl)
        case rest31 =>
        (try simp only [Act.put, List.setIfInBounds_toArray, List.set_cons_zero, List.set_cons_succ])
        refine' wpAnyH_take (i := 12) (oi := ⟨_, _, _, _, _, _⟩) (v := ?v32) rfl (by kernel_rfl) (by kernel_rfl) (by kernel_rfl) (fun _ _ _ h => h) (Or.inl ⟨by rfl, ?hy32⟩) (by assumption) ?rest32
        case hy32 =>
          intro w hSw
          (try dsimp only at hSw)
          go_simp
          try (with_reducible rfl)
        case rest32 =>
        (try simp only [Act.put, List.setIfInBounds_toArray, List.set_cons_zero, List.set_cons_succ])
        refine' wpAnyH_take (i := 13) (oi := ⟨_, _, _, _, _, _⟩) (v := ?v33) rfl (by kernel_rfl) (by kernel_rfl) (by kernel_rfl) (fun _ _ _ h => h) (Or.inl ⟨by rfl, ?hy33⟩) (by assumption) ?rest33
        case hy33 =>
          intro w hSw
          (try dsimp only at hSw)
          go_simp
          try (with_reducible rfl)
        case rest33 =>
        (try simp only [Act.put, List.setIfInBounds_toArray, List.set_cons_zero, List.set_cons_succ])
        refine' wpAnyH_take (i := 14) (oi := ⟨_, _, _, _, _, _⟩) (v := ?v34) rfl (by kernel_rfl) (by kernel_rfl) (by kernel_rfl) (fun _ _ _ h => h) (Or.inl ⟨by rfl, ?hy34⟩) (by assumption) ?rest34
        case hy34 =>
          intro w hSw
          (try dsimp only at hSw)
          go_simp
          try (with_reducible rfl)
        case rest34 =>
        (try simp only [Act.put, List.setIfInBounds_toArray, List.set_cons_zero, List.set_cons_succ])
        refine wpAnyH_ready (rs := [15]) (by kernel_rfl) (by simp) ?_
        refine AllReadyH.cons (o := ⟨_, _, _, _, _, _⟩) rfl (fun K hK => ?_) AllReadyH.nil
        go_simp
        (go_at_call 47; refine (equal_any _ _ _ (l.drop q) (l.take (n - q)) (drop_row (Hh.out.below (ext_below _ _ _)) Hln.out.symm q hqn) (take_row (Hh.out.below (ext_below _ _ _)) Hln.out.symm (n - q) (by omega))).mono ?_; rintro e w1 ⟨rfl, hbw⟩; obtain ⟨X1, d1, rfl⟩ := below_ext hbw; clear hbw; go_simp)
        refine hK.out _ _ ?hS35 (fun hHeld2 => ?go35)
        case hS35 =>
          (try dsimp only)
          try go_simp
        case go35 =>
        clear hK K
        clear hHeld
        have hHeld := hHeld2
        clear hHeld2
        (try simp only [Act.put, List.setIfInBounds_toArray, List.set_cons_zero, List.set_cons_succ])
        refine' wpAnyH_take (i := 16) (oi := ⟨_, _, _, _, _, _⟩) (v := ?v36) rfl (by kernel_rfl) (by kernel_rfl) (by kernel_rfl) (fun _ _ _ h => h) (Or.inl ⟨by rfl, ?hy36⟩) (by assumption) ?rest36
        case hy36 =>
          intro w hSw
          (try dsimp only at hSw)
          go_simp
          try (with_reducible rfl)
        case rest36 =>
        (try simp only [Act.put, List.setIfInBounds_toArray, List.set_cons_zero, List.set_cons_succ])
        refine wpAnyH_done (by kernel_rfl) ?_ _
        go_wp2_with fail
        go_meet
        case rel => exact ⟨by rw [H.out], _, _, rfl⟩
      · have f1 : (((n % q : Nat) : Int) == 0) = false := beq_false_of_ne (by omega)
        have f2 : ¬ (((n % q : Nat) : Int) = 0) := by omega
        have f9 : ((n : Int) % (q : Int) == 0) = false := by rw [show (n : Int) % (q : Int) = ((n % q : Nat) : Int) from rfl]; exact f1
        have f10 : ¬ ((n : Int) % (q : Int) = 0) := by rw [show (n : Int) % (q : Int) = ((n % q : Nat) : Int) from rfl]; exact f2
        have H : Hid (false = good l q) := Lib.hid (by
          unfold good
          rw [← Hln.out, decide_eq_false hmod, Bool.false_and])
        clear hi
        refine wp_region_held_drew (S := (fun _ => True)) (by kernel_rfl) ?hS1 (fun hHeld => ?go1)
        case hS1 =>
          (try dsimp only)
          try go_simp
        case go1 =>
        refine' wpAnyH_take (i := 0) (oi := ⟨_, _, _, _, _, _⟩) (v := ?v2) rfl (by kernel_rfl) (by kernel_rfl) (by kernel_rfl) (fun _ _ _ h => h) (Or.inl ⟨by rfl, ?hy2⟩) (by assumption) ?rest2
        case hy2 =>
          intro w hSw
          (try dsimp only at hSw)
          go_simp
          try (with_reducible rfl)
        case rest2 =>
        (try simp only [Act.put, List.setIfInBounds_toArray, List.set_cons_zero, List.set_cons_succ])
        refine' wpAnyH_take (i := 1) (oi := ⟨_, _, _, _, _, _⟩) (v := ?v3) rfl (by kernel_rfl) (by kernel_rfl) (by kernel_rfl) (fun _ _ _ h => h) (Or.inl ⟨by rfl, ?hy3⟩) (by assumption) ?rest3
        case hy3 =>
          intro w hSw
          (try dsimp only at hSw)
          go_simp
          try (with_reducible rfl)
        case rest3 =>
        (try simp only [Act.put, List.setIfInBounds_toArray, List.set_cons_zero, List.set_cons_succ])
        refine' wpAnyH_take (i := 2) (oi := ⟨_, _, _, _, _, _⟩) (v := ?v4) rfl (by kernel_rfl) (by kernel_rfl) (by kernel_rfl) (fun _ _ _ h => h) (Or.inl ⟨by rfl, ?hy4⟩) (by assumption) ?rest4
        case hy4 =>
          intro w hSw
          (try dsimp only at hSw)
          go_simp
          try (with_reducible rfl)
        case rest4 =>
        (try simp only [Act.put, List.setIfInBounds_toArray, List.set_cons_zero, List.set_cons_succ])
        refine' wpAnyH_take (i := 3) (oi := ⟨_, _, _, _, _, _⟩) (v := ?v5) rfl (by kernel_rfl) (by kernel_rfl) (by kernel_rfl) (fun _ _ _ h => h) (Or.inl ⟨by rfl, ?hy5⟩) (by assumption) ?rest5
        case hy5 =>
          intro w hSw
          (try dsimp only at hSw)
          go_simp
          try (with_reducible rfl)
        case rest5 =>
        (try simp only [Act.put, List.setIfInBounds_toArray, List.set_cons_zero, List.set_cons_succ])
        refine' wpAnyH_take (i := 4) (oi := ⟨_, _, _, _, _, _⟩) (v := ?v6) rfl (by kernel_rfl) (by kernel_rfl) (by kernel_rfl) (fun _ _ _ h => h) (Or.inl ⟨by rfl, ?hy6⟩) (by assumption) ?rest6
        case hy6 =>
          intro w hSw
          (try dsimp only at hSw)
          go_simp
          try (with_reducible rfl)
        case rest6 =>
        (try simp only [Act.put, List.setIfInBounds_toArray, List.set_cons_zero, List.set_cons_succ])
        refine' wpAnyH_take (i := 5) (oi := ⟨_, _, _, _, _, _⟩) (v := ?v7) rfl (by kernel_rfl) (by kernel_rfl) (by kernel_rfl) (fun _ _ _ h => h) (Or.inl ⟨by rfl, ?hy7⟩) (by assumption) ?rest7
        case hy7 =>
          intro w hSw
          (try dsimp only at hSw)
          go_simp
          try (with_reducible rfl)
        case rest7 =>
        (try simp only [Act.put, List.setIfInBounds_toArray, List.set_cons_zero, List.set_cons_succ])
        refine' wpAnyH_take (i := 6) (oi := ⟨_, _, _, _, _, _⟩) (v := undef) rfl (by kernel_rfl) (by kernel_rfl) (by kernel_rfl) (fun _ _ _ h => h) (Or.inr ⟨by rfl, rfl⟩) (by assumption) ?rest8
        case rest8 =>
        (try simp only [Act.put, List.setIfInBounds_toArray, List.set_cons_zero, List.set_cons_succ])
        refine' wpAnyH_take (i := 7) (oi := ⟨_, _, _, _, _, _⟩) (v := undef) rfl (by kernel_rfl) (by kernel_rfl) (by kernel_rfl) (fun _ _ _ h => h) (Or.inr ⟨by rfl, rfl⟩) (by assumption) ?rest9
        case rest9 =>
        (try simp only [Act.put, List.setIfInBounds_toArray, List.set_cons_zero, List.set_cons_succ])
        refine' wpAnyH_take (i := 8) (oi := ⟨_, _, _, _, _, _⟩) (v := undef) rfl (by kernel_rfl) (by kernel_rfl) (by kernel_rfl) (fun _ _ _ h => h) (Or.inr ⟨by rfl, rfl⟩) (by assumption) ?rest10
        case rest10 =>
        (try simp only [Act.put, List.setIfInBounds_toArray, List.set_cons_zero, List.set_cons_succ])
        refine' wpAnyH_take (i := 9) (oi := ⟨_, _, _, _, _, _⟩) (v := undef) rfl (by kernel_rfl) (by kernel_rfl) (by kernel_rfl) (fun _ _ _ h => h) (Or.inr ⟨by rfl, rfl⟩) (by assumption) ?rest11
        case rest11 =>
        (try simp only [Act.put, List.setIfInBounds_toArray, List.set_cons_zero, List.set_cons_succ])
        refine' wpAnyH_take (i := 10) (oi := ⟨_, _, _, _, _, _⟩) (v := undef) rfl (by kernel_rfl) (by kernel_rfl) (by kernel_rfl) (fun _ _ _ h => h) (Or.inr ⟨by rfl, rfl⟩) (by assumption) ?rest12
        case rest12 =>
        (try simp only [Act.put, List.setIfInBounds_toArray, List.set_cons_zero, List.set_cons_succ])
        refine' wpAnyH_take (i := 11) (oi := ⟨_, _, _, _, _, _⟩) (v := undef) rfl (by kernel_rfl) (by kernel_rfl) (by kernel_rfl) (fun _ _ _ h => h) (Or.inr ⟨by rfl, rfl⟩) (by assumption) ?rest13
        case rest13 =>
        (try simp only [Act.put, List.setIfInBounds_toArray, List.set_cons_zero, List.set_cons_succ])
        refine' wpAnyH_take (i := 12) (oi := ⟨_, _, _, _, _, _⟩) (v := undef) rfl (by kernel_rfl) (by kernel_rfl) (by kernel_rfl) (fun _ _ _ h => h) (Or.inr ⟨by rfl, rfl⟩) (by assumption) ?rest14
        case rest14 =>
        (try simp only [Act.put, List.setIfInBounds_toArray, List.set_cons_zero, List.set_cons_succ])
        refine' wpAnyH_take (i := 13) (oi := ⟨_, _, _, _, _, _⟩) (v := undef) rfl (by kernel_rfl) (by kernel_rfl) (by kernel_rfl) (fun _ _ _ h => h) (Or.inr ⟨by rfl, rfl⟩) (by assumption) ?rest15
        case rest15 =>
        (try simp only [Act.put, List.setIfInBounds_toArray, List.set_cons_zero, List.set_cons_succ])
        refine' wpAnyH_take (i := 14) (oi := ⟨_, _, _, _, _, _⟩) (v := undef) rfl (by kernel_rfl) (by kernel_rfl) (by kernel_rfl) (fun _ _ _ h => h) (Or.inr ⟨by rfl, rfl⟩) (by assumption) ?rest16
        case rest16 =>
        (try simp only [Act.put, List.setIfInBounds_toArray, List.set_cons_zero, List.set_cons_succ])
        refine' wpAnyH_take (i := 15) (oi := ⟨_, _, _, _, _, _⟩) (v := undef) rfl (by kernel_rfl) (by kernel_rfl) (by kernel_rfl) (fun _ _ _ h => h) (Or.inr ⟨by rfl, rfl⟩) (by assumption) ?rest17
        case rest17 =>
        (try simp only [Act.put, List.setIfInBounds_toArray, List.set_cons_zero, List.set_cons_succ])
        refine' wpAnyH_take (i := 16) (oi := ⟨_, _, _, _, _, _⟩) (v := ?v18) rfl (by kernel_rfl) (by kernel_rfl) (by kernel_rfl) (fun _ _ _ h => h) (Or.inl ⟨by rfl, ?hy18⟩) (by assumption) ?rest18
        case hy18 =>
          intro w hSw
          (try dsimp only at hSw)
          go_simp
          try (with_reducible rfl)
        case rest18 =>
        (try simp only [Act.put, List.setIfInBounds_toArray, List.set_cons_zero, List.set_cons_succ])
        refine wpAnyH_done (by kernel_rfl) ?_ _
        go_wp2_with fail
        go_meet
        case rel => exact ⟨by rw [← H.out], _, _, rfl⟩
    case rest =>
    clear X d
    obtain ⟨rfl, X, d, rfl⟩ := hcut
    cases hgood : good l q with
    | true =>
      have f6 : q ≤ cap := by omega
      have f8 : (q : Int) ≤ cap := by omega
      have hlq : Hid (lp l = q) := Lib.hid (by rw [hstep.out, if_pos hgood])
      go_wp2_with fail
      go_ret
      refine ⟨_, rfl, ?_, ext_below _ _ _⟩
      rw [hlq.out]
      exact take_row (Hh.out.below (ext_below _ _ _)) Hln.out.symm q (by omega)
    | false =>
      have hlq : Hid (lpf (n + 1 - (q + 1)) l (q + 1) = lp l) := Lib.hid (by rw [hstep.out, hgood, if_neg (by decide), show n + 1 - (q + 1) = n - q by omega])
      go_wp2_with fail
      go_roundw
      case measure =>
        simp only [intOf, Int.toNat_natCast]
        omega
      case rel => exact ⟨q + 1, _, _, rfl, by omega, by omega, hlq, rfl⟩
  · have e1 : ¬ ((q : Int) < n) := by omega
    have e2 := decide_eq_false e1
    have hlq : Hid (lp l = n) := Lib.hid (by
      rw [← hL.out]
      cases hf : n + 1 - q with
      | zero => exact Hln.out.symm
      | succ f => unfold lpf; rw [if_neg (by have := Hln.out; omega)]; exact Hln.out.symm)
    go_wp2_with fail
    go_ret
    refine ⟨_, rfl, ?_, ext_below _ _ _⟩
    rw [hlq.out, List.take_of_length_le (by have := Hln.out; omega)]
    exact Hh.out.below (ext_below _ _ _)
end Go.Proofs.Ytpcnapmlmhhcpaa
