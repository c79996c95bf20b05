/-
  carillonref25's Less, and its Set: a row of jobs in order: Put and Take.
  Conditions: the set lies in memory and holds at most 4096 jobs.
-/
import Derived.Test.YtbplaiooipldlaaRk
import Derived.Test.YtbplaiooipldlaaSp
import Derived.WalkKit
import Derived.WalkSpells
import Derived.WalkLawsBesides
import Derived.Deep.QuietTactic
import Derived.BigQuiet
import Derived.Lib.Hide
import Derived.Handy
import Derived.Maps.AppendAt
import Derived.Laws.AppendOwnNone
import Derived.OwnWalk
import Derived.Deep.DeepCutAuto
import Derived.Deep.RegionLaw
import Derived.Deep.RegionHeld3
import Derived.Deep.RegionWith
import Derived.BigRegion
set_option linter.unusedVariables false
set_option linter.unusedSimpArgs false
namespace Go.Proofs.Ytbplaiooipldlaa
open Go.RowKit Hp
attribute [local go_sem] setCell_drewN alloc_drewN size_ext ext_ext ext_drewN ext_drew drewN_ext drew_ext cell?_ext frozen?_ext setCell_ext cell?_past1 frozen?_past1 setCell_past1 cell?_past2 frozen?_past2 setCell_past2 cell?_past3 frozen?_past3 setCell_past3 cell?_past4 frozen?_past4 setCell_past4 cell?_past5 frozen?_past5 setCell_past5 cell?_past6 frozen?_past6 setCell_past6 cell?_past7 frozen?_past7 setCell_past7 cell?_past8 frozen?_past8 setCell_past8

attribute [local go_sem] eqnil
set_option maxHeartbeats 1000000 in
theorem rless_any (a b : Key) (w : World) : Calls Try.prog 23 #[.agg #[.int .i64 a.due, .int .i64 a.task, .int .i64 a.n], .agg #[.int .i64 b.due, .int .i64 b.task, .int .i64 b.n]] w fun e w' => e = .returned (.bool (less a b)) ∧ Below w.heap.size w w' := by
  by_cases h1 : a.due = b.due
  · have e1 : (a.due != b.due) = false := by simpa using h1
    by_cases h2 : a.task = b.task
    · have e2 : (a.task != b.task) = false := by simpa using h2
      have H := Lib.hid (show decide (a.n < b.n) = less a b by unfold less; rw [if_pos h1, if_pos h2])
      clear h1 h2
      go_enter Try.func23, Try.ntmps23
      go_wp2
      go_ret
      exact ⟨ret_b H.out, by repeat (first | (with_reducible exact Below.refl _ _) | (with_reducible assumption) | (with_reducible refine below_drewN ?_ _) | (with_reducible refine Below.drew ?_) | (with_reducible refine below_ext_of ?_ (by first | exact Nat.le_refl _ | assumption | (simp only [World.size_alloc, World.size_setCell, size_ext, World.heap_drewN]; omega)) _ _) | (with_reducible refine Below.alloc ?_ (by first | exact Nat.le_refl _ | assumption | (simp only [World.size_alloc, World.size_setCell, size_ext, World.heap_drewN]; omega)) _) | (with_reducible refine Below.setCell ?_ (by first | exact Nat.le_refl _ | assumption | (simp only [World.size_alloc, World.size_setCell, size_ext, World.heap_drewN]; omega)) _))⟩
    · have e2 : (a.task != b.task) = true := bne_iff_ne.2 h2
      have H := Lib.hid (show decide (a.task < b.task) = less a b by unfold less; rw [if_pos h1, if_neg h2])
      clear h1 h2
      go_enter Try.func23, Try.ntmps23
      go_wp2
      go_ret
      exact ⟨ret_b H.out, by repeat (first | (with_reducible exact Below.refl _ _) | (with_reducible assumption) | (with_reducible refine below_drewN ?_ _) | (with_reducible refine Below.drew ?_) | (with_reducible refine below_ext_of ?_ (by first | exact Nat.le_refl _ | assumption | (simp only [World.size_alloc, World.size_setCell, size_ext, World.heap_drewN]; omega)) _ _) | (with_reducible refine Below.alloc ?_ (by first | exact Nat.le_refl _ | assumption | (simp only [World.size_alloc, World.size_setCell, size_ext, World.heap_drewN]; omega)) _) | (with_reducible refine Below.setCell ?_ (by first | exact Nat.le_refl _ | assumption | (simp only [World.size_alloc, World.size_setCell, size_ext, World.heap_drewN]; omega)) _))⟩
  · have e1 : (a.due != b.due) = true := bne_iff_ne.2 h1
    have H := Lib.hid (show decide (a.due < b.due) = less a b by unfold less; rw [if_neg h1])
    clear h1
    go_enter Try.func23, Try.ntmps23
    go_wp2
    go_ret
    exact ⟨ret_b H.out, by repeat (first | (with_reducible exact Below.refl _ _) | (with_reducible assumption) | (with_reducible refine below_drewN ?_ _) | (with_reducible refine Below.drew ?_) | (with_reducible refine below_ext_of ?_ (by first | exact Nat.le_refl _ | assumption | (simp only [World.size_alloc, World.size_setCell, size_ext, World.heap_drewN]; omega)) _ _) | (with_reducible refine Below.alloc ?_ (by first | exact Nat.le_refl _ | assumption | (simp only [World.size_alloc, World.size_setCell, size_ext, World.heap_drewN]; omega)) _) | (with_reducible refine Below.setCell ?_ (by first | exact Nat.le_refl _ | assumption | (simp only [World.size_alloc, World.size_setCell, size_ext, World.heap_drewN]; omega)) _))⟩
/-- A set in memory: at block r its bound and its row. -/
def IsSet (w : World) (r : Nat) (v : Value) (most : Int) (xs : List Key) : Prop :=
  w.heap[r]? = some (.cells #[.int .i64 most, v] 40 (0, 0)) ∧ RowK w 0 v xs ∧ (xs = [] → v = .slice none 0 0)
theorem IsSet.lt {w : World} {r : Nat} {v : Value} {most : Int} {xs : List Key} (h : IsSet w r v most xs) : ∀ k, foot r v k → k < w.heap.size := by
  rintro k (rfl | hk)
  · rcases Nat.lt_or_ge k w.heap.size with h1 | h1
    · exact h1
    · have := h.1; rw [Array.getElem?_eq_none h1] at this; cases this
  · exact (h.2.1.lt k hk).2
theorem IsSet.kept {w w' : World} {r : Nat} {v : Value} {most : Int} {xs : List Key} {Fp : Nat → Prop} (h : IsSet w r v most xs) (hf : Fr Fp w w') (hn : ∀ k, foot r v k → ¬ Fp k) : IsSet w' r v most xs :=
  ⟨(hf.block r (h.lt r (.inl rfl)) (hn r (.inl rfl))).trans h.1, h.2.1.kept hf (fun k hk => hn k (.inr hk)), h.2.2⟩
theorem IsSet.cells {w : World} {r : Nat} {v : Value} {most : Int} {xs : List Key} (h : IsSet w r v most xs) :
    w.cell? ⟨r, 0, none⟩ = some (.int .i64 most) ∧ w.cell? ⟨r, 1, none⟩ = some v ∧ (∀ o, w.frozen? ⟨r, o, none⟩ = false) := by
  refine ⟨?_, ?_, fun o => ?_⟩
  all_goals simp [World.cell?, World.frozen?, h.1]
theorem IsSet.form {w : World} {r : Nat} {v : Value} {most : Int} {xs : List Key} (h : IsSet w r v most xs) (h0 : 0 < xs.length) : ∃ g cap, v = .slice (some ⟨g, 0, none⟩) xs.length cap ∧ g < w.heap.size ∧ g ≠ r ∧ xs.length ≤ cap ∧ cap ≤ maxLen := by
  rcases h.2.1.2 with ⟨_, h2⟩ | ⟨g, cap, cur, rfl, hb, hg, hl, hm, h3⟩
  · omega
  · refine ⟨g, cap, rfl, h.lt g (.inr rfl), ?_, hl, hm⟩
    rintro rfl
    rw [h.1] at hg
    simp at hg
/-- What Put and Take leave of a set: its row is a new one. -/
def SetDone (w w' : World) (r : Nat) (most : Int) (zs : List Key) (v' : Value) : Prop :=
  IsSet w' r v' most zs ∧ (∀ j, v'.ownBlock = some j → w.heap.size ≤ j) ∧ Fr (fun j => j = r) w w'
theorem Src.take {w : World} {g o : Nat} {xs : List Key} (h : Src w g o xs) (m : Nat) : Src w g o (xs.take m) := by
  intro i hi
  rw [List.length_take] at hi
  rw [at_take xs m i (by omega)]
  exact h i (by omega)
theorem Src.drop {w : World} {g o : Nat} {xs : List Key} (h : Src w g o xs) (m : Nat) : Src w g (o + m * 3) (xs.drop m) := by
  intro i hi
  rw [List.length_drop] at hi
  have e : at_ (xs.drop m) i = at_ xs (m + i) := by simp [at_]
  rw [e]
  have := h (m + i) (by omega)
  rw [show o + m * 3 + i * 3 = o + (m + i) * 3 by omega]
  exact this
theorem IsSet.src {w : World} {r g cap n : Nat} {most : Int} {xs : List Key} (h : IsSet w r (.slice (some ⟨g, 0, none⟩) n cap) most xs) (hn : xs.length = n) : Src w g 0 xs := h.2.1.src hn
theorem row_form {w : World} {base : Nat} {e : TypeId} {size : Nat} {v : Value} {n : Nat} {xs : List Value} (h : w.ownsRow base e size v n xs) : ∃ p cap, v = .slice p n cap := by
  rcases h.2 with ⟨rfl, rfl⟩ | ⟨g, cap, cur, rfl, _⟩
  · exact ⟨none, 0, rfl⟩
  · exact ⟨_, cap, rfl⟩
theorem set_row {w w1 : World} {r B : Nat} {v v1 : Value} {most : Int} {xs zs : List Key} (h : IsSet w r v most xs) (hb : Below w.heap.size w w1) (hB : w.heap.size ≤ B) (hown : RowK w1 B v1 zs) (hnil : zs = [] → v1 = .slice none 0 0) :
    SetDone w (w1.setCell ⟨r, 1, none⟩ v1) r most zs v1 := by
  have hr := h.lt r (.inl rfl)
  have hbr : w1.heap[r]? = some (.cells #[.int .i64 most, v] 40 (0, 0)) := (hb.block r hr).trans h.1
  refine ⟨⟨?_, ?_, hnil⟩, fun j hj => Nat.le_trans hB (hown.lt j hj).1, (Fr.of_below hb).setCell r 1 _ (.inl rfl)⟩
  · simp only [World.setCell, Array.getElem?_modify, if_pos, hbr]; rfl
  · refine RowK.mono (RowK.kept (Fp := fun j => j = r) hown ((Fr.refl _ _).setCell r 1 _ (.inl rfl)) (fun k hk e => ?_)) (Nat.zero_le _)
    have := (hown.lt k hk).1
    omega
theorem SetDone.kept {w w1 w2 : World} {r : Nat} {v1 : Value} {most : Int} {zs : List Key} {Fp : Nat → Prop} (h : SetDone w w1 r most zs v1) (hf : Fr Fp w1 w2) (h1 : ¬ Fp r) (h2 : ∀ j, v1.ownBlock = some j → ¬ Fp j) (h3 : ∀ j, Fp j → w.heap.size ≤ j) : SetDone w w2 r most zs v1 := by
  refine ⟨h.1.kept hf ?_, h.2.1, ?_⟩
  · rintro k (rfl | hk)
    · exact h1
    · exact h2 k hk
  · have h4 := h.2.2
    refine ⟨hf.os.trans h4.os, hf.tape.trans h4.tape, hf.output.trans h4.output, Nat.le_trans h4.size hf.size, fun k hk hn => (hf.block k (Nat.lt_of_lt_of_le hk h4.size) (fun hp => ?_)).trans (h4.block k hk hn)⟩
    have := h3 k hp
    omega
theorem sput_full (w : World) (k : Key) (r : Nat) (v : Value) (most : Int) (xs : List Key) (h : IsSet w r v most xs) (hm : most ≤ xs.length) : Calls Try.prog 14 #[.pointer (some ⟨r, 0, none⟩), .agg #[.int .i64 k.due, .int .i64 k.task, .int .i64 k.n]] w fun e w' => e = .returned (.int .i64 6) ∧ Below w.heap.size w w' := by
  obtain ⟨c0, c1, cf⟩ := h.cells
  obtain ⟨p, cap, rfl⟩ : ∃ p cap, v = .slice p xs.length cap := by
    rcases h.2.1.2 with ⟨h1, h2⟩ | ⟨g, cap, cur, rfl, _⟩
    · exact ⟨none, 0, by rw [h1, h2]⟩
    · exact ⟨_, cap, rfl⟩
  have hH := h.lt r (.inl rfl)
  have d1 : decide (most ≤ (xs.length : Int)) = true := decide_eq_true hm
  have d2 : decide ((xs.length : Int) ≥ most) = true := decide_eq_true hm
  clear h hm
  go_enter Try.func14, Try.ntmps14
  go_wp2_with fail
  go_region
  all_goals
    go_wp2_with fail
    go_ret
    exact ⟨rfl, by repeat (first | (with_reducible exact Below.refl _ _) | (with_reducible assumption) | (with_reducible refine below_drewN ?_ _) | (with_reducible refine Below.drew ?_) | (with_reducible refine below_ext_of ?_ (by first | exact Nat.le_refl _ | assumption | (simp only [World.size_alloc, World.size_setCell, size_ext, World.heap_drewN]; omega)) _ _) | (with_reducible refine Below.alloc ?_ (by first | exact Nat.le_refl _ | assumption | (simp only [World.size_alloc, World.size_setCell, size_ext, World.heap_drewN]; omega)) _) | (with_reducible refine Below.setCell ?_ (by first | exact Nat.le_refl _ | assumption | (simp only [World.size_alloc, World.size_setCell, size_ext, World.heap_drewN]; omega)) _))⟩
theorem stake_none (w : World) (r : Nat) (v : Value) (most : Int) (h : IsSet w r v most []) : Calls Try.prog 13 #[.pointer (some ⟨r, 0, none⟩)] w fun e w' => e = .returned (.tuple #[.agg #[.int .i64 0, .int .i64 0, .int .i64 0], .bool false]) ∧ Below w.heap.size w w' := by
  obtain ⟨c0, c1, cf⟩ := h.cells
  obtain rfl := h.2.2 rfl
  have hH := h.lt r (.inl rfl)
  clear h
  go_enter Try.func13, Try.ntmps13
  go_wp2_with fail
  refine bodyPost_ret (v := .tuple #[.agg #[.int .i64 0, .int .i64 0, .int .i64 0], .bool false]) (by simp [results, Try.results13, go_sem]) rfl ⟨rfl, ?_⟩
  repeat (first | (with_reducible exact Below.refl _ _) | (with_reducible assumption) | (with_reducible refine below_drewN ?_ _) | (with_reducible refine Below.drew ?_) | (with_reducible refine below_ext_of ?_ (by first | exact Nat.le_refl _ | assumption | (simp only [World.size_alloc, World.size_setCell, size_ext, World.heap_drewN]; omega)) _ _) | (with_reducible refine Below.alloc ?_ (by first | exact Nat.le_refl _ | assumption | (simp only [World.size_alloc, World.size_setCell, size_ext, World.heap_drewN]; omega)) _) | (with_reducible refine Below.setCell ?_ (by first | exact Nat.le_refl _ | assumption | (simp only [World.size_alloc, World.size_setCell, size_ext, World.heap_drewN]; omega)) _))
set_option maxHeartbeats 2000000 in
theorem stake_ok (w : World) (r : Nat) (v : Value) (most : Int) (x : Key) (xs : List Key) (h : IsSet w r v most (x :: xs)) (hn : xs.length ≤ 4096) : Calls Try.prog 13 #[.pointer (some ⟨r, 0, none⟩)] w fun e w' => e = .returned (.tuple #[.agg #[.int .i64 x.due, .int .i64 x.task, .int .i64 x.n], .bool true]) ∧ ∃ v', SetDone w w' r most xs v' := by
  obtain ⟨i0, hi, hz0, hz1, hz2⟩ := info_parts infoK
  obtain ⟨g, cap, rfl, hg, hgr, hcap, hcm⟩ := h.form (by simp)
  obtain ⟨c0, c1, cf⟩ := h.cells
  obtain ⟨f1, f2, f3⟩ := h.2.1.rowE rfl 0 (by simp)
  rw [Nat.zero_mul] at f1 f2 f3
  rw [Nat.zero_add] at f2 f3
  have e0 : at_ (x :: xs) 0 = x := rfl
  rw [e0] at f1 f2 f3
  have hH := h.lt r (.inl rfl)
  have Hs := Lib.hid (h.src rfl)
  have Hh := Lib.hid h
  clear h e0
  rw [List.length_cons] at c1 hcap
  obtain ⟨n, hln⟩ : ∃ n, n = xs.length := ⟨_, rfl⟩
  rw [← hln] at c1 hcap hn
  have Hln := Lib.hid hln
  clear hln
  have b1 : ((n : Int) + 1 == 0) = false := beq_false_of_ne (by omega)
  have b2 : (0 : Int) < (n : Int) + 1 := by omega
  have b3 : (1 : Int) ≤ (n : Int) + 1 := by omega
  have b4 : (1 : Int) ≤ (cap : Int) := by omega
  go_enter Try.func13, Try.ntmps13
  obtain ⟨go, hE, hsd⟩ : ∃ go, (if cap = 1 then some (⟨g, 0, none⟩ : Addr) else some ⟨g, 3, none⟩) = some ⟨g, go, none⟩ ∧ Src w g go xs := by
    by_cases hc : cap = 1
    · refine ⟨0, by rw [if_pos hc], fun i hi => ?_⟩
      have := Hln.out
      omega
    · refine ⟨3, by rw [if_neg hc], ?_⟩
      have := Hs.out.drop 1
      simpa using this
  have Hsd := Lib.hid hsd
  have HE := Lib.hid hE
  clear hsd hE
  go_wp2_with (first
    | (at_builtin; refine wpList_append_own_at _ (by rfl) _ _ 22 rfl (w.heap.size + 2) 31 i0 (.agg #[.int .i64 0, .int .i64 0, .int .i64 0]) 3 24 Try.underlying22 hi hz0 hz1 hz2 rfl (by decide) _ 0 [] (by rfl) (World.ownsRow_nil _ _ _ _) ⟨g, go, none⟩ n (cap - 1) (flat xs) (by simp [Act.eval, HE.out]) (by rw [flat_length, Hln.out]) (src_news (Hsd.out.below (by repeat (first | (with_reducible exact Below.refl _ _) | (with_reducible assumption) | (with_reducible refine below_drewN ?_ _) | (with_reducible refine Below.drew ?_) | (with_reducible refine below_ext_of ?_ (by first | exact Nat.le_refl _ | assumption | (simp only [World.size_alloc, World.size_setCell, size_ext, World.heap_drewN]; omega)) _ _) | (with_reducible refine Below.alloc ?_ (by first | exact Nat.le_refl _ | assumption | (simp only [World.size_alloc, World.size_setCell, size_ext, World.heap_drewN]; omega)) _) | (with_reducible refine Below.setCell ?_ (by first | exact Nat.le_refl _ | assumption | (simp only [World.size_alloc, World.size_setCell, size_ext, World.heap_drewN]; omega)) _))) hg)) (flat_one xs) (by unfold maxLen; omega) (by omega) (by simp [go_sem]) ?_
       intro v1 w1 hown hgrow hnil hat
       rw [Nat.zero_add] at hown
       obtain ⟨p1, cp1, rfl⟩ := row_form hown
       have q1 : w1.cell? ⟨r, 1, none⟩ = some (.slice (some ⟨g, 0, none⟩) (n + 1) cap) := (hgrow.cell_far ⟨r, 1, none⟩ (by simp [go_sem]; omega) (by simp [Value.ownBlock])).trans (by simp [go_sem, c1, hH])
       have qf : w1.frozen? ⟨r, 1, none⟩ = false := (hgrow.frozen_far ⟨r, 1, none⟩ (by simp [go_sem]; omega) (by simp [Value.ownBlock])).trans (by simp [go_sem, cf, hH])
       have x0 : w1.cell? ⟨w.heap.size + 1, 0, none⟩ = some (.int .i64 x.due) := (hgrow.cell_far ⟨w.heap.size + 1, 0, none⟩ (by simp [go_sem]) (by simp [Value.ownBlock])).trans (by simp [go_sem])
       have x1 : w1.cell? ⟨w.heap.size + 1, 1, none⟩ = some (.int .i64 x.task) := (hgrow.cell_far ⟨w.heap.size + 1, 1, none⟩ (by simp [go_sem]) (by simp [Value.ownBlock])).trans (by simp [go_sem])
       have x2 : w1.cell? ⟨w.heap.size + 1, 2, none⟩ = some (.int .i64 x.n) := (hgrow.cell_far ⟨w.heap.size + 1, 2, none⟩ (by simp [go_sem]) (by simp [Value.ownBlock])).trans (by simp [go_sem])
       have y0 : w1.cell? ⟨w.heap.size, 0, none⟩ = some (.int .i64 0) := (hgrow.cell_far ⟨w.heap.size, 0, none⟩ (by simp [go_sem]) (by simp [Value.ownBlock])).trans (by simp [go_sem])
       have y1 : w1.cell? ⟨w.heap.size, 1, none⟩ = some (.int .i64 0) := (hgrow.cell_far ⟨w.heap.size, 1, none⟩ (by simp [go_sem]) (by simp [Value.ownBlock])).trans (by simp [go_sem])
       have y2 : w1.cell? ⟨w.heap.size, 2, none⟩ = some (.int .i64 0) := (hgrow.cell_far ⟨w.heap.size, 2, none⟩ (by simp [go_sem]) (by simp [Value.ownBlock])).trans (by simp [go_sem])
       have yf : ∀ o, w1.frozen? ⟨w.heap.size, o, none⟩ = false := fun o => (hgrow.frozen_far ⟨w.heap.size, o, none⟩ (by simp [go_sem]) (by simp [Value.ownBlock])).trans (by simp [go_sem])
       have hsz : w.heap.size + 2 ≤ w1.heap.size := Nat.le_trans (by simp [go_sem]) hgrow.size
       have hz3 : r < w1.heap.size := by omega
       have hz4 : w.heap.size + 1 < w1.heap.size := by omega
       have hz5 : w.heap.size < w1.heap.size := by omega
       have hb1 : Below w.heap.size w w1 := Below.grown (by repeat (first | (with_reducible exact Below.refl _ _) | (with_reducible assumption) | (with_reducible refine below_drewN ?_ _) | (with_reducible refine Below.drew ?_) | (with_reducible refine below_ext_of ?_ (by first | exact Nat.le_refl _ | assumption | (simp only [World.size_alloc, World.size_setCell, size_ext, World.heap_drewN]; omega)) _ _) | (with_reducible refine Below.alloc ?_ (by first | exact Nat.le_refl _ | assumption | (simp only [World.size_alloc, World.size_setCell, size_ext, World.heap_drewN]; omega)) _) | (with_reducible refine Below.setCell ?_ (by first | exact Nat.le_refl _ | assumption | (simp only [World.size_alloc, World.size_setCell, size_ext, World.heap_drewN]; omega)) _))) hgrow (by simp [go_sem]; omega) (fun k hk => by simp [Value.ownBlock] at hk)
       have Hown := Lib.hid hown
       have Hnil := Lib.hid hnil
       have HB := Lib.hid hb1
       clear hown hgrow hnil hat hb1))
  all_goals
    have hne : r ≠ w.heap.size := by omega
    have hdone := set_row Hh.out HB.out (Nat.le_add_right _ 2) (show RowK w1 (w.heap.size + 2) (.slice p1 n cp1) xs from by unfold RowK; rw [← Hln.out]; simpa using Hown.out) (fun h => Hnil.out.2 ⟨trivial, by rw [Hln.out, h]; rfl⟩)
    have hfin := hdone.kept (Fp := fun j => j = w.heap.size) (w2 := (((w1.setCell ⟨r, 1, none⟩ (.slice p1 n cp1)).setCell ⟨w.heap.size, 0, none⟩ (.int .i64 x.due)).setCell ⟨w.heap.size, 1, none⟩ (.int .i64 x.task)).setCell ⟨w.heap.size, 2, none⟩ (.int .i64 x.n)) (by repeat (first | (with_reducible exact Fr.refl _ _) | (with_reducible apply Fr.ext) | (with_reducible apply Fr.drew) | (with_reducible apply Fr.alloc) | (with_reducible refine Fr.setCell ?_ _ _ _ (.inl rfl)))) hne (fun j hj e => by have := (World.ownsRow.lt Hown.out j hj).1; omega) (fun j e => by omega)
    exact bodyPost_ret (v := .tuple #[.agg #[.int .i64 x.due, .int .i64 x.task, .int .i64 x.n], .bool true]) (by simp [results, Try.results13, go_sem, y0, y1, y2, hz5]) rfl ⟨rfl, .slice p1 n cp1, hfin⟩
theorem ext_drew2 (w : World) : w.drew = ext w #[] (w.drawn + 1) := (ext_nil w.drew).symm
theorem key_src (w : World) (k : Key) : ∀ j u, (kv k)[j]? = some u → (w.alloc (.cells #[.int .i64 k.due, .int .i64 k.task, .int .i64 k.n] 31)).cell? ((⟨w.heap.size, 0, none⟩ : Addr).add j) = some u := by
  intro j u hj
  unfold kv at hj
  match j, hj with
  | 0, hj => simp at hj; subst hj; simp [Addr.add, go_sem]
  | 1, hj => simp at hj; subst hj; simp [Addr.add, go_sem]
  | 2, hj => simp at hj; subst hj; simp [Addr.add, go_sem]
  | j + 3, hj => simp at hj
set_option maxRecDepth 100000 in
set_option maxHeartbeats 8000000 in
theorem sput_ok (w : World) (k : Key) (r : Nat) (v : Value) (most : Int) (xs : List Key) (h : IsSet w r v most xs) (h0 : 0 < xs.length) (hm : (xs.length : Int) < most) (hn : xs.length ≤ 4096) :
    Calls Try.prog 14 #[.pointer (some ⟨r, 0, none⟩), .agg #[.int .i64 k.due, .int .i64 k.task, .int .i64 k.n]] w fun e w' => e = .returned (.int .i64 0) ∧ ∃ v', SetDone w w' r most (ins k xs) v' := by
  obtain ⟨i0, hi, hz0, hz1, hz2⟩ := info_parts infoK
  obtain ⟨g, cap, rfl, hg, hgr, hcap, hcm⟩ := h.form h0
  obtain ⟨c0, c1, cf⟩ := h.cells
  have hH := h.lt r (.inl rfl)
  have Hs := Lib.hid (h.src rfl)
  have Hh := Lib.hid h
  have Hp := Lib.hid (pos_le k xs)
  clear h
  obtain ⟨n, hln⟩ : ∃ n, n = xs.length := ⟨_, rfl⟩
  rw [← hln] at c1 hcap hn h0 hm
  have Hln := Lib.hid hln
  clear hln
  have d1 : decide (most ≤ (n : Int)) = false := decide_eq_false (by omega)
  have d2 : decide ((n : Int) ≥ most) = false := decide_eq_false (by omega)
  have d3 : ¬ (most ≤ (n : Int)) := by omega
  obtain ⟨P, hP⟩ : ∃ P, P = pos k xs := ⟨_, rfl⟩
  have HP := Lib.hid hP
  have hPn : P ≤ n := by have := Hp.out; have := Hln.out; omega
  clear hP hm
  go_enter Try.func14, Try.ntmps14
  go_wp2_with fail
  go_region
  go_wp2_with fail
  clear d1 d2 d3
  go_loopw [5] (fun i wr => ∃ (at' : Nat) (X : Array Obj) (d : Nat), i = .int .i64 (at' : Int) ∧ at' ≤ P ∧ wr = ext (w.alloc (.cells #[.int .i64 k.due, .int .i64 k.task, .int .i64 k.n] 31)) X d) (fun i _ => n - (intOf i).toNat)
  case atStart => exact ⟨0, #[], _, rfl, by omega, ext_drew2 _⟩
  case round =>
  obtain ⟨at', X, d, rfl, hat, rfl⟩ := hrel
  have e3 : (0 : Int) ≤ at' := by omega
  go_upto_region 4 with (fail)
  go_cut [35] (fun s wc => s = .bool (decide (at' < P)) ∧ ∃ X d, wc = ext (w.alloc (.cells #[.int .i64 k.due, .int .i64 k.task, .int .i64 k.n] 31)) X d)
  case first =>
    by_cases hk : at' < n
    · have e1 : (at' : Int) < n := by omega
      have e2 := decide_eq_true e1
      obtain ⟨s1, s2, s3⟩ := Hs.out at' (by have := Hln.out; omega)
      simp only [Nat.zero_add] at s1 s2 s3
      have hL : Hid ((!(less k (at_ xs at'))) = decide (at' < P)) := Lib.hid (by
        have hP := HP.out
        by_cases hlt : at' < P
        · rw [pos_before k xs at' (by omega), decide_eq_true hlt]; rfl
        · have : at' = pos k xs := by omega
          rw [this, pos_at k xs (by have := Hln.out; omega), decide_eq_false (by omega)]; rfl)
      obtain ⟨x, hx⟩ : ∃ x, x = at_ xs at' := ⟨_, rfl⟩
      rw [← hx] at s1 s2 s3 hL
      clear hx
      go_region_held3 (fun w' => w'.cell? ⟨r, 1, none⟩ = some (.slice (some ⟨g, 0, none⟩) n cap) ∧ w'.cell? ⟨g, at' * 3, none⟩ = some (.int .i64 x.due) ∧ w'.cell? ⟨g, at' * 3 + 1, none⟩ = some (.int .i64 x.task) ∧ w'.cell? ⟨g, at' * 3 + 2, none⟩ = some (.int .i64 x.n) ∧ w'.cell? ⟨w.heap.size, 0, none⟩ = some (.int .i64 k.due) ∧ w'.cell? ⟨w.heap.size, 1, none⟩ = some (.int .i64 k.task) ∧ w'.cell? ⟨w.heap.size, 2, none⟩ = some (.int .i64 k.n)) (go_simp) (first
        | (go_at_call 23; refine (rless_any k x _).mono ?_; rintro e w1 ⟨rfl, hbw⟩; obtain ⟨X1, e1, rfl⟩ := below_ext hbw; clear hbw))
      rename_i hHeld
      clear hHeld
      go_wp2_with fail
      go_meet
      case rel => exact ⟨by rw [hL.out], _, _, rfl⟩
    · have e1 : ¬ ((at' : Int) < n) := by omega
      have e2 := decide_eq_false e1
      have e4 : Hid (false = decide (at' < P)) := Lib.hid (decide_eq_false (by omega)).symm
      go_region
      all_goals
        go_wp2_with fail
        go_meet
        case rel => exact ⟨by rw [← e4.out], _, _, rfl⟩
  case rest =>
  clear X d
  obtain ⟨rfl, X, d, rfl⟩ := hcut
  by_cases hlt : at' < P
  · have hd := decide_eq_true hlt
    rw [hd]
    go_wp2_with fail
    go_roundw
    case measure =>
      simp only [intOf, Int.toNat_natCast]
      omega
    case rel => exact ⟨at' + 1, _, _, rfl, by omega, rfl⟩
  · have hd := decide_eq_false hlt
    rw [hd]
    obtain rfl : at' = P := by omega
    obtain ⟨W, hW⟩ : ∃ W, W = ext (w.alloc (.cells #[.int .i64 k.due, .int .i64 k.task, .int .i64 k.n] 31)) X d := ⟨_, rfl⟩
    rw [← hW]
    have hbW : Below w.heap.size w W := by rw [hW]; exact below_ext_of ((Below.refl _ _).alloc (Nat.le_refl _) _) (by simp [go_sem]) _ _
    have hsW : w.heap.size + 1 ≤ W.heap.size := by rw [hW]; simp [go_sem]
    have k0 : W.cell? ⟨w.heap.size, 0, none⟩ = some (.int .i64 k.due) := by rw [hW]; simp [go_sem]
    have k1 : W.cell? ⟨w.heap.size, 1, none⟩ = some (.int .i64 k.task) := by rw [hW]; simp [go_sem]
    have k2 : W.cell? ⟨w.heap.size, 2, none⟩ = some (.int .i64 k.n) := by rw [hW]; simp [go_sem]
    have C1 := (hbW.cell (p := ⟨r, 1, none⟩) hH).trans c1
    have CF : ∀ o, W.frozen? ⟨r, o, none⟩ = false := fun o => (hbW.frozen (p := ⟨r, o, none⟩) hH).trans (cf o)
    have HSW := Lib.hid (Hs.out.below hbW hg)
    have hrW : r < W.heap.size := by omega
    have hgW : g < W.heap.size := by omega
    clear c1 cf c0 hd hlt hat hPn
    have hae : at' ≤ n := by have := Hp.out; have := Hln.out; have := HP.out; omega
    obtain ⟨go, hE, hsd⟩ : ∃ go, (if cap = at' then some (⟨g, 0, none⟩ : Addr) else some ⟨g, at' * 3, none⟩) = some ⟨g, go, none⟩ ∧ Src W g go (xs.drop at') := by
      by_cases hc : cap = at'
      · refine ⟨0, by rw [if_pos hc], fun i hi => ?_⟩
        have := Hln.out
        rw [List.length_drop] at hi
        omega
      · refine ⟨at' * 3, by rw [if_neg hc], ?_⟩
        have := HSW.out.drop at'
        simpa using this
    have HSD := Lib.hid hsd
    have HE := Lib.hid hE
    have HBW := Lib.hid hbW
    have f1 : at' ≤ cap := by omega
    have f2 : (at' : Int) ≤ (cap : Int) := by omega
    have f3 : (at' : Int) ≤ (n : Int) := by omega
    clear hW hbW hsd hE
    go_upto_region 8 with (first
      | (at_builtin; refine wpList_append_own_at _ (by rfl) _ _ 22 rfl (w.heap.size + 1) 31 i0 (.agg #[.int .i64 0, .int .i64 0, .int .i64 0]) 3 24 Try.underlying22 hi hz0 hz1 hz2 rfl (by decide) _ 0 [] (by rfl) (World.ownsRow_nil _ _ _ _) ⟨g, 0, none⟩ at' cap (flat (xs.take at')) (by rfl) (by rw [flat_length, List.length_take, ← Hln.out, Nat.min_eq_left hae]) (src_news (HSW.out.take at')) (flat_one _) (by unfold maxLen; omega) (by omega) hsW ?_
         intro v1 w1 hown1 hgrow1 hnil1 hat1
         rw [Nat.zero_add] at hown1
         obtain ⟨p1, cp1, rfl⟩ := row_form hown1
         have hno : ∀ b, some b ≠ (Value.slice none 0 0).ownBlock := fun b => by simp [Value.ownBlock]
         have k0' := (hgrow1.cell_far ⟨w.heap.size, 0, none⟩ (show w.heap.size < W.heap.size by omega) (hno _)).trans k0
         have k1' := (hgrow1.cell_far ⟨w.heap.size, 1, none⟩ (show w.heap.size < W.heap.size by omega) (hno _)).trans k1
         have k2' := (hgrow1.cell_far ⟨w.heap.size, 2, none⟩ (show w.heap.size < W.heap.size by omega) (hno _)).trans k2
         have C1' := (hgrow1.cell_far ⟨r, 1, none⟩ hrW (hno _)).trans C1
         have CF' : ∀ o, w1.frozen? ⟨r, o, none⟩ = false := fun o => (hgrow1.frozen_far ⟨r, o, none⟩ hrW (hno _)).trans (CF o)
         have hF1 := (Fr.refl (fun _ => False) W).grown hgrow1 (fun k _ e => by simp [Value.ownBlock] at e)
         have HB1 := Lib.hid (HBW.out.trans (hF1.to_below HBW.out.size (fun _ h => h.elim)))
         have HSD1 := Lib.hid (HSD.out.kept hF1 hgW (fun h => h))
         have hs1 : w.heap.size + 1 ≤ w1.heap.size := Nat.le_trans hsW hF1.size
         have hr1 : r < w1.heap.size := by omega
         have HO1 := Lib.hid hown1
         clear hown1 hgrow1 hnil1 hat1 hno k0 k1 k2 C1 CF hF1 HSD HBW HSW hsW hrW hgW))
    go_upto_region 9 with (first
      | (at_builtin; refine wpList_append_own_at _ (by rfl) _ _ 22 rfl (w.heap.size + 1) 31 i0 (.agg #[.int .i64 0, .int .i64 0, .int .i64 0]) 3 24 Try.underlying22 hi hz0 hz1 hz2 rfl (by decide) (.slice p1 at' cp1) at' (flat (xs.take at')) (by rfl) (HO1.out.alloc _) ⟨w1.heap.size, 0, none⟩ 1 1 (kv k) (by rfl) rfl (key_src w1 k) (one_kv k) (by unfold maxLen; omega) (by omega) (by simp; omega) ?_
         intro v2 w2 hown2 hgrow2 hnil2 hat2
         obtain ⟨p2, cp2, rfl⟩ := row_form hown2
         have hno : ∀ b, b ≤ w.heap.size → some b ≠ (Value.slice p1 at' cp1).ownBlock := fun b hb e => by have := (HO1.out.lt b e.symm).1; omega
         have hA1 : w1.heap.size < (w1.alloc (.cells #[.int .i64 k.due, .int .i64 k.task, .int .i64 k.n] 31)).heap.size := by simp
         have C1'' := ((hgrow2.cell_far ⟨r, 1, none⟩ (Nat.lt_trans hr1 hA1) (hno _ (Nat.le_of_lt hH))).trans (World.cell?_alloc_past _ _ _ hr1)).trans C1'
         have CF'' : ∀ o, w2.frozen? ⟨r, o, none⟩ = false := fun o => ((hgrow2.frozen_far ⟨r, o, none⟩ (Nat.lt_trans hr1 hA1) (hno _ (Nat.le_of_lt hH))).trans (World.frozen?_alloc_past _ _ _ hr1)).trans (CF' o)
         have hF2 := ((Fr.refl (fun j => w.heap.size + 1 ≤ j) w1).alloc (.cells #[.int .i64 k.due, .int .i64 k.task, .int .i64 k.n] 31)).grown hgrow2 (fun k _ e => (HO1.out.lt k e).1)
         have HB2 := Lib.hid (HB1.out.trans (hF2.to_below HB1.out.size (fun j h => by omega)))
         have HSD2 := Lib.hid (HSD1.out.kept hF2 (by omega) (by omega))
         have hs2 : w.heap.size + 1 ≤ w2.heap.size := Nat.le_trans hs1 hF2.size
         have hr2 : r < w2.heap.size := by omega
         have HO2 := Lib.hid hown2
         clear hown2 hgrow2 hnil2 hat2 hno hF2 hA1 HO1 HB1 HSD1 C1' CF' k0' k1' k2' hr1 hs1))
    go_wp2_with (first
      | (at_builtin; refine wpList_append_own_at _ (by rfl) _ _ 22 rfl (w.heap.size + 1) 31 i0 (.agg #[.int .i64 0, .int .i64 0, .int .i64 0]) 3 24 Try.underlying22 hi hz0 hz1 hz2 rfl (by decide) (.slice p2 (at' + 1) cp2) (at' + 1) (flat (xs.take at') ++ kv k) (by rfl) HO2.out ⟨g, go, none⟩ (n - at') (cap - at') (flat (xs.drop at')) (by simp [Act.eval, HE.out]) (by rw [flat_length, List.length_drop, ← Hln.out]) (src_news HSD2.out) (flat_one _) (by unfold maxLen; omega) (by omega) hs2 ?_
         intro v3 w3 hown3 hgrow3 hnil3 hat3
         rw [show at' + 1 + (n - at') = n + 1 by omega] at hown3
         obtain ⟨p3, cp3, rfl⟩ := row_form hown3
         have hno : ∀ b, b ≤ w.heap.size → some b ≠ (Value.slice p2 (at' + 1) cp2).ownBlock := fun b hb e => by have := (HO2.out.lt b e.symm).1; omega
         have C3 := (hgrow3.cell_far ⟨r, 1, none⟩ hr2 (hno _ (Nat.le_of_lt hH))).trans C1''
         have CF3 : ∀ o, w3.frozen? ⟨r, o, none⟩ = false := fun o => (hgrow3.frozen_far ⟨r, o, none⟩ hr2 (hno _ (Nat.le_of_lt hH))).trans (CF'' o)
         have hF3 := (Fr.refl (fun j => w.heap.size + 1 ≤ j) w2).grown hgrow3 (fun k _ e => (HO2.out.lt k e).1)
         have HB3 := Lib.hid (HB2.out.trans (hF3.to_below HB2.out.size (fun j h => by omega)))
         have hr3 : r < w3.heap.size := Nat.lt_of_lt_of_le hr2 hF3.size
         have HO3 := Lib.hid hown3
         clear hown3 hgrow3 hnil3 hat3 hno hF3 HO2 HB2 HSD2 C1'' CF'' hs2 hr2))
    all_goals
      have hdone := set_row Hh.out HB3.out (Nat.le_add_right _ 1) (show RowK w3 (w.heap.size + 1) (.slice p3 (n + 1) cp3) (ins k xs) from by
        unfold RowK
        rw [ins_length, ← Hln.out, ins_pos, ← HP.out, flat_append, flat_append]
        exact HO3.out) (fun h => by have := ins_length k xs; rw [h] at this; simp at this)
      go_wp2_with fail
      go_ret
      exact ⟨rfl, _, hdone⟩
set_option maxHeartbeats 4000000 in
theorem sput_nil (w : World) (k : Key) (r : Nat) (v : Value) (most : Int) (h : IsSet w r v most []) (hm : 0 < most) :
    Calls Try.prog 14 #[.pointer (some ⟨r, 0, none⟩), .agg #[.int .i64 k.due, .int .i64 k.task, .int .i64 k.n]] w fun e w' => e = .returned (.int .i64 0) ∧ ∃ v', SetDone w w' r most [k] v' := by
  obtain ⟨i0, hi, hz0, hz1, hz2⟩ := info_parts infoK
  obtain ⟨c0, c1, cf⟩ := h.cells
  obtain rfl := h.2.2 rfl
  have hH := h.lt r (.inl rfl)
  have Hh := Lib.hid h
  clear h
  have d1 : decide (most ≤ 0) = false := decide_eq_false (by omega)
  have d2 : decide ((0 : Int) ≥ most) = false := decide_eq_false (by omega)
  have d3 : ¬ (most ≤ 0) := by omega
  go_enter Try.func14, Try.ntmps14
  go_wp2_with fail
  go_region
  go_wp2_with fail
  refine wp_loop_rounds 1 ?_
  rw [rounds_succ]
  go_wp2_with fail
  go_region
  all_goals
    go_upto_region 7 with (fail)
    obtain ⟨W, hW⟩ : ∃ W, W = (w.alloc (.cells #[.int .i64 k.due, .int .i64 k.task, .int .i64 k.n] 31)).drew.drew := ⟨_, rfl⟩
    rw [← hW]
    have hbW : Below w.heap.size w W := by rw [hW]; exact (((Below.refl _ _).alloc (Nat.le_refl _) _).drew).drew
    have hsW : w.heap.size + 1 ≤ W.heap.size := by rw [hW]; simp [go_sem]
    have k0 : W.cell? ⟨w.heap.size, 0, none⟩ = some (.int .i64 k.due) := by rw [hW]; simp [go_sem]
    have k1 : W.cell? ⟨w.heap.size, 1, none⟩ = some (.int .i64 k.task) := by rw [hW]; simp [go_sem]
    have k2 : W.cell? ⟨w.heap.size, 2, none⟩ = some (.int .i64 k.n) := by rw [hW]; simp [go_sem]
    have C1 := (hbW.cell (p := ⟨r, 1, none⟩) hH).trans c1
    have CF : ∀ o, W.frozen? ⟨r, o, none⟩ = false := fun o => (hbW.frozen (p := ⟨r, o, none⟩) hH).trans (cf o)
    have hrW : r < W.heap.size := by omega
    have HBW := Lib.hid hbW
    clear c1 cf c0 hW hbW
    go_upto_region 8 with (first
      | (at_builtin; refine wpList_append_own_none (by rfl) _ _ 22 rfl (w.heap.size + 1) 31 i0 3 Try.underlying22 hi (.slice none 0 0) 0 [] (by rfl) (World.ownsRow_nil _ _ _ _) (by rfl) ?_))
    go_upto_region 9 with (first
      | (at_builtin; refine wpList_append_own_at _ (by rfl) _ _ 22 rfl (w.heap.size + 1) 31 i0 (.agg #[.int .i64 0, .int .i64 0, .int .i64 0]) 3 24 Try.underlying22 hi hz0 hz1 hz2 rfl (by decide) (.slice none 0 0) 0 [] (by rfl) (World.ownsRow_nil _ _ _ _) ⟨W.heap.size, 0, none⟩ 1 1 (kv k) (by rfl) rfl (key_src W k) (one_kv k) (by unfold maxLen; omega) (by omega) (by simp; omega) ?_
         intro v2 w2 hown2 hgrow2 hnil2 hat2
         rw [Nat.zero_add] at hown2
         obtain ⟨p2, cp2, rfl⟩ := row_form hown2
         have hno : ∀ b, some b ≠ (Value.slice none 0 0).ownBlock := fun b => by simp [Value.ownBlock]
         have hA1 : W.heap.size < (W.alloc (.cells #[.int .i64 k.due, .int .i64 k.task, .int .i64 k.n] 31)).heap.size := by simp
         have C1'' := ((hgrow2.cell_far ⟨r, 1, none⟩ (Nat.lt_trans hrW hA1) (hno _)).trans (World.cell?_alloc_past _ _ _ hrW)).trans C1
         have CF'' : ∀ o, w2.frozen? ⟨r, o, none⟩ = false := fun o => ((hgrow2.frozen_far ⟨r, o, none⟩ (Nat.lt_trans hrW hA1) (hno _)).trans (World.frozen?_alloc_past _ _ _ hrW)).trans (CF o)
         have hF2 := ((Fr.refl (fun _ => False) W).alloc (.cells #[.int .i64 k.due, .int .i64 k.task, .int .i64 k.n] 31)).grown hgrow2 (fun k _ e => by simp [Value.ownBlock] at e)
         have HB2 := Lib.hid (HBW.out.trans (hF2.to_below HBW.out.size (fun j h => h.elim)))
         have hr2 : r < w2.heap.size := Nat.lt_of_lt_of_le hrW hF2.size
         have HO2 := Lib.hid hown2
         clear hown2 hgrow2 hnil2 hat2 hno hF2 hA1 HBW C1 CF k0 k1 k2 hrW hsW))
    go_wp2_with (first
      | (at_builtin; refine wpList_append_own_none (by rfl) _ _ 22 rfl (w.heap.size + 1) 31 i0 3 Try.underlying22 hi (.slice p2 1 cp2) 1 _ (by rfl) HO2.out (by rfl) ?_))
    have hdone := set_row Hh.out HB2.out (Nat.le_add_right _ 1) (show RowK w2 (w.heap.size + 1) (.slice p2 1 cp2) [k] from HO2.out) (fun h => by cases h)
    go_wp2_with fail
    go_ret
    exact ⟨rfl, _, hdone⟩
end Go.Proofs.Ytbplaiooipldlaa
