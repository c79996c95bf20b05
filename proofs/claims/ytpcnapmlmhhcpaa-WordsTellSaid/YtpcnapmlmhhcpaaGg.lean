/-
  The reference's Bounds and Same: contracts.
  Conditions: the rows lie in memory; at most 4096 numbers.
-/
import Derived.Test.YtpcnapmlmhhcpaaGc
import Derived.WalkKit
import Derived.WalkSpells
import Derived.WalkLawsBesides
import Derived.Deep.QuietTactic
import Derived.BigQuiet
import Derived.Lib.Hide
import Derived.Handy
import Derived.Deep.AppendLies
import Derived.Maps.AppendAt
import Derived.OwnWalk
import Derived.Lib.LazyBuf
import Derived.Deep.DeepCutAuto
import Derived.Deep.RegionLaw
import Derived.Deep.RegionHeld3
import Derived.Deep.RegionWith
import Derived.BigRegion
import Derived.Deep.CutBlock
set_option linter.unusedVariables false
set_option linter.unusedSimpArgs false
namespace Go.Proofs.Ytpcnapmlmhhcpaa
open Go.RowKit 
open Big
attribute [local go_sem] setCell_drewN alloc_drewN size_ext ext_ext ext_drewN ext_drew drewN_ext drew_ext cell?_ext frozen?_ext setCell_ext cell?_past1 frozen?_past1 setCell_past1 cell?_past2 frozen?_past2 setCell_past2 cell?_past3 frozen?_past3 setCell_past3 cell?_past4 frozen?_past4 setCell_past4 cell?_past5 frozen?_past5 setCell_past5 cell?_past6 frozen?_past6 setCell_past6 cell?_past7 frozen?_past7 setCell_past7 cell?_past8 frozen?_past8 setCell_past8
attribute [local go_sem] min_ab max_ab

/-- The least, the greatest of a word's first numbers. -/
def loB (h l : List Int) : Nat → Int
  | 0 => at_ l 0
  | k + 1 => mnI (loB h l k) (Go.Proofs.Ytpcnapmlmhhcpaa.num h l k)
def hiB (h l : List Int) : Nat → Int
  | 0 => at_ l 0
  | k + 1 => mxI (hiB h l k) (Go.Proofs.Ytpcnapmlmhhcpaa.num h l k)
set_option maxRecDepth 100000 in
set_option maxHeartbeats 8000000 in
theorem rbounds_call (w : World) (vh vl : Value) (h l : List Int) (x y : Int) (h1 : RowAt w vh h) (h2 : RowAt w vl l) (hm : may h l = true) (hx : loB h l (h.length + l.length) = x) (hy : hiB h l (h.length + l.length) = y) :
    Calls Try.prog 32 #[.agg #[vh, vl]] w fun e w' => e = .returned (.tuple #[.int .i64 x, .int .i64 y]) ∧ Below w.heap.size w w' := by
  obtain ⟨m1, m2, m3⟩ := may_len hm
  have H1 := Lib.hid h1
  have H2 := Lib.hid h2
  obtain ⟨g, o, cl, rfl, rl, hg, hi⟩ := row_shape h2 m1
  obtain ⟨ph, ch, rfl, rh⟩ := h1
  have s0 := hi 0 m1
  rw [Nat.add_zero] at s0
  obtain ⟨p, hp⟩ : ∃ p, p = h.length := ⟨_, rfl⟩
  obtain ⟨q, hq⟩ : ∃ q, q = l.length := ⟨_, rfl⟩
  obtain ⟨n, hn⟩ : ∃ n, n = p + q := ⟨_, rfl⟩
  rw [← hp] at m3
  rw [← hq] at m1 m2
  have HX : Hid (loB h l n = x) := Lib.hid (by rw [hn, hp, hq]; exact hx)
  have HY : Hid (hiB h l n = y) := Lib.hid (by rw [hn, hp, hq]; exact hy)
  rw [← hp, ← hq]
  have R1 : Hid (RowAt w (.slice ph p ch) h) := Lib.hid (by rw [hp]; exact H1.out)
  have R2 : Hid (RowAt w (.slice (some ⟨g, o, none⟩) q cl) l) := Lib.hid (by rw [hq]; exact H2.out)
  have HP := Lib.hid hp
  have HQ := Lib.hid hq
  have e1 : ((p : Int) + (q : Int)) = (n : Int) := by omega
  have e2 : IntKind.i64.wrap ((p : Int) + (q : Int)) = (n : Int) := by rw [IntKind.wrap_i64]; omega
  have e3 : (0 : Int) < q := by omega
  have e5 : n ≤ 20000 := by omega
  have L0 : Hid (loB h l 0 = at_ l 0) := Lib.hid rfl
  have L1 : Hid (hiB h l 0 = at_ l 0) := Lib.hid rfl
  have LS : Hid (∀ k, loB h l (k + 1) = mnI (loB h l k) (Go.Proofs.Ytpcnapmlmhhcpaa.num h l k)) := Lib.hid (fun k => rfl)
  have LT : Hid (∀ k, hiB h l (k + 1) = mxI (hiB h l k) (Go.Proofs.Ytpcnapmlmhhcpaa.num h l k)) := Lib.hid (fun k => rfl)
  clear hp hq hn hx hy H1 H2 hi rh rl hm
  generalize at_ l 0 = z0 at *
  go_enter Try.func32, Try.ntmps32
  go_wp2_with fail
  obtain ⟨W, hW⟩ : ∃ W, W = w.alloc (.cells #[.slice ph p ch, .slice (some ⟨g, o, none⟩) q cl] 24) := ⟨_, rfl⟩
  rw [← hW]
  have HBW : Hid (Below w.heap.size w W) := Lib.hid (by rw [hW]; exact (Below.refl _ _).alloc (Nat.le_refl _) _)
  have HBX : Hid (W.heap[w.heap.size]? = some (.cells #[.slice ph p ch, .slice (some ⟨g, o, none⟩) q cl] 24)) := Lib.hid (by rw [hW]; exact heap_alloc_new w _)
  have hw0 : w.heap.size < W.heap.size := by rw [hW, World.size_alloc]; omega
  have s1 := (HBW.out.cell (p := ⟨g, o, none⟩) hg).trans s0
  clear hW
  obtain ⟨x0, x1⟩ := cell_of HBX.out
  go_region
  go_wp2_with fail
  clear s1 s0
  go_loopw [4, 5, 6] (fun i4 i5 i6 wr => ∃ (k : Nat) (V : World), i4 = .int .i64 (loB h l k) ∧ i5 = .int .i64 (hiB h l k) ∧ i6 = .int .i64 (k : Int) ∧ k ≤ n ∧ V = wr ∧ Hid (Below W.heap.size W V)) (fun _ _ i6 _ => n - (intOf i6).toNat)
  case atStart => exact ⟨0, _, by rw [L0.out], by rw [L1.out], rfl, Nat.zero_le _, rfl, Lib.hid (by repeat (first | (with_reducible exact Below.refl _ _) | (with_reducible assumption) | (with_reducible refine below_drewN ?_ _) | (with_reducible refine Below.drew ?_) | (with_reducible refine below_ext_of ?_ (by first | exact Nat.le_refl _ | assumption | (simp only [World.size_alloc, World.size_setCell, size_ext, World.heap_drewN]; omega)) _ _) | (with_reducible refine Below.alloc ?_ (by first | exact Nat.le_refl _ | assumption | (simp only [World.size_alloc, World.size_setCell, size_ext, World.heap_drewN]; omega)) _) | (with_reducible refine Below.setCell ?_ (by first | exact Nat.le_refl _ | assumption | (simp only [World.size_alloc, World.size_setCell, size_ext, World.heap_drewN]; omega)) _)))⟩
  case round =>
  obtain ⟨k, V, rfl, rfl, rfl, hkn, rfl, hbv⟩ := hrel
  have hVs := hbv.out.size
  obtain ⟨v0, v1⟩ := cell_of ((hbv.out.block _ hw0).trans HBX.out)
  have hv1 : w.heap.size < V.heap.size := by omega
  by_cases hlt : k < n
  · have a1 : (k : Int) < n := by omega
    have a2 := decide_eq_true a1
    have a3 : IntKind.i64.wrap ((k : Int) + 1) = (k : Int) + 1 := by rw [IntKind.wrap_i64]; omega
    have F1 : Hid (mnI (loB h l k) (Go.Proofs.Ytpcnapmlmhhcpaa.num h l k) = loB h l (k + 1)) := Lib.hid (LS.out k).symm
    have F2 : Hid (mxI (hiB h l k) (Go.Proofs.Ytpcnapmlmhhcpaa.num h l k) = hiB h l (k + 1)) := Lib.hid (LT.out k).symm
    have RV1 := Lib.hid (R1.out.below (HBW.out.trans (hbv.out.mono (Nat.le_of_lt hw0))))
    have RV2 := Lib.hid (R2.out.below (HBW.out.trans (hbv.out.mono (Nat.le_of_lt hw0))))
    obtain ⟨lo, hlo⟩ : ∃ lo, loB h l k = lo := ⟨_, rfl⟩
    obtain ⟨hi, hhi⟩ : ∃ hi, hiB h l k = hi := ⟨_, rfl⟩
    obtain ⟨nx, hnx⟩ : ∃ nx, Go.Proofs.Ytpcnapmlmhhcpaa.num h l k = nx := ⟨_, rfl⟩
    rw [hlo, hhi]
    rw [hlo, hnx] at F1
    rw [hhi, hnx] at F2
    have HNX := Lib.hid hnx
    clear hlo hhi hnx
    go_wp2_with (go_at_call 34; refine (rat_any _ _ _ h l k RV1.out RV2.out (by rw [← HQ.out]; exact m1) (by omega) (by rw [← HP.out]; omega)).mono ?_; rintro e w1 ⟨rfl, hb⟩; obtain ⟨X, d, rfl⟩ := below_ext hb; clear hb; rw [HNX.out])
    go_roundw
    case measure =>
      simp only [intOf, Int.toNat_natCast]
      omega
    case rel => exact ⟨k + 1, _, by rw [← F1.out], by rw [← F2.out], by go_num, by omega, rfl, Lib.hid (below_ext_of hbv.out hVs _ _)⟩
  · have hk : k = n := by omega
    subst hk
    have a1 : ¬ ((k : Int) < k) := by omega
    have a2 := decide_eq_false a1
    rw [HX.out, HY.out]
    go_wp2_with fail
    go_ret2
    exact ⟨rfl, HBW.out.trans (hbv.out.mono (Nat.le_of_lt hw0))⟩

theorem rsame_eq {a b c d : List Int} (m1 : may a b = true) (m2 : may c d = true) : eqW (nH a b) (nL a b) (nH c d) (nL c d) = same a b c d := by
  unfold same eqW
  rw [(may_norm m1).1, (may_norm m2).1, decide_eq_true rfl, Bool.true_and, Bool.true_and]
theorem rsame_no {a b c d : List Int} (h : may a b = false ∨ may c d = false) : same a b c d = false := by
  unfold same
  rcases h with h | h
  · have e : nE a b = 2 := by unfold nE; rw [if_neg (by rw [h]; decide)]
    rw [e, decide_eq_false (by decide), Bool.false_and]
  · have e : nE c d = 2 := by unfold nE; rw [if_neg (by rw [h]; decide)]
    rw [e, show decide ((2 : Int) = 0) = false from rfl, Bool.false_and, Bool.and_false]
set_option maxRecDepth 100000 in
set_option maxHeartbeats 8000000 in
theorem rsame_call (w : World) (va vb vc vd : Value) (a b c d : List Int) (r : Bool) (h1 : RowAt w va a) (h2 : RowAt w vb b) (h3 : RowAt w vc c) (h4 : RowAt w vd d) (hr : same a b c d = r) :
    Calls Try.prog 28 #[.agg #[va, vb], .agg #[vc, vd]] w fun e w' => e = .returned (.bool r) ∧ Below w.heap.size w w' := by
  have RA := Lib.hid h1
  have RB := Lib.hid h2
  have RC := Lib.hid h3
  have RD := Lib.hid h4
  obtain ⟨pa, ca, rfl, _⟩ := h1
  obtain ⟨pb, cb, rfl, _⟩ := h2
  obtain ⟨pc, cc, rfl, _⟩ := h3
  obtain ⟨pd, cd, rfl, _⟩ := h4
  have HR := Lib.hid hr
  obtain ⟨n1, hn1⟩ : ∃ n, n = a.length := ⟨_, rfl⟩
  obtain ⟨n2, hn2⟩ : ∃ n, n = b.length := ⟨_, rfl⟩
  obtain ⟨n3, hn3⟩ : ∃ n, n = c.length := ⟨_, rfl⟩
  obtain ⟨n4, hn4⟩ : ∃ n, n = d.length := ⟨_, rfl⟩
  rw [← hn1] at RA
  rw [← hn2] at RB
  rw [← hn3] at RC
  rw [← hn4] at RD
  rw [← hn1, ← hn2, ← hn3, ← hn4]
  clear hn1 hn2 hn3 hn4 hr
  rename_i g1 g2 g3 g4
  clear g1 g2 g3 g4
  go_enter Try.func28, Try.ntmps28
  go_wp2_with fail
  obtain ⟨W, hW⟩ : ∃ W, W = (w.alloc (.cells #[.slice pa n1 ca, .slice pb n2 cb] 24)).alloc (.cells #[.slice pc n3 cc, .slice pd n4 cd] 24) := ⟨_, rfl⟩
  rw [← hW]
  have HBW : Hid (Below w.heap.size w W) := Lib.hid (by
    rw [hW]
    repeat (first | (with_reducible exact Below.refl _ _) | (with_reducible assumption) | (with_reducible refine below_drewN ?_ _) | (with_reducible refine Below.drew ?_) | (with_reducible refine below_ext_of ?_ (by first | exact Nat.le_refl _ | assumption | (simp only [World.size_alloc, World.size_setCell, size_ext, World.heap_drewN]; omega)) _ _) | (with_reducible refine Below.alloc ?_ (by first | exact Nat.le_refl _ | assumption | (simp only [World.size_alloc, World.size_setCell, size_ext, World.heap_drewN]; omega)) _) | (with_reducible refine Below.setCell ?_ (by first | exact Nat.le_refl _ | assumption | (simp only [World.size_alloc, World.size_setCell, size_ext, World.heap_drewN]; omega)) _)))
  have K0 : Hid (W.heap[w.heap.size]? = some (.cells #[.slice pa n1 ca, .slice pb n2 cb] 24)) := Lib.hid (by
    rw [hW, Below.heap_alloc _ _ _ (by simp only [World.size_alloc]; omega)]
    exact heap_alloc_new w _)
  have K1 : Hid (W.heap[w.heap.size + 1]? = some (.cells #[.slice pc n3 cc, .slice pd n4 cd] 24)) := Lib.hid (by
    rw [hW]
    have := heap_alloc_new (w.alloc (.cells #[.slice pa n1 ca, .slice pb n2 cb] 24)) (.cells #[.slice pc n3 cc, .slice pd n4 cd] 24)
    rwa [World.size_alloc] at this)
  have hw1 : w.heap.size + 1 < W.heap.size := by rw [hW]; simp only [World.size_alloc]; omega
  have hw0 : w.heap.size < W.heap.size := by omega
  have RA' := Lib.hid (RA.out.below HBW.out)
  have RB' := Lib.hid (RB.out.below HBW.out)
  have RC' := Lib.hid (RC.out.below HBW.out)
  have RD' := Lib.hid (RD.out.below HBW.out)
  clear hW RA RB RC RD
  obtain ⟨x0, x1⟩ := cell_of K0.out
  obtain ⟨x2, x3⟩ := cell_of K1.out
  cases hm1 : may a b with
  | false =>
    have HM := Lib.hid hm1
    obtain rfl : r = false := by rw [← HR.out]; exact rsame_no (.inl hm1)
    clear hm1
    refine wp_region_held_drew (S := (fun W' => W'.cell? ⟨w.heap.size, 0, none⟩ = some (.slice pa n1 ca) ∧ W'.cell? ⟨w.heap.size, 1, none⟩ = some (.slice pb n2 cb) ∧ W'.cell? ⟨w.heap.size + 1, 0, none⟩ = some (.slice pc n3 cc) ∧ W'.cell? ⟨w.heap.size + 1, 1, none⟩ = some (.slice pd n4 cd))) (by kernel_rfl) ?hS20 (fun hHeld => ?go20)
    case hS20 =>
      (try dsimp only)
      try go_simp
    case go20 =>
    refine' wpAnyH_take (i := 0) (oi := ⟨_, _, _, _, _, _⟩) (v := ?v21) rfl (by kernel_rfl) (by kernel_rfl) (by kernel_rfl) (fun _ _ _ h => h) (Or.inl ⟨by rfl, ?hy21⟩) (by assumption) ?rest21
    case hy21 =>
      intro w hSw
      (try dsimp only at hSw)
      go_simp
      try (with_reducible rfl)
    case rest21 =>
    (try simp only [Act.put, List.setIfInBounds_toArray, List.set_cons_zero, List.set_cons_succ])
    refine wpAnyH_ready (rs := [1]) (by kernel_rfl) (by simp) ?_
    refine AllReadyH.cons (o := ⟨_, _, _, _, _, _⟩) rfl (fun K hK => ?_) AllReadyH.nil
    go_simp
    (go_at_call 17; refine (rmay_any _ _ _ a b (RA'.out.below (by repeat (first | (with_reducible exact Below.refl _ _) | (with_reducible assumption) | (with_reducible refine below_drewN ?_ _) | (with_reducible refine Below.drew ?_) | (with_reducible refine below_ext_of ?_ (by first | exact Nat.le_refl _ | assumption | (simp only [World.size_alloc, World.size_setCell, size_ext, World.heap_drewN]; omega)) _ _) | (with_reducible refine Below.alloc ?_ (by first | exact Nat.le_refl _ | assumption | (simp only [World.size_alloc, World.size_setCell, size_ext, World.heap_drewN]; omega)) _) | (with_reducible refine Below.setCell ?_ (by first | exact Nat.le_refl _ | assumption | (simp only [World.size_alloc, World.size_setCell, size_ext, World.heap_drewN]; omega)) _)))) (RB'.out.below (by repeat (first | (with_reducible exact Below.refl _ _) | (with_reducible assumption) | (with_reducible refine below_drewN ?_ _) | (with_reducible refine Below.drew ?_) | (with_reducible refine below_ext_of ?_ (by first | exact Nat.le_refl _ | assumption | (simp only [World.size_alloc, World.size_setCell, size_ext, World.heap_drewN]; omega)) _ _) | (with_reducible refine Below.alloc ?_ (by first | exact Nat.le_refl _ | assumption | (simp only [World.size_alloc, World.size_setCell, size_ext, World.heap_drewN]; omega)) _) | (with_reducible refine Below.setCell ?_ (by first | exact Nat.le_refl _ | assumption | (simp only [World.size_alloc, World.size_setCell, size_ext, World.heap_drewN]; omega)) _))))).mono ?_; rintro e wx ⟨rfl, hbx⟩; rw [HM.out]; obtain ⟨X1, d1, rfl⟩ := below_ext hbx; clear hbx; go_simp)
    refine hK.out _ _ ?hS22 (fun hHeld2 => ?go22)
    case hS22 =>
      (try dsimp only)
      try go_simp
    case go22 =>
    clear hK K
    clear hHeld
    have hHeld := hHeld2
    clear hHeld2
    (try simp only [Act.put, List.setIfInBounds_toArray, List.set_cons_zero, List.set_cons_succ])
    refine' wpAnyH_take (i := 2) (oi := ⟨_, _, _, _, _, _⟩) (v := ?v23) rfl (by kernel_rfl) (by kernel_rfl) (by kernel_rfl) (fun _ _ _ h => h) (Or.inl ⟨by rfl, ?hy23⟩) (by assumption) ?rest23
    case hy23 =>
      intro w hSw
      (try dsimp only at hSw)
      go_simp
      try (with_reducible rfl)
    case rest23 =>
    (try simp only [Act.put, List.setIfInBounds_toArray, List.set_cons_zero, List.set_cons_succ])
    refine' wpAnyH_take (i := 3) (oi := ⟨_, _, _, _, _, _⟩) (v := undef) rfl (by kernel_rfl) (by kernel_rfl) (by kernel_rfl) (fun _ _ _ h => h) (Or.inr ⟨by rfl, rfl⟩) (by assumption) ?rest24
    case rest24 =>
    (try simp only [Act.put, List.setIfInBounds_toArray, List.set_cons_zero, List.set_cons_succ])
    refine' wpAnyH_take (i := 4) (oi := ⟨_, _, _, _, _, _⟩) (v := undef) rfl (by kernel_rfl) (by kernel_rfl) (by kernel_rfl) (fun _ _ _ h => h) (Or.inr ⟨by rfl, rfl⟩) (by assumption) ?rest25
    case rest25 =>
    (try simp only [Act.put, List.setIfInBounds_toArray, List.set_cons_zero, List.set_cons_succ])
    refine' wpAnyH_take (i := 5) (oi := ⟨_, _, _, _, _, _⟩) (v := ?v26) rfl (by kernel_rfl) (by kernel_rfl) (by kernel_rfl) (fun _ _ _ h => h) (Or.inl ⟨by rfl, ?hy26⟩) (by assumption) ?rest26
    case hy26 =>
      intro w hSw
      (try dsimp only at hSw)
      go_simp
      try (with_reducible rfl)
    case rest26 =>
    (try simp only [Act.put, List.setIfInBounds_toArray, List.set_cons_zero, List.set_cons_succ])
    refine' wpAnyH_take (i := 6) (oi := ⟨_, _, _, _, _, _⟩) (v := ?v27) rfl (by kernel_rfl) (by kernel_rfl) (by kernel_rfl) (fun _ _ _ h => h) (Or.inl ⟨by rfl, ?hy27⟩) (by assumption) ?rest27
    case hy27 =>
      intro w hSw
      (try dsimp only at hSw)
      go_simp
      try (with_reducible rfl)
    case rest27 =>
    (try simp only [Act.put, List.setIfInBounds_toArray, List.set_cons_zero, List.set_cons_succ])
    refine' wpAnyH_take (i := 7) (oi := ⟨_, _, _, _, _, _⟩) (v := undef) rfl (by kernel_rfl) (by kernel_rfl) (by kernel_rfl) (fun _ _ _ h => h) (Or.inr ⟨by rfl, rfl⟩) (by assumption) ?rest28
    case rest28 =>
    (try simp only [Act.put, List.setIfInBounds_toArray, List.set_cons_zero, List.set_cons_succ])
    refine' wpAnyH_take (i := 8) (oi := ⟨_, _, _, _, _, _⟩) (v := undef) rfl (by kernel_rfl) (by kernel_rfl) (by kernel_rfl) (fun _ _ _ h => h) (Or.inr ⟨by rfl, rfl⟩) (by assumption) ?rest29
    case rest29 =>
    (try simp only [Act.put, List.setIfInBounds_toArray, List.set_cons_zero, List.set_cons_succ])
    refine' wpAnyH_take (i := 9) (oi := ⟨_, _, _, _, _, _⟩) (v := undef) rfl (by kernel_rfl) (by kernel_rfl) (by kernel_rfl) (fun _ _ _ h => h) (Or.inr ⟨by rfl, rfl⟩) (by assumption) ?rest30
    case rest30 =>
    (try simp only [Act.put, List.setIfInBounds_toArray, List.set_cons_zero, List.set_cons_succ])
    refine' wpAnyH_take (i := 10) (oi := ⟨_, _, _, _, _, _⟩) (v := undef) rfl (by kernel_rfl) (by kernel_rfl) (by kernel_rfl) (fun _ _ _ h => h) (Or.inr ⟨by rfl, rfl⟩) (by assumption) ?rest31
    case rest31 =>
    (try simp only [Act.put, List.setIfInBounds_toArray, List.set_cons_zero, List.set_cons_succ])
    refine' wpAnyH_take (i := 11) (oi := ⟨_, _, _, _, _, _⟩) (v := undef) rfl (by kernel_rfl) (by kernel_rfl) (by kernel_rfl) (fun _ _ _ h => h) (Or.inr ⟨by rfl, rfl⟩) (by assumption) ?rest32
    case rest32 =>
    (try simp only [Act.put, List.setIfInBounds_toArray, List.set_cons_zero, List.set_cons_succ])
    refine' wpAnyH_take (i := 12) (oi := ⟨_, _, _, _, _, _⟩) (v := ?v33) rfl (by kernel_rfl) (by kernel_rfl) (by kernel_rfl) (fun _ _ _ h => h) (Or.inl ⟨by rfl, ?hy33⟩) (by assumption) ?rest33
    case hy33 =>
      intro w hSw
      (try dsimp only at hSw)
      go_simp
      try (with_reducible rfl)
    case rest33 =>
    (try simp only [Act.put, List.setIfInBounds_toArray, List.set_cons_zero, List.set_cons_succ])
    refine' wpAnyH_take (i := 13) (oi := ⟨_, _, _, _, _, _⟩) (v := ?v34) rfl (by kernel_rfl) (by kernel_rfl) (by kernel_rfl) (fun _ _ _ h => h) (Or.inl ⟨by rfl, ?hy34⟩) (by assumption) ?rest34
    case hy34 =>
      intro w hSw
      (try dsimp only at hSw)
      go_simp
      try (with_reducible rfl)
    case rest34 =>
    (try simp only [Act.put, List.setIfInBounds_toArray, List.set_cons_zero, List.set_cons_succ])
    refine wpAnyH_done (by kernel_rfl) ?_ _
    go_wp2_with fail
    go_ret
    exact ⟨rfl, HBW.out.trans (Below.mono (by repeat (first | (with_reducible exact Below.refl _ _) | (with_reducible assumption) | (with_reducible refine below_drewN ?_ _) | (with_reducible refine Below.drew ?_) | (with_reducible refine below_ext_of ?_ (by first | exact Nat.le_refl _ | assumption | (simp only [World.size_alloc, World.size_setCell, size_ext, World.heap_drewN]; omega)) _ _) | (with_reducible refine Below.alloc ?_ (by first | exact Nat.le_refl _ | assumption | (simp only [World.size_alloc, World.size_setCell, size_ext, World.heap_drewN]; omega)) _) | (with_reducible refine Below.setCell ?_ (by first | exact Nat.le_refl _ | assumption | (simp only [World.size_alloc, World.size_setCell, size_ext, World.heap_drewN]; omega)) _))) (Nat.le_of_lt hw0))⟩
  | true =>
    have HM := Lib.hid hm1
    cases hm2 : may c d with
    | false =>
      have HM2 := Lib.hid hm2
      obtain rfl : r = false := by rw [← HR.out]; exact rsame_no (.inr hm2)
      clear hm1 hm2
      refine wp_region_held_drew (S := (fun W' => W'.cell? ⟨w.heap.size, 0, none⟩ = some (.slice pa n1 ca) ∧ W'.cell? ⟨w.heap.size, 1, none⟩ = some (.slice pb n2 cb) ∧ W'.cell? ⟨w.heap.size + 1, 0, none⟩ = some (.slice pc n3 cc) ∧ W'.cell? ⟨w.heap.size + 1, 1, none⟩ = some (.slice pd n4 cd))) (by kernel_rfl) ?hS35 (fun hHeld => ?go35)
      case hS35 =>
        (try dsimp only)
        try go_simp
      case go35 =>
      refine' wpAnyH_take (i := 0) (oi := ⟨_, _, _, _, _, _⟩) (v := ?v36) rfl (by kernel_rfl) (by kernel_rfl) (by kernel_rfl) (fun _ _ _ h => h) (Or.inl ⟨by rfl, ?hy36⟩) (by assumption) ?rest36
      case hy36 =>
        intro w hSw
        (try dsimp only at hSw)
        go_simp
        try (with_reducible rfl)
      case rest36 =>
      (try simp only [Act.put, List.setIfInBounds_toArray, List.set_cons_zero, List.set_cons_succ])
      refine wpAnyH_ready (rs := [1]) (by kernel_rfl) (by simp) ?_
      refine AllReadyH.cons (o := ⟨_, _, _, _, _, _⟩) rfl (fun K hK => ?_) AllReadyH.nil
      go_simp
      (go_at_call 17; refine (rmay_any _ _ _ a b (RA'.out.below (by repeat (first | (with_reducible exact Below.refl _ _) | (with_reducible assumption) | (with_reducible refine below_drewN ?_ _) | (with_reducible refine Below.drew ?_) | (with_reducible refine below_ext_of ?_ (by first | exact Nat.le_refl _ | assumption | (simp only [World.size_alloc, World.size_setCell, size_ext, World.heap_drewN]; omega)) _ _) | (with_reducible refine Below.alloc ?_ (by first | exact Nat.le_refl _ | assumption | (simp only [World.size_alloc, World.size_setCell, size_ext, World.heap_drewN]; omega)) _) | (with_reducible refine Below.setCell ?_ (by first | exact Nat.le_refl _ | assumption | (simp only [World.size_alloc, World.size_setCell, size_ext, World.heap_drewN]; omega)) _)))) (RB'.out.below (by repeat (first | (with_reducible exact Below.refl _ _) | (with_reducible assumption) | (with_reducible refine below_drewN ?_ _) | (with_reducible refine Below.drew ?_) | (with_reducible refine below_ext_of ?_ (by first | exact Nat.le_refl _ | assumption | (simp only [World.size_alloc, World.size_setCell, size_ext, World.heap_drewN]; omega)) _ _) | (with_reducible refine Below.alloc ?_ (by first | exact Nat.le_refl _ | assumption | (simp only [World.size_alloc, World.size_setCell, size_ext, World.heap_drewN]; omega)) _) | (with_reducible refine Below.setCell ?_ (by first | exact Nat.le_refl _ | assumption | (simp only [World.size_alloc, World.size_setCell, size_ext, World.heap_drewN]; omega)) _))))).mono ?_; rintro e wx ⟨rfl, hbx⟩; rw [HM.out]; obtain ⟨X1, d1, rfl⟩ := below_ext hbx; clear hbx; go_simp)
      refine hK.out _ _ ?hS37 (fun hHeld2 => ?go37)
      case hS37 =>
        (try dsimp only)
        try go_simp
      case go37 =>
      clear hK K
      clear hHeld
      have hHeld := hHeld2
      clear hHeld2
      (try simp only [Act.put, List.setIfInBounds_toArray, List.set_cons_zero, List.set_cons_succ])
      refine' wpAnyH_take (i := 2) (oi := ⟨_, _, _, _, _, _⟩) (v := ?v38) rfl (by kernel_rfl) (by kernel_rfl) (by kernel_rfl) (fun _ _ _ h => h) (Or.inl ⟨by rfl, ?hy38⟩) (by assumption) ?rest38
      case hy38 =>
        intro w hSw
        (try dsimp only at hSw)
        go_simp
        try (with_reducible rfl)
      case rest38 =>
      (try simp only [Act.put, List.setIfInBounds_toArray, List.set_cons_zero, List.set_cons_succ])
      refine' wpAnyH_take (i := 3) (oi := ⟨_, _, _, _, _, _⟩) (v := ?v39) rfl (by kernel_rfl) (by kernel_rfl) (by kernel_rfl) (fun _ _ _ h => h) (Or.inl ⟨by rfl, ?hy39⟩) (by assumption) ?rest39
      case hy39 =>
        intro w hSw
        (try dsimp only at hSw)
        go_simp
        try (with_reducible rfl)
      case rest39 =>
      (try simp only [Act.put, List.setIfInBounds_toArray, List.set_cons_zero, List.set_cons_succ])
      refine wpAnyH_ready (rs := [4]) (by kernel_rfl) (by simp) ?_
      refine AllReadyH.cons (o := ⟨_, _, _, _, _, _⟩) rfl (fun K hK => ?_) AllReadyH.nil
      go_simp
      (go_at_call 17; refine (rmay_any _ _ _ c d (RC'.out.below (by repeat (first | (with_reducible exact Below.refl _ _) | (with_reducible assumption) | (with_reducible refine below_drewN ?_ _) | (with_reducible refine Below.drew ?_) | (with_reducible refine below_ext_of ?_ (by first | exact Nat.le_refl _ | assumption | (simp only [World.size_alloc, World.size_setCell, size_ext, World.heap_drewN]; omega)) _ _) | (with_reducible refine Below.alloc ?_ (by first | exact Nat.le_refl _ | assumption | (simp only [World.size_alloc, World.size_setCell, size_ext, World.heap_drewN]; omega)) _) | (with_reducible refine Below.setCell ?_ (by first | exact Nat.le_refl _ | assumption | (simp only [World.size_alloc, World.size_setCell, size_ext, World.heap_drewN]; omega)) _)))) (RD'.out.below (by repeat (first | (with_reducible exact Below.refl _ _) | (with_reducible assumption) | (with_reducible refine below_drewN ?_ _) | (with_reducible refine Below.drew ?_) | (with_reducible refine below_ext_of ?_ (by first | exact Nat.le_refl _ | assumption | (simp only [World.size_alloc, World.size_setCell, size_ext, World.heap_drewN]; omega)) _ _) | (with_reducible refine Below.alloc ?_ (by first | exact Nat.le_refl _ | assumption | (simp only [World.size_alloc, World.size_setCell, size_ext, World.heap_drewN]; omega)) _) | (with_reducible refine Below.setCell ?_ (by first | exact Nat.le_refl _ | assumption | (simp only [World.size_alloc, World.size_setCell, size_ext, World.heap_drewN]; omega)) _))))).mono ?_; rintro e wx ⟨rfl, hbx⟩; rw [HM2.out]; obtain ⟨X2, d2, rfl⟩ := below_ext hbx; clear hbx; go_simp)
      refine hK.out _ _ ?hS40 (fun hHeld2 => ?go40)
      case hS40 =>
        (try dsimp only)
        try go_simp
      case go40 =>
      clear hK K
      clear hHeld
      have hHeld := hHeld2
      clear hHeld2
      (try simp only [Act.put, List.setIfInBounds_toArray, List.set_cons_zero, List.set_cons_succ])
      refine' wpAnyH_take (i := 5) (oi := ⟨_, _, _, _, _, _⟩) (v := ?v41) rfl (by kernel_rfl) (by kernel_rfl) (by kernel_rfl) (fun _ _ _ h => h) (Or.inl ⟨by rfl, ?hy41⟩) (by assumption) ?rest41
      case hy41 =>
        intro w hSw
        (try dsimp only at hSw)
        go_simp
        try (with_reducible rfl)
      case rest41 =>
      (try simp only [Act.put, List.setIfInBounds_toArray, List.set_cons_zero, List.set_cons_succ])
      refine' wpAnyH_take (i := 6) (oi := ⟨_, _, _, _, _, _⟩) (v := ?v42) rfl (by kernel_rfl) (by kernel_rfl) (by kernel_rfl) (fun _ _ _ h => h) (Or.inl ⟨by rfl, ?hy42⟩) (by assumption) ?rest42
      case hy42 =>
        intro w hSw
        (try dsimp only at hSw)
        go_simp
        try (with_reducible rfl)
      case rest42 =>
      (try simp only [Act.put, List.setIfInBounds_toArray, List.set_cons_zero, List.set_cons_succ])
      refine' wpAnyH_take (i := 7) (oi := ⟨_, _, _, _, _, _⟩) (v := undef) rfl (by kernel_rfl) (by kernel_rfl) (by kernel_rfl) (fun _ _ _ h => h) (Or.inr ⟨by rfl, rfl⟩) (by assumption) ?rest43
      case rest43 =>
      (try simp only [Act.put, List.setIfInBounds_toArray, List.set_cons_zero, List.set_cons_succ])
      refine' wpAnyH_take (i := 8) (oi := ⟨_, _, _, _, _, _⟩) (v := undef) rfl (by kernel_rfl) (by kernel_rfl) (by kernel_rfl) (fun _ _ _ h => h) (Or.inr ⟨by rfl, rfl⟩) (by assumption) ?rest44
      case rest44 =>
      (try simp only [Act.put, List.setIfInBounds_toArray, List.set_cons_zero, List.set_cons_succ])
      refine' wpAnyH_take (i := 9) (oi := ⟨_, _, _, _, _, _⟩) (v := undef) rfl (by kernel_rfl) (by kernel_rfl) (by kernel_rfl) (fun _ _ _ h => h) (Or.inr ⟨by rfl, rfl⟩) (by assumption) ?rest45
      case rest45 =>
      (try simp only [Act.put, List.setIfInBounds_toArray, List.set_cons_zero, List.set_cons_succ])
      refine' wpAnyH_take (i := 10) (oi := ⟨_, _, _, _, _, _⟩) (v := undef) rfl (by kernel_rfl) (by kernel_rfl) (by kernel_rfl) (fun _ _ _ h => h) (Or.inr ⟨by rfl, rfl⟩) (by assumption) ?rest46
      case rest46 =>
      (try simp only [Act.put, List.setIfInBounds_toArray, List.set_cons_zero, List.set_cons_succ])
      refine' wpAnyH_take (i := 11) (oi := ⟨_, _, _, _, _, _⟩) (v := undef) rfl (by kernel_rfl) (by kernel_rfl) (by kernel_rfl) (fun _ _ _ h => h) (Or.inr ⟨by rfl, rfl⟩) (by assumption) ?rest47
      case rest47 =>
      (try simp only [Act.put, List.setIfInBounds_toArray, List.set_cons_zero, List.set_cons_succ])
      refine' wpAnyH_take (i := 12) (oi := ⟨_, _, _, _, _, _⟩) (v := ?v48) rfl (by kernel_rfl) (by kernel_rfl) (by kernel_rfl) (fun _ _ _ h => h) (Or.inl ⟨by rfl, ?hy48⟩) (by assumption) ?rest48
      case hy48 =>
        intro w hSw
        (try dsimp only at hSw)
        go_simp
        try (with_reducible rfl)
      case rest48 =>
      (try simp only [Act.put, List.setIfInBounds_toArray, List.set_cons_zero, List.set_cons_succ])
      refine' wpAnyH_take (i := 13) (oi := ⟨_, _, _, _, _, _⟩) (v := ?v49) rfl (by kernel_rfl) (by kernel_rfl) (by kernel_rfl) (fun _ _ _ h => h) (Or.inl ⟨by rfl, ?hy49⟩) (by assumption) ?rest49
      case hy49 =>
        intro w hSw
        (try dsimp only at hSw)
        go_simp
        try (with_reducible rfl)
      case rest49 =>
      (try simp only [Act.put, List.setIfInBounds_toArray, List.set_cons_zero, List.set_cons_succ])
      refine wpAnyH_done (by kernel_rfl) ?_ _
      go_wp2_with fail
      go_ret
      exact ⟨rfl, HBW.out.trans (Below.mono (by repeat (first | (with_reducible exact Below.refl _ _) | (with_reducible assumption) | (with_reducible refine below_drewN ?_ _) | (with_reducible refine Below.drew ?_) | (with_reducible refine below_ext_of ?_ (by first | exact Nat.le_refl _ | assumption | (simp only [World.size_alloc, World.size_setCell, size_ext, World.heap_drewN]; omega)) _ _) | (with_reducible refine Below.alloc ?_ (by first | exact Nat.le_refl _ | assumption | (simp only [World.size_alloc, World.size_setCell, size_ext, World.heap_drewN]; omega)) _) | (with_reducible refine Below.setCell ?_ (by first | exact Nat.le_refl _ | assumption | (simp only [World.size_alloc, World.size_setCell, size_ext, World.heap_drewN]; omega)) _))) (Nat.le_of_lt hw0))⟩
    | true =>
      have HM2 := Lib.hid hm2
      have HRR := Lib.hid ((rsame_eq hm1 hm2).trans HR.out)
      clear hm1 hm2
      refine wp_region_held_drew (S := (fun W' => W'.cell? ⟨w.heap.size, 0, none⟩ = some (.slice pa n1 ca) ∧ W'.cell? ⟨w.heap.size, 1, none⟩ = some (.slice pb n2 cb) ∧ W'.cell? ⟨w.heap.size + 1, 0, none⟩ = some (.slice pc n3 cc) ∧ W'.cell? ⟨w.heap.size + 1, 1, none⟩ = some (.slice pd n4 cd))) (by kernel_rfl) ?hS50 (fun hHeld => ?go50)
      case hS50 =>
        (try dsimp only)
        try go_simp
      case go50 =>
      refine' wpAnyH_take (i := 0) (oi := ⟨_, _, _, _, _, _⟩) (v := ?v51) rfl (by kernel_rfl) (by kernel_rfl) (by kernel_rfl) (fun _ _ _ h => h) (Or.inl ⟨by rfl, ?hy51⟩) (by assumption) ?rest51
      case hy51 =>
        intro w hSw
        (try dsimp only at hSw)
        go_simp
        try (with_reducible rfl)
      case rest51 =>
      (try simp only [Act.put, List.setIfInBounds_toArray, List.set_cons_zero, List.set_cons_succ])
      refine wpAnyH_ready (rs := [1]) (by kernel_rfl) (by simp) ?_
      refine AllReadyH.cons (o := ⟨_, _, _, _, _, _⟩) rfl (fun K hK => ?_) AllReadyH.nil
      go_simp
      (go_at_call 17; refine (rmay_any _ _ _ a b (RA'.out.below (by repeat (first | (with_reducible exact Below.refl _ _) | (with_reducible assumption) | (with_reducible refine below_drewN ?_ _) | (with_reducible refine Below.drew ?_) | (with_reducible refine below_ext_of ?_ (by first | exact Nat.le_refl _ | assumption | (simp only [World.size_alloc, World.size_setCell, size_ext, World.heap_drewN]; omega)) _ _) | (with_reducible refine Below.alloc ?_ (by first | exact Nat.le_refl _ | assumption | (simp only [World.size_alloc, World.size_setCell, size_ext, World.heap_drewN]; omega)) _) | (with_reducible refine Below.setCell ?_ (by first | exact Nat.le_refl _ | assumption | (simp only [World.size_alloc, World.size_setCell, size_ext, World.heap_drewN]; omega)) _)))) (RB'.out.below (by repeat (first | (with_reducible exact Below.refl _ _) | (with_reducible assumption) | (with_reducible refine below_drewN ?_ _) | (with_reducible refine Below.drew ?_) | (with_reducible refine below_ext_of ?_ (by first | exact Nat.le_refl _ | assumption | (simp only [World.size_alloc, World.size_setCell, size_ext, World.heap_drewN]; omega)) _ _) | (with_reducible refine Below.alloc ?_ (by first | exact Nat.le_refl _ | assumption | (simp only [World.size_alloc, World.size_setCell, size_ext, World.heap_drewN]; omega)) _) | (with_reducible refine Below.setCell ?_ (by first | exact Nat.le_refl _ | assumption | (simp only [World.size_alloc, World.size_setCell, size_ext, World.heap_drewN]; omega)) _))))).mono ?_; rintro e wx ⟨rfl, hbx⟩; rw [HM.out]; obtain ⟨X1, d1, rfl⟩ := below_ext hbx; clear hbx; go_simp)
      refine hK.out _ _ ?hS52 (fun hHeld2 => ?go52)
      case hS52 =>
        (try dsimp only)
        try go_simp
      case go52 =>
      clear hK K
      clear hHeld
      have hHeld := hHeld2
      clear hHeld2
      (try simp only [Act.put, List.setIfInBounds_toArray, List.set_cons_zero, List.set_cons_succ])
      refine' wpAnyH_take (i := 2) (oi := ⟨_, _, _, _, _, _⟩) (v := ?v53) rfl (by kernel_rfl) (by kernel_rfl) (by kernel_rfl) (fun _ _ _ h => h) (Or.inl ⟨by rfl, ?hy53⟩) (by assumption) ?rest53
      case hy53 =>
        intro w hSw
        (try dsimp only at hSw)
        go_simp
        try (with_reducible rfl)
      case rest53 =>
      (try simp only [Act.put, List.setIfInBounds_toArray, List.set_cons_zero, List.set_cons_succ])
      refine' wpAnyH_take (i := 3) (oi := ⟨_, _, _, _, _, _⟩) (v := ?v54) rfl (by kernel_rfl) (by kernel_rfl) (by kernel_rfl) (fun _ _ _ h => h) (Or.inl ⟨by rfl, ?hy54⟩) (by assumption) ?rest54
      case hy54 =>
        intro w hSw
        (try dsimp only at hSw)
        go_simp
        try (with_reducible rfl)
      case rest54 =>
      (try simp only [Act.put, List.setIfInBounds_toArray, List.set_cons_zero, List.set_cons_succ])
      refine wpAnyH_ready (rs := [4]) (by kernel_rfl) (by simp) ?_
      refine AllReadyH.cons (o := ⟨_, _, _, _, _, _⟩) rfl (fun K hK => ?_) AllReadyH.nil
      go_simp
      (go_at_call 17; refine (rmay_any _ _ _ c d (RC'.out.below (by repeat (first | (with_reducible exact Below.refl _ _) | (with_reducible assumption) | (with_reducible refine below_drewN ?_ _) | (with_reducible refine Below.drew ?_) | (with_reducible refine below_ext_of ?_ (by first | exact Nat.le_refl _ | assumption | (simp only [World.size_alloc, World.size_setCell, size_ext, World.heap_drewN]; omega)) _ _) | (with_reducible refine Below.alloc ?_ (by first | exact Nat.le_refl _ | assumption | (simp only [World.size_alloc, World.size_setCell, size_ext, World.heap_drewN]; omega)) _) | (with_reducible refine Below.setCell ?_ (by first | exact Nat.le_refl _ | assumption | (simp only [World.size_alloc, World.size_setCell, size_ext, World.heap_drewN]; omega)) _)))) (RD'.out.below (by repeat (first | (with_reducible exact Below.refl _ _) | (with_reducible assumption) | (with_reducible refine below_drewN ?_ _) | (with_reducible refine Below.drew ?_) | (with_reducible refine below_ext_of ?_ (by first | exact Nat.le_refl _ | assumption | (simp only [World.size_alloc, World.size_setCell, size_ext, World.heap_drewN]; omega)) _ _) | (with_reducible refine Below.alloc ?_ (by first | exact Nat.le_refl _ | assumption | (simp only [World.size_alloc, World.size_setCell, size_ext, World.heap_drewN]; omega)) _) | (with_reducible refine Below.setCell ?_ (by first | exact Nat.le_refl _ | assumption | (simp only [World.size_alloc, World.size_setCell, size_ext, World.heap_drewN]; omega)) _))))).mono ?_; rintro e wx ⟨rfl, hbx⟩; rw [HM2.out]; obtain ⟨X2, d2, rfl⟩ := below_ext hbx; clear hbx; go_simp)
      refine hK.out _ _ ?hS55 (fun hHeld2 => ?go55)
      case hS55 =>
        (try dsimp only)
        try go_simp
      case go55 =>
      clear hK K
      clear hHeld
      have hHeld := hHeld2
      clear hHeld2
      (try simp only [Act.put, List.setIfInBounds_toArray, List.set_cons_zero, List.set_cons_succ])
      refine' wpAnyH_take (i := 5) (oi := ⟨_, _, _, _, _, _⟩) (v := ?v56) rfl (by kernel_rfl) (by kernel_rfl) (by kernel_rfl) (fun _ _ _ h => h) (Or.inl ⟨by rfl, ?hy56⟩) (by assumption) ?rest56
      case hy56 =>
        intro w hSw
        (try dsimp only at hSw)
        go_simp
        try (with_reducible rfl)
      case rest56 =>
      (try simp only [Act.put, List.setIfInBounds_toArray, List.set_cons_zero, List.set_cons_succ])
      refine' wpAnyH_take (i := 6) (oi := ⟨_, _, _, _, _, _⟩) (v := ?v57) rfl (by kernel_rfl) (by kernel_rfl) (by kernel_rfl) (fun _ _ _ h => h) (Or.inl ⟨by rfl, ?hy57⟩) (by assumption) ?rest57
      case hy57 =>
        intro w hSw
        (try dsimp only at hSw)
        go_simp
        try (with_reducible rfl)
      case rest57 =>
      (try simp only [Act.put, List.setIfInBounds_toArray, List.set_cons_zero, List.set_cons_succ])
      refine' wpAnyH_take (i := 7) (oi := ⟨_, _, _, _, _, _⟩) (v := ?v58) rfl (by kernel_rfl) (by kernel_rfl) (by kernel_rfl) (fun _ _ _ h => h) (Or.inl ⟨by rfl, ?hy58⟩) (by assumption) ?rest58
      case hy58 =>
        intro w hSw
        (try dsimp only at hSw)
        go_simp
        try (with_reducible rfl)
      case rest58 =>
      (try simp only [Act.put, List.setIfInBounds_toArray, List.set_cons_zero, List.set_cons_succ])
      refine' wpAnyH_take (i := 9) (oi := ⟨_, _, _, _, _, _⟩) (v := ?v59) rfl (by kernel_rfl) (by kernel_rfl) (by kernel_rfl) (fun _ _ _ h => h) (Or.inl ⟨by rfl, ?hy59⟩) (by assumption) ?rest59
      case hy59 =>
        intro w hSw
        (try dsimp only at hSw)
        go_simp
        try (with_reducible rfl)
      case rest59 =>
      (try simp only [Act.put, List.setIfInBounds_toArray, List.set_cons_zero, List.set_cons_succ])
      refine wpAnyH_ready (rs := [8]) (by kernel_rfl) (by simp) ?_
      refine AllReadyH.cons (o := ⟨_, _, _, _, _, _⟩) rfl (fun K hK => ?_) AllReadyH.nil
      go_simp
      (go_at_call 33; refine (rnorm_call _ _ _ a b _ _ (RA'.out.below (by repeat (first | (with_reducible exact Below.refl _ _) | (with_reducible assumption) | (with_reducible refine below_drewN ?_ _) | (with_reducible refine Below.drew ?_) | (with_reducible refine below_ext_of ?_ (by first | exact Nat.le_refl _ | assumption | (simp only [World.size_alloc, World.size_setCell, size_ext, World.heap_drewN]; omega)) _ _) | (with_reducible refine Below.alloc ?_ (by first | exact Nat.le_refl _ | assumption | (simp only [World.size_alloc, World.size_setCell, size_ext, World.heap_drewN]; omega)) _) | (with_reducible refine Below.setCell ?_ (by first | exact Nat.le_refl _ | assumption | (simp only [World.size_alloc, World.size_setCell, size_ext, World.heap_drewN]; omega)) _)))) (RB'.out.below (by repeat (first | (with_reducible exact Below.refl _ _) | (with_reducible assumption) | (with_reducible refine below_drewN ?_ _) | (with_reducible refine Below.drew ?_) | (with_reducible refine below_ext_of ?_ (by first | exact Nat.le_refl _ | assumption | (simp only [World.size_alloc, World.size_setCell, size_ext, World.heap_drewN]; omega)) _ _) | (with_reducible refine Below.alloc ?_ (by first | exact Nat.le_refl _ | assumption | (simp only [World.size_alloc, World.size_setCell, size_ext, World.heap_drewN]; omega)) _) | (with_reducible refine Below.setCell ?_ (by first | exact Nat.le_refl _ | assumption | (simp only [World.size_alloc, World.size_setCell, size_ext, World.heap_drewN]; omega)) _)))) HM.out rfl rfl).mono ?_; rintro e wx ⟨hbx, q3, t3, s3, u3, rfl, z1, z2⟩; have Z3 := Lib.hid z1; have Y3 := Lib.hid z2; clear z1 z2; obtain ⟨X3, d3, rfl⟩ := below_ext hbx; clear hbx; go_simp)
      refine hK.out _ _ ?hS60 (fun hHeld2 => ?go60)
      case hS60 =>
        (try dsimp only)
        try go_simp
      case go60 =>
      clear hK K
      clear hHeld
      have hHeld := hHeld2
      clear hHeld2
      (try simp only [Act.put, List.setIfInBounds_toArray, List.set_cons_zero, List.set_cons_succ])
      refine wpAnyH_ready (rs := [10]) (by kernel_rfl) (by simp) ?_
      refine AllReadyH.cons (o := ⟨_, _, _, _, _, _⟩) rfl (fun K hK => ?_) AllReadyH.nil
      go_simp
      (go_at_call 33; refine (rnorm_call _ _ _ c d _ _ (RC'.out.below (by repeat (first | (with_reducible exact Below.refl _ _) | (with_reducible assumption) | (with_reducible refine below_drewN ?_ _) | (with_reducible refine Below.drew ?_) | (with_reducible refine below_ext_of ?_ (by first | exact Nat.le_refl _ | assumption | (simp only [World.size_alloc, World.size_setCell, size_ext, World.heap_drewN]; omega)) _ _) | (with_reducible refine Below.alloc ?_ (by first | exact Nat.le_refl _ | assumption | (simp only [World.size_alloc, World.size_setCell, size_ext, World.heap_drewN]; omega)) _) | (with_reducible refine Below.setCell ?_ (by first | exact Nat.le_refl _ | assumption | (simp only [World.size_alloc, World.size_setCell, size_ext, World.heap_drewN]; omega)) _)))) (RD'.out.below (by repeat (first | (with_reducible exact Below.refl _ _) | (with_reducible assumption) | (with_reducible refine below_drewN ?_ _) | (with_reducible refine Below.drew ?_) | (with_reducible refine below_ext_of ?_ (by first | exact Nat.le_refl _ | assumption | (simp only [World.size_alloc, World.size_setCell, size_ext, World.heap_drewN]; omega)) _ _) | (with_reducible refine Below.alloc ?_ (by first | exact Nat.le_refl _ | assumption | (simp only [World.size_alloc, World.size_setCell, size_ext, World.heap_drewN]; omega)) _) | (with_reducible refine Below.setCell ?_ (by first | exact Nat.le_refl _ | assumption | (simp only [World.size_alloc, World.size_setCell, size_ext, World.heap_drewN]; omega)) _)))) HM2.out rfl rfl).mono ?_; rintro e wx ⟨hbx, q4, t4, s4, u4, rfl, z1, z2⟩; have Z4 := Lib.hid z1; have Y4 := Lib.hid z2; clear z1 z2; obtain ⟨X4, d4, rfl⟩ := below_ext hbx; clear hbx; go_simp)
      refine hK.out _ _ ?hS61 (fun hHeld2 => ?go61)
      case hS61 =>
        (try dsimp only)
        try go_simp
      case go61 =>
      clear hK K
      clear hHeld
      have hHeld := hHeld2
      clear hHeld2
      (try simp only [Act.put, List.setIfInBounds_toArray, List.set_cons_zero, List.set_cons_succ])
      refine wpAnyH_ready (rs := [11]) (by kernel_rfl) (by simp) ?_
      refine AllReadyH.cons (o := ⟨_, _, _, _, _, _⟩) rfl (fun K hK => ?_) AllReadyH.nil
      go_simp
      (go_at_call 11; refine (Equal_any _ _ _ _ _ (nH a b) (nL a b) (nH c d) (nL c d) (Z3.out.below (by have h := ext_below (ext (ext W (X1 ++ X2) d2) X3 d3) X4 d4; simp only [ext_ext, Array.append_assoc] at h ⊢; exact h)) (Y3.out.below (by have h := ext_below (ext (ext W (X1 ++ X2) d2) X3 d3) X4 d4; simp only [ext_ext, Array.append_assoc] at h ⊢; exact h)) (Z4.out.below (by simp only [ext_ext, Array.append_assoc]; exact Below.refl _ _)) (Y4.out.below (by simp only [ext_ext, Array.append_assoc]; exact Below.refl _ _))).mono ?_; rintro e wx ⟨rfl, hbx⟩; rw [HRR.out]; obtain ⟨X5, d5, rfl⟩ := below_ext hbx; clear hbx; go_simp)
      refine hK.out _ _ ?hS62 (fun hHeld2 => ?go62)
      case hS62 =>
        (try dsimp only)
        try go_simp
      case go62 =>
      clear hK K
      clear hHeld
      have hHeld := hHeld2
      clear hHeld2
      (try simp only [Act.put, List.setIfInBounds_toArray, List.set_cons_zero, List.set_cons_succ])
      refine' wpAnyH_take (i := 12) (oi := ⟨_, _, _, _, _, _⟩) (v := ?v63) rfl (by kernel_rfl) (by kernel_rfl) (by kernel_rfl) (fun _ _ _ h => h) (Or.inl ⟨by rfl, ?hy63⟩) (by assumption) ?rest63
      case hy63 =>
        intro w hSw
        (try dsimp only at hSw)
        go_simp
        try (with_reducible rfl)
      case rest63 =>
      (try simp only [Act.put, List.setIfInBounds_toArray, List.set_cons_zero, List.set_cons_succ])
      refine' wpAnyH_take (i := 13) (oi := ⟨_, _, _, _, _, _⟩) (v := ?v64) rfl (by kernel_rfl) (by kernel_rfl) (by kernel_rfl) (fun _ _ _ h => h) (Or.inl ⟨by rfl, ?hy64⟩) (by assumption) ?rest64
      case hy64 =>
        intro w hSw
        (try dsimp only at hSw)
        go_simp
        try (with_reducible rfl)
      case rest64 =>
      (try simp only [Act.put, List.setIfInBounds_toArray, List.set_cons_zero, List.set_cons_succ])
      refine wpAnyH_done (by kernel_rfl) ?_ _
      go_wp2_with fail
      go_ret
      exact ⟨rfl, HBW.out.trans (Below.mono (by repeat (first | (with_reducible exact Below.refl _ _) | (with_reducible assumption) | (with_reducible refine below_drewN ?_ _) | (with_reducible refine Below.drew ?_) | (with_reducible refine below_ext_of ?_ (by first | exact Nat.le_refl _ | assumption | (simp only [World.size_alloc, World.size_setCell, size_ext, World.heap_drewN]; omega)) _ _) | (with_reducible refine Below.alloc ?_ (by first | exact Nat.le_refl _ | assumption | (simp only [World.size_alloc, World.size_setCell, size_ext, World.heap_drewN]; omega)) _) | (with_reducible refine Below.setCell ?_ (by first | exact Nat.le_refl _ | assumption | (simp only [World.size_alloc, World.size_setCell, size_ext, World.heap_drewN]; omega)) _))) (Nat.le_of_lt hw0))⟩
end Go.Proofs.Ytpcnapmlmhhcpaa
