/-
  words.short: a head and a loop, as short as can be: contract.
  Conditions: the rows lie in memory; the loop has at least one number; at most a million.
-/
import Derived.Test.YtpcnapmlmhhcpaaWe
import Derived.WalkKit
import Derived.WalkSpells
import Derived.WalkLawsBesides
import Derived.Deep.QuietTactic
import Derived.BigQuiet
import Derived.Lib.Hide
import Derived.Handy
import Derived.Deep.AppendLies
import Derived.Maps.AppendAt
import Derived.OwnWalk
import Derived.Lib.LazyBuf
import Derived.Deep.DeepCutAuto
import Derived.Deep.RegionLaw
import Derived.Deep.RegionHeld3
import Derived.Deep.RegionWith
import Derived.BigRegion
set_option linter.unusedVariables false
set_option linter.unusedSimpArgs false
namespace Go.Proofs.Ytpcnapmlmhhcpaa
open Go.RowKit 
attribute [local go_sem] setCell_drewN alloc_drewN size_ext ext_ext ext_drewN ext_drew drewN_ext drew_ext cell?_ext frozen?_ext setCell_ext cell?_past1 frozen?_past1 setCell_past1 cell?_past2 frozen?_past2 setCell_past2 cell?_past3 frozen?_past3 setCell_past3 cell?_past4 frozen?_past4 setCell_past4 cell?_past5 frozen?_past5 setCell_past5 cell?_past6 frozen?_past6 setCell_past6 cell?_past7 frozen?_past7 setCell_past7 cell?_past8 frozen?_past8 setCell_past8

/-- How far the head goes into the loop: from t on. -/
def trn (h c : List Int) : Nat → Nat → Nat
  | 0, t => t
  | f + 1, t => if t < h.length ∧ at_ h (h.length - 1 - t) = at_ c ((2 * c.length - 1 - t % c.length) % c.length) then trn h c f (t + 1) else t
def turns (h c : List Int) : Nat := trn h c h.length 0
theorem trn_le (h c : List Int) : ∀ (f t : Nat), t ≤ h.length → trn h c f t ≤ h.length := by
  intro f
  induction f with
  | zero => intro t ht; exact ht
  | succ f ih =>
    intro t ht
    unfold trn
    split
    · rename_i hh; exact ih (t + 1) (by omega)
    · exact ht
/-- The short head, and the short loop. -/
def sHead (h l : List Int) : List Int := h.take (h.length - turns h (l.take (lp l)))
def sBack (h l : List Int) : Nat := (lp l - turns h (l.take (lp l)) % lp l) % lp l
def sLoop (h l : List Int) : List Int := (l.take (lp l)).drop (sBack h l) ++ (l.take (lp l)).take (sBack h l)
def fits (h l : List Int) : Bool := decide ((sHead h l).length ≤ 4096) && decide (lp l ≤ 4096)
theorem lpf_pos : ∀ (f : Nat) (l : List Int) (q : Nat), 0 < q → 0 < l.length → 0 < lpf f l q := by
  intro f
  induction f with
  | zero => intro l q _ h; exact h
  | succ f ih =>
    intro l q hq h
    unfold lpf
    split
    · split
      · exact hq
      · exact ih l (q + 1) (by omega) h
    · exact h
theorem lp_le (l : List Int) : lp l ≤ l.length := lpf_le _ _ _
theorem lp_pos (l : List Int) (h : 0 < l.length) : 0 < lp l := lpf_pos _ _ _ (by omega) h
theorem row_shape {w : World} {v : Value} {xs : List Int} (h : RowAt w v xs) (h0 : 0 < xs.length) : ∃ g o cap, v = .slice (some ⟨g, o, none⟩) xs.length cap ∧ xs.length ≤ cap ∧ g < w.heap.size ∧ Ints w g o xs := by
  obtain ⟨p, cap, rfl, h2, _, _, h5⟩ := h
  obtain ⟨g, o, rfl, hg, hi⟩ := h5 h0
  exact ⟨g, o, cap, rfl, h2, hg, hi⟩
theorem RowAt.put {w : World} {v : Value} {xs : List Int} {b : Nat} {p1 p2 : Option Addr} {n1 n2 c1 c2 : Nat} {t : TypeId} {fr : Nat × Nat} (h : RowAt w v xs) (hb : w.heap[b]? = some (.cells #[.slice p1 n1 c1, .slice p2 n2 c2] t fr)) (i : Nat) (u : Value) : RowAt (w.setCell ⟨b, i, none⟩ u) v xs := by
  obtain ⟨p, cap, e1, e2, e3, e4, e5⟩ := h
  refine ⟨p, cap, e1, e2, e3, e4, fun h0 => ?_⟩
  obtain ⟨g, o, hp, hg, hi⟩ := e5 h0
  have hne : g ≠ b := by
    rintro rfl
    have := hi 0 h0
    simp only [World.cell?, hb] at this
    simp at this
    rcases Nat.lt_trichotomy o 1 with h | h | h
    · obtain rfl : o = 0 := by omega
      simp at this
    · subst h; simp at this
    · rw [List.getElem?_eq_none (by simp; omega)] at this; cases this
  refine ⟨g, o, hp, by simpa [World.setCell] using hg, fun j hj => ?_⟩
  rw [← hi j hj]
  simp only [World.cell?, World.setCell, Array.getElem?_modify]
  rw [if_neg (fun e => hne e.symm)]
theorem concat_two' (w : World) (B n m : Nat) (a1 a2 : Addr) (c1 c2 : Nat) (xs ys : List Int) (hx : xs.length = n) (hy : ys.length = m) (hB : B < w.heap.size) (b0 : w.cell? ⟨B, 0, none⟩ = some (.slice (some a1) n c1)) (b1 : w.cell? ⟨B, 1, none⟩ = some (.slice (some a2) m c2))
    (h1 : RowAt w (.slice (some a1) n c1) xs) (h2 : RowAt w (.slice (some a2) m c2) ys) (h0 : 0 < n + m) (hn : n + m ≤ 1000000) :
    Calls Try.prog 59 #[.slice (some ⟨B, 0, none⟩) 2 2] w fun e w' => ∃ v', e = .returned v' ∧ RowAt w' v' (xs ++ ys) ∧ Below w.heap.size w w' ∧ Fresh w' w.heap.size v' (xs ++ ys) := by
  subst hx hy
  exact concat_two w B a1 a2 c1 c2 xs ys hB b0 b1 h1 h2 h0 hn
/-- What short answers. -/
def Shorted (w' : World) (B : Nat) (h l : List Int) (e : Ending) : Prop :=
  if fits h l = true then ∃ v1 v2, e = .returned (.tuple #[.agg #[v1, v2], .int .i64 0]) ∧ Fresh w' B v1 (sHead h l) ∧ Fresh w' B v2 (sLoop h l) ∧ Apart v1 v2 else e = .returned (.tuple #[.agg #[.slice none 0 0, .slice none 0 0], .int .i64 4])
theorem Shorted.yes {w' : World} {B : Nat} {h l : List Int} {v1 v2 : Value} (hf : fits h l = true) (h1 : Fresh w' B v1 (sHead h l)) (h2 : Fresh w' B v2 (sLoop h l)) (h3 : Apart v1 v2) : Shorted w' B h l (.returned (.tuple #[.agg #[v1, v2], .int .i64 0])) := by
  unfold Shorted
  rw [if_pos hf]
  exact ⟨_, _, rfl, h1, h2, h3⟩
theorem Shorted.no {w' : World} {B : Nat} {h l : List Int} (hf : fits h l = false) : Shorted w' B h l (.returned (.tuple #[.agg #[.slice none 0 0, .slice none 0 0], .int .i64 4])) := by
  unfold Shorted
  rw [if_neg (by rw [hf]; decide)]
set_option maxRecDepth 100000 in
set_option maxHeartbeats 8000000 in
theorem short_any (w : World) (vh vl : Value) (h l : List Int) (h1 : RowAt w vh h) (h2 : RowAt w vl l) (hl0 : 0 < l.length) (hh : h.length ≤ 500000) (hl : l.length ≤ 500000) :
    Calls Try.prog 38 #[vh, vl] w fun e w' => Below w.heap.size w w' ∧ Shorted w' w.heap.size h l e := by
  obtain ⟨P, hP⟩ : ∃ P, P = lp l := ⟨_, rfl⟩
  have hP0 : 0 < P := by rw [hP]; exact lp_pos l hl0
  have hPl : P ≤ l.length := by rw [hP]; exact lp_le l
  obtain ⟨c, hc⟩ : ∃ c, c = l.take (lp l) := ⟨_, rfl⟩
  have hcl : c.length = P := by rw [hc, List.length_take]; omega
  have HP := Lib.hid hP
  have HC := Lib.hid hc
  have HCL := Lib.hid hcl
  have H1 := Lib.hid h1
  have H2 := Lib.hid h2
  obtain ⟨ph, ch, rfl, hhc, hhm, hhn, hhr⟩ := id h1
  have HR := Lib.hid hhr
  obtain ⟨n, hn⟩ : ∃ n, n = h.length := ⟨_, rfl⟩
  have HN := Lib.hid hn
  have H1n : Hid (RowAt w (.slice ph n ch) h) := Lib.hid (by rw [hn]; exact H1.out)
  rw [← hn] at hh hhc ⊢
  clear hP hc hcl h1 h2 hhr hn
  go_enter Try.func38, Try.ntmps38
  go_wp2_with fail
  refine (loop_any _ vl l (H2.out.below (by repeat (first | (with_reducible exact Below.refl _ _) | (with_reducible assumption) | (with_reducible refine below_drewN ?_ _) | (with_reducible refine Below.drew ?_) | (with_reducible refine below_ext_of ?_ (by first | exact Nat.le_refl _ | assumption | (simp only [World.size_alloc, World.size_setCell, size_ext, World.heap_drewN]; omega)) _ _) | (with_reducible refine Below.alloc ?_ (by first | exact Nat.le_refl _ | assumption | (simp only [World.size_alloc, World.size_setCell, size_ext, World.heap_drewN]; omega)) _) | (with_reducible refine Below.setCell ?_ (by first | exact Nat.le_refl _ | assumption | (simp only [World.size_alloc, World.size_setCell, size_ext, World.heap_drewN]; omega)) _))))).mono ?_
  rintro e w1 ⟨v1, rfl, hr1, hb⟩
  rw [← HC.out] at hr1
  obtain ⟨X, d, rfl⟩ := below_ext hb
  clear hb
  go_wp2_with fail
  refine (clone_any _ v1 c hr1 (by rw [HCL.out]; omega)).mono ?_
  rintro e w1 ⟨v2, rfl, hr2, hb, _⟩
  obtain ⟨X1, d1, rfl⟩ := below_ext hb
  clear hb hr1
  rw [ext_ext] at hr2
  obtain ⟨g, o, cap, rfl, hcap, hg, hi⟩ := row_shape hr2 (by rw [HCL.out]; exact hP0)
  have HR2 := Lib.hid hr2
  have HI := Lib.hid hi
  rw [HCL.out] at hcap ⊢
  clear hr2 hi
  go_wp2_with fail
  obtain ⟨W, hW⟩ : ∃ W, W = ext (w.alloc (.cells #[.slice none 0 0, .slice none 0 0] 24)) (X ++ X1) d1 := ⟨_, rfl⟩
  rw [← hW] at HR2 HI hg ⊢
  have hbW : Below w.heap.size w W := by rw [hW]; exact below_ext_of ((Below.refl _ _).alloc (Nat.le_refl _) _) (by simp [go_sem]) _ _
  have k0 : W.cell? ⟨w.heap.size, 0, none⟩ = some (.slice none 0 0) := by rw [hW]; simp [go_sem]
  have k1 : W.cell? ⟨w.heap.size, 1, none⟩ = some (.slice none 0 0) := by rw [hW]; simp [go_sem]
  have kf : ∀ o, W.frozen? ⟨w.heap.size, o, none⟩ = false := fun o => by rw [hW]; simp [go_sem]
  have hwW : w.heap.size < W.heap.size := by rw [hW]; simp [go_sem]; omega
  have hblk : W.heap[w.heap.size]? = some (.cells #[.slice none 0 0, .slice none 0 0] 24) := by
    rw [hW]
    rw [(ext_below _ _ _).block w.heap.size (by simp)]
    exact heap_alloc_new w _
  have HBW := Lib.hid hbW
  clear hW hbW
  go_loopw [7, 8] (fun i7 i8 wr => ∃ (t : Nat) (d : Nat), i7 = .int .i64 ((n - t : Nat) : Int) ∧ i8 = .int .i64 (t : Int) ∧ t ≤ n ∧ Hid (trn h c (n - t) t = turns h c) ∧ wr = ext W #[] d) (fun i7 _ _ => (intOf i7).toNat)
  case atStart => exact ⟨0, W.drawn, rfl, rfl, by omega, Lib.hid (by unfold turns; rw [HN.out]; rfl), (ext_nil W).symm⟩
  case round =>
  obtain ⟨t, d, rfl, rfl, htn, hT, rfl⟩ := hrel
  obtain ⟨K, hK⟩ : ∃ K, K = n - t := ⟨_, rfl⟩
  rw [← hK]
  have HK := Lib.hid hK
  clear hK
  go_upto_region 4 with (fail)
  go_cut [41] (fun s wc => s = .bool (decide (t < n) && (at_ h (n - 1 - t) == at_ c ((2 * P - 1 - t % P) % P))) ∧ ∃ d, wc = ext W #[] d)
  case first =>
    by_cases ht : t < n
    · obtain ⟨J, hJ⟩ : ∃ J, n - t = J + 1 := ⟨n - t - 1, by omega⟩
      have hKJ : K = J + 1 := by have := HK.out; omega
      have c1 : ((K : Int) - 1) = (J : Int) := by omega
      have c2 : IntKind.i64.wrap ((K : Int) - 1) = (J : Int) := by rw [IntKind.wrap_i64]; omega
      have c3 : (0 : Int) < K := by omega
      have c4 : 0 < K := by omega
      have c5 : IntKind.i64.wrap (J : Int) = (J : Int) := by rw [IntKind.wrap_i64]; omega
      obtain ⟨g1, o1, rfl, hg1, hi1⟩ := HR.out (by have := HN.out; omega)
      have s1 := (hi1.below HBW.out hg1) J (by have := HN.out; omega)
      have hg1W : g1 < W.heap.size := by omega
      obtain ⟨T, hTt⟩ : ∃ T, T = t % P := ⟨_, rfl⟩
      obtain ⟨M, hM⟩ : ∃ M, M = 2 * P - 1 - T := ⟨_, rfl⟩
      obtain ⟨Q, hQ⟩ : ∃ Q, Q = M % P := ⟨_, rfl⟩
      have hTP : T < P := by rw [hTt]; exact Nat.mod_lt _ hP0
      have hQP : Q < P := by rw [hQ]; exact Nat.mod_lt _ hP0
      have s2 := HI.out Q (by rw [HCL.out]; exact hQP)
      have f1 : Int.tmod (t : Int) (P : Int) = (T : Int) := by rw [hTt, Int.tmod_eq_emod_of_nonneg (by omega)]; rfl
      have f5 : Int.tmod (M : Int) (P : Int) = (Q : Int) := by rw [hQ, Int.tmod_eq_emod_of_nonneg (by omega)]; rfl
      have f4 : ((P : Int) - 1 - T + P) = (M : Int) := by omega
      have f4' : IntKind.i64.wrap ((P : Int) - 1 - T + P) = (M : Int) := by rw [IntKind.wrap_i64]; omega
      have f4'' : IntKind.i64.wrap (M : Int) = (M : Int) := by rw [IntKind.wrap_i64]; omega
      have f3 : IntKind.i64.wrap ((P : Int) - 1 - T) = (P : Int) - 1 - T := by rw [IntKind.wrap_i64]; omega
      have f2 : IntKind.i64.wrap ((P : Int) - 1) = (P : Int) - 1 := by rw [IntKind.wrap_i64]; omega
      have f6 : (0 : Int) ≤ Q := by omega
      have f7 : (Q : Int) < P := by omega
      have f8 : ¬ ((P : Int) = 0) := by omega
      have f9 : ¬ (P = 0) := by omega
      have f10 : (0 : Int) ≤ J := by omega
      have f11 : (J : Int) < n := by omega
      have f12 : J < n := by omega
      have hres : Hid ((at_ h J == at_ c Q) = (decide (t < n) && (at_ h (n - 1 - t) == at_ c ((2 * P - 1 - t % P) % P)))) := Lib.hid (by
        rw [decide_eq_true ht, Bool.true_and, show n - 1 - t = J by omega, hQ, hM, hTt])
      clear hi1 hJ hQ hM hTt hKJ
      generalize at_ h J = x at *
      generalize at_ c Q = y at *
      go_region
      go_wp2_with fail
      go_meet
      case rel => exact ⟨by rw [← hres.out], _, rfl⟩
    · have e0 : ¬ (0 < K) := by have := HK.out; omega
      have e1 : ¬ ((0 : Int) < K) := by omega
      have e2 := decide_eq_false e1
      have e3 := decide_eq_false e0
      have hres : Hid (false = (decide (t < n) && (at_ h (n - 1 - t) == at_ c ((2 * P - 1 - t % P) % P)))) := Lib.hid (by rw [decide_eq_false ht, Bool.false_and])
      go_region
      all_goals
        go_wp2_with fail
        go_meet
        case rel => exact ⟨by rw [← hres.out], _, rfl⟩
  case rest =>
  clear d
  obtain ⟨rfl, d, rfl⟩ := hcut
  cases hgo : (decide (t < n) && (at_ h (n - 1 - t) == at_ c ((2 * P - 1 - t % P) % P))) with
  | true =>
    simp only [Bool.and_eq_true, decide_eq_true_eq, beq_iff_eq] at hgo
    obtain ⟨ht, heq⟩ := hgo
    obtain ⟨J, hJ⟩ : ∃ J, J = n - (t + 1) := ⟨_, rfl⟩
    have hT2 : Hid (trn h c (n - (t + 1)) (t + 1) = turns h c) := Lib.hid (by
      rw [← hT.out, show n - t = (n - (t + 1)) + 1 by omega]
      conv => rhs; unfold trn
      rw [if_pos ⟨by have := HN.out; omega, by rw [HCL.out, ← HN.out]; exact heq⟩])
    have c1 : ((K : Int) - 1) = (J : Int) := by have := HK.out; omega
    have c2 : IntKind.i64.wrap ((K : Int) - 1) = (J : Int) := by have := HK.out; rw [IntKind.wrap_i64]; omega
    have c3 : IntKind.i64.wrap (J : Int) = (J : Int) := by rw [IntKind.wrap_i64]; omega
    have c4 : IntKind.i64.wrap ((t : Int) + 1) = (t : Int) + 1 := by rw [IntKind.wrap_i64]; omega
    clear heq
    go_wp2_with fail
    go_roundw
    case measure =>
      have := HK.out
      simp only [intOf, Int.toNat_natCast]
      omega
    case rel => exact ⟨t + 1, _, by first | rfl | rw [hJ], rfl, by omega, hT2, rfl⟩
  | false =>
    have hturn : Hid (turns h c = t) := Lib.hid (by
      rw [← hT.out]
      cases hf : n - t with
      | zero => rfl
      | succ f =>
        unfold trn
        rw [if_neg]
        rintro ⟨h1, h2⟩
        rw [HCL.out, ← HN.out] at h2
        rw [decide_eq_true (show t < n by omega), Bool.true_and] at hgo
        exact absurd h2 (by simpa using hgo))
    clear hgo
    obtain ⟨T, hTt⟩ : ∃ T, T = t % P := ⟨_, rfl⟩
    obtain ⟨M, hM⟩ : ∃ M, M = P - T := ⟨_, rfl⟩
    obtain ⟨Q, hQ⟩ : ∃ Q, Q = M % P := ⟨_, rfl⟩
    have hTP : T < P := by rw [hTt]; exact Nat.mod_lt _ hP0
    have hQP : Q < P := by rw [hQ]; exact Nat.mod_lt _ hP0
    have hback : Hid (sBack h l = Q) := Lib.hid (by unfold sBack; rw [← HC.out, hturn.out, ← HP.out, hQ, hM, hTt])
    have hshead : Hid (sHead h l = h.take K) := Lib.hid (by unfold sHead; rw [← HC.out, hturn.out, ← HN.out, HK.out])
    have f1 : Int.tmod (t : Int) (P : Int) = (T : Int) := by rw [hTt, Int.tmod_eq_emod_of_nonneg (by omega)]; rfl
    have f5 : Int.tmod (M : Int) (P : Int) = (Q : Int) := by rw [hQ, Int.tmod_eq_emod_of_nonneg (by omega)]; rfl
    have f4 : ((P : Int) - T) = (M : Int) := by omega
    have f4' : IntKind.i64.wrap ((P : Int) - T) = (M : Int) := by rw [IntKind.wrap_i64]; omega
    have f4'' : IntKind.i64.wrap (M : Int) = (M : Int) := by rw [IntKind.wrap_i64]; omega
    have f8 : ¬ ((P : Int) = 0) := by omega
    have f9 : ¬ (P = 0) := by omega
    have f10 : ¬ (cap = Q) := by omega
    have f11 : (0 : Int) ≤ Q := by omega
    have f12 : (Q : Int) ≤ P := by omega
    have f13 : Q ≤ P := by omega
    have f14 : Q ≤ cap := by omega
    have f15 : (Q : Int) ≤ cap := by omega
    have hKn : K ≤ n := by have := HK.out; omega
    have hsl : Hid ((sLoop h l) = c.drop Q ++ c.take Q) := Lib.hid (by unfold sLoop; rw [← HC.out, hback.out])
    have hsll : Hid ((c.drop Q ++ c.take Q).length = P) := Lib.hid (by rw [List.length_append, List.length_drop, List.length_take, HCL.out]; omega)
    have hr2W : Hid (RowAt W (.slice (some ⟨g, o, none⟩) P cap) c) := Lib.hid (by have := HR2.out; rwa [HCL.out] at this)
    clear hQ hM hTt
    go_wp2_with fail
    go_region_with (first
      | (go_at_call 59; refine (concat_two' _ W.heap.size (P - Q) Q ⟨g, o + Q, none⟩ ⟨g, o, none⟩ (cap - Q) cap (c.drop Q) (c.take Q) (by rw [List.length_drop, HCL.out]) (by rw [List.length_take, HCL.out]; omega) (by simp [go_sem]) (by simp [go_sem]) (by simp [go_sem]) (drop_row (hr2W.out.below (by repeat (first | (with_reducible exact Below.refl _ _) | (with_reducible assumption) | (with_reducible refine below_drewN ?_ _) | (with_reducible refine Below.drew ?_) | (with_reducible refine below_ext_of ?_ (by first | exact Nat.le_refl _ | assumption | (simp only [World.size_alloc, World.size_setCell, size_ext, World.heap_drewN]; omega)) _ _) | (with_reducible refine Below.alloc ?_ (by first | exact Nat.le_refl _ | assumption | (simp only [World.size_alloc, World.size_setCell, size_ext, World.heap_drewN]; omega)) _) | (with_reducible refine Below.setCell ?_ (by first | exact Nat.le_refl _ | assumption | (simp only [World.size_alloc, World.size_setCell, size_ext, World.heap_drewN]; omega)) _)))) HCL.out Q hQP) (take_row (hr2W.out.below (by repeat (first | (with_reducible exact Below.refl _ _) | (with_reducible assumption) | (with_reducible refine below_drewN ?_ _) | (with_reducible refine Below.drew ?_) | (with_reducible refine below_ext_of ?_ (by first | exact Nat.le_refl _ | assumption | (simp only [World.size_alloc, World.size_setCell, size_ext, World.heap_drewN]; omega)) _ _) | (with_reducible refine Below.alloc ?_ (by first | exact Nat.le_refl _ | assumption | (simp only [World.size_alloc, World.size_setCell, size_ext, World.heap_drewN]; omega)) _) | (with_reducible refine Below.setCell ?_ (by first | exact Nat.le_refl _ | assumption | (simp only [World.size_alloc, World.size_setCell, size_ext, World.heap_drewN]; omega)) _)))) HCL.out Q f13) (by omega) (by omega)).mono ?_; rintro e w3 ⟨v3, rfl, hr3, hbw, ho3⟩; obtain ⟨X3, d3, rfl⟩ := below_ext hbw; clear hbw; have HO3 := Lib.hid ho3; clear ho3; obtain ⟨p3, cp3, rfl, _⟩ := hr3; rw [hsll.out]))
    have HO3' := Lib.hid (show Fresh _ _ (.slice p3 P cp3) (c.drop Q ++ c.take Q) from by have := HO3.out; rwa [hsll.out] at this)
    by_cases hK4 : K ≤ 4096
    · have g1 : ¬ ((4096 : Int) < K) := by omega
      have g2 := decide_eq_false g1
      have g3 : decide ((K : Int) > 4096) = false := g2
      by_cases hP4 : P ≤ 4096
      · have g4 : ¬ ((4096 : Int) < P) := by omega
        have g5 := decide_eq_false g4
        have g6 : decide ((P : Int) > 4096) = false := g5
        have hfit : Hid (fits h l = true) := Lib.hid (by
          unfold fits
          rw [hshead.out, ← HP.out, List.length_take, decide_eq_true (by have := HN.out; omega), decide_eq_true hP4]; rfl)
        have g7 : K ≤ ch := by omega
        have g8 : (K : Int) ≤ ch := by omega
        have g9 : (0 : Int) ≤ K := by omega
        have H1W := Lib.hid (H1n.out.below HBW.out)
        clear H1 H2 H1n hhm hhn HR
        go_wp2_with fail
        refine (clone_any _ _ (h.take K) (take_row (H1W.out.below (by repeat (first | (with_reducible exact Below.refl _ _) | (with_reducible assumption) | (with_reducible refine below_drewN ?_ _) | (with_reducible refine Below.drew ?_) | (with_reducible refine below_ext_of ?_ (by first | exact Nat.le_refl _ | assumption | (simp only [World.size_alloc, World.size_setCell, size_ext, World.heap_drewN]; omega)) _ _) | (with_reducible refine Below.alloc ?_ (by first | exact Nat.le_refl _ | assumption | (simp only [World.size_alloc, World.size_setCell, size_ext, World.heap_drewN]; omega)) _) | (with_reducible refine Below.setCell ?_ (by first | exact Nat.le_refl _ | assumption | (simp only [World.size_alloc, World.size_setCell, size_ext, World.heap_drewN]; omega)) _)))) HN.out.symm K hKn) (by rw [List.length_take]; omega)).mono ?_
        rintro e w4 ⟨v4, rfl, hr4, hbw, ho4⟩
        obtain ⟨X4, d4, rfl⟩ := below_ext hbw
        clear hbw
        have HO4 := Lib.hid ho4
        clear ho4
        obtain ⟨p4, cp4, rfl, _⟩ := hr4
        have hkl : (h.take K).length = K := by rw [List.length_take]; have := HN.out; omega
        rw [hkl] at HO4 ⊢
        go_wp2_with fail
        have hbl : (ext ((ext W #[] (d + 1)).alloc (.cells #[.slice (some ⟨g, o + Q, none⟩) (P - Q) (cap - Q), .slice (some ⟨g, o, none⟩) Q cap] 22)) (X3 ++ X4) d4).heap[w.heap.size]? = some (.cells #[.slice none 0 0, .slice none 0 0] 24) := (Below.block (B := W.heap.size) (by repeat (first | (with_reducible exact Below.refl _ _) | (with_reducible assumption) | (with_reducible refine below_drewN ?_ _) | (with_reducible refine Below.drew ?_) | (with_reducible refine below_ext_of ?_ (by first | exact Nat.le_refl _ | assumption | (simp only [World.size_alloc, World.size_setCell, size_ext, World.heap_drewN]; omega)) _ _) | (with_reducible refine Below.alloc ?_ (by first | exact Nat.le_refl _ | assumption | (simp only [World.size_alloc, World.size_setCell, size_ext, World.heap_drewN]; omega)) _) | (with_reducible refine Below.setCell ?_ (by first | exact Nat.le_refl _ | assumption | (simp only [World.size_alloc, World.size_setCell, size_ext, World.heap_drewN]; omega)) _))) w.heap.size hwW).trans hblk
        have hbl2 : ((ext ((ext W #[] (d + 1)).alloc (.cells #[.slice (some ⟨g, o + Q, none⟩) (P - Q) (cap - Q), .slice (some ⟨g, o, none⟩) Q cap] 22)) (X3 ++ X4) d4).setCell ⟨w.heap.size, 0, none⟩ (.slice p4 K cp4)).heap[w.heap.size]? = some (.cells #[.slice p4 K cp4, .slice none 0 0] 24) := by
          simp only [World.setCell, Array.getElem?_modify, if_pos, hbl]; rfl
        have HO3x := HO3'.out.below (ext_below _ X4 d4)
        have HO4x := HO4.out
        have hap : Apart (.slice p4 K cp4) (.slice p3 P cp3) := fun k q1 q2 => by
          have z3 := (HO3'.out.ge k q2).2
          have z4 := (HO4.out.ge k q1).1
          simp [go_sem] at z3 z4
          omega
        rw [ext_ext] at HO3x HO4x
        have A3 := ((HO3x.put (b := w.heap.size) (by simp [go_sem]; omega) 0 (.slice p4 K cp4)).put (b := w.heap.size) (by simp [go_sem]; omega) 1 (.slice p3 P cp3)).mono (B' := w.heap.size) (by simp [go_sem]; omega)
        have A4 := ((HO4x.put (b := w.heap.size) (by simp [go_sem]; omega) 0 (.slice p4 K cp4)).put (b := w.heap.size) (by simp [go_sem]; omega) 1 (.slice p3 P cp3)).mono (B' := w.heap.size) (by simp [go_sem]; omega)
        rw [← hsl.out] at A3
        rw [← hshead.out] at A4
        have hB := HBW.out
        refine bodyPost_ret (v := .tuple #[.agg #[.slice p4 K cp4, .slice p3 P cp3], .int .i64 0]) (by simp [results, Try.results38, go_sem, k0, k1, hwW]) rfl ⟨?_, Shorted.yes hfit.out ?_ ?_ hap⟩
        · have hB2 := (hB.setCell (p := ⟨w.heap.size, 0, none⟩) (Nat.le_refl _) (.slice p4 K cp4)).setCell (p := ⟨w.heap.size, 1, none⟩) (Nat.le_refl _) (.slice p3 P cp3)
          have hs2 := hB2.size
          exact below_ext_of ((below_ext_of hB2 hs2 _ _).alloc (le_ext _ _ _ _ hs2) _) (by rw [World.size_alloc]; exact Nat.le_succ_of_le (le_ext _ _ _ _ hs2)) _ _
        · refine (congrArg (fun W' => Fresh W' _ _ _) ?_).mp A4
          simp [go_sem, hwW]
        · refine (congrArg (fun W' => Fresh W' _ _ _) ?_).mp A3
          simp [go_sem, hwW]
      · skip
        have g4 : ((4096 : Int) < P) := by omega
        have g5 := decide_eq_true g4
        have g6 : decide ((P : Int) > 4096) = true := g5
        have hnofit : Hid (fits h l = false) := Lib.hid (by
          unfold fits
          rw [← HP.out, decide_eq_false hP4, Bool.and_false])
        go_wp2_with fail
        have hB := HBW.out
        refine bodyPost_ret (v := .tuple #[.agg #[.slice none 0 0, .slice none 0 0], .int .i64 4]) (by simp [results, Try.results38, go_sem, k0, k1, hwW]) rfl ⟨?_, Shorted.no hnofit.out⟩
        have hB2 := (hB.setCell (p := ⟨w.heap.size, 0, none⟩) (Nat.le_refl _) (.slice none 0 0)).setCell (p := ⟨w.heap.size, 1, none⟩) (Nat.le_refl _) (.slice none 0 0)
        have hs2 := hB2.size
        exact below_ext_of ((below_ext_of hB2 hs2 _ _).alloc (le_ext _ _ _ _ hs2) _) (by rw [World.size_alloc]; exact Nat.le_succ_of_le (le_ext _ _ _ _ hs2)) _ _
    · skip
      have g1 : ((4096 : Int) < K) := by omega
      have g2 := decide_eq_true g1
      have g3 : decide ((K : Int) > 4096) = true := g2
      have hnofit : Hid (fits h l = false) := Lib.hid (by
        unfold fits
        rw [hshead.out, List.length_take, decide_eq_false (by have := HN.out; omega), Bool.false_and])
      go_wp2_with fail
      have hB := HBW.out
      refine bodyPost_ret (v := .tuple #[.agg #[.slice none 0 0, .slice none 0 0], .int .i64 4]) (by simp [results, Try.results38, go_sem, k0, k1, hwW]) rfl ⟨?_, Shorted.no hnofit.out⟩
      have hB2 := (hB.setCell (p := ⟨w.heap.size, 0, none⟩) (Nat.le_refl _) (.slice none 0 0)).setCell (p := ⟨w.heap.size, 1, none⟩) (Nat.le_refl _) (.slice none 0 0)
      have hs2 := hB2.size
      exact below_ext_of ((below_ext_of hB2 hs2 _ _).alloc (le_ext _ _ _ _ hs2) _) (by rw [World.size_alloc]; exact Nat.le_succ_of_le (le_ext _ _ _ _ hs2)) _ _
end Go.Proofs.Ytpcnapmlmhhcpaa
