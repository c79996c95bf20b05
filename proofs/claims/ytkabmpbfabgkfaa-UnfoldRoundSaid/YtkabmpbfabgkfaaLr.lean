/-
  The law UnfoldRound.
  Conditions: the rows lie in memory; their numbers are int64s.
-/
import Derived.Test.YtkabmpbfabgkfaaPx4
import Derived.Test.YtkabmpbfabgkfaaPt
import Derived.WalkKit
import Derived.WalkSpells
import Derived.WalkLawsBesides
import Derived.Deep.QuietTactic
import Derived.BigQuiet
import Derived.Lib.Hide
import Derived.Handy
import Derived.Deep.AppendLies
import Derived.Maps.AppendAt
import Derived.OwnWalk
import Derived.Lib.LazyBuf
import Derived.Deep.DeepCutAuto
import Derived.Deep.RegionLaw
import Derived.Deep.RegionHeld3
import Derived.Deep.RegionWith
import Derived.BigRegion
import Derived.Deep.CutBlock
import Derived.LoopN
import Derived.Shelf.SlSortCmp.WholeK
import Derived.Shelf.SlSortCmp.NoneTotal
import Derived.Laws.AppendOwn
import Derived.Test.YtkabmpbfabgkfaaRt
import Derived.Test.YtkabmpbfabgkfaaWd
import Derived.Test.YtkabmpbfabgkfaaLq
import Derived.Deep.CutRange
set_option linter.unusedVariables false
set_option linter.unusedSimpArgs false
namespace Go.Proofs.Ytkabmpbfabgkfaa
open Go.RowKit 
open Big
attribute [local go_sem] setCell_drewN alloc_drewN size_ext ext_ext ext_drewN ext_drew drewN_ext drew_ext cell?_ext frozen?_ext setCell_ext cell?_past1 frozen?_past1 setCell_past1 cell?_past2 frozen?_past2 setCell_past2 cell?_past3 frozen?_past3 setCell_past3 cell?_past4 frozen?_past4 setCell_past4 cell?_past5 frozen?_past5 setCell_past5 cell?_past6 frozen?_past6 setCell_past6 cell?_past7 frozen?_past7 setCell_past7 cell?_past8 frozen?_past8 setCell_past8
open Go.Proofs.Ytkabmpbfabgkfaa.P Go.Proofs.YtkabmpbfabgkfaaW.PrintWords Go.Proofs.YtkabmpbfabgkfaaW.PrintLast Go.Proofs.YtkabmpbfabgkfaaW.PrintMore
theorem Heavy_l1 (l : List S44) (i : Nat) (hi : i < l.length) (h200 : i < 200) (H : ∀ n : Int, ∃ r, Ev (fun k => carillonlaw14_Heavy.l0 k l n ((i + 1 : Nat) : Int)) r) :
    ∀ (e j : Nat), 50 ≤ j + e → ∀ n : Int, ∃ r, Ev (fun k => carillonlaw14_Heavy.l1 k l n i j) r := by
  have hw : wrap64 ((i : Int) + 1) = ((i + 1 : Nat) : Int) := by rw [wrap_small (by omega) (by omega)]; omega
  intro e
  induction e with
  | zero =>
    intro j hj n
    obtain ⟨r, K, hK⟩ := H n
    refine ⟨r, K + 1, fun k hk => ?_⟩
    obtain ⟨q, rfl⟩ : ∃ q, k = q + 1 := ⟨k - 1, by omega⟩
    replace hK := hK q (by omega)
    dsimp only at hK
    simp only [carillonlaw14_Heavy.l1]
    rw [if_pos (by omega), if_pos (by omega), hw]
    split
    · rw [if_neg (by omega)]; exact hK
    · exact hK
  | succ e ih =>
    intro j hj n
    by_cases h1 : (j : Int) < ((rd_T44 l (i : Int)).f4).length ∧ (j : Int) < 50
    · have hwj : wrap64 ((j : Int) + 1) = ((j + 1 : Nat) : Int) := by rw [wrap_small (by omega) (by omega)]; omega
      obtain ⟨r, K, hK⟩ := ih (j + 1) (by omega) (wrap64 ((wrap64 (n + (((rd_T69 ((rd_T44 l i).f4) j).f3.f0).length : Int))) + (((rd_T69 ((rd_T44 l i).f4) j).f3.f1).length : Int)))
      refine ⟨r, K + 1, fun k hk => ?_⟩
      obtain ⟨q, rfl⟩ : ∃ q, k = q + 1 := ⟨k - 1, by omega⟩
      replace hK := hK q (by omega)
      dsimp only at hK
      simp only [carillonlaw14_Heavy.l1]
      rw [if_pos (by omega), if_pos (by omega), if_pos h1.1, if_pos h1.2, if_pos (by omega), hwj]
      exact hK
    · obtain ⟨r, K, hK⟩ := H n
      refine ⟨r, K + 1, fun k hk => ?_⟩
      obtain ⟨q, rfl⟩ : ∃ q, k = q + 1 := ⟨k - 1, by omega⟩
      replace hK := hK q (by omega)
      dsimp only at hK
      simp only [carillonlaw14_Heavy.l1]
      rw [if_pos (by omega), if_pos (by omega), hw]
      split
      · rename_i h2
        rw [if_neg (fun h3 => h1 ⟨h2, h3⟩)]
        exact hK
      · exact hK
theorem Heavy_j1 (l : List S44) (n i : Int) (q : Nat) (h : 1 ≤ q) : carillonlaw14_Heavy.j1 q l n i false = some (decide (n > 4000)) := by
  obtain ⟨s, rfl⟩ : ∃ s, q = s + 1 := ⟨q - 1, by omega⟩
  simp only [carillonlaw14_Heavy.j1]
  rw [if_neg (by decide)]
theorem Heavy_j1t (l : List S44) (n i : Int) (q : Nat) (h0 : 0 ≤ i) (h1 : i < l.length) : carillonlaw14_Heavy.j1 (q + 1) l n i true = carillonlaw14_Heavy.l1 q l (wrap64 (n + (((rd_T44 l i).f4).length : Int))) i 0 := by
  simp only [carillonlaw14_Heavy.j1]
  rw [if_pos trivial, if_pos h0, if_pos h1]
theorem Heavy_l0 (l : List S44) : ∀ (d i : Nat), 200 ≤ i + d → i ≤ 200 → ∀ n : Int, ∃ r, Ev (fun k => carillonlaw14_Heavy.l0 k l n i) r := by
  have hend : ∀ (i : Nat) (n : Int), ¬ (i < l.length ∧ i < 200) → ∃ r, Ev (fun k => carillonlaw14_Heavy.l0 k l n i) r := by
    intro i n h
    refine ⟨decide (n > 4000), 2, fun k hk => ?_⟩
    obtain ⟨q, rfl⟩ : ∃ q, k = q + 1 := ⟨k - 1, by omega⟩
    simp only [carillonlaw14_Heavy.l0]
    split
    · rw [show decide ((i : Int) < 200) = false from decide_eq_false (by omega)]
      exact Heavy_j1 l n i q (by omega)
    · exact Heavy_j1 l n i q (by omega)
  intro d
  induction d with
  | zero => exact fun i hi hi2 n => hend i n (by omega)
  | succ d ih =>
    intro i hi hi2 n
    by_cases h1 : i < l.length ∧ i < 200
    · obtain ⟨r, K, hK⟩ := Heavy_l1 l i h1.1 h1.2 (fun n => ih (i + 1) (by omega) (by omega) n) 50 0 (by omega) (wrap64 (n + (((rd_T44 l i).f4).length : Int)))
      refine ⟨r, K + 2, fun k hk => ?_⟩
      obtain ⟨q, rfl⟩ : ∃ q, k = q + 1 := ⟨k - 1, by omega⟩
      obtain ⟨s, rfl⟩ : ∃ s, q = s + 1 := ⟨q - 1, by omega⟩
      replace hK := hK s (by omega)
      dsimp only at hK
      have h2 := Heavy_j1t l n i s (by omega) (by omega)
      generalize s + 1 = q at h2 ⊢
      simp only [carillonlaw14_Heavy.l0]
      rw [if_pos (by omega), show decide ((i : Int) < 200) = true from decide_eq_true (by omega), h2]
      exact hK
    · exact hend i n h1
theorem Heavy_any (w : World) (A0 : Option Addr) (c0 : Nat) (l : List S44) (hr0 : Kd.C k44 w A0 l.length l) (hc0 : l.length ≤ c0) :
    ∃ b : Bool, Calls Try.prog 12 #[.slice A0 l.length c0] w fun e w' => e = .returned (.bool b) ∧ Below w.heap.size w w' := by
  obtain ⟨r, K, hK⟩ := Heavy_l0 l 200 0 (by omega) (by omega) (l.length : Int)
  refine ⟨r, (carillonlaw14_Heavy.calls K A0 c0 l r w hr0 hc0 (hK K (Nat.le_refl _))).mono ?_⟩
  rintro e w' ⟨rfl, hd⟩
  exact ⟨rfl, Drawn0.below hd⟩
end Go.Proofs.Ytkabmpbfabgkfaa
set_option linter.unusedVariables false
set_option linter.unusedSimpArgs false
namespace Go.Proofs.Ytkabmpbfabgkfaa
open Go.RowKit 
open Big
attribute [local go_sem] setCell_drewN alloc_drewN size_ext ext_ext ext_drewN ext_drew drewN_ext drew_ext cell?_ext frozen?_ext setCell_ext cell?_past1 frozen?_past1 setCell_past1 cell?_past2 frozen?_past2 setCell_past2 cell?_past3 frozen?_past3 setCell_past3 cell?_past4 frozen?_past4 setCell_past4 cell?_past5 frozen?_past5 setCell_past5 cell?_past6 frozen?_past6 setCell_past6 cell?_past7 frozen?_past7 setCell_past7 cell?_past8 frozen?_past8 setCell_past8
open Go.Proofs.Ytkabmpbfabgkfaa.P Go.Proofs.YtkabmpbfabgkfaaW.PrintWords Go.Proofs.YtkabmpbfabgkfaaW.PrintLast Go.Proofs.YtkabmpbfabgkfaaW.PrintMore
theorem clk_any (w : World) (A0 A1 : Option Addr) (c0 c1 : Nat) (l : List S44) (ins : List S25) (z : S51) (q tt : Int) (h : lawCk z l ins = (q, tt, true)) (hr0 : Kd.C k44 w A0 l.length l) (hc0 : l.length ≤ c0) (hr1 : Kd.C k25 w A1 ins.length ins) (hc1 : ins.length ≤ c1) :
    Calls Try.prog 16 #[.slice A0 l.length c0, .slice A1 ins.length c1, .agg #[.int .u8 z.f0, .int .i64 z.f1, .int .i64 z.f2, .int .i64 z.f3]] w fun e w' => e = .returned (.tuple #[.agg #[.int .i64 q, .int .i64 tt], .bool true]) ∧ Below w.heap.size w w' := by
  refine carillonlaw15_clock.calls 2 A0 c0 l A1 c1 ins z.f0 z.f1 z.f2 z.f3 q tt true w hr0 hc0 hr1 hc1 ?_
  unfold lawCk at h
  unfold carillonlaw15_clock.f
  split at h
  · rename_i h1
    simp only [Prod.mk.injEq] at h
    rw [if_pos h1.1, if_pos h1.2.1, decide_eq_true h1.2.2]
    simp only [carillonlaw15_clock.j0]
    rw [if_pos trivial, if_pos h1.2.1, if_pos h1.2.2, h.1, h.2.1]
  · split at h
    · rename_i h1
      simp only [Prod.mk.injEq] at h
      rw [if_neg (by omega)]
      simp only [carillonlaw15_clock.j0]
      rw [if_neg (by decide), if_pos h1.1, if_pos h1.2.1, decide_eq_true h1.2.2]
      simp only [carillonlaw15_clock.j1]
      rw [if_pos trivial, if_pos h1.2.1, if_pos h1.2.2, h.1, h.2.1]
    · simp at h
theorem set_s3 {W : World} {b : Nat} {v0 v1 v2 v3 : Value} {t : TypeId} (h : W.heap[b]? = some (.cells #[v0, v1, v2, v3] t)) (u : Value) : (W.setCell ⟨b, 3, none⟩ u).heap[b]? = some (.cells #[v0, v1, v2, u] t) := by
  simp only [World.setCell, Array.getElem?_modify, if_pos, h]; rfl
theorem wrap64_is (i : Int) : wrap64 i = IntKind.i64.wrap i := by rw [IntKind.wrap_i64]; unfold wrap64; omega
def dateTo (l : List S44) (ins : List S25) (L : List S51) (p s : Int) (m : Nat) : Prop := ∀ (i : Nat) (h : i < L.length), ∃ q tt, lawCk L[i] l ins = (q, tt, true) ∧ mayC q tt = true ∧ 0 ≤ L[i].f3 ∧ tt + q * L[i].f3 ≤ s + p * m
def turnTo (l : List S44) (ins : List S25) (L M : List S51) (H : Int) : Prop := ∀ (i : Nat) (h1 : i < L.length) (h2 : i < M.length), ∃ q tt, lawCk L[i] l ins = (q, tt, true) ∧ mayC q tt = true ∧ 0 ≤ L[i].f3 ∧ L[i].f3 ≤ 1125899906842624 ∧ 0 ≤ H / q ∧ H / q ≤ 17592186044416 ∧ M[i] = ⟨L[i].f0, L[i].f1, L[i].f2, L[i].f3 + H / q⟩
theorem ofF_may {b : Bool} {l : List S44} {P H : Int} (h : ofF b l = (P, H, 0)) : b = true := by
  cases b with
  | true => rfl
  | false => unfold ofF at h; simp at h
set_option maxRecDepth 100000 in
set_option maxHeartbeats 16000000 in
theorem UnfoldRound_any (w : World) (A0 A1 : Option Addr) (c0 c1 : Nat) (l : List S44) (ins : List S25) (k : Int) (m : Nat) (hin : l.all inTask = true) (hii : ins.all ok25 = true) (hr0 : Kd.C k44 w A0 l.length l) (hc0 : l.length ≤ c0) (hr1 : Kd.C k25 w A1 ins.length ins) (hc1 : ins.length ≤ c1) (hk0 : 0 ≤ k) (hk1 : k ≤ 255) (hm : m ≤ 255) :
    Calls Try.prog 4 #[.slice A0 l.length c0, .slice A1 ins.length c1, .int .u8 k, .int .u8 (m : Int)] w fun e w' => e = .returned (.bool true) ∧ Below w.heap.size w w' := by
  obtain ⟨hv, hHV⟩ := Heavy_any w A0 c0 l hr0 hc0
  have HHV := Lib.hid hHV
  have HR0 := Lib.hid hr0
  have HR1 := Lib.hid hr1
  have HC0 := Lib.hid hc0
  have HC1 := Lib.hid hc1
  have HIN := Lib.hid hin
  have HII := Lib.hid hii
  have HKN := Lib.hid (And.intro hk0 (And.intro hk1 hm))
  clear hHV hr0 hr1 hc0 hc1 hin hii hk0 hk1 hm
  go_enter Try.func4, Try.ntmps4
  have HBw : Hid (Below w.heap.size w w) := Lib.hid (Below.refl _ _)
  cases hv with
  | true =>
    go_wp2_with fail
    refine HHV.out.mono ?_
    rintro e w1 ⟨rfl, hb⟩
    have HBw1 := Lib.hid (HBw.out.trans (hb.mono HBw.out.size))
    clear hb
    go_wp2_with fail
    refine (works_any _).mono ?_
    rintro e wz ⟨rfl, hb⟩
    have HBwz := Lib.hid (HBw1.out.trans (hb.mono HBw1.out.size))
    clear hb
    go_wp2_with fail
    go_ret
    exact ⟨rfl, HBwz.out⟩
  | false =>
    by_cases h100 : 100 < ins.length
    · have d1 : decide ((ins.length : Int) > 100) = true := decide_eq_true (by omega)
      have d1' : decide (100 < ins.length) = true := decide_eq_true h100
      clear h100
      go_wp2_with fail
      refine HHV.out.mono ?_
      rintro e w1 ⟨rfl, hb⟩
      have HBw1 := Lib.hid (HBw.out.trans (hb.mono HBw.out.size))
      clear hb
      go_wp2_with fail
      refine (works_any _).mono ?_
      rintro e wz ⟨rfl, hb⟩
      have HBwz := Lib.hid (HBw1.out.trans (hb.mono HBw1.out.size))
      clear hb
      go_wp2_with fail
      go_ret
      exact ⟨rfl, HBwz.out⟩
    have d1 : decide ((ins.length : Int) > 100) = false := decide_eq_false (by omega)
    have d1' : decide (100 < ins.length) = false := decide_eq_false h100
    clear h100
    by_cases h0 : l.length = 0
    · have d2 : ((l.length : Int) == 0) = true := by rw [h0]; rfl
      have d2' : (l.length == 0) = true := by rw [h0]; rfl
      have HN0 := Lib.hid h0
      clear h0
      go_wp2_with fail
      refine HHV.out.mono ?_
      rintro e w1 ⟨rfl, hb⟩
      have HBw1 := Lib.hid (HBw.out.trans (hb.mono HBw.out.size))
      clear hb
      go_wp2_with fail
      refine (works_any _).mono ?_
      rintro e wz ⟨rfl, hb⟩
      have HBwz := Lib.hid (HBw1.out.trans (hb.mono HBw1.out.size))
      clear hb
      go_wp2_with fail
      go_ret
      exact ⟨rfl, HBwz.out⟩
    have d2 : ((l.length : Int) == 0) = false := beq_false_of_ne (by omega)
    have d2' : (l.length == 0) = false := beq_false_of_ne h0
    have HN0 := Lib.hid h0
    clear h0
    go_wp2_with fail
    refine HHV.out.mono ?_
    rintro e w1 ⟨rfl, hb⟩
    have HBw1 := Lib.hid (HBw.out.trans (hb.mono HBw.out.size))
    clear hb HHV
    go_wp2_with fail
    clear d1 d1' d2 d2'
    refine (Of_call _ A0 A1 c0 c1 l ins HIN.out HII.out (Kd.C_below HR0.out HBw1.out) HC0.out (Kd.C_below HR1.out HBw1.out) HC1.out).mono ?_
    rintro e w2 ⟨rfl, hb⟩
    obtain ⟨⟨P, H, E⟩, hof⟩ : ∃ z, ofF (mayTs l ins) l = z := ⟨_, rfl⟩
    rw [hof]
    dsimp only
    have HOF := Lib.hid hof
    have HBw2 := Lib.hid (HBw1.out.trans (hb.mono HBw1.out.size))
    clear hb hof
    go_upto_region 4 with (fail)
    obtain ⟨w3, hw3⟩ : ∃ V, V = w2.alloc (.cells #[.int .i64 P, .int .i64 H] 23) := ⟨_, rfl⟩
    obtain ⟨B9, hB9⟩ : ∃ B, B = w2.heap.size := ⟨_, rfl⟩
    rw [← hw3, ← hB9]
    have hb : Below w2.heap.size w2 w3 := by rw [hw3]; exact (Below.refl _ _).alloc (Nat.le_refl _) _
    have H9w3 : Hid (w3.heap[B9]? = some (.cells #[.int .i64 P, .int .i64 H] 23)) := Lib.hid (by rw [hw3]; exact heap_new' _ _ _ hB9)
    clear hw3 hB9
    have HBw3 := Lib.hid (HBw2.out.trans (hb.mono HBw2.out.size))
    clear hb
    by_cases hE : E = 0
    · subst hE
      have HMAY := Lib.hid (ofF_may HOF.out)
      have HOF2 : Hid (ofF true l = (P, H, 0)) := Lib.hid (by rw [← HMAY.out]; exact HOF.out)
      go_wp2_with fail
      refine (rmayTs_any _ A0 A1 c0 c1 l ins (Kd.C_below HR0.out HBw3.out) (Kd.C_below HR1.out HBw3.out)).mono ?_
      rintro e w4 ⟨rfl, hb⟩
      rw [HMAY.out]
      have HBw4 := Lib.hid (HBw3.out.trans (hb.mono HBw3.out.size))
      have H9w4 := Lib.hid ((hb.block _ (lt_of_blk H9w3.out)).trans H9w3.out)
      clear hb H9w3
      obtain ⟨i, hi⟩ : ∃ i : Nat, k % (l.length : Int) = i := ⟨(k % (l.length : Int)).toNat, by have := Int.emod_nonneg k (show (l.length : Int) ≠ 0 by have := HN0.out; omega); omega⟩
      have hil : i < l.length := by have := Int.emod_lt_of_pos k (show (0 : Int) < l.length by have := HN0.out; omega); omega
      have e7 : Int.tmod k (l.length : Int) = (i : Int) := by rw [Int.tmod_eq_emod_of_nonneg HKN.out.1]; exact hi
      have e9 : k % (l.length : Int) = (i : Int) := hi
      have e11 : (0 : Int) ≤ i := by omega
      have e12 : (i : Int) < l.length := by omega
      have e13 : ¬ ((l.length : Int) = 0) := by omega
      have e14 : ((l.length : Int) == 0) = false := beq_false_of_ne e13
      have e15 : ((l.length : Int) == -1) = false := beq_false_of_ne (by omega)
      have e16 : ¬ (l.length = 0) := by omega
      have e17 : IntKind.i64.wrap k = k := by have := HKN.out; rw [IntKind.wrap_i64]; omega
      have e18 : IntKind.i64.wrap (i : Int) = (i : Int) := by have := HR0.out.2.1; rw [IntKind.wrap_i64]; omega
      obtain ⟨at', A5, c5, hat, x0, x1, x2, x3, x4, x5, x6, xl, xr⟩ := at_T44 (Kd.C_below HR0.out HBw4.out) i (by omega) (by omega)
      have hrt : rd_T44 l (i : Int) = l[i] := by unfold rd_T44; rw [Int.toNat_natCast]; exact getD_eq _ _ _ hil
      rw [hrt, Int.toNat_natCast] at x0 x1 x2 x3 x4 x5 x6
      rw [hrt] at xl xr
      obtain ⟨x, hx⟩ : ∃ x, l[i] = x := ⟨_, rfl⟩
      have hxm : x ∈ l := by rw [← hx]; exact List.getElem_mem hil
      rw [hx] at x0 x1 x2 x3 x4 x5 x6 xl xr
      have HXM := Lib.hid hxm
      have RXw4 := Lib.hid xr
      have HXL := Lib.hid xl
      subst hat
      clear hi hil hrt hx hxm xr xl
      go_upto_region 7 with (fail)
      clear e7 e9 e11 e12 e13 e14 e15 e16 e17 e18
      obtain ⟨w5, hw5⟩ : ∃ V, V = w4.alloc (.cells #[.int .i64 x.f0.f0, .int .i64 x.f0.f1, .int .i64 x.f1, .int .i64 x.f2, .int .i64 x.f3, .slice A5 x.f4.length c5, .int .i64 x.f5] 44) := ⟨_, rfl⟩
      obtain ⟨B11, hB11⟩ : ∃ B, B = w4.heap.size := ⟨_, rfl⟩
      rw [← hw5, ← hB11]
      have hb : Below w4.heap.size w4 w5 := by rw [hw5]; exact (Below.refl _ _).alloc (Nat.le_refl _) _
      have H11w5 : Hid (w5.heap[B11]? = some (.cells #[.int .i64 x.f0.f0, .int .i64 x.f0.f1, .int .i64 x.f1, .int .i64 x.f2, .int .i64 x.f3, .slice A5 x.f4.length c5, .int .i64 x.f5] 44)) := Lib.hid (by rw [hw5]; exact heap_new' _ _ _ hB11)
      clear hw5 hB11
      have HBw5 := Lib.hid (HBw4.out.trans (hb.mono HBw4.out.size))
      have H9w5 := Lib.hid ((hb.block _ (lt_of_blk H9w4.out)).trans H9w4.out)
      have RXw5 := Lib.hid (Kd.C_below RXw4.out hb)
      clear hb H9w4 RXw4
      clear x0 x1 x2 x3 x4 x5 x6
      obtain ⟨hoF, hP0, hH1, hPH⟩ := ofF_spec HMAY.out HOF2.out
      have hok := round_okS HMAY.out HOF2.out HXM.out
      obtain ⟨o1, o2, o3, o4, o5, o6⟩ := okS_spec hok
      obtain ⟨p1, p2, s1, s2⟩ := mayC_spec o1
      obtain ⟨LL, hLL⟩ : ∃ LL, H / x.f0.f0 = LL := ⟨_, rfl⟩
      obtain ⟨hh, hhh⟩ : ∃ hh, belowN x.f0.f0 x.f0.f1 P = hh := ⟨_, rfl⟩
      have HLL := Lib.hid hLL
      have HHH := Lib.hid hhh
      have hlp := loop_pos hok
      rw [hLL] at hlp
      have h9 : H / x.f0.f0 ≤ H := Int.ediv_le_self _ (by omega)
      rw [hLL] at h9
      have HLP : Hid (0 ≤ LL ∧ LL ≤ 17592186044416) := Lib.hid (by omega)
      clear h9
      have HOK := Lib.hid hok
      have HIB : Hid (1 ≤ x.f0.f0 ∧ x.f0.f0 ≤ 1099511627776 ∧ 0 ≤ x.f0.f1 ∧ x.f0.f1 ≤ 1099511627776 ∧ 0 ≤ P ∧ P ≤ 17592186044416 ∧ 1 ≤ H ∧ H ≤ 17592186044416) := Lib.hid (by omega)
      have hc1' : cntH P H x.f0.f0 x.f0.f1 = hh := by unfold cntH; rw [if_pos hok, hhh]
      have hc2' : cntL P H x.f0.f0 x.f0.f1 = LL := by unfold cntL; rw [if_pos hok, hLL]
      have hc3' : cntE P H x.f0.f0 x.f0.f1 = 0 := by unfold cntE; rw [if_pos hok]
      have HCN := Lib.hid (And.intro hc1' (And.intro hc2' hc3'))
      clear hoF hP0 hH1 hPH hok o1 o2 o3 o4 o5 o6 p1 p2 s1 s2 hLL hhh hlp hc1' hc2' hc3'
      have y90 : w5.cell? ⟨B9, 0, none⟩ = some (.int .i64 P) := cell_lit (i := 0) H9w5.out
      have y91 : w5.cell? ⟨B9, 1, none⟩ = some (.int .i64 H) := cell_lit (i := 1) H9w5.out
      have y110 : w5.cell? ⟨B11, 0, none⟩ = some (.int .i64 x.f0.f0) := cell_lit (i := 0) H11w5.out
      have y111 : w5.cell? ⟨B11, 1, none⟩ = some (.int .i64 x.f0.f1) := cell_lit (i := 1) H11w5.out
      go_wp2_with fail
      refine (count_any _ P H x.f0.f0 x.f0.f1 (by have := HIB.out; omega) (by have := HIB.out; omega) (by have := HIB.out; omega) (by have := HIB.out; omega) (by have := HIB.out; omega) (by have := HIB.out; omega) (by have := HIB.out; omega) (by have := HIB.out; omega)).mono ?_
      rintro e w6 ⟨rfl, hb⟩
      rw [HCN.out.1, HCN.out.2.1, HCN.out.2.2]
      clear y90 y91 y110 y111
      have HBw6 := Lib.hid (HBw5.out.trans (hb.mono HBw5.out.size))
      have H9w6 := Lib.hid ((hb.block _ (lt_of_blk H9w5.out)).trans H9w5.out)
      have H11w6 := Lib.hid ((hb.block _ (lt_of_blk H11w5.out)).trans H11w5.out)
      have RXw6 := Lib.hid (Kd.C_below RXw5.out hb)
      clear hb H9w5 H11w5 RXw5
      have y91 : w6.cell? ⟨B9, 1, none⟩ = some (.int .i64 H) := cell_lit (i := 1) H9w6.out
      have y110 : w6.cell? ⟨B11, 0, none⟩ = some (.int .i64 x.f0.f0) := cell_lit (i := 0) H11w6.out
      have y111 : w6.cell? ⟨B11, 1, none⟩ = some (.int .i64 x.f0.f1) := cell_lit (i := 1) H11w6.out
      have y112 : w6.cell? ⟨B11, 2, none⟩ = some (.int .i64 x.f1) := cell_lit (i := 2) H11w6.out
      have y113 : w6.cell? ⟨B11, 3, none⟩ = some (.int .i64 x.f2) := cell_lit (i := 3) H11w6.out
      have y114 : w6.cell? ⟨B11, 4, none⟩ = some (.int .i64 x.f3) := cell_lit (i := 4) H11w6.out
      have y115 : w6.cell? ⟨B11, 5, none⟩ = some (.slice A5 x.f4.length c5) := cell_lit (i := 5) H11w6.out
      have y116 : w6.cell? ⟨B11, 6, none⟩ = some (.int .i64 x.f5) := cell_lit (i := 6) H11w6.out
      have e1 : decide (H < 1) = false := decide_eq_false (by have := HIB.out; omega)
      have e2 : IntKind.i64.wrap (m : Int) = (m : Int) := by have := HKN.out; rw [IntKind.wrap_i64]; omega
      have hxt : x.f4.length ≤ 32 := (mayT_spec ((mayTs_spec HMAY.out).2.2.2.1 x HXM.out)).2.2
      have HX32 := Lib.hid hxt
      clear hxt
      go_wp2_with fail
      refine (Needs_any _ x m A5 c5 (by omega) (by have := HKN.out; omega) HX32.out (round_ok HMAY.out HXM.out m HKN.out.2.2) RXw6.out HXL.out).mono ?_
      rintro e w7 ⟨AA, cA, rfl, hA, hb⟩
      obtain ⟨L, hL⟩ : ∃ L, needsL m x.f4 = L := ⟨_, rfl⟩
      rw [hL] at hA ⊢
      have HLL2 := Lib.hid hL
      have RAw7 := Lib.hid hA
      have HDT : Hid (dateTo l ins L x.f0.f0 x.f0.f1 m) := Lib.hid (fun i h => by
        have := round_date HMAY.out HXM.out m HKN.out.2.2 (x := L[i]) (by rw [hL]; exact List.getElem_mem h)
        exact this)
      clear hL hA y91 y110 y111 y112 y113 y114 y115 y116 e1 e2
      have HBw7 := Lib.hid (HBw6.out.trans (hb.mono HBw6.out.size))
      have H9w7 := Lib.hid ((hb.block _ (lt_of_blk H9w6.out)).trans H9w6.out)
      have H11w7 := Lib.hid ((hb.block _ (lt_of_blk H11w6.out)).trans H11w6.out)
      have RXw7 := Lib.hid (Kd.C_below RXw6.out hb)
      clear hb H9w6 H11w6 RXw6
      have HLN : Hid (L.length ≤ 32) := Lib.hid (by have := needsL_len m x.f4; rw [HLL2.out] at this; have := HX32.out; omega)
      go_wp2_with fail
      go_loopw [18] (fun i wr => ∃ j : Nat, j ≤ L.length ∧ i = .int .i64 j ∧ Hid (Below w.heap.size w wr) ∧ Hid (wr.heap[B9]? = some (.cells #[.int .i64 P, .int .i64 H] 23)) ∧ Hid (wr.heap[B11]? = some (.cells #[.int .i64 x.f0.f0, .int .i64 x.f0.f1, .int .i64 x.f1, .int .i64 x.f2, .int .i64 x.f3, .slice A5 x.f4.length c5, .int .i64 x.f5] 44)) ∧ Hid (Kd.C k69 wr A5 x.f4.length x.f4) ∧ Hid (Kd.C k51 wr AA L.length L)) (fun i _ => L.length - (RowKit.intOf i).toNat)
      case atStart => exact ⟨0, Nat.zero_le _, rfl, HBw7, H9w7, H11w7, RXw7, RAw7⟩
      case round =>
        clear HBw7 H9w7 H11w7 RXw7 RAw7
        obtain ⟨j, hj, rfl, HBwr, H9wr, H11wr, RXwr, RAwr⟩ := hrel
        by_cases hlt : j < L.length
        · have HLT := Lib.hid hlt
          obtain ⟨ar, har, z0, z1, z2, z3⟩ := at_T51 RAwr.out j (by omega) (by omega)
          have hrt : rd_T51 L (j : Int) = L[j] := by unfold rd_T51; rw [Int.toNat_natCast]; exact getD_eq _ _ _ hlt
          rw [hrt, Int.toNat_natCast] at z0 z1 z2 z3
          obtain ⟨z, hz⟩ : ∃ z, L[j] = z := ⟨_, rfl⟩
          rw [hz] at z0 z1 z2 z3
          obtain ⟨q, tt, hck, hq, hz0, hle⟩ : ∃ q tt, lawCk z l ins = (q, tt, true) ∧ mayC q tt = true ∧ 0 ≤ z.f3 ∧ tt + q * z.f3 ≤ x.f0.f1 + x.f0.f0 * m := by rw [← hz]; exact HDT.out j hlt
          subst har
          obtain ⟨q1, q2, t1, t2⟩ := mayC_spec hq
          have hpm := Int.mul_le_mul_of_nonneg_right HIB.out.2.1 (show (0 : Int) ≤ m by omega)
          have hpm0 : 0 ≤ x.f0.f0 * (m : Int) := Int.mul_nonneg (by have := HIB.out; omega) (by omega)
          have hqz : 0 ≤ q * z.f3 := Int.mul_nonneg (by omega) hz0
          obtain ⟨D1, hD1⟩ : ∃ D, z.f3 * q = D := ⟨_, rfl⟩
          obtain ⟨D2, hD2⟩ : ∃ D, (m : Int) * x.f0.f0 = D := ⟨_, rfl⟩
          rw [Int.mul_comm q, hD1] at hqz hle
          rw [Int.mul_comm x.f0.f0, hD2] at hle hpm hpm0
          have hib := HIB.out
          have hkn := HKN.out
          have X1 : Hid (IntKind.i64.wrap (z.f3 * q) = D1) := Lib.hid (by rw [hD1, IntKind.wrap_i64]; omega)
          have X2 : Hid (IntKind.i64.wrap ((m : Int) * x.f0.f0) = D2) := Lib.hid (by rw [hD2, IntKind.wrap_i64]; omega)
          obtain ⟨E1, hE1⟩ : ∃ E, tt + D1 = E := ⟨_, rfl⟩
          obtain ⟨E2, hE2⟩ : ∃ E, x.f0.f1 + D2 = E := ⟨_, rfl⟩
          have X3 : Hid (IntKind.i64.wrap (tt + D1) = E1) := Lib.hid (by rw [hE1, IntKind.wrap_i64]; omega)
          have X4 : Hid (IntKind.i64.wrap (x.f0.f1 + D2) = E2) := Lib.hid (by rw [hE2, IntKind.wrap_i64]; omega)
          have e3 : decide (E1 > E2) = false := decide_eq_false (by omega)
          have HCK := Lib.hid hck
          have e1 : (j : Int) < L.length := by omega
          have e2 : (0 : Int) ≤ j := by omega
          have e4 : IntKind.i64.wrap ((j : Int) + 1) = (j : Int) + 1 := by have := HLN.out; rw [IntKind.wrap_i64]; omega
          have HZ3 := Lib.hid z3
          clear hrt hck hq hz0 hle hz q1 q2 t1 t2 hpm hpm0 hqz hD1 hD2 hib hkn hE1 hE2 hlt hj
          go_wp2_with fail
          refine (clk_any _ (some at') A1 c0 c1 l ins z q tt HCK.out (Kd.C_below HR0.out HBwr.out) HC0.out (Kd.C_below HR1.out HBwr.out) HC1.out).mono ?_
          rintro e w8 ⟨rfl, hb⟩
          replace z3 := keepc (Nat.le_refl _) hb z3
          clear z0 z1 z2 HZ3
          have HBw8 := Lib.hid (HBwr.out.trans (hb.mono HBwr.out.size))
          have H9w8 := Lib.hid ((hb.block _ (lt_of_blk H9wr.out)).trans H9wr.out)
          have H11w8 := Lib.hid ((hb.block _ (lt_of_blk H11wr.out)).trans H11wr.out)
          have RXw8 := Lib.hid (Kd.C_below RXwr.out hb)
          have RAw8 := Lib.hid (Kd.C_below RAwr.out hb)
          clear hb H9wr H11wr RXwr RAwr
          go_upto_region 18 with (fail)
          obtain ⟨w9, hw9⟩ : ∃ V, V = w8.alloc (.cells #[.int .i64 q, .int .i64 tt] 25) := ⟨_, rfl⟩
          obtain ⟨B19, hB19⟩ : ∃ B, B = w8.heap.size := ⟨_, rfl⟩
          rw [← hw9, ← hB19]
          have hb : Below w8.heap.size w8 w9 := by rw [hw9]; exact (Below.refl _ _).alloc (Nat.le_refl _) _
          have H19w9 : Hid (w9.heap[B19]? = some (.cells #[.int .i64 q, .int .i64 tt] 25)) := Lib.hid (by rw [hw9]; exact heap_new' _ _ _ hB19)
          replace z3 := keepc (Nat.le_refl _) hb z3
          clear hw9 hB19
          have HBw9 := Lib.hid (HBw8.out.trans (hb.mono HBw8.out.size))
          have H9w9 := Lib.hid ((hb.block _ (lt_of_blk H9w8.out)).trans H9w8.out)
          have H11w9 := Lib.hid ((hb.block _ (lt_of_blk H11w8.out)).trans H11w8.out)
          have RXw9 := Lib.hid (Kd.C_below RXw8.out hb)
          have RAw9 := Lib.hid (Kd.C_below RAw8.out hb)
          clear hb H9w8 H11w8 RXw8 RAw8
          have y190 : w9.cell? ⟨B19, 0, none⟩ = some (.int .i64 q) := cell_lit (i := 0) H19w9.out
          have y191 : w9.cell? ⟨B19, 1, none⟩ = some (.int .i64 tt) := cell_lit (i := 1) H19w9.out
          have y110 : w9.cell? ⟨B11, 0, none⟩ = some (.int .i64 x.f0.f0) := cell_lit (i := 0) H11w9.out
          have y111 : w9.cell? ⟨B11, 1, none⟩ = some (.int .i64 x.f0.f1) := cell_lit (i := 1) H11w9.out
          refine wp_region_held_drew (S := (fun w' => w'.cell? ⟨B19, 0, none⟩ = some (.int .i64 q) ∧ (w'.cell? ⟨B19, 1, none⟩ = some (.int .i64 tt) ∧ (w'.cell? ⟨B11, 0, none⟩ = some (.int .i64 x.f0.f0) ∧ (w'.cell? ⟨B11, 1, none⟩ = some (.int .i64 x.f0.f1) ∧ w'.cell? ⟨(ar.add (j * 4)).block, (ar.add (j * 4)).off + 3, none⟩ = some (.int .i64 z.f3)))))) (by kernel_rfl) ?hS13 (fun hHeld => ?go13)
          case hS13 =>
            (try dsimp only)
            try go_simp
            try exact ⟨y190, y191, y110, y111, z3⟩
            try exact ⟨ext_cell y190, ext_cell y191, ext_cell y110, ext_cell y111, ext_cell z3⟩
          case go13 =>
          refine' wpAnyH_take (i := 0) (oi := ⟨_, _, _, _, _, _⟩) (v := ?v14) rfl (by kernel_rfl) (by kernel_rfl) (by kernel_rfl) (fun _ _ _ h => h) (Or.inl ⟨by rfl, ?hy14⟩) (by assumption) ?rest14
          case hy14 =>
            intro w hSw
            (try dsimp only at hSw)
            go_simp
            try (with_reducible rfl)
          case rest14 =>
          (try simp only [Act.put, List.setIfInBounds_toArray, List.set_cons_zero, List.set_cons_succ])
          refine' wpAnyH_take (i := 1) (oi := ⟨_, _, _, _, _, _⟩) (v := ?v15) rfl (by kernel_rfl) (by kernel_rfl) (by kernel_rfl) (fun _ _ _ h => h) (Or.inl ⟨by rfl, ?hy15⟩) (by assumption) ?rest15
          case hy15 =>
            intro w hSw
            (try dsimp only at hSw)
            go_simp
            try (with_reducible rfl)
          case rest15 =>
          (try simp only [Act.put, List.setIfInBounds_toArray, List.set_cons_zero, List.set_cons_succ])
          refine' wpAnyH_take (i := 2) (oi := ⟨_, _, _, _, _, _⟩) (v := ?v16) rfl (by kernel_rfl) (by kernel_rfl) (by kernel_rfl) (fun _ _ _ h => h) (Or.inl ⟨by rfl, ?hy16⟩) (by assumption) ?rest16
          case hy16 =>
            intro w hSw
            (try dsimp only at hSw)
            go_simp
            try (with_reducible rfl)
          case rest16 =>
          (try simp only [Act.put, List.setIfInBounds_toArray, List.set_cons_zero, List.set_cons_succ])
          refine' wpAnyH_take (i := 3) (oi := ⟨_, _, _, _, _, _⟩) (v := ?v17) rfl (by kernel_rfl) (by kernel_rfl) (by kernel_rfl) (fun _ _ _ h => h) (Or.inl ⟨by rfl, ?hy17⟩) (by assumption) ?rest17
          case hy17 =>
            intro w hSw
            (try dsimp only at hSw)
            go_simp
            try (with_reducible rfl)
          case rest17 =>
          (try simp only [Act.put, List.setIfInBounds_toArray, List.set_cons_zero, List.set_cons_succ])
          refine' wpAnyH_take (i := 4) (oi := ⟨_, _, _, _, _, _⟩) (v := ?v18) rfl (by kernel_rfl) (by kernel_rfl) (by kernel_rfl) (fun _ _ _ h => h) (Or.inl ⟨by rfl, ?hy18⟩) (by assumption) ?rest18
          case hy18 =>
            intro w hSw
            (try dsimp only at hSw)
            go_simp
            try (with_reducible rfl)
          case rest18 =>
          (try simp only [Act.put, List.setIfInBounds_toArray, List.set_cons_zero, List.set_cons_succ])
          refine' wpAnyH_take (i := 5) (oi := ⟨_, _, _, _, _, _⟩) (v := ?v19) rfl (by kernel_rfl) (by kernel_rfl) (by kernel_rfl) (fun _ _ _ h => h) (Or.inl ⟨by rfl, ?hy19⟩) (by assumption) ?rest19
          case hy19 =>
            intro w hSw
            (try dsimp only at hSw)
            go_simp
            try (with_reducible rfl)
          case rest19 =>
          (try simp only [Act.put, List.setIfInBounds_toArray, List.set_cons_zero, List.set_cons_succ])
          refine' wpAnyH_take (i := 6) (oi := ⟨_, _, _, _, _, _⟩) (v := ?v20) rfl (by kernel_rfl) (by kernel_rfl) (by kernel_rfl) (fun _ _ _ h => h) (Or.inl ⟨by rfl, ?hy20⟩) (by assumption) ?rest20
          case hy20 =>
            intro w hSw
            (try dsimp only at hSw)
            go_simp
            try (with_reducible rfl)
          case rest20 =>
          (try simp only [Act.put, List.setIfInBounds_toArray, List.set_cons_zero, List.set_cons_succ])
          refine' wpAnyH_take (i := 7) (oi := ⟨_, _, _, _, _, _⟩) (v := ?v21) rfl (by kernel_rfl) (by kernel_rfl) (by kernel_rfl) (fun _ _ _ h => h) (Or.inl ⟨by rfl, ?hy21⟩) (by assumption) ?rest21
          case hy21 =>
            intro w hSw
            (try dsimp only at hSw)
            go_simp
            try (with_reducible rfl)
          case rest21 =>
          (try simp only [Act.put, List.setIfInBounds_toArray, List.set_cons_zero, List.set_cons_succ])
          refine' wpAnyH_take (i := 8) (oi := ⟨_, _, _, _, _, _⟩) (v := ?v22) rfl (by kernel_rfl) (by kernel_rfl) (by kernel_rfl) (fun _ _ _ h => h) (Or.inl ⟨by rfl, ?hy22⟩) (by assumption) ?rest22
          case hy22 =>
            intro w hSw
            (try dsimp only at hSw)
            go_simp
            try (with_reducible rfl)
          case rest22 =>
          (try simp only [Act.put, List.setIfInBounds_toArray, List.set_cons_zero, List.set_cons_succ])
          refine' wpAnyH_take (i := 10) (oi := ⟨_, _, _, _, _, _⟩) (v := ?v23) rfl (by kernel_rfl) (by kernel_rfl) (by kernel_rfl) (fun _ _ _ h => h) (Or.inl ⟨by rfl, ?hy23⟩) (by assumption) ?rest23
          case hy23 =>
            intro w hSw
            (try dsimp only at hSw)
            go_simp
            try (with_reducible rfl)
          case rest23 =>
          (try simp only [Act.put, List.setIfInBounds_toArray, List.set_cons_zero, List.set_cons_succ])
          refine' wpAnyH_take (i := 11) (oi := ⟨_, _, _, _, _, _⟩) (v := ?v24) rfl (by kernel_rfl) (by kernel_rfl) (by kernel_rfl) (fun _ _ _ h => h) (Or.inl ⟨by rfl, ?hy24⟩) (by assumption) ?rest24
          case hy24 =>
            intro w hSw
            (try dsimp only at hSw)
            go_simp
            try (with_reducible rfl)
          case rest24 =>
          (try simp only [Act.put, List.setIfInBounds_toArray, List.set_cons_zero, List.set_cons_succ])
          refine' wpAnyH_take (i := 12) (oi := ⟨_, _, _, _, _, _⟩) (v := ?v25) rfl (by kernel_rfl) (by kernel_rfl) (by kernel_rfl) (fun _ _ _ h => h) (Or.inl ⟨by rfl, ?hy25⟩) (by assumption) ?rest25
          case hy25 =>
            intro w hSw
            (try dsimp only at hSw)
            go_simp
            try (with_reducible rfl)
          case rest25 =>
          (try simp only [Act.put, List.setIfInBounds_toArray, List.set_cons_zero, List.set_cons_succ])
          refine wpAnyH_ready (rs := [9]) (by kernel_rfl) (by simp) ?_
          refine (AllReadyH.cons (o := ⟨_, _, _, _, _, _⟩) rfl (fun K hK => ?_) AllReadyH.nil)
          go_simp
          (go_at_call 17; refine (rdate_c _ q tt z.f3 D1 E1 X1.out X3.out).mono ?_; rintro e wx ⟨rfl, hbx⟩; obtain ⟨X9, d9, rfl⟩ := below_ext hbx; clear hbx; go_simp)
          refine hK.out _ _ ?hS27 (fun hHeld2 => ?go27)
          case hS27 =>
            (try dsimp only)
            try go_simp
            try exact ⟨y190, y191, y110, y111, z3⟩
            try exact ⟨ext_cell y190, ext_cell y191, ext_cell y110, ext_cell y111, ext_cell z3⟩
          case go27 =>
          clear hK K
          clear hHeld
          have hHeld := hHeld2
          clear hHeld2
          (try simp only [Act.put, List.setIfInBounds_toArray, List.set_cons_zero, List.set_cons_succ])
          refine wpAnyH_ready (rs := [13]) (by kernel_rfl) (by simp) ?_
          refine (AllReadyH.cons (o := ⟨_, _, _, _, _, _⟩) rfl (fun K hK => ?_) AllReadyH.nil)
          go_simp
          (go_at_call 17; refine (rdate_c _ x.f0.f0 x.f0.f1 m D2 E2 X2.out X4.out).mono ?_; rintro e wx ⟨rfl, hbx⟩; obtain ⟨X13, d13, rfl⟩ := below_ext hbx; clear hbx; go_simp)
          refine hK.out _ _ ?hS29 (fun hHeld2 => ?go29)
          case hS29 =>
            (try dsimp only)
            try go_simp
            try exact ⟨y190, y191, y110, y111, z3⟩
            try exact ⟨ext_cell y190, ext_cell y191, ext_cell y110, ext_cell y111, ext_cell z3⟩
          case go29 =>
          clear hK K
          clear hHeld
          have hHeld := hHeld2
          clear hHeld2
          (try simp only [Act.put, List.setIfInBounds_toArray, List.set_cons_zero, List.set_cons_succ])
          refine' wpAnyH_take (i := 14) (oi := ⟨_, _, _, _, _, _⟩) (v := ?v30) rfl (by kernel_rfl) (by kernel_rfl) (by kernel_rfl) (fun _ _ _ h => h) (Or.inl ⟨by rfl, ?hy30⟩) (by assumption) ?rest30
          case hy30 =>
            intro w hSw
            (try dsimp only at hSw)
            go_simp
            try (with_reducible rfl)
          case rest30 =>
          (try simp only [Act.put, List.setIfInBounds_toArray, List.set_cons_zero, List.set_cons_succ])
          refine' wpAnyH_take (i := 15) (oi := ⟨_, _, _, _, _, _⟩) (v := ?v31) rfl (by kernel_rfl) (by kernel_rfl) (by kernel_rfl) (fun _ _ _ h => h) (Or.inl ⟨by rfl, ?hy31⟩) (by assumption) ?rest31
          case hy31 =>
            intro w hSw
            (try dsimp only at hSw)
            go_simp
            try (with_reducible rfl)
          case rest31 =>
          (try simp only [Act.put, List.setIfInBounds_toArray, List.set_cons_zero, List.set_cons_succ])
          refine wpAnyH_done (by kernel_rfl) ?_ _
          clear hHeld
          go_upto_if 127 with (fail)
          obtain ⟨w10, hw10⟩ : ∃ V, V = ext w9 (X9 ++ X13) d13 := ⟨_, rfl⟩
          rw [← hw10]
          have hb : Below w9.heap.size w9 w10 := by rw [hw10]; exact ext_below _ _ _
          clear hw10
          have HBw10 := Lib.hid (HBw9.out.trans (hb.mono HBw9.out.size))
          have H9w10 := Lib.hid ((hb.block _ (lt_of_blk H9w9.out)).trans H9w9.out)
          have H11w10 := Lib.hid ((hb.block _ (lt_of_blk H11w9.out)).trans H11w9.out)
          have H19w10 := Lib.hid ((hb.block _ (lt_of_blk H19w9.out)).trans H19w9.out)
          have RXw10 := Lib.hid (Kd.C_below RXw9.out hb)
          have RAw10 := Lib.hid (Kd.C_below RAw9.out hb)
          clear hb H9w9 H11w9 H19w9 RXw9 RAw9
          clear y190 y191 y110 y111 z3
          go_wp2_with fail
          go_roundw
          case rel => exact ⟨j + 1, by have := HLT.out; omega, by simp, HBw10, H9w10, H11w10, RXw10, RAw10⟩
          case measure => have := HLT.out; simp [RowKit.intOf]; omega
        · have e1 : ¬ ((j : Int) < L.length) := by omega
          rename World => w11
          have HBw11 := HBwr
          have H9w11 := H9wr
          have H11w11 := H11wr
          have RXw11 := RXwr
          have RAw11 := RAwr
          clear HBwr H9wr H11wr RXwr RAwr
          by_cases hmh : (m : Int) < hh
          · have e2 : decide ((m : Int) < hh) = true := decide_eq_true hmh
            clear hmh hlt hj
            go_wp2_with fail
            refine (works_any _).mono ?_
            rintro e wz ⟨rfl, hb⟩
            have HBwz := Lib.hid (HBw11.out.trans (hb.mono HBw11.out.size))
            clear hb
            go_wp2_with fail
            go_ret
            exact ⟨rfl, HBwz.out⟩
          · have e2 : decide ((m : Int) < hh) = false := decide_eq_false hmh
            obtain ⟨M2, hM2⟩ : ∃ M2, (m : Int) + LL = M2 := ⟨_, rfl⟩
            have e3 : IntKind.i64.wrap ((m : Int) + LL) = M2 := by have := HLP.out; have := HKN.out; rw [hM2, IntKind.wrap_i64]; omega
            have HM2W := Lib.hid e3
            have hM2b : 0 ≤ M2 ∧ M2 ≤ 17592186044416 + 255 := by have := HLP.out; have := HKN.out; omega
            obtain ⟨rn1, rn2, rn3, rn4⟩ := round_needs HMAY.out HOF2.out HXM.out m HKN.out.2.2 (by rw [HHH.out]; omega)
            have hrf := round_fold HOK.out m HKN.out.2.2 (by rw [HHH.out]; omega)
            rw [HLL.out, hM2] at rn1 rn3 rn4 hrf
            rw [HLL2.out] at rn2 rn4
            have HM2 := Lib.hid hM2b
            have HRN1 := Lib.hid rn1
            have HRF := Lib.hid hrf
            have HMH := Lib.hid hmh
            obtain ⟨M, hMM⟩ : ∃ M, needsL M2 x.f4 = M := ⟨_, rfl⟩
            rw [hMM] at rn3 rn4
            have HT : Hid (turnTo l ins L M H) := Lib.hid rn4
            have HMM := Lib.hid hMM
            have HLX := Lib.hid rn2
            have HLM : Hid (M.length = L.length) := Lib.hid (rn3.trans rn2.symm)
            clear hmh hlt hj hM2 hM2b rn1 rn2 rn3 rn4 hrf hMM
            have y110 : w11.cell? ⟨B11, 0, none⟩ = some (.int .i64 x.f0.f0) := cell_lit (i := 0) H11w11.out
            have y111 : w11.cell? ⟨B11, 1, none⟩ = some (.int .i64 x.f0.f1) := cell_lit (i := 1) H11w11.out
            have y112 : w11.cell? ⟨B11, 2, none⟩ = some (.int .i64 x.f1) := cell_lit (i := 2) H11w11.out
            have y113 : w11.cell? ⟨B11, 3, none⟩ = some (.int .i64 x.f2) := cell_lit (i := 3) H11w11.out
            have y114 : w11.cell? ⟨B11, 4, none⟩ = some (.int .i64 x.f3) := cell_lit (i := 4) H11w11.out
            have y115 : w11.cell? ⟨B11, 5, none⟩ = some (.slice A5 x.f4.length c5) := cell_lit (i := 5) H11w11.out
            have y116 : w11.cell? ⟨B11, 6, none⟩ = some (.int .i64 x.f5) := cell_lit (i := 6) H11w11.out
            go_wp2_with fail
            refine (Needs_any _ x M2 A5 c5 HM2.out.1 (by have := HM2.out; omega) HX32.out HRN1.out RXw11.out HXL.out).mono ?_
            rintro e w12 ⟨AM, cM, rfl, hM, hb⟩
            rw [HMM.out] at hM ⊢
            have RMw12 := Lib.hid hM
            clear hM y110 y111 y112 y113 y114 y115 y116 e1 e2 e3
            have HBw12 := Lib.hid (HBw11.out.trans (hb.mono HBw11.out.size))
            have H9w12 := Lib.hid ((hb.block _ (lt_of_blk H9w11.out)).trans H9w11.out)
            have H11w12 := Lib.hid ((hb.block _ (lt_of_blk H11w11.out)).trans H11w11.out)
            have RXw12 := Lib.hid (Kd.C_below RXw11.out hb)
            have RAw12 := Lib.hid (Kd.C_below RAw11.out hb)
            clear hb H9w11 H11w11 RXw11 RAw11
            have y110 : w12.cell? ⟨B11, 0, none⟩ = some (.int .i64 x.f0.f0) := cell_lit (i := 0) H11w12.out
            have y111 : w12.cell? ⟨B11, 1, none⟩ = some (.int .i64 x.f0.f1) := cell_lit (i := 1) H11w12.out
            have y112 : w12.cell? ⟨B11, 2, none⟩ = some (.int .i64 x.f1) := cell_lit (i := 2) H11w12.out
            have y113 : w12.cell? ⟨B11, 3, none⟩ = some (.int .i64 x.f2) := cell_lit (i := 3) H11w12.out
            have y114 : w12.cell? ⟨B11, 4, none⟩ = some (.int .i64 x.f3) := cell_lit (i := 4) H11w12.out
            have y115 : w12.cell? ⟨B11, 5, none⟩ = some (.slice A5 x.f4.length c5) := cell_lit (i := 5) H11w12.out
            have y116 : w12.cell? ⟨B11, 6, none⟩ = some (.int .i64 x.f5) := cell_lit (i := 6) H11w12.out
            have g1 : ((L.length : Int) == (M.length : Int)) = true := by rw [HLM.out]; simp
            have g2 : (L.length == M.length) = true := by rw [HLM.out]; simp
            have g3 : ((L.length : Int) == (x.f4.length : Int)) = true := by rw [HLX.out]; simp
            have g4 : (L.length == x.f4.length) = true := by rw [HLX.out]; simp
            have g5 : ((L.length : Int) != (M.length : Int)) = false := by rw [bne, g1]; rfl
            have g6 : (L.length != M.length) = false := by rw [bne, g2]; rfl
            have g7 : ((L.length : Int) != (x.f4.length : Int)) = false := by rw [bne, g3]; rfl
            have g8 : (L.length != x.f4.length) = false := by rw [bne, g4]; rfl
            go_wp2_with fail
            clear g1 g2 g3 g4 g5 g6 g7 g8 y110 y111 y112 y113 y114 y115 y116
            go_loopw [22] (fun i wr => ∃ j : Nat, j ≤ L.length ∧ i = .int .i64 j ∧ Hid (Below w.heap.size w wr) ∧ Hid (wr.heap[B9]? = some (.cells #[.int .i64 P, .int .i64 H] 23)) ∧ Hid (wr.heap[B11]? = some (.cells #[.int .i64 x.f0.f0, .int .i64 x.f0.f1, .int .i64 x.f1, .int .i64 x.f2, .int .i64 x.f3, .slice A5 x.f4.length c5, .int .i64 x.f5] 44)) ∧ Hid (Kd.C k69 wr A5 x.f4.length x.f4) ∧ Hid (Kd.C k51 wr AA L.length L) ∧ Hid (Kd.C k51 wr AM M.length M)) (fun i _ => L.length - (RowKit.intOf i).toNat)
            case atStart => exact ⟨0, Nat.zero_le _, rfl, HBw12, H9w12, H11w12, RXw12, RAw12, RMw12⟩
            case round =>
              clear HBw12 H9w12 H11w12 RXw12 RAw12 RMw12
              obtain ⟨j, hj, rfl, HBwr, H9wr, H11wr, RXwr, RAwr, RMwr⟩ := hrel
              by_cases hlt : j < L.length
              · have HLT := Lib.hid hlt
                have hlt2 : j < M.length := by rw [HLM.out]; exact hlt
                obtain ⟨ar, har, z0, z1, z2, z3⟩ := at_T51 RAwr.out j (by omega) (by omega)
                obtain ⟨am, ham, u0, u1, u2, u3⟩ := at_T51 RMwr.out j (by omega) (by omega)
                have hrt : rd_T51 L (j : Int) = L[j] := by unfold rd_T51; rw [Int.toNat_natCast]; exact getD_eq _ _ _ hlt
                have hrm : rd_T51 M (j : Int) = M[j] := by unfold rd_T51; rw [Int.toNat_natCast]; exact getD_eq _ _ _ hlt2
                rw [hrt, Int.toNat_natCast] at z0 z1 z2 z3
                rw [hrm, Int.toNat_natCast] at u0 u1 u2 u3
                obtain ⟨z, hz⟩ : ∃ z, L[j] = z := ⟨_, rfl⟩
                obtain ⟨y, hy⟩ : ∃ y, M[j] = y := ⟨_, rfl⟩
                rw [hz] at z0 z1 z2 z3
                rw [hy] at u0 u1 u2 u3
                obtain ⟨q, tt, hck, hq, hz0, hz1, hQ0, hQ1, hyz⟩ : ∃ q tt, lawCk z l ins = (q, tt, true) ∧ mayC q tt = true ∧ 0 ≤ z.f3 ∧ z.f3 ≤ 1125899906842624 ∧ 0 ≤ H / q ∧ H / q ≤ 17592186044416 ∧ y = ⟨z.f0, z.f1, z.f2, z.f3 + H / q⟩ := by rw [← hz, ← hy]; exact HT.out j hlt hlt2
                obtain ⟨Q, hQ⟩ : ∃ Q, H / q = Q := ⟨_, rfl⟩
                rw [hQ] at hQ0 hQ1 hyz
                obtain ⟨R, hR⟩ : ∃ R, z.f3 + Q = R := ⟨_, rfl⟩
                rw [hR] at hyz
                rw [hyz] at u0 u1 u2 u3
                dsimp only at u0 u1 u2 u3
                obtain ⟨q1, q2, t1, t2⟩ := mayC_spec hq
                have hib := HIB.out
                have d1 : Int.tdiv H q = Q := by rw [Int.tdiv_eq_ediv_of_nonneg (by omega)]; exact hQ
                have d2 : H / q = Q := hQ
                have d3 : ¬ (q = 0) := by omega
                have d4 : (q == 0) = false := beq_false_of_ne d3
                have d5 : (q == -1) = false := beq_false_of_ne (by omega)
                have d6 : IntKind.i64.wrap Q = Q := by rw [IntKind.wrap_i64]; omega
                have d7 : IntKind.i64.wrap (z.f3 + Q) = R := by rw [hR, IntKind.wrap_i64]; omega
                have HCK := Lib.hid hck
                have e1 : (j : Int) < L.length := by omega
                have e2 : (0 : Int) ≤ j := by omega
                have e3 : (j : Int) < M.length := by omega
                have e4 : IntKind.i64.wrap ((j : Int) + 1) = (j : Int) + 1 := by have := HLN.out; rw [IntKind.wrap_i64]; omega
                subst har
                subst ham
                have HU := Lib.hid (And.intro u0 (And.intro u1 (And.intro u2 u3)))
                have HBwk := HBwr
                have H9wk := H9wr
                have H11wk := H11wr
                have RXwk := RXwr
                have RAwk := RAwr
                have RMwk := RMwr
                clear hrt hrm hck hq hz0 hz1 hQ0 hQ1 hyz hQ hR hz hy q1 q2 t1 t2 hib hlt hlt2 hj u0 u1 u2 u3
                go_upto_region 29 with (fail)
                obtain ⟨w13, hw13⟩ : ∃ V, V = wr.alloc (.cells #[.int .u8 z.f0, .int .i64 z.f1, .int .i64 z.f2, .int .i64 z.f3] 51) := ⟨_, rfl⟩
                obtain ⟨B23, hB23⟩ : ∃ B, B = wr.heap.size := ⟨_, rfl⟩
                rw [← hw13, ← hB23]
                have hb : Below wr.heap.size wr w13 := by rw [hw13]; exact (Below.refl _ _).alloc (Nat.le_refl _) _
                have H23w13 : Hid (w13.heap[B23]? = some (.cells #[.int .u8 z.f0, .int .i64 z.f1, .int .i64 z.f2, .int .i64 z.f3] 51)) := Lib.hid (by rw [hw13]; exact heap_new' _ _ _ hB23)
                replace z0 := keepc (Nat.le_refl _) hb z0
                replace z1 := keepc (Nat.le_refl _) hb z1
                replace z2 := keepc (Nat.le_refl _) hb z2
                replace z3 := keepc (Nat.le_refl _) hb z3
                have G13 := Lib.hid hb
                have LB23 : Hid (wr.heap.size ≤ B23) := Lib.hid (by omega)
                clear hw13 hB23
                have HBw13 := Lib.hid (HBwr.out.trans (hb.mono HBwr.out.size))
                have H9w13 := Lib.hid ((hb.block _ (lt_of_blk H9wr.out)).trans H9wr.out)
                have H11w13 := Lib.hid ((hb.block _ (lt_of_blk H11wr.out)).trans H11wr.out)
                have RXw13 := Lib.hid (Kd.C_below RXwr.out hb)
                have RAw13 := Lib.hid (Kd.C_below RAwr.out hb)
                have RMw13 := Lib.hid (Kd.C_below RMwr.out hb)
                clear hb H9wr H11wr RXwr RAwr RMwr
                go_wp2_with fail
                refine (clk_any _ (some at') A1 c0 c1 l ins z q tt HCK.out (Kd.C_below HR0.out HBw13.out) HC0.out (Kd.C_below HR1.out HBw13.out) HC1.out).mono ?_
                rintro e w14 ⟨rfl, hb⟩
                have G14 := Lib.hid (G13.out.trans (hb.mono G13.out.size))
                clear z0 z1 z2 z3 G13
                have HBw14 := Lib.hid (HBw13.out.trans (hb.mono HBw13.out.size))
                have H9w14 := Lib.hid ((hb.block _ (lt_of_blk H9w13.out)).trans H9w13.out)
                have H11w14 := Lib.hid ((hb.block _ (lt_of_blk H11w13.out)).trans H11w13.out)
                have H23w14 := Lib.hid ((hb.block _ (lt_of_blk H23w13.out)).trans H23w13.out)
                have RXw14 := Lib.hid (Kd.C_below RXw13.out hb)
                have RAw14 := Lib.hid (Kd.C_below RAw13.out hb)
                have RMw14 := Lib.hid (Kd.C_below RMw13.out hb)
                clear hb H9w13 H11w13 H23w13 RXw13 RAw13 RMw13
                go_upto_region 30 with (fail)
                obtain ⟨w15, hw15⟩ : ∃ V, V = w14.alloc (.cells #[.int .i64 q, .int .i64 tt] 25) := ⟨_, rfl⟩
                obtain ⟨B24, hB24⟩ : ∃ B, B = w14.heap.size := ⟨_, rfl⟩
                rw [← hw15, ← hB24]
                have hb : Below w14.heap.size w14 w15 := by rw [hw15]; exact (Below.refl _ _).alloc (Nat.le_refl _) _
                have H24w15 : Hid (w15.heap[B24]? = some (.cells #[.int .i64 q, .int .i64 tt] 25)) := Lib.hid (by rw [hw15]; exact heap_new' _ _ _ hB24)
                have G15 := Lib.hid (G14.out.trans (hb.mono G14.out.size))
                clear G14
                clear hw15 hB24
                have HBw15 := Lib.hid (HBw14.out.trans (hb.mono HBw14.out.size))
                have H9w15 := Lib.hid ((hb.block _ (lt_of_blk H9w14.out)).trans H9w14.out)
                have H11w15 := Lib.hid ((hb.block _ (lt_of_blk H11w14.out)).trans H11w14.out)
                have H23w15 := Lib.hid ((hb.block _ (lt_of_blk H23w14.out)).trans H23w14.out)
                have RXw15 := Lib.hid (Kd.C_below RXw14.out hb)
                have RAw15 := Lib.hid (Kd.C_below RAw14.out hb)
                have RMw15 := Lib.hid (Kd.C_below RMw14.out hb)
                clear hb H9w14 H11w14 H23w14 RXw14 RAw14 RMw14
                have y230 : w15.cell? ⟨B23, 0, none⟩ = some (.int .u8 z.f0) := cell_lit (i := 0) H23w15.out
                have y231 : w15.cell? ⟨B23, 1, none⟩ = some (.int .i64 z.f1) := cell_lit (i := 1) H23w15.out
                have y232 : w15.cell? ⟨B23, 2, none⟩ = some (.int .i64 z.f2) := cell_lit (i := 2) H23w15.out
                have y233 : w15.cell? ⟨B23, 3, none⟩ = some (.int .i64 z.f3) := cell_lit (i := 3) H23w15.out
                have y240 : w15.cell? ⟨B24, 0, none⟩ = some (.int .i64 q) := cell_lit (i := 0) H24w15.out
                have y91 : w15.cell? ⟨B9, 1, none⟩ = some (.int .i64 H) := cell_lit (i := 1) H9w15.out
                have f23 : ∀ o, w15.frozen? ⟨B23, o, none⟩ = false := fun o => by simp [World.frozen?, H23w15.out]
                have b23 := lt_of_blk H23w15.out
                refine wp_region_held_drew (S := (fun w' => w'.cell? ⟨B9, 1, none⟩ = some (.int .i64 H) ∧ w'.cell? ⟨B24, 0, none⟩ = some (.int .i64 q))) (by kernel_rfl) ?hS32 (fun hHeld => ?go32)
                case hS32 =>
                  (try dsimp only)
                  try go_simp
                  try exact ⟨y91, y240⟩
                  try exact ⟨ext_cell y91, ext_cell y240⟩
                case go32 =>
                refine' wpAnyH_take (i := 0) (oi := ⟨_, _, _, _, _, _⟩) (v := ?v33) rfl (by kernel_rfl) (by kernel_rfl) (by kernel_rfl) (fun _ _ _ h => h) (Or.inl ⟨by rfl, ?hy33⟩) (by assumption) ?rest33
                case hy33 =>
                  intro w hSw
                  (try dsimp only at hSw)
                  go_simp
                  try (with_reducible rfl)
                case rest33 =>
                (try simp only [Act.put, List.setIfInBounds_toArray, List.set_cons_zero, List.set_cons_succ])
                refine' wpAnyH_take (i := 2) (oi := ⟨_, _, _, _, _, _⟩) (v := ?v34) rfl (by kernel_rfl) (by kernel_rfl) (by kernel_rfl) (fun _ _ _ h => h) (Or.inl ⟨by rfl, ?hy34⟩) (by assumption) ?rest34
                case hy34 =>
                  intro w hSw
                  (try dsimp only at hSw)
                  go_simp
                  try (with_reducible rfl)
                case rest34 =>
                (try simp only [Act.put, List.setIfInBounds_toArray, List.set_cons_zero, List.set_cons_succ])
                refine' wpAnyH_take (i := 3) (oi := ⟨_, _, _, _, _, _⟩) (v := ?v35) rfl (by kernel_rfl) (by kernel_rfl) (by kernel_rfl) (fun _ _ _ h => h) (Or.inl ⟨by rfl, ?hy35⟩) (by assumption) ?rest35
                case hy35 =>
                  intro w hSw
                  (try dsimp only at hSw)
                  go_simp
                  try (with_reducible rfl)
                case rest35 =>
                (try simp only [Act.put, List.setIfInBounds_toArray, List.set_cons_zero, List.set_cons_succ])
                refine' wpAnyH_take (i := 4) (oi := ⟨_, _, _, _, _, _⟩) (v := ?v36) rfl (by kernel_rfl) (by kernel_rfl) (by kernel_rfl) (fun _ _ _ h => h) (Or.inl ⟨by rfl, ?hy36⟩) (by assumption) ?rest36
                case hy36 =>
                  intro w hSw
                  (try dsimp only at hSw)
                  go_simp
                  try (with_reducible rfl)
                case rest36 =>
                (try simp only [Act.put, List.setIfInBounds_toArray, List.set_cons_zero, List.set_cons_succ])
                refine' wpAnyH_take (i := 5) (oi := ⟨_, _, _, _, _, _⟩) (v := ?v37) rfl (by kernel_rfl) (by kernel_rfl) (by kernel_rfl) (fun _ _ _ h => h) (Or.inl ⟨by rfl, ?hy37⟩) (by assumption) ?rest37
                case hy37 =>
                  intro w hSw
                  (try dsimp only at hSw)
                  go_simp
                  try (with_reducible rfl)
                case rest37 =>
                (try simp only [Act.put, List.setIfInBounds_toArray, List.set_cons_zero, List.set_cons_succ])
                refine' wpAnyH_take (i := 6) (oi := ⟨_, _, _, _, _, _⟩) (v := ?v38) rfl (by kernel_rfl) (by kernel_rfl) (by kernel_rfl) (fun _ _ _ h => h) (Or.inl ⟨by rfl, ?hy38⟩) (by assumption) ?rest38
                case hy38 =>
                  intro w hSw
                  (try dsimp only at hSw)
                  go_simp
                  try (with_reducible rfl)
                case rest38 =>
                (try simp only [Act.put, List.setIfInBounds_toArray, List.set_cons_zero, List.set_cons_succ])
                refine wpAnyH_ready (rs := [1]) (by kernel_rfl) (by simp) ?_
                refine (AllReadyH.cons (o := ⟨_, _, _, _, _, _⟩) rfl (fun K hK => ?_) AllReadyH.nil)
                go_simp
                refine hK.out _ _ ?hS40 (fun hHeld2 => ?go40)
                case hS40 =>
                  (try dsimp only)
                  try go_simp
                  try exact ⟨y91, y240⟩
                  try exact ⟨ext_cell y91, ext_cell y240⟩
                case go40 =>
                clear hK K
                clear hHeld
                have hHeld := hHeld2
                clear hHeld2
                (try simp only [Act.put, List.setIfInBounds_toArray, List.set_cons_zero, List.set_cons_succ])
                refine' wpAnyH_take (i := 7) (oi := ⟨_, _, _, _, _, _⟩) (v := ?v41) rfl (by kernel_rfl) (by kernel_rfl) (by kernel_rfl) (fun _ _ _ h => h) (Or.inl ⟨by rfl, ?hy41⟩) (by assumption) ?rest41
                case hy41 =>
                  intro w hSw
                  (try dsimp only at hSw)
                  go_simp
                  try (with_reducible rfl)
                case rest41 =>
                (try simp only [Act.put, List.setIfInBounds_toArray, List.set_cons_zero, List.set_cons_succ])
                refine' wpAnyH_take (i := 8) (oi := ⟨_, _, _, _, _, _⟩) (v := ?v42) rfl (by kernel_rfl) (by kernel_rfl) (by kernel_rfl) (fun _ _ _ h => h) (Or.inl ⟨by rfl, ?hy42⟩) (by assumption) ?rest42
                case hy42 =>
                  intro w hSw
                  (try dsimp only at hSw)
                  go_simp
                  try (with_reducible rfl)
                case rest42 =>
                (try simp only [Act.put, List.setIfInBounds_toArray, List.set_cons_zero, List.set_cons_succ])
                refine wpAnyH_ready (rs := [9]) (by kernel_rfl) (by simp) ?_
                refine (AllReadyH.cons (o := ⟨_, _, _, _, _, _⟩) rfl (fun K hK => ?_) AllReadyH.nil)
                go_simp
                refine hK.out _ _ ?hS44 (fun hHeld2 => ?go44)
                case hS44 =>
                  (try dsimp only)
                  try go_simp
                  try exact ⟨y91, y240⟩
                  try exact ⟨ext_cell y91, ext_cell y240⟩
                case go44 =>
                clear hK K
                clear hHeld
                have hHeld := hHeld2
                clear hHeld2
                (try simp only [Act.put, List.setIfInBounds_toArray, List.set_cons_zero, List.set_cons_succ])
                refine wpAnyH_done (by kernel_rfl) ?_ _
                clear hHeld y91 y240
                go_upto_region 31 with (fail)
                obtain ⟨w16, hw16⟩ : ∃ V, V = (w15.setCell ⟨B23, 3, none⟩ (.int .i64 R)).drew := ⟨_, rfl⟩
                rw [← hw16]
                have hb : Below wr.heap.size wr w16 := by rw [hw16]; exact (below_set G15.out LB23.out).drew
                have H23 : Hid (w16.heap[B23]? = some (.cells #[.int .u8 z.f0, .int .i64 z.f1, .int .i64 z.f2, .int .i64 R] 51)) := Lib.hid (by rw [hw16]; exact set_s3 H23w15.out _)
                have u0 := keepc (Nat.le_refl _) hb HU.out.1
                have u1 := keepc (Nat.le_refl _) hb HU.out.2.1
                have u2 := keepc (Nat.le_refl _) hb HU.out.2.2.1
                have u3 := keepc (Nat.le_refl _) hb HU.out.2.2.2
                clear hw16 y230 y231 y232 y233 f23 b23 H23w15 H24w15 H9w15 H11w15 RXw15 RAw15 RMw15 HBw15 HBw14 HBw13 G15
                have HBw16 := Lib.hid (HBwk.out.trans (hb.mono HBwk.out.size))
                have H9w16 := Lib.hid ((hb.block _ (lt_of_blk H9wk.out)).trans H9wk.out)
                have H11w16 := Lib.hid ((hb.block _ (lt_of_blk H11wk.out)).trans H11wk.out)
                have RXw16 := Lib.hid (Kd.C_below RXwk.out hb)
                have RAw16 := Lib.hid (Kd.C_below RAwk.out hb)
                have RMw16 := Lib.hid (Kd.C_below RMwk.out hb)
                clear hb H9wk H11wk RXwk RAwk RMwk
                have y230 : w16.cell? ⟨B23, 0, none⟩ = some (.int .u8 z.f0) := cell_lit (i := 0) H23.out
                have y231 : w16.cell? ⟨B23, 1, none⟩ = some (.int .i64 z.f1) := cell_lit (i := 1) H23.out
                have y232 : w16.cell? ⟨B23, 2, none⟩ = some (.int .i64 z.f2) := cell_lit (i := 2) H23.out
                have y233 : w16.cell? ⟨B23, 3, none⟩ = some (.int .i64 R) := cell_lit (i := 3) H23.out
                go_quiet (fail)
                clear y230 y231 y232 y233 u0 u1 u2 u3
                go_upto_if 191 with (fail)
                obtain ⟨w17, hw17⟩ : ∃ V, V = w16.drewN nq := ⟨_, rfl⟩
                rw [← hw17]
                have hb : Below w16.heap.size w16 w17 := by rw [hw17]; exact below_drewN (Below.refl _ _) _
                clear hw17
                have HBw17 := Lib.hid (HBw16.out.trans (hb.mono HBw16.out.size))
                have H9w17 := Lib.hid ((hb.block _ (lt_of_blk H9w16.out)).trans H9w16.out)
                have H11w17 := Lib.hid ((hb.block _ (lt_of_blk H11w16.out)).trans H11w16.out)
                have RXw17 := Lib.hid (Kd.C_below RXw16.out hb)
                have RAw17 := Lib.hid (Kd.C_below RAw16.out hb)
                have RMw17 := Lib.hid (Kd.C_below RMw16.out hb)
                clear hb H9w16 H11w16 RXw16 RAw16 RMw16
                go_wp2_with fail
                go_roundw
                case rel => exact ⟨j + 1, by have := HLT.out; omega, by simp, HBw17, H9w17, H11w17, RXw17, RAw17, RMw17⟩
                case measure => have := HLT.out; simp [RowKit.intOf]; omega
              · have e1 : ¬ ((j : Int) < L.length) := by omega
                rename World => w18
                have HBw18 := HBwr
                have H9w18 := H9wr
                have H11w18 := H11wr
                have RXw18 := RXwr
                have RAw18 := RAwr
                have RMw18 := RMwr
                clear HBwr H9wr H11wr RXwr RAwr RMwr hlt hj
                have f9 := HRF.out
                obtain ⟨fn, hfn⟩ : ∃ v, foldN P H x.f0.f0 x.f0.f1 m = v := ⟨_, rfl⟩
                obtain ⟨fa, hfa⟩ : ∃ v, foldM P H x.f0.f0 x.f0.f1 m = v := ⟨_, rfl⟩
                obtain ⟨fb, hfb⟩ : ∃ v, foldM P H x.f0.f0 x.f0.f1 M2 = v := ⟨_, rfl⟩
                rw [hfn, hfa, hfb] at f9
                have HF := Lib.hid (And.intro hfn (And.intro hfa (And.intro hfb f9)))
                clear hfn hfa hfb f9
                have y90 : w18.cell? ⟨B9, 0, none⟩ = some (.int .i64 P) := cell_lit (i := 0) H9w18.out
                have y91 : w18.cell? ⟨B9, 1, none⟩ = some (.int .i64 H) := cell_lit (i := 1) H9w18.out
                have y110 : w18.cell? ⟨B11, 0, none⟩ = some (.int .i64 x.f0.f0) := cell_lit (i := 0) H11w18.out
                have y111 : w18.cell? ⟨B11, 1, none⟩ = some (.int .i64 x.f0.f1) := cell_lit (i := 1) H11w18.out
                have e3 : IntKind.i64.wrap ((m : Int) + LL) = M2 := HM2W.out
                go_wp2_with fail
                refine (fold_any _ P H x.f0.f0 x.f0.f1 M2 (by have := HIB.out; omega) (by have := HIB.out; omega) (by have := HIB.out; omega) (by have := HIB.out; omega) (by have := HIB.out; omega) (by have := HIB.out; omega) (by have := HIB.out; omega) (by have := HIB.out; omega) (by have := HM2.out; omega) (by have := HM2.out; omega)).mono ?_
                rintro e w19 ⟨rfl, hb⟩
                rw [HF.out.2.2.2.2.1, HF.out.2.2.2.2.2.1, HF.out.2.2.1]
                clear y90 y91 y110 y111 e3
                have HBw19 := Lib.hid (HBw18.out.trans (hb.mono HBw18.out.size))
                have H9w19 := Lib.hid ((hb.block _ (lt_of_blk H9w18.out)).trans H9w18.out)
                have H11w19 := Lib.hid ((hb.block _ (lt_of_blk H11w18.out)).trans H11w18.out)
                have RXw19 := Lib.hid (Kd.C_below RXw18.out hb)
                have RAw19 := Lib.hid (Kd.C_below RAw18.out hb)
                have RMw19 := Lib.hid (Kd.C_below RMw18.out hb)
                clear hb H9w18 H11w18 RXw18 RAw18 RMw18
                have y90 : w19.cell? ⟨B9, 0, none⟩ = some (.int .i64 P) := cell_lit (i := 0) H9w19.out
                have y91 : w19.cell? ⟨B9, 1, none⟩ = some (.int .i64 H) := cell_lit (i := 1) H9w19.out
                have y110 : w19.cell? ⟨B11, 0, none⟩ = some (.int .i64 x.f0.f0) := cell_lit (i := 0) H11w19.out
                have y111 : w19.cell? ⟨B11, 1, none⟩ = some (.int .i64 x.f0.f1) := cell_lit (i := 1) H11w19.out
                go_wp2_with fail
                refine (fold_any _ P H x.f0.f0 x.f0.f1 m (by have := HIB.out; omega) (by have := HIB.out; omega) (by have := HIB.out; omega) (by have := HIB.out; omega) (by have := HIB.out; omega) (by have := HIB.out; omega) (by have := HIB.out; omega) (by have := HIB.out; omega) (by omega) (by have := HKN.out; omega)).mono ?_
                rintro e w20 ⟨rfl, hb⟩
                rw [HF.out.2.2.2.1, HF.out.1, HF.out.2.1]
                clear y90 y91 y110 y111
                have HBw20 := Lib.hid (HBw19.out.trans (hb.mono HBw19.out.size))
                have H9w20 := Lib.hid ((hb.block _ (lt_of_blk H9w19.out)).trans H9w19.out)
                have H11w20 := Lib.hid ((hb.block _ (lt_of_blk H11w19.out)).trans H11w19.out)
                have RXw20 := Lib.hid (Kd.C_below RXw19.out hb)
                have RAw20 := Lib.hid (Kd.C_below RAw19.out hb)
                have RMw20 := Lib.hid (Kd.C_below RMw19.out hb)
                clear hb H9w19 H11w19 RXw19 RAw19 RMw19
                have y91 : w20.cell? ⟨B9, 1, none⟩ = some (.int .i64 H) := cell_lit (i := 1) H9w20.out
                have e5 : IntKind.i64.wrap (fa + H) = fb := by rw [← wrap64_is]; exact HF.out.2.2.2.2.2.2
                go_wp2_with fail
                refine (works_any _).mono ?_
                rintro e wz ⟨rfl, hb⟩
                have HBwz := Lib.hid (HBw20.out.trans (hb.mono HBw20.out.size))
                clear hb
                go_wp2_with fail
                go_ret
                exact ⟨rfl, HBwz.out⟩
    · have e1 : (E == 0) = false := beq_false_of_ne hE
      have e5 : (E != 0) = true := by rw [bne, e1]; rfl
      go_wp2_with fail
      refine (works_any _).mono ?_
      rintro e wz ⟨rfl, hb⟩
      have HBwz := Lib.hid (HBw3.out.trans (hb.mono HBw3.out.size))
      clear hb
      go_wp2_with fail
      go_ret
      exact ⟨rfl, HBwz.out⟩
end Go.Proofs.Ytkabmpbfabgkfaa
