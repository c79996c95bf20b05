/-
  carillonref14.mayRead.
  Conditions: the rows lie in memory; their numbers are int64s.
-/
import Derived.Test.YtkabmpbfabgkfaaLq
import Derived.Test.YtkabmpbfabgkfaaOc
import Derived.Test.YtkabmpbfabgkfaaAx
import Derived.Test.YtkabmpbfabgkfaaRe
import Derived.Test.YtkabmpbfabgkfaaRq
import Derived.Test.YtkabmpbfabgkfaaUs
import Derived.WalkKit
import Derived.WalkSpells
import Derived.WalkLawsBesides
import Derived.Deep.QuietTactic
import Derived.BigQuiet
import Derived.Lib.Hide
import Derived.Handy
import Derived.Deep.AppendLies
import Derived.Maps.AppendAt
import Derived.OwnWalk
import Derived.Lib.LazyBuf
import Derived.Deep.DeepCutAuto
import Derived.Deep.RegionLaw
import Derived.Deep.RegionHeld3
import Derived.Deep.RegionWith
import Derived.BigRegion
import Derived.Deep.CutBlock
import Derived.LoopN
import Derived.Test.YtkabmpbfabgkfaaOa
import Derived.Deep.CutRange
set_option linter.unusedVariables false
set_option linter.unusedSimpArgs false
namespace Go.Proofs.Ytkabmpbfabgkfaa
open Go.RowKit 
open Big
attribute [local go_sem] setCell_drewN alloc_drewN size_ext ext_ext ext_drewN ext_drew drewN_ext drew_ext cell?_ext frozen?_ext setCell_ext cell?_past1 frozen?_past1 setCell_past1 cell?_past2 frozen?_past2 setCell_past2 cell?_past3 frozen?_past3 setCell_past3 cell?_past4 frozen?_past4 setCell_past4 cell?_past5 frozen?_past5 setCell_past5 cell?_past6 frozen?_past6 setCell_past6 cell?_past7 frozen?_past7 setCell_past7 cell?_past8 frozen?_past8 setCell_past8
open Go.Proofs.Ytkabmpbfabgkfaa.P Go.Proofs.YtkabmpbfabgkfaaW.PrintWords Go.Proofs.YtkabmpbfabgkfaaW.PrintLast Go.Proofs.YtkabmpbfabgkfaaW.PrintMore
open Go.Shelf Go.Lib Go.Sort
theorem two_boxes (w : World) (o1 o2 : Obj) : Below w.heap.size w ((w.alloc o1).alloc o2) ∧ ((w.alloc o1).alloc o2).heap[w.heap.size]? = some o1 ∧ ((w.alloc o1).alloc o2).heap[w.heap.size + 1]? = some o2 := by
  have e : ((w.alloc o1).alloc o2).heap = (w.heap.push o1).push o2 := rfl
  refine ⟨((Below.refl _ w).alloc (Nat.le_refl _) _).alloc (by show w.heap.size ≤ (w.heap.push o1).size; rw [Array.size_push]; omega) _, ?_, ?_⟩
  · rw [e, Array.getElem?_push_lt (by rw [Array.size_push]; omega), Array.getElem_push_eq]
  · rw [e, show w.heap.size + 1 = (w.heap.push o1).size by rw [Array.size_push]]
    simp only [Array.getElem?_push_size]
theorem rmul_z (w : World) (st : Int) (h0 : -9223372036854775808 ≤ st) (h1 : st ≤ 9223372036854775807) : Calls Try.prog 52 #[.int .i64 st, .int .i64 0] w fun e w' => e = .returned (.tuple #[.int .i64 0, .bool true]) ∧ Below w.heap.size w w' := by
  have := ref_mul st 0 w h0 h1 (by decide) (by decide)
  rw [Int.mul_zero, show fitV 0 = 0 by decide, show fitB 0 = true by decide] at this
  exact this
theorem radd_z (w : World) (a : Int) (h0 : -9223372036854775808 ≤ a) (h1 : a ≤ 9223372036854775807) : Calls Try.prog 54 #[.int .i64 a, .int .i64 0] w fun e w' => e = .returned (.tuple #[.int .i64 a, .bool true]) ∧ Below w.heap.size w w' := by
  have := ref_add a 0 w h0 h1 (by decide) (by decide)
  rw [Int.add_zero, (fitB_of h0 h1).1, (fitB_of h0 h1).2] at this
  exact this
set_option maxRecDepth 100000 in
set_option maxHeartbeats 4000000 in
theorem rAt_head (w : World) (A0 A1 : Option Addr) (c0 c1 : Nat) (h l : List S79) (st : Int) (n : Nat) (hn : n < h.length) (hr0 : Kd.C k79 w A0 h.length h) :
    Calls Try.prog 53 #[.agg #[.slice A0 h.length c0, .slice A1 l.length c1, .int .i64 st], .int .i64 n] w fun e w' => e = .returned (.tuple #[.agg #[.bool (rd_T79 h (n : Int)).f0, .int .i64 (rd_T79 h (n : Int)).f1, .int .i64 (rd_T79 h (n : Int)).f2], .int .i64 0]) ∧ Below w.heap.size w w' := by
  obtain ⟨ad, hA, s0, s1, s2⟩ := at_T79 hr0 n (by omega) (by omega)
  rw [Int.toNat_natCast] at s0 s1 s2
  subst hA
  generalize rd_T79 h (n : Int) = x at *
  have S0 := Lib.hid s0
  have S1 := Lib.hid s1
  have S2 := Lib.hid s2
  have HN := Lib.hid hn
  clear s0 s1 s2 hr0 hn
  go_enter Try.func53, Try.ntmps53
  go_upto_region 1 with (fail)
  obtain ⟨B, hB⟩ : ∃ B, B = w.heap.size := ⟨_, rfl⟩
  obtain ⟨B4, hB4⟩ : ∃ B4, B4 = B + 1 := ⟨_, rfl⟩
  obtain ⟨V, hV⟩ : ∃ V, V = (w.alloc (.cells #[.slice (some ad) h.length c0, .slice A1 l.length c1, .int .i64 st] 67)).alloc (.cells #[.bool false, .int .i64 0, .int .i64 0] 79) := ⟨_, rfl⟩
  rw [← hV, ← hB, ← hB4]
  obtain ⟨hb0, h2, h4⟩ := two_boxes w (.cells #[.slice (some ad) h.length c0, .slice A1 l.length c1, .int .i64 st] 67) (.cells #[.bool false, .int .i64 0, .int .i64 0] 79)
  rw [← hV] at hb0 h2 h4
  rw [← hB] at h2 h4
  rw [← hB4] at h4
  have HBV := Lib.hid hb0
  have H2 := Lib.hid h2
  have H4 := Lib.hid h4
  have LB4 : Hid (w.heap.size ≤ B4) := Lib.hid (by omega)
  have N24 : Hid (B ≠ B4) := Lib.hid (by omega)
  clear hb0 h2 h4 hV hB hB4
  have y0 : V.cell? ⟨B, 0, none⟩ = some (.slice (some ad) h.length c0) := cell_lit (i := 0) H2.out
  have y1 : V.cell? ⟨B, 1, none⟩ = some (.slice A1 l.length c1) := cell_lit (i := 1) H2.out
  have y2 : V.cell? ⟨B, 2, none⟩ = some (.int .i64 st) := cell_lit (i := 2) H2.out
  have c40 : V.cell? ⟨B4, 0, none⟩ = some (.bool false) := cell_lit (i := 0) H4.out
  have c41 : V.cell? ⟨B4, 1, none⟩ = some (.int .i64 0) := cell_lit (i := 1) H4.out
  have c42 : V.cell? ⟨B4, 2, none⟩ = some (.int .i64 0) := cell_lit (i := 2) H4.out
  have f4 : ∀ o, V.frozen? ⟨B4, o, none⟩ = false := fun o => by simp [World.frozen?, H4.out]
  have z0 := keepc (Nat.le_refl _) HBV.out S0.out
  have z1 := keepc (Nat.le_refl _) HBV.out S1.out
  have z2 := keepc (Nat.le_refl _) HBV.out S2.out
  have e1 : (n : Int) < h.length := by have := HN.out; omega
  have e1' : decide ((n : Int) < h.length) = true := decide_eq_true e1
  have e2 : (0 : Int) ≤ n := by omega
  go_wp2_with fail
  refine bodyPost_ret (v := .tuple #[.agg #[.bool x.f0, .int .i64 x.f1, .int .i64 x.f2], .int .i64 0]) (by simp [results, Try.results53, go_sem, *]) rfl ⟨rfl, ?_⟩
  exact below_set (below_set (below_set HBV.out LB4.out) LB4.out) LB4.out
set_option maxRecDepth 100000 in
set_option maxHeartbeats 8000000 in
theorem rAt_loop (w : World) (A0 A1 : Option Addr) (c0 c1 : Nat) (h l : List S79) (st N : Int) (i : Nat) (hi : i < l.length) (hN : N = (h.length : Int) + i) (hh : h.length ≤ 4096) (hl : l.length ≤ 4096) (hs0 : 0 ≤ st) (hs1 : st ≤ 1099511627776) (hx0 : 0 ≤ (rd_T79 l (i : Int)).f2) (hx1 : (rd_T79 l (i : Int)).f2 ≤ 1125899906842624) (hr1 : Kd.C k79 w A1 l.length l) :
    Calls Try.prog 53 #[.agg #[.slice A0 h.length c0, .slice A1 l.length c1, .int .i64 st], .int .i64 N] w fun e w' => e = .returned (.tuple #[.agg #[.bool (rd_T79 l (i : Int)).f0, .int .i64 (rd_T79 l (i : Int)).f1, .int .i64 (rd_T79 l (i : Int)).f2], .int .i64 0]) ∧ Below w.heap.size w w' := by
  obtain ⟨ad, hA, s0, s1, s2⟩ := at_T79 hr1 i (by omega) (by omega)
  rw [Int.toNat_natCast] at s0 s1 s2
  subst hA
  generalize rd_T79 l (i : Int) = x at *
  have S0 := Lib.hid s0
  have S1 := Lib.hid s1
  have S2 := Lib.hid s2
  have HI := Lib.hid (And.intro hi (And.intro hN (And.intro hh (And.intro hl (And.intro hs0 (And.intro hs1 (And.intro hx0 hx1)))))))
  clear s0 s1 s2 hr1 hi hN hh hl hs0 hs1 hx0 hx1
  have e1' : decide (N < h.length) = false := decide_eq_false (by have := HI.out; omega)
  have e1 : ¬ (N < h.length) := by have := HI.out; omega
  have e6 : IntKind.i64.wrap (N - h.length) = (i : Int) := by have := HI.out; rw [IntKind.wrap_i64]; omega
  have e7 : Int.tmod (i : Int) (l.length : Int) = (i : Int) := Int.tmod_eq_of_lt (by omega) (by have := HI.out; omega)
  have e8 : Int.tdiv (i : Int) (l.length : Int) = 0 := Int.tdiv_eq_zero_of_lt (by omega) (by have := HI.out; omega)
  have e9 : ((i : Int) % (l.length : Int)) = (i : Int) := Int.emod_eq_of_lt (by omega) (by have := HI.out; omega)
  have e10 : ((i : Int) / (l.length : Int)) = 0 := Int.ediv_eq_zero_of_lt (by omega) (by have := HI.out; omega)
  have e11 : (0 : Int) ≤ i := by omega
  have e12 : (i : Int) < l.length := by have := HI.out; omega
  have e13 : ¬ ((l.length : Int) = 0) := by have := HI.out; omega
  have e14 : ((l.length : Int) == 0) = false := beq_false_of_ne e13
  have e15 : ((l.length : Int) == -1) = false := beq_false_of_ne (by omega)
  have e16 : ¬ (l.length = 0) := by have := HI.out; omega
  have e18 : IntKind.i64.wrap (i : Int) = (i : Int) := by have := HI.out; rw [IntKind.wrap_i64]; omega
  go_enter Try.func53, Try.ntmps53
  go_upto_region 1 with (fail)
  obtain ⟨B, hB⟩ : ∃ B, B = w.heap.size := ⟨_, rfl⟩
  obtain ⟨B4, hB4⟩ : ∃ B4, B4 = B + 1 := ⟨_, rfl⟩
  obtain ⟨V, hV⟩ : ∃ V, V = (w.alloc (.cells #[.slice A0 h.length c0, .slice (some ad) l.length c1, .int .i64 st] 67)).alloc (.cells #[.bool false, .int .i64 0, .int .i64 0] 79) := ⟨_, rfl⟩
  rw [← hV, ← hB, ← hB4]
  obtain ⟨hb0, h2, h4⟩ := two_boxes w (.cells #[.slice A0 h.length c0, .slice (some ad) l.length c1, .int .i64 st] 67) (.cells #[.bool false, .int .i64 0, .int .i64 0] 79)
  rw [← hV] at hb0 h2 h4
  rw [← hB] at h2 h4
  rw [← hB4] at h4
  have HBV := Lib.hid hb0
  have H2 := Lib.hid h2
  have H4 := Lib.hid h4
  have LB4 : Hid (w.heap.size ≤ B4) := Lib.hid (by omega)
  have N24 : Hid (B ≠ B4) := Lib.hid (by omega)
  clear hb0 h2 h4 hV hB hB4
  have y0 : V.cell? ⟨B, 0, none⟩ = some (.slice A0 h.length c0) := cell_lit (i := 0) H2.out
  have y1 : V.cell? ⟨B, 1, none⟩ = some (.slice (some ad) l.length c1) := cell_lit (i := 1) H2.out
  have y2 : V.cell? ⟨B, 2, none⟩ = some (.int .i64 st) := cell_lit (i := 2) H2.out
  have c40 : V.cell? ⟨B4, 0, none⟩ = some (.bool false) := cell_lit (i := 0) H4.out
  have c41 : V.cell? ⟨B4, 1, none⟩ = some (.int .i64 0) := cell_lit (i := 1) H4.out
  have c42 : V.cell? ⟨B4, 2, none⟩ = some (.int .i64 0) := cell_lit (i := 2) H4.out
  have f4 : ∀ o, V.frozen? ⟨B4, o, none⟩ = false := fun o => by simp [World.frozen?, H4.out]
  have z0 := keepc (Nat.le_refl _) HBV.out S0.out
  have z1 := keepc (Nat.le_refl _) HBV.out S1.out
  have z2 := keepc (Nat.le_refl _) HBV.out S2.out
  have hBs := lt_of_blk H2.out
  have hB4s := lt_of_blk H4.out
  have hadV : (ad.add (i * 3)).block < V.heap.size := World.block_lt_of_cell? _ _ z0
  go_upto_region 5 with (fail)
  go_region_held3 (fun W => W.cell? ⟨B, 1, none⟩ = some (.slice (some ad) l.length c1) ∧ (W.cell? (ad.add (i * 3)) = some (.bool x.f0) ∧ (W.cell? ⟨(ad.add (i * 3)).block, (ad.add (i * 3)).off + 1, none⟩ = some (.int .i64 x.f1) ∧ W.cell? ⟨(ad.add (i * 3)).block, (ad.add (i * 3)).off + 2, none⟩ = some (.int .i64 x.f2)))) (go_simp) (fail)
  rename_i hHeld
  clear hHeld
  go_upto_region 6 with (fail)
  obtain ⟨U, hU⟩ : ∃ U, U = (V.alloc (.cells #[.bool x.f0, .int .i64 x.f1, .int .i64 x.f2] 79)).drew := ⟨_, rfl⟩
  obtain ⟨B8, hB8⟩ : ∃ B8, B8 = V.heap.size := ⟨_, rfl⟩
  rw [← hU, ← hB8]
  have hbU : Below V.heap.size V U := by rw [hU]; exact ((Below.refl _ _).alloc (Nat.le_refl _) _).drew
  have H8 : Hid (U.heap[B8]? = some (.cells #[.bool x.f0, .int .i64 x.f1, .int .i64 x.f2] 79)) := Lib.hid (by rw [hU]; exact heap_new' _ _ _ hB8)
  have HBU := Lib.hid (HBV.out.trans (hbU.mono HBV.out.size))
  have H2U := Lib.hid ((hbU.block _ hBs).trans H2.out)
  have H4U := Lib.hid ((hbU.block _ hB4s).trans H4.out)
  have N48 : Hid (B4 ≠ B8) := Lib.hid (by omega)
  have LB8 : Hid (w.heap.size ≤ B8) := Lib.hid (by have := HBV.out.size; omega)
  clear hbU hU hB8 H2 H4 hBs hB4s hadV z0 z1 z2 c40 c41 c42 f4 y0 y1 y2
  have y2 : U.cell? ⟨B, 2, none⟩ = some (.int .i64 st) := cell_lit (i := 2) H2U.out
  have hBs := lt_of_blk H2U.out
  go_region_held3 (fun W => W.cell? ⟨B, 2, none⟩ = some (.int .i64 st)) (go_simp) ((go_at_call 52; refine (rmul_z _ st (by have := HI.out; omega) (by have := HI.out; omega)).mono ?_; rintro e wx ⟨rfl, hbx⟩; obtain ⟨X6, d6, rfl⟩ := below_ext hbx; clear hbx; go_simp))
  rename_i hHeld
  clear hHeld
  go_upto_region 9 with (fail)
  obtain ⟨U2, hU2⟩ : ∃ U2, U2 = ext U X6 d6 := ⟨_, rfl⟩
  rw [← hU2]
  have hb2 : Below U.heap.size U U2 := by rw [hU2]; exact ext_below _ _ _
  have HB2 := Lib.hid (HBU.out.trans (hb2.mono HBU.out.size))
  have H42 := Lib.hid ((hb2.block _ (lt_of_blk H4U.out)).trans H4U.out)
  have H82 := Lib.hid ((hb2.block _ (lt_of_blk H8.out)).trans H8.out)
  clear hb2 hU2 y2 hBs H2U H4U H8 HBU
  have z2 : U2.cell? ⟨B8, 2, none⟩ = some (.int .i64 x.f2) := cell_lit (i := 2) H82.out
  go_wp2_with fail
  refine (radd_z _ x.f2 (by have := HI.out; omega) (by have := HI.out; omega)).mono ?_
  rintro e U3 ⟨rfl, hb3⟩
  have HB3 := Lib.hid (HB2.out.trans (hb3.mono HB2.out.size))
  have H43 := Lib.hid ((hb3.block _ (lt_of_blk H42.out)).trans H42.out)
  have H83 := Lib.hid ((hb3.block _ (lt_of_blk H82.out)).trans H82.out)
  clear hb3 z2 H42 H82 HB2
  have z0 : U3.cell? ⟨B8, 0, none⟩ = some (.bool x.f0) := cell_lit (i := 0) H83.out
  have z1 : U3.cell? ⟨B8, 1, none⟩ = some (.int .i64 x.f1) := cell_lit (i := 1) H83.out
  have z2 : U3.cell? ⟨B8, 2, none⟩ = some (.int .i64 x.f2) := cell_lit (i := 2) H83.out
  have c40 : U3.cell? ⟨B4, 0, none⟩ = some (.bool false) := cell_lit (i := 0) H43.out
  have c41 : U3.cell? ⟨B4, 1, none⟩ = some (.int .i64 0) := cell_lit (i := 1) H43.out
  have c42 : U3.cell? ⟨B4, 2, none⟩ = some (.int .i64 0) := cell_lit (i := 2) H43.out
  have f4 : ∀ o, U3.frozen? ⟨B4, o, none⟩ = false := fun o => by simp [World.frozen?, H43.out]
  have f8 : ∀ o, U3.frozen? ⟨B8, o, none⟩ = false := fun o => by simp [World.frozen?, H83.out]
  have n48 : B4 ≠ B8 := N48.out
  have n84 : B8 ≠ B4 := fun h => n48 h.symm
  go_wp2_with fail
  refine bodyPost_ret (v := .tuple #[.agg #[.bool x.f0, .int .i64 x.f1, .int .i64 x.f2], .int .i64 0]) (by simp [results, Try.results53, go_sem, *]) rfl ⟨rfl, ?_⟩
  exact below_set (below_set (below_set (below_set HB3.out LB8.out) LB4.out) LB4.out) LB4.out
theorem rAt_any (w : World) (A0 A1 : Option Addr) (c0 c1 : Nat) {h l : List S79} {st : Int} (hd : mayD h l st = true) (n : Nat) (hn : n < h.length + l.length) (hr0 : Kd.C k79 w A0 h.length h) (hr1 : Kd.C k79 w A1 l.length l) :
    Calls Try.prog 53 #[.agg #[.slice A0 h.length c0, .slice A1 l.length c1, .int .i64 st], .int .i64 n] w fun e w' => e = .returned (.tuple #[.agg #[.bool (atD h l st n).1, .int .i64 (atD h l st n).2.1, .int .i64 (atD h l st n).2.2.1], .int .i64 0]) ∧ Below w.heap.size w w' := by
  obtain ⟨d1, d2, d3, d4, d5⟩ := mayD_len hd
  rcases Nat.lt_or_ge n h.length with hm | hm
  · have := rAt_head w A0 A1 c0 c1 h l st n hm hr0
    unfold atD
    rw [if_pos ⟨hd, by omega⟩, if_pos (by omega)]
    exact this
  · obtain ⟨i, rfl⟩ : ∃ i, n = h.length + i := ⟨n - h.length, by omega⟩
    have a0 := at_loop hd i 0 (by omega) (by simp)
    rw [Nat.mul_zero, Nat.add_zero] at a0
    obtain ⟨s1, s2, s3⟩ := src_loop hd i (by omega)
    have := rAt_loop w A0 A1 c0 c1 h l st ((h.length + i : Nat) : Int) i (by omega) (by push_cast; rfl) d3 d2 d4 d5 s1 s2 hr1
    rw [a0, ← s3, show st * ((0 : Nat) : Int) = 0 by simp, Int.add_zero]
    exact this
end Go.Proofs.Ytkabmpbfabgkfaa
set_option linter.unusedVariables false
set_option linter.unusedSimpArgs false
namespace Go.Proofs.Ytkabmpbfabgkfaa
open Go.RowKit 
open Big
attribute [local go_sem] setCell_drewN alloc_drewN size_ext ext_ext ext_drewN ext_drew drewN_ext drew_ext cell?_ext frozen?_ext setCell_ext cell?_past1 frozen?_past1 setCell_past1 cell?_past2 frozen?_past2 setCell_past2 cell?_past3 frozen?_past3 setCell_past3 cell?_past4 frozen?_past4 setCell_past4 cell?_past5 frozen?_past5 setCell_past5 cell?_past6 frozen?_past6 setCell_past6 cell?_past7 frozen?_past7 setCell_past7 cell?_past8 frozen?_past8 setCell_past8
open Go.Proofs.Ytkabmpbfabgkfaa.P Go.Proofs.YtkabmpbfabgkfaaW.PrintWords Go.Proofs.YtkabmpbfabgkfaaW.PrintLast Go.Proofs.YtkabmpbfabgkfaaW.PrintMore
theorem ck_cases {x : S69} {l : List S44} {ins : List S25} {q tt : Int} (h : mayCk x l ins = (q, tt, true)) :
    (x.f0 = 1 ∧ 0 ≤ x.f1 ∧ x.f1 < ins.length ∧ x.f2 = 0 ∧ (rd_T25 ins x.f1).f0 = q ∧ (rd_T25 ins x.f1).f1 = tt) ∨
    (x.f0 = 2 ∧ 0 ≤ x.f1 ∧ x.f1 < l.length ∧ 0 ≤ x.f2 ∧ x.f2 < (rd_T44 l x.f1).f5 ∧ (rd_T44 l x.f1).f0.f0 = q ∧ (rd_T44 l x.f1).f0.f1 = tt) := by
  unfold mayCk at h
  split at h
  · rename_i h1
    simp only [Prod.mk.injEq] at h
    exact .inl ⟨h1.1, h1.2.1, h1.2.2.1, h1.2.2.2, h.1, h.2.1⟩
  · split at h
    · rename_i h2
      simp only [Prod.mk.injEq] at h
      exact .inr ⟨h2.1, h2.2.1, h2.2.2.1, h2.2.2.2.1, h2.2.2.2.2, h.1, h.2.1⟩
    · simp at h
theorem three_boxes (w : World) (o1 o2 o3 : Obj) : Below w.heap.size w (((w.alloc o1).alloc o2).alloc o3) ∧ (((w.alloc o1).alloc o2).alloc o3).heap[w.heap.size]? = some o1 ∧ (((w.alloc o1).alloc o2).alloc o3).heap[w.heap.size + 1]? = some o2 ∧ (((w.alloc o1).alloc o2).alloc o3).heap[w.heap.size + 1 + 1]? = some o3 := by
  have e : (((w.alloc o1).alloc o2).alloc o3).heap = ((w.heap.push o1).push o2).push o3 := rfl
  refine ⟨(((Below.refl _ w).alloc (Nat.le_refl _) _).alloc (by show w.heap.size ≤ (w.heap.push o1).size; rw [Array.size_push]; omega) _).alloc (by show w.heap.size ≤ ((w.heap.push o1).push o2).size; rw [Array.size_push, Array.size_push]; omega) _, ?_, ?_, ?_⟩
  · rw [e, Array.getElem?_push_lt (by rw [Array.size_push, Array.size_push]; omega), Array.getElem_push_lt (by rw [Array.size_push]; omega), Array.getElem_push_eq]
  · rw [e, Array.getElem?_push, if_neg (by rw [Array.size_push, Array.size_push]; omega), Array.getElem?_push, if_pos (by rw [Array.size_push])]
  · rw [e, show w.heap.size + 1 + 1 = ((w.heap.push o1).push o2).size by rw [Array.size_push, Array.size_push]]
    simp only [Array.getElem?_push_size]
theorem ret_rb {a b : Bool} (h : a = b) : Ending.returned (.bool a) = .returned (.bool b) := by rw [h]
theorem mayS_told {n : Nat} {x : Nat × S79} (h : mayS n x = true) (h0 : x.2.f0 = true) : x.2.f2 = 0 := by
  unfold mayS at h
  rw [h0] at h
  simp at h
  exact h.2.1
/-- What a dep tells at its own places. -/
theorem at_place {h l : List S79} {st : Int} (hd : mayD h l st = true) (n : Nat) (hn : n < h.length + l.length) : 0 ≤ (atD h l st n).2.2.1 ∧ (atD h l st n).2.2.1 ≤ 1125899906842624 ∧ ((atD h l st n).1 = true → (atD h l st n).2.2.1 = 0) := by
  rcases Nat.lt_or_ge n h.length with hm | hm
  · have h1 := mayD_src hd n hn
    have h2 := mayS_spec h1
    have h3 := mayS_told h1
    rw [srcs_head h l n hm] at h2 h3
    unfold atD
    rw [if_pos ⟨hd, by omega⟩, if_pos (by omega)]
    exact ⟨h2.1, h2.2.1, h3⟩
  · obtain ⟨i, rfl⟩ : ∃ i, n = h.length + i := ⟨n - h.length, by omega⟩
    have a0 := at_loop hd i 0 (by omega) (by simp)
    rw [Nat.mul_zero, Nat.add_zero] at a0
    obtain ⟨s1, s2, s3⟩ := src_loop hd i (by omega)
    rw [a0, show st * ((0 : Nat) : Int) = 0 by simp, Int.add_zero]
    exact ⟨s1, s2, fun h => by cases h⟩
theorem okAt_eq {h l : List S79} {st p s q t : Int} (hp : mayC p s = true) (hq : mayC q t = true) (m : Nat) (hm : m ≤ 8192) (h0 : 0 ≤ (atD h l st m).2.2.1) :
    okAt h l st p s q t m = ((atD h l st m).1 || (fitB ((atD h l st m).2.2.1 * q) && (fitB ((atD h l st m).2.2.1 * q + t) && decide ((atD h l st m).2.2.1 * q + t ≤ s + m * p)))) := by
  obtain ⟨p1, p2, s1, s2⟩ := mayC_spec hp
  have hpm : p * (m : Int) ≤ 1099511627776 * m := Int.mul_le_mul_of_nonneg_right p2 (by omega)
  have hpm0 : 0 ≤ p * (m : Int) := Int.mul_nonneg (by omega) (by omega)
  have h3 : dateB p s m = true := by
    unfold dateB
    rw [hp, show fitB (p * (m : Int)) = true by unfold fitB; exact decide_eq_true (by omega), show fitB (s + p * (m : Int)) = true by unfold fitB; exact decide_eq_true (by omega), decide_eq_true (by omega : (0 : Int) ≤ m)]
    rfl
  unfold okAt
  cases (atD h l st m).1 with
  | true => rfl
  | false =>
    rw [Bool.false_or, Bool.false_or]
    generalize (atD h l st m).2.2.1 = a at *
    have h4 : dateB q t a = (fitB (a * q) && fitB (a * q + t)) := by
      unfold dateB
      rw [decide_eq_true h0, hq, Int.mul_comm q a, Int.add_comm t (a * q)]
      rfl
    have h5 : dateV p s m = s + m * p := by unfold dateV; rw [if_pos h3, Int.mul_comm]
    rw [h4, h5]
    cases h6 : fitB (a * q) with
    | false => rfl
    | true =>
      cases h7 : fitB (a * q + t) with
      | false => rfl
      | true =>
        unfold dateV
        rw [h4, h6, h7, Int.mul_comm q a, Int.add_comm t (a * q)]
        simp only [Bool.and_self, if_true, Bool.true_and]
theorem mayR_no1 {h l : List S79} {st p s q t : Int} (hd : mayD h l st = false) : mayR h l st p s q t = false := by unfold mayR; rw [hd]; rfl
theorem mayR_no2 {h l : List S79} {st p s q t : Int} (hd : st < 1) : mayR h l st p s q t = false := by unfold mayR; rw [decide_eq_false (show ¬ 1 ≤ st by omega), Bool.false_and, Bool.and_false]
theorem mayR_no3 {h l : List S79} {st p s q t : Int} (hd : fitB (q * st) = false) : mayR h l st p s q t = false := by unfold mayR; rw [hd, Bool.false_and, Bool.and_false, Bool.and_false, Bool.and_false]
theorem mayR_no4 {h l : List S79} {st p s q t : Int} (hd : p * l.length ≠ q * st) : mayR h l st p s q t = false := by unfold mayR; rw [decide_eq_false hd, Bool.false_and, Bool.and_false, Bool.and_false, Bool.and_false, Bool.and_false]
theorem mayR_no5 {h l : List S79} {st p s q t : Int} (m : Nat) (hm : m < h.length + l.length) (hd : okAt h l st p s q t m = false) : mayR h l st p s q t = false := by
  cases hr : mayR h l st p s q t with
  | false => rfl
  | true =>
    have := (mayR_spec hr).2.2.2 m hm
    rw [hd] at this
    cases this
theorem mayR_yes {h l : List S79} {st p s q t : Int} (hd : mayD h l st = true) (hs : 1 ≤ st) (h1 : fitB (p * l.length) = true) (h2 : fitB (q * st) = true) (h3 : p * l.length = q * st) (h4 : ∀ m : Nat, m < h.length + l.length → okAt h l st p s q t m = true) : mayR h l st p s q t = true := by
  unfold mayR
  rw [hd, h1, h2, decide_eq_true hs, decide_eq_true h3, List.all_eq_true.2 (fun m hm => h4 m (List.mem_range.1 hm))]
  rfl
theorem rdate_c (w : World) (p s n D E : Int) (h1 : IntKind.i64.wrap (n * p) = D) (h2 : IntKind.i64.wrap (s + D) = E) : Calls Try.prog 17 #[.agg #[.int .i64 p, .int .i64 s], .int .i64 n] w fun e w' => e = .returned (.int .i64 E) ∧ Below w.heap.size w w' := by
  go_enter Try.func17, Try.ntmps17
  go_wp2_with fail
  go_ret
  exact ⟨rfl, by repeat (first | (with_reducible exact Below.refl _ _) | (with_reducible assumption) | (with_reducible refine below_drewN ?_ _) | (with_reducible refine Below.drew ?_) | (with_reducible refine below_ext_of ?_ (by first | exact Nat.le_refl _ | assumption | (simp only [World.size_alloc, World.size_setCell, size_ext, World.heap_drewN]; omega)) _ _) | (with_reducible refine Below.alloc ?_ (by first | exact Nat.le_refl _ | assumption | (simp only [World.size_alloc, World.size_setCell, size_ext, World.heap_drewN]; omega)) _) | (with_reducible refine Below.setCell ?_ (by first | exact Nat.le_refl _ | assumption | (simp only [World.size_alloc, World.size_setCell, size_ext, World.heap_drewN]; omega)) _))⟩
theorem fitB_in {v : Int} (h : fitB v = true) : -9223372036854775808 ≤ v ∧ v ≤ 9223372036854775807 := by unfold fitB at h; simpa using h
theorem fitV_is {v : Int} (h : fitB v = true) : fitV v = v := by have := fitB_in h; exact (fitB_of this.1 this.2).2
def okAll (h l : List S79) (st p s q t : Int) (n : Nat) : Prop := ∀ m : Nat, m < n → okAt h l st p s q t m = true
theorem okAll_succ {h l : List S79} {st p s q t : Int} {n : Nat} (a : okAll h l st p s q t n) (b : okAt h l st p s q t n = true) : okAll h l st p s q t (n + 1) := fun m hm => by
  rcases Nat.lt_or_ge m n with h1 | h1
  · exact a m h1
  · obtain rfl : m = n := by omega
    exact b
theorem okAt_no1 {b told : Bool} {a q : Int} {r : Bool} (h : b = (told || (fitB (a * q) && r))) (h0 : told = true → a = 0) (hf : fitB (a * q) = false) : b = false := by
  cases told with
  | true => rw [h0 rfl, Int.zero_mul] at hf; exact absurd hf (by decide)
  | false => rw [h, hf]; rfl
theorem len_mul8 {p : Int} {n : Nat} (h0 : 0 ≤ p) (h1 : p ≤ 1099511627776) (hn : n ≤ 8192) : 0 ≤ (n : Int) * p ∧ (n : Int) * p ≤ 9007199254740992 :=
  ⟨Int.mul_nonneg (by omega) h0, by
    have := Int.mul_le_mul (show (n : Int) ≤ 8192 by omega) h1 h0 (by omega)
    omega⟩
theorem ck_may' {l : List S44} {ins : List S25} (hI : ∀ c ∈ ins, mayC c.f0 c.f1 = true) (hT : ∀ t ∈ l, mayC t.f0.f0 t.f0.f1 = true) {r : S69} (h : (mayCk r l ins).2.2 = true) : mayC (mayCk r l ins).1 (mayCk r l ins).2.1 = true := by
  unfold mayCk at h ⊢
  split at h
  · rename_i h1
    rw [if_pos h1]
    have e : rd_T25 ins r.f1 = ins[r.f1.toNat]'(by omega) := by unfold rd_T25; exact getD_eq _ _ _ (by omega)
    dsimp only
    rw [e]
    exact hI _ (List.getElem_mem _)
  · rename_i h1
    split at h
    · rename_i h2
      rw [if_neg h1, if_pos h2]
      have e : rd_T44 l r.f1 = l[r.f1.toNat]'(by omega) := by unfold rd_T44; exact getD_eq _ _ _ (by omega)
      dsimp only
      rw [e]
      exact hT _ (List.getElem_mem _)
    · cases h
theorem ck_no {x : S69} {l : List S44} {ins : List S25} (h : (mayCk x l ins).2.2 = false) :
    (x.f0 = 1 ∧ (x.f1 < 0 ∨ (0 ≤ x.f1 ∧ (ins.length : Int) ≤ x.f1) ∨ (0 ≤ x.f1 ∧ x.f1 < ins.length ∧ x.f2 ≠ 0))) ∨
    (x.f0 = 2 ∧ (x.f1 < 0 ∨ (0 ≤ x.f1 ∧ (l.length : Int) ≤ x.f1) ∨ (0 ≤ x.f1 ∧ x.f1 < l.length ∧ x.f2 < 0) ∨ (0 ≤ x.f1 ∧ x.f1 < l.length ∧ 0 ≤ x.f2 ∧ (rd_T44 l x.f1).f5 ≤ x.f2))) ∨ (x.f0 ≠ 1 ∧ x.f0 ≠ 2) := by
  unfold mayCk at h
  split at h
  · simp at h
  · rename_i h1
    split at h
    · simp at h
    · rename_i h2
      omega
set_option maxRecDepth 100000 in
set_option maxHeartbeats 16000000 in
theorem rmr_no (w : World) (x : S69) (t : S44) (A3 A4 A5 A0 A1 : Option Addr) (c3 c4 c5 c0 c1 : Nat) (l : List S44) (ins : List S25) (hck : (mayCk x l ins).2.2 = false) (hr3 : Kd.C k79 w A3 x.f3.f0.length x.f3.f0) (hr4 : Kd.C k79 w A4 x.f3.f1.length x.f3.f1) (hr0 : Kd.C k44 w A0 l.length l) (hr1 : Kd.C k25 w A1 ins.length ins) :
    Calls Try.prog 27 #[.agg #[.int .u8 x.f0, .int .i64 x.f1, .int .i64 x.f2, .slice A3 x.f3.f0.length c3, .slice A4 x.f3.f1.length c4, .int .i64 x.f3.f2], .agg #[.int .i64 t.f0.f0, .int .i64 t.f0.f1, .int .i64 t.f1, .int .i64 t.f2, .int .i64 t.f3, .slice A5 t.f4.length c5, .int .i64 t.f5], .slice A0 l.length c0, .slice A1 ins.length c1] w fun e w' => e = .returned (.bool false) ∧ Below w.heap.size w w' := by
  have HCK := Lib.hid (ck_no hck)
  have HR0 := Lib.hid hr0
  clear hck hr0 hr1 hr3 hr4
  go_enter Try.func27, Try.ntmps27
  go_upto_region 2 with (fail)
  obtain ⟨B, hB⟩ : ∃ B, B = w.heap.size := ⟨_, rfl⟩
  obtain ⟨B5, hB5⟩ : ∃ B5, B5 = B + 1 := ⟨_, rfl⟩
  obtain ⟨B9, hB9⟩ : ∃ B9, B9 = B5 + 1 := ⟨_, rfl⟩
  obtain ⟨V, hV⟩ : ∃ V, V = ((w.alloc (.cells #[.int .u8 x.f0, .int .i64 x.f1, .int .i64 x.f2, .slice A3 x.f3.f0.length c3, .slice A4 x.f3.f1.length c4, .int .i64 x.f3.f2] 69)).alloc (.cells #[.int .i64 t.f0.f0, .int .i64 t.f0.f1, .int .i64 t.f1, .int .i64 t.f2, .int .i64 t.f3, .slice A5 t.f4.length c5, .int .i64 t.f5] 44)).alloc (.cells #[.int .i64 0, .int .i64 0] 25) := ⟨_, rfl⟩
  rw [← hV, ← hB, ← hB5, ← hB9]
  obtain ⟨hb0, h4, h5, h9⟩ := three_boxes w (.cells #[.int .u8 x.f0, .int .i64 x.f1, .int .i64 x.f2, .slice A3 x.f3.f0.length c3, .slice A4 x.f3.f1.length c4, .int .i64 x.f3.f2] 69) (.cells #[.int .i64 t.f0.f0, .int .i64 t.f0.f1, .int .i64 t.f1, .int .i64 t.f2, .int .i64 t.f3, .slice A5 t.f4.length c5, .int .i64 t.f5] 44) (.cells #[.int .i64 0, .int .i64 0] 25)
  rw [← hV] at hb0 h4 h5 h9
  rw [← hB] at h4 h5 h9
  rw [← hB5] at h5 h9
  rw [← hB9] at h9
  have HBV := Lib.hid hb0
  have H4 := Lib.hid h4
  have H5 := Lib.hid h5
  have H9 := Lib.hid h9
  clear hb0 h4 h5 h9
  have N9 : Hid (B ≠ B9 ∧ B5 ≠ B9) := Lib.hid (by omega)
  have LB9 : Hid (w.heap.size ≤ B9) := Lib.hid (by omega)
  clear hV hB hB5 hB9
  have y0 : V.cell? ⟨B, 0, none⟩ = some (.int .u8 x.f0) := cell_lit (i := 0) H4.out
  have y1 : V.cell? ⟨B, 1, none⟩ = some (.int .i64 x.f1) := cell_lit (i := 1) H4.out
  have y2 : V.cell? ⟨B, 2, none⟩ = some (.int .i64 x.f2) := cell_lit (i := 2) H4.out
  rcases HCK.out with ⟨k, k1 | ⟨k0, k1⟩ | ⟨k0, k1, k2⟩⟩ | ⟨k, k1 | ⟨k0, k1⟩ | ⟨k0, k1, k2⟩ | ⟨k0, k1, k2, k3⟩⟩ | ⟨k1, k2⟩
  · have e1 : (x.f0 == 1) = true := by rw [k]; rfl
    have e2 : decide (x.f1 < 0) = true := decide_eq_true (by omega)
    go_wp2_with fail
    go_ret
    exact ⟨rfl, HBV.out⟩
  · have e1 : (x.f0 == 1) = true := by rw [k]; rfl
    have e2 : decide (x.f1 < 0) = false := decide_eq_false (by omega)
    have e3 : decide (x.f1 ≥ ins.length) = true := decide_eq_true (by omega)
    go_wp2_with fail
    go_ret
    exact ⟨rfl, HBV.out⟩
  · have e1 : (x.f0 == 1) = true := by rw [k]; rfl
    have e2 : decide (x.f1 < 0) = false := decide_eq_false (by omega)
    have e3 : decide (x.f1 ≥ ins.length) = false := decide_eq_false (by omega)
    have e4 : (x.f2 == 0) = false := beq_false_of_ne k2
    go_wp2_with fail
    go_ret
    exact ⟨rfl, HBV.out⟩
  · have e0 : (x.f0 == 1) = false := by rw [k]; rfl
    have e1 : (x.f0 == 2) = true := by rw [k]; rfl
    have e2 : decide (x.f1 < 0) = true := decide_eq_true (by omega)
    go_upto_region 9 with (fail)
    go_quiet (fail)
    go_wp2_with fail
    go_ret
    exact ⟨rfl, below_drewN HBV.out _⟩
  · have e0 : (x.f0 == 1) = false := by rw [k]; rfl
    have e1 : (x.f0 == 2) = true := by rw [k]; rfl
    have e2 : decide (x.f1 < 0) = false := decide_eq_false (by omega)
    have e3 : decide (x.f1 ≥ l.length) = true := decide_eq_true (by omega)
    go_upto_region 9 with (fail)
    go_quiet (fail)
    go_wp2_with fail
    go_ret
    exact ⟨rfl, below_drewN HBV.out _⟩
  · have e0 : (x.f0 == 1) = false := by rw [k]; rfl
    have e1 : (x.f0 == 2) = true := by rw [k]; rfl
    have e2 : decide (x.f1 < 0) = false := decide_eq_false (by omega)
    have e3 : decide (x.f1 ≥ l.length) = false := decide_eq_false (by omega)
    have e4 : decide (x.f2 < 0) = true := decide_eq_true (by omega)
    go_upto_region 9 with (fail)
    go_quiet (fail)
    go_wp2_with fail
    go_ret
    exact ⟨rfl, below_drewN HBV.out _⟩
  · obtain ⟨ai, A6, c6, hai, z0, z1, z2, z3, z4, z5, z6, zl, zr⟩ := at_T44 HR0.out x.f1 k0 (by omega)
    replace z6 := keepc (Nat.le_refl _) HBV.out z6
    clear z0 z1 z2 z3 z4 z5 zl zr
    subst hai
    have e5 : x.f1 < l.length := k1
    have e6 : 0 ≤ x.f1 := k0
    have e0 : (x.f0 == 1) = false := by rw [k]; rfl
    have e1 : (x.f0 == 2) = true := by rw [k]; rfl
    have e2 : decide (x.f1 < 0) = false := decide_eq_false (by omega)
    have e3 : decide (x.f1 ≥ l.length) = false := decide_eq_false (by omega)
    have e4 : decide (x.f2 < 0) = false := decide_eq_false (by omega)
    have e7 : decide (x.f2 ≥ (rd_T44 l x.f1).f5) = true := decide_eq_true (by omega)
    go_upto_region 9 with (fail)
    go_quiet (fail)
    go_wp2_with fail
    go_ret
    exact ⟨rfl, below_drewN HBV.out _⟩
  · have e0 : (x.f0 == 1) = false := beq_false_of_ne k1
    have e1 : (x.f0 == 2) = false := beq_false_of_ne k2
    go_wp2_with fail
    go_ret
    exact ⟨rfl, HBV.out⟩
set_option maxRecDepth 100000 in
set_option maxHeartbeats 16000000 in
theorem rmr_yes (w : World) (x : S69) (t : S44) (A3 A4 A5 A0 A1 : Option Addr) (c3 c4 c5 c0 c1 : Nat) (l : List S44) (ins : List S25) (q tt : Int) (hqt : mayCk x l ins = (q, tt, true)) (hq : mayC q tt = true) (hp : mayC t.f0.f0 t.f0.f1 = true) (hr3 : Kd.C k79 w A3 x.f3.f0.length x.f3.f0) (hr4 : Kd.C k79 w A4 x.f3.f1.length x.f3.f1) (hr0 : Kd.C k44 w A0 l.length l) (hr1 : Kd.C k25 w A1 ins.length ins) :
    Calls Try.prog 27 #[.agg #[.int .u8 x.f0, .int .i64 x.f1, .int .i64 x.f2, .slice A3 x.f3.f0.length c3, .slice A4 x.f3.f1.length c4, .int .i64 x.f3.f2], .agg #[.int .i64 t.f0.f0, .int .i64 t.f0.f1, .int .i64 t.f1, .int .i64 t.f2, .int .i64 t.f3, .slice A5 t.f4.length c5, .int .i64 t.f5], .slice A0 l.length c0, .slice A1 ins.length c1] w fun e w' => e = .returned (.bool (mayR x.f3.f0 x.f3.f1 x.f3.f2 t.f0.f0 t.f0.f1 q tt)) ∧ Below w.heap.size w w' := by
  obtain ⟨R, hR⟩ : ∃ R, mayR x.f3.f0 x.f3.f1 x.f3.f2 t.f0.f0 t.f0.f1 q tt = R := ⟨_, rfl⟩
  rw [hR]
  have HRR := Lib.hid hR
  have HCK := Lib.hid (ck_cases hqt)
  have HP := Lib.hid hp
  have HQ := Lib.hid hq
  have HR3 := Lib.hid hr3
  have HR4 := Lib.hid hr4
  have HR0 := Lib.hid hr0
  have HR1 := Lib.hid hr1
  clear hR hqt hp hq hr3 hr4 hr0 hr1
  go_enter Try.func27, Try.ntmps27
  go_upto_region 2 with (fail)
  obtain ⟨B, hB⟩ : ∃ B, B = w.heap.size := ⟨_, rfl⟩
  obtain ⟨B5, hB5⟩ : ∃ B5, B5 = B + 1 := ⟨_, rfl⟩
  obtain ⟨B9, hB9⟩ : ∃ B9, B9 = B5 + 1 := ⟨_, rfl⟩
  obtain ⟨V, hV⟩ : ∃ V, V = ((w.alloc (.cells #[.int .u8 x.f0, .int .i64 x.f1, .int .i64 x.f2, .slice A3 x.f3.f0.length c3, .slice A4 x.f3.f1.length c4, .int .i64 x.f3.f2] 69)).alloc (.cells #[.int .i64 t.f0.f0, .int .i64 t.f0.f1, .int .i64 t.f1, .int .i64 t.f2, .int .i64 t.f3, .slice A5 t.f4.length c5, .int .i64 t.f5] 44)).alloc (.cells #[.int .i64 0, .int .i64 0] 25) := ⟨_, rfl⟩
  rw [← hV, ← hB, ← hB5, ← hB9]
  obtain ⟨hb0, h4, h5, h9⟩ := three_boxes w (.cells #[.int .u8 x.f0, .int .i64 x.f1, .int .i64 x.f2, .slice A3 x.f3.f0.length c3, .slice A4 x.f3.f1.length c4, .int .i64 x.f3.f2] 69) (.cells #[.int .i64 t.f0.f0, .int .i64 t.f0.f1, .int .i64 t.f1, .int .i64 t.f2, .int .i64 t.f3, .slice A5 t.f4.length c5, .int .i64 t.f5] 44) (.cells #[.int .i64 0, .int .i64 0] 25)
  rw [← hV] at hb0 h4 h5 h9
  rw [← hB] at h4 h5 h9
  rw [← hB5] at h5 h9
  rw [← hB9] at h9
  have HBV := Lib.hid hb0
  have H4 := Lib.hid h4
  have H5 := Lib.hid h5
  have H9 := Lib.hid h9
  clear hb0 h4 h5 h9
  have N9 : Hid (B ≠ B9 ∧ B5 ≠ B9) := Lib.hid (by omega)
  have LB9 : Hid (w.heap.size ≤ B9) := Lib.hid (by omega)
  clear hV hB hB5 hB9
  have y0 : V.cell? ⟨B, 0, none⟩ = some (.int .u8 x.f0) := cell_lit (i := 0) H4.out
  have y1 : V.cell? ⟨B, 1, none⟩ = some (.int .i64 x.f1) := cell_lit (i := 1) H4.out
  have y2 : V.cell? ⟨B, 2, none⟩ = some (.int .i64 x.f2) := cell_lit (i := 2) H4.out
  go_upto_block 0 with (fail)
  go_cut [] from 22 to 77 (fun wc => ∃ W9, W9 = wc ∧ Hid (Below w.heap.size w W9) ∧ Hid (W9.heap[B]? = some (.cells #[.int .u8 x.f0, .int .i64 x.f1, .int .i64 x.f2, .slice A3 x.f3.f0.length c3, .slice A4 x.f3.f1.length c4, .int .i64 x.f3.f2] 69)) ∧ Hid (W9.heap[B5]? = some (.cells #[.int .i64 t.f0.f0, .int .i64 t.f0.f1, .int .i64 t.f1, .int .i64 t.f2, .int .i64 t.f3, .slice A5 t.f4.length c5, .int .i64 t.f5] 44)) ∧ Hid (W9.heap[B9]? = some (.cells #[.int .i64 q, .int .i64 tt] 25)))
  case first =>
    rcases HCK.out with ⟨k1, k2, k3, k4, k5, k6⟩ | ⟨k1, k2, k3, k4, k5, k6, k7⟩
    · obtain ⟨ai, hai, z0, z1⟩ := at_T25 HR1.out x.f1 k2 (by omega)
      rw [k5] at z0
      rw [k6] at z1
      replace z0 := keepc (Nat.le_refl _) HBV.out z0
      replace z1 := keepc (Nat.le_refl _) HBV.out z1
      subst hai
      have e1 : (x.f0 == 1) = true := by rw [k1]; rfl
      have e2 : decide (x.f1 < 0) = false := decide_eq_false (by omega)
      have e3 : decide (x.f1 ≥ ins.length) = false := decide_eq_false (by omega)
      have e4 : (x.f2 == 0) = true := by rw [k4]; rfl
      have e5 : x.f1 < ins.length := k3
      have e6 : 0 ≤ x.f1 := k2
      have f9 : ∀ o, V.frozen? ⟨B9, o, none⟩ = false := fun o => by simp [World.frozen?, H9.out]
      have c0 : V.cell? ⟨B9, 0, none⟩ = some (.int .i64 0) := cell_lit (i := 0) H9.out
      have c1 : V.cell? ⟨B9, 1, none⟩ = some (.int .i64 0) := cell_lit (i := 1) H9.out
      clear k1 k2 k3 k4 k5 k6
      go_wp2_with fail
      go_meet
      case rel => exact ⟨_, rfl, Lib.hid (below_set (below_set HBV.out LB9.out) LB9.out), Lib.hid ((set_oth' N9.out.1.symm).trans ((set_oth' N9.out.1.symm).trans H4.out)), Lib.hid ((set_oth' N9.out.2.symm).trans ((set_oth' N9.out.2.symm).trans H5.out)), Lib.hid (set_s1 (set_s0 H9.out _) _)⟩
    · obtain ⟨ai, A6, c6, hai, z0, z1, z2, z3, z4, z5, z6, zl, zr⟩ := at_T44 HR0.out x.f1 k2 (by omega)
      rw [k6] at z0
      rw [k7] at z1
      replace z0 := keepc (Nat.le_refl _) HBV.out z0
      replace z1 := keepc (Nat.le_refl _) HBV.out z1
      replace z6 := keepc (Nat.le_refl _) HBV.out z6
      clear z2 z3 z4 z5 zl zr
      subst hai
      have e0 : (x.f0 == 1) = false := by rw [k1]; rfl
      have e1 : (x.f0 == 2) = true := by rw [k1]; rfl
      have e2 : decide (x.f1 < 0) = false := decide_eq_false (by omega)
      have e3 : decide (x.f1 ≥ l.length) = false := decide_eq_false (by omega)
      have e4 : decide (x.f2 < 0) = false := decide_eq_false (by omega)
      have e7 : decide (x.f2 ≥ (rd_T44 l x.f1).f5) = false := decide_eq_false (by omega)
      have e5 : x.f1 < l.length := k3
      have e6 : 0 ≤ x.f1 := k2
      have f9 : ∀ o, V.frozen? ⟨B9, o, none⟩ = false := fun o => by simp [World.frozen?, H9.out]
      have c0 : V.cell? ⟨B9, 0, none⟩ = some (.int .i64 0) := cell_lit (i := 0) H9.out
      have c1 : V.cell? ⟨B9, 1, none⟩ = some (.int .i64 0) := cell_lit (i := 1) H9.out
      clear k1 k2 k3 k4 k5 k6 k7
      go_upto_region 9 with (fail)
      go_quiet (fail)
      go_wp2_with fail
      go_meet
      case rel => exact ⟨_, rfl, Lib.hid (below_set (below_set (below_drewN HBV.out _) LB9.out) LB9.out), Lib.hid ((set_oth' N9.out.1.symm).trans ((set_oth' N9.out.1.symm).trans H4.out)), Lib.hid ((set_oth' N9.out.2.symm).trans ((set_oth' N9.out.2.symm).trans H5.out)), Lib.hid (set_s1 (set_s0 H9.out _) _)⟩
  case rest =>
  obtain ⟨w9, hw9, HBw9, H4w9, H5w9, H9w9⟩ := hcut
  subst hw9
  clear H4 H5 H9 HBV y0 y1 y2
  have y43 : w9.cell? ⟨B, 3, none⟩ = some (.slice A3 x.f3.f0.length c3) := cell_lit (i := 3) H4w9.out
  have y44 : w9.cell? ⟨B, 4, none⟩ = some (.slice A4 x.f3.f1.length c4) := cell_lit (i := 4) H4w9.out
  have y45 : w9.cell? ⟨B, 5, none⟩ = some (.int .i64 x.f3.f2) := cell_lit (i := 5) H4w9.out
  cases hd : mayD x.f3.f0 x.f3.f1 x.f3.f2 with
  | false =>
    have HD := Lib.hid hd
    clear hd
    go_wp2_with fail
    refine (RMay_any A3 A4 c3 c4 x.f3.f0 x.f3.f1 x.f3.f2 _ (Kd.C_below HR3.out HBw9.out) (Kd.C_below HR4.out HBw9.out)).mono ?_
    rintro e w10 ⟨rfl, hb⟩
    rw [HD.out]
    have HBw10 := Lib.hid (HBw9.out.trans (hb.mono HBw9.out.size))
    have H4w10 := Lib.hid ((hb.block _ (lt_of_blk H4w9.out)).trans H4w9.out)
    have H5w10 := Lib.hid ((hb.block _ (lt_of_blk H5w9.out)).trans H5w9.out)
    have H9w10 := Lib.hid ((hb.block _ (lt_of_blk H9w9.out)).trans H9w9.out)
    clear hb H4w9 H5w9 H9w9
    clear y43 y44 y45
    go_wp2_with fail
    go_ret
    exact ⟨ret_rb ((mayR_no1 HD.out).symm.trans HRR.out), HBw10.out⟩
  | true =>
    have HD := Lib.hid hd
    clear hd
    by_cases hst : x.f3.f2 < 1
    · have g1 : decide (x.f3.f2 < 1) = true := decide_eq_true hst
      have HST := Lib.hid hst
      clear hst
      go_wp2_with fail
      refine (RMay_any A3 A4 c3 c4 x.f3.f0 x.f3.f1 x.f3.f2 _ (Kd.C_below HR3.out HBw9.out) (Kd.C_below HR4.out HBw9.out)).mono ?_
      rintro e w10 ⟨rfl, hb⟩
      rw [HD.out]
      have HBw10 := Lib.hid (HBw9.out.trans (hb.mono HBw9.out.size))
      have H4w10 := Lib.hid ((hb.block _ (lt_of_blk H4w9.out)).trans H4w9.out)
      have H5w10 := Lib.hid ((hb.block _ (lt_of_blk H5w9.out)).trans H5w9.out)
      have H9w10 := Lib.hid ((hb.block _ (lt_of_blk H9w9.out)).trans H9w9.out)
      clear hb H4w9 H5w9 H9w9
      clear y43 y44 y45
      have y45 : w10.cell? ⟨B, 5, none⟩ = some (.int .i64 x.f3.f2) := cell_lit (i := 5) H4w10.out
      go_wp2_with fail
      go_ret
      exact ⟨ret_rb ((mayR_no2 HST.out).symm.trans HRR.out), HBw10.out⟩
    · have g1 : decide (x.f3.f2 < 1) = false := decide_eq_false hst
      obtain ⟨p1, p2, s1, s2⟩ := mayC_spec HP.out
      obtain ⟨q1, q2, t1, t2⟩ := mayC_spec HQ.out
      obtain ⟨d1, d2, d3, d4, d5⟩ := mayD_len HD.out
      have HL := Lib.hid (And.intro d1 (And.intro d2 d3))
      have HPQ := Lib.hid (And.intro p1 (And.intro p2 (And.intro q1 q2)))
      have HTT := Lib.hid (And.intro s1 (And.intro s2 (And.intro t1 t2)))
      have HST : Hid (1 ≤ x.f3.f2 ∧ x.f3.f2 ≤ 1099511627776) := Lib.hid (by omega)
      clear hst p1 p2 q1 q2 s1 s2 t1 t2 d1 d2 d3 d4 d5
      go_wp2_with fail
      refine (RMay_any A3 A4 c3 c4 x.f3.f0 x.f3.f1 x.f3.f2 _ (Kd.C_below HR3.out HBw9.out) (Kd.C_below HR4.out HBw9.out)).mono ?_
      rintro e w10 ⟨rfl, hb⟩
      rw [HD.out]
      have HBw10 := Lib.hid (HBw9.out.trans (hb.mono HBw9.out.size))
      have H4w10 := Lib.hid ((hb.block _ (lt_of_blk H4w9.out)).trans H4w9.out)
      have H5w10 := Lib.hid ((hb.block _ (lt_of_blk H5w9.out)).trans H5w9.out)
      have H9w10 := Lib.hid ((hb.block _ (lt_of_blk H9w9.out)).trans H9w9.out)
      clear hb H4w9 H5w9 H9w9
      clear y43 y44 y45
      have y44 : w10.cell? ⟨B, 4, none⟩ = some (.slice A4 x.f3.f1.length c4) := cell_lit (i := 4) H4w10.out
      have y45 : w10.cell? ⟨B, 5, none⟩ = some (.int .i64 x.f3.f2) := cell_lit (i := 5) H4w10.out
      have y50 : w10.cell? ⟨B5, 0, none⟩ = some (.int .i64 t.f0.f0) := cell_lit (i := 0) H5w10.out
      go_wp2_with fail
      refine (ref_mul t.f0.f0 x.f3.f1.length _ (by have := HPQ.out; omega) (by have := HPQ.out; omega) (by have := HL.out; omega) (by have := HL.out; omega)).mono ?_
      rintro e w11 ⟨rfl, hb⟩
      have hlm := len_mul (p := t.f0.f0) (n := x.f3.f1.length) (by have := HPQ.out; omega) HPQ.out.2.1 HL.out.2.1
      rw [Int.mul_comm] at hlm
      have hf1 := fitB_of (v := t.f0.f0 * x.f3.f1.length) (by omega) (by omega)
      have HF1 := Lib.hid hf1.1
      rw [hf1.1, hf1.2]
      obtain ⟨D, hD⟩ : ∃ D, t.f0.f0 * (x.f3.f1.length : Int) = D := ⟨_, rfl⟩
      rw [hD]
      have HDD := Lib.hid hD
      clear hf1 hlm hD
      clear y44 y45
      clear y50
      have HBw11 := Lib.hid (HBw10.out.trans (hb.mono HBw10.out.size))
      have H4w11 := Lib.hid ((hb.block _ (lt_of_blk H4w10.out)).trans H4w10.out)
      have H5w11 := Lib.hid ((hb.block _ (lt_of_blk H5w10.out)).trans H5w10.out)
      have H9w11 := Lib.hid ((hb.block _ (lt_of_blk H9w10.out)).trans H9w10.out)
      clear hb H4w10 H5w10 H9w10
      have y45 : w11.cell? ⟨B, 5, none⟩ = some (.int .i64 x.f3.f2) := cell_lit (i := 5) H4w11.out
      have y90 : w11.cell? ⟨B9, 0, none⟩ = some (.int .i64 q) := cell_lit (i := 0) H9w11.out
      go_wp2_with fail
      refine (ref_mul q x.f3.f2 _ (by have := HPQ.out; omega) (by have := HPQ.out; omega) (by have := HST.out; omega) (by have := HST.out; omega)).mono ?_
      rintro e w12 ⟨rfl, hb⟩
      have HBw12 := Lib.hid (HBw11.out.trans (hb.mono HBw11.out.size))
      have H4w12 := Lib.hid ((hb.block _ (lt_of_blk H4w11.out)).trans H4w11.out)
      have H5w12 := Lib.hid ((hb.block _ (lt_of_blk H5w11.out)).trans H5w11.out)
      have H9w12 := Lib.hid ((hb.block _ (lt_of_blk H9w11.out)).trans H9w11.out)
      clear hb H4w11 H5w11 H9w11
      clear y45
      clear y90
      cases hf2 : fitB (q * x.f3.f2) with
      | false =>
        have HF2 := Lib.hid hf2
        clear hf2
        go_wp2_with fail
        go_ret
        exact ⟨ret_rb ((mayR_no3 HF2.out).symm.trans HRR.out), HBw12.out⟩
      | true =>
        have HF2 := Lib.hid hf2
        clear hf2
        rw [show fitV (q * x.f3.f2) = q * x.f3.f2 from fitV_is HF2.out]
        by_cases he : D = q * x.f3.f2
        · have HE : Hid (t.f0.f0 * (x.f3.f1.length : Int) = q * x.f3.f2) := Lib.hid (HDD.out.trans he)
          rw [← he]
          have e1 : (D == D) = true := by simp
          clear he
          go_wp2_with fail
          go_loopw [14] (fun i wr => ∃ m : Nat, m ≤ x.f3.f0.length + x.f3.f1.length ∧ i = .int .i64 m ∧ Hid (Below w.heap.size w wr) ∧ Hid (wr.heap[B]? = some (.cells #[.int .u8 x.f0, .int .i64 x.f1, .int .i64 x.f2, .slice A3 x.f3.f0.length c3, .slice A4 x.f3.f1.length c4, .int .i64 x.f3.f2] 69)) ∧ Hid (wr.heap[B5]? = some (.cells #[.int .i64 t.f0.f0, .int .i64 t.f0.f1, .int .i64 t.f1, .int .i64 t.f2, .int .i64 t.f3, .slice A5 t.f4.length c5, .int .i64 t.f5] 44)) ∧ Hid (wr.heap[B9]? = some (.cells #[.int .i64 q, .int .i64 tt] 25)) ∧ Hid (okAll x.f3.f0 x.f3.f1 x.f3.f2 t.f0.f0 t.f0.f1 q tt m)) (fun i _ => x.f3.f0.length + x.f3.f1.length - (RowKit.intOf i).toNat)
          case atStart => exact ⟨0, Nat.zero_le _, rfl, HBw12, H4w12, H5w12, H9w12, Lib.hid (fun k hk => absurd hk (Nat.not_lt_zero _))⟩
          case round =>
            obtain ⟨m, hm, rfl, HBwr, H4wr, H5wr, H9wr, HK⟩ := hrel
            have HMM := Lib.hid hm
            clear hm e1
            have y43 : wr.cell? ⟨B, 3, none⟩ = some (.slice A3 x.f3.f0.length c3) := cell_lit (i := 3) H4wr.out
            have y44 : wr.cell? ⟨B, 4, none⟩ = some (.slice A4 x.f3.f1.length c4) := cell_lit (i := 4) H4wr.out
            have y45 : wr.cell? ⟨B, 5, none⟩ = some (.int .i64 x.f3.f2) := cell_lit (i := 5) H4wr.out
            have c1 : IntKind.i64.wrap ((x.f3.f0.length : Int) + x.f3.f1.length) = (x.f3.f0.length : Int) + x.f3.f1.length := by have := HL.out; rw [IntKind.wrap_i64]; omega
            by_cases hlt : m < x.f3.f0.length + x.f3.f1.length
            · have e2 : (m : Int) < (x.f3.f0.length : Int) + x.f3.f1.length := by omega
              have HLT := Lib.hid hlt
              clear hlt
              have hap := at_place HD.out m HLT.out
              have hoe := okAt_eq (h := x.f3.f0) (l := x.f3.f1) (st := x.f3.f2) HP.out HQ.out m (by have := HL.out; have := HLT.out; omega) hap.1
              obtain ⟨⟨told, v, a, er⟩, hz⟩ : ∃ z, atD x.f3.f0 x.f3.f1 x.f3.f2 m = z := ⟨_, rfl⟩
              rw [hz] at hap hoe
              dsimp only at hap hoe
              have HZ := Lib.hid hz
              have HAP := Lib.hid hap
              have HOE := Lib.hid hoe
              clear hz hap hoe
              go_wp2_with fail
              refine (rAt_any _ A3 A4 c3 c4 HD.out m HLT.out (Kd.C_below HR3.out HBwr.out) (Kd.C_below HR4.out HBwr.out)).mono ?_
              rintro e w13 ⟨rfl, hb⟩
              rw [HZ.out]
              dsimp only
              have HBw13 := Lib.hid (HBwr.out.trans (hb.mono HBwr.out.size))
              have H4w13 := Lib.hid ((hb.block _ (lt_of_blk H4wr.out)).trans H4wr.out)
              have H5w13 := Lib.hid ((hb.block _ (lt_of_blk H5wr.out)).trans H5wr.out)
              have H9w13 := Lib.hid ((hb.block _ (lt_of_blk H9wr.out)).trans H9wr.out)
              clear hb H4wr H5wr H9wr
              clear y43 y44 y45
              clear c1 e2
              go_upto_region 22 with (fail)
              obtain ⟨w14, hw14⟩ : ∃ V, V = w13.alloc (.cells #[.bool told, .int .i64 v, .int .i64 a] 79) := ⟨_, rfl⟩
              obtain ⟨B15, hB15⟩ : ∃ B, B = w13.heap.size := ⟨_, rfl⟩
              rw [← hw14, ← hB15]
              have hb : Below w13.heap.size w13 w14 := by rw [hw14]; exact (Below.refl _ _).alloc (Nat.le_refl _) _
              have H15w14 : Hid (w14.heap[B15]? = some (.cells #[.bool told, .int .i64 v, .int .i64 a] 79)) := Lib.hid (by rw [hw14]; exact heap_new' _ _ _ hB15)
              clear hw14 hB15
              have HBw14 := Lib.hid (HBw13.out.trans (hb.mono HBw13.out.size))
              have H4w14 := Lib.hid ((hb.block _ (lt_of_blk H4w13.out)).trans H4w13.out)
              have H5w14 := Lib.hid ((hb.block _ (lt_of_blk H5w13.out)).trans H5w13.out)
              have H9w14 := Lib.hid ((hb.block _ (lt_of_blk H9w13.out)).trans H9w13.out)
              clear hb H4w13 H5w13 H9w13
              have y152 : w14.cell? ⟨B15, 2, none⟩ = some (.int .i64 a) := cell_lit (i := 2) H15w14.out
              have y90 : w14.cell? ⟨B9, 0, none⟩ = some (.int .i64 q) := cell_lit (i := 0) H9w14.out
              go_wp2_with fail
              refine (ref_mul a q _ (by have := HAP.out; omega) (by have := HAP.out; omega) (by have := HPQ.out; omega) (by have := HPQ.out; omega)).mono ?_
              rintro e w15 ⟨rfl, hb⟩
              have HBw15 := Lib.hid (HBw14.out.trans (hb.mono HBw14.out.size))
              have H4w15 := Lib.hid ((hb.block _ (lt_of_blk H4w14.out)).trans H4w14.out)
              have H5w15 := Lib.hid ((hb.block _ (lt_of_blk H5w14.out)).trans H5w14.out)
              have H9w15 := Lib.hid ((hb.block _ (lt_of_blk H9w14.out)).trans H9w14.out)
              have H15w15 := Lib.hid ((hb.block _ (lt_of_blk H15w14.out)).trans H15w14.out)
              clear hb H4w14 H5w14 H9w14 H15w14
              clear y152
              clear y90
              cases hf3 : fitB (a * q) with
              | false =>
                have HF3 := Lib.hid hf3
                clear hf3
                have HN : Hid (okAt x.f3.f0 x.f3.f1 x.f3.f2 t.f0.f0 t.f0.f1 q tt m = false) := Lib.hid (okAt_no1 HOE.out HAP.out.2.2 HF3.out)
                go_wp2_with fail
                go_ret
                exact ⟨ret_rb ((mayR_no5 m HLT.out HN.out).symm.trans HRR.out), HBw15.out⟩
              | true =>
                have HF3 := Lib.hid hf3
                clear hf3
                rw [show fitV (a * q) = a * q from fitV_is HF3.out]
                obtain ⟨M, hM⟩ : ∃ M, a * q = M := ⟨_, rfl⟩
                have hMin := fitB_in HF3.out
                rw [hM] at hMin ⊢
                have HM := Lib.hid hM
                have HMI := Lib.hid hMin
                clear hM hMin
                have y91 : w15.cell? ⟨B9, 1, none⟩ = some (.int .i64 tt) := cell_lit (i := 1) H9w15.out
                go_wp2_with fail
                refine (ref_add M tt _ HMI.out.1 HMI.out.2 (by have := HTT.out; omega) (by have := HTT.out; omega)).mono ?_
                rintro e w16 ⟨rfl, hb⟩
                have HBw16 := Lib.hid (HBw15.out.trans (hb.mono HBw15.out.size))
                have H4w16 := Lib.hid ((hb.block _ (lt_of_blk H4w15.out)).trans H4w15.out)
                have H5w16 := Lib.hid ((hb.block _ (lt_of_blk H5w15.out)).trans H5w15.out)
                have H9w16 := Lib.hid ((hb.block _ (lt_of_blk H9w15.out)).trans H9w15.out)
                have H15w16 := Lib.hid ((hb.block _ (lt_of_blk H15w15.out)).trans H15w15.out)
                clear hb H4w15 H5w15 H9w15 H15w15
                clear y91
                have y150 : w16.cell? ⟨B15, 0, none⟩ = some (.bool told) := cell_lit (i := 0) H15w16.out
                have c2 : IntKind.i64.wrap ((m : Int) + 1) = (m : Int) + 1 := by have := HL.out; have := HLT.out; rw [IntKind.wrap_i64]; omega
                cases told with
                | true =>
                  have HOKM : Hid (okAt x.f3.f0 x.f3.f1 x.f3.f2 t.f0.f0 t.f0.f1 q tt m = true) := Lib.hid (by rw [HOE.out]; rfl)
                  go_wp2_with fail
                  go_roundw
                  case rel => exact ⟨m + 1, by have := HLT.out; omega, by simp, HBw16, H4w16, H5w16, H9w16, Lib.hid (okAll_succ HK.out HOKM.out)⟩
                  case measure => have := HLT.out; simp [RowKit.intOf]; omega
                | false =>
                  cases hf4 : fitB (M + tt) with
                  | false =>
                    have HF4 := Lib.hid hf4
                    clear hf4
                    have HN : Hid (okAt x.f3.f0 x.f3.f1 x.f3.f2 t.f0.f0 t.f0.f1 q tt m = false) := Lib.hid (by rw [HOE.out, HM.out, HF4.out]; simp)
                    go_wp2_with fail
                    go_ret
                    exact ⟨ret_rb ((mayR_no5 m HLT.out HN.out).symm.trans HRR.out), HBw16.out⟩
                  | true =>
                    have HF4 := Lib.hid hf4
                    clear hf4
                    rw [show fitV (M + tt) = M + tt from fitV_is HF4.out]
                    obtain ⟨E, hE⟩ : ∃ E, M + tt = E := ⟨_, rfl⟩
                    rw [hE]
                    obtain ⟨pm, hpm⟩ : ∃ pm, (m : Int) * t.f0.f0 = pm := ⟨_, rfl⟩
                    have hpm0 := len_mul8 (p := t.f0.f0) (n := m) (by have := HPQ.out; omega) HPQ.out.2.1 (by have := HL.out; have := HLT.out; omega)
                    rw [hpm] at hpm0
                    have X1 : Hid (IntKind.i64.wrap ((m : Int) * t.f0.f0) = pm) := Lib.hid (by rw [hpm, IntKind.wrap_i64]; omega)
                    obtain ⟨G, hG⟩ : ∃ G, t.f0.f1 + pm = G := ⟨_, rfl⟩
                    have X2 : Hid (IntKind.i64.wrap (t.f0.f1 + pm) = G) := Lib.hid (by have := HTT.out; rw [hG, IntKind.wrap_i64]; omega)
                    have HOE2 : Hid (okAt x.f3.f0 x.f3.f1 x.f3.f2 t.f0.f0 t.f0.f1 q tt m = decide (E ≤ G)) := Lib.hid (by rw [HOE.out, HF3.out, HM.out, HF4.out, hE, hpm, hG]; rfl)
                    clear hE hpm hpm0 hG
                    have y50 : w16.cell? ⟨B5, 0, none⟩ = some (.int .i64 t.f0.f0) := cell_lit (i := 0) H5w16.out
                    have y51 : w16.cell? ⟨B5, 1, none⟩ = some (.int .i64 t.f0.f1) := cell_lit (i := 1) H5w16.out
                    by_cases hle : E ≤ G
                    · have e3 : decide (E > G) = false := decide_eq_false (by omega)
                      have HOKM : Hid (okAt x.f3.f0 x.f3.f1 x.f3.f2 t.f0.f0 t.f0.f1 q tt m = true) := Lib.hid (by rw [HOE2.out]; exact decide_eq_true hle)
                      clear hle
                      go_wp2_with fail
                      refine (rdate_c _ t.f0.f0 t.f0.f1 m pm G X1.out X2.out).mono ?_
                      rintro e w17 ⟨rfl, hb⟩
                      have HBw17 := Lib.hid (HBw16.out.trans (hb.mono HBw16.out.size))
                      have H4w17 := Lib.hid ((hb.block _ (lt_of_blk H4w16.out)).trans H4w16.out)
                      have H5w17 := Lib.hid ((hb.block _ (lt_of_blk H5w16.out)).trans H5w16.out)
                      have H9w17 := Lib.hid ((hb.block _ (lt_of_blk H9w16.out)).trans H9w16.out)
                      clear hb H4w16 H5w16 H9w16
                      clear y50 y51
                      clear y150
                      go_wp2_with fail
                      go_roundw
                      case rel => exact ⟨m + 1, by have := HLT.out; omega, by simp, HBw17, H4w17, H5w17, H9w17, Lib.hid (okAll_succ HK.out HOKM.out)⟩
                      case measure => have := HLT.out; simp [RowKit.intOf]; omega
                    · have e3 : decide (E > G) = true := decide_eq_true (by omega)
                      have HN : Hid (okAt x.f3.f0 x.f3.f1 x.f3.f2 t.f0.f0 t.f0.f1 q tt m = false) := Lib.hid (by rw [HOE2.out]; exact decide_eq_false hle)
                      clear hle
                      go_wp2_with fail
                      refine (rdate_c _ t.f0.f0 t.f0.f1 m pm G X1.out X2.out).mono ?_
                      rintro e w17 ⟨rfl, hb⟩
                      have HBw17 := Lib.hid (HBw16.out.trans (hb.mono HBw16.out.size))
                      have H4w17 := Lib.hid ((hb.block _ (lt_of_blk H4w16.out)).trans H4w16.out)
                      have H5w17 := Lib.hid ((hb.block _ (lt_of_blk H5w16.out)).trans H5w16.out)
                      have H9w17 := Lib.hid ((hb.block _ (lt_of_blk H9w16.out)).trans H9w16.out)
                      clear hb H4w16 H5w16 H9w16
                      clear y50 y51
                      clear y150
                      go_wp2_with fail
                      go_ret
                      exact ⟨ret_rb ((mayR_no5 m HLT.out HN.out).symm.trans HRR.out), HBw17.out⟩
            · have e2 : ¬ ((m : Int) < (x.f3.f0.length : Int) + x.f3.f1.length) := by omega
              obtain rfl : m = x.f3.f0.length + x.f3.f1.length := by have := HMM.out; omega
              have HY : Hid (mayR x.f3.f0 x.f3.f1 x.f3.f2 t.f0.f0 t.f0.f1 q tt = true) := Lib.hid (mayR_yes HD.out HST.out.1 HF1.out HF2.out HE.out HK.out)
              clear hlt
              go_wp2_with fail
              go_ret
              exact ⟨ret_rb ((HY.out).symm.trans HRR.out), HBwr.out⟩
        · have HE : Hid (t.f0.f0 * (x.f3.f1.length : Int) ≠ q * x.f3.f2) := Lib.hid (fun h => he (HDD.out.symm.trans h))
          have e1 : (D == q * x.f3.f2) = false := beq_false_of_ne he
          clear he
          go_wp2_with fail
          go_ret
          exact ⟨ret_rb ((mayR_no4 HE.out).symm.trans HRR.out), HBw12.out⟩
theorem rmr_any (w : World) (x : S69) (t : S44) (A3 A4 A5 A0 A1 : Option Addr) (c3 c4 c5 c0 c1 : Nat) (l : List S44) (ins : List S25) (hI : ∀ c ∈ ins, mayC c.f0 c.f1 = true) (hT : ∀ t ∈ l, mayC t.f0.f0 t.f0.f1 = true) (hp : mayC t.f0.f0 t.f0.f1 = true) (hr3 : Kd.C k79 w A3 x.f3.f0.length x.f3.f0) (hr4 : Kd.C k79 w A4 x.f3.f1.length x.f3.f1) (hr0 : Kd.C k44 w A0 l.length l) (hr1 : Kd.C k25 w A1 ins.length ins) :
    Calls Try.prog 27 #[.agg #[.int .u8 x.f0, .int .i64 x.f1, .int .i64 x.f2, .slice A3 x.f3.f0.length c3, .slice A4 x.f3.f1.length c4, .int .i64 x.f3.f2], .agg #[.int .i64 t.f0.f0, .int .i64 t.f0.f1, .int .i64 t.f1, .int .i64 t.f2, .int .i64 t.f3, .slice A5 t.f4.length c5, .int .i64 t.f5], .slice A0 l.length c0, .slice A1 ins.length c1] w fun e w' => e = .returned (.bool (rdOk l ins t x)) ∧ Below w.heap.size w w' := by
  unfold rdOk
  cases hc : (mayCk x l ins).2.2 with
  | false =>
    rw [Bool.false_and]
    exact rmr_no w x t A3 A4 A5 A0 A1 c3 c4 c5 c0 c1 l ins hc hr3 hr4 hr0 hr1
  | true =>
    rw [Bool.true_and]
    exact rmr_yes w x t A3 A4 A5 A0 A1 c3 c4 c5 c0 c1 l ins _ _ (by rw [← hc]) (ck_may' hI hT hc) hp hr3 hr4 hr0 hr1
end Go.Proofs.Ytkabmpbfabgkfaa
