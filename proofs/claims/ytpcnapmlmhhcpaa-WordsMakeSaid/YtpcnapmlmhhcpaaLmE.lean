/-
  WordsMake in pieces: its code; from what is put together on; from what is dropped on.
  Conditions: the words lie in memory; their numbers are int64s.
-/
import Derived.Test.YtpcnapmlmhhcpaaGi
import Derived.Test.YtpcnapmlmhhcpaaGh
import Derived.Test.YtpcnapmlmhhcpaaGf
import Derived.Test.YtpcnapmlmhhcpaaGe
import Derived.Test.YtpcnapmlmhhcpaaGd
import Derived.WalkKit
import Derived.WalkSpells
import Derived.WalkLawsBesides
import Derived.Deep.QuietTactic
import Derived.BigQuiet
import Derived.Lib.Hide
import Derived.Handy
import Derived.Deep.CutBlock
set_option linter.unusedVariables false
set_option linter.unusedSimpArgs false
namespace Go.Proofs.Ytpcnapmlmhhcpaa
open Go.RowKit 
open Big
attribute [local go_sem] setCell_drewN alloc_drewN size_ext ext_ext ext_drewN ext_drew drewN_ext drew_ext cell?_ext frozen?_ext setCell_ext cell?_past1 frozen?_past1 setCell_past1 cell?_past2 frozen?_past2 setCell_past2 cell?_past3 frozen?_past3 setCell_past3 cell?_past4 frozen?_past4 setCell_past4 cell?_past5 frozen?_past5 setCell_past5 cell?_past6 frozen?_past6 setCell_past6 cell?_past7 frozen?_past7 setCell_past7 cell?_past8 frozen?_past8 setCell_past8
attribute [local go_sem] min_ab max_ab
/-- A row of statements, without its first ones. -/
def makeTail : Nat → Code → Code
  | 0, c => c
  | n + 1, .seq _ b => makeTail n b
  | _ + 1, c => c
noncomputable def makeC (k : Nat) : Code := makeTail k (Try.f4.body.getD .skip)
theorem cell_oth {W : World} {b c i j : Nat} {v : Value} (h : b ≠ c) : (W.setCell ⟨b, i, none⟩ v).cell? ⟨c, j, none⟩ = W.cell? ⟨c, j, none⟩ := by
  simp only [World.cell?]; rw [set_oth h]
set_option maxRecDepth 100000 in
set_option maxHeartbeats 40000000 in
theorem make21 (w W : World) (HVB : Hid (Below w.heap.size w W)) (a1 a2 b1 b2 d1 d2 u1 u2 g1 g2 z1 z2 : List Int) (pa qa pb qb pd qd pu qu pg qg pz qz : Option Addr) (sa ta sb tb sd td su tu sg tg sz tz : Nat) (Bt : Nat) (x1 x2 : Option Addr) (y1 y2 y3 y4 : Nat) (HT : Hid (W.heap[Bt]? = some (.cells #[.slice x1 y1 y2, .slice x2 y3 y4] 24))) (Nt : Bt < W.heap.size) (Lt : w.heap.size ≤ Bt) (RA1 : Hid (RowAt W (.slice pa a1.length sa) a1)) (RA2 : Hid (RowAt W (.slice qa a2.length ta) a2)) (Ba : Nat) (Ka0 : W.cell? ⟨Ba, 0, none⟩ = some (.slice pa a1.length sa)) (Ka1 : W.cell? ⟨Ba, 1, none⟩ = some (.slice qa a2.length ta)) (Na : Ba < W.heap.size) (La : Ba < Bt) (RB1 : Hid (RowAt W (.slice pb b1.length sb) b1)) (RB2 : Hid (RowAt W (.slice qb b2.length tb) b2)) (Bb : Nat) (Kb0 : W.cell? ⟨Bb, 0, none⟩ = some (.slice pb b1.length sb)) (Kb1 : W.cell? ⟨Bb, 1, none⟩ = some (.slice qb b2.length tb)) (Nb : Bb < W.heap.size) (Lb : Bb < Bt) (RD1 : Hid (RowAt W (.slice pd d1.length sd) d1)) (RD2 : Hid (RowAt W (.slice qd d2.length td) d2)) (Bd : Nat) (Kd0 : W.cell? ⟨Bd, 0, none⟩ = some (.slice pd d1.length sd)) (Kd1 : W.cell? ⟨Bd, 1, none⟩ = some (.slice qd d2.length td)) (Nd : Bd < W.heap.size) (Ld : Bd < Bt) (RU1 : Hid (RowAt W (.slice pu u1.length su) u1)) (RU2 : Hid (RowAt W (.slice qu u2.length tu) u2)) (Bu : Nat) (Ku0 : W.cell? ⟨Bu, 0, none⟩ = some (.slice pu u1.length su)) (Ku1 : W.cell? ⟨Bu, 1, none⟩ = some (.slice qu u2.length tu)) (Nu : Bu < W.heap.size) (Lu : Bu < Bt) (RG1 : Hid (RowAt W (.slice pg g1.length sg) g1)) (RG2 : Hid (RowAt W (.slice qg g2.length tg) g2)) (Bg : Nat) (Kg0 : W.cell? ⟨Bg, 0, none⟩ = some (.slice pg g1.length sg)) (Kg1 : W.cell? ⟨Bg, 1, none⟩ = some (.slice qg g2.length tg)) (Ng : Bg < W.heap.size) (Lg : Bg < Bt) (RZ1 : Hid (RowAt W (.slice pz z1.length sz) z1)) (RZ2 : Hid (RowAt W (.slice qz z2.length tz) z2)) (Bz : Nat) (Kz0 : W.cell? ⟨Bz, 0, none⟩ = some (.slice pz z1.length sz)) (Kz1 : W.cell? ⟨Bz, 1, none⟩ = some (.slice qz z2.length tz)) (Nz : Bz < W.heap.size) (Lz : Bz < Bt) (k : Int) (op : Nat) (Ed Eu Eg Ez : Int) (hk2 : Hid (k < 9223372036854775808)) (hop : op < 256) (MA : Hid (may a1 a2 = true)) (HLA : Hid (a1.length ≤ 200 ∧ a2.length ≤ 200)) (HLB : Hid (b1.length ≤ 200 ∧ b2.length ≤ 200)) (I_a1 : Hid (in64W a1 a2)) (I_b1 : Hid (in64W b1 b2)) (HZd : Hid (dropZ a1 a2 k = (d1, d2, Ed))) (HZu : Hid (upZ a1 a2 k = (u1, u2, Eu))) (HZg : Hid (downZ a1 a2 k = (g1, g2, Eg))) (HZz : Hid (zipZ op a1 a2 b1 b2 = (z1, z2, Ez))) (f0 f1 f3 f7 f8 f9 f10 f11 f14 f15 f23 f24 f25 f26 f27 f28 f29 f30 f31 f32 f33 f34 f35 f36 f37 f38 f39 f40 f41 f42 f43 f44 f45 f46 f47 f48 f49 f50 f51 f52 f53 f54 f55 f56 f57 f58 f59 f60 f61 f62 f63 f64 f65 f66 f67 f68 f69 f70 f71 f72 f73 f74 f75 f76 f77 f78 f79 f80 f81 f82 f83 f84 f85 f86 f87 f88 f89 f90 f91 f92 f93 f94 f95 f96 f97 f98 f99 f100 f101 f102 f103 f104 f105 f106 f107 f108 f109 f110 f111 f112 f113 f114 f115 f116 f117 f118 f119 f120 f121 f122 f123 f124 f125 f126 f127 f128 f129 f130 f131 f132 f133 f134 f135 f136 f137 f138 f139 f140 f141 f142 f143 f144 f145 f146 f147 f148 f149 f150 f151 f152 f153 f154 f155 f156 f157 f158 f159 f160 f161 f162 f163 f164 f165 f166 f167 f168 f169 f170 f171 f172 f173 f174 f175 f176 f177 f178 f179 : Value) : Code.wp Try.prog (makeC 21) (bodyPost Try.prog Try.f4 (fun e w' => e = .returned (.bool true) ∧ Below w.heap.size w w')) { tmps := #[f0, f1, .int .i64 k, f3, .int .u8 (op : Int), .pointer (some ⟨Ba, 0, none⟩), .pointer (some ⟨Bb, 0, none⟩), f7, f8, f9, f10, f11, .pointer (some ⟨Bd, 0, none⟩), .int .i64 Ed, f14, f15, .pointer (some ⟨Bu, 0, none⟩), .int .i64 Eu, .pointer (some ⟨Bg, 0, none⟩), .int .i64 Eg, .pointer (some ⟨Bz, 0, none⟩), .int .i64 Ez, .pointer (some ⟨Bt, 0, none⟩), f23, f24, f25, f26, f27, f28, f29, f30, f31, f32, f33, f34, f35, f36, f37, f38, f39, f40, f41, f42, f43, f44, f45, f46, f47, f48, f49, f50, f51, f52, f53, f54, f55, f56, f57, f58, f59, f60, f61, f62, f63, f64, f65, f66, f67, f68, f69, f70, f71, f72, f73, f74, f75, f76, f77, f78, f79, f80, f81, f82, f83, f84, f85, f86, f87, f88, f89, f90, f91, f92, f93, f94, f95, f96, f97, f98, f99, f100, f101, f102, f103, f104, f105, f106, f107, f108, f109, f110, f111, f112, f113, f114, f115, f116, f117, f118, f119, f120, f121, f122, f123, f124, f125, f126, f127, f128, f129, f130, f131, f132, f133, f134, f135, f136, f137, f138, f139, f140, f141, f142, f143, f144, f145, f146, f147, f148, f149, f150, f151, f152, f153, f154, f155, f156, f157, f158, f159, f160, f161, f162, f163, f164, f165, f166, f167, f168, f169, f170, f171, f172, f173, f174, f175, f176, f177, f178, f179], defers := [] } W := by
  conv => arg 2; whnf
  obtain ⟨T0, T1⟩ := cell_of HT.out
  have TF := frozen_of HT.out
  go_upto_region 32 with (fail)
  obtain ⟨S1, hS1⟩ : ∃ V, V = (W.setCell ⟨Bt, 0, none⟩ (.slice none 0 0)).setCell ⟨Bt, 1, none⟩ (.slice none 0 0) := ⟨_, rfl⟩
  rw [← hS1]
  have hs0 := set_word0 HT.out (.slice none 0 0)
  replace RA1 := Lib.hid (show RowAt S1 _ _ by rw [hS1]; exact (RA1.out.put HT.out 0 _).put hs0 1 _)
  replace RA2 := Lib.hid (show RowAt S1 _ _ by rw [hS1]; exact (RA2.out.put HT.out 0 _).put hs0 1 _)
  replace RB1 := Lib.hid (show RowAt S1 _ _ by rw [hS1]; exact (RB1.out.put HT.out 0 _).put hs0 1 _)
  replace RB2 := Lib.hid (show RowAt S1 _ _ by rw [hS1]; exact (RB2.out.put HT.out 0 _).put hs0 1 _)
  replace RD1 := Lib.hid (show RowAt S1 _ _ by rw [hS1]; exact (RD1.out.put HT.out 0 _).put hs0 1 _)
  replace RD2 := Lib.hid (show RowAt S1 _ _ by rw [hS1]; exact (RD2.out.put HT.out 0 _).put hs0 1 _)
  replace RU1 := Lib.hid (show RowAt S1 _ _ by rw [hS1]; exact (RU1.out.put HT.out 0 _).put hs0 1 _)
  replace RU2 := Lib.hid (show RowAt S1 _ _ by rw [hS1]; exact (RU2.out.put HT.out 0 _).put hs0 1 _)
  replace RG1 := Lib.hid (show RowAt S1 _ _ by rw [hS1]; exact (RG1.out.put HT.out 0 _).put hs0 1 _)
  replace RG2 := Lib.hid (show RowAt S1 _ _ by rw [hS1]; exact (RG2.out.put HT.out 0 _).put hs0 1 _)
  replace RZ1 := Lib.hid (show RowAt S1 _ _ by rw [hS1]; exact (RZ1.out.put HT.out 0 _).put hs0 1 _)
  replace RZ2 := Lib.hid (show RowAt S1 _ _ by rw [hS1]; exact (RZ2.out.put HT.out 0 _).put hs0 1 _)
  replace HVB := Lib.hid (show Below w.heap.size w S1 by rw [hS1]; exact (HVB.out.setCell Lt _).setCell Lt _)
  replace Ka0 := ((congrArg (fun W' => W'.cell? ⟨Ba, 0, none⟩) hS1).trans ((cell_oth (by omega)).trans (cell_oth (by omega)))).trans Ka0
  replace Ka1 := ((congrArg (fun W' => W'.cell? ⟨Ba, 1, none⟩) hS1).trans ((cell_oth (by omega)).trans (cell_oth (by omega)))).trans Ka1
  replace Na : Ba < S1.heap.size := by rw [hS1, World.size_setCell, World.size_setCell]; exact Na
  replace Kb0 := ((congrArg (fun W' => W'.cell? ⟨Bb, 0, none⟩) hS1).trans ((cell_oth (by omega)).trans (cell_oth (by omega)))).trans Kb0
  replace Kb1 := ((congrArg (fun W' => W'.cell? ⟨Bb, 1, none⟩) hS1).trans ((cell_oth (by omega)).trans (cell_oth (by omega)))).trans Kb1
  replace Nb : Bb < S1.heap.size := by rw [hS1, World.size_setCell, World.size_setCell]; exact Nb
  replace Kd0 := ((congrArg (fun W' => W'.cell? ⟨Bd, 0, none⟩) hS1).trans ((cell_oth (by omega)).trans (cell_oth (by omega)))).trans Kd0
  replace Kd1 := ((congrArg (fun W' => W'.cell? ⟨Bd, 1, none⟩) hS1).trans ((cell_oth (by omega)).trans (cell_oth (by omega)))).trans Kd1
  replace Nd : Bd < S1.heap.size := by rw [hS1, World.size_setCell, World.size_setCell]; exact Nd
  replace Ku0 := ((congrArg (fun W' => W'.cell? ⟨Bu, 0, none⟩) hS1).trans ((cell_oth (by omega)).trans (cell_oth (by omega)))).trans Ku0
  replace Ku1 := ((congrArg (fun W' => W'.cell? ⟨Bu, 1, none⟩) hS1).trans ((cell_oth (by omega)).trans (cell_oth (by omega)))).trans Ku1
  replace Nu : Bu < S1.heap.size := by rw [hS1, World.size_setCell, World.size_setCell]; exact Nu
  replace Kg0 := ((congrArg (fun W' => W'.cell? ⟨Bg, 0, none⟩) hS1).trans ((cell_oth (by omega)).trans (cell_oth (by omega)))).trans Kg0
  replace Kg1 := ((congrArg (fun W' => W'.cell? ⟨Bg, 1, none⟩) hS1).trans ((cell_oth (by omega)).trans (cell_oth (by omega)))).trans Kg1
  replace Ng : Bg < S1.heap.size := by rw [hS1, World.size_setCell, World.size_setCell]; exact Ng
  replace Kz0 := ((congrArg (fun W' => W'.cell? ⟨Bz, 0, none⟩) hS1).trans ((cell_oth (by omega)).trans (cell_oth (by omega)))).trans Kz0
  replace Kz1 := ((congrArg (fun W' => W'.cell? ⟨Bz, 1, none⟩) hS1).trans ((cell_oth (by omega)).trans (cell_oth (by omega)))).trans Kz1
  replace Nz : Bz < S1.heap.size := by rw [hS1, World.size_setCell, World.size_setCell]; exact Nz
  replace HT := Lib.hid (show S1.heap[Bt]? = some (.cells #[.slice none 0 0, .slice none 0 0] 24) by rw [hS1]; exact set_word1 hs0 _)
  replace Nt : Bt < S1.heap.size := by rw [hS1, World.size_setCell, World.size_setCell]; exact Nt
  clear hS1 hs0 T0 T1 TF
  cases hmb : may b1 b2 with
  | false =>
    have HMB := Lib.hid hmb
    have hz := HZz.out
    unfold zipZ zipF at hz
    have hno : ¬ (nE a1 a2 = 0 ∧ nE b1 b2 = 0) := fun h => by
      have := nE_may h.2
      rw [hmb] at this
      cases this
    rw [if_neg hno, ite_self] at hz
    obtain ⟨rfl, rfl, rfl⟩ := trip hz
    clear hz
    clear hmb hno
    have RT1 := Lib.hid (RowAt.nil S1)
    have RT2 := Lib.hid (RowAt.nil S1)
    go_wp2_with fail
    refine (rmay_any _ _ _ b1 b2 (RB1.out.below (by repeat (first | (with_reducible exact Below.refl _ _) | (with_reducible assumption) | (with_reducible refine below_drewN ?_ _) | (with_reducible refine Below.drew ?_) | (with_reducible refine below_ext_of ?_ (by first | exact Nat.le_refl _ | assumption | (simp only [World.size_alloc, World.size_setCell, size_ext, World.heap_drewN]; omega)) _ _) | (with_reducible refine Below.alloc ?_ (by first | exact Nat.le_refl _ | assumption | (simp only [World.size_alloc, World.size_setCell, size_ext, World.heap_drewN]; omega)) _) | (with_reducible refine Below.setCell ?_ (by first | exact Nat.le_refl _ | assumption | (simp only [World.size_alloc, World.size_setCell, size_ext, World.heap_drewN]; omega)) _)))) (RB2.out.below (by repeat (first | (with_reducible exact Below.refl _ _) | (with_reducible assumption) | (with_reducible refine below_drewN ?_ _) | (with_reducible refine Below.drew ?_) | (with_reducible refine below_ext_of ?_ (by first | exact Nat.le_refl _ | assumption | (simp only [World.size_alloc, World.size_setCell, size_ext, World.heap_drewN]; omega)) _ _) | (with_reducible refine Below.alloc ?_ (by first | exact Nat.le_refl _ | assumption | (simp only [World.size_alloc, World.size_setCell, size_ext, World.heap_drewN]; omega)) _) | (with_reducible refine Below.setCell ?_ (by first | exact Nat.le_refl _ | assumption | (simp only [World.size_alloc, World.size_setCell, size_ext, World.heap_drewN]; omega)) _))))).mono ?_
    rintro e W1 ⟨rfl, hb⟩
    have hB : Below S1.heap.size S1 W1 := Below.trans (by repeat (first | (with_reducible exact Below.refl _ _) | (with_reducible assumption) | (with_reducible refine below_drewN ?_ _) | (with_reducible refine Below.drew ?_) | (with_reducible refine below_ext_of ?_ (by first | exact Nat.le_refl _ | assumption | (simp only [World.size_alloc, World.size_setCell, size_ext, World.heap_drewN]; omega)) _ _) | (with_reducible refine Below.alloc ?_ (by first | exact Nat.le_refl _ | assumption | (simp only [World.size_alloc, World.size_setCell, size_ext, World.heap_drewN]; omega)) _) | (with_reducible refine Below.setCell ?_ (by first | exact Nat.le_refl _ | assumption | (simp only [World.size_alloc, World.size_setCell, size_ext, World.heap_drewN]; omega)) _))) (hb.mono (by simp [go_sem] <;> omega))
    replace RA1 := Lib.hid (RA1.out.below hB)
    replace RA2 := Lib.hid (RA2.out.below hB)
    replace RB1 := Lib.hid (RB1.out.below hB)
    replace RB2 := Lib.hid (RB2.out.below hB)
    replace RD1 := Lib.hid (RD1.out.below hB)
    replace RD2 := Lib.hid (RD2.out.below hB)
    replace RU1 := Lib.hid (RU1.out.below hB)
    replace RU2 := Lib.hid (RU2.out.below hB)
    replace RG1 := Lib.hid (RG1.out.below hB)
    replace RG2 := Lib.hid (RG2.out.below hB)
    replace RZ1 := Lib.hid (RZ1.out.below hB)
    replace RZ2 := Lib.hid (RZ2.out.below hB)
    replace RT1 := Lib.hid (RT1.out.below hB)
    replace RT2 := Lib.hid (RT2.out.below hB)
    replace HVB := Lib.hid (HVB.out.trans (hB.mono HVB.out.size))
    replace Ka0 := keep_cell hB Na Ka0
    replace Ka1 := keep_cell hB Na Ka1
    replace Na := Nat.lt_of_lt_of_le Na hB.size
    replace Kb0 := keep_cell hB Nb Kb0
    replace Kb1 := keep_cell hB Nb Kb1
    replace Nb := Nat.lt_of_lt_of_le Nb hB.size
    replace Kd0 := keep_cell hB Nd Kd0
    replace Kd1 := keep_cell hB Nd Kd1
    replace Nd := Nat.lt_of_lt_of_le Nd hB.size
    replace Ku0 := keep_cell hB Nu Ku0
    replace Ku1 := keep_cell hB Nu Ku1
    replace Nu := Nat.lt_of_lt_of_le Nu hB.size
    replace Kg0 := keep_cell hB Ng Kg0
    replace Kg1 := keep_cell hB Ng Kg1
    replace Ng := Nat.lt_of_lt_of_le Ng hB.size
    replace Kz0 := keep_cell hB Nz Kz0
    replace Kz1 := keep_cell hB Nz Kz1
    replace Nz := Nat.lt_of_lt_of_le Nz hB.size
    replace HT := Lib.hid ((hB.block _ Nt).trans HT.out)
    replace Nt := Nat.lt_of_lt_of_le Nt hB.size
    rw [HMB.out]
    clear hb hB
    obtain ⟨T0, T1⟩ := cell_of HT.out
    have TF := frozen_of HT.out
    go_wp2_with fail
    refine (lsame_true _ _ _ _ _ _ _ _ (RZ1.out.below (by repeat (first | (with_reducible exact Below.refl _ _) | (with_reducible assumption) | (with_reducible refine below_drewN ?_ _) | (with_reducible refine Below.drew ?_) | (with_reducible refine below_ext_of ?_ (by first | exact Nat.le_refl _ | assumption | (simp only [World.size_alloc, World.size_setCell, size_ext, World.heap_drewN]; omega)) _ _) | (with_reducible refine Below.alloc ?_ (by first | exact Nat.le_refl _ | assumption | (simp only [World.size_alloc, World.size_setCell, size_ext, World.heap_drewN]; omega)) _) | (with_reducible refine Below.setCell ?_ (by first | exact Nat.le_refl _ | assumption | (simp only [World.size_alloc, World.size_setCell, size_ext, World.heap_drewN]; omega)) _)))) (RZ2.out.below (by repeat (first | (with_reducible exact Below.refl _ _) | (with_reducible assumption) | (with_reducible refine below_drewN ?_ _) | (with_reducible refine Below.drew ?_) | (with_reducible refine below_ext_of ?_ (by first | exact Nat.le_refl _ | assumption | (simp only [World.size_alloc, World.size_setCell, size_ext, World.heap_drewN]; omega)) _ _) | (with_reducible refine Below.alloc ?_ (by first | exact Nat.le_refl _ | assumption | (simp only [World.size_alloc, World.size_setCell, size_ext, World.heap_drewN]; omega)) _) | (with_reducible refine Below.setCell ?_ (by first | exact Nat.le_refl _ | assumption | (simp only [World.size_alloc, World.size_setCell, size_ext, World.heap_drewN]; omega)) _)))) (RT1.out.below (by repeat (first | (with_reducible exact Below.refl _ _) | (with_reducible assumption) | (with_reducible refine below_drewN ?_ _) | (with_reducible refine Below.drew ?_) | (with_reducible refine below_ext_of ?_ (by first | exact Nat.le_refl _ | assumption | (simp only [World.size_alloc, World.size_setCell, size_ext, World.heap_drewN]; omega)) _ _) | (with_reducible refine Below.alloc ?_ (by first | exact Nat.le_refl _ | assumption | (simp only [World.size_alloc, World.size_setCell, size_ext, World.heap_drewN]; omega)) _) | (with_reducible refine Below.setCell ?_ (by first | exact Nat.le_refl _ | assumption | (simp only [World.size_alloc, World.size_setCell, size_ext, World.heap_drewN]; omega)) _)))) (RT2.out.below (by repeat (first | (with_reducible exact Below.refl _ _) | (with_reducible assumption) | (with_reducible refine below_drewN ?_ _) | (with_reducible refine Below.drew ?_) | (with_reducible refine below_ext_of ?_ (by first | exact Nat.le_refl _ | assumption | (simp only [World.size_alloc, World.size_setCell, size_ext, World.heap_drewN]; omega)) _ _) | (with_reducible refine Below.alloc ?_ (by first | exact Nat.le_refl _ | assumption | (simp only [World.size_alloc, World.size_setCell, size_ext, World.heap_drewN]; omega)) _) | (with_reducible refine Below.setCell ?_ (by first | exact Nat.le_refl _ | assumption | (simp only [World.size_alloc, World.size_setCell, size_ext, World.heap_drewN]; omega)) _))))).mono ?_
    rintro e W2 ⟨rfl, hb⟩
    have hB : Below W1.heap.size W1 W2 := Below.trans (by repeat (first | (with_reducible exact Below.refl _ _) | (with_reducible assumption) | (with_reducible refine below_drewN ?_ _) | (with_reducible refine Below.drew ?_) | (with_reducible refine below_ext_of ?_ (by first | exact Nat.le_refl _ | assumption | (simp only [World.size_alloc, World.size_setCell, size_ext, World.heap_drewN]; omega)) _ _) | (with_reducible refine Below.alloc ?_ (by first | exact Nat.le_refl _ | assumption | (simp only [World.size_alloc, World.size_setCell, size_ext, World.heap_drewN]; omega)) _) | (with_reducible refine Below.setCell ?_ (by first | exact Nat.le_refl _ | assumption | (simp only [World.size_alloc, World.size_setCell, size_ext, World.heap_drewN]; omega)) _))) (hb.mono (by simp [go_sem] <;> omega))
    replace RA1 := Lib.hid (RA1.out.below hB)
    replace RA2 := Lib.hid (RA2.out.below hB)
    replace RB1 := Lib.hid (RB1.out.below hB)
    replace RB2 := Lib.hid (RB2.out.below hB)
    replace RD1 := Lib.hid (RD1.out.below hB)
    replace RD2 := Lib.hid (RD2.out.below hB)
    replace RU1 := Lib.hid (RU1.out.below hB)
    replace RU2 := Lib.hid (RU2.out.below hB)
    replace RG1 := Lib.hid (RG1.out.below hB)
    replace RG2 := Lib.hid (RG2.out.below hB)
    replace RZ1 := Lib.hid (RZ1.out.below hB)
    replace RZ2 := Lib.hid (RZ2.out.below hB)
    replace RT1 := Lib.hid (RT1.out.below hB)
    replace RT2 := Lib.hid (RT2.out.below hB)
    replace HVB := Lib.hid (HVB.out.trans (hB.mono HVB.out.size))
    replace Ka0 := keep_cell hB Na Ka0
    replace Ka1 := keep_cell hB Na Ka1
    replace Na := Nat.lt_of_lt_of_le Na hB.size
    replace Kb0 := keep_cell hB Nb Kb0
    replace Kb1 := keep_cell hB Nb Kb1
    replace Nb := Nat.lt_of_lt_of_le Nb hB.size
    replace Kd0 := keep_cell hB Nd Kd0
    replace Kd1 := keep_cell hB Nd Kd1
    replace Nd := Nat.lt_of_lt_of_le Nd hB.size
    replace Ku0 := keep_cell hB Nu Ku0
    replace Ku1 := keep_cell hB Nu Ku1
    replace Nu := Nat.lt_of_lt_of_le Nu hB.size
    replace Kg0 := keep_cell hB Ng Kg0
    replace Kg1 := keep_cell hB Ng Kg1
    replace Ng := Nat.lt_of_lt_of_le Ng hB.size
    replace Kz0 := keep_cell hB Nz Kz0
    replace Kz1 := keep_cell hB Nz Kz1
    replace Nz := Nat.lt_of_lt_of_le Nz hB.size
    replace HT := Lib.hid ((hB.block _ Nt).trans HT.out)
    replace Nt := Nat.lt_of_lt_of_le Nt hB.size
    clear T0 T1 TF
    clear hb hB
    go_wp2_with fail
    refine (works_any _).mono ?_
    rintro e W3 ⟨rfl, hb⟩
    have hB : Below W2.heap.size W2 W3 := Below.trans (by repeat (first | (with_reducible exact Below.refl _ _) | (with_reducible assumption) | (with_reducible refine below_drewN ?_ _) | (with_reducible refine Below.drew ?_) | (with_reducible refine below_ext_of ?_ (by first | exact Nat.le_refl _ | assumption | (simp only [World.size_alloc, World.size_setCell, size_ext, World.heap_drewN]; omega)) _ _) | (with_reducible refine Below.alloc ?_ (by first | exact Nat.le_refl _ | assumption | (simp only [World.size_alloc, World.size_setCell, size_ext, World.heap_drewN]; omega)) _) | (with_reducible refine Below.setCell ?_ (by first | exact Nat.le_refl _ | assumption | (simp only [World.size_alloc, World.size_setCell, size_ext, World.heap_drewN]; omega)) _))) (hb.mono (by simp [go_sem] <;> omega))
    replace RA1 := Lib.hid (RA1.out.below hB)
    replace RA2 := Lib.hid (RA2.out.below hB)
    replace RB1 := Lib.hid (RB1.out.below hB)
    replace RB2 := Lib.hid (RB2.out.below hB)
    replace RD1 := Lib.hid (RD1.out.below hB)
    replace RD2 := Lib.hid (RD2.out.below hB)
    replace RU1 := Lib.hid (RU1.out.below hB)
    replace RU2 := Lib.hid (RU2.out.below hB)
    replace RG1 := Lib.hid (RG1.out.below hB)
    replace RG2 := Lib.hid (RG2.out.below hB)
    replace RZ1 := Lib.hid (RZ1.out.below hB)
    replace RZ2 := Lib.hid (RZ2.out.below hB)
    replace RT1 := Lib.hid (RT1.out.below hB)
    replace RT2 := Lib.hid (RT2.out.below hB)
    replace HVB := Lib.hid (HVB.out.trans (hB.mono HVB.out.size))
    replace Ka0 := keep_cell hB Na Ka0
    replace Ka1 := keep_cell hB Na Ka1
    replace Na := Nat.lt_of_lt_of_le Na hB.size
    replace Kb0 := keep_cell hB Nb Kb0
    replace Kb1 := keep_cell hB Nb Kb1
    replace Nb := Nat.lt_of_lt_of_le Nb hB.size
    replace Kd0 := keep_cell hB Nd Kd0
    replace Kd1 := keep_cell hB Nd Kd1
    replace Nd := Nat.lt_of_lt_of_le Nd hB.size
    replace Ku0 := keep_cell hB Nu Ku0
    replace Ku1 := keep_cell hB Nu Ku1
    replace Nu := Nat.lt_of_lt_of_le Nu hB.size
    replace Kg0 := keep_cell hB Ng Kg0
    replace Kg1 := keep_cell hB Ng Kg1
    replace Ng := Nat.lt_of_lt_of_le Ng hB.size
    replace Kz0 := keep_cell hB Nz Kz0
    replace Kz1 := keep_cell hB Nz Kz1
    replace Nz := Nat.lt_of_lt_of_le Nz hB.size
    replace HT := Lib.hid ((hB.block _ Nt).trans HT.out)
    replace Nt := Nat.lt_of_lt_of_le Nt hB.size
    clear hb hB
    go_wp2_with fail
    go_ret
    exact ⟨rfl, HVB.out⟩
  | true =>
    by_cases ho : 1 ≤ op
    · by_cases ho4 : op ≤ 4
      · have HMB := Lib.hid hmb
        have hz := HZz.out
        unfold zipZ at hz
        have hov : op = 1 ∨ op = 2 ∨ op = 3 ∨ op = 4 := by omega
        rw [if_pos hov, zipF_of ⟨(may_norm MA.out).1, (may_norm hmb).1⟩] at hz
        have HY := Lib.hid hz
        have HOV := Lib.hid hov
        have k1 : (1 : Int) ≤ (op : Int) := by omega
        have k2 : decide ((op : Int) ≥ 1) = true := decide_eq_true k1
        have k3 : (op : Int) ≤ 4 := by omega
        have k4 : decide ((op : Int) ≤ 4) = true := decide_eq_true k3
        clear hz hmb hov
        go_wp2_with fail
        refine (rmay_any _ _ _ b1 b2 (RB1.out.below (by repeat (first | (with_reducible exact Below.refl _ _) | (with_reducible assumption) | (with_reducible refine below_drewN ?_ _) | (with_reducible refine Below.drew ?_) | (with_reducible refine below_ext_of ?_ (by first | exact Nat.le_refl _ | assumption | (simp only [World.size_alloc, World.size_setCell, size_ext, World.heap_drewN]; omega)) _ _) | (with_reducible refine Below.alloc ?_ (by first | exact Nat.le_refl _ | assumption | (simp only [World.size_alloc, World.size_setCell, size_ext, World.heap_drewN]; omega)) _) | (with_reducible refine Below.setCell ?_ (by first | exact Nat.le_refl _ | assumption | (simp only [World.size_alloc, World.size_setCell, size_ext, World.heap_drewN]; omega)) _)))) (RB2.out.below (by repeat (first | (with_reducible exact Below.refl _ _) | (with_reducible assumption) | (with_reducible refine below_drewN ?_ _) | (with_reducible refine Below.drew ?_) | (with_reducible refine below_ext_of ?_ (by first | exact Nat.le_refl _ | assumption | (simp only [World.size_alloc, World.size_setCell, size_ext, World.heap_drewN]; omega)) _ _) | (with_reducible refine Below.alloc ?_ (by first | exact Nat.le_refl _ | assumption | (simp only [World.size_alloc, World.size_setCell, size_ext, World.heap_drewN]; omega)) _) | (with_reducible refine Below.setCell ?_ (by first | exact Nat.le_refl _ | assumption | (simp only [World.size_alloc, World.size_setCell, size_ext, World.heap_drewN]; omega)) _))))).mono ?_
        rintro e W1 ⟨rfl, hb⟩
        have hB : Below S1.heap.size S1 W1 := Below.trans (by repeat (first | (with_reducible exact Below.refl _ _) | (with_reducible assumption) | (with_reducible refine below_drewN ?_ _) | (with_reducible refine Below.drew ?_) | (with_reducible refine below_ext_of ?_ (by first | exact Nat.le_refl _ | assumption | (simp only [World.size_alloc, World.size_setCell, size_ext, World.heap_drewN]; omega)) _ _) | (with_reducible refine Below.alloc ?_ (by first | exact Nat.le_refl _ | assumption | (simp only [World.size_alloc, World.size_setCell, size_ext, World.heap_drewN]; omega)) _) | (with_reducible refine Below.setCell ?_ (by first | exact Nat.le_refl _ | assumption | (simp only [World.size_alloc, World.size_setCell, size_ext, World.heap_drewN]; omega)) _))) (hb.mono (by simp [go_sem] <;> omega))
        replace RA1 := Lib.hid (RA1.out.below hB)
        replace RA2 := Lib.hid (RA2.out.below hB)
        replace RB1 := Lib.hid (RB1.out.below hB)
        replace RB2 := Lib.hid (RB2.out.below hB)
        replace RD1 := Lib.hid (RD1.out.below hB)
        replace RD2 := Lib.hid (RD2.out.below hB)
        replace RU1 := Lib.hid (RU1.out.below hB)
        replace RU2 := Lib.hid (RU2.out.below hB)
        replace RG1 := Lib.hid (RG1.out.below hB)
        replace RG2 := Lib.hid (RG2.out.below hB)
        replace RZ1 := Lib.hid (RZ1.out.below hB)
        replace RZ2 := Lib.hid (RZ2.out.below hB)
        replace HVB := Lib.hid (HVB.out.trans (hB.mono HVB.out.size))
        replace Ka0 := keep_cell hB Na Ka0
        replace Ka1 := keep_cell hB Na Ka1
        replace Na := Nat.lt_of_lt_of_le Na hB.size
        replace Kb0 := keep_cell hB Nb Kb0
        replace Kb1 := keep_cell hB Nb Kb1
        replace Nb := Nat.lt_of_lt_of_le Nb hB.size
        replace Kd0 := keep_cell hB Nd Kd0
        replace Kd1 := keep_cell hB Nd Kd1
        replace Nd := Nat.lt_of_lt_of_le Nd hB.size
        replace Ku0 := keep_cell hB Nu Ku0
        replace Ku1 := keep_cell hB Nu Ku1
        replace Nu := Nat.lt_of_lt_of_le Nu hB.size
        replace Kg0 := keep_cell hB Ng Kg0
        replace Kg1 := keep_cell hB Ng Kg1
        replace Ng := Nat.lt_of_lt_of_le Ng hB.size
        replace Kz0 := keep_cell hB Nz Kz0
        replace Kz1 := keep_cell hB Nz Kz1
        replace Nz := Nat.lt_of_lt_of_le Nz hB.size
        replace HT := Lib.hid ((hB.block _ Nt).trans HT.out)
        replace Nt := Nat.lt_of_lt_of_le Nt hB.size
        rw [HMB.out]
        clear hb hB
        go_wp2_with fail
        refine (rzip_call _ op HOV.out _ _ _ _ a1 a2 b1 b2 z1 z2 Ez (RA1.out.below (by repeat (first | (with_reducible exact Below.refl _ _) | (with_reducible assumption) | (with_reducible refine below_drewN ?_ _) | (with_reducible refine Below.drew ?_) | (with_reducible refine below_ext_of ?_ (by first | exact Nat.le_refl _ | assumption | (simp only [World.size_alloc, World.size_setCell, size_ext, World.heap_drewN]; omega)) _ _) | (with_reducible refine Below.alloc ?_ (by first | exact Nat.le_refl _ | assumption | (simp only [World.size_alloc, World.size_setCell, size_ext, World.heap_drewN]; omega)) _) | (with_reducible refine Below.setCell ?_ (by first | exact Nat.le_refl _ | assumption | (simp only [World.size_alloc, World.size_setCell, size_ext, World.heap_drewN]; omega)) _)))) (RA2.out.below (by repeat (first | (with_reducible exact Below.refl _ _) | (with_reducible assumption) | (with_reducible refine below_drewN ?_ _) | (with_reducible refine Below.drew ?_) | (with_reducible refine below_ext_of ?_ (by first | exact Nat.le_refl _ | assumption | (simp only [World.size_alloc, World.size_setCell, size_ext, World.heap_drewN]; omega)) _ _) | (with_reducible refine Below.alloc ?_ (by first | exact Nat.le_refl _ | assumption | (simp only [World.size_alloc, World.size_setCell, size_ext, World.heap_drewN]; omega)) _) | (with_reducible refine Below.setCell ?_ (by first | exact Nat.le_refl _ | assumption | (simp only [World.size_alloc, World.size_setCell, size_ext, World.heap_drewN]; omega)) _)))) (RB1.out.below (by repeat (first | (with_reducible exact Below.refl _ _) | (with_reducible assumption) | (with_reducible refine below_drewN ?_ _) | (with_reducible refine Below.drew ?_) | (with_reducible refine below_ext_of ?_ (by first | exact Nat.le_refl _ | assumption | (simp only [World.size_alloc, World.size_setCell, size_ext, World.heap_drewN]; omega)) _ _) | (with_reducible refine Below.alloc ?_ (by first | exact Nat.le_refl _ | assumption | (simp only [World.size_alloc, World.size_setCell, size_ext, World.heap_drewN]; omega)) _) | (with_reducible refine Below.setCell ?_ (by first | exact Nat.le_refl _ | assumption | (simp only [World.size_alloc, World.size_setCell, size_ext, World.heap_drewN]; omega)) _)))) (RB2.out.below (by repeat (first | (with_reducible exact Below.refl _ _) | (with_reducible assumption) | (with_reducible refine below_drewN ?_ _) | (with_reducible refine Below.drew ?_) | (with_reducible refine below_ext_of ?_ (by first | exact Nat.le_refl _ | assumption | (simp only [World.size_alloc, World.size_setCell, size_ext, World.heap_drewN]; omega)) _ _) | (with_reducible refine Below.alloc ?_ (by first | exact Nat.le_refl _ | assumption | (simp only [World.size_alloc, World.size_setCell, size_ext, World.heap_drewN]; omega)) _) | (with_reducible refine Below.setCell ?_ (by first | exact Nat.le_refl _ | assumption | (simp only [World.size_alloc, World.size_setCell, size_ext, World.heap_drewN]; omega)) _)))) MA.out HMB.out HLA.out.1 HLA.out.2 HLB.out.1 HLB.out.2 I_a1.out I_b1.out HY.out).mono ?_
        rintro e W2 ⟨hb, xp, xc, xq, xt, rfl, r1, r2⟩
        have hB : Below W1.heap.size W1 W2 := Below.trans (by repeat (first | (with_reducible exact Below.refl _ _) | (with_reducible assumption) | (with_reducible refine below_drewN ?_ _) | (with_reducible refine Below.drew ?_) | (with_reducible refine below_ext_of ?_ (by first | exact Nat.le_refl _ | assumption | (simp only [World.size_alloc, World.size_setCell, size_ext, World.heap_drewN]; omega)) _ _) | (with_reducible refine Below.alloc ?_ (by first | exact Nat.le_refl _ | assumption | (simp only [World.size_alloc, World.size_setCell, size_ext, World.heap_drewN]; omega)) _) | (with_reducible refine Below.setCell ?_ (by first | exact Nat.le_refl _ | assumption | (simp only [World.size_alloc, World.size_setCell, size_ext, World.heap_drewN]; omega)) _))) (hb.mono (by simp [go_sem] <;> omega))
        replace RA1 := Lib.hid (RA1.out.below hB)
        replace RA2 := Lib.hid (RA2.out.below hB)
        replace RB1 := Lib.hid (RB1.out.below hB)
        replace RB2 := Lib.hid (RB2.out.below hB)
        replace RD1 := Lib.hid (RD1.out.below hB)
        replace RD2 := Lib.hid (RD2.out.below hB)
        replace RU1 := Lib.hid (RU1.out.below hB)
        replace RU2 := Lib.hid (RU2.out.below hB)
        replace RG1 := Lib.hid (RG1.out.below hB)
        replace RG2 := Lib.hid (RG2.out.below hB)
        replace RZ1 := Lib.hid (RZ1.out.below hB)
        replace RZ2 := Lib.hid (RZ2.out.below hB)
        replace HVB := Lib.hid (HVB.out.trans (hB.mono HVB.out.size))
        replace Ka0 := keep_cell hB Na Ka0
        replace Ka1 := keep_cell hB Na Ka1
        replace Na := Nat.lt_of_lt_of_le Na hB.size
        replace Kb0 := keep_cell hB Nb Kb0
        replace Kb1 := keep_cell hB Nb Kb1
        replace Nb := Nat.lt_of_lt_of_le Nb hB.size
        replace Kd0 := keep_cell hB Nd Kd0
        replace Kd1 := keep_cell hB Nd Kd1
        replace Nd := Nat.lt_of_lt_of_le Nd hB.size
        replace Ku0 := keep_cell hB Nu Ku0
        replace Ku1 := keep_cell hB Nu Ku1
        replace Nu := Nat.lt_of_lt_of_le Nu hB.size
        replace Kg0 := keep_cell hB Ng Kg0
        replace Kg1 := keep_cell hB Ng Kg1
        replace Ng := Nat.lt_of_lt_of_le Ng hB.size
        replace Kz0 := keep_cell hB Nz Kz0
        replace Kz1 := keep_cell hB Nz Kz1
        replace Nz := Nat.lt_of_lt_of_le Nz hB.size
        replace HT := Lib.hid ((hB.block _ Nt).trans HT.out)
        replace Nt := Nat.lt_of_lt_of_le Nt hB.size
        have RT1 := Lib.hid r1
        have RT2 := Lib.hid r2
        clear r1 r2
        clear hb hB
        obtain ⟨T0, T1⟩ := cell_of HT.out
        have TF := frozen_of HT.out
        go_upto_region 34 with (fail)
        obtain ⟨S3, hS3⟩ : ∃ V, V = (W2.setCell ⟨Bt, 0, none⟩ (.slice xp z1.length xc)).setCell ⟨Bt, 1, none⟩ (.slice xq z2.length xt) := ⟨_, rfl⟩
        rw [← hS3]
        have hs0 := set_word0 HT.out (.slice xp z1.length xc)
        replace RA1 := Lib.hid (show RowAt S3 _ _ by rw [hS3]; exact (RA1.out.put HT.out 0 _).put hs0 1 _)
        replace RA2 := Lib.hid (show RowAt S3 _ _ by rw [hS3]; exact (RA2.out.put HT.out 0 _).put hs0 1 _)
        replace RB1 := Lib.hid (show RowAt S3 _ _ by rw [hS3]; exact (RB1.out.put HT.out 0 _).put hs0 1 _)
        replace RB2 := Lib.hid (show RowAt S3 _ _ by rw [hS3]; exact (RB2.out.put HT.out 0 _).put hs0 1 _)
        replace RD1 := Lib.hid (show RowAt S3 _ _ by rw [hS3]; exact (RD1.out.put HT.out 0 _).put hs0 1 _)
        replace RD2 := Lib.hid (show RowAt S3 _ _ by rw [hS3]; exact (RD2.out.put HT.out 0 _).put hs0 1 _)
        replace RU1 := Lib.hid (show RowAt S3 _ _ by rw [hS3]; exact (RU1.out.put HT.out 0 _).put hs0 1 _)
        replace RU2 := Lib.hid (show RowAt S3 _ _ by rw [hS3]; exact (RU2.out.put HT.out 0 _).put hs0 1 _)
        replace RG1 := Lib.hid (show RowAt S3 _ _ by rw [hS3]; exact (RG1.out.put HT.out 0 _).put hs0 1 _)
        replace RG2 := Lib.hid (show RowAt S3 _ _ by rw [hS3]; exact (RG2.out.put HT.out 0 _).put hs0 1 _)
        replace RZ1 := Lib.hid (show RowAt S3 _ _ by rw [hS3]; exact (RZ1.out.put HT.out 0 _).put hs0 1 _)
        replace RZ2 := Lib.hid (show RowAt S3 _ _ by rw [hS3]; exact (RZ2.out.put HT.out 0 _).put hs0 1 _)
        replace RT1 := Lib.hid (show RowAt S3 _ _ by rw [hS3]; exact (RT1.out.put HT.out 0 _).put hs0 1 _)
        replace RT2 := Lib.hid (show RowAt S3 _ _ by rw [hS3]; exact (RT2.out.put HT.out 0 _).put hs0 1 _)
        replace HVB := Lib.hid (show Below w.heap.size w S3 by rw [hS3]; exact (HVB.out.setCell Lt _).setCell Lt _)
        replace Ka0 := ((congrArg (fun W' => W'.cell? ⟨Ba, 0, none⟩) hS3).trans ((cell_oth (by omega)).trans (cell_oth (by omega)))).trans Ka0
        replace Ka1 := ((congrArg (fun W' => W'.cell? ⟨Ba, 1, none⟩) hS3).trans ((cell_oth (by omega)).trans (cell_oth (by omega)))).trans Ka1
        replace Na : Ba < S3.heap.size := by rw [hS3, World.size_setCell, World.size_setCell]; exact Na
        replace Kb0 := ((congrArg (fun W' => W'.cell? ⟨Bb, 0, none⟩) hS3).trans ((cell_oth (by omega)).trans (cell_oth (by omega)))).trans Kb0
        replace Kb1 := ((congrArg (fun W' => W'.cell? ⟨Bb, 1, none⟩) hS3).trans ((cell_oth (by omega)).trans (cell_oth (by omega)))).trans Kb1
        replace Nb : Bb < S3.heap.size := by rw [hS3, World.size_setCell, World.size_setCell]; exact Nb
        replace Kd0 := ((congrArg (fun W' => W'.cell? ⟨Bd, 0, none⟩) hS3).trans ((cell_oth (by omega)).trans (cell_oth (by omega)))).trans Kd0
        replace Kd1 := ((congrArg (fun W' => W'.cell? ⟨Bd, 1, none⟩) hS3).trans ((cell_oth (by omega)).trans (cell_oth (by omega)))).trans Kd1
        replace Nd : Bd < S3.heap.size := by rw [hS3, World.size_setCell, World.size_setCell]; exact Nd
        replace Ku0 := ((congrArg (fun W' => W'.cell? ⟨Bu, 0, none⟩) hS3).trans ((cell_oth (by omega)).trans (cell_oth (by omega)))).trans Ku0
        replace Ku1 := ((congrArg (fun W' => W'.cell? ⟨Bu, 1, none⟩) hS3).trans ((cell_oth (by omega)).trans (cell_oth (by omega)))).trans Ku1
        replace Nu : Bu < S3.heap.size := by rw [hS3, World.size_setCell, World.size_setCell]; exact Nu
        replace Kg0 := ((congrArg (fun W' => W'.cell? ⟨Bg, 0, none⟩) hS3).trans ((cell_oth (by omega)).trans (cell_oth (by omega)))).trans Kg0
        replace Kg1 := ((congrArg (fun W' => W'.cell? ⟨Bg, 1, none⟩) hS3).trans ((cell_oth (by omega)).trans (cell_oth (by omega)))).trans Kg1
        replace Ng : Bg < S3.heap.size := by rw [hS3, World.size_setCell, World.size_setCell]; exact Ng
        replace Kz0 := ((congrArg (fun W' => W'.cell? ⟨Bz, 0, none⟩) hS3).trans ((cell_oth (by omega)).trans (cell_oth (by omega)))).trans Kz0
        replace Kz1 := ((congrArg (fun W' => W'.cell? ⟨Bz, 1, none⟩) hS3).trans ((cell_oth (by omega)).trans (cell_oth (by omega)))).trans Kz1
        replace Nz : Bz < S3.heap.size := by rw [hS3, World.size_setCell, World.size_setCell]; exact Nz
        replace HT := Lib.hid (show S3.heap[Bt]? = some (.cells #[.slice xp z1.length xc, .slice xq z2.length xt] 24) by rw [hS3]; exact set_word1 hs0 _)
        replace Nt : Bt < S3.heap.size := by rw [hS3, World.size_setCell, World.size_setCell]; exact Nt
        clear hS3 hs0 T0 T1 TF
        obtain ⟨T0, T1⟩ := cell_of HT.out
        have TF := frozen_of HT.out
        go_wp2_with fail
        refine (lsame_true _ _ _ _ _ z1 z2 Ez (RZ1.out.below (by repeat (first | (with_reducible exact Below.refl _ _) | (with_reducible assumption) | (with_reducible refine below_drewN ?_ _) | (with_reducible refine Below.drew ?_) | (with_reducible refine below_ext_of ?_ (by first | exact Nat.le_refl _ | assumption | (simp only [World.size_alloc, World.size_setCell, size_ext, World.heap_drewN]; omega)) _ _) | (with_reducible refine Below.alloc ?_ (by first | exact Nat.le_refl _ | assumption | (simp only [World.size_alloc, World.size_setCell, size_ext, World.heap_drewN]; omega)) _) | (with_reducible refine Below.setCell ?_ (by first | exact Nat.le_refl _ | assumption | (simp only [World.size_alloc, World.size_setCell, size_ext, World.heap_drewN]; omega)) _)))) (RZ2.out.below (by repeat (first | (with_reducible exact Below.refl _ _) | (with_reducible assumption) | (with_reducible refine below_drewN ?_ _) | (with_reducible refine Below.drew ?_) | (with_reducible refine below_ext_of ?_ (by first | exact Nat.le_refl _ | assumption | (simp only [World.size_alloc, World.size_setCell, size_ext, World.heap_drewN]; omega)) _ _) | (with_reducible refine Below.alloc ?_ (by first | exact Nat.le_refl _ | assumption | (simp only [World.size_alloc, World.size_setCell, size_ext, World.heap_drewN]; omega)) _) | (with_reducible refine Below.setCell ?_ (by first | exact Nat.le_refl _ | assumption | (simp only [World.size_alloc, World.size_setCell, size_ext, World.heap_drewN]; omega)) _)))) (RT1.out.below (by repeat (first | (with_reducible exact Below.refl _ _) | (with_reducible assumption) | (with_reducible refine below_drewN ?_ _) | (with_reducible refine Below.drew ?_) | (with_reducible refine below_ext_of ?_ (by first | exact Nat.le_refl _ | assumption | (simp only [World.size_alloc, World.size_setCell, size_ext, World.heap_drewN]; omega)) _ _) | (with_reducible refine Below.alloc ?_ (by first | exact Nat.le_refl _ | assumption | (simp only [World.size_alloc, World.size_setCell, size_ext, World.heap_drewN]; omega)) _) | (with_reducible refine Below.setCell ?_ (by first | exact Nat.le_refl _ | assumption | (simp only [World.size_alloc, World.size_setCell, size_ext, World.heap_drewN]; omega)) _)))) (RT2.out.below (by repeat (first | (with_reducible exact Below.refl _ _) | (with_reducible assumption) | (with_reducible refine below_drewN ?_ _) | (with_reducible refine Below.drew ?_) | (with_reducible refine below_ext_of ?_ (by first | exact Nat.le_refl _ | assumption | (simp only [World.size_alloc, World.size_setCell, size_ext, World.heap_drewN]; omega)) _ _) | (with_reducible refine Below.alloc ?_ (by first | exact Nat.le_refl _ | assumption | (simp only [World.size_alloc, World.size_setCell, size_ext, World.heap_drewN]; omega)) _) | (with_reducible refine Below.setCell ?_ (by first | exact Nat.le_refl _ | assumption | (simp only [World.size_alloc, World.size_setCell, size_ext, World.heap_drewN]; omega)) _))))).mono ?_
        rintro e W3 ⟨rfl, hb⟩
        have hB : Below S3.heap.size S3 W3 := Below.trans (by repeat (first | (with_reducible exact Below.refl _ _) | (with_reducible assumption) | (with_reducible refine below_drewN ?_ _) | (with_reducible refine Below.drew ?_) | (with_reducible refine below_ext_of ?_ (by first | exact Nat.le_refl _ | assumption | (simp only [World.size_alloc, World.size_setCell, size_ext, World.heap_drewN]; omega)) _ _) | (with_reducible refine Below.alloc ?_ (by first | exact Nat.le_refl _ | assumption | (simp only [World.size_alloc, World.size_setCell, size_ext, World.heap_drewN]; omega)) _) | (with_reducible refine Below.setCell ?_ (by first | exact Nat.le_refl _ | assumption | (simp only [World.size_alloc, World.size_setCell, size_ext, World.heap_drewN]; omega)) _))) (hb.mono (by simp [go_sem] <;> omega))
        replace RA1 := Lib.hid (RA1.out.below hB)
        replace RA2 := Lib.hid (RA2.out.below hB)
        replace RB1 := Lib.hid (RB1.out.below hB)
        replace RB2 := Lib.hid (RB2.out.below hB)
        replace RD1 := Lib.hid (RD1.out.below hB)
        replace RD2 := Lib.hid (RD2.out.below hB)
        replace RU1 := Lib.hid (RU1.out.below hB)
        replace RU2 := Lib.hid (RU2.out.below hB)
        replace RG1 := Lib.hid (RG1.out.below hB)
        replace RG2 := Lib.hid (RG2.out.below hB)
        replace RZ1 := Lib.hid (RZ1.out.below hB)
        replace RZ2 := Lib.hid (RZ2.out.below hB)
        replace RT1 := Lib.hid (RT1.out.below hB)
        replace RT2 := Lib.hid (RT2.out.below hB)
        replace HVB := Lib.hid (HVB.out.trans (hB.mono HVB.out.size))
        replace Ka0 := keep_cell hB Na Ka0
        replace Ka1 := keep_cell hB Na Ka1
        replace Na := Nat.lt_of_lt_of_le Na hB.size
        replace Kb0 := keep_cell hB Nb Kb0
        replace Kb1 := keep_cell hB Nb Kb1
        replace Nb := Nat.lt_of_lt_of_le Nb hB.size
        replace Kd0 := keep_cell hB Nd Kd0
        replace Kd1 := keep_cell hB Nd Kd1
        replace Nd := Nat.lt_of_lt_of_le Nd hB.size
        replace Ku0 := keep_cell hB Nu Ku0
        replace Ku1 := keep_cell hB Nu Ku1
        replace Nu := Nat.lt_of_lt_of_le Nu hB.size
        replace Kg0 := keep_cell hB Ng Kg0
        replace Kg1 := keep_cell hB Ng Kg1
        replace Ng := Nat.lt_of_lt_of_le Ng hB.size
        replace Kz0 := keep_cell hB Nz Kz0
        replace Kz1 := keep_cell hB Nz Kz1
        replace Nz := Nat.lt_of_lt_of_le Nz hB.size
        replace HT := Lib.hid ((hB.block _ Nt).trans HT.out)
        replace Nt := Nat.lt_of_lt_of_le Nt hB.size
        clear T0 T1 TF
        clear hb hB
        go_wp2_with fail
        refine (works_any _).mono ?_
        rintro e W4 ⟨rfl, hb⟩
        have hB : Below W3.heap.size W3 W4 := Below.trans (by repeat (first | (with_reducible exact Below.refl _ _) | (with_reducible assumption) | (with_reducible refine below_drewN ?_ _) | (with_reducible refine Below.drew ?_) | (with_reducible refine below_ext_of ?_ (by first | exact Nat.le_refl _ | assumption | (simp only [World.size_alloc, World.size_setCell, size_ext, World.heap_drewN]; omega)) _ _) | (with_reducible refine Below.alloc ?_ (by first | exact Nat.le_refl _ | assumption | (simp only [World.size_alloc, World.size_setCell, size_ext, World.heap_drewN]; omega)) _) | (with_reducible refine Below.setCell ?_ (by first | exact Nat.le_refl _ | assumption | (simp only [World.size_alloc, World.size_setCell, size_ext, World.heap_drewN]; omega)) _))) (hb.mono (by simp [go_sem] <;> omega))
        replace RA1 := Lib.hid (RA1.out.below hB)
        replace RA2 := Lib.hid (RA2.out.below hB)
        replace RB1 := Lib.hid (RB1.out.below hB)
        replace RB2 := Lib.hid (RB2.out.below hB)
        replace RD1 := Lib.hid (RD1.out.below hB)
        replace RD2 := Lib.hid (RD2.out.below hB)
        replace RU1 := Lib.hid (RU1.out.below hB)
        replace RU2 := Lib.hid (RU2.out.below hB)
        replace RG1 := Lib.hid (RG1.out.below hB)
        replace RG2 := Lib.hid (RG2.out.below hB)
        replace RZ1 := Lib.hid (RZ1.out.below hB)
        replace RZ2 := Lib.hid (RZ2.out.below hB)
        replace RT1 := Lib.hid (RT1.out.below hB)
        replace RT2 := Lib.hid (RT2.out.below hB)
        replace HVB := Lib.hid (HVB.out.trans (hB.mono HVB.out.size))
        replace Ka0 := keep_cell hB Na Ka0
        replace Ka1 := keep_cell hB Na Ka1
        replace Na := Nat.lt_of_lt_of_le Na hB.size
        replace Kb0 := keep_cell hB Nb Kb0
        replace Kb1 := keep_cell hB Nb Kb1
        replace Nb := Nat.lt_of_lt_of_le Nb hB.size
        replace Kd0 := keep_cell hB Nd Kd0
        replace Kd1 := keep_cell hB Nd Kd1
        replace Nd := Nat.lt_of_lt_of_le Nd hB.size
        replace Ku0 := keep_cell hB Nu Ku0
        replace Ku1 := keep_cell hB Nu Ku1
        replace Nu := Nat.lt_of_lt_of_le Nu hB.size
        replace Kg0 := keep_cell hB Ng Kg0
        replace Kg1 := keep_cell hB Ng Kg1
        replace Ng := Nat.lt_of_lt_of_le Ng hB.size
        replace Kz0 := keep_cell hB Nz Kz0
        replace Kz1 := keep_cell hB Nz Kz1
        replace Nz := Nat.lt_of_lt_of_le Nz hB.size
        replace HT := Lib.hid ((hB.block _ Nt).trans HT.out)
        replace Nt := Nat.lt_of_lt_of_le Nt hB.size
        clear hb hB
        go_wp2_with fail
        go_ret
        exact ⟨rfl, HVB.out⟩
      · have HMB := Lib.hid hmb
        have hz := HZz.out
        unfold zipZ zipF at hz
        have hno : ¬ (op = 1 ∨ op = 2 ∨ op = 3 ∨ op = 4) := by omega
        rw [if_neg hno] at hz
        obtain ⟨rfl, rfl, rfl⟩ := trip hz
        clear hz
        clear hmb hno
        have k1 : (1 : Int) ≤ (op : Int) := by omega
        have k2 : decide ((op : Int) ≥ 1) = true := decide_eq_true k1
        have k3 : ¬ ((op : Int) ≤ 4) := by omega
        have k4 : decide ((op : Int) ≤ 4) = false := decide_eq_false k3
        have RT1 := Lib.hid (RowAt.nil S1)
        have RT2 := Lib.hid (RowAt.nil S1)
        go_wp2_with fail
        refine (rmay_any _ _ _ b1 b2 (RB1.out.below (by repeat (first | (with_reducible exact Below.refl _ _) | (with_reducible assumption) | (with_reducible refine below_drewN ?_ _) | (with_reducible refine Below.drew ?_) | (with_reducible refine below_ext_of ?_ (by first | exact Nat.le_refl _ | assumption | (simp only [World.size_alloc, World.size_setCell, size_ext, World.heap_drewN]; omega)) _ _) | (with_reducible refine Below.alloc ?_ (by first | exact Nat.le_refl _ | assumption | (simp only [World.size_alloc, World.size_setCell, size_ext, World.heap_drewN]; omega)) _) | (with_reducible refine Below.setCell ?_ (by first | exact Nat.le_refl _ | assumption | (simp only [World.size_alloc, World.size_setCell, size_ext, World.heap_drewN]; omega)) _)))) (RB2.out.below (by repeat (first | (with_reducible exact Below.refl _ _) | (with_reducible assumption) | (with_reducible refine below_drewN ?_ _) | (with_reducible refine Below.drew ?_) | (with_reducible refine below_ext_of ?_ (by first | exact Nat.le_refl _ | assumption | (simp only [World.size_alloc, World.size_setCell, size_ext, World.heap_drewN]; omega)) _ _) | (with_reducible refine Below.alloc ?_ (by first | exact Nat.le_refl _ | assumption | (simp only [World.size_alloc, World.size_setCell, size_ext, World.heap_drewN]; omega)) _) | (with_reducible refine Below.setCell ?_ (by first | exact Nat.le_refl _ | assumption | (simp only [World.size_alloc, World.size_setCell, size_ext, World.heap_drewN]; omega)) _))))).mono ?_
        rintro e W1 ⟨rfl, hb⟩
        have hB : Below S1.heap.size S1 W1 := Below.trans (by repeat (first | (with_reducible exact Below.refl _ _) | (with_reducible assumption) | (with_reducible refine below_drewN ?_ _) | (with_reducible refine Below.drew ?_) | (with_reducible refine below_ext_of ?_ (by first | exact Nat.le_refl _ | assumption | (simp only [World.size_alloc, World.size_setCell, size_ext, World.heap_drewN]; omega)) _ _) | (with_reducible refine Below.alloc ?_ (by first | exact Nat.le_refl _ | assumption | (simp only [World.size_alloc, World.size_setCell, size_ext, World.heap_drewN]; omega)) _) | (with_reducible refine Below.setCell ?_ (by first | exact Nat.le_refl _ | assumption | (simp only [World.size_alloc, World.size_setCell, size_ext, World.heap_drewN]; omega)) _))) (hb.mono (by simp [go_sem] <;> omega))
        replace RA1 := Lib.hid (RA1.out.below hB)
        replace RA2 := Lib.hid (RA2.out.below hB)
        replace RB1 := Lib.hid (RB1.out.below hB)
        replace RB2 := Lib.hid (RB2.out.below hB)
        replace RD1 := Lib.hid (RD1.out.below hB)
        replace RD2 := Lib.hid (RD2.out.below hB)
        replace RU1 := Lib.hid (RU1.out.below hB)
        replace RU2 := Lib.hid (RU2.out.below hB)
        replace RG1 := Lib.hid (RG1.out.below hB)
        replace RG2 := Lib.hid (RG2.out.below hB)
        replace RZ1 := Lib.hid (RZ1.out.below hB)
        replace RZ2 := Lib.hid (RZ2.out.below hB)
        replace RT1 := Lib.hid (RT1.out.below hB)
        replace RT2 := Lib.hid (RT2.out.below hB)
        replace HVB := Lib.hid (HVB.out.trans (hB.mono HVB.out.size))
        replace Ka0 := keep_cell hB Na Ka0
        replace Ka1 := keep_cell hB Na Ka1
        replace Na := Nat.lt_of_lt_of_le Na hB.size
        replace Kb0 := keep_cell hB Nb Kb0
        replace Kb1 := keep_cell hB Nb Kb1
        replace Nb := Nat.lt_of_lt_of_le Nb hB.size
        replace Kd0 := keep_cell hB Nd Kd0
        replace Kd1 := keep_cell hB Nd Kd1
        replace Nd := Nat.lt_of_lt_of_le Nd hB.size
        replace Ku0 := keep_cell hB Nu Ku0
        replace Ku1 := keep_cell hB Nu Ku1
        replace Nu := Nat.lt_of_lt_of_le Nu hB.size
        replace Kg0 := keep_cell hB Ng Kg0
        replace Kg1 := keep_cell hB Ng Kg1
        replace Ng := Nat.lt_of_lt_of_le Ng hB.size
        replace Kz0 := keep_cell hB Nz Kz0
        replace Kz1 := keep_cell hB Nz Kz1
        replace Nz := Nat.lt_of_lt_of_le Nz hB.size
        replace HT := Lib.hid ((hB.block _ Nt).trans HT.out)
        replace Nt := Nat.lt_of_lt_of_le Nt hB.size
        rw [HMB.out]
        clear hb hB
        obtain ⟨T0, T1⟩ := cell_of HT.out
        have TF := frozen_of HT.out
        go_wp2_with fail
        refine (lsame_true _ _ _ _ _ _ _ _ (RZ1.out.below (by repeat (first | (with_reducible exact Below.refl _ _) | (with_reducible assumption) | (with_reducible refine below_drewN ?_ _) | (with_reducible refine Below.drew ?_) | (with_reducible refine below_ext_of ?_ (by first | exact Nat.le_refl _ | assumption | (simp only [World.size_alloc, World.size_setCell, size_ext, World.heap_drewN]; omega)) _ _) | (with_reducible refine Below.alloc ?_ (by first | exact Nat.le_refl _ | assumption | (simp only [World.size_alloc, World.size_setCell, size_ext, World.heap_drewN]; omega)) _) | (with_reducible refine Below.setCell ?_ (by first | exact Nat.le_refl _ | assumption | (simp only [World.size_alloc, World.size_setCell, size_ext, World.heap_drewN]; omega)) _)))) (RZ2.out.below (by repeat (first | (with_reducible exact Below.refl _ _) | (with_reducible assumption) | (with_reducible refine below_drewN ?_ _) | (with_reducible refine Below.drew ?_) | (with_reducible refine below_ext_of ?_ (by first | exact Nat.le_refl _ | assumption | (simp only [World.size_alloc, World.size_setCell, size_ext, World.heap_drewN]; omega)) _ _) | (with_reducible refine Below.alloc ?_ (by first | exact Nat.le_refl _ | assumption | (simp only [World.size_alloc, World.size_setCell, size_ext, World.heap_drewN]; omega)) _) | (with_reducible refine Below.setCell ?_ (by first | exact Nat.le_refl _ | assumption | (simp only [World.size_alloc, World.size_setCell, size_ext, World.heap_drewN]; omega)) _)))) (RT1.out.below (by repeat (first | (with_reducible exact Below.refl _ _) | (with_reducible assumption) | (with_reducible refine below_drewN ?_ _) | (with_reducible refine Below.drew ?_) | (with_reducible refine below_ext_of ?_ (by first | exact Nat.le_refl _ | assumption | (simp only [World.size_alloc, World.size_setCell, size_ext, World.heap_drewN]; omega)) _ _) | (with_reducible refine Below.alloc ?_ (by first | exact Nat.le_refl _ | assumption | (simp only [World.size_alloc, World.size_setCell, size_ext, World.heap_drewN]; omega)) _) | (with_reducible refine Below.setCell ?_ (by first | exact Nat.le_refl _ | assumption | (simp only [World.size_alloc, World.size_setCell, size_ext, World.heap_drewN]; omega)) _)))) (RT2.out.below (by repeat (first | (with_reducible exact Below.refl _ _) | (with_reducible assumption) | (with_reducible refine below_drewN ?_ _) | (with_reducible refine Below.drew ?_) | (with_reducible refine below_ext_of ?_ (by first | exact Nat.le_refl _ | assumption | (simp only [World.size_alloc, World.size_setCell, size_ext, World.heap_drewN]; omega)) _ _) | (with_reducible refine Below.alloc ?_ (by first | exact Nat.le_refl _ | assumption | (simp only [World.size_alloc, World.size_setCell, size_ext, World.heap_drewN]; omega)) _) | (with_reducible refine Below.setCell ?_ (by first | exact Nat.le_refl _ | assumption | (simp only [World.size_alloc, World.size_setCell, size_ext, World.heap_drewN]; omega)) _))))).mono ?_
        rintro e W2 ⟨rfl, hb⟩
        have hB : Below W1.heap.size W1 W2 := Below.trans (by repeat (first | (with_reducible exact Below.refl _ _) | (with_reducible assumption) | (with_reducible refine below_drewN ?_ _) | (with_reducible refine Below.drew ?_) | (with_reducible refine below_ext_of ?_ (by first | exact Nat.le_refl _ | assumption | (simp only [World.size_alloc, World.size_setCell, size_ext, World.heap_drewN]; omega)) _ _) | (with_reducible refine Below.alloc ?_ (by first | exact Nat.le_refl _ | assumption | (simp only [World.size_alloc, World.size_setCell, size_ext, World.heap_drewN]; omega)) _) | (with_reducible refine Below.setCell ?_ (by first | exact Nat.le_refl _ | assumption | (simp only [World.size_alloc, World.size_setCell, size_ext, World.heap_drewN]; omega)) _))) (hb.mono (by simp [go_sem] <;> omega))
        replace RA1 := Lib.hid (RA1.out.below hB)
        replace RA2 := Lib.hid (RA2.out.below hB)
        replace RB1 := Lib.hid (RB1.out.below hB)
        replace RB2 := Lib.hid (RB2.out.below hB)
        replace RD1 := Lib.hid (RD1.out.below hB)
        replace RD2 := Lib.hid (RD2.out.below hB)
        replace RU1 := Lib.hid (RU1.out.below hB)
        replace RU2 := Lib.hid (RU2.out.below hB)
        replace RG1 := Lib.hid (RG1.out.below hB)
        replace RG2 := Lib.hid (RG2.out.below hB)
        replace RZ1 := Lib.hid (RZ1.out.below hB)
        replace RZ2 := Lib.hid (RZ2.out.below hB)
        replace RT1 := Lib.hid (RT1.out.below hB)
        replace RT2 := Lib.hid (RT2.out.below hB)
        replace HVB := Lib.hid (HVB.out.trans (hB.mono HVB.out.size))
        replace Ka0 := keep_cell hB Na Ka0
        replace Ka1 := keep_cell hB Na Ka1
        replace Na := Nat.lt_of_lt_of_le Na hB.size
        replace Kb0 := keep_cell hB Nb Kb0
        replace Kb1 := keep_cell hB Nb Kb1
        replace Nb := Nat.lt_of_lt_of_le Nb hB.size
        replace Kd0 := keep_cell hB Nd Kd0
        replace Kd1 := keep_cell hB Nd Kd1
        replace Nd := Nat.lt_of_lt_of_le Nd hB.size
        replace Ku0 := keep_cell hB Nu Ku0
        replace Ku1 := keep_cell hB Nu Ku1
        replace Nu := Nat.lt_of_lt_of_le Nu hB.size
        replace Kg0 := keep_cell hB Ng Kg0
        replace Kg1 := keep_cell hB Ng Kg1
        replace Ng := Nat.lt_of_lt_of_le Ng hB.size
        replace Kz0 := keep_cell hB Nz Kz0
        replace Kz1 := keep_cell hB Nz Kz1
        replace Nz := Nat.lt_of_lt_of_le Nz hB.size
        replace HT := Lib.hid ((hB.block _ Nt).trans HT.out)
        replace Nt := Nat.lt_of_lt_of_le Nt hB.size
        clear T0 T1 TF
        clear hb hB
        go_wp2_with fail
        refine (works_any _).mono ?_
        rintro e W3 ⟨rfl, hb⟩
        have hB : Below W2.heap.size W2 W3 := Below.trans (by repeat (first | (with_reducible exact Below.refl _ _) | (with_reducible assumption) | (with_reducible refine below_drewN ?_ _) | (with_reducible refine Below.drew ?_) | (with_reducible refine below_ext_of ?_ (by first | exact Nat.le_refl _ | assumption | (simp only [World.size_alloc, World.size_setCell, size_ext, World.heap_drewN]; omega)) _ _) | (with_reducible refine Below.alloc ?_ (by first | exact Nat.le_refl _ | assumption | (simp only [World.size_alloc, World.size_setCell, size_ext, World.heap_drewN]; omega)) _) | (with_reducible refine Below.setCell ?_ (by first | exact Nat.le_refl _ | assumption | (simp only [World.size_alloc, World.size_setCell, size_ext, World.heap_drewN]; omega)) _))) (hb.mono (by simp [go_sem] <;> omega))
        replace RA1 := Lib.hid (RA1.out.below hB)
        replace RA2 := Lib.hid (RA2.out.below hB)
        replace RB1 := Lib.hid (RB1.out.below hB)
        replace RB2 := Lib.hid (RB2.out.below hB)
        replace RD1 := Lib.hid (RD1.out.below hB)
        replace RD2 := Lib.hid (RD2.out.below hB)
        replace RU1 := Lib.hid (RU1.out.below hB)
        replace RU2 := Lib.hid (RU2.out.below hB)
        replace RG1 := Lib.hid (RG1.out.below hB)
        replace RG2 := Lib.hid (RG2.out.below hB)
        replace RZ1 := Lib.hid (RZ1.out.below hB)
        replace RZ2 := Lib.hid (RZ2.out.below hB)
        replace RT1 := Lib.hid (RT1.out.below hB)
        replace RT2 := Lib.hid (RT2.out.below hB)
        replace HVB := Lib.hid (HVB.out.trans (hB.mono HVB.out.size))
        replace Ka0 := keep_cell hB Na Ka0
        replace Ka1 := keep_cell hB Na Ka1
        replace Na := Nat.lt_of_lt_of_le Na hB.size
        replace Kb0 := keep_cell hB Nb Kb0
        replace Kb1 := keep_cell hB Nb Kb1
        replace Nb := Nat.lt_of_lt_of_le Nb hB.size
        replace Kd0 := keep_cell hB Nd Kd0
        replace Kd1 := keep_cell hB Nd Kd1
        replace Nd := Nat.lt_of_lt_of_le Nd hB.size
        replace Ku0 := keep_cell hB Nu Ku0
        replace Ku1 := keep_cell hB Nu Ku1
        replace Nu := Nat.lt_of_lt_of_le Nu hB.size
        replace Kg0 := keep_cell hB Ng Kg0
        replace Kg1 := keep_cell hB Ng Kg1
        replace Ng := Nat.lt_of_lt_of_le Ng hB.size
        replace Kz0 := keep_cell hB Nz Kz0
        replace Kz1 := keep_cell hB Nz Kz1
        replace Nz := Nat.lt_of_lt_of_le Nz hB.size
        replace HT := Lib.hid ((hB.block _ Nt).trans HT.out)
        replace Nt := Nat.lt_of_lt_of_le Nt hB.size
        clear hb hB
        go_wp2_with fail
        go_ret
        exact ⟨rfl, HVB.out⟩
    · have HMB := Lib.hid hmb
      have hz := HZz.out
      unfold zipZ zipF at hz
      have hno : ¬ (op = 1 ∨ op = 2 ∨ op = 3 ∨ op = 4) := by omega
      rw [if_neg hno] at hz
      obtain ⟨rfl, rfl, rfl⟩ := trip hz
      clear hz
      clear hmb hno
      have k1 : ¬ ((1 : Int) ≤ (op : Int)) := by omega
      have k2 : decide ((op : Int) ≥ 1) = false := decide_eq_false k1
      have RT1 := Lib.hid (RowAt.nil S1)
      have RT2 := Lib.hid (RowAt.nil S1)
      go_wp2_with fail
      refine (rmay_any _ _ _ b1 b2 (RB1.out.below (by repeat (first | (with_reducible exact Below.refl _ _) | (with_reducible assumption) | (with_reducible refine below_drewN ?_ _) | (with_reducible refine Below.drew ?_) | (with_reducible refine below_ext_of ?_ (by first | exact Nat.le_refl _ | assumption | (simp only [World.size_alloc, World.size_setCell, size_ext, World.heap_drewN]; omega)) _ _) | (with_reducible refine Below.alloc ?_ (by first | exact Nat.le_refl _ | assumption | (simp only [World.size_alloc, World.size_setCell, size_ext, World.heap_drewN]; omega)) _) | (with_reducible refine Below.setCell ?_ (by first | exact Nat.le_refl _ | assumption | (simp only [World.size_alloc, World.size_setCell, size_ext, World.heap_drewN]; omega)) _)))) (RB2.out.below (by repeat (first | (with_reducible exact Below.refl _ _) | (with_reducible assumption) | (with_reducible refine below_drewN ?_ _) | (with_reducible refine Below.drew ?_) | (with_reducible refine below_ext_of ?_ (by first | exact Nat.le_refl _ | assumption | (simp only [World.size_alloc, World.size_setCell, size_ext, World.heap_drewN]; omega)) _ _) | (with_reducible refine Below.alloc ?_ (by first | exact Nat.le_refl _ | assumption | (simp only [World.size_alloc, World.size_setCell, size_ext, World.heap_drewN]; omega)) _) | (with_reducible refine Below.setCell ?_ (by first | exact Nat.le_refl _ | assumption | (simp only [World.size_alloc, World.size_setCell, size_ext, World.heap_drewN]; omega)) _))))).mono ?_
      rintro e W1 ⟨rfl, hb⟩
      have hB : Below S1.heap.size S1 W1 := Below.trans (by repeat (first | (with_reducible exact Below.refl _ _) | (with_reducible assumption) | (with_reducible refine below_drewN ?_ _) | (with_reducible refine Below.drew ?_) | (with_reducible refine below_ext_of ?_ (by first | exact Nat.le_refl _ | assumption | (simp only [World.size_alloc, World.size_setCell, size_ext, World.heap_drewN]; omega)) _ _) | (with_reducible refine Below.alloc ?_ (by first | exact Nat.le_refl _ | assumption | (simp only [World.size_alloc, World.size_setCell, size_ext, World.heap_drewN]; omega)) _) | (with_reducible refine Below.setCell ?_ (by first | exact Nat.le_refl _ | assumption | (simp only [World.size_alloc, World.size_setCell, size_ext, World.heap_drewN]; omega)) _))) (hb.mono (by simp [go_sem] <;> omega))
      replace RA1 := Lib.hid (RA1.out.below hB)
      replace RA2 := Lib.hid (RA2.out.below hB)
      replace RB1 := Lib.hid (RB1.out.below hB)
      replace RB2 := Lib.hid (RB2.out.below hB)
      replace RD1 := Lib.hid (RD1.out.below hB)
      replace RD2 := Lib.hid (RD2.out.below hB)
      replace RU1 := Lib.hid (RU1.out.below hB)
      replace RU2 := Lib.hid (RU2.out.below hB)
      replace RG1 := Lib.hid (RG1.out.below hB)
      replace RG2 := Lib.hid (RG2.out.below hB)
      replace RZ1 := Lib.hid (RZ1.out.below hB)
      replace RZ2 := Lib.hid (RZ2.out.below hB)
      replace RT1 := Lib.hid (RT1.out.below hB)
      replace RT2 := Lib.hid (RT2.out.below hB)
      replace HVB := Lib.hid (HVB.out.trans (hB.mono HVB.out.size))
      replace Ka0 := keep_cell hB Na Ka0
      replace Ka1 := keep_cell hB Na Ka1
      replace Na := Nat.lt_of_lt_of_le Na hB.size
      replace Kb0 := keep_cell hB Nb Kb0
      replace Kb1 := keep_cell hB Nb Kb1
      replace Nb := Nat.lt_of_lt_of_le Nb hB.size
      replace Kd0 := keep_cell hB Nd Kd0
      replace Kd1 := keep_cell hB Nd Kd1
      replace Nd := Nat.lt_of_lt_of_le Nd hB.size
      replace Ku0 := keep_cell hB Nu Ku0
      replace Ku1 := keep_cell hB Nu Ku1
      replace Nu := Nat.lt_of_lt_of_le Nu hB.size
      replace Kg0 := keep_cell hB Ng Kg0
      replace Kg1 := keep_cell hB Ng Kg1
      replace Ng := Nat.lt_of_lt_of_le Ng hB.size
      replace Kz0 := keep_cell hB Nz Kz0
      replace Kz1 := keep_cell hB Nz Kz1
      replace Nz := Nat.lt_of_lt_of_le Nz hB.size
      replace HT := Lib.hid ((hB.block _ Nt).trans HT.out)
      replace Nt := Nat.lt_of_lt_of_le Nt hB.size
      rw [HMB.out]
      clear hb hB
      obtain ⟨T0, T1⟩ := cell_of HT.out
      have TF := frozen_of HT.out
      go_wp2_with fail
      refine (lsame_true _ _ _ _ _ _ _ _ (RZ1.out.below (by repeat (first | (with_reducible exact Below.refl _ _) | (with_reducible assumption) | (with_reducible refine below_drewN ?_ _) | (with_reducible refine Below.drew ?_) | (with_reducible refine below_ext_of ?_ (by first | exact Nat.le_refl _ | assumption | (simp only [World.size_alloc, World.size_setCell, size_ext, World.heap_drewN]; omega)) _ _) | (with_reducible refine Below.alloc ?_ (by first | exact Nat.le_refl _ | assumption | (simp only [World.size_alloc, World.size_setCell, size_ext, World.heap_drewN]; omega)) _) | (with_reducible refine Below.setCell ?_ (by first | exact Nat.le_refl _ | assumption | (simp only [World.size_alloc, World.size_setCell, size_ext, World.heap_drewN]; omega)) _)))) (RZ2.out.below (by repeat (first | (with_reducible exact Below.refl _ _) | (with_reducible assumption) | (with_reducible refine below_drewN ?_ _) | (with_reducible refine Below.drew ?_) | (with_reducible refine below_ext_of ?_ (by first | exact Nat.le_refl _ | assumption | (simp only [World.size_alloc, World.size_setCell, size_ext, World.heap_drewN]; omega)) _ _) | (with_reducible refine Below.alloc ?_ (by first | exact Nat.le_refl _ | assumption | (simp only [World.size_alloc, World.size_setCell, size_ext, World.heap_drewN]; omega)) _) | (with_reducible refine Below.setCell ?_ (by first | exact Nat.le_refl _ | assumption | (simp only [World.size_alloc, World.size_setCell, size_ext, World.heap_drewN]; omega)) _)))) (RT1.out.below (by repeat (first | (with_reducible exact Below.refl _ _) | (with_reducible assumption) | (with_reducible refine below_drewN ?_ _) | (with_reducible refine Below.drew ?_) | (with_reducible refine below_ext_of ?_ (by first | exact Nat.le_refl _ | assumption | (simp only [World.size_alloc, World.size_setCell, size_ext, World.heap_drewN]; omega)) _ _) | (with_reducible refine Below.alloc ?_ (by first | exact Nat.le_refl _ | assumption | (simp only [World.size_alloc, World.size_setCell, size_ext, World.heap_drewN]; omega)) _) | (with_reducible refine Below.setCell ?_ (by first | exact Nat.le_refl _ | assumption | (simp only [World.size_alloc, World.size_setCell, size_ext, World.heap_drewN]; omega)) _)))) (RT2.out.below (by repeat (first | (with_reducible exact Below.refl _ _) | (with_reducible assumption) | (with_reducible refine below_drewN ?_ _) | (with_reducible refine Below.drew ?_) | (with_reducible refine below_ext_of ?_ (by first | exact Nat.le_refl _ | assumption | (simp only [World.size_alloc, World.size_setCell, size_ext, World.heap_drewN]; omega)) _ _) | (with_reducible refine Below.alloc ?_ (by first | exact Nat.le_refl _ | assumption | (simp only [World.size_alloc, World.size_setCell, size_ext, World.heap_drewN]; omega)) _) | (with_reducible refine Below.setCell ?_ (by first | exact Nat.le_refl _ | assumption | (simp only [World.size_alloc, World.size_setCell, size_ext, World.heap_drewN]; omega)) _))))).mono ?_
      rintro e W2 ⟨rfl, hb⟩
      have hB : Below W1.heap.size W1 W2 := Below.trans (by repeat (first | (with_reducible exact Below.refl _ _) | (with_reducible assumption) | (with_reducible refine below_drewN ?_ _) | (with_reducible refine Below.drew ?_) | (with_reducible refine below_ext_of ?_ (by first | exact Nat.le_refl _ | assumption | (simp only [World.size_alloc, World.size_setCell, size_ext, World.heap_drewN]; omega)) _ _) | (with_reducible refine Below.alloc ?_ (by first | exact Nat.le_refl _ | assumption | (simp only [World.size_alloc, World.size_setCell, size_ext, World.heap_drewN]; omega)) _) | (with_reducible refine Below.setCell ?_ (by first | exact Nat.le_refl _ | assumption | (simp only [World.size_alloc, World.size_setCell, size_ext, World.heap_drewN]; omega)) _))) (hb.mono (by simp [go_sem] <;> omega))
      replace RA1 := Lib.hid (RA1.out.below hB)
      replace RA2 := Lib.hid (RA2.out.below hB)
      replace RB1 := Lib.hid (RB1.out.below hB)
      replace RB2 := Lib.hid (RB2.out.below hB)
      replace RD1 := Lib.hid (RD1.out.below hB)
      replace RD2 := Lib.hid (RD2.out.below hB)
      replace RU1 := Lib.hid (RU1.out.below hB)
      replace RU2 := Lib.hid (RU2.out.below hB)
      replace RG1 := Lib.hid (RG1.out.below hB)
      replace RG2 := Lib.hid (RG2.out.below hB)
      replace RZ1 := Lib.hid (RZ1.out.below hB)
      replace RZ2 := Lib.hid (RZ2.out.below hB)
      replace RT1 := Lib.hid (RT1.out.below hB)
      replace RT2 := Lib.hid (RT2.out.below hB)
      replace HVB := Lib.hid (HVB.out.trans (hB.mono HVB.out.size))
      replace Ka0 := keep_cell hB Na Ka0
      replace Ka1 := keep_cell hB Na Ka1
      replace Na := Nat.lt_of_lt_of_le Na hB.size
      replace Kb0 := keep_cell hB Nb Kb0
      replace Kb1 := keep_cell hB Nb Kb1
      replace Nb := Nat.lt_of_lt_of_le Nb hB.size
      replace Kd0 := keep_cell hB Nd Kd0
      replace Kd1 := keep_cell hB Nd Kd1
      replace Nd := Nat.lt_of_lt_of_le Nd hB.size
      replace Ku0 := keep_cell hB Nu Ku0
      replace Ku1 := keep_cell hB Nu Ku1
      replace Nu := Nat.lt_of_lt_of_le Nu hB.size
      replace Kg0 := keep_cell hB Ng Kg0
      replace Kg1 := keep_cell hB Ng Kg1
      replace Ng := Nat.lt_of_lt_of_le Ng hB.size
      replace Kz0 := keep_cell hB Nz Kz0
      replace Kz1 := keep_cell hB Nz Kz1
      replace Nz := Nat.lt_of_lt_of_le Nz hB.size
      replace HT := Lib.hid ((hB.block _ Nt).trans HT.out)
      replace Nt := Nat.lt_of_lt_of_le Nt hB.size
      clear T0 T1 TF
      clear hb hB
      go_wp2_with fail
      refine (works_any _).mono ?_
      rintro e W3 ⟨rfl, hb⟩
      have hB : Below W2.heap.size W2 W3 := Below.trans (by repeat (first | (with_reducible exact Below.refl _ _) | (with_reducible assumption) | (with_reducible refine below_drewN ?_ _) | (with_reducible refine Below.drew ?_) | (with_reducible refine below_ext_of ?_ (by first | exact Nat.le_refl _ | assumption | (simp only [World.size_alloc, World.size_setCell, size_ext, World.heap_drewN]; omega)) _ _) | (with_reducible refine Below.alloc ?_ (by first | exact Nat.le_refl _ | assumption | (simp only [World.size_alloc, World.size_setCell, size_ext, World.heap_drewN]; omega)) _) | (with_reducible refine Below.setCell ?_ (by first | exact Nat.le_refl _ | assumption | (simp only [World.size_alloc, World.size_setCell, size_ext, World.heap_drewN]; omega)) _))) (hb.mono (by simp [go_sem] <;> omega))
      replace RA1 := Lib.hid (RA1.out.below hB)
      replace RA2 := Lib.hid (RA2.out.below hB)
      replace RB1 := Lib.hid (RB1.out.below hB)
      replace RB2 := Lib.hid (RB2.out.below hB)
      replace RD1 := Lib.hid (RD1.out.below hB)
      replace RD2 := Lib.hid (RD2.out.below hB)
      replace RU1 := Lib.hid (RU1.out.below hB)
      replace RU2 := Lib.hid (RU2.out.below hB)
      replace RG1 := Lib.hid (RG1.out.below hB)
      replace RG2 := Lib.hid (RG2.out.below hB)
      replace RZ1 := Lib.hid (RZ1.out.below hB)
      replace RZ2 := Lib.hid (RZ2.out.below hB)
      replace RT1 := Lib.hid (RT1.out.below hB)
      replace RT2 := Lib.hid (RT2.out.below hB)
      replace HVB := Lib.hid (HVB.out.trans (hB.mono HVB.out.size))
      replace Ka0 := keep_cell hB Na Ka0
      replace Ka1 := keep_cell hB Na Ka1
      replace Na := Nat.lt_of_lt_of_le Na hB.size
      replace Kb0 := keep_cell hB Nb Kb0
      replace Kb1 := keep_cell hB Nb Kb1
      replace Nb := Nat.lt_of_lt_of_le Nb hB.size
      replace Kd0 := keep_cell hB Nd Kd0
      replace Kd1 := keep_cell hB Nd Kd1
      replace Nd := Nat.lt_of_lt_of_le Nd hB.size
      replace Ku0 := keep_cell hB Nu Ku0
      replace Ku1 := keep_cell hB Nu Ku1
      replace Nu := Nat.lt_of_lt_of_le Nu hB.size
      replace Kg0 := keep_cell hB Ng Kg0
      replace Kg1 := keep_cell hB Ng Kg1
      replace Ng := Nat.lt_of_lt_of_le Ng hB.size
      replace Kz0 := keep_cell hB Nz Kz0
      replace Kz1 := keep_cell hB Nz Kz1
      replace Nz := Nat.lt_of_lt_of_le Nz hB.size
      replace HT := Lib.hid ((hB.block _ Nt).trans HT.out)
      replace Nt := Nat.lt_of_lt_of_le Nt hB.size
      clear hb hB
      go_wp2_with fail
      go_ret
      exact ⟨rfl, HVB.out⟩
set_option maxRecDepth 100000 in
set_option maxHeartbeats 40000000 in
theorem make18 (w W : World) (HVB : Hid (Below w.heap.size w W)) (a1 a2 b1 b2 d1 d2 u1 u2 g1 g2 z1 z2 : List Int) (pa qa pb qb pd qd pu qu pg qg pz qz : Option Addr) (sa ta sb tb sd td su tu sg tg sz tz : Nat) (Bt : Nat) (x1 x2 : Option Addr) (y1 y2 y3 y4 : Nat) (HT : Hid (W.heap[Bt]? = some (.cells #[.slice x1 y1 y2, .slice x2 y3 y4] 24))) (Nt : Bt < W.heap.size) (Lt : w.heap.size ≤ Bt) (RA1 : Hid (RowAt W (.slice pa a1.length sa) a1)) (RA2 : Hid (RowAt W (.slice qa a2.length ta) a2)) (Ba : Nat) (Ka0 : W.cell? ⟨Ba, 0, none⟩ = some (.slice pa a1.length sa)) (Ka1 : W.cell? ⟨Ba, 1, none⟩ = some (.slice qa a2.length ta)) (Na : Ba < W.heap.size) (La : Ba < Bt) (RB1 : Hid (RowAt W (.slice pb b1.length sb) b1)) (RB2 : Hid (RowAt W (.slice qb b2.length tb) b2)) (Bb : Nat) (Kb0 : W.cell? ⟨Bb, 0, none⟩ = some (.slice pb b1.length sb)) (Kb1 : W.cell? ⟨Bb, 1, none⟩ = some (.slice qb b2.length tb)) (Nb : Bb < W.heap.size) (Lb : Bb < Bt) (RD1 : Hid (RowAt W (.slice pd d1.length sd) d1)) (RD2 : Hid (RowAt W (.slice qd d2.length td) d2)) (Bd : Nat) (Kd0 : W.cell? ⟨Bd, 0, none⟩ = some (.slice pd d1.length sd)) (Kd1 : W.cell? ⟨Bd, 1, none⟩ = some (.slice qd d2.length td)) (Nd : Bd < W.heap.size) (Ld : Bd < Bt) (RU1 : Hid (RowAt W (.slice pu u1.length su) u1)) (RU2 : Hid (RowAt W (.slice qu u2.length tu) u2)) (Bu : Nat) (Ku0 : W.cell? ⟨Bu, 0, none⟩ = some (.slice pu u1.length su)) (Ku1 : W.cell? ⟨Bu, 1, none⟩ = some (.slice qu u2.length tu)) (Nu : Bu < W.heap.size) (Lu : Bu < Bt) (RG1 : Hid (RowAt W (.slice pg g1.length sg) g1)) (RG2 : Hid (RowAt W (.slice qg g2.length tg) g2)) (Bg : Nat) (Kg0 : W.cell? ⟨Bg, 0, none⟩ = some (.slice pg g1.length sg)) (Kg1 : W.cell? ⟨Bg, 1, none⟩ = some (.slice qg g2.length tg)) (Ng : Bg < W.heap.size) (Lg : Bg < Bt) (RZ1 : Hid (RowAt W (.slice pz z1.length sz) z1)) (RZ2 : Hid (RowAt W (.slice qz z2.length tz) z2)) (Bz : Nat) (Kz0 : W.cell? ⟨Bz, 0, none⟩ = some (.slice pz z1.length sz)) (Kz1 : W.cell? ⟨Bz, 1, none⟩ = some (.slice qz z2.length tz)) (Nz : Bz < W.heap.size) (Lz : Bz < Bt) (k : Int) (op : Nat) (Ed Eu Eg Ez : Int) (hk2 : Hid (k < 9223372036854775808)) (hop : op < 256) (MA : Hid (may a1 a2 = true)) (HLA : Hid (a1.length ≤ 200 ∧ a2.length ≤ 200)) (HLB : Hid (b1.length ≤ 200 ∧ b2.length ≤ 200)) (I_a1 : Hid (in64W a1 a2)) (I_b1 : Hid (in64W b1 b2)) (HZd : Hid (dropZ a1 a2 k = (d1, d2, Ed))) (HZu : Hid (upZ a1 a2 k = (u1, u2, Eu))) (HZg : Hid (downZ a1 a2 k = (g1, g2, Eg))) (HZz : Hid (zipZ op a1 a2 b1 b2 = (z1, z2, Ez))) (f0 f1 f3 f7 f8 f9 f10 f11 f14 f15 f23 f24 f25 f26 f27 f28 f29 f30 f31 f32 f33 f34 f35 f36 f37 f38 f39 f40 f41 f42 f43 f44 f45 f46 f47 f48 f49 f50 f51 f52 f53 f54 f55 f56 f57 f58 f59 f60 f61 f62 f63 f64 f65 f66 f67 f68 f69 f70 f71 f72 f73 f74 f75 f76 f77 f78 f79 f80 f81 f82 f83 f84 f85 f86 f87 f88 f89 f90 f91 f92 f93 f94 f95 f96 f97 f98 f99 f100 f101 f102 f103 f104 f105 f106 f107 f108 f109 f110 f111 f112 f113 f114 f115 f116 f117 f118 f119 f120 f121 f122 f123 f124 f125 f126 f127 f128 f129 f130 f131 f132 f133 f134 f135 f136 f137 f138 f139 f140 f141 f142 f143 f144 f145 f146 f147 f148 f149 f150 f151 f152 f153 f154 f155 f156 f157 f158 f159 f160 f161 f162 f163 f164 f165 f166 f167 f168 f169 f170 f171 f172 f173 f174 f175 f176 f177 f178 f179 : Value) : Code.wp Try.prog (makeC 18) (bodyPost Try.prog Try.f4 (fun e w' => e = .returned (.bool true) ∧ Below w.heap.size w w')) { tmps := #[f0, f1, .int .i64 k, f3, .int .u8 (op : Int), .pointer (some ⟨Ba, 0, none⟩), .pointer (some ⟨Bb, 0, none⟩), f7, f8, f9, f10, f11, .pointer (some ⟨Bd, 0, none⟩), .int .i64 Ed, f14, f15, .pointer (some ⟨Bu, 0, none⟩), .int .i64 Eu, .pointer (some ⟨Bg, 0, none⟩), .int .i64 Eg, .pointer (some ⟨Bz, 0, none⟩), .int .i64 Ez, .pointer (some ⟨Bt, 0, none⟩), f23, f24, f25, f26, f27, f28, f29, f30, f31, f32, f33, f34, f35, f36, f37, f38, f39, f40, f41, f42, f43, f44, f45, f46, f47, f48, f49, f50, f51, f52, f53, f54, f55, f56, f57, f58, f59, f60, f61, f62, f63, f64, f65, f66, f67, f68, f69, f70, f71, f72, f73, f74, f75, f76, f77, f78, f79, f80, f81, f82, f83, f84, f85, f86, f87, f88, f89, f90, f91, f92, f93, f94, f95, f96, f97, f98, f99, f100, f101, f102, f103, f104, f105, f106, f107, f108, f109, f110, f111, f112, f113, f114, f115, f116, f117, f118, f119, f120, f121, f122, f123, f124, f125, f126, f127, f128, f129, f130, f131, f132, f133, f134, f135, f136, f137, f138, f139, f140, f141, f142, f143, f144, f145, f146, f147, f148, f149, f150, f151, f152, f153, f154, f155, f156, f157, f158, f159, f160, f161, f162, f163, f164, f165, f166, f167, f168, f169, f170, f171, f172, f173, f174, f175, f176, f177, f178, f179], defers := [] } W := by
  conv => arg 2; whnf
  obtain ⟨T0, T1⟩ := cell_of HT.out
  have TF := frozen_of HT.out
  go_upto_region 27 with (fail)
  obtain ⟨S1, hS1⟩ : ∃ V, V = (W.setCell ⟨Bt, 0, none⟩ (.slice none 0 0)).setCell ⟨Bt, 1, none⟩ (.slice none 0 0) := ⟨_, rfl⟩
  rw [← hS1]
  have hs0 := set_word0 HT.out (.slice none 0 0)
  replace RA1 := Lib.hid (show RowAt S1 _ _ by rw [hS1]; exact (RA1.out.put HT.out 0 _).put hs0 1 _)
  replace RA2 := Lib.hid (show RowAt S1 _ _ by rw [hS1]; exact (RA2.out.put HT.out 0 _).put hs0 1 _)
  replace RB1 := Lib.hid (show RowAt S1 _ _ by rw [hS1]; exact (RB1.out.put HT.out 0 _).put hs0 1 _)
  replace RB2 := Lib.hid (show RowAt S1 _ _ by rw [hS1]; exact (RB2.out.put HT.out 0 _).put hs0 1 _)
  replace RD1 := Lib.hid (show RowAt S1 _ _ by rw [hS1]; exact (RD1.out.put HT.out 0 _).put hs0 1 _)
  replace RD2 := Lib.hid (show RowAt S1 _ _ by rw [hS1]; exact (RD2.out.put HT.out 0 _).put hs0 1 _)
  replace RU1 := Lib.hid (show RowAt S1 _ _ by rw [hS1]; exact (RU1.out.put HT.out 0 _).put hs0 1 _)
  replace RU2 := Lib.hid (show RowAt S1 _ _ by rw [hS1]; exact (RU2.out.put HT.out 0 _).put hs0 1 _)
  replace RG1 := Lib.hid (show RowAt S1 _ _ by rw [hS1]; exact (RG1.out.put HT.out 0 _).put hs0 1 _)
  replace RG2 := Lib.hid (show RowAt S1 _ _ by rw [hS1]; exact (RG2.out.put HT.out 0 _).put hs0 1 _)
  replace RZ1 := Lib.hid (show RowAt S1 _ _ by rw [hS1]; exact (RZ1.out.put HT.out 0 _).put hs0 1 _)
  replace RZ2 := Lib.hid (show RowAt S1 _ _ by rw [hS1]; exact (RZ2.out.put HT.out 0 _).put hs0 1 _)
  replace HVB := Lib.hid (show Below w.heap.size w S1 by rw [hS1]; exact (HVB.out.setCell Lt _).setCell Lt _)
  replace Ka0 := ((congrArg (fun W' => W'.cell? ⟨Ba, 0, none⟩) hS1).trans ((cell_oth (by omega)).trans (cell_oth (by omega)))).trans Ka0
  replace Ka1 := ((congrArg (fun W' => W'.cell? ⟨Ba, 1, none⟩) hS1).trans ((cell_oth (by omega)).trans (cell_oth (by omega)))).trans Ka1
  replace Na : Ba < S1.heap.size := by rw [hS1, World.size_setCell, World.size_setCell]; exact Na
  replace Kb0 := ((congrArg (fun W' => W'.cell? ⟨Bb, 0, none⟩) hS1).trans ((cell_oth (by omega)).trans (cell_oth (by omega)))).trans Kb0
  replace Kb1 := ((congrArg (fun W' => W'.cell? ⟨Bb, 1, none⟩) hS1).trans ((cell_oth (by omega)).trans (cell_oth (by omega)))).trans Kb1
  replace Nb : Bb < S1.heap.size := by rw [hS1, World.size_setCell, World.size_setCell]; exact Nb
  replace Kd0 := ((congrArg (fun W' => W'.cell? ⟨Bd, 0, none⟩) hS1).trans ((cell_oth (by omega)).trans (cell_oth (by omega)))).trans Kd0
  replace Kd1 := ((congrArg (fun W' => W'.cell? ⟨Bd, 1, none⟩) hS1).trans ((cell_oth (by omega)).trans (cell_oth (by omega)))).trans Kd1
  replace Nd : Bd < S1.heap.size := by rw [hS1, World.size_setCell, World.size_setCell]; exact Nd
  replace Ku0 := ((congrArg (fun W' => W'.cell? ⟨Bu, 0, none⟩) hS1).trans ((cell_oth (by omega)).trans (cell_oth (by omega)))).trans Ku0
  replace Ku1 := ((congrArg (fun W' => W'.cell? ⟨Bu, 1, none⟩) hS1).trans ((cell_oth (by omega)).trans (cell_oth (by omega)))).trans Ku1
  replace Nu : Bu < S1.heap.size := by rw [hS1, World.size_setCell, World.size_setCell]; exact Nu
  replace Kg0 := ((congrArg (fun W' => W'.cell? ⟨Bg, 0, none⟩) hS1).trans ((cell_oth (by omega)).trans (cell_oth (by omega)))).trans Kg0
  replace Kg1 := ((congrArg (fun W' => W'.cell? ⟨Bg, 1, none⟩) hS1).trans ((cell_oth (by omega)).trans (cell_oth (by omega)))).trans Kg1
  replace Ng : Bg < S1.heap.size := by rw [hS1, World.size_setCell, World.size_setCell]; exact Ng
  replace Kz0 := ((congrArg (fun W' => W'.cell? ⟨Bz, 0, none⟩) hS1).trans ((cell_oth (by omega)).trans (cell_oth (by omega)))).trans Kz0
  replace Kz1 := ((congrArg (fun W' => W'.cell? ⟨Bz, 1, none⟩) hS1).trans ((cell_oth (by omega)).trans (cell_oth (by omega)))).trans Kz1
  replace Nz : Bz < S1.heap.size := by rw [hS1, World.size_setCell, World.size_setCell]; exact Nz
  replace HT := Lib.hid (show S1.heap[Bt]? = some (.cells #[.slice none 0 0, .slice none 0 0] 24) by rw [hS1]; exact set_word1 hs0 _)
  replace Nt : Bt < S1.heap.size := by rw [hS1, World.size_setCell, World.size_setCell]; exact Nt
  clear hS1 hs0 T0 T1 TF
  by_cases hc : 1 ≤ k ∧ k ≤ 1099511627776
  · obtain ⟨n, rfl⟩ : ∃ n : Nat, k = (n : Int) := ⟨k.toNat, by omega⟩
    have hz := HZg.out
    unfold downZ at hz
    have HK2 := hk2.out
    rw [if_pos ⟨MA.out, hc⟩, Int.toNat_natCast] at hz
    have HY := Lib.hid hz
    clear hz HK2
    have k1 : (1 : Int) ≤ (n : Int) := by omega
    have k2 : decide ((n : Int) ≥ 1) = true := decide_eq_true k1
    have k3 : (n : Int) ≤ 1099511627776 := by omega
    have k4 : decide ((n : Int) ≤ 1099511627776) = true := decide_eq_true k3
    go_wp2_with fail
    refine (rdown_call _ _ _ a1 a2 g1 g2 Eg n (by omega) (by omega) (RA1.out.below (by repeat (first | (with_reducible exact Below.refl _ _) | (with_reducible assumption) | (with_reducible refine below_drewN ?_ _) | (with_reducible refine Below.drew ?_) | (with_reducible refine below_ext_of ?_ (by first | exact Nat.le_refl _ | assumption | (simp only [World.size_alloc, World.size_setCell, size_ext, World.heap_drewN]; omega)) _ _) | (with_reducible refine Below.alloc ?_ (by first | exact Nat.le_refl _ | assumption | (simp only [World.size_alloc, World.size_setCell, size_ext, World.heap_drewN]; omega)) _) | (with_reducible refine Below.setCell ?_ (by first | exact Nat.le_refl _ | assumption | (simp only [World.size_alloc, World.size_setCell, size_ext, World.heap_drewN]; omega)) _)))) (RA2.out.below (by repeat (first | (with_reducible exact Below.refl _ _) | (with_reducible assumption) | (with_reducible refine below_drewN ?_ _) | (with_reducible refine Below.drew ?_) | (with_reducible refine below_ext_of ?_ (by first | exact Nat.le_refl _ | assumption | (simp only [World.size_alloc, World.size_setCell, size_ext, World.heap_drewN]; omega)) _ _) | (with_reducible refine Below.alloc ?_ (by first | exact Nat.le_refl _ | assumption | (simp only [World.size_alloc, World.size_setCell, size_ext, World.heap_drewN]; omega)) _) | (with_reducible refine Below.setCell ?_ (by first | exact Nat.le_refl _ | assumption | (simp only [World.size_alloc, World.size_setCell, size_ext, World.heap_drewN]; omega)) _)))) MA.out HY.out).mono ?_
    rintro e W1 ⟨hb, xp, xc, xq, xt, rfl, r1, r2⟩
    have hB : Below S1.heap.size S1 W1 := Below.trans (by repeat (first | (with_reducible exact Below.refl _ _) | (with_reducible assumption) | (with_reducible refine below_drewN ?_ _) | (with_reducible refine Below.drew ?_) | (with_reducible refine below_ext_of ?_ (by first | exact Nat.le_refl _ | assumption | (simp only [World.size_alloc, World.size_setCell, size_ext, World.heap_drewN]; omega)) _ _) | (with_reducible refine Below.alloc ?_ (by first | exact Nat.le_refl _ | assumption | (simp only [World.size_alloc, World.size_setCell, size_ext, World.heap_drewN]; omega)) _) | (with_reducible refine Below.setCell ?_ (by first | exact Nat.le_refl _ | assumption | (simp only [World.size_alloc, World.size_setCell, size_ext, World.heap_drewN]; omega)) _))) (hb.mono (by simp [go_sem] <;> omega))
    replace RA1 := Lib.hid (RA1.out.below hB)
    replace RA2 := Lib.hid (RA2.out.below hB)
    replace RB1 := Lib.hid (RB1.out.below hB)
    replace RB2 := Lib.hid (RB2.out.below hB)
    replace RD1 := Lib.hid (RD1.out.below hB)
    replace RD2 := Lib.hid (RD2.out.below hB)
    replace RU1 := Lib.hid (RU1.out.below hB)
    replace RU2 := Lib.hid (RU2.out.below hB)
    replace RG1 := Lib.hid (RG1.out.below hB)
    replace RG2 := Lib.hid (RG2.out.below hB)
    replace RZ1 := Lib.hid (RZ1.out.below hB)
    replace RZ2 := Lib.hid (RZ2.out.below hB)
    replace HVB := Lib.hid (HVB.out.trans (hB.mono HVB.out.size))
    replace Ka0 := keep_cell hB Na Ka0
    replace Ka1 := keep_cell hB Na Ka1
    replace Na := Nat.lt_of_lt_of_le Na hB.size
    replace Kb0 := keep_cell hB Nb Kb0
    replace Kb1 := keep_cell hB Nb Kb1
    replace Nb := Nat.lt_of_lt_of_le Nb hB.size
    replace Kd0 := keep_cell hB Nd Kd0
    replace Kd1 := keep_cell hB Nd Kd1
    replace Nd := Nat.lt_of_lt_of_le Nd hB.size
    replace Ku0 := keep_cell hB Nu Ku0
    replace Ku1 := keep_cell hB Nu Ku1
    replace Nu := Nat.lt_of_lt_of_le Nu hB.size
    replace Kg0 := keep_cell hB Ng Kg0
    replace Kg1 := keep_cell hB Ng Kg1
    replace Ng := Nat.lt_of_lt_of_le Ng hB.size
    replace Kz0 := keep_cell hB Nz Kz0
    replace Kz1 := keep_cell hB Nz Kz1
    replace Nz := Nat.lt_of_lt_of_le Nz hB.size
    replace HT := Lib.hid ((hB.block _ Nt).trans HT.out)
    replace Nt := Nat.lt_of_lt_of_le Nt hB.size
    have RT1 := Lib.hid r1
    have RT2 := Lib.hid r2
    clear r1 r2
    clear hb hB
    obtain ⟨T0, T1⟩ := cell_of HT.out
    have TF := frozen_of HT.out
    go_upto_region 29 with (fail)
    obtain ⟨S3, hS3⟩ : ∃ V, V = (W1.setCell ⟨Bt, 0, none⟩ (.slice xp g1.length xc)).setCell ⟨Bt, 1, none⟩ (.slice xq g2.length xt) := ⟨_, rfl⟩
    rw [← hS3]
    have hs0 := set_word0 HT.out (.slice xp g1.length xc)
    replace RA1 := Lib.hid (show RowAt S3 _ _ by rw [hS3]; exact (RA1.out.put HT.out 0 _).put hs0 1 _)
    replace RA2 := Lib.hid (show RowAt S3 _ _ by rw [hS3]; exact (RA2.out.put HT.out 0 _).put hs0 1 _)
    replace RB1 := Lib.hid (show RowAt S3 _ _ by rw [hS3]; exact (RB1.out.put HT.out 0 _).put hs0 1 _)
    replace RB2 := Lib.hid (show RowAt S3 _ _ by rw [hS3]; exact (RB2.out.put HT.out 0 _).put hs0 1 _)
    replace RD1 := Lib.hid (show RowAt S3 _ _ by rw [hS3]; exact (RD1.out.put HT.out 0 _).put hs0 1 _)
    replace RD2 := Lib.hid (show RowAt S3 _ _ by rw [hS3]; exact (RD2.out.put HT.out 0 _).put hs0 1 _)
    replace RU1 := Lib.hid (show RowAt S3 _ _ by rw [hS3]; exact (RU1.out.put HT.out 0 _).put hs0 1 _)
    replace RU2 := Lib.hid (show RowAt S3 _ _ by rw [hS3]; exact (RU2.out.put HT.out 0 _).put hs0 1 _)
    replace RG1 := Lib.hid (show RowAt S3 _ _ by rw [hS3]; exact (RG1.out.put HT.out 0 _).put hs0 1 _)
    replace RG2 := Lib.hid (show RowAt S3 _ _ by rw [hS3]; exact (RG2.out.put HT.out 0 _).put hs0 1 _)
    replace RZ1 := Lib.hid (show RowAt S3 _ _ by rw [hS3]; exact (RZ1.out.put HT.out 0 _).put hs0 1 _)
    replace RZ2 := Lib.hid (show RowAt S3 _ _ by rw [hS3]; exact (RZ2.out.put HT.out 0 _).put hs0 1 _)
    replace RT1 := Lib.hid (show RowAt S3 _ _ by rw [hS3]; exact (RT1.out.put HT.out 0 _).put hs0 1 _)
    replace RT2 := Lib.hid (show RowAt S3 _ _ by rw [hS3]; exact (RT2.out.put HT.out 0 _).put hs0 1 _)
    replace HVB := Lib.hid (show Below w.heap.size w S3 by rw [hS3]; exact (HVB.out.setCell Lt _).setCell Lt _)
    replace Ka0 := ((congrArg (fun W' => W'.cell? ⟨Ba, 0, none⟩) hS3).trans ((cell_oth (by omega)).trans (cell_oth (by omega)))).trans Ka0
    replace Ka1 := ((congrArg (fun W' => W'.cell? ⟨Ba, 1, none⟩) hS3).trans ((cell_oth (by omega)).trans (cell_oth (by omega)))).trans Ka1
    replace Na : Ba < S3.heap.size := by rw [hS3, World.size_setCell, World.size_setCell]; exact Na
    replace Kb0 := ((congrArg (fun W' => W'.cell? ⟨Bb, 0, none⟩) hS3).trans ((cell_oth (by omega)).trans (cell_oth (by omega)))).trans Kb0
    replace Kb1 := ((congrArg (fun W' => W'.cell? ⟨Bb, 1, none⟩) hS3).trans ((cell_oth (by omega)).trans (cell_oth (by omega)))).trans Kb1
    replace Nb : Bb < S3.heap.size := by rw [hS3, World.size_setCell, World.size_setCell]; exact Nb
    replace Kd0 := ((congrArg (fun W' => W'.cell? ⟨Bd, 0, none⟩) hS3).trans ((cell_oth (by omega)).trans (cell_oth (by omega)))).trans Kd0
    replace Kd1 := ((congrArg (fun W' => W'.cell? ⟨Bd, 1, none⟩) hS3).trans ((cell_oth (by omega)).trans (cell_oth (by omega)))).trans Kd1
    replace Nd : Bd < S3.heap.size := by rw [hS3, World.size_setCell, World.size_setCell]; exact Nd
    replace Ku0 := ((congrArg (fun W' => W'.cell? ⟨Bu, 0, none⟩) hS3).trans ((cell_oth (by omega)).trans (cell_oth (by omega)))).trans Ku0
    replace Ku1 := ((congrArg (fun W' => W'.cell? ⟨Bu, 1, none⟩) hS3).trans ((cell_oth (by omega)).trans (cell_oth (by omega)))).trans Ku1
    replace Nu : Bu < S3.heap.size := by rw [hS3, World.size_setCell, World.size_setCell]; exact Nu
    replace Kg0 := ((congrArg (fun W' => W'.cell? ⟨Bg, 0, none⟩) hS3).trans ((cell_oth (by omega)).trans (cell_oth (by omega)))).trans Kg0
    replace Kg1 := ((congrArg (fun W' => W'.cell? ⟨Bg, 1, none⟩) hS3).trans ((cell_oth (by omega)).trans (cell_oth (by omega)))).trans Kg1
    replace Ng : Bg < S3.heap.size := by rw [hS3, World.size_setCell, World.size_setCell]; exact Ng
    replace Kz0 := ((congrArg (fun W' => W'.cell? ⟨Bz, 0, none⟩) hS3).trans ((cell_oth (by omega)).trans (cell_oth (by omega)))).trans Kz0
    replace Kz1 := ((congrArg (fun W' => W'.cell? ⟨Bz, 1, none⟩) hS3).trans ((cell_oth (by omega)).trans (cell_oth (by omega)))).trans Kz1
    replace Nz : Bz < S3.heap.size := by rw [hS3, World.size_setCell, World.size_setCell]; exact Nz
    replace HT := Lib.hid (show S3.heap[Bt]? = some (.cells #[.slice xp g1.length xc, .slice xq g2.length xt] 24) by rw [hS3]; exact set_word1 hs0 _)
    replace Nt : Bt < S3.heap.size := by rw [hS3, World.size_setCell, World.size_setCell]; exact Nt
    clear hS3 hs0 T0 T1 TF
    obtain ⟨T0, T1⟩ := cell_of HT.out
    have TF := frozen_of HT.out
    go_wp2_with fail
    refine (lsame_true _ _ _ _ _ g1 g2 Eg (RG1.out.below (by repeat (first | (with_reducible exact Below.refl _ _) | (with_reducible assumption) | (with_reducible refine below_drewN ?_ _) | (with_reducible refine Below.drew ?_) | (with_reducible refine below_ext_of ?_ (by first | exact Nat.le_refl _ | assumption | (simp only [World.size_alloc, World.size_setCell, size_ext, World.heap_drewN]; omega)) _ _) | (with_reducible refine Below.alloc ?_ (by first | exact Nat.le_refl _ | assumption | (simp only [World.size_alloc, World.size_setCell, size_ext, World.heap_drewN]; omega)) _) | (with_reducible refine Below.setCell ?_ (by first | exact Nat.le_refl _ | assumption | (simp only [World.size_alloc, World.size_setCell, size_ext, World.heap_drewN]; omega)) _)))) (RG2.out.below (by repeat (first | (with_reducible exact Below.refl _ _) | (with_reducible assumption) | (with_reducible refine below_drewN ?_ _) | (with_reducible refine Below.drew ?_) | (with_reducible refine below_ext_of ?_ (by first | exact Nat.le_refl _ | assumption | (simp only [World.size_alloc, World.size_setCell, size_ext, World.heap_drewN]; omega)) _ _) | (with_reducible refine Below.alloc ?_ (by first | exact Nat.le_refl _ | assumption | (simp only [World.size_alloc, World.size_setCell, size_ext, World.heap_drewN]; omega)) _) | (with_reducible refine Below.setCell ?_ (by first | exact Nat.le_refl _ | assumption | (simp only [World.size_alloc, World.size_setCell, size_ext, World.heap_drewN]; omega)) _)))) (RT1.out.below (by repeat (first | (with_reducible exact Below.refl _ _) | (with_reducible assumption) | (with_reducible refine below_drewN ?_ _) | (with_reducible refine Below.drew ?_) | (with_reducible refine below_ext_of ?_ (by first | exact Nat.le_refl _ | assumption | (simp only [World.size_alloc, World.size_setCell, size_ext, World.heap_drewN]; omega)) _ _) | (with_reducible refine Below.alloc ?_ (by first | exact Nat.le_refl _ | assumption | (simp only [World.size_alloc, World.size_setCell, size_ext, World.heap_drewN]; omega)) _) | (with_reducible refine Below.setCell ?_ (by first | exact Nat.le_refl _ | assumption | (simp only [World.size_alloc, World.size_setCell, size_ext, World.heap_drewN]; omega)) _)))) (RT2.out.below (by repeat (first | (with_reducible exact Below.refl _ _) | (with_reducible assumption) | (with_reducible refine below_drewN ?_ _) | (with_reducible refine Below.drew ?_) | (with_reducible refine below_ext_of ?_ (by first | exact Nat.le_refl _ | assumption | (simp only [World.size_alloc, World.size_setCell, size_ext, World.heap_drewN]; omega)) _ _) | (with_reducible refine Below.alloc ?_ (by first | exact Nat.le_refl _ | assumption | (simp only [World.size_alloc, World.size_setCell, size_ext, World.heap_drewN]; omega)) _) | (with_reducible refine Below.setCell ?_ (by first | exact Nat.le_refl _ | assumption | (simp only [World.size_alloc, World.size_setCell, size_ext, World.heap_drewN]; omega)) _))))).mono ?_
    rintro e W2 ⟨rfl, hb⟩
    have hB : Below S3.heap.size S3 W2 := Below.trans (by repeat (first | (with_reducible exact Below.refl _ _) | (with_reducible assumption) | (with_reducible refine below_drewN ?_ _) | (with_reducible refine Below.drew ?_) | (with_reducible refine below_ext_of ?_ (by first | exact Nat.le_refl _ | assumption | (simp only [World.size_alloc, World.size_setCell, size_ext, World.heap_drewN]; omega)) _ _) | (with_reducible refine Below.alloc ?_ (by first | exact Nat.le_refl _ | assumption | (simp only [World.size_alloc, World.size_setCell, size_ext, World.heap_drewN]; omega)) _) | (with_reducible refine Below.setCell ?_ (by first | exact Nat.le_refl _ | assumption | (simp only [World.size_alloc, World.size_setCell, size_ext, World.heap_drewN]; omega)) _))) (hb.mono (by simp [go_sem] <;> omega))
    replace RA1 := Lib.hid (RA1.out.below hB)
    replace RA2 := Lib.hid (RA2.out.below hB)
    replace RB1 := Lib.hid (RB1.out.below hB)
    replace RB2 := Lib.hid (RB2.out.below hB)
    replace RD1 := Lib.hid (RD1.out.below hB)
    replace RD2 := Lib.hid (RD2.out.below hB)
    replace RU1 := Lib.hid (RU1.out.below hB)
    replace RU2 := Lib.hid (RU2.out.below hB)
    replace RG1 := Lib.hid (RG1.out.below hB)
    replace RG2 := Lib.hid (RG2.out.below hB)
    replace RZ1 := Lib.hid (RZ1.out.below hB)
    replace RZ2 := Lib.hid (RZ2.out.below hB)
    replace RT1 := Lib.hid (RT1.out.below hB)
    replace RT2 := Lib.hid (RT2.out.below hB)
    replace HVB := Lib.hid (HVB.out.trans (hB.mono HVB.out.size))
    replace Ka0 := keep_cell hB Na Ka0
    replace Ka1 := keep_cell hB Na Ka1
    replace Na := Nat.lt_of_lt_of_le Na hB.size
    replace Kb0 := keep_cell hB Nb Kb0
    replace Kb1 := keep_cell hB Nb Kb1
    replace Nb := Nat.lt_of_lt_of_le Nb hB.size
    replace Kd0 := keep_cell hB Nd Kd0
    replace Kd1 := keep_cell hB Nd Kd1
    replace Nd := Nat.lt_of_lt_of_le Nd hB.size
    replace Ku0 := keep_cell hB Nu Ku0
    replace Ku1 := keep_cell hB Nu Ku1
    replace Nu := Nat.lt_of_lt_of_le Nu hB.size
    replace Kg0 := keep_cell hB Ng Kg0
    replace Kg1 := keep_cell hB Ng Kg1
    replace Ng := Nat.lt_of_lt_of_le Ng hB.size
    replace Kz0 := keep_cell hB Nz Kz0
    replace Kz1 := keep_cell hB Nz Kz1
    replace Nz := Nat.lt_of_lt_of_le Nz hB.size
    replace HT := Lib.hid ((hB.block _ Nt).trans HT.out)
    replace Nt := Nat.lt_of_lt_of_le Nt hB.size
    clear T0 T1 TF
    clear hb hB
    go_upto_if 153 with (fail)
    go_cut [] (fun wc => W2 = wc)
    case first =>
      go_wp2_with fail
      go_meet
      case rel => rfl
    case rest =>
    obtain rfl := hcut
    apply_assumption
    exact make21 w W2 HVB _ _ _ _ _ _ _ _ _ _ _ _ _ _ _ _ _ _ _ _ _ _ _ _ _ _ _ _ _ _ _ _ _ _ _ _ Bt _ _ _ _ _ _ HT Nt Lt RA1 RA2 Ba Ka0 Ka1 Na La RB1 RB2 Bb Kb0 Kb1 Nb Lb RD1 RD2 Bd Kd0 Kd1 Nd Ld RU1 RU2 Bu Ku0 Ku1 Nu Lu RG1 RG2 Bg Kg0 Kg1 Ng Lg RZ1 RZ2 Bz Kz0 Kz1 Nz Lz _ op _ _ _ _ hk2 hop MA HLA HLB I_a1 I_b1 HZd HZu HZg HZz _ _ _ _ _ _ _ _ _ _ _ _ _ _ _ _ _ _ _ _ _ _ _ _ _ _ _ _ _ _ _ _ _ _ _ _ _ _ _ _ _ _ _ _ _ _ _ _ _ _ _ _ _ _ _ _ _ _ _ _ _ _ _ _ _ _ _ _ _ _ _ _ _ _ _ _ _ _ _ _ _ _ _ _ _ _ _ _ _ _ _ _ _ _ _ _ _ _ _ _ _ _ _ _ _ _ _ _ _ _ _ _ _ _ _ _ _ _ _ _ _ _ _ _ _ _ _ _ _ _ _ _ _ _ _ _ _ _ _ _ _ _ _ _ _ _ _ _ _ _ _ _ _ _ _ _ _ _ _ _ _ _ _ _ _ _ _
  · by_cases hlo : ¬ (1 ≤ k)
    · have hz := HZg.out
      unfold downZ at hz
      rw [if_neg (fun h => hc h.2)] at hz
      obtain ⟨rfl, rfl, rfl⟩ := trip hz
      clear hz
      have k1 : ¬ ((1 : Int) ≤ k) := hlo
      have k2 : decide (k ≥ 1) = false := decide_eq_false k1
      have RT1 := Lib.hid (RowAt.nil S1)
      have RT2 := Lib.hid (RowAt.nil S1)
      obtain ⟨T0, T1⟩ := cell_of HT.out
      have TF := frozen_of HT.out
      go_wp2_with fail
      refine (lsame_true _ _ _ _ _ _ _ _ (RG1.out.below (by repeat (first | (with_reducible exact Below.refl _ _) | (with_reducible assumption) | (with_reducible refine below_drewN ?_ _) | (with_reducible refine Below.drew ?_) | (with_reducible refine below_ext_of ?_ (by first | exact Nat.le_refl _ | assumption | (simp only [World.size_alloc, World.size_setCell, size_ext, World.heap_drewN]; omega)) _ _) | (with_reducible refine Below.alloc ?_ (by first | exact Nat.le_refl _ | assumption | (simp only [World.size_alloc, World.size_setCell, size_ext, World.heap_drewN]; omega)) _) | (with_reducible refine Below.setCell ?_ (by first | exact Nat.le_refl _ | assumption | (simp only [World.size_alloc, World.size_setCell, size_ext, World.heap_drewN]; omega)) _)))) (RG2.out.below (by repeat (first | (with_reducible exact Below.refl _ _) | (with_reducible assumption) | (with_reducible refine below_drewN ?_ _) | (with_reducible refine Below.drew ?_) | (with_reducible refine below_ext_of ?_ (by first | exact Nat.le_refl _ | assumption | (simp only [World.size_alloc, World.size_setCell, size_ext, World.heap_drewN]; omega)) _ _) | (with_reducible refine Below.alloc ?_ (by first | exact Nat.le_refl _ | assumption | (simp only [World.size_alloc, World.size_setCell, size_ext, World.heap_drewN]; omega)) _) | (with_reducible refine Below.setCell ?_ (by first | exact Nat.le_refl _ | assumption | (simp only [World.size_alloc, World.size_setCell, size_ext, World.heap_drewN]; omega)) _)))) (RT1.out.below (by repeat (first | (with_reducible exact Below.refl _ _) | (with_reducible assumption) | (with_reducible refine below_drewN ?_ _) | (with_reducible refine Below.drew ?_) | (with_reducible refine below_ext_of ?_ (by first | exact Nat.le_refl _ | assumption | (simp only [World.size_alloc, World.size_setCell, size_ext, World.heap_drewN]; omega)) _ _) | (with_reducible refine Below.alloc ?_ (by first | exact Nat.le_refl _ | assumption | (simp only [World.size_alloc, World.size_setCell, size_ext, World.heap_drewN]; omega)) _) | (with_reducible refine Below.setCell ?_ (by first | exact Nat.le_refl _ | assumption | (simp only [World.size_alloc, World.size_setCell, size_ext, World.heap_drewN]; omega)) _)))) (RT2.out.below (by repeat (first | (with_reducible exact Below.refl _ _) | (with_reducible assumption) | (with_reducible refine below_drewN ?_ _) | (with_reducible refine Below.drew ?_) | (with_reducible refine below_ext_of ?_ (by first | exact Nat.le_refl _ | assumption | (simp only [World.size_alloc, World.size_setCell, size_ext, World.heap_drewN]; omega)) _ _) | (with_reducible refine Below.alloc ?_ (by first | exact Nat.le_refl _ | assumption | (simp only [World.size_alloc, World.size_setCell, size_ext, World.heap_drewN]; omega)) _) | (with_reducible refine Below.setCell ?_ (by first | exact Nat.le_refl _ | assumption | (simp only [World.size_alloc, World.size_setCell, size_ext, World.heap_drewN]; omega)) _))))).mono ?_
      rintro e W1 ⟨rfl, hb⟩
      have hB : Below S1.heap.size S1 W1 := Below.trans (by repeat (first | (with_reducible exact Below.refl _ _) | (with_reducible assumption) | (with_reducible refine below_drewN ?_ _) | (with_reducible refine Below.drew ?_) | (with_reducible refine below_ext_of ?_ (by first | exact Nat.le_refl _ | assumption | (simp only [World.size_alloc, World.size_setCell, size_ext, World.heap_drewN]; omega)) _ _) | (with_reducible refine Below.alloc ?_ (by first | exact Nat.le_refl _ | assumption | (simp only [World.size_alloc, World.size_setCell, size_ext, World.heap_drewN]; omega)) _) | (with_reducible refine Below.setCell ?_ (by first | exact Nat.le_refl _ | assumption | (simp only [World.size_alloc, World.size_setCell, size_ext, World.heap_drewN]; omega)) _))) (hb.mono (by simp [go_sem] <;> omega))
      replace RA1 := Lib.hid (RA1.out.below hB)
      replace RA2 := Lib.hid (RA2.out.below hB)
      replace RB1 := Lib.hid (RB1.out.below hB)
      replace RB2 := Lib.hid (RB2.out.below hB)
      replace RD1 := Lib.hid (RD1.out.below hB)
      replace RD2 := Lib.hid (RD2.out.below hB)
      replace RU1 := Lib.hid (RU1.out.below hB)
      replace RU2 := Lib.hid (RU2.out.below hB)
      replace RG1 := Lib.hid (RG1.out.below hB)
      replace RG2 := Lib.hid (RG2.out.below hB)
      replace RZ1 := Lib.hid (RZ1.out.below hB)
      replace RZ2 := Lib.hid (RZ2.out.below hB)
      replace RT1 := Lib.hid (RT1.out.below hB)
      replace RT2 := Lib.hid (RT2.out.below hB)
      replace HVB := Lib.hid (HVB.out.trans (hB.mono HVB.out.size))
      replace Ka0 := keep_cell hB Na Ka0
      replace Ka1 := keep_cell hB Na Ka1
      replace Na := Nat.lt_of_lt_of_le Na hB.size
      replace Kb0 := keep_cell hB Nb Kb0
      replace Kb1 := keep_cell hB Nb Kb1
      replace Nb := Nat.lt_of_lt_of_le Nb hB.size
      replace Kd0 := keep_cell hB Nd Kd0
      replace Kd1 := keep_cell hB Nd Kd1
      replace Nd := Nat.lt_of_lt_of_le Nd hB.size
      replace Ku0 := keep_cell hB Nu Ku0
      replace Ku1 := keep_cell hB Nu Ku1
      replace Nu := Nat.lt_of_lt_of_le Nu hB.size
      replace Kg0 := keep_cell hB Ng Kg0
      replace Kg1 := keep_cell hB Ng Kg1
      replace Ng := Nat.lt_of_lt_of_le Ng hB.size
      replace Kz0 := keep_cell hB Nz Kz0
      replace Kz1 := keep_cell hB Nz Kz1
      replace Nz := Nat.lt_of_lt_of_le Nz hB.size
      replace HT := Lib.hid ((hB.block _ Nt).trans HT.out)
      replace Nt := Nat.lt_of_lt_of_le Nt hB.size
      clear T0 T1 TF
      clear hb hB
      go_upto_if 153 with (fail)
      go_cut [] (fun wc => W1 = wc)
      case first =>
        go_wp2_with fail
        go_meet
        case rel => rfl
      case rest =>
      obtain rfl := hcut
      apply_assumption
      exact make21 w W1 HVB _ _ _ _ _ _ _ _ _ _ _ _ _ _ _ _ _ _ _ _ _ _ _ _ _ _ _ _ _ _ _ _ _ _ _ _ Bt _ _ _ _ _ _ HT Nt Lt RA1 RA2 Ba Ka0 Ka1 Na La RB1 RB2 Bb Kb0 Kb1 Nb Lb RD1 RD2 Bd Kd0 Kd1 Nd Ld RU1 RU2 Bu Ku0 Ku1 Nu Lu RG1 RG2 Bg Kg0 Kg1 Ng Lg RZ1 RZ2 Bz Kz0 Kz1 Nz Lz _ op _ _ _ _ hk2 hop MA HLA HLB I_a1 I_b1 HZd HZu HZg HZz _ _ _ _ _ _ _ _ _ _ _ _ _ _ _ _ _ _ _ _ _ _ _ _ _ _ _ _ _ _ _ _ _ _ _ _ _ _ _ _ _ _ _ _ _ _ _ _ _ _ _ _ _ _ _ _ _ _ _ _ _ _ _ _ _ _ _ _ _ _ _ _ _ _ _ _ _ _ _ _ _ _ _ _ _ _ _ _ _ _ _ _ _ _ _ _ _ _ _ _ _ _ _ _ _ _ _ _ _ _ _ _ _ _ _ _ _ _ _ _ _ _ _ _ _ _ _ _ _ _ _ _ _ _ _ _ _ _ _ _ _ _ _ _ _ _ _ _ _ _ _ _ _ _ _ _ _ _ _ _ _ _ _ _ _ _ _
    · have hz := HZg.out
      unfold downZ at hz
      rw [if_neg (fun h => hc h.2)] at hz
      obtain ⟨rfl, rfl, rfl⟩ := trip hz
      clear hz
      have k1 : (1 : Int) ≤ k := by omega
      have k2 : decide (k ≥ 1) = true := decide_eq_true k1
      have k3 : ¬ (k ≤ 1099511627776) := by omega
      have k4 : decide (k ≤ 1099511627776) = false := decide_eq_false k3
      have RT1 := Lib.hid (RowAt.nil S1)
      have RT2 := Lib.hid (RowAt.nil S1)
      obtain ⟨T0, T1⟩ := cell_of HT.out
      have TF := frozen_of HT.out
      go_wp2_with fail
      refine (lsame_true _ _ _ _ _ _ _ _ (RG1.out.below (by repeat (first | (with_reducible exact Below.refl _ _) | (with_reducible assumption) | (with_reducible refine below_drewN ?_ _) | (with_reducible refine Below.drew ?_) | (with_reducible refine below_ext_of ?_ (by first | exact Nat.le_refl _ | assumption | (simp only [World.size_alloc, World.size_setCell, size_ext, World.heap_drewN]; omega)) _ _) | (with_reducible refine Below.alloc ?_ (by first | exact Nat.le_refl _ | assumption | (simp only [World.size_alloc, World.size_setCell, size_ext, World.heap_drewN]; omega)) _) | (with_reducible refine Below.setCell ?_ (by first | exact Nat.le_refl _ | assumption | (simp only [World.size_alloc, World.size_setCell, size_ext, World.heap_drewN]; omega)) _)))) (RG2.out.below (by repeat (first | (with_reducible exact Below.refl _ _) | (with_reducible assumption) | (with_reducible refine below_drewN ?_ _) | (with_reducible refine Below.drew ?_) | (with_reducible refine below_ext_of ?_ (by first | exact Nat.le_refl _ | assumption | (simp only [World.size_alloc, World.size_setCell, size_ext, World.heap_drewN]; omega)) _ _) | (with_reducible refine Below.alloc ?_ (by first | exact Nat.le_refl _ | assumption | (simp only [World.size_alloc, World.size_setCell, size_ext, World.heap_drewN]; omega)) _) | (with_reducible refine Below.setCell ?_ (by first | exact Nat.le_refl _ | assumption | (simp only [World.size_alloc, World.size_setCell, size_ext, World.heap_drewN]; omega)) _)))) (RT1.out.below (by repeat (first | (with_reducible exact Below.refl _ _) | (with_reducible assumption) | (with_reducible refine below_drewN ?_ _) | (with_reducible refine Below.drew ?_) | (with_reducible refine below_ext_of ?_ (by first | exact Nat.le_refl _ | assumption | (simp only [World.size_alloc, World.size_setCell, size_ext, World.heap_drewN]; omega)) _ _) | (with_reducible refine Below.alloc ?_ (by first | exact Nat.le_refl _ | assumption | (simp only [World.size_alloc, World.size_setCell, size_ext, World.heap_drewN]; omega)) _) | (with_reducible refine Below.setCell ?_ (by first | exact Nat.le_refl _ | assumption | (simp only [World.size_alloc, World.size_setCell, size_ext, World.heap_drewN]; omega)) _)))) (RT2.out.below (by repeat (first | (with_reducible exact Below.refl _ _) | (with_reducible assumption) | (with_reducible refine below_drewN ?_ _) | (with_reducible refine Below.drew ?_) | (with_reducible refine below_ext_of ?_ (by first | exact Nat.le_refl _ | assumption | (simp only [World.size_alloc, World.size_setCell, size_ext, World.heap_drewN]; omega)) _ _) | (with_reducible refine Below.alloc ?_ (by first | exact Nat.le_refl _ | assumption | (simp only [World.size_alloc, World.size_setCell, size_ext, World.heap_drewN]; omega)) _) | (with_reducible refine Below.setCell ?_ (by first | exact Nat.le_refl _ | assumption | (simp only [World.size_alloc, World.size_setCell, size_ext, World.heap_drewN]; omega)) _))))).mono ?_
      rintro e W1 ⟨rfl, hb⟩
      have hB : Below S1.heap.size S1 W1 := Below.trans (by repeat (first | (with_reducible exact Below.refl _ _) | (with_reducible assumption) | (with_reducible refine below_drewN ?_ _) | (with_reducible refine Below.drew ?_) | (with_reducible refine below_ext_of ?_ (by first | exact Nat.le_refl _ | assumption | (simp only [World.size_alloc, World.size_setCell, size_ext, World.heap_drewN]; omega)) _ _) | (with_reducible refine Below.alloc ?_ (by first | exact Nat.le_refl _ | assumption | (simp only [World.size_alloc, World.size_setCell, size_ext, World.heap_drewN]; omega)) _) | (with_reducible refine Below.setCell ?_ (by first | exact Nat.le_refl _ | assumption | (simp only [World.size_alloc, World.size_setCell, size_ext, World.heap_drewN]; omega)) _))) (hb.mono (by simp [go_sem] <;> omega))
      replace RA1 := Lib.hid (RA1.out.below hB)
      replace RA2 := Lib.hid (RA2.out.below hB)
      replace RB1 := Lib.hid (RB1.out.below hB)
      replace RB2 := Lib.hid (RB2.out.below hB)
      replace RD1 := Lib.hid (RD1.out.below hB)
      replace RD2 := Lib.hid (RD2.out.below hB)
      replace RU1 := Lib.hid (RU1.out.below hB)
      replace RU2 := Lib.hid (RU2.out.below hB)
      replace RG1 := Lib.hid (RG1.out.below hB)
      replace RG2 := Lib.hid (RG2.out.below hB)
      replace RZ1 := Lib.hid (RZ1.out.below hB)
      replace RZ2 := Lib.hid (RZ2.out.below hB)
      replace RT1 := Lib.hid (RT1.out.below hB)
      replace RT2 := Lib.hid (RT2.out.below hB)
      replace HVB := Lib.hid (HVB.out.trans (hB.mono HVB.out.size))
      replace Ka0 := keep_cell hB Na Ka0
      replace Ka1 := keep_cell hB Na Ka1
      replace Na := Nat.lt_of_lt_of_le Na hB.size
      replace Kb0 := keep_cell hB Nb Kb0
      replace Kb1 := keep_cell hB Nb Kb1
      replace Nb := Nat.lt_of_lt_of_le Nb hB.size
      replace Kd0 := keep_cell hB Nd Kd0
      replace Kd1 := keep_cell hB Nd Kd1
      replace Nd := Nat.lt_of_lt_of_le Nd hB.size
      replace Ku0 := keep_cell hB Nu Ku0
      replace Ku1 := keep_cell hB Nu Ku1
      replace Nu := Nat.lt_of_lt_of_le Nu hB.size
      replace Kg0 := keep_cell hB Ng Kg0
      replace Kg1 := keep_cell hB Ng Kg1
      replace Ng := Nat.lt_of_lt_of_le Ng hB.size
      replace Kz0 := keep_cell hB Nz Kz0
      replace Kz1 := keep_cell hB Nz Kz1
      replace Nz := Nat.lt_of_lt_of_le Nz hB.size
      replace HT := Lib.hid ((hB.block _ Nt).trans HT.out)
      replace Nt := Nat.lt_of_lt_of_le Nt hB.size
      clear T0 T1 TF
      clear hb hB
      go_upto_if 153 with (fail)
      go_cut [] (fun wc => W1 = wc)
      case first =>
        go_wp2_with fail
        go_meet
        case rel => rfl
      case rest =>
      obtain rfl := hcut
      apply_assumption
      exact make21 w W1 HVB _ _ _ _ _ _ _ _ _ _ _ _ _ _ _ _ _ _ _ _ _ _ _ _ _ _ _ _ _ _ _ _ _ _ _ _ Bt _ _ _ _ _ _ HT Nt Lt RA1 RA2 Ba Ka0 Ka1 Na La RB1 RB2 Bb Kb0 Kb1 Nb Lb RD1 RD2 Bd Kd0 Kd1 Nd Ld RU1 RU2 Bu Ku0 Ku1 Nu Lu RG1 RG2 Bg Kg0 Kg1 Ng Lg RZ1 RZ2 Bz Kz0 Kz1 Nz Lz _ op _ _ _ _ hk2 hop MA HLA HLB I_a1 I_b1 HZd HZu HZg HZz _ _ _ _ _ _ _ _ _ _ _ _ _ _ _ _ _ _ _ _ _ _ _ _ _ _ _ _ _ _ _ _ _ _ _ _ _ _ _ _ _ _ _ _ _ _ _ _ _ _ _ _ _ _ _ _ _ _ _ _ _ _ _ _ _ _ _ _ _ _ _ _ _ _ _ _ _ _ _ _ _ _ _ _ _ _ _ _ _ _ _ _ _ _ _ _ _ _ _ _ _ _ _ _ _ _ _ _ _ _ _ _ _ _ _ _ _ _ _ _ _ _ _ _ _ _ _ _ _ _ _ _ _ _ _ _ _ _ _ _ _ _ _ _ _ _ _ _ _ _ _ _ _ _ _ _ _ _ _ _ _ _ _ _ _ _ _
set_option maxRecDepth 100000 in
set_option maxHeartbeats 40000000 in
theorem make15 (w W : World) (HVB : Hid (Below w.heap.size w W)) (a1 a2 b1 b2 d1 d2 u1 u2 g1 g2 z1 z2 : List Int) (pa qa pb qb pd qd pu qu pg qg pz qz : Option Addr) (sa ta sb tb sd td su tu sg tg sz tz : Nat) (Bt : Nat) (x1 x2 : Option Addr) (y1 y2 y3 y4 : Nat) (HT : Hid (W.heap[Bt]? = some (.cells #[.slice x1 y1 y2, .slice x2 y3 y4] 24))) (Nt : Bt < W.heap.size) (Lt : w.heap.size ≤ Bt) (RA1 : Hid (RowAt W (.slice pa a1.length sa) a1)) (RA2 : Hid (RowAt W (.slice qa a2.length ta) a2)) (Ba : Nat) (Ka0 : W.cell? ⟨Ba, 0, none⟩ = some (.slice pa a1.length sa)) (Ka1 : W.cell? ⟨Ba, 1, none⟩ = some (.slice qa a2.length ta)) (Na : Ba < W.heap.size) (La : Ba < Bt) (RB1 : Hid (RowAt W (.slice pb b1.length sb) b1)) (RB2 : Hid (RowAt W (.slice qb b2.length tb) b2)) (Bb : Nat) (Kb0 : W.cell? ⟨Bb, 0, none⟩ = some (.slice pb b1.length sb)) (Kb1 : W.cell? ⟨Bb, 1, none⟩ = some (.slice qb b2.length tb)) (Nb : Bb < W.heap.size) (Lb : Bb < Bt) (RD1 : Hid (RowAt W (.slice pd d1.length sd) d1)) (RD2 : Hid (RowAt W (.slice qd d2.length td) d2)) (Bd : Nat) (Kd0 : W.cell? ⟨Bd, 0, none⟩ = some (.slice pd d1.length sd)) (Kd1 : W.cell? ⟨Bd, 1, none⟩ = some (.slice qd d2.length td)) (Nd : Bd < W.heap.size) (Ld : Bd < Bt) (RU1 : Hid (RowAt W (.slice pu u1.length su) u1)) (RU2 : Hid (RowAt W (.slice qu u2.length tu) u2)) (Bu : Nat) (Ku0 : W.cell? ⟨Bu, 0, none⟩ = some (.slice pu u1.length su)) (Ku1 : W.cell? ⟨Bu, 1, none⟩ = some (.slice qu u2.length tu)) (Nu : Bu < W.heap.size) (Lu : Bu < Bt) (RG1 : Hid (RowAt W (.slice pg g1.length sg) g1)) (RG2 : Hid (RowAt W (.slice qg g2.length tg) g2)) (Bg : Nat) (Kg0 : W.cell? ⟨Bg, 0, none⟩ = some (.slice pg g1.length sg)) (Kg1 : W.cell? ⟨Bg, 1, none⟩ = some (.slice qg g2.length tg)) (Ng : Bg < W.heap.size) (Lg : Bg < Bt) (RZ1 : Hid (RowAt W (.slice pz z1.length sz) z1)) (RZ2 : Hid (RowAt W (.slice qz z2.length tz) z2)) (Bz : Nat) (Kz0 : W.cell? ⟨Bz, 0, none⟩ = some (.slice pz z1.length sz)) (Kz1 : W.cell? ⟨Bz, 1, none⟩ = some (.slice qz z2.length tz)) (Nz : Bz < W.heap.size) (Lz : Bz < Bt) (k : Int) (op : Nat) (Ed Eu Eg Ez : Int) (hk2 : Hid (k < 9223372036854775808)) (hop : op < 256) (MA : Hid (may a1 a2 = true)) (HLA : Hid (a1.length ≤ 200 ∧ a2.length ≤ 200)) (HLB : Hid (b1.length ≤ 200 ∧ b2.length ≤ 200)) (I_a1 : Hid (in64W a1 a2)) (I_b1 : Hid (in64W b1 b2)) (HZd : Hid (dropZ a1 a2 k = (d1, d2, Ed))) (HZu : Hid (upZ a1 a2 k = (u1, u2, Eu))) (HZg : Hid (downZ a1 a2 k = (g1, g2, Eg))) (HZz : Hid (zipZ op a1 a2 b1 b2 = (z1, z2, Ez))) (f0 f1 f3 f7 f8 f9 f10 f11 f14 f15 f23 f24 f25 f26 f27 f28 f29 f30 f31 f32 f33 f34 f35 f36 f37 f38 f39 f40 f41 f42 f43 f44 f45 f46 f47 f48 f49 f50 f51 f52 f53 f54 f55 f56 f57 f58 f59 f60 f61 f62 f63 f64 f65 f66 f67 f68 f69 f70 f71 f72 f73 f74 f75 f76 f77 f78 f79 f80 f81 f82 f83 f84 f85 f86 f87 f88 f89 f90 f91 f92 f93 f94 f95 f96 f97 f98 f99 f100 f101 f102 f103 f104 f105 f106 f107 f108 f109 f110 f111 f112 f113 f114 f115 f116 f117 f118 f119 f120 f121 f122 f123 f124 f125 f126 f127 f128 f129 f130 f131 f132 f133 f134 f135 f136 f137 f138 f139 f140 f141 f142 f143 f144 f145 f146 f147 f148 f149 f150 f151 f152 f153 f154 f155 f156 f157 f158 f159 f160 f161 f162 f163 f164 f165 f166 f167 f168 f169 f170 f171 f172 f173 f174 f175 f176 f177 f178 f179 : Value) : Code.wp Try.prog (makeC 15) (bodyPost Try.prog Try.f4 (fun e w' => e = .returned (.bool true) ∧ Below w.heap.size w w')) { tmps := #[f0, f1, .int .i64 k, f3, .int .u8 (op : Int), .pointer (some ⟨Ba, 0, none⟩), .pointer (some ⟨Bb, 0, none⟩), f7, f8, f9, f10, f11, .pointer (some ⟨Bd, 0, none⟩), .int .i64 Ed, f14, f15, .pointer (some ⟨Bu, 0, none⟩), .int .i64 Eu, .pointer (some ⟨Bg, 0, none⟩), .int .i64 Eg, .pointer (some ⟨Bz, 0, none⟩), .int .i64 Ez, .pointer (some ⟨Bt, 0, none⟩), f23, f24, f25, f26, f27, f28, f29, f30, f31, f32, f33, f34, f35, f36, f37, f38, f39, f40, f41, f42, f43, f44, f45, f46, f47, f48, f49, f50, f51, f52, f53, f54, f55, f56, f57, f58, f59, f60, f61, f62, f63, f64, f65, f66, f67, f68, f69, f70, f71, f72, f73, f74, f75, f76, f77, f78, f79, f80, f81, f82, f83, f84, f85, f86, f87, f88, f89, f90, f91, f92, f93, f94, f95, f96, f97, f98, f99, f100, f101, f102, f103, f104, f105, f106, f107, f108, f109, f110, f111, f112, f113, f114, f115, f116, f117, f118, f119, f120, f121, f122, f123, f124, f125, f126, f127, f128, f129, f130, f131, f132, f133, f134, f135, f136, f137, f138, f139, f140, f141, f142, f143, f144, f145, f146, f147, f148, f149, f150, f151, f152, f153, f154, f155, f156, f157, f158, f159, f160, f161, f162, f163, f164, f165, f166, f167, f168, f169, f170, f171, f172, f173, f174, f175, f176, f177, f178, f179], defers := [] } W := by
  conv => arg 2; whnf
  obtain ⟨T0, T1⟩ := cell_of HT.out
  have TF := frozen_of HT.out
  go_upto_region 22 with (fail)
  obtain ⟨S1, hS1⟩ : ∃ V, V = (W.setCell ⟨Bt, 0, none⟩ (.slice none 0 0)).setCell ⟨Bt, 1, none⟩ (.slice none 0 0) := ⟨_, rfl⟩
  rw [← hS1]
  have hs0 := set_word0 HT.out (.slice none 0 0)
  replace RA1 := Lib.hid (show RowAt S1 _ _ by rw [hS1]; exact (RA1.out.put HT.out 0 _).put hs0 1 _)
  replace RA2 := Lib.hid (show RowAt S1 _ _ by rw [hS1]; exact (RA2.out.put HT.out 0 _).put hs0 1 _)
  replace RB1 := Lib.hid (show RowAt S1 _ _ by rw [hS1]; exact (RB1.out.put HT.out 0 _).put hs0 1 _)
  replace RB2 := Lib.hid (show RowAt S1 _ _ by rw [hS1]; exact (RB2.out.put HT.out 0 _).put hs0 1 _)
  replace RD1 := Lib.hid (show RowAt S1 _ _ by rw [hS1]; exact (RD1.out.put HT.out 0 _).put hs0 1 _)
  replace RD2 := Lib.hid (show RowAt S1 _ _ by rw [hS1]; exact (RD2.out.put HT.out 0 _).put hs0 1 _)
  replace RU1 := Lib.hid (show RowAt S1 _ _ by rw [hS1]; exact (RU1.out.put HT.out 0 _).put hs0 1 _)
  replace RU2 := Lib.hid (show RowAt S1 _ _ by rw [hS1]; exact (RU2.out.put HT.out 0 _).put hs0 1 _)
  replace RG1 := Lib.hid (show RowAt S1 _ _ by rw [hS1]; exact (RG1.out.put HT.out 0 _).put hs0 1 _)
  replace RG2 := Lib.hid (show RowAt S1 _ _ by rw [hS1]; exact (RG2.out.put HT.out 0 _).put hs0 1 _)
  replace RZ1 := Lib.hid (show RowAt S1 _ _ by rw [hS1]; exact (RZ1.out.put HT.out 0 _).put hs0 1 _)
  replace RZ2 := Lib.hid (show RowAt S1 _ _ by rw [hS1]; exact (RZ2.out.put HT.out 0 _).put hs0 1 _)
  replace HVB := Lib.hid (show Below w.heap.size w S1 by rw [hS1]; exact (HVB.out.setCell Lt _).setCell Lt _)
  replace Ka0 := ((congrArg (fun W' => W'.cell? ⟨Ba, 0, none⟩) hS1).trans ((cell_oth (by omega)).trans (cell_oth (by omega)))).trans Ka0
  replace Ka1 := ((congrArg (fun W' => W'.cell? ⟨Ba, 1, none⟩) hS1).trans ((cell_oth (by omega)).trans (cell_oth (by omega)))).trans Ka1
  replace Na : Ba < S1.heap.size := by rw [hS1, World.size_setCell, World.size_setCell]; exact Na
  replace Kb0 := ((congrArg (fun W' => W'.cell? ⟨Bb, 0, none⟩) hS1).trans ((cell_oth (by omega)).trans (cell_oth (by omega)))).trans Kb0
  replace Kb1 := ((congrArg (fun W' => W'.cell? ⟨Bb, 1, none⟩) hS1).trans ((cell_oth (by omega)).trans (cell_oth (by omega)))).trans Kb1
  replace Nb : Bb < S1.heap.size := by rw [hS1, World.size_setCell, World.size_setCell]; exact Nb
  replace Kd0 := ((congrArg (fun W' => W'.cell? ⟨Bd, 0, none⟩) hS1).trans ((cell_oth (by omega)).trans (cell_oth (by omega)))).trans Kd0
  replace Kd1 := ((congrArg (fun W' => W'.cell? ⟨Bd, 1, none⟩) hS1).trans ((cell_oth (by omega)).trans (cell_oth (by omega)))).trans Kd1
  replace Nd : Bd < S1.heap.size := by rw [hS1, World.size_setCell, World.size_setCell]; exact Nd
  replace Ku0 := ((congrArg (fun W' => W'.cell? ⟨Bu, 0, none⟩) hS1).trans ((cell_oth (by omega)).trans (cell_oth (by omega)))).trans Ku0
  replace Ku1 := ((congrArg (fun W' => W'.cell? ⟨Bu, 1, none⟩) hS1).trans ((cell_oth (by omega)).trans (cell_oth (by omega)))).trans Ku1
  replace Nu : Bu < S1.heap.size := by rw [hS1, World.size_setCell, World.size_setCell]; exact Nu
  replace Kg0 := ((congrArg (fun W' => W'.cell? ⟨Bg, 0, none⟩) hS1).trans ((cell_oth (by omega)).trans (cell_oth (by omega)))).trans Kg0
  replace Kg1 := ((congrArg (fun W' => W'.cell? ⟨Bg, 1, none⟩) hS1).trans ((cell_oth (by omega)).trans (cell_oth (by omega)))).trans Kg1
  replace Ng : Bg < S1.heap.size := by rw [hS1, World.size_setCell, World.size_setCell]; exact Ng
  replace Kz0 := ((congrArg (fun W' => W'.cell? ⟨Bz, 0, none⟩) hS1).trans ((cell_oth (by omega)).trans (cell_oth (by omega)))).trans Kz0
  replace Kz1 := ((congrArg (fun W' => W'.cell? ⟨Bz, 1, none⟩) hS1).trans ((cell_oth (by omega)).trans (cell_oth (by omega)))).trans Kz1
  replace Nz : Bz < S1.heap.size := by rw [hS1, World.size_setCell, World.size_setCell]; exact Nz
  replace HT := Lib.hid (show S1.heap[Bt]? = some (.cells #[.slice none 0 0, .slice none 0 0] 24) by rw [hS1]; exact set_word1 hs0 _)
  replace Nt : Bt < S1.heap.size := by rw [hS1, World.size_setCell, World.size_setCell]; exact Nt
  clear hS1 hs0 T0 T1 TF
  by_cases hc : 1 ≤ k
  · obtain ⟨n, rfl⟩ : ∃ n : Nat, k = (n : Int) := ⟨k.toNat, by omega⟩
    have hz := HZu.out
    unfold upZ at hz
    have HK2 := hk2.out
    rw [if_pos ⟨MA.out, hc⟩, Int.toNat_natCast] at hz
    have HY := Lib.hid hz
    clear hz HK2
    have k1 : (1 : Int) ≤ (n : Int) := by omega
    have k2 : decide ((n : Int) ≥ 1) = true := decide_eq_true k1
    go_wp2_with fail
    refine (rup_call _ _ _ a1 a2 u1 u2 Eu n (by omega) (by have := hk2.out; omega) (RA1.out.below (by repeat (first | (with_reducible exact Below.refl _ _) | (with_reducible assumption) | (with_reducible refine below_drewN ?_ _) | (with_reducible refine Below.drew ?_) | (with_reducible refine below_ext_of ?_ (by first | exact Nat.le_refl _ | assumption | (simp only [World.size_alloc, World.size_setCell, size_ext, World.heap_drewN]; omega)) _ _) | (with_reducible refine Below.alloc ?_ (by first | exact Nat.le_refl _ | assumption | (simp only [World.size_alloc, World.size_setCell, size_ext, World.heap_drewN]; omega)) _) | (with_reducible refine Below.setCell ?_ (by first | exact Nat.le_refl _ | assumption | (simp only [World.size_alloc, World.size_setCell, size_ext, World.heap_drewN]; omega)) _)))) (RA2.out.below (by repeat (first | (with_reducible exact Below.refl _ _) | (with_reducible assumption) | (with_reducible refine below_drewN ?_ _) | (with_reducible refine Below.drew ?_) | (with_reducible refine below_ext_of ?_ (by first | exact Nat.le_refl _ | assumption | (simp only [World.size_alloc, World.size_setCell, size_ext, World.heap_drewN]; omega)) _ _) | (with_reducible refine Below.alloc ?_ (by first | exact Nat.le_refl _ | assumption | (simp only [World.size_alloc, World.size_setCell, size_ext, World.heap_drewN]; omega)) _) | (with_reducible refine Below.setCell ?_ (by first | exact Nat.le_refl _ | assumption | (simp only [World.size_alloc, World.size_setCell, size_ext, World.heap_drewN]; omega)) _)))) MA.out HY.out).mono ?_
    rintro e W1 ⟨hb, xp, xc, xq, xt, rfl, r1, r2⟩
    have hB : Below S1.heap.size S1 W1 := Below.trans (by repeat (first | (with_reducible exact Below.refl _ _) | (with_reducible assumption) | (with_reducible refine below_drewN ?_ _) | (with_reducible refine Below.drew ?_) | (with_reducible refine below_ext_of ?_ (by first | exact Nat.le_refl _ | assumption | (simp only [World.size_alloc, World.size_setCell, size_ext, World.heap_drewN]; omega)) _ _) | (with_reducible refine Below.alloc ?_ (by first | exact Nat.le_refl _ | assumption | (simp only [World.size_alloc, World.size_setCell, size_ext, World.heap_drewN]; omega)) _) | (with_reducible refine Below.setCell ?_ (by first | exact Nat.le_refl _ | assumption | (simp only [World.size_alloc, World.size_setCell, size_ext, World.heap_drewN]; omega)) _))) (hb.mono (by simp [go_sem] <;> omega))
    replace RA1 := Lib.hid (RA1.out.below hB)
    replace RA2 := Lib.hid (RA2.out.below hB)
    replace RB1 := Lib.hid (RB1.out.below hB)
    replace RB2 := Lib.hid (RB2.out.below hB)
    replace RD1 := Lib.hid (RD1.out.below hB)
    replace RD2 := Lib.hid (RD2.out.below hB)
    replace RU1 := Lib.hid (RU1.out.below hB)
    replace RU2 := Lib.hid (RU2.out.below hB)
    replace RG1 := Lib.hid (RG1.out.below hB)
    replace RG2 := Lib.hid (RG2.out.below hB)
    replace RZ1 := Lib.hid (RZ1.out.below hB)
    replace RZ2 := Lib.hid (RZ2.out.below hB)
    replace HVB := Lib.hid (HVB.out.trans (hB.mono HVB.out.size))
    replace Ka0 := keep_cell hB Na Ka0
    replace Ka1 := keep_cell hB Na Ka1
    replace Na := Nat.lt_of_lt_of_le Na hB.size
    replace Kb0 := keep_cell hB Nb Kb0
    replace Kb1 := keep_cell hB Nb Kb1
    replace Nb := Nat.lt_of_lt_of_le Nb hB.size
    replace Kd0 := keep_cell hB Nd Kd0
    replace Kd1 := keep_cell hB Nd Kd1
    replace Nd := Nat.lt_of_lt_of_le Nd hB.size
    replace Ku0 := keep_cell hB Nu Ku0
    replace Ku1 := keep_cell hB Nu Ku1
    replace Nu := Nat.lt_of_lt_of_le Nu hB.size
    replace Kg0 := keep_cell hB Ng Kg0
    replace Kg1 := keep_cell hB Ng Kg1
    replace Ng := Nat.lt_of_lt_of_le Ng hB.size
    replace Kz0 := keep_cell hB Nz Kz0
    replace Kz1 := keep_cell hB Nz Kz1
    replace Nz := Nat.lt_of_lt_of_le Nz hB.size
    replace HT := Lib.hid ((hB.block _ Nt).trans HT.out)
    replace Nt := Nat.lt_of_lt_of_le Nt hB.size
    have RT1 := Lib.hid r1
    have RT2 := Lib.hid r2
    clear r1 r2
    clear hb hB
    obtain ⟨T0, T1⟩ := cell_of HT.out
    have TF := frozen_of HT.out
    go_upto_region 24 with (fail)
    obtain ⟨S3, hS3⟩ : ∃ V, V = (W1.setCell ⟨Bt, 0, none⟩ (.slice xp u1.length xc)).setCell ⟨Bt, 1, none⟩ (.slice xq u2.length xt) := ⟨_, rfl⟩
    rw [← hS3]
    have hs0 := set_word0 HT.out (.slice xp u1.length xc)
    replace RA1 := Lib.hid (show RowAt S3 _ _ by rw [hS3]; exact (RA1.out.put HT.out 0 _).put hs0 1 _)
    replace RA2 := Lib.hid (show RowAt S3 _ _ by rw [hS3]; exact (RA2.out.put HT.out 0 _).put hs0 1 _)
    replace RB1 := Lib.hid (show RowAt S3 _ _ by rw [hS3]; exact (RB1.out.put HT.out 0 _).put hs0 1 _)
    replace RB2 := Lib.hid (show RowAt S3 _ _ by rw [hS3]; exact (RB2.out.put HT.out 0 _).put hs0 1 _)
    replace RD1 := Lib.hid (show RowAt S3 _ _ by rw [hS3]; exact (RD1.out.put HT.out 0 _).put hs0 1 _)
    replace RD2 := Lib.hid (show RowAt S3 _ _ by rw [hS3]; exact (RD2.out.put HT.out 0 _).put hs0 1 _)
    replace RU1 := Lib.hid (show RowAt S3 _ _ by rw [hS3]; exact (RU1.out.put HT.out 0 _).put hs0 1 _)
    replace RU2 := Lib.hid (show RowAt S3 _ _ by rw [hS3]; exact (RU2.out.put HT.out 0 _).put hs0 1 _)
    replace RG1 := Lib.hid (show RowAt S3 _ _ by rw [hS3]; exact (RG1.out.put HT.out 0 _).put hs0 1 _)
    replace RG2 := Lib.hid (show RowAt S3 _ _ by rw [hS3]; exact (RG2.out.put HT.out 0 _).put hs0 1 _)
    replace RZ1 := Lib.hid (show RowAt S3 _ _ by rw [hS3]; exact (RZ1.out.put HT.out 0 _).put hs0 1 _)
    replace RZ2 := Lib.hid (show RowAt S3 _ _ by rw [hS3]; exact (RZ2.out.put HT.out 0 _).put hs0 1 _)
    replace RT1 := Lib.hid (show RowAt S3 _ _ by rw [hS3]; exact (RT1.out.put HT.out 0 _).put hs0 1 _)
    replace RT2 := Lib.hid (show RowAt S3 _ _ by rw [hS3]; exact (RT2.out.put HT.out 0 _).put hs0 1 _)
    replace HVB := Lib.hid (show Below w.heap.size w S3 by rw [hS3]; exact (HVB.out.setCell Lt _).setCell Lt _)
    replace Ka0 := ((congrArg (fun W' => W'.cell? ⟨Ba, 0, none⟩) hS3).trans ((cell_oth (by omega)).trans (cell_oth (by omega)))).trans Ka0
    replace Ka1 := ((congrArg (fun W' => W'.cell? ⟨Ba, 1, none⟩) hS3).trans ((cell_oth (by omega)).trans (cell_oth (by omega)))).trans Ka1
    replace Na : Ba < S3.heap.size := by rw [hS3, World.size_setCell, World.size_setCell]; exact Na
    replace Kb0 := ((congrArg (fun W' => W'.cell? ⟨Bb, 0, none⟩) hS3).trans ((cell_oth (by omega)).trans (cell_oth (by omega)))).trans Kb0
    replace Kb1 := ((congrArg (fun W' => W'.cell? ⟨Bb, 1, none⟩) hS3).trans ((cell_oth (by omega)).trans (cell_oth (by omega)))).trans Kb1
    replace Nb : Bb < S3.heap.size := by rw [hS3, World.size_setCell, World.size_setCell]; exact Nb
    replace Kd0 := ((congrArg (fun W' => W'.cell? ⟨Bd, 0, none⟩) hS3).trans ((cell_oth (by omega)).trans (cell_oth (by omega)))).trans Kd0
    replace Kd1 := ((congrArg (fun W' => W'.cell? ⟨Bd, 1, none⟩) hS3).trans ((cell_oth (by omega)).trans (cell_oth (by omega)))).trans Kd1
    replace Nd : Bd < S3.heap.size := by rw [hS3, World.size_setCell, World.size_setCell]; exact Nd
    replace Ku0 := ((congrArg (fun W' => W'.cell? ⟨Bu, 0, none⟩) hS3).trans ((cell_oth (by omega)).trans (cell_oth (by omega)))).trans Ku0
    replace Ku1 := ((congrArg (fun W' => W'.cell? ⟨Bu, 1, none⟩) hS3).trans ((cell_oth (by omega)).trans (cell_oth (by omega)))).trans Ku1
    replace Nu : Bu < S3.heap.size := by rw [hS3, World.size_setCell, World.size_setCell]; exact Nu
    replace Kg0 := ((congrArg (fun W' => W'.cell? ⟨Bg, 0, none⟩) hS3).trans ((cell_oth (by omega)).trans (cell_oth (by omega)))).trans Kg0
    replace Kg1 := ((congrArg (fun W' => W'.cell? ⟨Bg, 1, none⟩) hS3).trans ((cell_oth (by omega)).trans (cell_oth (by omega)))).trans Kg1
    replace Ng : Bg < S3.heap.size := by rw [hS3, World.size_setCell, World.size_setCell]; exact Ng
    replace Kz0 := ((congrArg (fun W' => W'.cell? ⟨Bz, 0, none⟩) hS3).trans ((cell_oth (by omega)).trans (cell_oth (by omega)))).trans Kz0
    replace Kz1 := ((congrArg (fun W' => W'.cell? ⟨Bz, 1, none⟩) hS3).trans ((cell_oth (by omega)).trans (cell_oth (by omega)))).trans Kz1
    replace Nz : Bz < S3.heap.size := by rw [hS3, World.size_setCell, World.size_setCell]; exact Nz
    replace HT := Lib.hid (show S3.heap[Bt]? = some (.cells #[.slice xp u1.length xc, .slice xq u2.length xt] 24) by rw [hS3]; exact set_word1 hs0 _)
    replace Nt : Bt < S3.heap.size := by rw [hS3, World.size_setCell, World.size_setCell]; exact Nt
    clear hS3 hs0 T0 T1 TF
    obtain ⟨T0, T1⟩ := cell_of HT.out
    have TF := frozen_of HT.out
    go_wp2_with fail
    refine (lsame_true _ _ _ _ _ u1 u2 Eu (RU1.out.below (by repeat (first | (with_reducible exact Below.refl _ _) | (with_reducible assumption) | (with_reducible refine below_drewN ?_ _) | (with_reducible refine Below.drew ?_) | (with_reducible refine below_ext_of ?_ (by first | exact Nat.le_refl _ | assumption | (simp only [World.size_alloc, World.size_setCell, size_ext, World.heap_drewN]; omega)) _ _) | (with_reducible refine Below.alloc ?_ (by first | exact Nat.le_refl _ | assumption | (simp only [World.size_alloc, World.size_setCell, size_ext, World.heap_drewN]; omega)) _) | (with_reducible refine Below.setCell ?_ (by first | exact Nat.le_refl _ | assumption | (simp only [World.size_alloc, World.size_setCell, size_ext, World.heap_drewN]; omega)) _)))) (RU2.out.below (by repeat (first | (with_reducible exact Below.refl _ _) | (with_reducible assumption) | (with_reducible refine below_drewN ?_ _) | (with_reducible refine Below.drew ?_) | (with_reducible refine below_ext_of ?_ (by first | exact Nat.le_refl _ | assumption | (simp only [World.size_alloc, World.size_setCell, size_ext, World.heap_drewN]; omega)) _ _) | (with_reducible refine Below.alloc ?_ (by first | exact Nat.le_refl _ | assumption | (simp only [World.size_alloc, World.size_setCell, size_ext, World.heap_drewN]; omega)) _) | (with_reducible refine Below.setCell ?_ (by first | exact Nat.le_refl _ | assumption | (simp only [World.size_alloc, World.size_setCell, size_ext, World.heap_drewN]; omega)) _)))) (RT1.out.below (by repeat (first | (with_reducible exact Below.refl _ _) | (with_reducible assumption) | (with_reducible refine below_drewN ?_ _) | (with_reducible refine Below.drew ?_) | (with_reducible refine below_ext_of ?_ (by first | exact Nat.le_refl _ | assumption | (simp only [World.size_alloc, World.size_setCell, size_ext, World.heap_drewN]; omega)) _ _) | (with_reducible refine Below.alloc ?_ (by first | exact Nat.le_refl _ | assumption | (simp only [World.size_alloc, World.size_setCell, size_ext, World.heap_drewN]; omega)) _) | (with_reducible refine Below.setCell ?_ (by first | exact Nat.le_refl _ | assumption | (simp only [World.size_alloc, World.size_setCell, size_ext, World.heap_drewN]; omega)) _)))) (RT2.out.below (by repeat (first | (with_reducible exact Below.refl _ _) | (with_reducible assumption) | (with_reducible refine below_drewN ?_ _) | (with_reducible refine Below.drew ?_) | (with_reducible refine below_ext_of ?_ (by first | exact Nat.le_refl _ | assumption | (simp only [World.size_alloc, World.size_setCell, size_ext, World.heap_drewN]; omega)) _ _) | (with_reducible refine Below.alloc ?_ (by first | exact Nat.le_refl _ | assumption | (simp only [World.size_alloc, World.size_setCell, size_ext, World.heap_drewN]; omega)) _) | (with_reducible refine Below.setCell ?_ (by first | exact Nat.le_refl _ | assumption | (simp only [World.size_alloc, World.size_setCell, size_ext, World.heap_drewN]; omega)) _))))).mono ?_
    rintro e W2 ⟨rfl, hb⟩
    have hB : Below S3.heap.size S3 W2 := Below.trans (by repeat (first | (with_reducible exact Below.refl _ _) | (with_reducible assumption) | (with_reducible refine below_drewN ?_ _) | (with_reducible refine Below.drew ?_) | (with_reducible refine below_ext_of ?_ (by first | exact Nat.le_refl _ | assumption | (simp only [World.size_alloc, World.size_setCell, size_ext, World.heap_drewN]; omega)) _ _) | (with_reducible refine Below.alloc ?_ (by first | exact Nat.le_refl _ | assumption | (simp only [World.size_alloc, World.size_setCell, size_ext, World.heap_drewN]; omega)) _) | (with_reducible refine Below.setCell ?_ (by first | exact Nat.le_refl _ | assumption | (simp only [World.size_alloc, World.size_setCell, size_ext, World.heap_drewN]; omega)) _))) (hb.mono (by simp [go_sem] <;> omega))
    replace RA1 := Lib.hid (RA1.out.below hB)
    replace RA2 := Lib.hid (RA2.out.below hB)
    replace RB1 := Lib.hid (RB1.out.below hB)
    replace RB2 := Lib.hid (RB2.out.below hB)
    replace RD1 := Lib.hid (RD1.out.below hB)
    replace RD2 := Lib.hid (RD2.out.below hB)
    replace RU1 := Lib.hid (RU1.out.below hB)
    replace RU2 := Lib.hid (RU2.out.below hB)
    replace RG1 := Lib.hid (RG1.out.below hB)
    replace RG2 := Lib.hid (RG2.out.below hB)
    replace RZ1 := Lib.hid (RZ1.out.below hB)
    replace RZ2 := Lib.hid (RZ2.out.below hB)
    replace RT1 := Lib.hid (RT1.out.below hB)
    replace RT2 := Lib.hid (RT2.out.below hB)
    replace HVB := Lib.hid (HVB.out.trans (hB.mono HVB.out.size))
    replace Ka0 := keep_cell hB Na Ka0
    replace Ka1 := keep_cell hB Na Ka1
    replace Na := Nat.lt_of_lt_of_le Na hB.size
    replace Kb0 := keep_cell hB Nb Kb0
    replace Kb1 := keep_cell hB Nb Kb1
    replace Nb := Nat.lt_of_lt_of_le Nb hB.size
    replace Kd0 := keep_cell hB Nd Kd0
    replace Kd1 := keep_cell hB Nd Kd1
    replace Nd := Nat.lt_of_lt_of_le Nd hB.size
    replace Ku0 := keep_cell hB Nu Ku0
    replace Ku1 := keep_cell hB Nu Ku1
    replace Nu := Nat.lt_of_lt_of_le Nu hB.size
    replace Kg0 := keep_cell hB Ng Kg0
    replace Kg1 := keep_cell hB Ng Kg1
    replace Ng := Nat.lt_of_lt_of_le Ng hB.size
    replace Kz0 := keep_cell hB Nz Kz0
    replace Kz1 := keep_cell hB Nz Kz1
    replace Nz := Nat.lt_of_lt_of_le Nz hB.size
    replace HT := Lib.hid ((hB.block _ Nt).trans HT.out)
    replace Nt := Nat.lt_of_lt_of_le Nt hB.size
    clear T0 T1 TF
    clear hb hB
    go_upto_if 134 with (fail)
    go_cut [] (fun wc => W2 = wc)
    case first =>
      go_wp2_with fail
      go_meet
      case rel => rfl
    case rest =>
    obtain rfl := hcut
    apply_assumption
    exact make18 w W2 HVB _ _ _ _ _ _ _ _ _ _ _ _ _ _ _ _ _ _ _ _ _ _ _ _ _ _ _ _ _ _ _ _ _ _ _ _ Bt _ _ _ _ _ _ HT Nt Lt RA1 RA2 Ba Ka0 Ka1 Na La RB1 RB2 Bb Kb0 Kb1 Nb Lb RD1 RD2 Bd Kd0 Kd1 Nd Ld RU1 RU2 Bu Ku0 Ku1 Nu Lu RG1 RG2 Bg Kg0 Kg1 Ng Lg RZ1 RZ2 Bz Kz0 Kz1 Nz Lz _ op _ _ _ _ hk2 hop MA HLA HLB I_a1 I_b1 HZd HZu HZg HZz _ _ _ _ _ _ _ _ _ _ _ _ _ _ _ _ _ _ _ _ _ _ _ _ _ _ _ _ _ _ _ _ _ _ _ _ _ _ _ _ _ _ _ _ _ _ _ _ _ _ _ _ _ _ _ _ _ _ _ _ _ _ _ _ _ _ _ _ _ _ _ _ _ _ _ _ _ _ _ _ _ _ _ _ _ _ _ _ _ _ _ _ _ _ _ _ _ _ _ _ _ _ _ _ _ _ _ _ _ _ _ _ _ _ _ _ _ _ _ _ _ _ _ _ _ _ _ _ _ _ _ _ _ _ _ _ _ _ _ _ _ _ _ _ _ _ _ _ _ _ _ _ _ _ _ _ _ _ _ _ _ _ _ _ _ _ _
  · have hz := HZu.out
    unfold upZ at hz
    rw [if_neg (fun h => hc h.2)] at hz
    obtain ⟨rfl, rfl, rfl⟩ := trip hz
    clear hz
    have k1 : ¬ ((1 : Int) ≤ k) := hc
    have k2 : decide (k ≥ 1) = false := decide_eq_false k1
    have RT1 := Lib.hid (RowAt.nil S1)
    have RT2 := Lib.hid (RowAt.nil S1)
    obtain ⟨T0, T1⟩ := cell_of HT.out
    have TF := frozen_of HT.out
    go_wp2_with fail
    refine (lsame_true _ _ _ _ _ _ _ _ (RU1.out.below (by repeat (first | (with_reducible exact Below.refl _ _) | (with_reducible assumption) | (with_reducible refine below_drewN ?_ _) | (with_reducible refine Below.drew ?_) | (with_reducible refine below_ext_of ?_ (by first | exact Nat.le_refl _ | assumption | (simp only [World.size_alloc, World.size_setCell, size_ext, World.heap_drewN]; omega)) _ _) | (with_reducible refine Below.alloc ?_ (by first | exact Nat.le_refl _ | assumption | (simp only [World.size_alloc, World.size_setCell, size_ext, World.heap_drewN]; omega)) _) | (with_reducible refine Below.setCell ?_ (by first | exact Nat.le_refl _ | assumption | (simp only [World.size_alloc, World.size_setCell, size_ext, World.heap_drewN]; omega)) _)))) (RU2.out.below (by repeat (first | (with_reducible exact Below.refl _ _) | (with_reducible assumption) | (with_reducible refine below_drewN ?_ _) | (with_reducible refine Below.drew ?_) | (with_reducible refine below_ext_of ?_ (by first | exact Nat.le_refl _ | assumption | (simp only [World.size_alloc, World.size_setCell, size_ext, World.heap_drewN]; omega)) _ _) | (with_reducible refine Below.alloc ?_ (by first | exact Nat.le_refl _ | assumption | (simp only [World.size_alloc, World.size_setCell, size_ext, World.heap_drewN]; omega)) _) | (with_reducible refine Below.setCell ?_ (by first | exact Nat.le_refl _ | assumption | (simp only [World.size_alloc, World.size_setCell, size_ext, World.heap_drewN]; omega)) _)))) (RT1.out.below (by repeat (first | (with_reducible exact Below.refl _ _) | (with_reducible assumption) | (with_reducible refine below_drewN ?_ _) | (with_reducible refine Below.drew ?_) | (with_reducible refine below_ext_of ?_ (by first | exact Nat.le_refl _ | assumption | (simp only [World.size_alloc, World.size_setCell, size_ext, World.heap_drewN]; omega)) _ _) | (with_reducible refine Below.alloc ?_ (by first | exact Nat.le_refl _ | assumption | (simp only [World.size_alloc, World.size_setCell, size_ext, World.heap_drewN]; omega)) _) | (with_reducible refine Below.setCell ?_ (by first | exact Nat.le_refl _ | assumption | (simp only [World.size_alloc, World.size_setCell, size_ext, World.heap_drewN]; omega)) _)))) (RT2.out.below (by repeat (first | (with_reducible exact Below.refl _ _) | (with_reducible assumption) | (with_reducible refine below_drewN ?_ _) | (with_reducible refine Below.drew ?_) | (with_reducible refine below_ext_of ?_ (by first | exact Nat.le_refl _ | assumption | (simp only [World.size_alloc, World.size_setCell, size_ext, World.heap_drewN]; omega)) _ _) | (with_reducible refine Below.alloc ?_ (by first | exact Nat.le_refl _ | assumption | (simp only [World.size_alloc, World.size_setCell, size_ext, World.heap_drewN]; omega)) _) | (with_reducible refine Below.setCell ?_ (by first | exact Nat.le_refl _ | assumption | (simp only [World.size_alloc, World.size_setCell, size_ext, World.heap_drewN]; omega)) _))))).mono ?_
    rintro e W1 ⟨rfl, hb⟩
    have hB : Below S1.heap.size S1 W1 := Below.trans (by repeat (first | (with_reducible exact Below.refl _ _) | (with_reducible assumption) | (with_reducible refine below_drewN ?_ _) | (with_reducible refine Below.drew ?_) | (with_reducible refine below_ext_of ?_ (by first | exact Nat.le_refl _ | assumption | (simp only [World.size_alloc, World.size_setCell, size_ext, World.heap_drewN]; omega)) _ _) | (with_reducible refine Below.alloc ?_ (by first | exact Nat.le_refl _ | assumption | (simp only [World.size_alloc, World.size_setCell, size_ext, World.heap_drewN]; omega)) _) | (with_reducible refine Below.setCell ?_ (by first | exact Nat.le_refl _ | assumption | (simp only [World.size_alloc, World.size_setCell, size_ext, World.heap_drewN]; omega)) _))) (hb.mono (by simp [go_sem] <;> omega))
    replace RA1 := Lib.hid (RA1.out.below hB)
    replace RA2 := Lib.hid (RA2.out.below hB)
    replace RB1 := Lib.hid (RB1.out.below hB)
    replace RB2 := Lib.hid (RB2.out.below hB)
    replace RD1 := Lib.hid (RD1.out.below hB)
    replace RD2 := Lib.hid (RD2.out.below hB)
    replace RU1 := Lib.hid (RU1.out.below hB)
    replace RU2 := Lib.hid (RU2.out.below hB)
    replace RG1 := Lib.hid (RG1.out.below hB)
    replace RG2 := Lib.hid (RG2.out.below hB)
    replace RZ1 := Lib.hid (RZ1.out.below hB)
    replace RZ2 := Lib.hid (RZ2.out.below hB)
    replace RT1 := Lib.hid (RT1.out.below hB)
    replace RT2 := Lib.hid (RT2.out.below hB)
    replace HVB := Lib.hid (HVB.out.trans (hB.mono HVB.out.size))
    replace Ka0 := keep_cell hB Na Ka0
    replace Ka1 := keep_cell hB Na Ka1
    replace Na := Nat.lt_of_lt_of_le Na hB.size
    replace Kb0 := keep_cell hB Nb Kb0
    replace Kb1 := keep_cell hB Nb Kb1
    replace Nb := Nat.lt_of_lt_of_le Nb hB.size
    replace Kd0 := keep_cell hB Nd Kd0
    replace Kd1 := keep_cell hB Nd Kd1
    replace Nd := Nat.lt_of_lt_of_le Nd hB.size
    replace Ku0 := keep_cell hB Nu Ku0
    replace Ku1 := keep_cell hB Nu Ku1
    replace Nu := Nat.lt_of_lt_of_le Nu hB.size
    replace Kg0 := keep_cell hB Ng Kg0
    replace Kg1 := keep_cell hB Ng Kg1
    replace Ng := Nat.lt_of_lt_of_le Ng hB.size
    replace Kz0 := keep_cell hB Nz Kz0
    replace Kz1 := keep_cell hB Nz Kz1
    replace Nz := Nat.lt_of_lt_of_le Nz hB.size
    replace HT := Lib.hid ((hB.block _ Nt).trans HT.out)
    replace Nt := Nat.lt_of_lt_of_le Nt hB.size
    clear T0 T1 TF
    clear hb hB
    go_upto_if 134 with (fail)
    go_cut [] (fun wc => W1 = wc)
    case first =>
      go_wp2_with fail
      go_meet
      case rel => rfl
    case rest =>
    obtain rfl := hcut
    apply_assumption
    exact make18 w W1 HVB _ _ _ _ _ _ _ _ _ _ _ _ _ _ _ _ _ _ _ _ _ _ _ _ _ _ _ _ _ _ _ _ _ _ _ _ Bt _ _ _ _ _ _ HT Nt Lt RA1 RA2 Ba Ka0 Ka1 Na La RB1 RB2 Bb Kb0 Kb1 Nb Lb RD1 RD2 Bd Kd0 Kd1 Nd Ld RU1 RU2 Bu Ku0 Ku1 Nu Lu RG1 RG2 Bg Kg0 Kg1 Ng Lg RZ1 RZ2 Bz Kz0 Kz1 Nz Lz _ op _ _ _ _ hk2 hop MA HLA HLB I_a1 I_b1 HZd HZu HZg HZz _ _ _ _ _ _ _ _ _ _ _ _ _ _ _ _ _ _ _ _ _ _ _ _ _ _ _ _ _ _ _ _ _ _ _ _ _ _ _ _ _ _ _ _ _ _ _ _ _ _ _ _ _ _ _ _ _ _ _ _ _ _ _ _ _ _ _ _ _ _ _ _ _ _ _ _ _ _ _ _ _ _ _ _ _ _ _ _ _ _ _ _ _ _ _ _ _ _ _ _ _ _ _ _ _ _ _ _ _ _ _ _ _ _ _ _ _ _ _ _ _ _ _ _ _ _ _ _ _ _ _ _ _ _ _ _ _ _ _ _ _ _ _ _ _ _ _ _ _ _ _ _ _ _ _ _ _ _ _ _ _ _ _ _ _ _ _
set_option maxRecDepth 100000 in
set_option maxHeartbeats 40000000 in
theorem make12 (w W : World) (HVB : Hid (Below w.heap.size w W)) (a1 a2 b1 b2 d1 d2 u1 u2 g1 g2 z1 z2 : List Int) (pa qa pb qb pd qd pu qu pg qg pz qz : Option Addr) (sa ta sb tb sd td su tu sg tg sz tz : Nat) (Bt : Nat) (x1 x2 : Option Addr) (y1 y2 y3 y4 : Nat) (HT : Hid (W.heap[Bt]? = some (.cells #[.slice x1 y1 y2, .slice x2 y3 y4] 24))) (Nt : Bt < W.heap.size) (Lt : w.heap.size ≤ Bt) (RA1 : Hid (RowAt W (.slice pa a1.length sa) a1)) (RA2 : Hid (RowAt W (.slice qa a2.length ta) a2)) (Ba : Nat) (Ka0 : W.cell? ⟨Ba, 0, none⟩ = some (.slice pa a1.length sa)) (Ka1 : W.cell? ⟨Ba, 1, none⟩ = some (.slice qa a2.length ta)) (Na : Ba < W.heap.size) (La : Ba < Bt) (RB1 : Hid (RowAt W (.slice pb b1.length sb) b1)) (RB2 : Hid (RowAt W (.slice qb b2.length tb) b2)) (Bb : Nat) (Kb0 : W.cell? ⟨Bb, 0, none⟩ = some (.slice pb b1.length sb)) (Kb1 : W.cell? ⟨Bb, 1, none⟩ = some (.slice qb b2.length tb)) (Nb : Bb < W.heap.size) (Lb : Bb < Bt) (RD1 : Hid (RowAt W (.slice pd d1.length sd) d1)) (RD2 : Hid (RowAt W (.slice qd d2.length td) d2)) (Bd : Nat) (Kd0 : W.cell? ⟨Bd, 0, none⟩ = some (.slice pd d1.length sd)) (Kd1 : W.cell? ⟨Bd, 1, none⟩ = some (.slice qd d2.length td)) (Nd : Bd < W.heap.size) (Ld : Bd < Bt) (RU1 : Hid (RowAt W (.slice pu u1.length su) u1)) (RU2 : Hid (RowAt W (.slice qu u2.length tu) u2)) (Bu : Nat) (Ku0 : W.cell? ⟨Bu, 0, none⟩ = some (.slice pu u1.length su)) (Ku1 : W.cell? ⟨Bu, 1, none⟩ = some (.slice qu u2.length tu)) (Nu : Bu < W.heap.size) (Lu : Bu < Bt) (RG1 : Hid (RowAt W (.slice pg g1.length sg) g1)) (RG2 : Hid (RowAt W (.slice qg g2.length tg) g2)) (Bg : Nat) (Kg0 : W.cell? ⟨Bg, 0, none⟩ = some (.slice pg g1.length sg)) (Kg1 : W.cell? ⟨Bg, 1, none⟩ = some (.slice qg g2.length tg)) (Ng : Bg < W.heap.size) (Lg : Bg < Bt) (RZ1 : Hid (RowAt W (.slice pz z1.length sz) z1)) (RZ2 : Hid (RowAt W (.slice qz z2.length tz) z2)) (Bz : Nat) (Kz0 : W.cell? ⟨Bz, 0, none⟩ = some (.slice pz z1.length sz)) (Kz1 : W.cell? ⟨Bz, 1, none⟩ = some (.slice qz z2.length tz)) (Nz : Bz < W.heap.size) (Lz : Bz < Bt) (k : Int) (op : Nat) (Ed Eu Eg Ez : Int) (hk2 : Hid (k < 9223372036854775808)) (hop : op < 256) (MA : Hid (may a1 a2 = true)) (HLA : Hid (a1.length ≤ 200 ∧ a2.length ≤ 200)) (HLB : Hid (b1.length ≤ 200 ∧ b2.length ≤ 200)) (I_a1 : Hid (in64W a1 a2)) (I_b1 : Hid (in64W b1 b2)) (HZd : Hid (dropZ a1 a2 k = (d1, d2, Ed))) (HZu : Hid (upZ a1 a2 k = (u1, u2, Eu))) (HZg : Hid (downZ a1 a2 k = (g1, g2, Eg))) (HZz : Hid (zipZ op a1 a2 b1 b2 = (z1, z2, Ez))) (f0 f1 f3 f7 f8 f9 f10 f11 f14 f15 f23 f24 f25 f26 f27 f28 f29 f30 f31 f32 f33 f34 f35 f36 f37 f38 f39 f40 f41 f42 f43 f44 f45 f46 f47 f48 f49 f50 f51 f52 f53 f54 f55 f56 f57 f58 f59 f60 f61 f62 f63 f64 f65 f66 f67 f68 f69 f70 f71 f72 f73 f74 f75 f76 f77 f78 f79 f80 f81 f82 f83 f84 f85 f86 f87 f88 f89 f90 f91 f92 f93 f94 f95 f96 f97 f98 f99 f100 f101 f102 f103 f104 f105 f106 f107 f108 f109 f110 f111 f112 f113 f114 f115 f116 f117 f118 f119 f120 f121 f122 f123 f124 f125 f126 f127 f128 f129 f130 f131 f132 f133 f134 f135 f136 f137 f138 f139 f140 f141 f142 f143 f144 f145 f146 f147 f148 f149 f150 f151 f152 f153 f154 f155 f156 f157 f158 f159 f160 f161 f162 f163 f164 f165 f166 f167 f168 f169 f170 f171 f172 f173 f174 f175 f176 f177 f178 f179 : Value) : Code.wp Try.prog (makeC 12) (bodyPost Try.prog Try.f4 (fun e w' => e = .returned (.bool true) ∧ Below w.heap.size w w')) { tmps := #[f0, f1, .int .i64 k, f3, .int .u8 (op : Int), .pointer (some ⟨Ba, 0, none⟩), .pointer (some ⟨Bb, 0, none⟩), f7, f8, f9, f10, f11, .pointer (some ⟨Bd, 0, none⟩), .int .i64 Ed, f14, f15, .pointer (some ⟨Bu, 0, none⟩), .int .i64 Eu, .pointer (some ⟨Bg, 0, none⟩), .int .i64 Eg, .pointer (some ⟨Bz, 0, none⟩), .int .i64 Ez, .pointer (some ⟨Bt, 0, none⟩), f23, f24, f25, f26, f27, f28, f29, f30, f31, f32, f33, f34, f35, f36, f37, f38, f39, f40, f41, f42, f43, f44, f45, f46, f47, f48, f49, f50, f51, f52, f53, f54, f55, f56, f57, f58, f59, f60, f61, f62, f63, f64, f65, f66, f67, f68, f69, f70, f71, f72, f73, f74, f75, f76, f77, f78, f79, f80, f81, f82, f83, f84, f85, f86, f87, f88, f89, f90, f91, f92, f93, f94, f95, f96, f97, f98, f99, f100, f101, f102, f103, f104, f105, f106, f107, f108, f109, f110, f111, f112, f113, f114, f115, f116, f117, f118, f119, f120, f121, f122, f123, f124, f125, f126, f127, f128, f129, f130, f131, f132, f133, f134, f135, f136, f137, f138, f139, f140, f141, f142, f143, f144, f145, f146, f147, f148, f149, f150, f151, f152, f153, f154, f155, f156, f157, f158, f159, f160, f161, f162, f163, f164, f165, f166, f167, f168, f169, f170, f171, f172, f173, f174, f175, f176, f177, f178, f179], defers := [] } W := by
  conv => arg 2; whnf
  obtain ⟨T0, T1⟩ := cell_of HT.out
  have TF := frozen_of HT.out
  go_upto_region 17 with (fail)
  obtain ⟨S1, hS1⟩ : ∃ V, V = (W.setCell ⟨Bt, 0, none⟩ (.slice none 0 0)).setCell ⟨Bt, 1, none⟩ (.slice none 0 0) := ⟨_, rfl⟩
  rw [← hS1]
  have hs0 := set_word0 HT.out (.slice none 0 0)
  replace RA1 := Lib.hid (show RowAt S1 _ _ by rw [hS1]; exact (RA1.out.put HT.out 0 _).put hs0 1 _)
  replace RA2 := Lib.hid (show RowAt S1 _ _ by rw [hS1]; exact (RA2.out.put HT.out 0 _).put hs0 1 _)
  replace RB1 := Lib.hid (show RowAt S1 _ _ by rw [hS1]; exact (RB1.out.put HT.out 0 _).put hs0 1 _)
  replace RB2 := Lib.hid (show RowAt S1 _ _ by rw [hS1]; exact (RB2.out.put HT.out 0 _).put hs0 1 _)
  replace RD1 := Lib.hid (show RowAt S1 _ _ by rw [hS1]; exact (RD1.out.put HT.out 0 _).put hs0 1 _)
  replace RD2 := Lib.hid (show RowAt S1 _ _ by rw [hS1]; exact (RD2.out.put HT.out 0 _).put hs0 1 _)
  replace RU1 := Lib.hid (show RowAt S1 _ _ by rw [hS1]; exact (RU1.out.put HT.out 0 _).put hs0 1 _)
  replace RU2 := Lib.hid (show RowAt S1 _ _ by rw [hS1]; exact (RU2.out.put HT.out 0 _).put hs0 1 _)
  replace RG1 := Lib.hid (show RowAt S1 _ _ by rw [hS1]; exact (RG1.out.put HT.out 0 _).put hs0 1 _)
  replace RG2 := Lib.hid (show RowAt S1 _ _ by rw [hS1]; exact (RG2.out.put HT.out 0 _).put hs0 1 _)
  replace RZ1 := Lib.hid (show RowAt S1 _ _ by rw [hS1]; exact (RZ1.out.put HT.out 0 _).put hs0 1 _)
  replace RZ2 := Lib.hid (show RowAt S1 _ _ by rw [hS1]; exact (RZ2.out.put HT.out 0 _).put hs0 1 _)
  replace HVB := Lib.hid (show Below w.heap.size w S1 by rw [hS1]; exact (HVB.out.setCell Lt _).setCell Lt _)
  replace Ka0 := ((congrArg (fun W' => W'.cell? ⟨Ba, 0, none⟩) hS1).trans ((cell_oth (by omega)).trans (cell_oth (by omega)))).trans Ka0
  replace Ka1 := ((congrArg (fun W' => W'.cell? ⟨Ba, 1, none⟩) hS1).trans ((cell_oth (by omega)).trans (cell_oth (by omega)))).trans Ka1
  replace Na : Ba < S1.heap.size := by rw [hS1, World.size_setCell, World.size_setCell]; exact Na
  replace Kb0 := ((congrArg (fun W' => W'.cell? ⟨Bb, 0, none⟩) hS1).trans ((cell_oth (by omega)).trans (cell_oth (by omega)))).trans Kb0
  replace Kb1 := ((congrArg (fun W' => W'.cell? ⟨Bb, 1, none⟩) hS1).trans ((cell_oth (by omega)).trans (cell_oth (by omega)))).trans Kb1
  replace Nb : Bb < S1.heap.size := by rw [hS1, World.size_setCell, World.size_setCell]; exact Nb
  replace Kd0 := ((congrArg (fun W' => W'.cell? ⟨Bd, 0, none⟩) hS1).trans ((cell_oth (by omega)).trans (cell_oth (by omega)))).trans Kd0
  replace Kd1 := ((congrArg (fun W' => W'.cell? ⟨Bd, 1, none⟩) hS1).trans ((cell_oth (by omega)).trans (cell_oth (by omega)))).trans Kd1
  replace Nd : Bd < S1.heap.size := by rw [hS1, World.size_setCell, World.size_setCell]; exact Nd
  replace Ku0 := ((congrArg (fun W' => W'.cell? ⟨Bu, 0, none⟩) hS1).trans ((cell_oth (by omega)).trans (cell_oth (by omega)))).trans Ku0
  replace Ku1 := ((congrArg (fun W' => W'.cell? ⟨Bu, 1, none⟩) hS1).trans ((cell_oth (by omega)).trans (cell_oth (by omega)))).trans Ku1
  replace Nu : Bu < S1.heap.size := by rw [hS1, World.size_setCell, World.size_setCell]; exact Nu
  replace Kg0 := ((congrArg (fun W' => W'.cell? ⟨Bg, 0, none⟩) hS1).trans ((cell_oth (by omega)).trans (cell_oth (by omega)))).trans Kg0
  replace Kg1 := ((congrArg (fun W' => W'.cell? ⟨Bg, 1, none⟩) hS1).trans ((cell_oth (by omega)).trans (cell_oth (by omega)))).trans Kg1
  replace Ng : Bg < S1.heap.size := by rw [hS1, World.size_setCell, World.size_setCell]; exact Ng
  replace Kz0 := ((congrArg (fun W' => W'.cell? ⟨Bz, 0, none⟩) hS1).trans ((cell_oth (by omega)).trans (cell_oth (by omega)))).trans Kz0
  replace Kz1 := ((congrArg (fun W' => W'.cell? ⟨Bz, 1, none⟩) hS1).trans ((cell_oth (by omega)).trans (cell_oth (by omega)))).trans Kz1
  replace Nz : Bz < S1.heap.size := by rw [hS1, World.size_setCell, World.size_setCell]; exact Nz
  replace HT := Lib.hid (show S1.heap[Bt]? = some (.cells #[.slice none 0 0, .slice none 0 0] 24) by rw [hS1]; exact set_word1 hs0 _)
  replace Nt : Bt < S1.heap.size := by rw [hS1, World.size_setCell, World.size_setCell]; exact Nt
  clear hS1 hs0 T0 T1 TF
  by_cases hc : 0 ≤ k
  · obtain ⟨n, rfl⟩ : ∃ n : Nat, k = (n : Int) := ⟨k.toNat, by omega⟩
    have hz := HZd.out
    unfold dropZ at hz
    have HK2 := hk2.out
    rw [if_pos ⟨MA.out, hc⟩, Int.toNat_natCast] at hz
    have HY := Lib.hid hz
    clear hz HK2
    have k1 : (0 : Int) ≤ (n : Int) := by omega
    have k2 : decide ((n : Int) ≥ 0) = true := decide_eq_true k1
    go_wp2_with fail
    refine (rdrop_call _ _ _ a1 a2 d1 d2 Ed n (by have := hk2.out; omega) (RA1.out.below (by repeat (first | (with_reducible exact Below.refl _ _) | (with_reducible assumption) | (with_reducible refine below_drewN ?_ _) | (with_reducible refine Below.drew ?_) | (with_reducible refine below_ext_of ?_ (by first | exact Nat.le_refl _ | assumption | (simp only [World.size_alloc, World.size_setCell, size_ext, World.heap_drewN]; omega)) _ _) | (with_reducible refine Below.alloc ?_ (by first | exact Nat.le_refl _ | assumption | (simp only [World.size_alloc, World.size_setCell, size_ext, World.heap_drewN]; omega)) _) | (with_reducible refine Below.setCell ?_ (by first | exact Nat.le_refl _ | assumption | (simp only [World.size_alloc, World.size_setCell, size_ext, World.heap_drewN]; omega)) _)))) (RA2.out.below (by repeat (first | (with_reducible exact Below.refl _ _) | (with_reducible assumption) | (with_reducible refine below_drewN ?_ _) | (with_reducible refine Below.drew ?_) | (with_reducible refine below_ext_of ?_ (by first | exact Nat.le_refl _ | assumption | (simp only [World.size_alloc, World.size_setCell, size_ext, World.heap_drewN]; omega)) _ _) | (with_reducible refine Below.alloc ?_ (by first | exact Nat.le_refl _ | assumption | (simp only [World.size_alloc, World.size_setCell, size_ext, World.heap_drewN]; omega)) _) | (with_reducible refine Below.setCell ?_ (by first | exact Nat.le_refl _ | assumption | (simp only [World.size_alloc, World.size_setCell, size_ext, World.heap_drewN]; omega)) _)))) MA.out HY.out).mono ?_
    rintro e W1 ⟨hb, xp, xc, xq, xt, rfl, r1, r2⟩
    have hB : Below S1.heap.size S1 W1 := Below.trans (by repeat (first | (with_reducible exact Below.refl _ _) | (with_reducible assumption) | (with_reducible refine below_drewN ?_ _) | (with_reducible refine Below.drew ?_) | (with_reducible refine below_ext_of ?_ (by first | exact Nat.le_refl _ | assumption | (simp only [World.size_alloc, World.size_setCell, size_ext, World.heap_drewN]; omega)) _ _) | (with_reducible refine Below.alloc ?_ (by first | exact Nat.le_refl _ | assumption | (simp only [World.size_alloc, World.size_setCell, size_ext, World.heap_drewN]; omega)) _) | (with_reducible refine Below.setCell ?_ (by first | exact Nat.le_refl _ | assumption | (simp only [World.size_alloc, World.size_setCell, size_ext, World.heap_drewN]; omega)) _))) (hb.mono (by simp [go_sem] <;> omega))
    replace RA1 := Lib.hid (RA1.out.below hB)
    replace RA2 := Lib.hid (RA2.out.below hB)
    replace RB1 := Lib.hid (RB1.out.below hB)
    replace RB2 := Lib.hid (RB2.out.below hB)
    replace RD1 := Lib.hid (RD1.out.below hB)
    replace RD2 := Lib.hid (RD2.out.below hB)
    replace RU1 := Lib.hid (RU1.out.below hB)
    replace RU2 := Lib.hid (RU2.out.below hB)
    replace RG1 := Lib.hid (RG1.out.below hB)
    replace RG2 := Lib.hid (RG2.out.below hB)
    replace RZ1 := Lib.hid (RZ1.out.below hB)
    replace RZ2 := Lib.hid (RZ2.out.below hB)
    replace HVB := Lib.hid (HVB.out.trans (hB.mono HVB.out.size))
    replace Ka0 := keep_cell hB Na Ka0
    replace Ka1 := keep_cell hB Na Ka1
    replace Na := Nat.lt_of_lt_of_le Na hB.size
    replace Kb0 := keep_cell hB Nb Kb0
    replace Kb1 := keep_cell hB Nb Kb1
    replace Nb := Nat.lt_of_lt_of_le Nb hB.size
    replace Kd0 := keep_cell hB Nd Kd0
    replace Kd1 := keep_cell hB Nd Kd1
    replace Nd := Nat.lt_of_lt_of_le Nd hB.size
    replace Ku0 := keep_cell hB Nu Ku0
    replace Ku1 := keep_cell hB Nu Ku1
    replace Nu := Nat.lt_of_lt_of_le Nu hB.size
    replace Kg0 := keep_cell hB Ng Kg0
    replace Kg1 := keep_cell hB Ng Kg1
    replace Ng := Nat.lt_of_lt_of_le Ng hB.size
    replace Kz0 := keep_cell hB Nz Kz0
    replace Kz1 := keep_cell hB Nz Kz1
    replace Nz := Nat.lt_of_lt_of_le Nz hB.size
    replace HT := Lib.hid ((hB.block _ Nt).trans HT.out)
    replace Nt := Nat.lt_of_lt_of_le Nt hB.size
    have RT1 := Lib.hid r1
    have RT2 := Lib.hid r2
    clear r1 r2
    clear hb hB
    obtain ⟨T0, T1⟩ := cell_of HT.out
    have TF := frozen_of HT.out
    go_upto_region 19 with (fail)
    obtain ⟨S3, hS3⟩ : ∃ V, V = (W1.setCell ⟨Bt, 0, none⟩ (.slice xp d1.length xc)).setCell ⟨Bt, 1, none⟩ (.slice xq d2.length xt) := ⟨_, rfl⟩
    rw [← hS3]
    have hs0 := set_word0 HT.out (.slice xp d1.length xc)
    replace RA1 := Lib.hid (show RowAt S3 _ _ by rw [hS3]; exact (RA1.out.put HT.out 0 _).put hs0 1 _)
    replace RA2 := Lib.hid (show RowAt S3 _ _ by rw [hS3]; exact (RA2.out.put HT.out 0 _).put hs0 1 _)
    replace RB1 := Lib.hid (show RowAt S3 _ _ by rw [hS3]; exact (RB1.out.put HT.out 0 _).put hs0 1 _)
    replace RB2 := Lib.hid (show RowAt S3 _ _ by rw [hS3]; exact (RB2.out.put HT.out 0 _).put hs0 1 _)
    replace RD1 := Lib.hid (show RowAt S3 _ _ by rw [hS3]; exact (RD1.out.put HT.out 0 _).put hs0 1 _)
    replace RD2 := Lib.hid (show RowAt S3 _ _ by rw [hS3]; exact (RD2.out.put HT.out 0 _).put hs0 1 _)
    replace RU1 := Lib.hid (show RowAt S3 _ _ by rw [hS3]; exact (RU1.out.put HT.out 0 _).put hs0 1 _)
    replace RU2 := Lib.hid (show RowAt S3 _ _ by rw [hS3]; exact (RU2.out.put HT.out 0 _).put hs0 1 _)
    replace RG1 := Lib.hid (show RowAt S3 _ _ by rw [hS3]; exact (RG1.out.put HT.out 0 _).put hs0 1 _)
    replace RG2 := Lib.hid (show RowAt S3 _ _ by rw [hS3]; exact (RG2.out.put HT.out 0 _).put hs0 1 _)
    replace RZ1 := Lib.hid (show RowAt S3 _ _ by rw [hS3]; exact (RZ1.out.put HT.out 0 _).put hs0 1 _)
    replace RZ2 := Lib.hid (show RowAt S3 _ _ by rw [hS3]; exact (RZ2.out.put HT.out 0 _).put hs0 1 _)
    replace RT1 := Lib.hid (show RowAt S3 _ _ by rw [hS3]; exact (RT1.out.put HT.out 0 _).put hs0 1 _)
    replace RT2 := Lib.hid (show RowAt S3 _ _ by rw [hS3]; exact (RT2.out.put HT.out 0 _).put hs0 1 _)
    replace HVB := Lib.hid (show Below w.heap.size w S3 by rw [hS3]; exact (HVB.out.setCell Lt _).setCell Lt _)
    replace Ka0 := ((congrArg (fun W' => W'.cell? ⟨Ba, 0, none⟩) hS3).trans ((cell_oth (by omega)).trans (cell_oth (by omega)))).trans Ka0
    replace Ka1 := ((congrArg (fun W' => W'.cell? ⟨Ba, 1, none⟩) hS3).trans ((cell_oth (by omega)).trans (cell_oth (by omega)))).trans Ka1
    replace Na : Ba < S3.heap.size := by rw [hS3, World.size_setCell, World.size_setCell]; exact Na
    replace Kb0 := ((congrArg (fun W' => W'.cell? ⟨Bb, 0, none⟩) hS3).trans ((cell_oth (by omega)).trans (cell_oth (by omega)))).trans Kb0
    replace Kb1 := ((congrArg (fun W' => W'.cell? ⟨Bb, 1, none⟩) hS3).trans ((cell_oth (by omega)).trans (cell_oth (by omega)))).trans Kb1
    replace Nb : Bb < S3.heap.size := by rw [hS3, World.size_setCell, World.size_setCell]; exact Nb
    replace Kd0 := ((congrArg (fun W' => W'.cell? ⟨Bd, 0, none⟩) hS3).trans ((cell_oth (by omega)).trans (cell_oth (by omega)))).trans Kd0
    replace Kd1 := ((congrArg (fun W' => W'.cell? ⟨Bd, 1, none⟩) hS3).trans ((cell_oth (by omega)).trans (cell_oth (by omega)))).trans Kd1
    replace Nd : Bd < S3.heap.size := by rw [hS3, World.size_setCell, World.size_setCell]; exact Nd
    replace Ku0 := ((congrArg (fun W' => W'.cell? ⟨Bu, 0, none⟩) hS3).trans ((cell_oth (by omega)).trans (cell_oth (by omega)))).trans Ku0
    replace Ku1 := ((congrArg (fun W' => W'.cell? ⟨Bu, 1, none⟩) hS3).trans ((cell_oth (by omega)).trans (cell_oth (by omega)))).trans Ku1
    replace Nu : Bu < S3.heap.size := by rw [hS3, World.size_setCell, World.size_setCell]; exact Nu
    replace Kg0 := ((congrArg (fun W' => W'.cell? ⟨Bg, 0, none⟩) hS3).trans ((cell_oth (by omega)).trans (cell_oth (by omega)))).trans Kg0
    replace Kg1 := ((congrArg (fun W' => W'.cell? ⟨Bg, 1, none⟩) hS3).trans ((cell_oth (by omega)).trans (cell_oth (by omega)))).trans Kg1
    replace Ng : Bg < S3.heap.size := by rw [hS3, World.size_setCell, World.size_setCell]; exact Ng
    replace Kz0 := ((congrArg (fun W' => W'.cell? ⟨Bz, 0, none⟩) hS3).trans ((cell_oth (by omega)).trans (cell_oth (by omega)))).trans Kz0
    replace Kz1 := ((congrArg (fun W' => W'.cell? ⟨Bz, 1, none⟩) hS3).trans ((cell_oth (by omega)).trans (cell_oth (by omega)))).trans Kz1
    replace Nz : Bz < S3.heap.size := by rw [hS3, World.size_setCell, World.size_setCell]; exact Nz
    replace HT := Lib.hid (show S3.heap[Bt]? = some (.cells #[.slice xp d1.length xc, .slice xq d2.length xt] 24) by rw [hS3]; exact set_word1 hs0 _)
    replace Nt : Bt < S3.heap.size := by rw [hS3, World.size_setCell, World.size_setCell]; exact Nt
    clear hS3 hs0 T0 T1 TF
    obtain ⟨T0, T1⟩ := cell_of HT.out
    have TF := frozen_of HT.out
    go_wp2_with fail
    refine (lsame_true _ _ _ _ _ d1 d2 Ed (RD1.out.below (by repeat (first | (with_reducible exact Below.refl _ _) | (with_reducible assumption) | (with_reducible refine below_drewN ?_ _) | (with_reducible refine Below.drew ?_) | (with_reducible refine below_ext_of ?_ (by first | exact Nat.le_refl _ | assumption | (simp only [World.size_alloc, World.size_setCell, size_ext, World.heap_drewN]; omega)) _ _) | (with_reducible refine Below.alloc ?_ (by first | exact Nat.le_refl _ | assumption | (simp only [World.size_alloc, World.size_setCell, size_ext, World.heap_drewN]; omega)) _) | (with_reducible refine Below.setCell ?_ (by first | exact Nat.le_refl _ | assumption | (simp only [World.size_alloc, World.size_setCell, size_ext, World.heap_drewN]; omega)) _)))) (RD2.out.below (by repeat (first | (with_reducible exact Below.refl _ _) | (with_reducible assumption) | (with_reducible refine below_drewN ?_ _) | (with_reducible refine Below.drew ?_) | (with_reducible refine below_ext_of ?_ (by first | exact Nat.le_refl _ | assumption | (simp only [World.size_alloc, World.size_setCell, size_ext, World.heap_drewN]; omega)) _ _) | (with_reducible refine Below.alloc ?_ (by first | exact Nat.le_refl _ | assumption | (simp only [World.size_alloc, World.size_setCell, size_ext, World.heap_drewN]; omega)) _) | (with_reducible refine Below.setCell ?_ (by first | exact Nat.le_refl _ | assumption | (simp only [World.size_alloc, World.size_setCell, size_ext, World.heap_drewN]; omega)) _)))) (RT1.out.below (by repeat (first | (with_reducible exact Below.refl _ _) | (with_reducible assumption) | (with_reducible refine below_drewN ?_ _) | (with_reducible refine Below.drew ?_) | (with_reducible refine below_ext_of ?_ (by first | exact Nat.le_refl _ | assumption | (simp only [World.size_alloc, World.size_setCell, size_ext, World.heap_drewN]; omega)) _ _) | (with_reducible refine Below.alloc ?_ (by first | exact Nat.le_refl _ | assumption | (simp only [World.size_alloc, World.size_setCell, size_ext, World.heap_drewN]; omega)) _) | (with_reducible refine Below.setCell ?_ (by first | exact Nat.le_refl _ | assumption | (simp only [World.size_alloc, World.size_setCell, size_ext, World.heap_drewN]; omega)) _)))) (RT2.out.below (by repeat (first | (with_reducible exact Below.refl _ _) | (with_reducible assumption) | (with_reducible refine below_drewN ?_ _) | (with_reducible refine Below.drew ?_) | (with_reducible refine below_ext_of ?_ (by first | exact Nat.le_refl _ | assumption | (simp only [World.size_alloc, World.size_setCell, size_ext, World.heap_drewN]; omega)) _ _) | (with_reducible refine Below.alloc ?_ (by first | exact Nat.le_refl _ | assumption | (simp only [World.size_alloc, World.size_setCell, size_ext, World.heap_drewN]; omega)) _) | (with_reducible refine Below.setCell ?_ (by first | exact Nat.le_refl _ | assumption | (simp only [World.size_alloc, World.size_setCell, size_ext, World.heap_drewN]; omega)) _))))).mono ?_
    rintro e W2 ⟨rfl, hb⟩
    have hB : Below S3.heap.size S3 W2 := Below.trans (by repeat (first | (with_reducible exact Below.refl _ _) | (with_reducible assumption) | (with_reducible refine below_drewN ?_ _) | (with_reducible refine Below.drew ?_) | (with_reducible refine below_ext_of ?_ (by first | exact Nat.le_refl _ | assumption | (simp only [World.size_alloc, World.size_setCell, size_ext, World.heap_drewN]; omega)) _ _) | (with_reducible refine Below.alloc ?_ (by first | exact Nat.le_refl _ | assumption | (simp only [World.size_alloc, World.size_setCell, size_ext, World.heap_drewN]; omega)) _) | (with_reducible refine Below.setCell ?_ (by first | exact Nat.le_refl _ | assumption | (simp only [World.size_alloc, World.size_setCell, size_ext, World.heap_drewN]; omega)) _))) (hb.mono (by simp [go_sem] <;> omega))
    replace RA1 := Lib.hid (RA1.out.below hB)
    replace RA2 := Lib.hid (RA2.out.below hB)
    replace RB1 := Lib.hid (RB1.out.below hB)
    replace RB2 := Lib.hid (RB2.out.below hB)
    replace RD1 := Lib.hid (RD1.out.below hB)
    replace RD2 := Lib.hid (RD2.out.below hB)
    replace RU1 := Lib.hid (RU1.out.below hB)
    replace RU2 := Lib.hid (RU2.out.below hB)
    replace RG1 := Lib.hid (RG1.out.below hB)
    replace RG2 := Lib.hid (RG2.out.below hB)
    replace RZ1 := Lib.hid (RZ1.out.below hB)
    replace RZ2 := Lib.hid (RZ2.out.below hB)
    replace RT1 := Lib.hid (RT1.out.below hB)
    replace RT2 := Lib.hid (RT2.out.below hB)
    replace HVB := Lib.hid (HVB.out.trans (hB.mono HVB.out.size))
    replace Ka0 := keep_cell hB Na Ka0
    replace Ka1 := keep_cell hB Na Ka1
    replace Na := Nat.lt_of_lt_of_le Na hB.size
    replace Kb0 := keep_cell hB Nb Kb0
    replace Kb1 := keep_cell hB Nb Kb1
    replace Nb := Nat.lt_of_lt_of_le Nb hB.size
    replace Kd0 := keep_cell hB Nd Kd0
    replace Kd1 := keep_cell hB Nd Kd1
    replace Nd := Nat.lt_of_lt_of_le Nd hB.size
    replace Ku0 := keep_cell hB Nu Ku0
    replace Ku1 := keep_cell hB Nu Ku1
    replace Nu := Nat.lt_of_lt_of_le Nu hB.size
    replace Kg0 := keep_cell hB Ng Kg0
    replace Kg1 := keep_cell hB Ng Kg1
    replace Ng := Nat.lt_of_lt_of_le Ng hB.size
    replace Kz0 := keep_cell hB Nz Kz0
    replace Kz1 := keep_cell hB Nz Kz1
    replace Nz := Nat.lt_of_lt_of_le Nz hB.size
    replace HT := Lib.hid ((hB.block _ Nt).trans HT.out)
    replace Nt := Nat.lt_of_lt_of_le Nt hB.size
    clear T0 T1 TF
    clear hb hB
    go_upto_if 119 with (fail)
    go_cut [] (fun wc => W2 = wc)
    case first =>
      go_wp2_with fail
      go_meet
      case rel => rfl
    case rest =>
    obtain rfl := hcut
    apply_assumption
    exact make15 w W2 HVB _ _ _ _ _ _ _ _ _ _ _ _ _ _ _ _ _ _ _ _ _ _ _ _ _ _ _ _ _ _ _ _ _ _ _ _ Bt _ _ _ _ _ _ HT Nt Lt RA1 RA2 Ba Ka0 Ka1 Na La RB1 RB2 Bb Kb0 Kb1 Nb Lb RD1 RD2 Bd Kd0 Kd1 Nd Ld RU1 RU2 Bu Ku0 Ku1 Nu Lu RG1 RG2 Bg Kg0 Kg1 Ng Lg RZ1 RZ2 Bz Kz0 Kz1 Nz Lz _ op _ _ _ _ hk2 hop MA HLA HLB I_a1 I_b1 HZd HZu HZg HZz _ _ _ _ _ _ _ _ _ _ _ _ _ _ _ _ _ _ _ _ _ _ _ _ _ _ _ _ _ _ _ _ _ _ _ _ _ _ _ _ _ _ _ _ _ _ _ _ _ _ _ _ _ _ _ _ _ _ _ _ _ _ _ _ _ _ _ _ _ _ _ _ _ _ _ _ _ _ _ _ _ _ _ _ _ _ _ _ _ _ _ _ _ _ _ _ _ _ _ _ _ _ _ _ _ _ _ _ _ _ _ _ _ _ _ _ _ _ _ _ _ _ _ _ _ _ _ _ _ _ _ _ _ _ _ _ _ _ _ _ _ _ _ _ _ _ _ _ _ _ _ _ _ _ _ _ _ _ _ _ _ _ _ _ _ _ _
  · have hz := HZd.out
    unfold dropZ at hz
    rw [if_neg (fun h => hc h.2)] at hz
    obtain ⟨rfl, rfl, rfl⟩ := trip hz
    clear hz
    have k1 : ¬ ((0 : Int) ≤ k) := hc
    have k2 : decide (k ≥ 0) = false := decide_eq_false k1
    have RT1 := Lib.hid (RowAt.nil S1)
    have RT2 := Lib.hid (RowAt.nil S1)
    obtain ⟨T0, T1⟩ := cell_of HT.out
    have TF := frozen_of HT.out
    go_wp2_with fail
    refine (lsame_true _ _ _ _ _ _ _ _ (RD1.out.below (by repeat (first | (with_reducible exact Below.refl _ _) | (with_reducible assumption) | (with_reducible refine below_drewN ?_ _) | (with_reducible refine Below.drew ?_) | (with_reducible refine below_ext_of ?_ (by first | exact Nat.le_refl _ | assumption | (simp only [World.size_alloc, World.size_setCell, size_ext, World.heap_drewN]; omega)) _ _) | (with_reducible refine Below.alloc ?_ (by first | exact Nat.le_refl _ | assumption | (simp only [World.size_alloc, World.size_setCell, size_ext, World.heap_drewN]; omega)) _) | (with_reducible refine Below.setCell ?_ (by first | exact Nat.le_refl _ | assumption | (simp only [World.size_alloc, World.size_setCell, size_ext, World.heap_drewN]; omega)) _)))) (RD2.out.below (by repeat (first | (with_reducible exact Below.refl _ _) | (with_reducible assumption) | (with_reducible refine below_drewN ?_ _) | (with_reducible refine Below.drew ?_) | (with_reducible refine below_ext_of ?_ (by first | exact Nat.le_refl _ | assumption | (simp only [World.size_alloc, World.size_setCell, size_ext, World.heap_drewN]; omega)) _ _) | (with_reducible refine Below.alloc ?_ (by first | exact Nat.le_refl _ | assumption | (simp only [World.size_alloc, World.size_setCell, size_ext, World.heap_drewN]; omega)) _) | (with_reducible refine Below.setCell ?_ (by first | exact Nat.le_refl _ | assumption | (simp only [World.size_alloc, World.size_setCell, size_ext, World.heap_drewN]; omega)) _)))) (RT1.out.below (by repeat (first | (with_reducible exact Below.refl _ _) | (with_reducible assumption) | (with_reducible refine below_drewN ?_ _) | (with_reducible refine Below.drew ?_) | (with_reducible refine below_ext_of ?_ (by first | exact Nat.le_refl _ | assumption | (simp only [World.size_alloc, World.size_setCell, size_ext, World.heap_drewN]; omega)) _ _) | (with_reducible refine Below.alloc ?_ (by first | exact Nat.le_refl _ | assumption | (simp only [World.size_alloc, World.size_setCell, size_ext, World.heap_drewN]; omega)) _) | (with_reducible refine Below.setCell ?_ (by first | exact Nat.le_refl _ | assumption | (simp only [World.size_alloc, World.size_setCell, size_ext, World.heap_drewN]; omega)) _)))) (RT2.out.below (by repeat (first | (with_reducible exact Below.refl _ _) | (with_reducible assumption) | (with_reducible refine below_drewN ?_ _) | (with_reducible refine Below.drew ?_) | (with_reducible refine below_ext_of ?_ (by first | exact Nat.le_refl _ | assumption | (simp only [World.size_alloc, World.size_setCell, size_ext, World.heap_drewN]; omega)) _ _) | (with_reducible refine Below.alloc ?_ (by first | exact Nat.le_refl _ | assumption | (simp only [World.size_alloc, World.size_setCell, size_ext, World.heap_drewN]; omega)) _) | (with_reducible refine Below.setCell ?_ (by first | exact Nat.le_refl _ | assumption | (simp only [World.size_alloc, World.size_setCell, size_ext, World.heap_drewN]; omega)) _))))).mono ?_
    rintro e W1 ⟨rfl, hb⟩
    have hB : Below S1.heap.size S1 W1 := Below.trans (by repeat (first | (with_reducible exact Below.refl _ _) | (with_reducible assumption) | (with_reducible refine below_drewN ?_ _) | (with_reducible refine Below.drew ?_) | (with_reducible refine below_ext_of ?_ (by first | exact Nat.le_refl _ | assumption | (simp only [World.size_alloc, World.size_setCell, size_ext, World.heap_drewN]; omega)) _ _) | (with_reducible refine Below.alloc ?_ (by first | exact Nat.le_refl _ | assumption | (simp only [World.size_alloc, World.size_setCell, size_ext, World.heap_drewN]; omega)) _) | (with_reducible refine Below.setCell ?_ (by first | exact Nat.le_refl _ | assumption | (simp only [World.size_alloc, World.size_setCell, size_ext, World.heap_drewN]; omega)) _))) (hb.mono (by simp [go_sem] <;> omega))
    replace RA1 := Lib.hid (RA1.out.below hB)
    replace RA2 := Lib.hid (RA2.out.below hB)
    replace RB1 := Lib.hid (RB1.out.below hB)
    replace RB2 := Lib.hid (RB2.out.below hB)
    replace RD1 := Lib.hid (RD1.out.below hB)
    replace RD2 := Lib.hid (RD2.out.below hB)
    replace RU1 := Lib.hid (RU1.out.below hB)
    replace RU2 := Lib.hid (RU2.out.below hB)
    replace RG1 := Lib.hid (RG1.out.below hB)
    replace RG2 := Lib.hid (RG2.out.below hB)
    replace RZ1 := Lib.hid (RZ1.out.below hB)
    replace RZ2 := Lib.hid (RZ2.out.below hB)
    replace RT1 := Lib.hid (RT1.out.below hB)
    replace RT2 := Lib.hid (RT2.out.below hB)
    replace HVB := Lib.hid (HVB.out.trans (hB.mono HVB.out.size))
    replace Ka0 := keep_cell hB Na Ka0
    replace Ka1 := keep_cell hB Na Ka1
    replace Na := Nat.lt_of_lt_of_le Na hB.size
    replace Kb0 := keep_cell hB Nb Kb0
    replace Kb1 := keep_cell hB Nb Kb1
    replace Nb := Nat.lt_of_lt_of_le Nb hB.size
    replace Kd0 := keep_cell hB Nd Kd0
    replace Kd1 := keep_cell hB Nd Kd1
    replace Nd := Nat.lt_of_lt_of_le Nd hB.size
    replace Ku0 := keep_cell hB Nu Ku0
    replace Ku1 := keep_cell hB Nu Ku1
    replace Nu := Nat.lt_of_lt_of_le Nu hB.size
    replace Kg0 := keep_cell hB Ng Kg0
    replace Kg1 := keep_cell hB Ng Kg1
    replace Ng := Nat.lt_of_lt_of_le Ng hB.size
    replace Kz0 := keep_cell hB Nz Kz0
    replace Kz1 := keep_cell hB Nz Kz1
    replace Nz := Nat.lt_of_lt_of_le Nz hB.size
    replace HT := Lib.hid ((hB.block _ Nt).trans HT.out)
    replace Nt := Nat.lt_of_lt_of_le Nt hB.size
    clear T0 T1 TF
    clear hb hB
    go_upto_if 119 with (fail)
    go_cut [] (fun wc => W1 = wc)
    case first =>
      go_wp2_with fail
      go_meet
      case rel => rfl
    case rest =>
    obtain rfl := hcut
    apply_assumption
    exact make15 w W1 HVB _ _ _ _ _ _ _ _ _ _ _ _ _ _ _ _ _ _ _ _ _ _ _ _ _ _ _ _ _ _ _ _ _ _ _ _ Bt _ _ _ _ _ _ HT Nt Lt RA1 RA2 Ba Ka0 Ka1 Na La RB1 RB2 Bb Kb0 Kb1 Nb Lb RD1 RD2 Bd Kd0 Kd1 Nd Ld RU1 RU2 Bu Ku0 Ku1 Nu Lu RG1 RG2 Bg Kg0 Kg1 Ng Lg RZ1 RZ2 Bz Kz0 Kz1 Nz Lz _ op _ _ _ _ hk2 hop MA HLA HLB I_a1 I_b1 HZd HZu HZg HZz _ _ _ _ _ _ _ _ _ _ _ _ _ _ _ _ _ _ _ _ _ _ _ _ _ _ _ _ _ _ _ _ _ _ _ _ _ _ _ _ _ _ _ _ _ _ _ _ _ _ _ _ _ _ _ _ _ _ _ _ _ _ _ _ _ _ _ _ _ _ _ _ _ _ _ _ _ _ _ _ _ _ _ _ _ _ _ _ _ _ _ _ _ _ _ _ _ _ _ _ _ _ _ _ _ _ _ _ _ _ _ _ _ _ _ _ _ _ _ _ _ _ _ _ _ _ _ _ _ _ _ _ _ _ _ _ _ _ _ _ _ _ _ _ _ _ _ _ _ _ _ _ _ _ _ _ _ _ _ _ _ _ _ _ _ _ _
end Go.Proofs.Ytpcnapmlmhhcpaa
