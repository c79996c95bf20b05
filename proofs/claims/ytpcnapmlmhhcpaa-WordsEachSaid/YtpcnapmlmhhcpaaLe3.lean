/-
  The law WordsEach, from the two Zips on: true of every two words that may be.
  Conditions: the words lie in memory; their numbers are int64s.
-/
import Derived.Test.YtpcnapmlmhhcpaaLe0
import Derived.WalkKit
import Derived.WalkSpells
import Derived.WalkLawsBesides
import Derived.Deep.QuietTactic
import Derived.BigQuiet
import Derived.Lib.Hide
import Derived.Handy
set_option linter.unusedVariables false
set_option linter.unusedSimpArgs false
namespace Go.Proofs.Ytpcnapmlmhhcpaa
open Go.RowKit 
open Big
attribute [local go_sem] setCell_drewN alloc_drewN size_ext ext_ext ext_drewN ext_drew drewN_ext drew_ext cell?_ext frozen?_ext setCell_ext cell?_past1 frozen?_past1 setCell_past1 cell?_past2 frozen?_past2 setCell_past2 cell?_past3 frozen?_past3 setCell_past3 cell?_past4 frozen?_past4 setCell_past4 cell?_past5 frozen?_past5 setCell_past5 cell?_past6 frozen?_past6 setCell_past6 cell?_past7 frozen?_past7 setCell_past7 cell?_past8 frozen?_past8 setCell_past8
attribute [local go_sem] min_ab max_ab
set_option maxRecDepth 100000 in
set_option maxHeartbeats 40000000 in
theorem each3 (w W : World) (HVB : Hid (Below w.heap.size w W)) (a1 a2 b1 b2 : List Int) (pa1 pa2 pb1 pb2 : Option Addr) (ca1 ca2 cb1 cb2 : Nat) (RA1 : Hid (RowAt W (.slice pa1 a1.length ca1) a1)) (RA2 : Hid (RowAt W (.slice pa2 a2.length ca2) a2)) (Ba : Nat) (Ka0 : W.cell? ⟨Ba, 0, none⟩ = some (.slice pa1 a1.length ca1)) (Ka1 : W.cell? ⟨Ba, 1, none⟩ = some (.slice pa2 a2.length ca2)) (Na : Ba < W.heap.size) (RB1 : Hid (RowAt W (.slice pb1 b1.length cb1) b1)) (RB2 : Hid (RowAt W (.slice pb2 b2.length cb2) b2)) (Bb : Nat) (Kb0 : W.cell? ⟨Bb, 0, none⟩ = some (.slice pb1 b1.length cb1)) (Kb1 : W.cell? ⟨Bb, 1, none⟩ = some (.slice pb2 b2.length cb2)) (Nb : Bb < W.heap.size) (n : Nat) (hn2 : n ≤ 65535) (I_a1 : Hid (in64W a1 a2)) (I_b1 : Hid (in64W b1 b2)) (MA : Hid (may a1 a2 = true)) (MB : Hid (may b1 b2 = true)) (HLA : Hid (a1.length ≤ 200 ∧ a2.length ≤ 200)) (HLB : Hid (b1.length ≤ 200 ∧ b2.length ≤ 200)) (f0 f1 f2 f3 f4 f7 f8 f9 f10 f12 f13 f14 f15 f16 f17 f18 f19 f20 f21 f22 f23 f24 f25 f26 f27 f28 f29 f30 f31 f32 f33 f34 f35 f36 f37 f38 f39 f40 f41 f42 f43 f44 f45 f46 f47 f48 f49 f50 f51 f52 f53 f54 f55 f56 f57 f58 f59 f60 f61 f62 f63 f64 f65 f66 f67 f68 f69 f70 f71 f72 f73 f74 f75 f76 f77 f78 f79 f80 f81 f82 f83 f84 f85 f86 f87 f88 f89 f90 f91 f92 f93 f94 f95 f96 f97 f98 f99 f100 f101 f102 f103 f104 f105 f106 f107 f108 f109 f110 f111 f112 f113 f114 f115 f116 f117 f118 f119 f120 f121 f122 f123 f124 f125 f126 f127 f128 f129 f130 f131 f132 f133 f134 f135 f136 f137 f138 f139 f140 f141 f142 f143 f144 f145 f146 f147 f148 f149 f150 f151 f152 f153 f154 f155 f156 f157 f158 f159 f160 f161 f162 f163 f164 f165 f166 f167 f168 f169 f170 f171 f172 f173 f174 f175 f176 f177 f178 f179 f180 f181 f182 f183 f184 f185 f186 f187 f188 f189 f190 f191 f192 f193 f194 f195 f196 f197 f198 f199 f200 f201 f202 f203 f204 f205 f206 f207 f208 f209 f210 f211 f212 f213 f214 f215 f216 f217 f218 f219 f220 f221 f222 f223 f224 f225 f226 f227 f228 f229 f230 f231 f232 f233 f234 f235 f236 f237 f238 f239 f240 f241 f242 f243 f244 f245 f246 f247 f248 f249 f250 f251 f252 f253 f254 f255 f256 f257 f258 f259 f260 f261 f262 : Value) : Code.wp Try.prog (eachC 13) (bodyPost Try.prog Try.f5 (fun e w' => e = .returned (.bool true) ∧ Below w.heap.size w w')) { tmps := #[f0, f1, f2, f3, f4, .pointer (some ⟨Ba, 0, none⟩), .pointer (some ⟨Bb, 0, none⟩), f7, f8, f9, f10, .int .i64 (n : Int), f12, f13, f14, f15, f16, f17, f18, f19, f20, f21, f22, f23, f24, f25, f26, f27, f28, f29, f30, f31, f32, f33, f34, f35, f36, f37, f38, f39, f40, f41, f42, f43, f44, f45, f46, f47, f48, f49, f50, f51, f52, f53, f54, f55, f56, f57, f58, f59, f60, f61, f62, f63, f64, f65, f66, f67, f68, f69, f70, f71, f72, f73, f74, f75, f76, f77, f78, f79, f80, f81, f82, f83, f84, f85, f86, f87, f88, f89, f90, f91, f92, f93, f94, f95, f96, f97, f98, f99, f100, f101, f102, f103, f104, f105, f106, f107, f108, f109, f110, f111, f112, f113, f114, f115, f116, f117, f118, f119, f120, f121, f122, f123, f124, f125, f126, f127, f128, f129, f130, f131, f132, f133, f134, f135, f136, f137, f138, f139, f140, f141, f142, f143, f144, f145, f146, f147, f148, f149, f150, f151, f152, f153, f154, f155, f156, f157, f158, f159, f160, f161, f162, f163, f164, f165, f166, f167, f168, f169, f170, f171, f172, f173, f174, f175, f176, f177, f178, f179, f180, f181, f182, f183, f184, f185, f186, f187, f188, f189, f190, f191, f192, f193, f194, f195, f196, f197, f198, f199, f200, f201, f202, f203, f204, f205, f206, f207, f208, f209, f210, f211, f212, f213, f214, f215, f216, f217, f218, f219, f220, f221, f222, f223, f224, f225, f226, f227, f228, f229, f230, f231, f232, f233, f234, f235, f236, f237, f238, f239, f240, f241, f242, f243, f244, f245, f246, f247, f248, f249, f250, f251, f252, f253, f254, f255, f256, f257, f258, f259, f260, f261, f262], defers := [] } W := by
  conv => arg 2; whnf
  obtain ⟨⟨x7, y7, E7⟩, hz7⟩ : ∃ r, zipF 3 a1 a2 b1 b2 = r := ⟨_, rfl⟩
  have HZ7 := Lib.hid hz7
  clear hz7
  obtain ⟨⟨x8, y8, E8⟩, hz8⟩ : ∃ r, zipF 4 b1 b2 a1 a2 = r := ⟨_, rfl⟩
  have HZ8 := Lib.hid hz8
  clear hz8
  obtain ⟨⟨x9, y9, E9⟩, hz9⟩ : ∃ r, zipF 1 a1 a2 b1 b2 = r := ⟨_, rfl⟩
  have HZ9 := Lib.hid hz9
  clear hz9
  go_wp2_with fail
  refine (zip_any3 _ _ _ _ _ a1 a2 b1 b2 x7 y7 E7 (RA1.out.below (by repeat (first | (with_reducible exact Below.refl _ _) | (with_reducible assumption) | (with_reducible refine below_drewN ?_ _) | (with_reducible refine Below.drew ?_) | (with_reducible refine below_ext_of ?_ (by first | exact Nat.le_refl _ | assumption | (simp only [World.size_alloc, World.size_setCell, size_ext, World.heap_drewN]; omega)) _ _) | (with_reducible refine Below.alloc ?_ (by first | exact Nat.le_refl _ | assumption | (simp only [World.size_alloc, World.size_setCell, size_ext, World.heap_drewN]; omega)) _) | (with_reducible refine Below.setCell ?_ (by first | exact Nat.le_refl _ | assumption | (simp only [World.size_alloc, World.size_setCell, size_ext, World.heap_drewN]; omega)) _)))) (RA2.out.below (by repeat (first | (with_reducible exact Below.refl _ _) | (with_reducible assumption) | (with_reducible refine below_drewN ?_ _) | (with_reducible refine Below.drew ?_) | (with_reducible refine below_ext_of ?_ (by first | exact Nat.le_refl _ | assumption | (simp only [World.size_alloc, World.size_setCell, size_ext, World.heap_drewN]; omega)) _ _) | (with_reducible refine Below.alloc ?_ (by first | exact Nat.le_refl _ | assumption | (simp only [World.size_alloc, World.size_setCell, size_ext, World.heap_drewN]; omega)) _) | (with_reducible refine Below.setCell ?_ (by first | exact Nat.le_refl _ | assumption | (simp only [World.size_alloc, World.size_setCell, size_ext, World.heap_drewN]; omega)) _)))) (RB1.out.below (by repeat (first | (with_reducible exact Below.refl _ _) | (with_reducible assumption) | (with_reducible refine below_drewN ?_ _) | (with_reducible refine Below.drew ?_) | (with_reducible refine below_ext_of ?_ (by first | exact Nat.le_refl _ | assumption | (simp only [World.size_alloc, World.size_setCell, size_ext, World.heap_drewN]; omega)) _ _) | (with_reducible refine Below.alloc ?_ (by first | exact Nat.le_refl _ | assumption | (simp only [World.size_alloc, World.size_setCell, size_ext, World.heap_drewN]; omega)) _) | (with_reducible refine Below.setCell ?_ (by first | exact Nat.le_refl _ | assumption | (simp only [World.size_alloc, World.size_setCell, size_ext, World.heap_drewN]; omega)) _)))) (RB2.out.below (by repeat (first | (with_reducible exact Below.refl _ _) | (with_reducible assumption) | (with_reducible refine below_drewN ?_ _) | (with_reducible refine Below.drew ?_) | (with_reducible refine below_ext_of ?_ (by first | exact Nat.le_refl _ | assumption | (simp only [World.size_alloc, World.size_setCell, size_ext, World.heap_drewN]; omega)) _ _) | (with_reducible refine Below.alloc ?_ (by first | exact Nat.le_refl _ | assumption | (simp only [World.size_alloc, World.size_setCell, size_ext, World.heap_drewN]; omega)) _) | (with_reducible refine Below.setCell ?_ (by first | exact Nat.le_refl _ | assumption | (simp only [World.size_alloc, World.size_setCell, size_ext, World.heap_drewN]; omega)) _)))) I_a1.out I_b1.out HZ7.out).mono ?_
  rintro e W1 ⟨hb, p7, s7, q7, t7, rfl, r1, r2⟩
  have hB : Below W.heap.size W W1 := Below.trans (by repeat (first | (with_reducible exact Below.refl _ _) | (with_reducible assumption) | (with_reducible refine below_drewN ?_ _) | (with_reducible refine Below.drew ?_) | (with_reducible refine below_ext_of ?_ (by first | exact Nat.le_refl _ | assumption | (simp only [World.size_alloc, World.size_setCell, size_ext, World.heap_drewN]; omega)) _ _) | (with_reducible refine Below.alloc ?_ (by first | exact Nat.le_refl _ | assumption | (simp only [World.size_alloc, World.size_setCell, size_ext, World.heap_drewN]; omega)) _) | (with_reducible refine Below.setCell ?_ (by first | exact Nat.le_refl _ | assumption | (simp only [World.size_alloc, World.size_setCell, size_ext, World.heap_drewN]; omega)) _))) (hb.mono (by simp [go_sem] <;> omega))
  replace RA1 := Lib.hid (RA1.out.below hB)
  replace RA2 := Lib.hid (RA2.out.below hB)
  replace RB1 := Lib.hid (RB1.out.below hB)
  replace RB2 := Lib.hid (RB2.out.below hB)
  replace HVB := Lib.hid (HVB.out.trans (hB.mono HVB.out.size))
  replace Ka0 := keep_cell hB Na Ka0
  replace Ka1 := keep_cell hB Na Ka1
  replace Na := Nat.lt_of_lt_of_le Na hB.size
  replace Kb0 := keep_cell hB Nb Kb0
  replace Kb1 := keep_cell hB Nb Kb1
  replace Nb := Nat.lt_of_lt_of_le Nb hB.size
  have RX1 := Lib.hid r1
  have RX2 := Lib.hid r2
  clear r1 r2
  clear hb hB
  go_wp2_with fail
  refine (zip_any4 _ _ _ _ _ b1 b2 a1 a2 x8 y8 E8 (RB1.out.below (by repeat (first | (with_reducible exact Below.refl _ _) | (with_reducible assumption) | (with_reducible refine below_drewN ?_ _) | (with_reducible refine Below.drew ?_) | (with_reducible refine below_ext_of ?_ (by first | exact Nat.le_refl _ | assumption | (simp only [World.size_alloc, World.size_setCell, size_ext, World.heap_drewN]; omega)) _ _) | (with_reducible refine Below.alloc ?_ (by first | exact Nat.le_refl _ | assumption | (simp only [World.size_alloc, World.size_setCell, size_ext, World.heap_drewN]; omega)) _) | (with_reducible refine Below.setCell ?_ (by first | exact Nat.le_refl _ | assumption | (simp only [World.size_alloc, World.size_setCell, size_ext, World.heap_drewN]; omega)) _)))) (RB2.out.below (by repeat (first | (with_reducible exact Below.refl _ _) | (with_reducible assumption) | (with_reducible refine below_drewN ?_ _) | (with_reducible refine Below.drew ?_) | (with_reducible refine below_ext_of ?_ (by first | exact Nat.le_refl _ | assumption | (simp only [World.size_alloc, World.size_setCell, size_ext, World.heap_drewN]; omega)) _ _) | (with_reducible refine Below.alloc ?_ (by first | exact Nat.le_refl _ | assumption | (simp only [World.size_alloc, World.size_setCell, size_ext, World.heap_drewN]; omega)) _) | (with_reducible refine Below.setCell ?_ (by first | exact Nat.le_refl _ | assumption | (simp only [World.size_alloc, World.size_setCell, size_ext, World.heap_drewN]; omega)) _)))) (RA1.out.below (by repeat (first | (with_reducible exact Below.refl _ _) | (with_reducible assumption) | (with_reducible refine below_drewN ?_ _) | (with_reducible refine Below.drew ?_) | (with_reducible refine below_ext_of ?_ (by first | exact Nat.le_refl _ | assumption | (simp only [World.size_alloc, World.size_setCell, size_ext, World.heap_drewN]; omega)) _ _) | (with_reducible refine Below.alloc ?_ (by first | exact Nat.le_refl _ | assumption | (simp only [World.size_alloc, World.size_setCell, size_ext, World.heap_drewN]; omega)) _) | (with_reducible refine Below.setCell ?_ (by first | exact Nat.le_refl _ | assumption | (simp only [World.size_alloc, World.size_setCell, size_ext, World.heap_drewN]; omega)) _)))) (RA2.out.below (by repeat (first | (with_reducible exact Below.refl _ _) | (with_reducible assumption) | (with_reducible refine below_drewN ?_ _) | (with_reducible refine Below.drew ?_) | (with_reducible refine below_ext_of ?_ (by first | exact Nat.le_refl _ | assumption | (simp only [World.size_alloc, World.size_setCell, size_ext, World.heap_drewN]; omega)) _ _) | (with_reducible refine Below.alloc ?_ (by first | exact Nat.le_refl _ | assumption | (simp only [World.size_alloc, World.size_setCell, size_ext, World.heap_drewN]; omega)) _) | (with_reducible refine Below.setCell ?_ (by first | exact Nat.le_refl _ | assumption | (simp only [World.size_alloc, World.size_setCell, size_ext, World.heap_drewN]; omega)) _)))) I_b1.out I_a1.out HZ8.out).mono ?_
  rintro e W2 ⟨hb, p8, s8, q8, t8, rfl, r1, r2⟩
  have hB : Below W1.heap.size W1 W2 := Below.trans (by repeat (first | (with_reducible exact Below.refl _ _) | (with_reducible assumption) | (with_reducible refine below_drewN ?_ _) | (with_reducible refine Below.drew ?_) | (with_reducible refine below_ext_of ?_ (by first | exact Nat.le_refl _ | assumption | (simp only [World.size_alloc, World.size_setCell, size_ext, World.heap_drewN]; omega)) _ _) | (with_reducible refine Below.alloc ?_ (by first | exact Nat.le_refl _ | assumption | (simp only [World.size_alloc, World.size_setCell, size_ext, World.heap_drewN]; omega)) _) | (with_reducible refine Below.setCell ?_ (by first | exact Nat.le_refl _ | assumption | (simp only [World.size_alloc, World.size_setCell, size_ext, World.heap_drewN]; omega)) _))) (hb.mono (by simp [go_sem] <;> omega))
  replace RA1 := Lib.hid (RA1.out.below hB)
  replace RA2 := Lib.hid (RA2.out.below hB)
  replace RB1 := Lib.hid (RB1.out.below hB)
  replace RB2 := Lib.hid (RB2.out.below hB)
  replace RX1 := Lib.hid (RX1.out.below hB)
  replace RX2 := Lib.hid (RX2.out.below hB)
  replace HVB := Lib.hid (HVB.out.trans (hB.mono HVB.out.size))
  replace Ka0 := keep_cell hB Na Ka0
  replace Ka1 := keep_cell hB Na Ka1
  replace Na := Nat.lt_of_lt_of_le Na hB.size
  replace Kb0 := keep_cell hB Nb Kb0
  replace Kb1 := keep_cell hB Nb Kb1
  replace Nb := Nat.lt_of_lt_of_le Nb hB.size
  have Kx0 : W2.cell? ⟨W1.heap.size, 0, none⟩ = some (.slice p7 x7.length s7) := keep_cell hb (by simp [go_sem] <;> omega) (by simp [go_sem])
  have Kx1 : W2.cell? ⟨W1.heap.size, 1, none⟩ = some (.slice q7 y7.length t7) := keep_cell hb (by simp [go_sem] <;> omega) (by simp [go_sem])
  have Nx : W1.heap.size < W2.heap.size := Nat.lt_of_lt_of_le (by simp [go_sem] <;> omega) hb.size
  have RY1 := Lib.hid r1
  have RY2 := Lib.hid r2
  clear r1 r2
  obtain ⟨Bx, hkx⟩ : ∃ b, b = W1.heap.size := ⟨_, rfl⟩
  rw [← hkx] at Kx0 Kx1 Nx ⊢
  clear hkx
  clear hb hB
  go_upto_region 22 with (fail)
  obtain ⟨V3, hV3⟩ : ∃ V, V = (W2).alloc (.cells #[.slice p8 x8.length s8, .slice q8 y8.length t8] 24) := ⟨_, rfl⟩
  rw [← hV3]
  have hB : Below W2.heap.size W2 V3 := by rw [hV3]; repeat (first | (with_reducible exact Below.refl _ _) | (with_reducible assumption) | (with_reducible refine below_drewN ?_ _) | (with_reducible refine Below.drew ?_) | (with_reducible refine below_ext_of ?_ (by first | exact Nat.le_refl _ | assumption | (simp only [World.size_alloc, World.size_setCell, size_ext, World.heap_drewN]; omega)) _ _) | (with_reducible refine Below.alloc ?_ (by first | exact Nat.le_refl _ | assumption | (simp only [World.size_alloc, World.size_setCell, size_ext, World.heap_drewN]; omega)) _) | (with_reducible refine Below.setCell ?_ (by first | exact Nat.le_refl _ | assumption | (simp only [World.size_alloc, World.size_setCell, size_ext, World.heap_drewN]; omega)) _))
  replace RA1 := Lib.hid (RA1.out.below hB)
  replace RA2 := Lib.hid (RA2.out.below hB)
  replace RB1 := Lib.hid (RB1.out.below hB)
  replace RB2 := Lib.hid (RB2.out.below hB)
  replace RX1 := Lib.hid (RX1.out.below hB)
  replace RX2 := Lib.hid (RX2.out.below hB)
  replace RY1 := Lib.hid (RY1.out.below hB)
  replace RY2 := Lib.hid (RY2.out.below hB)
  replace HVB := Lib.hid (HVB.out.trans (hB.mono HVB.out.size))
  replace Ka0 := keep_cell hB Na Ka0
  replace Ka1 := keep_cell hB Na Ka1
  replace Na := Nat.lt_of_lt_of_le Na hB.size
  replace Kb0 := keep_cell hB Nb Kb0
  replace Kb1 := keep_cell hB Nb Kb1
  replace Nb := Nat.lt_of_lt_of_le Nb hB.size
  replace Kx0 := keep_cell hB Nx Kx0
  replace Kx1 := keep_cell hB Nx Kx1
  replace Nx := Nat.lt_of_lt_of_le Nx hB.size
  have Ky0 : V3.cell? ⟨W2.heap.size, 0, none⟩ = some (.slice p8 x8.length s8) := by rw [hV3]; simp [go_sem]
  have Ky1 : V3.cell? ⟨W2.heap.size, 1, none⟩ = some (.slice q8 y8.length t8) := by rw [hV3]; simp [go_sem]
  have Ny : W2.heap.size < V3.heap.size := by rw [hV3]; simp [go_sem] <;> omega
  obtain ⟨By, hky⟩ : ∃ b, b = W2.heap.size := ⟨_, rfl⟩
  rw [← hky] at Ky0 Ky1 Ny ⊢
  clear hky
  clear hB hV3
  go_cut [239] (fun sl wc => sl = .bool false ∧ ∃ W9, W9 = wc ∧ Below V3.heap.size V3 W9)
  case first =>
    have HBR := Lib.hid (Below.refl V3.heap.size V3)
    have HRa := Lib.hid (show num a1 a2 n = num a1 a2 n from rfl)
    by_cases hE7 : E7 = 0
    · subst hE7
      by_cases hE8 : E8 = 0
      · subst hE8
        obtain ⟨_, _, z7, _⟩ := zipF_ok (op := 3) (a := a1) (b := a2) (c := b1) (d := b2) (by rw [HZ7.out])
        rw [HZ7.out] at z7
        have H7 := Lib.hid z7
        have N7 := Lib.hid (may_of_is z7.is z7.hl z7.ll)
        have HQ7 := Lib.hid (show num x7 y7 n = mnI (num a1 a2 n) (num b1 b2 n) by rw [z7.is.num]; rfl)
        clear z7
        obtain ⟨_, _, z8, _⟩ := zipF_ok (op := 4) (a := b1) (b := b2) (c := a1) (d := a2) (by rw [HZ8.out])
        rw [HZ8.out] at z8
        have H8 := Lib.hid z8
        have N8 := Lib.hid (may_of_is z8.is z8.hl z8.ll)
        have HQ8 := Lib.hid (show num x8 y8 n = mxI (num a1 a2 n) (num b1 b2 n) by rw [z8.is.num]; show mxI (num b1 b2 n) (num a1 a2 n) = _; exact mx_comm _ _)
        clear z8
        refine wp_region_held_drew (S := (fun W' => W'.cell? ⟨Ba, 0, none⟩ = some (.slice pa1 a1.length ca1) ∧ W'.cell? ⟨Ba, 1, none⟩ = some (.slice pa2 a2.length ca2) ∧ W'.cell? ⟨Bb, 0, none⟩ = some (.slice pb1 b1.length cb1) ∧ W'.cell? ⟨Bb, 1, none⟩ = some (.slice pb2 b2.length cb2) ∧ W'.cell? ⟨Bx, 0, none⟩ = some (.slice p7 x7.length s7) ∧ W'.cell? ⟨Bx, 1, none⟩ = some (.slice q7 y7.length t7) ∧ W'.cell? ⟨By, 0, none⟩ = some (.slice p8 x8.length s8) ∧ W'.cell? ⟨By, 1, none⟩ = some (.slice q8 y8.length t8))) (by kernel_rfl) ?hS1 (fun hHeld => ?go1)
        case hS1 =>
          (try dsimp only)
          try go_simp
        case go1 =>
        refine' wpAnyH_take (i := 0) (oi := ⟨_, _, _, _, _, _⟩) (v := ?v2) rfl (by kernel_rfl) (by kernel_rfl) (by kernel_rfl) (fun _ _ _ h => h) (Or.inl ⟨by rfl, ?hy2⟩) (by assumption) ?rest2
        case hy2 =>
          intro w hSw
          (try dsimp only at hSw)
          go_simp
          try (with_reducible rfl)
        case rest2 =>
        (try simp only [Act.put, List.setIfInBounds_toArray, List.set_cons_zero, List.set_cons_succ])
        refine' wpAnyH_take (i := 1) (oi := ⟨_, _, _, _, _, _⟩) (v := ?v3) rfl (by kernel_rfl) (by kernel_rfl) (by kernel_rfl) (fun _ _ _ h => h) (Or.inl ⟨by rfl, ?hy3⟩) (by assumption) ?rest3
        case hy3 =>
          intro w hSw
          (try dsimp only at hSw)
          go_simp
          try (with_reducible rfl)
        case rest3 =>
        (try simp only [Act.put, List.setIfInBounds_toArray, List.set_cons_zero, List.set_cons_succ])
        refine' wpAnyH_take (i := 2) (oi := ⟨_, _, _, _, _, _⟩) (v := ?v4) rfl (by kernel_rfl) (by kernel_rfl) (by kernel_rfl) (fun _ _ _ h => h) (Or.inl ⟨by rfl, ?hy4⟩) (by assumption) ?rest4
        case hy4 =>
          intro w hSw
          (try dsimp only at hSw)
          go_simp
          try (with_reducible rfl)
        case rest4 =>
        (try simp only [Act.put, List.setIfInBounds_toArray, List.set_cons_zero, List.set_cons_succ])
        refine' wpAnyH_take (i := 3) (oi := ⟨_, _, _, _, _, _⟩) (v := ?v5) rfl (by kernel_rfl) (by kernel_rfl) (by kernel_rfl) (fun _ _ _ h => h) (Or.inl ⟨by rfl, ?hy5⟩) (by assumption) ?rest5
        case hy5 =>
          intro w hSw
          (try dsimp only at hSw)
          go_simp
          try (with_reducible rfl)
        case rest5 =>
        (try simp only [Act.put, List.setIfInBounds_toArray, List.set_cons_zero, List.set_cons_succ])
        refine' wpAnyH_take (i := 4) (oi := ⟨_, _, _, _, _, _⟩) (v := ?v6) rfl (by kernel_rfl) (by kernel_rfl) (by kernel_rfl) (fun _ _ _ h => h) (Or.inl ⟨by rfl, ?hy6⟩) (by assumption) ?rest6
        case hy6 =>
          intro w hSw
          (try dsimp only at hSw)
          go_simp
          try (with_reducible rfl)
        case rest6 =>
        (try simp only [Act.put, List.setIfInBounds_toArray, List.set_cons_zero, List.set_cons_succ])
        refine' wpAnyH_take (i := 6) (oi := ⟨_, _, _, _, _, _⟩) (v := ?v7) rfl (by kernel_rfl) (by kernel_rfl) (by kernel_rfl) (fun _ _ _ h => h) (Or.inl ⟨by rfl, ?hy7⟩) (by assumption) ?rest7
        case hy7 =>
          intro w hSw
          (try dsimp only at hSw)
          go_simp
          try (with_reducible rfl)
        case rest7 =>
        (try simp only [Act.put, List.setIfInBounds_toArray, List.set_cons_zero, List.set_cons_succ])
        refine' wpAnyH_take (i := 7) (oi := ⟨_, _, _, _, _, _⟩) (v := ?v8) rfl (by kernel_rfl) (by kernel_rfl) (by kernel_rfl) (fun _ _ _ h => h) (Or.inl ⟨by rfl, ?hy8⟩) (by assumption) ?rest8
        case hy8 =>
          intro w hSw
          (try dsimp only at hSw)
          go_simp
          try (with_reducible rfl)
        case rest8 =>
        (try simp only [Act.put, List.setIfInBounds_toArray, List.set_cons_zero, List.set_cons_succ])
        refine' wpAnyH_take (i := 9) (oi := ⟨_, _, _, _, _, _⟩) (v := ?v9) rfl (by kernel_rfl) (by kernel_rfl) (by kernel_rfl) (fun _ _ _ h => h) (Or.inl ⟨by rfl, ?hy9⟩) (by assumption) ?rest9
        case hy9 =>
          intro w hSw
          (try dsimp only at hSw)
          go_simp
          try (with_reducible rfl)
        case rest9 =>
        (try simp only [Act.put, List.setIfInBounds_toArray, List.set_cons_zero, List.set_cons_succ])
        refine' wpAnyH_take (i := 10) (oi := ⟨_, _, _, _, _, _⟩) (v := ?v10) rfl (by kernel_rfl) (by kernel_rfl) (by kernel_rfl) (fun _ _ _ h => h) (Or.inl ⟨by rfl, ?hy10⟩) (by assumption) ?rest10
        case hy10 =>
          intro w hSw
          (try dsimp only at hSw)
          go_simp
          try (with_reducible rfl)
        case rest10 =>
        (try simp only [Act.put, List.setIfInBounds_toArray, List.set_cons_zero, List.set_cons_succ])
        refine wpAnyH_ready (rs := [5]) (by kernel_rfl) (by simp) ?_
        refine AllReadyH.cons (o := ⟨_, _, _, _, _, _⟩) rfl (fun K hK => ?_) AllReadyH.nil
        go_simp
        (go_at_call 25; refine (number_is _ _ _ x7 y7 n _ (RX1.out.below (by repeat (first | (with_reducible exact Below.refl _ _) | (with_reducible assumption) | (with_reducible refine below_drewN ?_ _) | (with_reducible refine Below.drew ?_) | (with_reducible refine below_ext_of ?_ (by first | exact Nat.le_refl _ | assumption | (simp only [World.size_alloc, World.size_setCell, size_ext, World.heap_drewN]; omega)) _ _) | (with_reducible refine Below.alloc ?_ (by first | exact Nat.le_refl _ | assumption | (simp only [World.size_alloc, World.size_setCell, size_ext, World.heap_drewN]; omega)) _) | (with_reducible refine Below.setCell ?_ (by first | exact Nat.le_refl _ | assumption | (simp only [World.size_alloc, World.size_setCell, size_ext, World.heap_drewN]; omega)) _)))) (RX2.out.below (by repeat (first | (with_reducible exact Below.refl _ _) | (with_reducible assumption) | (with_reducible refine below_drewN ?_ _) | (with_reducible refine Below.drew ?_) | (with_reducible refine below_ext_of ?_ (by first | exact Nat.le_refl _ | assumption | (simp only [World.size_alloc, World.size_setCell, size_ext, World.heap_drewN]; omega)) _ _) | (with_reducible refine Below.alloc ?_ (by first | exact Nat.le_refl _ | assumption | (simp only [World.size_alloc, World.size_setCell, size_ext, World.heap_drewN]; omega)) _) | (with_reducible refine Below.setCell ?_ (by first | exact Nat.le_refl _ | assumption | (simp only [World.size_alloc, World.size_setCell, size_ext, World.heap_drewN]; omega)) _)))) N7.out (by omega) HQ7.out).mono ?_; rintro e wx ⟨rfl, hbx⟩; obtain ⟨Xx, dx, rfl⟩ := below_ext hbx; clear hbx; go_simp)
        refine hK.out _ _ ?hS11 (fun hHeld2 => ?go11)
        case hS11 =>
          (try dsimp only)
          try go_simp
        case go11 =>
        clear hK K
        clear hHeld
        have hHeld := hHeld2
        clear hHeld2
        (try simp only [Act.put, List.setIfInBounds_toArray, List.set_cons_zero, List.set_cons_succ])
        refine wpAnyH_ready (rs := [8]) (by kernel_rfl) (by simp) ?_
        refine AllReadyH.cons (o := ⟨_, _, _, _, _, _⟩) rfl (fun K hK => ?_) AllReadyH.nil
        go_simp
        (go_at_call 25; refine (number_is _ _ _ a1 a2 n _ (RA1.out.below (by repeat (first | (with_reducible exact Below.refl _ _) | (with_reducible assumption) | (with_reducible refine below_drewN ?_ _) | (with_reducible refine Below.drew ?_) | (with_reducible refine below_ext_of ?_ (by first | exact Nat.le_refl _ | assumption | (simp only [World.size_alloc, World.size_setCell, size_ext, World.heap_drewN]; omega)) _ _) | (with_reducible refine Below.alloc ?_ (by first | exact Nat.le_refl _ | assumption | (simp only [World.size_alloc, World.size_setCell, size_ext, World.heap_drewN]; omega)) _) | (with_reducible refine Below.setCell ?_ (by first | exact Nat.le_refl _ | assumption | (simp only [World.size_alloc, World.size_setCell, size_ext, World.heap_drewN]; omega)) _)))) (RA2.out.below (by repeat (first | (with_reducible exact Below.refl _ _) | (with_reducible assumption) | (with_reducible refine below_drewN ?_ _) | (with_reducible refine Below.drew ?_) | (with_reducible refine below_ext_of ?_ (by first | exact Nat.le_refl _ | assumption | (simp only [World.size_alloc, World.size_setCell, size_ext, World.heap_drewN]; omega)) _ _) | (with_reducible refine Below.alloc ?_ (by first | exact Nat.le_refl _ | assumption | (simp only [World.size_alloc, World.size_setCell, size_ext, World.heap_drewN]; omega)) _) | (with_reducible refine Below.setCell ?_ (by first | exact Nat.le_refl _ | assumption | (simp only [World.size_alloc, World.size_setCell, size_ext, World.heap_drewN]; omega)) _)))) MA.out (by omega) rfl).mono ?_; rintro e wx ⟨rfl, hbx⟩; obtain ⟨Xx, dx, rfl⟩ := below_ext hbx; clear hbx; go_simp)
        refine hK.out _ _ ?hS12 (fun hHeld2 => ?go12)
        case hS12 =>
          (try dsimp only)
          try go_simp
        case go12 =>
        clear hK K
        clear hHeld
        have hHeld := hHeld2
        clear hHeld2
        (try simp only [Act.put, List.setIfInBounds_toArray, List.set_cons_zero, List.set_cons_succ])
        refine wpAnyH_ready (rs := [11]) (by kernel_rfl) (by simp) ?_
        refine AllReadyH.cons (o := ⟨_, _, _, _, _, _⟩) rfl (fun K hK => ?_) AllReadyH.nil
        go_simp
        (go_at_call 25; refine (number_is _ _ _ b1 b2 n _ (RB1.out.below (by repeat (first | (with_reducible exact Below.refl _ _) | (with_reducible assumption) | (with_reducible refine below_drewN ?_ _) | (with_reducible refine Below.drew ?_) | (with_reducible refine below_ext_of ?_ (by first | exact Nat.le_refl _ | assumption | (simp only [World.size_alloc, World.size_setCell, size_ext, World.heap_drewN]; omega)) _ _) | (with_reducible refine Below.alloc ?_ (by first | exact Nat.le_refl _ | assumption | (simp only [World.size_alloc, World.size_setCell, size_ext, World.heap_drewN]; omega)) _) | (with_reducible refine Below.setCell ?_ (by first | exact Nat.le_refl _ | assumption | (simp only [World.size_alloc, World.size_setCell, size_ext, World.heap_drewN]; omega)) _)))) (RB2.out.below (by repeat (first | (with_reducible exact Below.refl _ _) | (with_reducible assumption) | (with_reducible refine below_drewN ?_ _) | (with_reducible refine Below.drew ?_) | (with_reducible refine below_ext_of ?_ (by first | exact Nat.le_refl _ | assumption | (simp only [World.size_alloc, World.size_setCell, size_ext, World.heap_drewN]; omega)) _ _) | (with_reducible refine Below.alloc ?_ (by first | exact Nat.le_refl _ | assumption | (simp only [World.size_alloc, World.size_setCell, size_ext, World.heap_drewN]; omega)) _) | (with_reducible refine Below.setCell ?_ (by first | exact Nat.le_refl _ | assumption | (simp only [World.size_alloc, World.size_setCell, size_ext, World.heap_drewN]; omega)) _)))) MB.out (by omega) rfl).mono ?_; rintro e wx ⟨rfl, hbx⟩; obtain ⟨Xx, dx, rfl⟩ := below_ext hbx; clear hbx; go_simp)
        refine hK.out _ _ ?hS13 (fun hHeld2 => ?go13)
        case hS13 =>
          (try dsimp only)
          try go_simp
        case go13 =>
        clear hK K
        clear hHeld
        have hHeld := hHeld2
        clear hHeld2
        (try simp only [Act.put, List.setIfInBounds_toArray, List.set_cons_zero, List.set_cons_succ])
        refine' wpAnyH_take (i := 12) (oi := ⟨_, _, _, _, _, _⟩) (v := ?v14) rfl (by kernel_rfl) (by kernel_rfl) (by kernel_rfl) (fun _ _ _ h => h) (Or.inl ⟨by rfl, ?hy14⟩) (by assumption) ?rest14
        case hy14 =>
          intro w hSw
          (try dsimp only at hSw)
          go_simp
          try (with_reducible rfl)
        case rest14 =>
        (try simp only [Act.put, List.setIfInBounds_toArray, List.set_cons_zero, List.set_cons_succ])
        refine' wpAnyH_take (i := 13) (oi := ⟨_, _, _, _, _, _⟩) (v := ?v15) rfl (by kernel_rfl) (by kernel_rfl) (by kernel_rfl) (fun _ _ _ h => h) (Or.inl ⟨by rfl, ?hy15⟩) (by assumption) ?rest15
        case hy15 =>
          intro w hSw
          (try dsimp only at hSw)
          go_simp
          try (with_reducible rfl)
        case rest15 =>
        (try simp only [Act.put, List.setIfInBounds_toArray, List.set_cons_zero, List.set_cons_succ])
        refine' wpAnyH_take (i := 14) (oi := ⟨_, _, _, _, _, _⟩) (v := ?v16) rfl (by kernel_rfl) (by kernel_rfl) (by kernel_rfl) (fun _ _ _ h => h) (Or.inl ⟨by rfl, ?hy16⟩) (by assumption) ?rest16
        case hy16 =>
          intro w hSw
          (try dsimp only at hSw)
          go_simp
          try (with_reducible rfl)
        case rest16 =>
        (try simp only [Act.put, List.setIfInBounds_toArray, List.set_cons_zero, List.set_cons_succ])
        refine' wpAnyH_take (i := 15) (oi := ⟨_, _, _, _, _, _⟩) (v := ?v17) rfl (by kernel_rfl) (by kernel_rfl) (by kernel_rfl) (fun _ _ _ h => h) (Or.inl ⟨by rfl, ?hy17⟩) (by assumption) ?rest17
        case hy17 =>
          intro w hSw
          (try dsimp only at hSw)
          go_simp
          try (with_reducible rfl)
        case rest17 =>
        (try simp only [Act.put, List.setIfInBounds_toArray, List.set_cons_zero, List.set_cons_succ])
        refine wpAnyH_ready (rs := [16]) (by kernel_rfl) (by simp) ?_
        refine AllReadyH.cons (o := ⟨_, _, _, _, _, _⟩) rfl (fun K hK => ?_) AllReadyH.nil
        go_simp
        (go_at_call 27; refine (short_true _ _ _ x7 y7 (RX1.out.below (by repeat (first | (with_reducible exact Below.refl _ _) | (with_reducible assumption) | (with_reducible refine below_drewN ?_ _) | (with_reducible refine Below.drew ?_) | (with_reducible refine below_ext_of ?_ (by first | exact Nat.le_refl _ | assumption | (simp only [World.size_alloc, World.size_setCell, size_ext, World.heap_drewN]; omega)) _ _) | (with_reducible refine Below.alloc ?_ (by first | exact Nat.le_refl _ | assumption | (simp only [World.size_alloc, World.size_setCell, size_ext, World.heap_drewN]; omega)) _) | (with_reducible refine Below.setCell ?_ (by first | exact Nat.le_refl _ | assumption | (simp only [World.size_alloc, World.size_setCell, size_ext, World.heap_drewN]; omega)) _)))) (RX2.out.below (by repeat (first | (with_reducible exact Below.refl _ _) | (with_reducible assumption) | (with_reducible refine below_drewN ?_ _) | (with_reducible refine Below.drew ?_) | (with_reducible refine below_ext_of ?_ (by first | exact Nat.le_refl _ | assumption | (simp only [World.size_alloc, World.size_setCell, size_ext, World.heap_drewN]; omega)) _ _) | (with_reducible refine Below.alloc ?_ (by first | exact Nat.le_refl _ | assumption | (simp only [World.size_alloc, World.size_setCell, size_ext, World.heap_drewN]; omega)) _) | (with_reducible refine Below.setCell ?_ (by first | exact Nat.le_refl _ | assumption | (simp only [World.size_alloc, World.size_setCell, size_ext, World.heap_drewN]; omega)) _)))) (norm_of_is H7.out.is H7.out.hl H7.out.ll)).mono ?_; rintro e wx ⟨rfl, hbx⟩; obtain ⟨Xx, dx, rfl⟩ := below_ext hbx; clear hbx; go_simp)
        refine hK.out _ _ ?hS18 (fun hHeld2 => ?go18)
        case hS18 =>
          (try dsimp only)
          try go_simp
        case go18 =>
        clear hK K
        clear hHeld
        have hHeld := hHeld2
        clear hHeld2
        (try simp only [Act.put, List.setIfInBounds_toArray, List.set_cons_zero, List.set_cons_succ])
        refine' wpAnyH_take (i := 17) (oi := ⟨_, _, _, _, _, _⟩) (v := ?v19) rfl (by kernel_rfl) (by kernel_rfl) (by kernel_rfl) (fun _ _ _ h => h) (Or.inl ⟨by rfl, ?hy19⟩) (by assumption) ?rest19
        case hy19 =>
          intro w hSw
          (try dsimp only at hSw)
          go_simp
          try (with_reducible rfl)
        case rest19 =>
        (try simp only [Act.put, List.setIfInBounds_toArray, List.set_cons_zero, List.set_cons_succ])
        refine' wpAnyH_take (i := 18) (oi := ⟨_, _, _, _, _, _⟩) (v := ?v20) rfl (by kernel_rfl) (by kernel_rfl) (by kernel_rfl) (fun _ _ _ h => h) (Or.inl ⟨by rfl, ?hy20⟩) (by assumption) ?rest20
        case hy20 =>
          intro w hSw
          (try dsimp only at hSw)
          go_simp
          try (with_reducible rfl)
        case rest20 =>
        (try simp only [Act.put, List.setIfInBounds_toArray, List.set_cons_zero, List.set_cons_succ])
        refine' wpAnyH_take (i := 19) (oi := ⟨_, _, _, _, _, _⟩) (v := ?v21) rfl (by kernel_rfl) (by kernel_rfl) (by kernel_rfl) (fun _ _ _ h => h) (Or.inl ⟨by rfl, ?hy21⟩) (by assumption) ?rest21
        case hy21 =>
          intro w hSw
          (try dsimp only at hSw)
          go_simp
          try (with_reducible rfl)
        case rest21 =>
        (try simp only [Act.put, List.setIfInBounds_toArray, List.set_cons_zero, List.set_cons_succ])
        refine' wpAnyH_take (i := 20) (oi := ⟨_, _, _, _, _, _⟩) (v := ?v22) rfl (by kernel_rfl) (by kernel_rfl) (by kernel_rfl) (fun _ _ _ h => h) (Or.inl ⟨by rfl, ?hy22⟩) (by assumption) ?rest22
        case hy22 =>
          intro w hSw
          (try dsimp only at hSw)
          go_simp
          try (with_reducible rfl)
        case rest22 =>
        (try simp only [Act.put, List.setIfInBounds_toArray, List.set_cons_zero, List.set_cons_succ])
        refine' wpAnyH_take (i := 21) (oi := ⟨_, _, _, _, _, _⟩) (v := ?v23) rfl (by kernel_rfl) (by kernel_rfl) (by kernel_rfl) (fun _ _ _ h => h) (Or.inl ⟨by rfl, ?hy23⟩) (by assumption) ?rest23
        case hy23 =>
          intro w hSw
          (try dsimp only at hSw)
          go_simp
          try (with_reducible rfl)
        case rest23 =>
        (try simp only [Act.put, List.setIfInBounds_toArray, List.set_cons_zero, List.set_cons_succ])
        refine' wpAnyH_take (i := 22) (oi := ⟨_, _, _, _, _, _⟩) (v := ?v24) rfl (by kernel_rfl) (by kernel_rfl) (by kernel_rfl) (fun _ _ _ h => h) (Or.inl ⟨by rfl, ?hy24⟩) (by assumption) ?rest24
        case hy24 =>
          intro w hSw
          (try dsimp only at hSw)
          go_simp
          try (with_reducible rfl)
        case rest24 =>
        (try simp only [Act.put, List.setIfInBounds_toArray, List.set_cons_zero, List.set_cons_succ])
        refine' wpAnyH_take (i := 23) (oi := ⟨_, _, _, _, _, _⟩) (v := ?v25) rfl (by kernel_rfl) (by kernel_rfl) (by kernel_rfl) (fun _ _ _ h => h) (Or.inl ⟨by rfl, ?hy25⟩) (by assumption) ?rest25
        case hy25 =>
          intro w hSw
          (try dsimp only at hSw)
          go_simp
          try (with_reducible rfl)
        case rest25 =>
        (try simp only [Act.put, List.setIfInBounds_toArray, List.set_cons_zero, List.set_cons_succ])
        refine' wpAnyH_take (i := 24) (oi := ⟨_, _, _, _, _, _⟩) (v := ?v26) rfl (by kernel_rfl) (by kernel_rfl) (by kernel_rfl) (fun _ _ _ h => h) (Or.inl ⟨by rfl, ?hy26⟩) (by assumption) ?rest26
        case hy26 =>
          intro w hSw
          (try dsimp only at hSw)
          go_simp
          try (with_reducible rfl)
        case rest26 =>
        (try simp only [Act.put, List.setIfInBounds_toArray, List.set_cons_zero, List.set_cons_succ])
        refine' wpAnyH_take (i := 25) (oi := ⟨_, _, _, _, _, _⟩) (v := ?v27) rfl (by kernel_rfl) (by kernel_rfl) (by kernel_rfl) (fun _ _ _ h => h) (Or.inl ⟨by rfl, ?hy27⟩) (by assumption) ?rest27
        case hy27 =>
          intro w hSw
          (try dsimp only at hSw)
          go_simp
          try (with_reducible rfl)
        case rest27 =>
        (try simp only [Act.put, List.setIfInBounds_toArray, List.set_cons_zero, List.set_cons_succ])
        refine' wpAnyH_take (i := 27) (oi := ⟨_, _, _, _, _, _⟩) (v := ?v28) rfl (by kernel_rfl) (by kernel_rfl) (by kernel_rfl) (fun _ _ _ h => h) (Or.inl ⟨by rfl, ?hy28⟩) (by assumption) ?rest28
        case hy28 =>
          intro w hSw
          (try dsimp only at hSw)
          go_simp
          try (with_reducible rfl)
        case rest28 =>
        (try simp only [Act.put, List.setIfInBounds_toArray, List.set_cons_zero, List.set_cons_succ])
        refine' wpAnyH_take (i := 28) (oi := ⟨_, _, _, _, _, _⟩) (v := ?v29) rfl (by kernel_rfl) (by kernel_rfl) (by kernel_rfl) (fun _ _ _ h => h) (Or.inl ⟨by rfl, ?hy29⟩) (by assumption) ?rest29
        case hy29 =>
          intro w hSw
          (try dsimp only at hSw)
          go_simp
          try (with_reducible rfl)
        case rest29 =>
        (try simp only [Act.put, List.setIfInBounds_toArray, List.set_cons_zero, List.set_cons_succ])
        refine' wpAnyH_take (i := 30) (oi := ⟨_, _, _, _, _, _⟩) (v := ?v30) rfl (by kernel_rfl) (by kernel_rfl) (by kernel_rfl) (fun _ _ _ h => h) (Or.inl ⟨by rfl, ?hy30⟩) (by assumption) ?rest30
        case hy30 =>
          intro w hSw
          (try dsimp only at hSw)
          go_simp
          try (with_reducible rfl)
        case rest30 =>
        (try simp only [Act.put, List.setIfInBounds_toArray, List.set_cons_zero, List.set_cons_succ])
        refine' wpAnyH_take (i := 31) (oi := ⟨_, _, _, _, _, _⟩) (v := ?v31) rfl (by kernel_rfl) (by kernel_rfl) (by kernel_rfl) (fun _ _ _ h => h) (Or.inl ⟨by rfl, ?hy31⟩) (by assumption) ?rest31
        case hy31 =>
          intro w hSw
          (try dsimp only at hSw)
          go_simp
          try (with_reducible rfl)
        case rest31 =>
        (try simp only [Act.put, List.setIfInBounds_toArray, List.set_cons_zero, List.set_cons_succ])
        refine wpAnyH_ready (rs := [26]) (by kernel_rfl) (by simp) ?_
        refine AllReadyH.cons (o := ⟨_, _, _, _, _, _⟩) rfl (fun K hK => ?_) AllReadyH.nil
        go_simp
        (go_at_call 25; refine (number_is _ _ _ x8 y8 n _ (RY1.out.below (by repeat (first | (with_reducible exact Below.refl _ _) | (with_reducible assumption) | (with_reducible refine below_drewN ?_ _) | (with_reducible refine Below.drew ?_) | (with_reducible refine below_ext_of ?_ (by first | exact Nat.le_refl _ | assumption | (simp only [World.size_alloc, World.size_setCell, size_ext, World.heap_drewN]; omega)) _ _) | (with_reducible refine Below.alloc ?_ (by first | exact Nat.le_refl _ | assumption | (simp only [World.size_alloc, World.size_setCell, size_ext, World.heap_drewN]; omega)) _) | (with_reducible refine Below.setCell ?_ (by first | exact Nat.le_refl _ | assumption | (simp only [World.size_alloc, World.size_setCell, size_ext, World.heap_drewN]; omega)) _)))) (RY2.out.below (by repeat (first | (with_reducible exact Below.refl _ _) | (with_reducible assumption) | (with_reducible refine below_drewN ?_ _) | (with_reducible refine Below.drew ?_) | (with_reducible refine below_ext_of ?_ (by first | exact Nat.le_refl _ | assumption | (simp only [World.size_alloc, World.size_setCell, size_ext, World.heap_drewN]; omega)) _ _) | (with_reducible refine Below.alloc ?_ (by first | exact Nat.le_refl _ | assumption | (simp only [World.size_alloc, World.size_setCell, size_ext, World.heap_drewN]; omega)) _) | (with_reducible refine Below.setCell ?_ (by first | exact Nat.le_refl _ | assumption | (simp only [World.size_alloc, World.size_setCell, size_ext, World.heap_drewN]; omega)) _)))) N8.out (by omega) HQ8.out).mono ?_; rintro e wx ⟨rfl, hbx⟩; obtain ⟨Xx, dx, rfl⟩ := below_ext hbx; clear hbx; go_simp)
        refine hK.out _ _ ?hS32 (fun hHeld2 => ?go32)
        case hS32 =>
          (try dsimp only)
          try go_simp
        case go32 =>
        clear hK K
        clear hHeld
        have hHeld := hHeld2
        clear hHeld2
        (try simp only [Act.put, List.setIfInBounds_toArray, List.set_cons_zero, List.set_cons_succ])
        refine wpAnyH_ready (rs := [29]) (by kernel_rfl) (by simp) ?_
        refine AllReadyH.cons (o := ⟨_, _, _, _, _, _⟩) rfl (fun K hK => ?_) AllReadyH.nil
        go_simp
        (go_at_call 25; refine (number_is _ _ _ a1 a2 n _ (RA1.out.below (by repeat (first | (with_reducible exact Below.refl _ _) | (with_reducible assumption) | (with_reducible refine below_drewN ?_ _) | (with_reducible refine Below.drew ?_) | (with_reducible refine below_ext_of ?_ (by first | exact Nat.le_refl _ | assumption | (simp only [World.size_alloc, World.size_setCell, size_ext, World.heap_drewN]; omega)) _ _) | (with_reducible refine Below.alloc ?_ (by first | exact Nat.le_refl _ | assumption | (simp only [World.size_alloc, World.size_setCell, size_ext, World.heap_drewN]; omega)) _) | (with_reducible refine Below.setCell ?_ (by first | exact Nat.le_refl _ | assumption | (simp only [World.size_alloc, World.size_setCell, size_ext, World.heap_drewN]; omega)) _)))) (RA2.out.below (by repeat (first | (with_reducible exact Below.refl _ _) | (with_reducible assumption) | (with_reducible refine below_drewN ?_ _) | (with_reducible refine Below.drew ?_) | (with_reducible refine below_ext_of ?_ (by first | exact Nat.le_refl _ | assumption | (simp only [World.size_alloc, World.size_setCell, size_ext, World.heap_drewN]; omega)) _ _) | (with_reducible refine Below.alloc ?_ (by first | exact Nat.le_refl _ | assumption | (simp only [World.size_alloc, World.size_setCell, size_ext, World.heap_drewN]; omega)) _) | (with_reducible refine Below.setCell ?_ (by first | exact Nat.le_refl _ | assumption | (simp only [World.size_alloc, World.size_setCell, size_ext, World.heap_drewN]; omega)) _)))) MA.out (by omega) rfl).mono ?_; rintro e wx ⟨rfl, hbx⟩; obtain ⟨Xx, dx, rfl⟩ := below_ext hbx; clear hbx; go_simp)
        refine hK.out _ _ ?hS33 (fun hHeld2 => ?go33)
        case hS33 =>
          (try dsimp only)
          try go_simp
        case go33 =>
        clear hK K
        clear hHeld
        have hHeld := hHeld2
        clear hHeld2
        (try simp only [Act.put, List.setIfInBounds_toArray, List.set_cons_zero, List.set_cons_succ])
        refine wpAnyH_ready (rs := [32]) (by kernel_rfl) (by simp) ?_
        refine AllReadyH.cons (o := ⟨_, _, _, _, _, _⟩) rfl (fun K hK => ?_) AllReadyH.nil
        go_simp
        (go_at_call 25; refine (number_is _ _ _ b1 b2 n _ (RB1.out.below (by repeat (first | (with_reducible exact Below.refl _ _) | (with_reducible assumption) | (with_reducible refine below_drewN ?_ _) | (with_reducible refine Below.drew ?_) | (with_reducible refine below_ext_of ?_ (by first | exact Nat.le_refl _ | assumption | (simp only [World.size_alloc, World.size_setCell, size_ext, World.heap_drewN]; omega)) _ _) | (with_reducible refine Below.alloc ?_ (by first | exact Nat.le_refl _ | assumption | (simp only [World.size_alloc, World.size_setCell, size_ext, World.heap_drewN]; omega)) _) | (with_reducible refine Below.setCell ?_ (by first | exact Nat.le_refl _ | assumption | (simp only [World.size_alloc, World.size_setCell, size_ext, World.heap_drewN]; omega)) _)))) (RB2.out.below (by repeat (first | (with_reducible exact Below.refl _ _) | (with_reducible assumption) | (with_reducible refine below_drewN ?_ _) | (with_reducible refine Below.drew ?_) | (with_reducible refine below_ext_of ?_ (by first | exact Nat.le_refl _ | assumption | (simp only [World.size_alloc, World.size_setCell, size_ext, World.heap_drewN]; omega)) _ _) | (with_reducible refine Below.alloc ?_ (by first | exact Nat.le_refl _ | assumption | (simp only [World.size_alloc, World.size_setCell, size_ext, World.heap_drewN]; omega)) _) | (with_reducible refine Below.setCell ?_ (by first | exact Nat.le_refl _ | assumption | (simp only [World.size_alloc, World.size_setCell, size_ext, World.heap_drewN]; omega)) _)))) MB.out (by omega) rfl).mono ?_; rintro e wx ⟨rfl, hbx⟩; obtain ⟨Xx, dx, rfl⟩ := below_ext hbx; clear hbx; go_simp)
        refine hK.out _ _ ?hS34 (fun hHeld2 => ?go34)
        case hS34 =>
          (try dsimp only)
          try go_simp
        case go34 =>
        clear hK K
        clear hHeld
        have hHeld := hHeld2
        clear hHeld2
        (try simp only [Act.put, List.setIfInBounds_toArray, List.set_cons_zero, List.set_cons_succ])
        refine' wpAnyH_take (i := 33) (oi := ⟨_, _, _, _, _, _⟩) (v := ?v35) rfl (by kernel_rfl) (by kernel_rfl) (by kernel_rfl) (fun _ _ _ h => h) (Or.inl ⟨by rfl, ?hy35⟩) (by assumption) ?rest35
        case hy35 =>
          intro w hSw
          (try dsimp only at hSw)
          go_simp
          try (with_reducible rfl)
        case rest35 =>
        (try simp only [Act.put, List.setIfInBounds_toArray, List.set_cons_zero, List.set_cons_succ])
        refine' wpAnyH_take (i := 34) (oi := ⟨_, _, _, _, _, _⟩) (v := ?v36) rfl (by kernel_rfl) (by kernel_rfl) (by kernel_rfl) (fun _ _ _ h => h) (Or.inl ⟨by rfl, ?hy36⟩) (by assumption) ?rest36
        case hy36 =>
          intro w hSw
          (try dsimp only at hSw)
          go_simp
          try (with_reducible rfl)
        case rest36 =>
        (try simp only [Act.put, List.setIfInBounds_toArray, List.set_cons_zero, List.set_cons_succ])
        refine' wpAnyH_take (i := 35) (oi := ⟨_, _, _, _, _, _⟩) (v := ?v37) rfl (by kernel_rfl) (by kernel_rfl) (by kernel_rfl) (fun _ _ _ h => h) (Or.inl ⟨by rfl, ?hy37⟩) (by assumption) ?rest37
        case hy37 =>
          intro w hSw
          (try dsimp only at hSw)
          go_simp
          try (with_reducible rfl)
        case rest37 =>
        (try simp only [Act.put, List.setIfInBounds_toArray, List.set_cons_zero, List.set_cons_succ])
        refine' wpAnyH_take (i := 36) (oi := ⟨_, _, _, _, _, _⟩) (v := ?v38) rfl (by kernel_rfl) (by kernel_rfl) (by kernel_rfl) (fun _ _ _ h => h) (Or.inl ⟨by rfl, ?hy38⟩) (by assumption) ?rest38
        case hy38 =>
          intro w hSw
          (try dsimp only at hSw)
          go_simp
          try (with_reducible rfl)
        case rest38 =>
        (try simp only [Act.put, List.setIfInBounds_toArray, List.set_cons_zero, List.set_cons_succ])
        refine wpAnyH_done (by kernel_rfl) ?_ _
        go_wp2_with fail
        go_meet
        case rel => exact ⟨rfl, _, rfl, HBR.out.trans (Below.mono (by repeat (first | (with_reducible exact Below.refl _ _) | (with_reducible assumption) | (with_reducible refine below_drewN ?_ _) | (with_reducible refine Below.drew ?_) | (with_reducible refine below_ext_of ?_ (by first | exact Nat.le_refl _ | assumption | (simp only [World.size_alloc, World.size_setCell, size_ext, World.heap_drewN]; omega)) _ _) | (with_reducible refine Below.alloc ?_ (by first | exact Nat.le_refl _ | assumption | (simp only [World.size_alloc, World.size_setCell, size_ext, World.heap_drewN]; omega)) _) | (with_reducible refine Below.setCell ?_ (by first | exact Nat.le_refl _ | assumption | (simp only [World.size_alloc, World.size_setCell, size_ext, World.heap_drewN]; omega)) _))) HBR.out.size)⟩
      · have e8a : (E8 != 0) = true := bne_iff_ne.2 hE8
        have e8b : (E8 == 0) = false := beq_false_of_ne hE8
        clear hE8
        obtain ⟨_, _, z7, _⟩ := zipF_ok (op := 3) (a := a1) (b := a2) (c := b1) (d := b2) (by rw [HZ7.out])
        rw [HZ7.out] at z7
        have H7 := Lib.hid z7
        have N7 := Lib.hid (may_of_is z7.is z7.hl z7.ll)
        have HQ7 := Lib.hid (show num x7 y7 n = mnI (num a1 a2 n) (num b1 b2 n) by rw [z7.is.num]; rfl)
        clear z7
        refine wp_region_held_drew (S := (fun W' => W'.cell? ⟨Ba, 0, none⟩ = some (.slice pa1 a1.length ca1) ∧ W'.cell? ⟨Ba, 1, none⟩ = some (.slice pa2 a2.length ca2) ∧ W'.cell? ⟨Bb, 0, none⟩ = some (.slice pb1 b1.length cb1) ∧ W'.cell? ⟨Bb, 1, none⟩ = some (.slice pb2 b2.length cb2) ∧ W'.cell? ⟨Bx, 0, none⟩ = some (.slice p7 x7.length s7) ∧ W'.cell? ⟨Bx, 1, none⟩ = some (.slice q7 y7.length t7) ∧ W'.cell? ⟨By, 0, none⟩ = some (.slice p8 x8.length s8) ∧ W'.cell? ⟨By, 1, none⟩ = some (.slice q8 y8.length t8))) (by kernel_rfl) ?hS39 (fun hHeld => ?go39)
        case hS39 =>
          (try dsimp only)
          try go_simp
        case go39 =>
        refine' wpAnyH_take (i := 0) (oi := ⟨_, _, _, _, _, _⟩) (v := ?v40) rfl (by kernel_rfl) (by kernel_rfl) (by kernel_rfl) (fun _ _ _ h => h) (Or.inl ⟨by rfl, ?hy40⟩) (by assumption) ?rest40
        case hy40 =>
          intro w hSw
          (try dsimp only at hSw)
          go_simp
          try (with_reducible rfl)
        case rest40 =>
        (try simp only [Act.put, List.setIfInBounds_toArray, List.set_cons_zero, List.set_cons_succ])
        refine' wpAnyH_take (i := 1) (oi := ⟨_, _, _, _, _, _⟩) (v := ?v41) rfl (by kernel_rfl) (by kernel_rfl) (by kernel_rfl) (fun _ _ _ h => h) (Or.inl ⟨by rfl, ?hy41⟩) (by assumption) ?rest41
        case hy41 =>
          intro w hSw
          (try dsimp only at hSw)
          go_simp
          try (with_reducible rfl)
        case rest41 =>
        (try simp only [Act.put, List.setIfInBounds_toArray, List.set_cons_zero, List.set_cons_succ])
        refine' wpAnyH_take (i := 2) (oi := ⟨_, _, _, _, _, _⟩) (v := ?v42) rfl (by kernel_rfl) (by kernel_rfl) (by kernel_rfl) (fun _ _ _ h => h) (Or.inl ⟨by rfl, ?hy42⟩) (by assumption) ?rest42
        case hy42 =>
          intro w hSw
          (try dsimp only at hSw)
          go_simp
          try (with_reducible rfl)
        case rest42 =>
        (try simp only [Act.put, List.setIfInBounds_toArray, List.set_cons_zero, List.set_cons_succ])
        refine' wpAnyH_take (i := 3) (oi := ⟨_, _, _, _, _, _⟩) (v := ?v43) rfl (by kernel_rfl) (by kernel_rfl) (by kernel_rfl) (fun _ _ _ h => h) (Or.inl ⟨by rfl, ?hy43⟩) (by assumption) ?rest43
        case hy43 =>
          intro w hSw
          (try dsimp only at hSw)
          go_simp
          try (with_reducible rfl)
        case rest43 =>
        (try simp only [Act.put, List.setIfInBounds_toArray, List.set_cons_zero, List.set_cons_succ])
        refine' wpAnyH_take (i := 4) (oi := ⟨_, _, _, _, _, _⟩) (v := ?v44) rfl (by kernel_rfl) (by kernel_rfl) (by kernel_rfl) (fun _ _ _ h => h) (Or.inl ⟨by rfl, ?hy44⟩) (by assumption) ?rest44
        case hy44 =>
          intro w hSw
          (try dsimp only at hSw)
          go_simp
          try (with_reducible rfl)
        case rest44 =>
        (try simp only [Act.put, List.setIfInBounds_toArray, List.set_cons_zero, List.set_cons_succ])
        refine' wpAnyH_take (i := 6) (oi := ⟨_, _, _, _, _, _⟩) (v := ?v45) rfl (by kernel_rfl) (by kernel_rfl) (by kernel_rfl) (fun _ _ _ h => h) (Or.inl ⟨by rfl, ?hy45⟩) (by assumption) ?rest45
        case hy45 =>
          intro w hSw
          (try dsimp only at hSw)
          go_simp
          try (with_reducible rfl)
        case rest45 =>
        (try simp only [Act.put, List.setIfInBounds_toArray, List.set_cons_zero, List.set_cons_succ])
        refine' wpAnyH_take (i := 7) (oi := ⟨_, _, _, _, _, _⟩) (v := ?v46) rfl (by kernel_rfl) (by kernel_rfl) (by kernel_rfl) (fun _ _ _ h => h) (Or.inl ⟨by rfl, ?hy46⟩) (by assumption) ?rest46
        case hy46 =>
          intro w hSw
          (try dsimp only at hSw)
          go_simp
          try (with_reducible rfl)
        case rest46 =>
        (try simp only [Act.put, List.setIfInBounds_toArray, List.set_cons_zero, List.set_cons_succ])
        refine' wpAnyH_take (i := 9) (oi := ⟨_, _, _, _, _, _⟩) (v := ?v47) rfl (by kernel_rfl) (by kernel_rfl) (by kernel_rfl) (fun _ _ _ h => h) (Or.inl ⟨by rfl, ?hy47⟩) (by assumption) ?rest47
        case hy47 =>
          intro w hSw
          (try dsimp only at hSw)
          go_simp
          try (with_reducible rfl)
        case rest47 =>
        (try simp only [Act.put, List.setIfInBounds_toArray, List.set_cons_zero, List.set_cons_succ])
        refine' wpAnyH_take (i := 10) (oi := ⟨_, _, _, _, _, _⟩) (v := ?v48) rfl (by kernel_rfl) (by kernel_rfl) (by kernel_rfl) (fun _ _ _ h => h) (Or.inl ⟨by rfl, ?hy48⟩) (by assumption) ?rest48
        case hy48 =>
          intro w hSw
          (try dsimp only at hSw)
          go_simp
          try (with_reducible rfl)
        case rest48 =>
        (try simp only [Act.put, List.setIfInBounds_toArray, List.set_cons_zero, List.set_cons_succ])
        refine wpAnyH_ready (rs := [5]) (by kernel_rfl) (by simp) ?_
        refine AllReadyH.cons (o := ⟨_, _, _, _, _, _⟩) rfl (fun K hK => ?_) AllReadyH.nil
        go_simp
        (go_at_call 25; refine (number_is _ _ _ x7 y7 n _ (RX1.out.below (by repeat (first | (with_reducible exact Below.refl _ _) | (with_reducible assumption) | (with_reducible refine below_drewN ?_ _) | (with_reducible refine Below.drew ?_) | (with_reducible refine below_ext_of ?_ (by first | exact Nat.le_refl _ | assumption | (simp only [World.size_alloc, World.size_setCell, size_ext, World.heap_drewN]; omega)) _ _) | (with_reducible refine Below.alloc ?_ (by first | exact Nat.le_refl _ | assumption | (simp only [World.size_alloc, World.size_setCell, size_ext, World.heap_drewN]; omega)) _) | (with_reducible refine Below.setCell ?_ (by first | exact Nat.le_refl _ | assumption | (simp only [World.size_alloc, World.size_setCell, size_ext, World.heap_drewN]; omega)) _)))) (RX2.out.below (by repeat (first | (with_reducible exact Below.refl _ _) | (with_reducible assumption) | (with_reducible refine below_drewN ?_ _) | (with_reducible refine Below.drew ?_) | (with_reducible refine below_ext_of ?_ (by first | exact Nat.le_refl _ | assumption | (simp only [World.size_alloc, World.size_setCell, size_ext, World.heap_drewN]; omega)) _ _) | (with_reducible refine Below.alloc ?_ (by first | exact Nat.le_refl _ | assumption | (simp only [World.size_alloc, World.size_setCell, size_ext, World.heap_drewN]; omega)) _) | (with_reducible refine Below.setCell ?_ (by first | exact Nat.le_refl _ | assumption | (simp only [World.size_alloc, World.size_setCell, size_ext, World.heap_drewN]; omega)) _)))) N7.out (by omega) HQ7.out).mono ?_; rintro e wx ⟨rfl, hbx⟩; obtain ⟨Xx, dx, rfl⟩ := below_ext hbx; clear hbx; go_simp)
        refine hK.out _ _ ?hS49 (fun hHeld2 => ?go49)
        case hS49 =>
          (try dsimp only)
          try go_simp
        case go49 =>
        clear hK K
        clear hHeld
        have hHeld := hHeld2
        clear hHeld2
        (try simp only [Act.put, List.setIfInBounds_toArray, List.set_cons_zero, List.set_cons_succ])
        refine wpAnyH_ready (rs := [8]) (by kernel_rfl) (by simp) ?_
        refine AllReadyH.cons (o := ⟨_, _, _, _, _, _⟩) rfl (fun K hK => ?_) AllReadyH.nil
        go_simp
        (go_at_call 25; refine (number_is _ _ _ a1 a2 n _ (RA1.out.below (by repeat (first | (with_reducible exact Below.refl _ _) | (with_reducible assumption) | (with_reducible refine below_drewN ?_ _) | (with_reducible refine Below.drew ?_) | (with_reducible refine below_ext_of ?_ (by first | exact Nat.le_refl _ | assumption | (simp only [World.size_alloc, World.size_setCell, size_ext, World.heap_drewN]; omega)) _ _) | (with_reducible refine Below.alloc ?_ (by first | exact Nat.le_refl _ | assumption | (simp only [World.size_alloc, World.size_setCell, size_ext, World.heap_drewN]; omega)) _) | (with_reducible refine Below.setCell ?_ (by first | exact Nat.le_refl _ | assumption | (simp only [World.size_alloc, World.size_setCell, size_ext, World.heap_drewN]; omega)) _)))) (RA2.out.below (by repeat (first | (with_reducible exact Below.refl _ _) | (with_reducible assumption) | (with_reducible refine below_drewN ?_ _) | (with_reducible refine Below.drew ?_) | (with_reducible refine below_ext_of ?_ (by first | exact Nat.le_refl _ | assumption | (simp only [World.size_alloc, World.size_setCell, size_ext, World.heap_drewN]; omega)) _ _) | (with_reducible refine Below.alloc ?_ (by first | exact Nat.le_refl _ | assumption | (simp only [World.size_alloc, World.size_setCell, size_ext, World.heap_drewN]; omega)) _) | (with_reducible refine Below.setCell ?_ (by first | exact Nat.le_refl _ | assumption | (simp only [World.size_alloc, World.size_setCell, size_ext, World.heap_drewN]; omega)) _)))) MA.out (by omega) rfl).mono ?_; rintro e wx ⟨rfl, hbx⟩; obtain ⟨Xx, dx, rfl⟩ := below_ext hbx; clear hbx; go_simp)
        refine hK.out _ _ ?hS50 (fun hHeld2 => ?go50)
        case hS50 =>
          (try dsimp only)
          try go_simp
        case go50 =>
        clear hK K
        clear hHeld
        have hHeld := hHeld2
        clear hHeld2
        (try simp only [Act.put, List.setIfInBounds_toArray, List.set_cons_zero, List.set_cons_succ])
        refine wpAnyH_ready (rs := [11]) (by kernel_rfl) (by simp) ?_
        refine AllReadyH.cons (o := ⟨_, _, _, _, _, _⟩) rfl (fun K hK => ?_) AllReadyH.nil
        go_simp
        (go_at_call 25; refine (number_is _ _ _ b1 b2 n _ (RB1.out.below (by repeat (first | (with_reducible exact Below.refl _ _) | (with_reducible assumption) | (with_reducible refine below_drewN ?_ _) | (with_reducible refine Below.drew ?_) | (with_reducible refine below_ext_of ?_ (by first | exact Nat.le_refl _ | assumption | (simp only [World.size_alloc, World.size_setCell, size_ext, World.heap_drewN]; omega)) _ _) | (with_reducible refine Below.alloc ?_ (by first | exact Nat.le_refl _ | assumption | (simp only [World.size_alloc, World.size_setCell, size_ext, World.heap_drewN]; omega)) _) | (with_reducible refine Below.setCell ?_ (by first | exact Nat.le_refl _ | assumption | (simp only [World.size_alloc, World.size_setCell, size_ext, World.heap_drewN]; omega)) _)))) (RB2.out.below (by repeat (first | (with_reducible exact Below.refl _ _) | (with_reducible assumption) | (with_reducible refine below_drewN ?_ _) | (with_reducible refine Below.drew ?_) | (with_reducible refine below_ext_of ?_ (by first | exact Nat.le_refl _ | assumption | (simp only [World.size_alloc, World.size_setCell, size_ext, World.heap_drewN]; omega)) _ _) | (with_reducible refine Below.alloc ?_ (by first | exact Nat.le_refl _ | assumption | (simp only [World.size_alloc, World.size_setCell, size_ext, World.heap_drewN]; omega)) _) | (with_reducible refine Below.setCell ?_ (by first | exact Nat.le_refl _ | assumption | (simp only [World.size_alloc, World.size_setCell, size_ext, World.heap_drewN]; omega)) _)))) MB.out (by omega) rfl).mono ?_; rintro e wx ⟨rfl, hbx⟩; obtain ⟨Xx, dx, rfl⟩ := below_ext hbx; clear hbx; go_simp)
        refine hK.out _ _ ?hS51 (fun hHeld2 => ?go51)
        case hS51 =>
          (try dsimp only)
          try go_simp
        case go51 =>
        clear hK K
        clear hHeld
        have hHeld := hHeld2
        clear hHeld2
        (try simp only [Act.put, List.setIfInBounds_toArray, List.set_cons_zero, List.set_cons_succ])
        refine' wpAnyH_take (i := 12) (oi := ⟨_, _, _, _, _, _⟩) (v := ?v52) rfl (by kernel_rfl) (by kernel_rfl) (by kernel_rfl) (fun _ _ _ h => h) (Or.inl ⟨by rfl, ?hy52⟩) (by assumption) ?rest52
        case hy52 =>
          intro w hSw
          (try dsimp only at hSw)
          go_simp
          try (with_reducible rfl)
        case rest52 =>
        (try simp only [Act.put, List.setIfInBounds_toArray, List.set_cons_zero, List.set_cons_succ])
        refine' wpAnyH_take (i := 13) (oi := ⟨_, _, _, _, _, _⟩) (v := ?v53) rfl (by kernel_rfl) (by kernel_rfl) (by kernel_rfl) (fun _ _ _ h => h) (Or.inl ⟨by rfl, ?hy53⟩) (by assumption) ?rest53
        case hy53 =>
          intro w hSw
          (try dsimp only at hSw)
          go_simp
          try (with_reducible rfl)
        case rest53 =>
        (try simp only [Act.put, List.setIfInBounds_toArray, List.set_cons_zero, List.set_cons_succ])
        refine' wpAnyH_take (i := 14) (oi := ⟨_, _, _, _, _, _⟩) (v := ?v54) rfl (by kernel_rfl) (by kernel_rfl) (by kernel_rfl) (fun _ _ _ h => h) (Or.inl ⟨by rfl, ?hy54⟩) (by assumption) ?rest54
        case hy54 =>
          intro w hSw
          (try dsimp only at hSw)
          go_simp
          try (with_reducible rfl)
        case rest54 =>
        (try simp only [Act.put, List.setIfInBounds_toArray, List.set_cons_zero, List.set_cons_succ])
        refine' wpAnyH_take (i := 15) (oi := ⟨_, _, _, _, _, _⟩) (v := ?v55) rfl (by kernel_rfl) (by kernel_rfl) (by kernel_rfl) (fun _ _ _ h => h) (Or.inl ⟨by rfl, ?hy55⟩) (by assumption) ?rest55
        case hy55 =>
          intro w hSw
          (try dsimp only at hSw)
          go_simp
          try (with_reducible rfl)
        case rest55 =>
        (try simp only [Act.put, List.setIfInBounds_toArray, List.set_cons_zero, List.set_cons_succ])
        refine wpAnyH_ready (rs := [16]) (by kernel_rfl) (by simp) ?_
        refine AllReadyH.cons (o := ⟨_, _, _, _, _, _⟩) rfl (fun K hK => ?_) AllReadyH.nil
        go_simp
        (go_at_call 27; refine (short_true _ _ _ x7 y7 (RX1.out.below (by repeat (first | (with_reducible exact Below.refl _ _) | (with_reducible assumption) | (with_reducible refine below_drewN ?_ _) | (with_reducible refine Below.drew ?_) | (with_reducible refine below_ext_of ?_ (by first | exact Nat.le_refl _ | assumption | (simp only [World.size_alloc, World.size_setCell, size_ext, World.heap_drewN]; omega)) _ _) | (with_reducible refine Below.alloc ?_ (by first | exact Nat.le_refl _ | assumption | (simp only [World.size_alloc, World.size_setCell, size_ext, World.heap_drewN]; omega)) _) | (with_reducible refine Below.setCell ?_ (by first | exact Nat.le_refl _ | assumption | (simp only [World.size_alloc, World.size_setCell, size_ext, World.heap_drewN]; omega)) _)))) (RX2.out.below (by repeat (first | (with_reducible exact Below.refl _ _) | (with_reducible assumption) | (with_reducible refine below_drewN ?_ _) | (with_reducible refine Below.drew ?_) | (with_reducible refine below_ext_of ?_ (by first | exact Nat.le_refl _ | assumption | (simp only [World.size_alloc, World.size_setCell, size_ext, World.heap_drewN]; omega)) _ _) | (with_reducible refine Below.alloc ?_ (by first | exact Nat.le_refl _ | assumption | (simp only [World.size_alloc, World.size_setCell, size_ext, World.heap_drewN]; omega)) _) | (with_reducible refine Below.setCell ?_ (by first | exact Nat.le_refl _ | assumption | (simp only [World.size_alloc, World.size_setCell, size_ext, World.heap_drewN]; omega)) _)))) (norm_of_is H7.out.is H7.out.hl H7.out.ll)).mono ?_; rintro e wx ⟨rfl, hbx⟩; obtain ⟨Xx, dx, rfl⟩ := below_ext hbx; clear hbx; go_simp)
        refine hK.out _ _ ?hS56 (fun hHeld2 => ?go56)
        case hS56 =>
          (try dsimp only)
          try go_simp
        case go56 =>
        clear hK K
        clear hHeld
        have hHeld := hHeld2
        clear hHeld2
        (try simp only [Act.put, List.setIfInBounds_toArray, List.set_cons_zero, List.set_cons_succ])
        refine' wpAnyH_take (i := 17) (oi := ⟨_, _, _, _, _, _⟩) (v := ?v57) rfl (by kernel_rfl) (by kernel_rfl) (by kernel_rfl) (fun _ _ _ h => h) (Or.inl ⟨by rfl, ?hy57⟩) (by assumption) ?rest57
        case hy57 =>
          intro w hSw
          (try dsimp only at hSw)
          go_simp
          try (with_reducible rfl)
        case rest57 =>
        (try simp only [Act.put, List.setIfInBounds_toArray, List.set_cons_zero, List.set_cons_succ])
        refine' wpAnyH_take (i := 18) (oi := ⟨_, _, _, _, _, _⟩) (v := ?v58) rfl (by kernel_rfl) (by kernel_rfl) (by kernel_rfl) (fun _ _ _ h => h) (Or.inl ⟨by rfl, ?hy58⟩) (by assumption) ?rest58
        case hy58 =>
          intro w hSw
          (try dsimp only at hSw)
          go_simp
          try (with_reducible rfl)
        case rest58 =>
        (try simp only [Act.put, List.setIfInBounds_toArray, List.set_cons_zero, List.set_cons_succ])
        refine' wpAnyH_take (i := 19) (oi := ⟨_, _, _, _, _, _⟩) (v := ?v59) rfl (by kernel_rfl) (by kernel_rfl) (by kernel_rfl) (fun _ _ _ h => h) (Or.inl ⟨by rfl, ?hy59⟩) (by assumption) ?rest59
        case hy59 =>
          intro w hSw
          (try dsimp only at hSw)
          go_simp
          try (with_reducible rfl)
        case rest59 =>
        (try simp only [Act.put, List.setIfInBounds_toArray, List.set_cons_zero, List.set_cons_succ])
        refine' wpAnyH_take (i := 20) (oi := ⟨_, _, _, _, _, _⟩) (v := ?v60) rfl (by kernel_rfl) (by kernel_rfl) (by kernel_rfl) (fun _ _ _ h => h) (Or.inl ⟨by rfl, ?hy60⟩) (by assumption) ?rest60
        case hy60 =>
          intro w hSw
          (try dsimp only at hSw)
          go_simp
          try (with_reducible rfl)
        case rest60 =>
        (try simp only [Act.put, List.setIfInBounds_toArray, List.set_cons_zero, List.set_cons_succ])
        refine' wpAnyH_take (i := 21) (oi := ⟨_, _, _, _, _, _⟩) (v := ?v61) rfl (by kernel_rfl) (by kernel_rfl) (by kernel_rfl) (fun _ _ _ h => h) (Or.inl ⟨by rfl, ?hy61⟩) (by assumption) ?rest61
        case hy61 =>
          intro w hSw
          (try dsimp only at hSw)
          go_simp
          try (with_reducible rfl)
        case rest61 =>
        (try simp only [Act.put, List.setIfInBounds_toArray, List.set_cons_zero, List.set_cons_succ])
        refine' wpAnyH_take (i := 22) (oi := ⟨_, _, _, _, _, _⟩) (v := ?v62) rfl (by kernel_rfl) (by kernel_rfl) (by kernel_rfl) (fun _ _ _ h => h) (Or.inl ⟨by rfl, ?hy62⟩) (by assumption) ?rest62
        case hy62 =>
          intro w hSw
          (try dsimp only at hSw)
          go_simp
          try (with_reducible rfl)
        case rest62 =>
        (try simp only [Act.put, List.setIfInBounds_toArray, List.set_cons_zero, List.set_cons_succ])
        refine' wpAnyH_take (i := 23) (oi := ⟨_, _, _, _, _, _⟩) (v := ?v63) rfl (by kernel_rfl) (by kernel_rfl) (by kernel_rfl) (fun _ _ _ h => h) (Or.inl ⟨by rfl, ?hy63⟩) (by assumption) ?rest63
        case hy63 =>
          intro w hSw
          (try dsimp only at hSw)
          go_simp
          try (with_reducible rfl)
        case rest63 =>
        (try simp only [Act.put, List.setIfInBounds_toArray, List.set_cons_zero, List.set_cons_succ])
        refine' wpAnyH_take (i := 24) (oi := ⟨_, _, _, _, _, _⟩) (v := undef) rfl (by kernel_rfl) (by kernel_rfl) (by kernel_rfl) (fun _ _ _ h => h) (Or.inr ⟨by rfl, rfl⟩) (by assumption) ?rest64
        case rest64 =>
        (try simp only [Act.put, List.setIfInBounds_toArray, List.set_cons_zero, List.set_cons_succ])
        refine' wpAnyH_take (i := 25) (oi := ⟨_, _, _, _, _, _⟩) (v := undef) rfl (by kernel_rfl) (by kernel_rfl) (by kernel_rfl) (fun _ _ _ h => h) (Or.inr ⟨by rfl, rfl⟩) (by assumption) ?rest65
        case rest65 =>
        (try simp only [Act.put, List.setIfInBounds_toArray, List.set_cons_zero, List.set_cons_succ])
        refine' wpAnyH_take (i := 26) (oi := ⟨_, _, _, _, _, _⟩) (v := undef) rfl (by kernel_rfl) (by kernel_rfl) (by kernel_rfl) (fun _ _ _ h => h) (Or.inr ⟨by rfl, rfl⟩) (by assumption) ?rest66
        case rest66 =>
        (try simp only [Act.put, List.setIfInBounds_toArray, List.set_cons_zero, List.set_cons_succ])
        refine' wpAnyH_take (i := 27) (oi := ⟨_, _, _, _, _, _⟩) (v := undef) rfl (by kernel_rfl) (by kernel_rfl) (by kernel_rfl) (fun _ _ _ h => h) (Or.inr ⟨by rfl, rfl⟩) (by assumption) ?rest67
        case rest67 =>
        (try simp only [Act.put, List.setIfInBounds_toArray, List.set_cons_zero, List.set_cons_succ])
        refine' wpAnyH_take (i := 28) (oi := ⟨_, _, _, _, _, _⟩) (v := undef) rfl (by kernel_rfl) (by kernel_rfl) (by kernel_rfl) (fun _ _ _ h => h) (Or.inr ⟨by rfl, rfl⟩) (by assumption) ?rest68
        case rest68 =>
        (try simp only [Act.put, List.setIfInBounds_toArray, List.set_cons_zero, List.set_cons_succ])
        refine' wpAnyH_take (i := 29) (oi := ⟨_, _, _, _, _, _⟩) (v := undef) rfl (by kernel_rfl) (by kernel_rfl) (by kernel_rfl) (fun _ _ _ h => h) (Or.inr ⟨by rfl, rfl⟩) (by assumption) ?rest69
        case rest69 =>
        (try simp only [Act.put, List.setIfInBounds_toArray, List.set_cons_zero, List.set_cons_succ])
        refine' wpAnyH_take (i := 30) (oi := ⟨_, _, _, _, _, _⟩) (v := undef) rfl (by kernel_rfl) (by kernel_rfl) (by kernel_rfl) (fun _ _ _ h => h) (Or.inr ⟨by rfl, rfl⟩) (by assumption) ?rest70
        case rest70 =>
        (try simp only [Act.put, List.setIfInBounds_toArray, List.set_cons_zero, List.set_cons_succ])
        refine' wpAnyH_take (i := 31) (oi := ⟨_, _, _, _, _, _⟩) (v := undef) rfl (by kernel_rfl) (by kernel_rfl) (by kernel_rfl) (fun _ _ _ h => h) (Or.inr ⟨by rfl, rfl⟩) (by assumption) ?rest71
        case rest71 =>
        (try simp only [Act.put, List.setIfInBounds_toArray, List.set_cons_zero, List.set_cons_succ])
        refine' wpAnyH_take (i := 32) (oi := ⟨_, _, _, _, _, _⟩) (v := undef) rfl (by kernel_rfl) (by kernel_rfl) (by kernel_rfl) (fun _ _ _ h => h) (Or.inr ⟨by rfl, rfl⟩) (by assumption) ?rest72
        case rest72 =>
        (try simp only [Act.put, List.setIfInBounds_toArray, List.set_cons_zero, List.set_cons_succ])
        refine' wpAnyH_take (i := 33) (oi := ⟨_, _, _, _, _, _⟩) (v := undef) rfl (by kernel_rfl) (by kernel_rfl) (by kernel_rfl) (fun _ _ _ h => h) (Or.inr ⟨by rfl, rfl⟩) (by assumption) ?rest73
        case rest73 =>
        (try simp only [Act.put, List.setIfInBounds_toArray, List.set_cons_zero, List.set_cons_succ])
        refine' wpAnyH_take (i := 34) (oi := ⟨_, _, _, _, _, _⟩) (v := undef) rfl (by kernel_rfl) (by kernel_rfl) (by kernel_rfl) (fun _ _ _ h => h) (Or.inr ⟨by rfl, rfl⟩) (by assumption) ?rest74
        case rest74 =>
        (try simp only [Act.put, List.setIfInBounds_toArray, List.set_cons_zero, List.set_cons_succ])
        refine' wpAnyH_take (i := 35) (oi := ⟨_, _, _, _, _, _⟩) (v := ?v75) rfl (by kernel_rfl) (by kernel_rfl) (by kernel_rfl) (fun _ _ _ h => h) (Or.inl ⟨by rfl, ?hy75⟩) (by assumption) ?rest75
        case hy75 =>
          intro w hSw
          (try dsimp only at hSw)
          go_simp
          try (with_reducible rfl)
        case rest75 =>
        (try simp only [Act.put, List.setIfInBounds_toArray, List.set_cons_zero, List.set_cons_succ])
        refine' wpAnyH_take (i := 36) (oi := ⟨_, _, _, _, _, _⟩) (v := ?v76) rfl (by kernel_rfl) (by kernel_rfl) (by kernel_rfl) (fun _ _ _ h => h) (Or.inl ⟨by rfl, ?hy76⟩) (by assumption) ?rest76
        case hy76 =>
          intro w hSw
          (try dsimp only at hSw)
          go_simp
          try (with_reducible rfl)
        case rest76 =>
        (try simp only [Act.put, List.setIfInBounds_toArray, List.set_cons_zero, List.set_cons_succ])
        refine wpAnyH_done (by kernel_rfl) ?_ _
        go_wp2_with fail
        go_meet
        case rel => exact ⟨rfl, _, rfl, HBR.out.trans (Below.mono (by repeat (first | (with_reducible exact Below.refl _ _) | (with_reducible assumption) | (with_reducible refine below_drewN ?_ _) | (with_reducible refine Below.drew ?_) | (with_reducible refine below_ext_of ?_ (by first | exact Nat.le_refl _ | assumption | (simp only [World.size_alloc, World.size_setCell, size_ext, World.heap_drewN]; omega)) _ _) | (with_reducible refine Below.alloc ?_ (by first | exact Nat.le_refl _ | assumption | (simp only [World.size_alloc, World.size_setCell, size_ext, World.heap_drewN]; omega)) _) | (with_reducible refine Below.setCell ?_ (by first | exact Nat.le_refl _ | assumption | (simp only [World.size_alloc, World.size_setCell, size_ext, World.heap_drewN]; omega)) _))) HBR.out.size)⟩
    · have e7a : (E7 != 0) = true := bne_iff_ne.2 hE7
      have e7b : (E7 == 0) = false := beq_false_of_ne hE7
      clear hE7
      by_cases hE8 : E8 = 0
      · subst hE8
        obtain ⟨_, _, z8, _⟩ := zipF_ok (op := 4) (a := b1) (b := b2) (c := a1) (d := a2) (by rw [HZ8.out])
        rw [HZ8.out] at z8
        have H8 := Lib.hid z8
        have N8 := Lib.hid (may_of_is z8.is z8.hl z8.ll)
        have HQ8 := Lib.hid (show num x8 y8 n = mxI (num a1 a2 n) (num b1 b2 n) by rw [z8.is.num]; show mxI (num b1 b2 n) (num a1 a2 n) = _; exact mx_comm _ _)
        clear z8
        refine wp_region_held_drew (S := (fun W' => W'.cell? ⟨Ba, 0, none⟩ = some (.slice pa1 a1.length ca1) ∧ W'.cell? ⟨Ba, 1, none⟩ = some (.slice pa2 a2.length ca2) ∧ W'.cell? ⟨Bb, 0, none⟩ = some (.slice pb1 b1.length cb1) ∧ W'.cell? ⟨Bb, 1, none⟩ = some (.slice pb2 b2.length cb2) ∧ W'.cell? ⟨Bx, 0, none⟩ = some (.slice p7 x7.length s7) ∧ W'.cell? ⟨Bx, 1, none⟩ = some (.slice q7 y7.length t7) ∧ W'.cell? ⟨By, 0, none⟩ = some (.slice p8 x8.length s8) ∧ W'.cell? ⟨By, 1, none⟩ = some (.slice q8 y8.length t8))) (by kernel_rfl) ?hS77 (fun hHeld => ?go77)
        case hS77 =>
          (try dsimp only)
          try go_simp
        case go77 =>
        refine' wpAnyH_take (i := 0) (oi := ⟨_, _, _, _, _, _⟩) (v := ?v78) rfl (by kernel_rfl) (by kernel_rfl) (by kernel_rfl) (fun _ _ _ h => h) (Or.inl ⟨by rfl, ?hy78⟩) (by assumption) ?rest78
        case hy78 =>
          intro w hSw
          (try dsimp only at hSw)
          go_simp
          try (with_reducible rfl)
        case rest78 =>
        (try simp only [Act.put, List.setIfInBounds_toArray, List.set_cons_zero, List.set_cons_succ])
        refine' wpAnyH_take (i := 1) (oi := ⟨_, _, _, _, _, _⟩) (v := ?v79) rfl (by kernel_rfl) (by kernel_rfl) (by kernel_rfl) (fun _ _ _ h => h) (Or.inl ⟨by rfl, ?hy79⟩) (by assumption) ?rest79
        case hy79 =>
          intro w hSw
          (try dsimp only at hSw)
          go_simp
          try (with_reducible rfl)
        case rest79 =>
        (try simp only [Act.put, List.setIfInBounds_toArray, List.set_cons_zero, List.set_cons_succ])
        refine' wpAnyH_take (i := 2) (oi := ⟨_, _, _, _, _, _⟩) (v := ?v80) rfl (by kernel_rfl) (by kernel_rfl) (by kernel_rfl) (fun _ _ _ h => h) (Or.inl ⟨by rfl, ?hy80⟩) (by assumption) ?rest80
        case hy80 =>
          intro w hSw
          (try dsimp only at hSw)
          go_simp
          try (with_reducible rfl)
        case rest80 =>
        (try simp only [Act.put, List.setIfInBounds_toArray, List.set_cons_zero, List.set_cons_succ])
        refine' wpAnyH_take (i := 3) (oi := ⟨_, _, _, _, _, _⟩) (v := undef) rfl (by kernel_rfl) (by kernel_rfl) (by kernel_rfl) (fun _ _ _ h => h) (Or.inr ⟨by rfl, rfl⟩) (by assumption) ?rest81
        case rest81 =>
        (try simp only [Act.put, List.setIfInBounds_toArray, List.set_cons_zero, List.set_cons_succ])
        refine' wpAnyH_take (i := 4) (oi := ⟨_, _, _, _, _, _⟩) (v := undef) rfl (by kernel_rfl) (by kernel_rfl) (by kernel_rfl) (fun _ _ _ h => h) (Or.inr ⟨by rfl, rfl⟩) (by assumption) ?rest82
        case rest82 =>
        (try simp only [Act.put, List.setIfInBounds_toArray, List.set_cons_zero, List.set_cons_succ])
        refine' wpAnyH_take (i := 5) (oi := ⟨_, _, _, _, _, _⟩) (v := undef) rfl (by kernel_rfl) (by kernel_rfl) (by kernel_rfl) (fun _ _ _ h => h) (Or.inr ⟨by rfl, rfl⟩) (by assumption) ?rest83
        case rest83 =>
        (try simp only [Act.put, List.setIfInBounds_toArray, List.set_cons_zero, List.set_cons_succ])
        refine' wpAnyH_take (i := 6) (oi := ⟨_, _, _, _, _, _⟩) (v := undef) rfl (by kernel_rfl) (by kernel_rfl) (by kernel_rfl) (fun _ _ _ h => h) (Or.inr ⟨by rfl, rfl⟩) (by assumption) ?rest84
        case rest84 =>
        (try simp only [Act.put, List.setIfInBounds_toArray, List.set_cons_zero, List.set_cons_succ])
        refine' wpAnyH_take (i := 7) (oi := ⟨_, _, _, _, _, _⟩) (v := undef) rfl (by kernel_rfl) (by kernel_rfl) (by kernel_rfl) (fun _ _ _ h => h) (Or.inr ⟨by rfl, rfl⟩) (by assumption) ?rest85
        case rest85 =>
        (try simp only [Act.put, List.setIfInBounds_toArray, List.set_cons_zero, List.set_cons_succ])
        refine' wpAnyH_take (i := 8) (oi := ⟨_, _, _, _, _, _⟩) (v := undef) rfl (by kernel_rfl) (by kernel_rfl) (by kernel_rfl) (fun _ _ _ h => h) (Or.inr ⟨by rfl, rfl⟩) (by assumption) ?rest86
        case rest86 =>
        (try simp only [Act.put, List.setIfInBounds_toArray, List.set_cons_zero, List.set_cons_succ])
        refine' wpAnyH_take (i := 9) (oi := ⟨_, _, _, _, _, _⟩) (v := undef) rfl (by kernel_rfl) (by kernel_rfl) (by kernel_rfl) (fun _ _ _ h => h) (Or.inr ⟨by rfl, rfl⟩) (by assumption) ?rest87
        case rest87 =>
        (try simp only [Act.put, List.setIfInBounds_toArray, List.set_cons_zero, List.set_cons_succ])
        refine' wpAnyH_take (i := 10) (oi := ⟨_, _, _, _, _, _⟩) (v := undef) rfl (by kernel_rfl) (by kernel_rfl) (by kernel_rfl) (fun _ _ _ h => h) (Or.inr ⟨by rfl, rfl⟩) (by assumption) ?rest88
        case rest88 =>
        (try simp only [Act.put, List.setIfInBounds_toArray, List.set_cons_zero, List.set_cons_succ])
        refine' wpAnyH_take (i := 11) (oi := ⟨_, _, _, _, _, _⟩) (v := undef) rfl (by kernel_rfl) (by kernel_rfl) (by kernel_rfl) (fun _ _ _ h => h) (Or.inr ⟨by rfl, rfl⟩) (by assumption) ?rest89
        case rest89 =>
        (try simp only [Act.put, List.setIfInBounds_toArray, List.set_cons_zero, List.set_cons_succ])
        refine' wpAnyH_take (i := 12) (oi := ⟨_, _, _, _, _, _⟩) (v := undef) rfl (by kernel_rfl) (by kernel_rfl) (by kernel_rfl) (fun _ _ _ h => h) (Or.inr ⟨by rfl, rfl⟩) (by assumption) ?rest90
        case rest90 =>
        (try simp only [Act.put, List.setIfInBounds_toArray, List.set_cons_zero, List.set_cons_succ])
        refine' wpAnyH_take (i := 13) (oi := ⟨_, _, _, _, _, _⟩) (v := undef) rfl (by kernel_rfl) (by kernel_rfl) (by kernel_rfl) (fun _ _ _ h => h) (Or.inr ⟨by rfl, rfl⟩) (by assumption) ?rest91
        case rest91 =>
        (try simp only [Act.put, List.setIfInBounds_toArray, List.set_cons_zero, List.set_cons_succ])
        refine' wpAnyH_take (i := 14) (oi := ⟨_, _, _, _, _, _⟩) (v := undef) rfl (by kernel_rfl) (by kernel_rfl) (by kernel_rfl) (fun _ _ _ h => h) (Or.inr ⟨by rfl, rfl⟩) (by assumption) ?rest92
        case rest92 =>
        (try simp only [Act.put, List.setIfInBounds_toArray, List.set_cons_zero, List.set_cons_succ])
        refine' wpAnyH_take (i := 15) (oi := ⟨_, _, _, _, _, _⟩) (v := undef) rfl (by kernel_rfl) (by kernel_rfl) (by kernel_rfl) (fun _ _ _ h => h) (Or.inr ⟨by rfl, rfl⟩) (by assumption) ?rest93
        case rest93 =>
        (try simp only [Act.put, List.setIfInBounds_toArray, List.set_cons_zero, List.set_cons_succ])
        refine' wpAnyH_take (i := 16) (oi := ⟨_, _, _, _, _, _⟩) (v := undef) rfl (by kernel_rfl) (by kernel_rfl) (by kernel_rfl) (fun _ _ _ h => h) (Or.inr ⟨by rfl, rfl⟩) (by assumption) ?rest94
        case rest94 =>
        (try simp only [Act.put, List.setIfInBounds_toArray, List.set_cons_zero, List.set_cons_succ])
        refine' wpAnyH_take (i := 17) (oi := ⟨_, _, _, _, _, _⟩) (v := undef) rfl (by kernel_rfl) (by kernel_rfl) (by kernel_rfl) (fun _ _ _ h => h) (Or.inr ⟨by rfl, rfl⟩) (by assumption) ?rest95
        case rest95 =>
        (try simp only [Act.put, List.setIfInBounds_toArray, List.set_cons_zero, List.set_cons_succ])
        refine' wpAnyH_take (i := 18) (oi := ⟨_, _, _, _, _, _⟩) (v := undef) rfl (by kernel_rfl) (by kernel_rfl) (by kernel_rfl) (fun _ _ _ h => h) (Or.inr ⟨by rfl, rfl⟩) (by assumption) ?rest96
        case rest96 =>
        (try simp only [Act.put, List.setIfInBounds_toArray, List.set_cons_zero, List.set_cons_succ])
        refine' wpAnyH_take (i := 19) (oi := ⟨_, _, _, _, _, _⟩) (v := ?v97) rfl (by kernel_rfl) (by kernel_rfl) (by kernel_rfl) (fun _ _ _ h => h) (Or.inl ⟨by rfl, ?hy97⟩) (by assumption) ?rest97
        case hy97 =>
          intro w hSw
          (try dsimp only at hSw)
          go_simp
          try (with_reducible rfl)
        case rest97 =>
        (try simp only [Act.put, List.setIfInBounds_toArray, List.set_cons_zero, List.set_cons_succ])
        refine' wpAnyH_take (i := 20) (oi := ⟨_, _, _, _, _, _⟩) (v := ?v98) rfl (by kernel_rfl) (by kernel_rfl) (by kernel_rfl) (fun _ _ _ h => h) (Or.inl ⟨by rfl, ?hy98⟩) (by assumption) ?rest98
        case hy98 =>
          intro w hSw
          (try dsimp only at hSw)
          go_simp
          try (with_reducible rfl)
        case rest98 =>
        (try simp only [Act.put, List.setIfInBounds_toArray, List.set_cons_zero, List.set_cons_succ])
        refine' wpAnyH_take (i := 21) (oi := ⟨_, _, _, _, _, _⟩) (v := ?v99) rfl (by kernel_rfl) (by kernel_rfl) (by kernel_rfl) (fun _ _ _ h => h) (Or.inl ⟨by rfl, ?hy99⟩) (by assumption) ?rest99
        case hy99 =>
          intro w hSw
          (try dsimp only at hSw)
          go_simp
          try (with_reducible rfl)
        case rest99 =>
        (try simp only [Act.put, List.setIfInBounds_toArray, List.set_cons_zero, List.set_cons_succ])
        refine' wpAnyH_take (i := 22) (oi := ⟨_, _, _, _, _, _⟩) (v := ?v100) rfl (by kernel_rfl) (by kernel_rfl) (by kernel_rfl) (fun _ _ _ h => h) (Or.inl ⟨by rfl, ?hy100⟩) (by assumption) ?rest100
        case hy100 =>
          intro w hSw
          (try dsimp only at hSw)
          go_simp
          try (with_reducible rfl)
        case rest100 =>
        (try simp only [Act.put, List.setIfInBounds_toArray, List.set_cons_zero, List.set_cons_succ])
        refine' wpAnyH_take (i := 23) (oi := ⟨_, _, _, _, _, _⟩) (v := ?v101) rfl (by kernel_rfl) (by kernel_rfl) (by kernel_rfl) (fun _ _ _ h => h) (Or.inl ⟨by rfl, ?hy101⟩) (by assumption) ?rest101
        case hy101 =>
          intro w hSw
          (try dsimp only at hSw)
          go_simp
          try (with_reducible rfl)
        case rest101 =>
        (try simp only [Act.put, List.setIfInBounds_toArray, List.set_cons_zero, List.set_cons_succ])
        refine' wpAnyH_take (i := 24) (oi := ⟨_, _, _, _, _, _⟩) (v := ?v102) rfl (by kernel_rfl) (by kernel_rfl) (by kernel_rfl) (fun _ _ _ h => h) (Or.inl ⟨by rfl, ?hy102⟩) (by assumption) ?rest102
        case hy102 =>
          intro w hSw
          (try dsimp only at hSw)
          go_simp
          try (with_reducible rfl)
        case rest102 =>
        (try simp only [Act.put, List.setIfInBounds_toArray, List.set_cons_zero, List.set_cons_succ])
        refine' wpAnyH_take (i := 25) (oi := ⟨_, _, _, _, _, _⟩) (v := ?v103) rfl (by kernel_rfl) (by kernel_rfl) (by kernel_rfl) (fun _ _ _ h => h) (Or.inl ⟨by rfl, ?hy103⟩) (by assumption) ?rest103
        case hy103 =>
          intro w hSw
          (try dsimp only at hSw)
          go_simp
          try (with_reducible rfl)
        case rest103 =>
        (try simp only [Act.put, List.setIfInBounds_toArray, List.set_cons_zero, List.set_cons_succ])
        refine' wpAnyH_take (i := 27) (oi := ⟨_, _, _, _, _, _⟩) (v := ?v104) rfl (by kernel_rfl) (by kernel_rfl) (by kernel_rfl) (fun _ _ _ h => h) (Or.inl ⟨by rfl, ?hy104⟩) (by assumption) ?rest104
        case hy104 =>
          intro w hSw
          (try dsimp only at hSw)
          go_simp
          try (with_reducible rfl)
        case rest104 =>
        (try simp only [Act.put, List.setIfInBounds_toArray, List.set_cons_zero, List.set_cons_succ])
        refine' wpAnyH_take (i := 28) (oi := ⟨_, _, _, _, _, _⟩) (v := ?v105) rfl (by kernel_rfl) (by kernel_rfl) (by kernel_rfl) (fun _ _ _ h => h) (Or.inl ⟨by rfl, ?hy105⟩) (by assumption) ?rest105
        case hy105 =>
          intro w hSw
          (try dsimp only at hSw)
          go_simp
          try (with_reducible rfl)
        case rest105 =>
        (try simp only [Act.put, List.setIfInBounds_toArray, List.set_cons_zero, List.set_cons_succ])
        refine' wpAnyH_take (i := 30) (oi := ⟨_, _, _, _, _, _⟩) (v := ?v106) rfl (by kernel_rfl) (by kernel_rfl) (by kernel_rfl) (fun _ _ _ h => h) (Or.inl ⟨by rfl, ?hy106⟩) (by assumption) ?rest106
        case hy106 =>
          intro w hSw
          (try dsimp only at hSw)
          go_simp
          try (with_reducible rfl)
        case rest106 =>
        (try simp only [Act.put, List.setIfInBounds_toArray, List.set_cons_zero, List.set_cons_succ])
        refine' wpAnyH_take (i := 31) (oi := ⟨_, _, _, _, _, _⟩) (v := ?v107) rfl (by kernel_rfl) (by kernel_rfl) (by kernel_rfl) (fun _ _ _ h => h) (Or.inl ⟨by rfl, ?hy107⟩) (by assumption) ?rest107
        case hy107 =>
          intro w hSw
          (try dsimp only at hSw)
          go_simp
          try (with_reducible rfl)
        case rest107 =>
        (try simp only [Act.put, List.setIfInBounds_toArray, List.set_cons_zero, List.set_cons_succ])
        refine wpAnyH_ready (rs := [26]) (by kernel_rfl) (by simp) ?_
        refine AllReadyH.cons (o := ⟨_, _, _, _, _, _⟩) rfl (fun K hK => ?_) AllReadyH.nil
        go_simp
        (go_at_call 25; refine (number_is _ _ _ x8 y8 n _ (RY1.out.below (by repeat (first | (with_reducible exact Below.refl _ _) | (with_reducible assumption) | (with_reducible refine below_drewN ?_ _) | (with_reducible refine Below.drew ?_) | (with_reducible refine below_ext_of ?_ (by first | exact Nat.le_refl _ | assumption | (simp only [World.size_alloc, World.size_setCell, size_ext, World.heap_drewN]; omega)) _ _) | (with_reducible refine Below.alloc ?_ (by first | exact Nat.le_refl _ | assumption | (simp only [World.size_alloc, World.size_setCell, size_ext, World.heap_drewN]; omega)) _) | (with_reducible refine Below.setCell ?_ (by first | exact Nat.le_refl _ | assumption | (simp only [World.size_alloc, World.size_setCell, size_ext, World.heap_drewN]; omega)) _)))) (RY2.out.below (by repeat (first | (with_reducible exact Below.refl _ _) | (with_reducible assumption) | (with_reducible refine below_drewN ?_ _) | (with_reducible refine Below.drew ?_) | (with_reducible refine below_ext_of ?_ (by first | exact Nat.le_refl _ | assumption | (simp only [World.size_alloc, World.size_setCell, size_ext, World.heap_drewN]; omega)) _ _) | (with_reducible refine Below.alloc ?_ (by first | exact Nat.le_refl _ | assumption | (simp only [World.size_alloc, World.size_setCell, size_ext, World.heap_drewN]; omega)) _) | (with_reducible refine Below.setCell ?_ (by first | exact Nat.le_refl _ | assumption | (simp only [World.size_alloc, World.size_setCell, size_ext, World.heap_drewN]; omega)) _)))) N8.out (by omega) HQ8.out).mono ?_; rintro e wx ⟨rfl, hbx⟩; obtain ⟨Xx, dx, rfl⟩ := below_ext hbx; clear hbx; go_simp)
        refine hK.out _ _ ?hS108 (fun hHeld2 => ?go108)
        case hS108 =>
          (try dsimp only)
          try go_simp
        case go108 =>
        clear hK K
        clear hHeld
        have hHeld := hHeld2
        clear hHeld2
        (try simp only [Act.put, List.setIfInBounds_toArray, List.set_cons_zero, List.set_cons_succ])
        refine wpAnyH_ready (rs := [29]) (by kernel_rfl) (by simp) ?_
        refine AllReadyH.cons (o := ⟨_, _, _, _, _, _⟩) rfl (fun K hK => ?_) AllReadyH.nil
        go_simp
        (go_at_call 25; refine (number_is _ _ _ a1 a2 n _ (RA1.out.below (by repeat (first | (with_reducible exact Below.refl _ _) | (with_reducible assumption) | (with_reducible refine below_drewN ?_ _) | (with_reducible refine Below.drew ?_) | (with_reducible refine below_ext_of ?_ (by first | exact Nat.le_refl _ | assumption | (simp only [World.size_alloc, World.size_setCell, size_ext, World.heap_drewN]; omega)) _ _) | (with_reducible refine Below.alloc ?_ (by first | exact Nat.le_refl _ | assumption | (simp only [World.size_alloc, World.size_setCell, size_ext, World.heap_drewN]; omega)) _) | (with_reducible refine Below.setCell ?_ (by first | exact Nat.le_refl _ | assumption | (simp only [World.size_alloc, World.size_setCell, size_ext, World.heap_drewN]; omega)) _)))) (RA2.out.below (by repeat (first | (with_reducible exact Below.refl _ _) | (with_reducible assumption) | (with_reducible refine below_drewN ?_ _) | (with_reducible refine Below.drew ?_) | (with_reducible refine below_ext_of ?_ (by first | exact Nat.le_refl _ | assumption | (simp only [World.size_alloc, World.size_setCell, size_ext, World.heap_drewN]; omega)) _ _) | (with_reducible refine Below.alloc ?_ (by first | exact Nat.le_refl _ | assumption | (simp only [World.size_alloc, World.size_setCell, size_ext, World.heap_drewN]; omega)) _) | (with_reducible refine Below.setCell ?_ (by first | exact Nat.le_refl _ | assumption | (simp only [World.size_alloc, World.size_setCell, size_ext, World.heap_drewN]; omega)) _)))) MA.out (by omega) rfl).mono ?_; rintro e wx ⟨rfl, hbx⟩; obtain ⟨Xx, dx, rfl⟩ := below_ext hbx; clear hbx; go_simp)
        refine hK.out _ _ ?hS109 (fun hHeld2 => ?go109)
        case hS109 =>
          (try dsimp only)
          try go_simp
        case go109 =>
        clear hK K
        clear hHeld
        have hHeld := hHeld2
        clear hHeld2
        (try simp only [Act.put, List.setIfInBounds_toArray, List.set_cons_zero, List.set_cons_succ])
        refine wpAnyH_ready (rs := [32]) (by kernel_rfl) (by simp) ?_
        refine AllReadyH.cons (o := ⟨_, _, _, _, _, _⟩) rfl (fun K hK => ?_) AllReadyH.nil
        go_simp
        (go_at_call 25; refine (number_is _ _ _ b1 b2 n _ (RB1.out.below (by repeat (first | (with_reducible exact Below.refl _ _) | (with_reducible assumption) | (with_reducible refine below_drewN ?_ _) | (with_reducible refine Below.drew ?_) | (with_reducible refine below_ext_of ?_ (by first | exact Nat.le_refl _ | assumption | (simp only [World.size_alloc, World.size_setCell, size_ext, World.heap_drewN]; omega)) _ _) | (with_reducible refine Below.alloc ?_ (by first | exact Nat.le_refl _ | assumption | (simp only [World.size_alloc, World.size_setCell, size_ext, World.heap_drewN]; omega)) _) | (with_reducible refine Below.setCell ?_ (by first | exact Nat.le_refl _ | assumption | (simp only [World.size_alloc, World.size_setCell, size_ext, World.heap_drewN]; omega)) _)))) (RB2.out.below (by repeat (first | (with_reducible exact Below.refl _ _) | (with_reducible assumption) | (with_reducible refine below_drewN ?_ _) | (with_reducible refine Below.drew ?_) | (with_reducible refine below_ext_of ?_ (by first | exact Nat.le_refl _ | assumption | (simp only [World.size_alloc, World.size_setCell, size_ext, World.heap_drewN]; omega)) _ _) | (with_reducible refine Below.alloc ?_ (by first | exact Nat.le_refl _ | assumption | (simp only [World.size_alloc, World.size_setCell, size_ext, World.heap_drewN]; omega)) _) | (with_reducible refine Below.setCell ?_ (by first | exact Nat.le_refl _ | assumption | (simp only [World.size_alloc, World.size_setCell, size_ext, World.heap_drewN]; omega)) _)))) MB.out (by omega) rfl).mono ?_; rintro e wx ⟨rfl, hbx⟩; obtain ⟨Xx, dx, rfl⟩ := below_ext hbx; clear hbx; go_simp)
        refine hK.out _ _ ?hS110 (fun hHeld2 => ?go110)
        case hS110 =>
          (try dsimp only)
          try go_simp
        case go110 =>
        clear hK K
        clear hHeld
        have hHeld := hHeld2
        clear hHeld2
        (try simp only [Act.put, List.setIfInBounds_toArray, List.set_cons_zero, List.set_cons_succ])
        refine' wpAnyH_take (i := 33) (oi := ⟨_, _, _, _, _, _⟩) (v := ?v111) rfl (by kernel_rfl) (by kernel_rfl) (by kernel_rfl) (fun _ _ _ h => h) (Or.inl ⟨by rfl, ?hy111⟩) (by assumption) ?rest111
        case hy111 =>
          intro w hSw
          (try dsimp only at hSw)
          go_simp
          try (with_reducible rfl)
        case rest111 =>
        (try simp only [Act.put, List.setIfInBounds_toArray, List.set_cons_zero, List.set_cons_succ])
        refine' wpAnyH_take (i := 34) (oi := ⟨_, _, _, _, _, _⟩) (v := ?v112) rfl (by kernel_rfl) (by kernel_rfl) (by kernel_rfl) (fun _ _ _ h => h) (Or.inl ⟨by rfl, ?hy112⟩) (by assumption) ?rest112
        case hy112 =>
          intro w hSw
          (try dsimp only at hSw)
          go_simp
          try (with_reducible rfl)
        case rest112 =>
        (try simp only [Act.put, List.setIfInBounds_toArray, List.set_cons_zero, List.set_cons_succ])
        refine' wpAnyH_take (i := 35) (oi := ⟨_, _, _, _, _, _⟩) (v := ?v113) rfl (by kernel_rfl) (by kernel_rfl) (by kernel_rfl) (fun _ _ _ h => h) (Or.inl ⟨by rfl, ?hy113⟩) (by assumption) ?rest113
        case hy113 =>
          intro w hSw
          (try dsimp only at hSw)
          go_simp
          try (with_reducible rfl)
        case rest113 =>
        (try simp only [Act.put, List.setIfInBounds_toArray, List.set_cons_zero, List.set_cons_succ])
        refine' wpAnyH_take (i := 36) (oi := ⟨_, _, _, _, _, _⟩) (v := ?v114) rfl (by kernel_rfl) (by kernel_rfl) (by kernel_rfl) (fun _ _ _ h => h) (Or.inl ⟨by rfl, ?hy114⟩) (by assumption) ?rest114
        case hy114 =>
          intro w hSw
          (try dsimp only at hSw)
          go_simp
          try (with_reducible rfl)
        case rest114 =>
        (try simp only [Act.put, List.setIfInBounds_toArray, List.set_cons_zero, List.set_cons_succ])
        refine wpAnyH_done (by kernel_rfl) ?_ _
        go_wp2_with fail
        go_meet
        case rel => exact ⟨rfl, _, rfl, HBR.out.trans (Below.mono (by repeat (first | (with_reducible exact Below.refl _ _) | (with_reducible assumption) | (with_reducible refine below_drewN ?_ _) | (with_reducible refine Below.drew ?_) | (with_reducible refine below_ext_of ?_ (by first | exact Nat.le_refl _ | assumption | (simp only [World.size_alloc, World.size_setCell, size_ext, World.heap_drewN]; omega)) _ _) | (with_reducible refine Below.alloc ?_ (by first | exact Nat.le_refl _ | assumption | (simp only [World.size_alloc, World.size_setCell, size_ext, World.heap_drewN]; omega)) _) | (with_reducible refine Below.setCell ?_ (by first | exact Nat.le_refl _ | assumption | (simp only [World.size_alloc, World.size_setCell, size_ext, World.heap_drewN]; omega)) _))) HBR.out.size)⟩
      · have e8a : (E8 != 0) = true := bne_iff_ne.2 hE8
        have e8b : (E8 == 0) = false := beq_false_of_ne hE8
        clear hE8
        refine wp_region_held_drew (S := (fun W' => W'.cell? ⟨Ba, 0, none⟩ = some (.slice pa1 a1.length ca1) ∧ W'.cell? ⟨Ba, 1, none⟩ = some (.slice pa2 a2.length ca2) ∧ W'.cell? ⟨Bb, 0, none⟩ = some (.slice pb1 b1.length cb1) ∧ W'.cell? ⟨Bb, 1, none⟩ = some (.slice pb2 b2.length cb2) ∧ W'.cell? ⟨Bx, 0, none⟩ = some (.slice p7 x7.length s7) ∧ W'.cell? ⟨Bx, 1, none⟩ = some (.slice q7 y7.length t7) ∧ W'.cell? ⟨By, 0, none⟩ = some (.slice p8 x8.length s8) ∧ W'.cell? ⟨By, 1, none⟩ = some (.slice q8 y8.length t8))) (by kernel_rfl) ?hS115 (fun hHeld => ?go115)
        case hS115 =>
          (try dsimp only)
          try go_simp
        case go115 =>
        refine' wpAnyH_take (i := 0) (oi := ⟨_, _, _, _, _, _⟩) (v := ?v116) rfl (by kernel_rfl) (by kernel_rfl) (by kernel_rfl) (fun _ _ _ h => h) (Or.inl ⟨by rfl, ?hy116⟩) (by assumption) ?rest116
        case hy116 =>
          intro w hSw
          (try dsimp only at hSw)
          go_simp
          try (with_reducible rfl)
        case rest116 =>
        (try simp only [Act.put, List.setIfInBounds_toArray, List.set_cons_zero, List.set_cons_succ])
        refine' wpAnyH_take (i := 1) (oi := ⟨_, _, _, _, _, _⟩) (v := ?v117) rfl (by kernel_rfl) (by kernel_rfl) (by kernel_rfl) (fun _ _ _ h => h) (Or.inl ⟨by rfl, ?hy117⟩) (by assumption) ?rest117
        case hy117 =>
          intro w hSw
          (try dsimp only at hSw)
          go_simp
          try (with_reducible rfl)
        case rest117 =>
        (try simp only [Act.put, List.setIfInBounds_toArray, List.set_cons_zero, List.set_cons_succ])
        refine' wpAnyH_take (i := 2) (oi := ⟨_, _, _, _, _, _⟩) (v := ?v118) rfl (by kernel_rfl) (by kernel_rfl) (by kernel_rfl) (fun _ _ _ h => h) (Or.inl ⟨by rfl, ?hy118⟩) (by assumption) ?rest118
        case hy118 =>
          intro w hSw
          (try dsimp only at hSw)
          go_simp
          try (with_reducible rfl)
        case rest118 =>
        (try simp only [Act.put, List.setIfInBounds_toArray, List.set_cons_zero, List.set_cons_succ])
        refine' wpAnyH_take (i := 3) (oi := ⟨_, _, _, _, _, _⟩) (v := undef) rfl (by kernel_rfl) (by kernel_rfl) (by kernel_rfl) (fun _ _ _ h => h) (Or.inr ⟨by rfl, rfl⟩) (by assumption) ?rest119
        case rest119 =>
        (try simp only [Act.put, List.setIfInBounds_toArray, List.set_cons_zero, List.set_cons_succ])
        refine' wpAnyH_take (i := 4) (oi := ⟨_, _, _, _, _, _⟩) (v := undef) rfl (by kernel_rfl) (by kernel_rfl) (by kernel_rfl) (fun _ _ _ h => h) (Or.inr ⟨by rfl, rfl⟩) (by assumption) ?rest120
        case rest120 =>
        (try simp only [Act.put, List.setIfInBounds_toArray, List.set_cons_zero, List.set_cons_succ])
        refine' wpAnyH_take (i := 5) (oi := ⟨_, _, _, _, _, _⟩) (v := undef) rfl (by kernel_rfl) (by kernel_rfl) (by kernel_rfl) (fun _ _ _ h => h) (Or.inr ⟨by rfl, rfl⟩) (by assumption) ?rest121
        case rest121 =>
        (try simp only [Act.put, List.setIfInBounds_toArray, List.set_cons_zero, List.set_cons_succ])
        refine' wpAnyH_take (i := 6) (oi := ⟨_, _, _, _, _, _⟩) (v := undef) rfl (by kernel_rfl) (by kernel_rfl) (by kernel_rfl) (fun _ _ _ h => h) (Or.inr ⟨by rfl, rfl⟩) (by assumption) ?rest122
        case rest122 =>
        (try simp only [Act.put, List.setIfInBounds_toArray, List.set_cons_zero, List.set_cons_succ])
        refine' wpAnyH_take (i := 7) (oi := ⟨_, _, _, _, _, _⟩) (v := undef) rfl (by kernel_rfl) (by kernel_rfl) (by kernel_rfl) (fun _ _ _ h => h) (Or.inr ⟨by rfl, rfl⟩) (by assumption) ?rest123
        case rest123 =>
        (try simp only [Act.put, List.setIfInBounds_toArray, List.set_cons_zero, List.set_cons_succ])
        refine' wpAnyH_take (i := 8) (oi := ⟨_, _, _, _, _, _⟩) (v := undef) rfl (by kernel_rfl) (by kernel_rfl) (by kernel_rfl) (fun _ _ _ h => h) (Or.inr ⟨by rfl, rfl⟩) (by assumption) ?rest124
        case rest124 =>
        (try simp only [Act.put, List.setIfInBounds_toArray, List.set_cons_zero, List.set_cons_succ])
        refine' wpAnyH_take (i := 9) (oi := ⟨_, _, _, _, _, _⟩) (v := undef) rfl (by kernel_rfl) (by kernel_rfl) (by kernel_rfl) (fun _ _ _ h => h) (Or.inr ⟨by rfl, rfl⟩) (by assumption) ?rest125
        case rest125 =>
        (try simp only [Act.put, List.setIfInBounds_toArray, List.set_cons_zero, List.set_cons_succ])
        refine' wpAnyH_take (i := 10) (oi := ⟨_, _, _, _, _, _⟩) (v := undef) rfl (by kernel_rfl) (by kernel_rfl) (by kernel_rfl) (fun _ _ _ h => h) (Or.inr ⟨by rfl, rfl⟩) (by assumption) ?rest126
        case rest126 =>
        (try simp only [Act.put, List.setIfInBounds_toArray, List.set_cons_zero, List.set_cons_succ])
        refine' wpAnyH_take (i := 11) (oi := ⟨_, _, _, _, _, _⟩) (v := undef) rfl (by kernel_rfl) (by kernel_rfl) (by kernel_rfl) (fun _ _ _ h => h) (Or.inr ⟨by rfl, rfl⟩) (by assumption) ?rest127
        case rest127 =>
        (try simp only [Act.put, List.setIfInBounds_toArray, List.set_cons_zero, List.set_cons_succ])
        refine' wpAnyH_take (i := 12) (oi := ⟨_, _, _, _, _, _⟩) (v := undef) rfl (by kernel_rfl) (by kernel_rfl) (by kernel_rfl) (fun _ _ _ h => h) (Or.inr ⟨by rfl, rfl⟩) (by assumption) ?rest128
        case rest128 =>
        (try simp only [Act.put, List.setIfInBounds_toArray, List.set_cons_zero, List.set_cons_succ])
        refine' wpAnyH_take (i := 13) (oi := ⟨_, _, _, _, _, _⟩) (v := undef) rfl (by kernel_rfl) (by kernel_rfl) (by kernel_rfl) (fun _ _ _ h => h) (Or.inr ⟨by rfl, rfl⟩) (by assumption) ?rest129
        case rest129 =>
        (try simp only [Act.put, List.setIfInBounds_toArray, List.set_cons_zero, List.set_cons_succ])
        refine' wpAnyH_take (i := 14) (oi := ⟨_, _, _, _, _, _⟩) (v := undef) rfl (by kernel_rfl) (by kernel_rfl) (by kernel_rfl) (fun _ _ _ h => h) (Or.inr ⟨by rfl, rfl⟩) (by assumption) ?rest130
        case rest130 =>
        (try simp only [Act.put, List.setIfInBounds_toArray, List.set_cons_zero, List.set_cons_succ])
        refine' wpAnyH_take (i := 15) (oi := ⟨_, _, _, _, _, _⟩) (v := undef) rfl (by kernel_rfl) (by kernel_rfl) (by kernel_rfl) (fun _ _ _ h => h) (Or.inr ⟨by rfl, rfl⟩) (by assumption) ?rest131
        case rest131 =>
        (try simp only [Act.put, List.setIfInBounds_toArray, List.set_cons_zero, List.set_cons_succ])
        refine' wpAnyH_take (i := 16) (oi := ⟨_, _, _, _, _, _⟩) (v := undef) rfl (by kernel_rfl) (by kernel_rfl) (by kernel_rfl) (fun _ _ _ h => h) (Or.inr ⟨by rfl, rfl⟩) (by assumption) ?rest132
        case rest132 =>
        (try simp only [Act.put, List.setIfInBounds_toArray, List.set_cons_zero, List.set_cons_succ])
        refine' wpAnyH_take (i := 17) (oi := ⟨_, _, _, _, _, _⟩) (v := undef) rfl (by kernel_rfl) (by kernel_rfl) (by kernel_rfl) (fun _ _ _ h => h) (Or.inr ⟨by rfl, rfl⟩) (by assumption) ?rest133
        case rest133 =>
        (try simp only [Act.put, List.setIfInBounds_toArray, List.set_cons_zero, List.set_cons_succ])
        refine' wpAnyH_take (i := 18) (oi := ⟨_, _, _, _, _, _⟩) (v := undef) rfl (by kernel_rfl) (by kernel_rfl) (by kernel_rfl) (fun _ _ _ h => h) (Or.inr ⟨by rfl, rfl⟩) (by assumption) ?rest134
        case rest134 =>
        (try simp only [Act.put, List.setIfInBounds_toArray, List.set_cons_zero, List.set_cons_succ])
        refine' wpAnyH_take (i := 19) (oi := ⟨_, _, _, _, _, _⟩) (v := ?v135) rfl (by kernel_rfl) (by kernel_rfl) (by kernel_rfl) (fun _ _ _ h => h) (Or.inl ⟨by rfl, ?hy135⟩) (by assumption) ?rest135
        case hy135 =>
          intro w hSw
          (try dsimp only at hSw)
          go_simp
          try (with_reducible rfl)
        case rest135 =>
        (try simp only [Act.put, List.setIfInBounds_toArray, List.set_cons_zero, List.set_cons_succ])
        refine' wpAnyH_take (i := 20) (oi := ⟨_, _, _, _, _, _⟩) (v := ?v136) rfl (by kernel_rfl) (by kernel_rfl) (by kernel_rfl) (fun _ _ _ h => h) (Or.inl ⟨by rfl, ?hy136⟩) (by assumption) ?rest136
        case hy136 =>
          intro w hSw
          (try dsimp only at hSw)
          go_simp
          try (with_reducible rfl)
        case rest136 =>
        (try simp only [Act.put, List.setIfInBounds_toArray, List.set_cons_zero, List.set_cons_succ])
        refine' wpAnyH_take (i := 21) (oi := ⟨_, _, _, _, _, _⟩) (v := ?v137) rfl (by kernel_rfl) (by kernel_rfl) (by kernel_rfl) (fun _ _ _ h => h) (Or.inl ⟨by rfl, ?hy137⟩) (by assumption) ?rest137
        case hy137 =>
          intro w hSw
          (try dsimp only at hSw)
          go_simp
          try (with_reducible rfl)
        case rest137 =>
        (try simp only [Act.put, List.setIfInBounds_toArray, List.set_cons_zero, List.set_cons_succ])
        refine' wpAnyH_take (i := 22) (oi := ⟨_, _, _, _, _, _⟩) (v := ?v138) rfl (by kernel_rfl) (by kernel_rfl) (by kernel_rfl) (fun _ _ _ h => h) (Or.inl ⟨by rfl, ?hy138⟩) (by assumption) ?rest138
        case hy138 =>
          intro w hSw
          (try dsimp only at hSw)
          go_simp
          try (with_reducible rfl)
        case rest138 =>
        (try simp only [Act.put, List.setIfInBounds_toArray, List.set_cons_zero, List.set_cons_succ])
        refine' wpAnyH_take (i := 23) (oi := ⟨_, _, _, _, _, _⟩) (v := ?v139) rfl (by kernel_rfl) (by kernel_rfl) (by kernel_rfl) (fun _ _ _ h => h) (Or.inl ⟨by rfl, ?hy139⟩) (by assumption) ?rest139
        case hy139 =>
          intro w hSw
          (try dsimp only at hSw)
          go_simp
          try (with_reducible rfl)
        case rest139 =>
        (try simp only [Act.put, List.setIfInBounds_toArray, List.set_cons_zero, List.set_cons_succ])
        refine' wpAnyH_take (i := 24) (oi := ⟨_, _, _, _, _, _⟩) (v := undef) rfl (by kernel_rfl) (by kernel_rfl) (by kernel_rfl) (fun _ _ _ h => h) (Or.inr ⟨by rfl, rfl⟩) (by assumption) ?rest140
        case rest140 =>
        (try simp only [Act.put, List.setIfInBounds_toArray, List.set_cons_zero, List.set_cons_succ])
        refine' wpAnyH_take (i := 25) (oi := ⟨_, _, _, _, _, _⟩) (v := undef) rfl (by kernel_rfl) (by kernel_rfl) (by kernel_rfl) (fun _ _ _ h => h) (Or.inr ⟨by rfl, rfl⟩) (by assumption) ?rest141
        case rest141 =>
        (try simp only [Act.put, List.setIfInBounds_toArray, List.set_cons_zero, List.set_cons_succ])
        refine' wpAnyH_take (i := 26) (oi := ⟨_, _, _, _, _, _⟩) (v := undef) rfl (by kernel_rfl) (by kernel_rfl) (by kernel_rfl) (fun _ _ _ h => h) (Or.inr ⟨by rfl, rfl⟩) (by assumption) ?rest142
        case rest142 =>
        (try simp only [Act.put, List.setIfInBounds_toArray, List.set_cons_zero, List.set_cons_succ])
        refine' wpAnyH_take (i := 27) (oi := ⟨_, _, _, _, _, _⟩) (v := undef) rfl (by kernel_rfl) (by kernel_rfl) (by kernel_rfl) (fun _ _ _ h => h) (Or.inr ⟨by rfl, rfl⟩) (by assumption) ?rest143
        case rest143 =>
        (try simp only [Act.put, List.setIfInBounds_toArray, List.set_cons_zero, List.set_cons_succ])
        refine' wpAnyH_take (i := 28) (oi := ⟨_, _, _, _, _, _⟩) (v := undef) rfl (by kernel_rfl) (by kernel_rfl) (by kernel_rfl) (fun _ _ _ h => h) (Or.inr ⟨by rfl, rfl⟩) (by assumption) ?rest144
        case rest144 =>
        (try simp only [Act.put, List.setIfInBounds_toArray, List.set_cons_zero, List.set_cons_succ])
        refine' wpAnyH_take (i := 29) (oi := ⟨_, _, _, _, _, _⟩) (v := undef) rfl (by kernel_rfl) (by kernel_rfl) (by kernel_rfl) (fun _ _ _ h => h) (Or.inr ⟨by rfl, rfl⟩) (by assumption) ?rest145
        case rest145 =>
        (try simp only [Act.put, List.setIfInBounds_toArray, List.set_cons_zero, List.set_cons_succ])
        refine' wpAnyH_take (i := 30) (oi := ⟨_, _, _, _, _, _⟩) (v := undef) rfl (by kernel_rfl) (by kernel_rfl) (by kernel_rfl) (fun _ _ _ h => h) (Or.inr ⟨by rfl, rfl⟩) (by assumption) ?rest146
        case rest146 =>
        (try simp only [Act.put, List.setIfInBounds_toArray, List.set_cons_zero, List.set_cons_succ])
        refine' wpAnyH_take (i := 31) (oi := ⟨_, _, _, _, _, _⟩) (v := undef) rfl (by kernel_rfl) (by kernel_rfl) (by kernel_rfl) (fun _ _ _ h => h) (Or.inr ⟨by rfl, rfl⟩) (by assumption) ?rest147
        case rest147 =>
        (try simp only [Act.put, List.setIfInBounds_toArray, List.set_cons_zero, List.set_cons_succ])
        refine' wpAnyH_take (i := 32) (oi := ⟨_, _, _, _, _, _⟩) (v := undef) rfl (by kernel_rfl) (by kernel_rfl) (by kernel_rfl) (fun _ _ _ h => h) (Or.inr ⟨by rfl, rfl⟩) (by assumption) ?rest148
        case rest148 =>
        (try simp only [Act.put, List.setIfInBounds_toArray, List.set_cons_zero, List.set_cons_succ])
        refine' wpAnyH_take (i := 33) (oi := ⟨_, _, _, _, _, _⟩) (v := undef) rfl (by kernel_rfl) (by kernel_rfl) (by kernel_rfl) (fun _ _ _ h => h) (Or.inr ⟨by rfl, rfl⟩) (by assumption) ?rest149
        case rest149 =>
        (try simp only [Act.put, List.setIfInBounds_toArray, List.set_cons_zero, List.set_cons_succ])
        refine' wpAnyH_take (i := 34) (oi := ⟨_, _, _, _, _, _⟩) (v := undef) rfl (by kernel_rfl) (by kernel_rfl) (by kernel_rfl) (fun _ _ _ h => h) (Or.inr ⟨by rfl, rfl⟩) (by assumption) ?rest150
        case rest150 =>
        (try simp only [Act.put, List.setIfInBounds_toArray, List.set_cons_zero, List.set_cons_succ])
        refine' wpAnyH_take (i := 35) (oi := ⟨_, _, _, _, _, _⟩) (v := ?v151) rfl (by kernel_rfl) (by kernel_rfl) (by kernel_rfl) (fun _ _ _ h => h) (Or.inl ⟨by rfl, ?hy151⟩) (by assumption) ?rest151
        case hy151 =>
          intro w hSw
          (try dsimp only at hSw)
          go_simp
          try (with_reducible rfl)
        case rest151 =>
        (try simp only [Act.put, List.setIfInBounds_toArray, List.set_cons_zero, List.set_cons_succ])
        refine' wpAnyH_take (i := 36) (oi := ⟨_, _, _, _, _, _⟩) (v := ?v152) rfl (by kernel_rfl) (by kernel_rfl) (by kernel_rfl) (fun _ _ _ h => h) (Or.inl ⟨by rfl, ?hy152⟩) (by assumption) ?rest152
        case hy152 =>
          intro w hSw
          (try dsimp only at hSw)
          go_simp
          try (with_reducible rfl)
        case rest152 =>
        (try simp only [Act.put, List.setIfInBounds_toArray, List.set_cons_zero, List.set_cons_succ])
        refine wpAnyH_done (by kernel_rfl) ?_ _
        go_wp2_with fail
        go_meet
        case rel => exact ⟨rfl, _, rfl, HBR.out.trans (Below.mono (by repeat (first | (with_reducible exact Below.refl _ _) | (with_reducible assumption) | (with_reducible refine below_drewN ?_ _) | (with_reducible refine Below.drew ?_) | (with_reducible refine below_ext_of ?_ (by first | exact Nat.le_refl _ | assumption | (simp only [World.size_alloc, World.size_setCell, size_ext, World.heap_drewN]; omega)) _ _) | (with_reducible refine Below.alloc ?_ (by first | exact Nat.le_refl _ | assumption | (simp only [World.size_alloc, World.size_setCell, size_ext, World.heap_drewN]; omega)) _) | (with_reducible refine Below.setCell ?_ (by first | exact Nat.le_refl _ | assumption | (simp only [World.size_alloc, World.size_setCell, size_ext, World.heap_drewN]; omega)) _))) HBR.out.size)⟩
  case rest =>
  obtain ⟨rfl, Y2, rfl, hB⟩ := hcut
  replace RA1 := Lib.hid (RA1.out.below hB)
  replace RA2 := Lib.hid (RA2.out.below hB)
  replace RB1 := Lib.hid (RB1.out.below hB)
  replace RB2 := Lib.hid (RB2.out.below hB)
  replace RX1 := Lib.hid (RX1.out.below hB)
  replace RX2 := Lib.hid (RX2.out.below hB)
  replace RY1 := Lib.hid (RY1.out.below hB)
  replace RY2 := Lib.hid (RY2.out.below hB)
  replace HVB := Lib.hid (HVB.out.trans (hB.mono HVB.out.size))
  replace Ka0 := keep_cell hB Na Ka0
  replace Ka1 := keep_cell hB Na Ka1
  replace Na := Nat.lt_of_lt_of_le Na hB.size
  replace Kb0 := keep_cell hB Nb Kb0
  replace Kb1 := keep_cell hB Nb Kb1
  replace Nb := Nat.lt_of_lt_of_le Nb hB.size
  replace Kx0 := keep_cell hB Nx Kx0
  replace Kx1 := keep_cell hB Nx Kx1
  replace Nx := Nat.lt_of_lt_of_le Nx hB.size
  replace Ky0 := keep_cell hB Ny Ky0
  replace Ky1 := keep_cell hB Ny Ky1
  replace Ny := Nat.lt_of_lt_of_le Ny hB.size
  clear hB
  go_wp2_with fail
  refine (zip_any1 _ _ _ _ _ a1 a2 b1 b2 x9 y9 E9 (RA1.out.below (by repeat (first | (with_reducible exact Below.refl _ _) | (with_reducible assumption) | (with_reducible refine below_drewN ?_ _) | (with_reducible refine Below.drew ?_) | (with_reducible refine below_ext_of ?_ (by first | exact Nat.le_refl _ | assumption | (simp only [World.size_alloc, World.size_setCell, size_ext, World.heap_drewN]; omega)) _ _) | (with_reducible refine Below.alloc ?_ (by first | exact Nat.le_refl _ | assumption | (simp only [World.size_alloc, World.size_setCell, size_ext, World.heap_drewN]; omega)) _) | (with_reducible refine Below.setCell ?_ (by first | exact Nat.le_refl _ | assumption | (simp only [World.size_alloc, World.size_setCell, size_ext, World.heap_drewN]; omega)) _)))) (RA2.out.below (by repeat (first | (with_reducible exact Below.refl _ _) | (with_reducible assumption) | (with_reducible refine below_drewN ?_ _) | (with_reducible refine Below.drew ?_) | (with_reducible refine below_ext_of ?_ (by first | exact Nat.le_refl _ | assumption | (simp only [World.size_alloc, World.size_setCell, size_ext, World.heap_drewN]; omega)) _ _) | (with_reducible refine Below.alloc ?_ (by first | exact Nat.le_refl _ | assumption | (simp only [World.size_alloc, World.size_setCell, size_ext, World.heap_drewN]; omega)) _) | (with_reducible refine Below.setCell ?_ (by first | exact Nat.le_refl _ | assumption | (simp only [World.size_alloc, World.size_setCell, size_ext, World.heap_drewN]; omega)) _)))) (RB1.out.below (by repeat (first | (with_reducible exact Below.refl _ _) | (with_reducible assumption) | (with_reducible refine below_drewN ?_ _) | (with_reducible refine Below.drew ?_) | (with_reducible refine below_ext_of ?_ (by first | exact Nat.le_refl _ | assumption | (simp only [World.size_alloc, World.size_setCell, size_ext, World.heap_drewN]; omega)) _ _) | (with_reducible refine Below.alloc ?_ (by first | exact Nat.le_refl _ | assumption | (simp only [World.size_alloc, World.size_setCell, size_ext, World.heap_drewN]; omega)) _) | (with_reducible refine Below.setCell ?_ (by first | exact Nat.le_refl _ | assumption | (simp only [World.size_alloc, World.size_setCell, size_ext, World.heap_drewN]; omega)) _)))) (RB2.out.below (by repeat (first | (with_reducible exact Below.refl _ _) | (with_reducible assumption) | (with_reducible refine below_drewN ?_ _) | (with_reducible refine Below.drew ?_) | (with_reducible refine below_ext_of ?_ (by first | exact Nat.le_refl _ | assumption | (simp only [World.size_alloc, World.size_setCell, size_ext, World.heap_drewN]; omega)) _ _) | (with_reducible refine Below.alloc ?_ (by first | exact Nat.le_refl _ | assumption | (simp only [World.size_alloc, World.size_setCell, size_ext, World.heap_drewN]; omega)) _) | (with_reducible refine Below.setCell ?_ (by first | exact Nat.le_refl _ | assumption | (simp only [World.size_alloc, World.size_setCell, size_ext, World.heap_drewN]; omega)) _)))) I_a1.out I_b1.out HZ9.out).mono ?_
  rintro e W3 ⟨hb, p9, s9, q9, t9, rfl, r1, r2⟩
  have hB : Below Y2.heap.size Y2 W3 := Below.trans (by repeat (first | (with_reducible exact Below.refl _ _) | (with_reducible assumption) | (with_reducible refine below_drewN ?_ _) | (with_reducible refine Below.drew ?_) | (with_reducible refine below_ext_of ?_ (by first | exact Nat.le_refl _ | assumption | (simp only [World.size_alloc, World.size_setCell, size_ext, World.heap_drewN]; omega)) _ _) | (with_reducible refine Below.alloc ?_ (by first | exact Nat.le_refl _ | assumption | (simp only [World.size_alloc, World.size_setCell, size_ext, World.heap_drewN]; omega)) _) | (with_reducible refine Below.setCell ?_ (by first | exact Nat.le_refl _ | assumption | (simp only [World.size_alloc, World.size_setCell, size_ext, World.heap_drewN]; omega)) _))) (hb.mono (by simp [go_sem] <;> omega))
  replace RA1 := Lib.hid (RA1.out.below hB)
  replace RA2 := Lib.hid (RA2.out.below hB)
  replace RB1 := Lib.hid (RB1.out.below hB)
  replace RB2 := Lib.hid (RB2.out.below hB)
  replace RX1 := Lib.hid (RX1.out.below hB)
  replace RX2 := Lib.hid (RX2.out.below hB)
  replace RY1 := Lib.hid (RY1.out.below hB)
  replace RY2 := Lib.hid (RY2.out.below hB)
  replace HVB := Lib.hid (HVB.out.trans (hB.mono HVB.out.size))
  replace Ka0 := keep_cell hB Na Ka0
  replace Ka1 := keep_cell hB Na Ka1
  replace Na := Nat.lt_of_lt_of_le Na hB.size
  replace Kb0 := keep_cell hB Nb Kb0
  replace Kb1 := keep_cell hB Nb Kb1
  replace Nb := Nat.lt_of_lt_of_le Nb hB.size
  replace Kx0 := keep_cell hB Nx Kx0
  replace Kx1 := keep_cell hB Nx Kx1
  replace Nx := Nat.lt_of_lt_of_le Nx hB.size
  replace Ky0 := keep_cell hB Ny Ky0
  replace Ky1 := keep_cell hB Ny Ky1
  replace Ny := Nat.lt_of_lt_of_le Ny hB.size
  have RZ1 := Lib.hid r1
  have RZ2 := Lib.hid r2
  clear r1 r2
  clear hb hB
  by_cases hE9 : E9 = 0
  · subst hE9
    have I_x9 := Lib.hid (in64W_zip (op := 1) (by decide) I_a1.out I_b1.out HZ9.out)
    obtain ⟨⟨x10, y10, E10⟩, hz10⟩ : ∃ r, zipF 2 x9 y9 b1 b2 = r := ⟨_, rfl⟩
    have HZ10 := Lib.hid hz10
    clear hz10
    go_wp2_with fail
    refine (zip_any2 _ _ _ _ _ x9 y9 b1 b2 x10 y10 E10 (RZ1.out.below (by repeat (first | (with_reducible exact Below.refl _ _) | (with_reducible assumption) | (with_reducible refine below_drewN ?_ _) | (with_reducible refine Below.drew ?_) | (with_reducible refine below_ext_of ?_ (by first | exact Nat.le_refl _ | assumption | (simp only [World.size_alloc, World.size_setCell, size_ext, World.heap_drewN]; omega)) _ _) | (with_reducible refine Below.alloc ?_ (by first | exact Nat.le_refl _ | assumption | (simp only [World.size_alloc, World.size_setCell, size_ext, World.heap_drewN]; omega)) _) | (with_reducible refine Below.setCell ?_ (by first | exact Nat.le_refl _ | assumption | (simp only [World.size_alloc, World.size_setCell, size_ext, World.heap_drewN]; omega)) _)))) (RZ2.out.below (by repeat (first | (with_reducible exact Below.refl _ _) | (with_reducible assumption) | (with_reducible refine below_drewN ?_ _) | (with_reducible refine Below.drew ?_) | (with_reducible refine below_ext_of ?_ (by first | exact Nat.le_refl _ | assumption | (simp only [World.size_alloc, World.size_setCell, size_ext, World.heap_drewN]; omega)) _ _) | (with_reducible refine Below.alloc ?_ (by first | exact Nat.le_refl _ | assumption | (simp only [World.size_alloc, World.size_setCell, size_ext, World.heap_drewN]; omega)) _) | (with_reducible refine Below.setCell ?_ (by first | exact Nat.le_refl _ | assumption | (simp only [World.size_alloc, World.size_setCell, size_ext, World.heap_drewN]; omega)) _)))) (RB1.out.below (by repeat (first | (with_reducible exact Below.refl _ _) | (with_reducible assumption) | (with_reducible refine below_drewN ?_ _) | (with_reducible refine Below.drew ?_) | (with_reducible refine below_ext_of ?_ (by first | exact Nat.le_refl _ | assumption | (simp only [World.size_alloc, World.size_setCell, size_ext, World.heap_drewN]; omega)) _ _) | (with_reducible refine Below.alloc ?_ (by first | exact Nat.le_refl _ | assumption | (simp only [World.size_alloc, World.size_setCell, size_ext, World.heap_drewN]; omega)) _) | (with_reducible refine Below.setCell ?_ (by first | exact Nat.le_refl _ | assumption | (simp only [World.size_alloc, World.size_setCell, size_ext, World.heap_drewN]; omega)) _)))) (RB2.out.below (by repeat (first | (with_reducible exact Below.refl _ _) | (with_reducible assumption) | (with_reducible refine below_drewN ?_ _) | (with_reducible refine Below.drew ?_) | (with_reducible refine below_ext_of ?_ (by first | exact Nat.le_refl _ | assumption | (simp only [World.size_alloc, World.size_setCell, size_ext, World.heap_drewN]; omega)) _ _) | (with_reducible refine Below.alloc ?_ (by first | exact Nat.le_refl _ | assumption | (simp only [World.size_alloc, World.size_setCell, size_ext, World.heap_drewN]; omega)) _) | (with_reducible refine Below.setCell ?_ (by first | exact Nat.le_refl _ | assumption | (simp only [World.size_alloc, World.size_setCell, size_ext, World.heap_drewN]; omega)) _)))) I_x9.out I_b1.out HZ10.out).mono ?_
    rintro e W4 ⟨hb, p10, s10, q10, t10, rfl, r1, r2⟩
    have hB : Below W3.heap.size W3 W4 := Below.trans (by repeat (first | (with_reducible exact Below.refl _ _) | (with_reducible assumption) | (with_reducible refine below_drewN ?_ _) | (with_reducible refine Below.drew ?_) | (with_reducible refine below_ext_of ?_ (by first | exact Nat.le_refl _ | assumption | (simp only [World.size_alloc, World.size_setCell, size_ext, World.heap_drewN]; omega)) _ _) | (with_reducible refine Below.alloc ?_ (by first | exact Nat.le_refl _ | assumption | (simp only [World.size_alloc, World.size_setCell, size_ext, World.heap_drewN]; omega)) _) | (with_reducible refine Below.setCell ?_ (by first | exact Nat.le_refl _ | assumption | (simp only [World.size_alloc, World.size_setCell, size_ext, World.heap_drewN]; omega)) _))) (hb.mono (by simp [go_sem] <;> omega))
    replace RA1 := Lib.hid (RA1.out.below hB)
    replace RA2 := Lib.hid (RA2.out.below hB)
    replace RB1 := Lib.hid (RB1.out.below hB)
    replace RB2 := Lib.hid (RB2.out.below hB)
    replace RX1 := Lib.hid (RX1.out.below hB)
    replace RX2 := Lib.hid (RX2.out.below hB)
    replace RY1 := Lib.hid (RY1.out.below hB)
    replace RY2 := Lib.hid (RY2.out.below hB)
    replace RZ1 := Lib.hid (RZ1.out.below hB)
    replace RZ2 := Lib.hid (RZ2.out.below hB)
    replace HVB := Lib.hid (HVB.out.trans (hB.mono HVB.out.size))
    replace Ka0 := keep_cell hB Na Ka0
    replace Ka1 := keep_cell hB Na Ka1
    replace Na := Nat.lt_of_lt_of_le Na hB.size
    replace Kb0 := keep_cell hB Nb Kb0
    replace Kb1 := keep_cell hB Nb Kb1
    replace Nb := Nat.lt_of_lt_of_le Nb hB.size
    replace Kx0 := keep_cell hB Nx Kx0
    replace Kx1 := keep_cell hB Nx Kx1
    replace Nx := Nat.lt_of_lt_of_le Nx hB.size
    replace Ky0 := keep_cell hB Ny Ky0
    replace Ky1 := keep_cell hB Ny Ky1
    replace Ny := Nat.lt_of_lt_of_le Ny hB.size
    have Kz0 : W4.cell? ⟨W3.heap.size, 0, none⟩ = some (.slice p9 x9.length s9) := keep_cell hb (by simp [go_sem] <;> omega) (by simp [go_sem])
    have Kz1 : W4.cell? ⟨W3.heap.size, 1, none⟩ = some (.slice q9 y9.length t9) := keep_cell hb (by simp [go_sem] <;> omega) (by simp [go_sem])
    have Nz : W3.heap.size < W4.heap.size := Nat.lt_of_lt_of_le (by simp [go_sem] <;> omega) hb.size
    have RT1 := Lib.hid r1
    have RT2 := Lib.hid r2
    clear r1 r2
    obtain ⟨Bz, hkz⟩ : ∃ b, b = W3.heap.size := ⟨_, rfl⟩
    rw [← hkz] at Kz0 Kz1 Nz ⊢
    clear hkz
    clear hb hB
    by_cases hE10 : E10 = 0
    · subst hE10
      have TS := Lib.hid (same_diff HZ9.out HZ10.out)
      go_wp2_with fail
      refine (same_true _ _ _ _ _ x10 y10 a1 a2 (RT1.out.below (by repeat (first | (with_reducible exact Below.refl _ _) | (with_reducible assumption) | (with_reducible refine below_drewN ?_ _) | (with_reducible refine Below.drew ?_) | (with_reducible refine below_ext_of ?_ (by first | exact Nat.le_refl _ | assumption | (simp only [World.size_alloc, World.size_setCell, size_ext, World.heap_drewN]; omega)) _ _) | (with_reducible refine Below.alloc ?_ (by first | exact Nat.le_refl _ | assumption | (simp only [World.size_alloc, World.size_setCell, size_ext, World.heap_drewN]; omega)) _) | (with_reducible refine Below.setCell ?_ (by first | exact Nat.le_refl _ | assumption | (simp only [World.size_alloc, World.size_setCell, size_ext, World.heap_drewN]; omega)) _)))) (RT2.out.below (by repeat (first | (with_reducible exact Below.refl _ _) | (with_reducible assumption) | (with_reducible refine below_drewN ?_ _) | (with_reducible refine Below.drew ?_) | (with_reducible refine below_ext_of ?_ (by first | exact Nat.le_refl _ | assumption | (simp only [World.size_alloc, World.size_setCell, size_ext, World.heap_drewN]; omega)) _ _) | (with_reducible refine Below.alloc ?_ (by first | exact Nat.le_refl _ | assumption | (simp only [World.size_alloc, World.size_setCell, size_ext, World.heap_drewN]; omega)) _) | (with_reducible refine Below.setCell ?_ (by first | exact Nat.le_refl _ | assumption | (simp only [World.size_alloc, World.size_setCell, size_ext, World.heap_drewN]; omega)) _)))) (RA1.out.below (by repeat (first | (with_reducible exact Below.refl _ _) | (with_reducible assumption) | (with_reducible refine below_drewN ?_ _) | (with_reducible refine Below.drew ?_) | (with_reducible refine below_ext_of ?_ (by first | exact Nat.le_refl _ | assumption | (simp only [World.size_alloc, World.size_setCell, size_ext, World.heap_drewN]; omega)) _ _) | (with_reducible refine Below.alloc ?_ (by first | exact Nat.le_refl _ | assumption | (simp only [World.size_alloc, World.size_setCell, size_ext, World.heap_drewN]; omega)) _) | (with_reducible refine Below.setCell ?_ (by first | exact Nat.le_refl _ | assumption | (simp only [World.size_alloc, World.size_setCell, size_ext, World.heap_drewN]; omega)) _)))) (RA2.out.below (by repeat (first | (with_reducible exact Below.refl _ _) | (with_reducible assumption) | (with_reducible refine below_drewN ?_ _) | (with_reducible refine Below.drew ?_) | (with_reducible refine below_ext_of ?_ (by first | exact Nat.le_refl _ | assumption | (simp only [World.size_alloc, World.size_setCell, size_ext, World.heap_drewN]; omega)) _ _) | (with_reducible refine Below.alloc ?_ (by first | exact Nat.le_refl _ | assumption | (simp only [World.size_alloc, World.size_setCell, size_ext, World.heap_drewN]; omega)) _) | (with_reducible refine Below.setCell ?_ (by first | exact Nat.le_refl _ | assumption | (simp only [World.size_alloc, World.size_setCell, size_ext, World.heap_drewN]; omega)) _)))) TS.out).mono ?_
      rintro e W5 ⟨rfl, hb⟩
      have hB : Below W4.heap.size W4 W5 := Below.trans (by repeat (first | (with_reducible exact Below.refl _ _) | (with_reducible assumption) | (with_reducible refine below_drewN ?_ _) | (with_reducible refine Below.drew ?_) | (with_reducible refine below_ext_of ?_ (by first | exact Nat.le_refl _ | assumption | (simp only [World.size_alloc, World.size_setCell, size_ext, World.heap_drewN]; omega)) _ _) | (with_reducible refine Below.alloc ?_ (by first | exact Nat.le_refl _ | assumption | (simp only [World.size_alloc, World.size_setCell, size_ext, World.heap_drewN]; omega)) _) | (with_reducible refine Below.setCell ?_ (by first | exact Nat.le_refl _ | assumption | (simp only [World.size_alloc, World.size_setCell, size_ext, World.heap_drewN]; omega)) _))) (hb.mono (by simp [go_sem] <;> omega))
      replace RA1 := Lib.hid (RA1.out.below hB)
      replace RA2 := Lib.hid (RA2.out.below hB)
      replace RB1 := Lib.hid (RB1.out.below hB)
      replace RB2 := Lib.hid (RB2.out.below hB)
      replace RX1 := Lib.hid (RX1.out.below hB)
      replace RX2 := Lib.hid (RX2.out.below hB)
      replace RY1 := Lib.hid (RY1.out.below hB)
      replace RY2 := Lib.hid (RY2.out.below hB)
      replace RZ1 := Lib.hid (RZ1.out.below hB)
      replace RZ2 := Lib.hid (RZ2.out.below hB)
      replace RT1 := Lib.hid (RT1.out.below hB)
      replace RT2 := Lib.hid (RT2.out.below hB)
      replace HVB := Lib.hid (HVB.out.trans (hB.mono HVB.out.size))
      replace Ka0 := keep_cell hB Na Ka0
      replace Ka1 := keep_cell hB Na Ka1
      replace Na := Nat.lt_of_lt_of_le Na hB.size
      replace Kb0 := keep_cell hB Nb Kb0
      replace Kb1 := keep_cell hB Nb Kb1
      replace Nb := Nat.lt_of_lt_of_le Nb hB.size
      replace Kx0 := keep_cell hB Nx Kx0
      replace Kx1 := keep_cell hB Nx Kx1
      replace Nx := Nat.lt_of_lt_of_le Nx hB.size
      replace Ky0 := keep_cell hB Ny Ky0
      replace Ky1 := keep_cell hB Ny Ky1
      replace Ny := Nat.lt_of_lt_of_le Ny hB.size
      replace Kz0 := keep_cell hB Nz Kz0
      replace Kz1 := keep_cell hB Nz Kz1
      replace Nz := Nat.lt_of_lt_of_le Nz hB.size
      have Kt0 : W5.cell? ⟨W4.heap.size, 0, none⟩ = some (.slice p10 x10.length s10) := keep_cell hb (by simp [go_sem] <;> omega) (by simp [go_sem])
      have Kt1 : W5.cell? ⟨W4.heap.size, 1, none⟩ = some (.slice q10 y10.length t10) := keep_cell hb (by simp [go_sem] <;> omega) (by simp [go_sem])
      have Nt : W4.heap.size < W5.heap.size := Nat.lt_of_lt_of_le (by simp [go_sem] <;> omega) hb.size
      obtain ⟨Bt, hkt⟩ : ∃ b, b = W4.heap.size := ⟨_, rfl⟩
      rw [← hkt] at Kt0 Kt1 Nt ⊢
      clear hkt
      clear hb hB
      go_wp2_with fail
      refine (works_any _).mono ?_
      rintro e W6 ⟨rfl, hb⟩
      have hB : Below W5.heap.size W5 W6 := Below.trans (by repeat (first | (with_reducible exact Below.refl _ _) | (with_reducible assumption) | (with_reducible refine below_drewN ?_ _) | (with_reducible refine Below.drew ?_) | (with_reducible refine below_ext_of ?_ (by first | exact Nat.le_refl _ | assumption | (simp only [World.size_alloc, World.size_setCell, size_ext, World.heap_drewN]; omega)) _ _) | (with_reducible refine Below.alloc ?_ (by first | exact Nat.le_refl _ | assumption | (simp only [World.size_alloc, World.size_setCell, size_ext, World.heap_drewN]; omega)) _) | (with_reducible refine Below.setCell ?_ (by first | exact Nat.le_refl _ | assumption | (simp only [World.size_alloc, World.size_setCell, size_ext, World.heap_drewN]; omega)) _))) (hb.mono (by simp [go_sem] <;> omega))
      replace RA1 := Lib.hid (RA1.out.below hB)
      replace RA2 := Lib.hid (RA2.out.below hB)
      replace RB1 := Lib.hid (RB1.out.below hB)
      replace RB2 := Lib.hid (RB2.out.below hB)
      replace RX1 := Lib.hid (RX1.out.below hB)
      replace RX2 := Lib.hid (RX2.out.below hB)
      replace RY1 := Lib.hid (RY1.out.below hB)
      replace RY2 := Lib.hid (RY2.out.below hB)
      replace RZ1 := Lib.hid (RZ1.out.below hB)
      replace RZ2 := Lib.hid (RZ2.out.below hB)
      replace RT1 := Lib.hid (RT1.out.below hB)
      replace RT2 := Lib.hid (RT2.out.below hB)
      replace HVB := Lib.hid (HVB.out.trans (hB.mono HVB.out.size))
      replace Ka0 := keep_cell hB Na Ka0
      replace Ka1 := keep_cell hB Na Ka1
      replace Na := Nat.lt_of_lt_of_le Na hB.size
      replace Kb0 := keep_cell hB Nb Kb0
      replace Kb1 := keep_cell hB Nb Kb1
      replace Nb := Nat.lt_of_lt_of_le Nb hB.size
      replace Kx0 := keep_cell hB Nx Kx0
      replace Kx1 := keep_cell hB Nx Kx1
      replace Nx := Nat.lt_of_lt_of_le Nx hB.size
      replace Ky0 := keep_cell hB Ny Ky0
      replace Ky1 := keep_cell hB Ny Ky1
      replace Ny := Nat.lt_of_lt_of_le Ny hB.size
      replace Kz0 := keep_cell hB Nz Kz0
      replace Kz1 := keep_cell hB Nz Kz1
      replace Nz := Nat.lt_of_lt_of_le Nz hB.size
      replace Kt0 := keep_cell hB Nt Kt0
      replace Kt1 := keep_cell hB Nt Kt1
      replace Nt := Nat.lt_of_lt_of_le Nt hB.size
      clear hb hB
      go_wp2_with fail
      go_ret
      exact ⟨rfl, HVB.out⟩
    · have e10a : (E10 != 0) = true := bne_iff_ne.2 hE10
      have e10b : (E10 == 0) = false := beq_false_of_ne hE10
      clear hE10
      go_wp2_with fail
      refine (works_any _).mono ?_
      rintro e W5 ⟨rfl, hb⟩
      have hB : Below W4.heap.size W4 W5 := Below.trans (by repeat (first | (with_reducible exact Below.refl _ _) | (with_reducible assumption) | (with_reducible refine below_drewN ?_ _) | (with_reducible refine Below.drew ?_) | (with_reducible refine below_ext_of ?_ (by first | exact Nat.le_refl _ | assumption | (simp only [World.size_alloc, World.size_setCell, size_ext, World.heap_drewN]; omega)) _ _) | (with_reducible refine Below.alloc ?_ (by first | exact Nat.le_refl _ | assumption | (simp only [World.size_alloc, World.size_setCell, size_ext, World.heap_drewN]; omega)) _) | (with_reducible refine Below.setCell ?_ (by first | exact Nat.le_refl _ | assumption | (simp only [World.size_alloc, World.size_setCell, size_ext, World.heap_drewN]; omega)) _))) (hb.mono (by simp [go_sem] <;> omega))
      replace RA1 := Lib.hid (RA1.out.below hB)
      replace RA2 := Lib.hid (RA2.out.below hB)
      replace RB1 := Lib.hid (RB1.out.below hB)
      replace RB2 := Lib.hid (RB2.out.below hB)
      replace RX1 := Lib.hid (RX1.out.below hB)
      replace RX2 := Lib.hid (RX2.out.below hB)
      replace RY1 := Lib.hid (RY1.out.below hB)
      replace RY2 := Lib.hid (RY2.out.below hB)
      replace RZ1 := Lib.hid (RZ1.out.below hB)
      replace RZ2 := Lib.hid (RZ2.out.below hB)
      replace RT1 := Lib.hid (RT1.out.below hB)
      replace RT2 := Lib.hid (RT2.out.below hB)
      replace HVB := Lib.hid (HVB.out.trans (hB.mono HVB.out.size))
      replace Ka0 := keep_cell hB Na Ka0
      replace Ka1 := keep_cell hB Na Ka1
      replace Na := Nat.lt_of_lt_of_le Na hB.size
      replace Kb0 := keep_cell hB Nb Kb0
      replace Kb1 := keep_cell hB Nb Kb1
      replace Nb := Nat.lt_of_lt_of_le Nb hB.size
      replace Kx0 := keep_cell hB Nx Kx0
      replace Kx1 := keep_cell hB Nx Kx1
      replace Nx := Nat.lt_of_lt_of_le Nx hB.size
      replace Ky0 := keep_cell hB Ny Ky0
      replace Ky1 := keep_cell hB Ny Ky1
      replace Ny := Nat.lt_of_lt_of_le Ny hB.size
      replace Kz0 := keep_cell hB Nz Kz0
      replace Kz1 := keep_cell hB Nz Kz1
      replace Nz := Nat.lt_of_lt_of_le Nz hB.size
      have Kt0 : W5.cell? ⟨W4.heap.size, 0, none⟩ = some (.slice p10 x10.length s10) := keep_cell hb (by simp [go_sem] <;> omega) (by simp [go_sem])
      have Kt1 : W5.cell? ⟨W4.heap.size, 1, none⟩ = some (.slice q10 y10.length t10) := keep_cell hb (by simp [go_sem] <;> omega) (by simp [go_sem])
      have Nt : W4.heap.size < W5.heap.size := Nat.lt_of_lt_of_le (by simp [go_sem] <;> omega) hb.size
      obtain ⟨Bt, hkt⟩ : ∃ b, b = W4.heap.size := ⟨_, rfl⟩
      rw [← hkt] at Kt0 Kt1 Nt ⊢
      clear hkt
      clear hb hB
      go_wp2_with fail
      go_ret
      exact ⟨rfl, HVB.out⟩
  · have e9a : (E9 != 0) = true := bne_iff_ne.2 hE9
    have e9b : (E9 == 0) = false := beq_false_of_ne hE9
    clear hE9
    go_wp2_with fail
    refine (works_any _).mono ?_
    rintro e W4 ⟨rfl, hb⟩
    have hB : Below W3.heap.size W3 W4 := Below.trans (by repeat (first | (with_reducible exact Below.refl _ _) | (with_reducible assumption) | (with_reducible refine below_drewN ?_ _) | (with_reducible refine Below.drew ?_) | (with_reducible refine below_ext_of ?_ (by first | exact Nat.le_refl _ | assumption | (simp only [World.size_alloc, World.size_setCell, size_ext, World.heap_drewN]; omega)) _ _) | (with_reducible refine Below.alloc ?_ (by first | exact Nat.le_refl _ | assumption | (simp only [World.size_alloc, World.size_setCell, size_ext, World.heap_drewN]; omega)) _) | (with_reducible refine Below.setCell ?_ (by first | exact Nat.le_refl _ | assumption | (simp only [World.size_alloc, World.size_setCell, size_ext, World.heap_drewN]; omega)) _))) (hb.mono (by simp [go_sem] <;> omega))
    replace RA1 := Lib.hid (RA1.out.below hB)
    replace RA2 := Lib.hid (RA2.out.below hB)
    replace RB1 := Lib.hid (RB1.out.below hB)
    replace RB2 := Lib.hid (RB2.out.below hB)
    replace RX1 := Lib.hid (RX1.out.below hB)
    replace RX2 := Lib.hid (RX2.out.below hB)
    replace RY1 := Lib.hid (RY1.out.below hB)
    replace RY2 := Lib.hid (RY2.out.below hB)
    replace RZ1 := Lib.hid (RZ1.out.below hB)
    replace RZ2 := Lib.hid (RZ2.out.below hB)
    replace HVB := Lib.hid (HVB.out.trans (hB.mono HVB.out.size))
    replace Ka0 := keep_cell hB Na Ka0
    replace Ka1 := keep_cell hB Na Ka1
    replace Na := Nat.lt_of_lt_of_le Na hB.size
    replace Kb0 := keep_cell hB Nb Kb0
    replace Kb1 := keep_cell hB Nb Kb1
    replace Nb := Nat.lt_of_lt_of_le Nb hB.size
    replace Kx0 := keep_cell hB Nx Kx0
    replace Kx1 := keep_cell hB Nx Kx1
    replace Nx := Nat.lt_of_lt_of_le Nx hB.size
    replace Ky0 := keep_cell hB Ny Ky0
    replace Ky1 := keep_cell hB Ny Ky1
    replace Ny := Nat.lt_of_lt_of_le Ny hB.size
    have Kz0 : W4.cell? ⟨W3.heap.size, 0, none⟩ = some (.slice p9 x9.length s9) := keep_cell hb (by simp [go_sem] <;> omega) (by simp [go_sem])
    have Kz1 : W4.cell? ⟨W3.heap.size, 1, none⟩ = some (.slice q9 y9.length t9) := keep_cell hb (by simp [go_sem] <;> omega) (by simp [go_sem])
    have Nz : W3.heap.size < W4.heap.size := Nat.lt_of_lt_of_le (by simp [go_sem] <;> omega) hb.size
    obtain ⟨Bz, hkz⟩ : ∃ b, b = W3.heap.size := ⟨_, rfl⟩
    rw [← hkz] at Kz0 Kz1 Nz ⊢
    clear hkz
    clear hb hB
    go_wp2_with fail
    go_ret
    exact ⟨rfl, HVB.out⟩
end Go.Proofs.Ytpcnapmlmhhcpaa
