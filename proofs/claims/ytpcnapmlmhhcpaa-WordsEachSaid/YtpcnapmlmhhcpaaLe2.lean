/-
  The law WordsEach, from what is dropped of what is put ahead on: true of every two words that may be.
  Conditions: the words lie in memory; their numbers are int64s.
-/
import Derived.Test.YtpcnapmlmhhcpaaLe3
import Derived.WalkKit
import Derived.WalkSpells
import Derived.WalkLawsBesides
import Derived.Deep.QuietTactic
import Derived.BigQuiet
import Derived.Lib.Hide
import Derived.Handy
set_option linter.unusedVariables false
set_option linter.unusedSimpArgs false
namespace Go.Proofs.Ytpcnapmlmhhcpaa
open Go.RowKit 
open Big
attribute [local go_sem] setCell_drewN alloc_drewN size_ext ext_ext ext_drewN ext_drew drewN_ext drew_ext cell?_ext frozen?_ext setCell_ext cell?_past1 frozen?_past1 setCell_past1 cell?_past2 frozen?_past2 setCell_past2 cell?_past3 frozen?_past3 setCell_past3 cell?_past4 frozen?_past4 setCell_past4 cell?_past5 frozen?_past5 setCell_past5 cell?_past6 frozen?_past6 setCell_past6 cell?_past7 frozen?_past7 setCell_past7 cell?_past8 frozen?_past8 setCell_past8
attribute [local go_sem] min_ab max_ab
set_option maxRecDepth 100000 in
set_option maxHeartbeats 40000000 in
theorem each2 (w W : World) (HVB : Hid (Below w.heap.size w W)) (a1 a2 b1 b2 : List Int) (pa1 pa2 pb1 pb2 : Option Addr) (ca1 ca2 cb1 cb2 : Nat) (RA1 : Hid (RowAt W (.slice pa1 a1.length ca1) a1)) (RA2 : Hid (RowAt W (.slice pa2 a2.length ca2) a2)) (Ba : Nat) (Ka0 : W.cell? ⟨Ba, 0, none⟩ = some (.slice pa1 a1.length ca1)) (Ka1 : W.cell? ⟨Ba, 1, none⟩ = some (.slice pa2 a2.length ca2)) (Na : Ba < W.heap.size) (RB1 : Hid (RowAt W (.slice pb1 b1.length cb1) b1)) (RB2 : Hid (RowAt W (.slice pb2 b2.length cb2) b2)) (Bb : Nat) (Kb0 : W.cell? ⟨Bb, 0, none⟩ = some (.slice pb1 b1.length cb1)) (Kb1 : W.cell? ⟨Bb, 1, none⟩ = some (.slice pb2 b2.length cb2)) (Nb : Bb < W.heap.size) (n : Nat) (hn2 : n ≤ 65535) (I_a1 : Hid (in64W a1 a2)) (I_b1 : Hid (in64W b1 b2)) (MA : Hid (may a1 a2 = true)) (MB : Hid (may b1 b2 = true)) (HLA : Hid (a1.length ≤ 200 ∧ a2.length ≤ 200)) (HLB : Hid (b1.length ≤ 200 ∧ b2.length ≤ 200)) (d1 d2 c1 c2 u1 u2 w1_ w2_ k1 k2 : List Int) (pd pc pu pw qd qc qu qw : Option Addr) (sd sc su sw td tc tu tw : Nat) (RD1 : Hid (RowAt W (.slice pd d1.length sd) d1)) (RD2 : Hid (RowAt W (.slice qd d2.length td) d2)) (Bd : Nat) (Kd0 : W.cell? ⟨Bd, 0, none⟩ = some (.slice pd d1.length sd)) (Kd1 : W.cell? ⟨Bd, 1, none⟩ = some (.slice qd d2.length td)) (Nd : Bd < W.heap.size) (RC1 : Hid (RowAt W (.slice pc c1.length sc) c1)) (RC2 : Hid (RowAt W (.slice qc c2.length tc) c2)) (Bc : Nat) (Kc0 : W.cell? ⟨Bc, 0, none⟩ = some (.slice pc c1.length sc)) (Kc1 : W.cell? ⟨Bc, 1, none⟩ = some (.slice qc c2.length tc)) (Nc : Bc < W.heap.size) (RU1 : Hid (RowAt W (.slice pu u1.length su) u1)) (RU2 : Hid (RowAt W (.slice qu u2.length tu) u2)) (Bu : Nat) (Ku0 : W.cell? ⟨Bu, 0, none⟩ = some (.slice pu u1.length su)) (Ku1 : W.cell? ⟨Bu, 1, none⟩ = some (.slice qu u2.length tu)) (Nu : Bu < W.heap.size) (RW1 : Hid (RowAt W (.slice pw w1_.length sw) w1_)) (RW2 : Hid (RowAt W (.slice qw w2_.length tw) w2_)) (Bw : Nat) (Kw0 : W.cell? ⟨Bw, 0, none⟩ = some (.slice pw w1_.length sw)) (Kw1 : W.cell? ⟨Bw, 1, none⟩ = some (.slice qw w2_.length tw)) (Nw : Bw < W.heap.size) (m S4 : Nat) (E4 : Int) (hm0 : 0 < m) (hmb : m ≤ 256) (b4 : S4 ≤ n) (e5 : Int.tdiv (n : Int) (m : Int) = (S4 : Int)) (e5' : ((n : Int) / (m : Int)) = (S4 : Int)) (e5'' : IntKind.i64.wrap (S4 : Int) = (S4 : Int)) (e6 : ¬ ((m : Int) = 0)) (e6' : ¬ (m = 0)) (e8 : IntKind.i64.wrap (n : Int) = (n : Int)) (HS4 : Hid (S4 = n / m)) (NCh : Hid (may c1 c2 = true)) (HK : Hid (dropT c1 c2 1 = (k1, k2, 0))) (KS : Hid (same k1 k2 a1 a2 = true)) (SD : Hid (nE d1 d2 = 0 ∧ nH d1 d2 = d1 ∧ nL d1 d2 = d2)) (SC : Hid (nE c1 c2 = 0 ∧ nH c1 c2 = c1 ∧ nL c1 c2 = c2)) (SW : Hid (nE w1_ w2_ = 0 ∧ nH w1_ w2_ = w1_ ∧ nL w1_ w2_ = w2_)) (HMU : Hid (Made (fun i => num a1 a2 (i / m)) (u1, u2, E4) ∨ (u1, u2, E4) = ([], [], 4))) (g1 : E4 = 0 ∨ E4 = 4) (f0 f1 f2 f3 f4 f7 f8 f9 f10 f14 f16 f20 f21 f22 f23 f24 f25 f26 f27 f28 f29 f30 f31 f32 f33 f34 f35 f36 f37 f38 f39 f40 f41 f42 f43 f44 f45 f46 f47 f48 f49 f50 f51 f52 f53 f54 f55 f56 f57 f58 f59 f60 f61 f62 f63 f64 f65 f66 f67 f68 f69 f70 f71 f72 f73 f74 f75 f76 f77 f78 f79 f80 f81 f82 f83 f84 f85 f86 f87 f88 f89 f90 f91 f92 f93 f94 f95 f96 f97 f98 f99 f100 f101 f102 f103 f104 f105 f106 f107 f108 f109 f110 f111 f112 f113 f114 f115 f116 f117 f118 f119 f120 f121 f122 f123 f124 f125 f126 f127 f128 f129 f130 f131 f132 f133 f134 f135 f136 f137 f138 f139 f140 f141 f142 f143 f144 f145 f146 f147 f148 f149 f150 f151 f152 f153 f154 f155 f156 f157 f158 f159 f160 f161 f162 f163 f164 f165 f166 f167 f168 f169 f170 f171 f172 f173 f174 f175 f176 f177 f178 f179 f180 f181 f182 f183 f184 f185 f186 f187 f188 f189 f190 f191 f192 f193 f194 f195 f196 f197 f198 f199 f200 f201 f202 f203 f204 f205 f206 f207 f208 f209 f210 f211 f212 f213 f214 f215 f216 f217 f218 f219 f220 f221 f222 f223 f224 f225 f226 f227 f228 f229 f230 f231 f232 f233 f234 f235 f236 f237 f238 f239 f240 f241 f242 f243 f244 f245 f246 f247 f248 f249 f250 f251 f252 f253 f254 f255 f256 f257 f258 f259 f260 f261 f262 : Value) : Code.wp Try.prog (eachC 10) (bodyPost Try.prog Try.f5 (fun e w' => e = .returned (.bool true) ∧ Below w.heap.size w w')) { tmps := #[f0, f1, f2, f3, f4, .pointer (some ⟨Ba, 0, none⟩), .pointer (some ⟨Bb, 0, none⟩), f7, f8, f9, f10, .int .i64 (n : Int), .int .i64 (m : Int), .pointer (some ⟨Bd, 0, none⟩), f14, .pointer (some ⟨Bc, 0, none⟩), f16, .pointer (some ⟨Bu, 0, none⟩), .int .i64 E4, .pointer (some ⟨Bw, 0, none⟩), f20, f21, f22, f23, f24, f25, f26, f27, f28, f29, f30, f31, f32, f33, f34, f35, f36, f37, f38, f39, f40, f41, f42, f43, f44, f45, f46, f47, f48, f49, f50, f51, f52, f53, f54, f55, f56, f57, f58, f59, f60, f61, f62, f63, f64, f65, f66, f67, f68, f69, f70, f71, f72, f73, f74, f75, f76, f77, f78, f79, f80, f81, f82, f83, f84, f85, f86, f87, f88, f89, f90, f91, f92, f93, f94, f95, f96, f97, f98, f99, f100, f101, f102, f103, f104, f105, f106, f107, f108, f109, f110, f111, f112, f113, f114, f115, f116, f117, f118, f119, f120, f121, f122, f123, f124, f125, f126, f127, f128, f129, f130, f131, f132, f133, f134, f135, f136, f137, f138, f139, f140, f141, f142, f143, f144, f145, f146, f147, f148, f149, f150, f151, f152, f153, f154, f155, f156, f157, f158, f159, f160, f161, f162, f163, f164, f165, f166, f167, f168, f169, f170, f171, f172, f173, f174, f175, f176, f177, f178, f179, f180, f181, f182, f183, f184, f185, f186, f187, f188, f189, f190, f191, f192, f193, f194, f195, f196, f197, f198, f199, f200, f201, f202, f203, f204, f205, f206, f207, f208, f209, f210, f211, f212, f213, f214, f215, f216, f217, f218, f219, f220, f221, f222, f223, f224, f225, f226, f227, f228, f229, f230, f231, f232, f233, f234, f235, f236, f237, f238, f239, f240, f241, f242, f243, f244, f245, f246, f247, f248, f249, f250, f251, f252, f253, f254, f255, f256, f257, f258, f259, f260, f261, f262], defers := [] } W := by
  conv => arg 2; whnf
  go_wp2_with fail
  refine (drop_call _ _ _ c1 c2 k1 k2 0 1 (by decide) (RC1.out.below (by repeat (first | (with_reducible exact Below.refl _ _) | (with_reducible assumption) | (with_reducible refine below_drewN ?_ _) | (with_reducible refine Below.drew ?_) | (with_reducible refine below_ext_of ?_ (by first | exact Nat.le_refl _ | assumption | (simp only [World.size_alloc, World.size_setCell, size_ext, World.heap_drewN]; omega)) _ _) | (with_reducible refine Below.alloc ?_ (by first | exact Nat.le_refl _ | assumption | (simp only [World.size_alloc, World.size_setCell, size_ext, World.heap_drewN]; omega)) _) | (with_reducible refine Below.setCell ?_ (by first | exact Nat.le_refl _ | assumption | (simp only [World.size_alloc, World.size_setCell, size_ext, World.heap_drewN]; omega)) _)))) (RC2.out.below (by repeat (first | (with_reducible exact Below.refl _ _) | (with_reducible assumption) | (with_reducible refine below_drewN ?_ _) | (with_reducible refine Below.drew ?_) | (with_reducible refine below_ext_of ?_ (by first | exact Nat.le_refl _ | assumption | (simp only [World.size_alloc, World.size_setCell, size_ext, World.heap_drewN]; omega)) _ _) | (with_reducible refine Below.alloc ?_ (by first | exact Nat.le_refl _ | assumption | (simp only [World.size_alloc, World.size_setCell, size_ext, World.heap_drewN]; omega)) _) | (with_reducible refine Below.setCell ?_ (by first | exact Nat.le_refl _ | assumption | (simp only [World.size_alloc, World.size_setCell, size_ext, World.heap_drewN]; omega)) _)))) NCh.out HK.out).mono ?_
  rintro e W1 ⟨hb, pk, sk, qk, tk, rfl, r1, r2⟩
  have hB : Below W.heap.size W W1 := Below.trans (by repeat (first | (with_reducible exact Below.refl _ _) | (with_reducible assumption) | (with_reducible refine below_drewN ?_ _) | (with_reducible refine Below.drew ?_) | (with_reducible refine below_ext_of ?_ (by first | exact Nat.le_refl _ | assumption | (simp only [World.size_alloc, World.size_setCell, size_ext, World.heap_drewN]; omega)) _ _) | (with_reducible refine Below.alloc ?_ (by first | exact Nat.le_refl _ | assumption | (simp only [World.size_alloc, World.size_setCell, size_ext, World.heap_drewN]; omega)) _) | (with_reducible refine Below.setCell ?_ (by first | exact Nat.le_refl _ | assumption | (simp only [World.size_alloc, World.size_setCell, size_ext, World.heap_drewN]; omega)) _))) (hb.mono (by simp [go_sem] <;> omega))
  replace RA1 := Lib.hid (RA1.out.below hB)
  replace RA2 := Lib.hid (RA2.out.below hB)
  replace RB1 := Lib.hid (RB1.out.below hB)
  replace RB2 := Lib.hid (RB2.out.below hB)
  replace RD1 := Lib.hid (RD1.out.below hB)
  replace RD2 := Lib.hid (RD2.out.below hB)
  replace RC1 := Lib.hid (RC1.out.below hB)
  replace RC2 := Lib.hid (RC2.out.below hB)
  replace RU1 := Lib.hid (RU1.out.below hB)
  replace RU2 := Lib.hid (RU2.out.below hB)
  replace RW1 := Lib.hid (RW1.out.below hB)
  replace RW2 := Lib.hid (RW2.out.below hB)
  replace HVB := Lib.hid (HVB.out.trans (hB.mono HVB.out.size))
  replace Ka0 := keep_cell hB Na Ka0
  replace Ka1 := keep_cell hB Na Ka1
  replace Na := Nat.lt_of_lt_of_le Na hB.size
  replace Kb0 := keep_cell hB Nb Kb0
  replace Kb1 := keep_cell hB Nb Kb1
  replace Nb := Nat.lt_of_lt_of_le Nb hB.size
  replace Kd0 := keep_cell hB Nd Kd0
  replace Kd1 := keep_cell hB Nd Kd1
  replace Nd := Nat.lt_of_lt_of_le Nd hB.size
  replace Kc0 := keep_cell hB Nc Kc0
  replace Kc1 := keep_cell hB Nc Kc1
  replace Nc := Nat.lt_of_lt_of_le Nc hB.size
  replace Ku0 := keep_cell hB Nu Ku0
  replace Ku1 := keep_cell hB Nu Ku1
  replace Nu := Nat.lt_of_lt_of_le Nu hB.size
  replace Kw0 := keep_cell hB Nw Kw0
  replace Kw1 := keep_cell hB Nw Kw1
  replace Nw := Nat.lt_of_lt_of_le Nw hB.size
  have RK1 := Lib.hid r1
  have RK2 := Lib.hid r2
  clear r1 r2
  clear hb hB
  go_wp2_with fail
  refine (same_true _ _ _ _ _ k1 k2 a1 a2 (RK1.out.below (by repeat (first | (with_reducible exact Below.refl _ _) | (with_reducible assumption) | (with_reducible refine below_drewN ?_ _) | (with_reducible refine Below.drew ?_) | (with_reducible refine below_ext_of ?_ (by first | exact Nat.le_refl _ | assumption | (simp only [World.size_alloc, World.size_setCell, size_ext, World.heap_drewN]; omega)) _ _) | (with_reducible refine Below.alloc ?_ (by first | exact Nat.le_refl _ | assumption | (simp only [World.size_alloc, World.size_setCell, size_ext, World.heap_drewN]; omega)) _) | (with_reducible refine Below.setCell ?_ (by first | exact Nat.le_refl _ | assumption | (simp only [World.size_alloc, World.size_setCell, size_ext, World.heap_drewN]; omega)) _)))) (RK2.out.below (by repeat (first | (with_reducible exact Below.refl _ _) | (with_reducible assumption) | (with_reducible refine below_drewN ?_ _) | (with_reducible refine Below.drew ?_) | (with_reducible refine below_ext_of ?_ (by first | exact Nat.le_refl _ | assumption | (simp only [World.size_alloc, World.size_setCell, size_ext, World.heap_drewN]; omega)) _ _) | (with_reducible refine Below.alloc ?_ (by first | exact Nat.le_refl _ | assumption | (simp only [World.size_alloc, World.size_setCell, size_ext, World.heap_drewN]; omega)) _) | (with_reducible refine Below.setCell ?_ (by first | exact Nat.le_refl _ | assumption | (simp only [World.size_alloc, World.size_setCell, size_ext, World.heap_drewN]; omega)) _)))) (RA1.out.below (by repeat (first | (with_reducible exact Below.refl _ _) | (with_reducible assumption) | (with_reducible refine below_drewN ?_ _) | (with_reducible refine Below.drew ?_) | (with_reducible refine below_ext_of ?_ (by first | exact Nat.le_refl _ | assumption | (simp only [World.size_alloc, World.size_setCell, size_ext, World.heap_drewN]; omega)) _ _) | (with_reducible refine Below.alloc ?_ (by first | exact Nat.le_refl _ | assumption | (simp only [World.size_alloc, World.size_setCell, size_ext, World.heap_drewN]; omega)) _) | (with_reducible refine Below.setCell ?_ (by first | exact Nat.le_refl _ | assumption | (simp only [World.size_alloc, World.size_setCell, size_ext, World.heap_drewN]; omega)) _)))) (RA2.out.below (by repeat (first | (with_reducible exact Below.refl _ _) | (with_reducible assumption) | (with_reducible refine below_drewN ?_ _) | (with_reducible refine Below.drew ?_) | (with_reducible refine below_ext_of ?_ (by first | exact Nat.le_refl _ | assumption | (simp only [World.size_alloc, World.size_setCell, size_ext, World.heap_drewN]; omega)) _ _) | (with_reducible refine Below.alloc ?_ (by first | exact Nat.le_refl _ | assumption | (simp only [World.size_alloc, World.size_setCell, size_ext, World.heap_drewN]; omega)) _) | (with_reducible refine Below.setCell ?_ (by first | exact Nat.le_refl _ | assumption | (simp only [World.size_alloc, World.size_setCell, size_ext, World.heap_drewN]; omega)) _)))) KS.out).mono ?_
  rintro e W2 ⟨rfl, hb⟩
  have hB : Below W1.heap.size W1 W2 := Below.trans (by repeat (first | (with_reducible exact Below.refl _ _) | (with_reducible assumption) | (with_reducible refine below_drewN ?_ _) | (with_reducible refine Below.drew ?_) | (with_reducible refine below_ext_of ?_ (by first | exact Nat.le_refl _ | assumption | (simp only [World.size_alloc, World.size_setCell, size_ext, World.heap_drewN]; omega)) _ _) | (with_reducible refine Below.alloc ?_ (by first | exact Nat.le_refl _ | assumption | (simp only [World.size_alloc, World.size_setCell, size_ext, World.heap_drewN]; omega)) _) | (with_reducible refine Below.setCell ?_ (by first | exact Nat.le_refl _ | assumption | (simp only [World.size_alloc, World.size_setCell, size_ext, World.heap_drewN]; omega)) _))) (hb.mono (by simp [go_sem] <;> omega))
  replace RA1 := Lib.hid (RA1.out.below hB)
  replace RA2 := Lib.hid (RA2.out.below hB)
  replace RB1 := Lib.hid (RB1.out.below hB)
  replace RB2 := Lib.hid (RB2.out.below hB)
  replace RD1 := Lib.hid (RD1.out.below hB)
  replace RD2 := Lib.hid (RD2.out.below hB)
  replace RC1 := Lib.hid (RC1.out.below hB)
  replace RC2 := Lib.hid (RC2.out.below hB)
  replace RU1 := Lib.hid (RU1.out.below hB)
  replace RU2 := Lib.hid (RU2.out.below hB)
  replace RW1 := Lib.hid (RW1.out.below hB)
  replace RW2 := Lib.hid (RW2.out.below hB)
  replace RK1 := Lib.hid (RK1.out.below hB)
  replace RK2 := Lib.hid (RK2.out.below hB)
  replace HVB := Lib.hid (HVB.out.trans (hB.mono HVB.out.size))
  replace Ka0 := keep_cell hB Na Ka0
  replace Ka1 := keep_cell hB Na Ka1
  replace Na := Nat.lt_of_lt_of_le Na hB.size
  replace Kb0 := keep_cell hB Nb Kb0
  replace Kb1 := keep_cell hB Nb Kb1
  replace Nb := Nat.lt_of_lt_of_le Nb hB.size
  replace Kd0 := keep_cell hB Nd Kd0
  replace Kd1 := keep_cell hB Nd Kd1
  replace Nd := Nat.lt_of_lt_of_le Nd hB.size
  replace Kc0 := keep_cell hB Nc Kc0
  replace Kc1 := keep_cell hB Nc Kc1
  replace Nc := Nat.lt_of_lt_of_le Nc hB.size
  replace Ku0 := keep_cell hB Nu Ku0
  replace Ku1 := keep_cell hB Nu Ku1
  replace Nu := Nat.lt_of_lt_of_le Nu hB.size
  replace Kw0 := keep_cell hB Nw Kw0
  replace Kw1 := keep_cell hB Nw Kw1
  replace Nw := Nat.lt_of_lt_of_le Nw hB.size
  have Kk0 : W2.cell? ⟨W1.heap.size, 0, none⟩ = some (.slice pk k1.length sk) := keep_cell hb (by simp [go_sem] <;> omega) (by simp [go_sem])
  have Kk1 : W2.cell? ⟨W1.heap.size, 1, none⟩ = some (.slice qk k2.length tk) := keep_cell hb (by simp [go_sem] <;> omega) (by simp [go_sem])
  have Nk : W1.heap.size < W2.heap.size := Nat.lt_of_lt_of_le (by simp [go_sem] <;> omega) hb.size
  obtain ⟨Bk, hkk⟩ : ∃ b, b = W1.heap.size := ⟨_, rfl⟩
  rw [← hkk] at Kk0 Kk1 Nk ⊢
  clear hkk
  clear hb hB
  go_wp2_with fail
  refine (short_true _ _ _ d1 d2 (RD1.out.below (by repeat (first | (with_reducible exact Below.refl _ _) | (with_reducible assumption) | (with_reducible refine below_drewN ?_ _) | (with_reducible refine Below.drew ?_) | (with_reducible refine below_ext_of ?_ (by first | exact Nat.le_refl _ | assumption | (simp only [World.size_alloc, World.size_setCell, size_ext, World.heap_drewN]; omega)) _ _) | (with_reducible refine Below.alloc ?_ (by first | exact Nat.le_refl _ | assumption | (simp only [World.size_alloc, World.size_setCell, size_ext, World.heap_drewN]; omega)) _) | (with_reducible refine Below.setCell ?_ (by first | exact Nat.le_refl _ | assumption | (simp only [World.size_alloc, World.size_setCell, size_ext, World.heap_drewN]; omega)) _)))) (RD2.out.below (by repeat (first | (with_reducible exact Below.refl _ _) | (with_reducible assumption) | (with_reducible refine below_drewN ?_ _) | (with_reducible refine Below.drew ?_) | (with_reducible refine below_ext_of ?_ (by first | exact Nat.le_refl _ | assumption | (simp only [World.size_alloc, World.size_setCell, size_ext, World.heap_drewN]; omega)) _ _) | (with_reducible refine Below.alloc ?_ (by first | exact Nat.le_refl _ | assumption | (simp only [World.size_alloc, World.size_setCell, size_ext, World.heap_drewN]; omega)) _) | (with_reducible refine Below.setCell ?_ (by first | exact Nat.le_refl _ | assumption | (simp only [World.size_alloc, World.size_setCell, size_ext, World.heap_drewN]; omega)) _)))) SD.out).mono ?_
  rintro e W3 ⟨rfl, hb⟩
  have hB : Below W2.heap.size W2 W3 := Below.trans (by repeat (first | (with_reducible exact Below.refl _ _) | (with_reducible assumption) | (with_reducible refine below_drewN ?_ _) | (with_reducible refine Below.drew ?_) | (with_reducible refine below_ext_of ?_ (by first | exact Nat.le_refl _ | assumption | (simp only [World.size_alloc, World.size_setCell, size_ext, World.heap_drewN]; omega)) _ _) | (with_reducible refine Below.alloc ?_ (by first | exact Nat.le_refl _ | assumption | (simp only [World.size_alloc, World.size_setCell, size_ext, World.heap_drewN]; omega)) _) | (with_reducible refine Below.setCell ?_ (by first | exact Nat.le_refl _ | assumption | (simp only [World.size_alloc, World.size_setCell, size_ext, World.heap_drewN]; omega)) _))) (hb.mono (by simp [go_sem] <;> omega))
  replace RA1 := Lib.hid (RA1.out.below hB)
  replace RA2 := Lib.hid (RA2.out.below hB)
  replace RB1 := Lib.hid (RB1.out.below hB)
  replace RB2 := Lib.hid (RB2.out.below hB)
  replace RD1 := Lib.hid (RD1.out.below hB)
  replace RD2 := Lib.hid (RD2.out.below hB)
  replace RC1 := Lib.hid (RC1.out.below hB)
  replace RC2 := Lib.hid (RC2.out.below hB)
  replace RU1 := Lib.hid (RU1.out.below hB)
  replace RU2 := Lib.hid (RU2.out.below hB)
  replace RW1 := Lib.hid (RW1.out.below hB)
  replace RW2 := Lib.hid (RW2.out.below hB)
  replace RK1 := Lib.hid (RK1.out.below hB)
  replace RK2 := Lib.hid (RK2.out.below hB)
  replace HVB := Lib.hid (HVB.out.trans (hB.mono HVB.out.size))
  replace Ka0 := keep_cell hB Na Ka0
  replace Ka1 := keep_cell hB Na Ka1
  replace Na := Nat.lt_of_lt_of_le Na hB.size
  replace Kb0 := keep_cell hB Nb Kb0
  replace Kb1 := keep_cell hB Nb Kb1
  replace Nb := Nat.lt_of_lt_of_le Nb hB.size
  replace Kd0 := keep_cell hB Nd Kd0
  replace Kd1 := keep_cell hB Nd Kd1
  replace Nd := Nat.lt_of_lt_of_le Nd hB.size
  replace Kc0 := keep_cell hB Nc Kc0
  replace Kc1 := keep_cell hB Nc Kc1
  replace Nc := Nat.lt_of_lt_of_le Nc hB.size
  replace Ku0 := keep_cell hB Nu Ku0
  replace Ku1 := keep_cell hB Nu Ku1
  replace Nu := Nat.lt_of_lt_of_le Nu hB.size
  replace Kw0 := keep_cell hB Nw Kw0
  replace Kw1 := keep_cell hB Nw Kw1
  replace Nw := Nat.lt_of_lt_of_le Nw hB.size
  replace Kk0 := keep_cell hB Nk Kk0
  replace Kk1 := keep_cell hB Nk Kk1
  replace Nk := Nat.lt_of_lt_of_le Nk hB.size
  clear hb hB
  go_wp2_with fail
  refine (short_true _ _ _ c1 c2 (RC1.out.below (by repeat (first | (with_reducible exact Below.refl _ _) | (with_reducible assumption) | (with_reducible refine below_drewN ?_ _) | (with_reducible refine Below.drew ?_) | (with_reducible refine below_ext_of ?_ (by first | exact Nat.le_refl _ | assumption | (simp only [World.size_alloc, World.size_setCell, size_ext, World.heap_drewN]; omega)) _ _) | (with_reducible refine Below.alloc ?_ (by first | exact Nat.le_refl _ | assumption | (simp only [World.size_alloc, World.size_setCell, size_ext, World.heap_drewN]; omega)) _) | (with_reducible refine Below.setCell ?_ (by first | exact Nat.le_refl _ | assumption | (simp only [World.size_alloc, World.size_setCell, size_ext, World.heap_drewN]; omega)) _)))) (RC2.out.below (by repeat (first | (with_reducible exact Below.refl _ _) | (with_reducible assumption) | (with_reducible refine below_drewN ?_ _) | (with_reducible refine Below.drew ?_) | (with_reducible refine below_ext_of ?_ (by first | exact Nat.le_refl _ | assumption | (simp only [World.size_alloc, World.size_setCell, size_ext, World.heap_drewN]; omega)) _ _) | (with_reducible refine Below.alloc ?_ (by first | exact Nat.le_refl _ | assumption | (simp only [World.size_alloc, World.size_setCell, size_ext, World.heap_drewN]; omega)) _) | (with_reducible refine Below.setCell ?_ (by first | exact Nat.le_refl _ | assumption | (simp only [World.size_alloc, World.size_setCell, size_ext, World.heap_drewN]; omega)) _)))) SC.out).mono ?_
  rintro e W4 ⟨rfl, hb⟩
  have hB : Below W3.heap.size W3 W4 := Below.trans (by repeat (first | (with_reducible exact Below.refl _ _) | (with_reducible assumption) | (with_reducible refine below_drewN ?_ _) | (with_reducible refine Below.drew ?_) | (with_reducible refine below_ext_of ?_ (by first | exact Nat.le_refl _ | assumption | (simp only [World.size_alloc, World.size_setCell, size_ext, World.heap_drewN]; omega)) _ _) | (with_reducible refine Below.alloc ?_ (by first | exact Nat.le_refl _ | assumption | (simp only [World.size_alloc, World.size_setCell, size_ext, World.heap_drewN]; omega)) _) | (with_reducible refine Below.setCell ?_ (by first | exact Nat.le_refl _ | assumption | (simp only [World.size_alloc, World.size_setCell, size_ext, World.heap_drewN]; omega)) _))) (hb.mono (by simp [go_sem] <;> omega))
  replace RA1 := Lib.hid (RA1.out.below hB)
  replace RA2 := Lib.hid (RA2.out.below hB)
  replace RB1 := Lib.hid (RB1.out.below hB)
  replace RB2 := Lib.hid (RB2.out.below hB)
  replace RD1 := Lib.hid (RD1.out.below hB)
  replace RD2 := Lib.hid (RD2.out.below hB)
  replace RC1 := Lib.hid (RC1.out.below hB)
  replace RC2 := Lib.hid (RC2.out.below hB)
  replace RU1 := Lib.hid (RU1.out.below hB)
  replace RU2 := Lib.hid (RU2.out.below hB)
  replace RW1 := Lib.hid (RW1.out.below hB)
  replace RW2 := Lib.hid (RW2.out.below hB)
  replace RK1 := Lib.hid (RK1.out.below hB)
  replace RK2 := Lib.hid (RK2.out.below hB)
  replace HVB := Lib.hid (HVB.out.trans (hB.mono HVB.out.size))
  replace Ka0 := keep_cell hB Na Ka0
  replace Ka1 := keep_cell hB Na Ka1
  replace Na := Nat.lt_of_lt_of_le Na hB.size
  replace Kb0 := keep_cell hB Nb Kb0
  replace Kb1 := keep_cell hB Nb Kb1
  replace Nb := Nat.lt_of_lt_of_le Nb hB.size
  replace Kd0 := keep_cell hB Nd Kd0
  replace Kd1 := keep_cell hB Nd Kd1
  replace Nd := Nat.lt_of_lt_of_le Nd hB.size
  replace Kc0 := keep_cell hB Nc Kc0
  replace Kc1 := keep_cell hB Nc Kc1
  replace Nc := Nat.lt_of_lt_of_le Nc hB.size
  replace Ku0 := keep_cell hB Nu Ku0
  replace Ku1 := keep_cell hB Nu Ku1
  replace Nu := Nat.lt_of_lt_of_le Nu hB.size
  replace Kw0 := keep_cell hB Nw Kw0
  replace Kw1 := keep_cell hB Nw Kw1
  replace Nw := Nat.lt_of_lt_of_le Nw hB.size
  replace Kk0 := keep_cell hB Nk Kk0
  replace Kk1 := keep_cell hB Nk Kk1
  replace Nk := Nat.lt_of_lt_of_le Nk hB.size
  clear hb hB
  go_wp2_with fail
  refine (short_true _ _ _ w1_ w2_ (RW1.out.below (by repeat (first | (with_reducible exact Below.refl _ _) | (with_reducible assumption) | (with_reducible refine below_drewN ?_ _) | (with_reducible refine Below.drew ?_) | (with_reducible refine below_ext_of ?_ (by first | exact Nat.le_refl _ | assumption | (simp only [World.size_alloc, World.size_setCell, size_ext, World.heap_drewN]; omega)) _ _) | (with_reducible refine Below.alloc ?_ (by first | exact Nat.le_refl _ | assumption | (simp only [World.size_alloc, World.size_setCell, size_ext, World.heap_drewN]; omega)) _) | (with_reducible refine Below.setCell ?_ (by first | exact Nat.le_refl _ | assumption | (simp only [World.size_alloc, World.size_setCell, size_ext, World.heap_drewN]; omega)) _)))) (RW2.out.below (by repeat (first | (with_reducible exact Below.refl _ _) | (with_reducible assumption) | (with_reducible refine below_drewN ?_ _) | (with_reducible refine Below.drew ?_) | (with_reducible refine below_ext_of ?_ (by first | exact Nat.le_refl _ | assumption | (simp only [World.size_alloc, World.size_setCell, size_ext, World.heap_drewN]; omega)) _ _) | (with_reducible refine Below.alloc ?_ (by first | exact Nat.le_refl _ | assumption | (simp only [World.size_alloc, World.size_setCell, size_ext, World.heap_drewN]; omega)) _) | (with_reducible refine Below.setCell ?_ (by first | exact Nat.le_refl _ | assumption | (simp only [World.size_alloc, World.size_setCell, size_ext, World.heap_drewN]; omega)) _)))) SW.out).mono ?_
  rintro e W5 ⟨rfl, hb⟩
  have hB : Below W4.heap.size W4 W5 := Below.trans (by repeat (first | (with_reducible exact Below.refl _ _) | (with_reducible assumption) | (with_reducible refine below_drewN ?_ _) | (with_reducible refine Below.drew ?_) | (with_reducible refine below_ext_of ?_ (by first | exact Nat.le_refl _ | assumption | (simp only [World.size_alloc, World.size_setCell, size_ext, World.heap_drewN]; omega)) _ _) | (with_reducible refine Below.alloc ?_ (by first | exact Nat.le_refl _ | assumption | (simp only [World.size_alloc, World.size_setCell, size_ext, World.heap_drewN]; omega)) _) | (with_reducible refine Below.setCell ?_ (by first | exact Nat.le_refl _ | assumption | (simp only [World.size_alloc, World.size_setCell, size_ext, World.heap_drewN]; omega)) _))) (hb.mono (by simp [go_sem] <;> omega))
  replace RA1 := Lib.hid (RA1.out.below hB)
  replace RA2 := Lib.hid (RA2.out.below hB)
  replace RB1 := Lib.hid (RB1.out.below hB)
  replace RB2 := Lib.hid (RB2.out.below hB)
  replace RD1 := Lib.hid (RD1.out.below hB)
  replace RD2 := Lib.hid (RD2.out.below hB)
  replace RC1 := Lib.hid (RC1.out.below hB)
  replace RC2 := Lib.hid (RC2.out.below hB)
  replace RU1 := Lib.hid (RU1.out.below hB)
  replace RU2 := Lib.hid (RU2.out.below hB)
  replace RW1 := Lib.hid (RW1.out.below hB)
  replace RW2 := Lib.hid (RW2.out.below hB)
  replace RK1 := Lib.hid (RK1.out.below hB)
  replace RK2 := Lib.hid (RK2.out.below hB)
  replace HVB := Lib.hid (HVB.out.trans (hB.mono HVB.out.size))
  replace Ka0 := keep_cell hB Na Ka0
  replace Ka1 := keep_cell hB Na Ka1
  replace Na := Nat.lt_of_lt_of_le Na hB.size
  replace Kb0 := keep_cell hB Nb Kb0
  replace Kb1 := keep_cell hB Nb Kb1
  replace Nb := Nat.lt_of_lt_of_le Nb hB.size
  replace Kd0 := keep_cell hB Nd Kd0
  replace Kd1 := keep_cell hB Nd Kd1
  replace Nd := Nat.lt_of_lt_of_le Nd hB.size
  replace Kc0 := keep_cell hB Nc Kc0
  replace Kc1 := keep_cell hB Nc Kc1
  replace Nc := Nat.lt_of_lt_of_le Nc hB.size
  replace Ku0 := keep_cell hB Nu Ku0
  replace Ku1 := keep_cell hB Nu Ku1
  replace Nu := Nat.lt_of_lt_of_le Nu hB.size
  replace Kw0 := keep_cell hB Nw Kw0
  replace Kw1 := keep_cell hB Nw Kw1
  replace Nw := Nat.lt_of_lt_of_le Nw hB.size
  replace Kk0 := keep_cell hB Nk Kk0
  replace Kk1 := keep_cell hB Nk Kk1
  replace Nk := Nat.lt_of_lt_of_le Nk hB.size
  clear hb hB
  go_upto_if 160 with (fail)
  go_cut [] (fun wc => ∃ W9, W9 = wc ∧ Below W5.heap.size W5 W9)
  case first =>
    have HBR := Lib.hid (Below.refl W5.heap.size W5)
    rcases g1 with hg | hg
    · subst hg
      have MU2 : Made (fun i => num a1 a2 (i / m)) (u1, u2, 0) := by
        rcases HMU.out with h | h
        · exact h
        · injection h with _ h; injection h with _ h; cases h
      have NU := Lib.hid (may_of_is MU2.is MU2.hl MU2.ll)
      obtain ⟨⟨o1, o2, E6⟩, ho⟩ : ∃ r, downT u1 u2 m = r := ⟨_, rfl⟩
      have MO : Made _ (o1, o2, E6) := ho ▸ down_made NU.out hm0
      obtain rfl : E6 = 0 := MO.e
      have HO := Lib.hid ho
      have HMU2 := Lib.hid MU2
      have OS := Lib.hid (show same o1 o2 a1 a2 = true from same_is MA.out (by
        have w := MO.is
        rw [MU2.is.num] at w
        have e : (fun i => num a1 a2 (i * m / m)) = num a1 a2 := by funext i; rw [Nat.mul_div_cancel _ hm0]
        rw [e] at w
        exact w) MO.hl MO.ll)
      have HR5 := Lib.hid (show num u1 u2 n = num a1 a2 S4 by rw [MU2.is.num, HS4.out])
      clear ho MO MU2
      go_wp2_with fail
      refine (down_call _ _ _ u1 u2 o1 o2 0 m hm0 (by omega) (RU1.out.below (by repeat (first | (with_reducible exact Below.refl _ _) | (with_reducible assumption) | (with_reducible refine below_drewN ?_ _) | (with_reducible refine Below.drew ?_) | (with_reducible refine below_ext_of ?_ (by first | exact Nat.le_refl _ | assumption | (simp only [World.size_alloc, World.size_setCell, size_ext, World.heap_drewN]; omega)) _ _) | (with_reducible refine Below.alloc ?_ (by first | exact Nat.le_refl _ | assumption | (simp only [World.size_alloc, World.size_setCell, size_ext, World.heap_drewN]; omega)) _) | (with_reducible refine Below.setCell ?_ (by first | exact Nat.le_refl _ | assumption | (simp only [World.size_alloc, World.size_setCell, size_ext, World.heap_drewN]; omega)) _)))) (RU2.out.below (by repeat (first | (with_reducible exact Below.refl _ _) | (with_reducible assumption) | (with_reducible refine below_drewN ?_ _) | (with_reducible refine Below.drew ?_) | (with_reducible refine below_ext_of ?_ (by first | exact Nat.le_refl _ | assumption | (simp only [World.size_alloc, World.size_setCell, size_ext, World.heap_drewN]; omega)) _ _) | (with_reducible refine Below.alloc ?_ (by first | exact Nat.le_refl _ | assumption | (simp only [World.size_alloc, World.size_setCell, size_ext, World.heap_drewN]; omega)) _) | (with_reducible refine Below.setCell ?_ (by first | exact Nat.le_refl _ | assumption | (simp only [World.size_alloc, World.size_setCell, size_ext, World.heap_drewN]; omega)) _)))) NU.out HO.out).mono ?_
      rintro e W6 ⟨hb, pf, sf, qf, tf, rfl, r1, r2⟩
      have hB : Below W5.heap.size W5 W6 := Below.trans (by repeat (first | (with_reducible exact Below.refl _ _) | (with_reducible assumption) | (with_reducible refine below_drewN ?_ _) | (with_reducible refine Below.drew ?_) | (with_reducible refine below_ext_of ?_ (by first | exact Nat.le_refl _ | assumption | (simp only [World.size_alloc, World.size_setCell, size_ext, World.heap_drewN]; omega)) _ _) | (with_reducible refine Below.alloc ?_ (by first | exact Nat.le_refl _ | assumption | (simp only [World.size_alloc, World.size_setCell, size_ext, World.heap_drewN]; omega)) _) | (with_reducible refine Below.setCell ?_ (by first | exact Nat.le_refl _ | assumption | (simp only [World.size_alloc, World.size_setCell, size_ext, World.heap_drewN]; omega)) _))) (hb.mono (by simp [go_sem] <;> omega))
      replace RA1 := Lib.hid (RA1.out.below hB)
      replace RA2 := Lib.hid (RA2.out.below hB)
      replace RB1 := Lib.hid (RB1.out.below hB)
      replace RB2 := Lib.hid (RB2.out.below hB)
      replace RD1 := Lib.hid (RD1.out.below hB)
      replace RD2 := Lib.hid (RD2.out.below hB)
      replace RC1 := Lib.hid (RC1.out.below hB)
      replace RC2 := Lib.hid (RC2.out.below hB)
      replace RU1 := Lib.hid (RU1.out.below hB)
      replace RU2 := Lib.hid (RU2.out.below hB)
      replace RW1 := Lib.hid (RW1.out.below hB)
      replace RW2 := Lib.hid (RW2.out.below hB)
      replace RK1 := Lib.hid (RK1.out.below hB)
      replace RK2 := Lib.hid (RK2.out.below hB)
      replace HVB := Lib.hid (HVB.out.trans (hB.mono HVB.out.size))
      replace Ka0 := keep_cell hB Na Ka0
      replace Ka1 := keep_cell hB Na Ka1
      replace Na := Nat.lt_of_lt_of_le Na hB.size
      replace Kb0 := keep_cell hB Nb Kb0
      replace Kb1 := keep_cell hB Nb Kb1
      replace Nb := Nat.lt_of_lt_of_le Nb hB.size
      replace Kd0 := keep_cell hB Nd Kd0
      replace Kd1 := keep_cell hB Nd Kd1
      replace Nd := Nat.lt_of_lt_of_le Nd hB.size
      replace Kc0 := keep_cell hB Nc Kc0
      replace Kc1 := keep_cell hB Nc Kc1
      replace Nc := Nat.lt_of_lt_of_le Nc hB.size
      replace Ku0 := keep_cell hB Nu Ku0
      replace Ku1 := keep_cell hB Nu Ku1
      replace Nu := Nat.lt_of_lt_of_le Nu hB.size
      replace Kw0 := keep_cell hB Nw Kw0
      replace Kw1 := keep_cell hB Nw Kw1
      replace Nw := Nat.lt_of_lt_of_le Nw hB.size
      replace Kk0 := keep_cell hB Nk Kk0
      replace Kk1 := keep_cell hB Nk Kk1
      replace Nk := Nat.lt_of_lt_of_le Nk hB.size
      replace HBR := Lib.hid (HBR.out.trans (hB.mono HBR.out.size))
      have RO1 := Lib.hid r1
      have RO2 := Lib.hid r2
      clear r1 r2
      clear hb hB
      go_upto_region 18 with (fail)
      obtain ⟨V2, hV2⟩ : ∃ V, V = (W6).alloc (.cells #[.slice pf o1.length sf, .slice qf o2.length tf] 24) := ⟨_, rfl⟩
      rw [← hV2]
      have hB : Below W6.heap.size W6 V2 := by rw [hV2]; repeat (first | (with_reducible exact Below.refl _ _) | (with_reducible assumption) | (with_reducible refine below_drewN ?_ _) | (with_reducible refine Below.drew ?_) | (with_reducible refine below_ext_of ?_ (by first | exact Nat.le_refl _ | assumption | (simp only [World.size_alloc, World.size_setCell, size_ext, World.heap_drewN]; omega)) _ _) | (with_reducible refine Below.alloc ?_ (by first | exact Nat.le_refl _ | assumption | (simp only [World.size_alloc, World.size_setCell, size_ext, World.heap_drewN]; omega)) _) | (with_reducible refine Below.setCell ?_ (by first | exact Nat.le_refl _ | assumption | (simp only [World.size_alloc, World.size_setCell, size_ext, World.heap_drewN]; omega)) _))
      replace RA1 := Lib.hid (RA1.out.below hB)
      replace RA2 := Lib.hid (RA2.out.below hB)
      replace RB1 := Lib.hid (RB1.out.below hB)
      replace RB2 := Lib.hid (RB2.out.below hB)
      replace RD1 := Lib.hid (RD1.out.below hB)
      replace RD2 := Lib.hid (RD2.out.below hB)
      replace RC1 := Lib.hid (RC1.out.below hB)
      replace RC2 := Lib.hid (RC2.out.below hB)
      replace RU1 := Lib.hid (RU1.out.below hB)
      replace RU2 := Lib.hid (RU2.out.below hB)
      replace RW1 := Lib.hid (RW1.out.below hB)
      replace RW2 := Lib.hid (RW2.out.below hB)
      replace RK1 := Lib.hid (RK1.out.below hB)
      replace RK2 := Lib.hid (RK2.out.below hB)
      replace RO1 := Lib.hid (RO1.out.below hB)
      replace RO2 := Lib.hid (RO2.out.below hB)
      replace HVB := Lib.hid (HVB.out.trans (hB.mono HVB.out.size))
      replace HBR := Lib.hid (HBR.out.trans (hB.mono HBR.out.size))
      replace Ka0 := keep_cell hB Na Ka0
      replace Ka1 := keep_cell hB Na Ka1
      replace Na := Nat.lt_of_lt_of_le Na hB.size
      replace Kb0 := keep_cell hB Nb Kb0
      replace Kb1 := keep_cell hB Nb Kb1
      replace Nb := Nat.lt_of_lt_of_le Nb hB.size
      replace Kd0 := keep_cell hB Nd Kd0
      replace Kd1 := keep_cell hB Nd Kd1
      replace Nd := Nat.lt_of_lt_of_le Nd hB.size
      replace Kc0 := keep_cell hB Nc Kc0
      replace Kc1 := keep_cell hB Nc Kc1
      replace Nc := Nat.lt_of_lt_of_le Nc hB.size
      replace Ku0 := keep_cell hB Nu Ku0
      replace Ku1 := keep_cell hB Nu Ku1
      replace Nu := Nat.lt_of_lt_of_le Nu hB.size
      replace Kw0 := keep_cell hB Nw Kw0
      replace Kw1 := keep_cell hB Nw Kw1
      replace Nw := Nat.lt_of_lt_of_le Nw hB.size
      replace Kk0 := keep_cell hB Nk Kk0
      replace Kk1 := keep_cell hB Nk Kk1
      replace Nk := Nat.lt_of_lt_of_le Nk hB.size
      have Ko0 : V2.cell? ⟨W6.heap.size, 0, none⟩ = some (.slice pf o1.length sf) := by rw [hV2]; simp [go_sem]
      have Ko1 : V2.cell? ⟨W6.heap.size, 1, none⟩ = some (.slice qf o2.length tf) := by rw [hV2]; simp [go_sem]
      have No : W6.heap.size < V2.heap.size := by rw [hV2]; simp [go_sem] <;> omega
      obtain ⟨Bo, hko⟩ : ∃ b, b = W6.heap.size := ⟨_, rfl⟩
      rw [← hko] at Ko0 Ko1 No ⊢
      clear hko
      clear hB hV2
      refine wp_region_held_drew (S := (fun W' => W'.cell? ⟨Ba, 0, none⟩ = some (.slice pa1 a1.length ca1) ∧ W'.cell? ⟨Ba, 1, none⟩ = some (.slice pa2 a2.length ca2) ∧ W'.cell? ⟨Bu, 0, none⟩ = some (.slice pu u1.length su) ∧ W'.cell? ⟨Bu, 1, none⟩ = some (.slice qu u2.length tu) ∧ W'.cell? ⟨Bo, 0, none⟩ = some (.slice pf o1.length sf) ∧ W'.cell? ⟨Bo, 1, none⟩ = some (.slice qf o2.length tf))) (by kernel_rfl) ?hS153 (fun hHeld => ?go153)
      case hS153 =>
        (try dsimp only)
        try go_simp
      case go153 =>
      refine' wpAnyH_take (i := 0) (oi := ⟨_, _, _, _, _, _⟩) (v := ?v154) rfl (by kernel_rfl) (by kernel_rfl) (by kernel_rfl) (fun _ _ _ h => h) (Or.inl ⟨by rfl, ?hy154⟩) (by assumption) ?rest154
      case hy154 =>
        intro w hSw
        (try dsimp only at hSw)
        go_simp
        try (with_reducible rfl)
      case rest154 =>
      (try simp only [Act.put, List.setIfInBounds_toArray, List.set_cons_zero, List.set_cons_succ])
      refine' wpAnyH_take (i := 1) (oi := ⟨_, _, _, _, _, _⟩) (v := ?v155) rfl (by kernel_rfl) (by kernel_rfl) (by kernel_rfl) (fun _ _ _ h => h) (Or.inl ⟨by rfl, ?hy155⟩) (by assumption) ?rest155
      case hy155 =>
        intro w hSw
        (try dsimp only at hSw)
        go_simp
        try (with_reducible rfl)
      case rest155 =>
      (try simp only [Act.put, List.setIfInBounds_toArray, List.set_cons_zero, List.set_cons_succ])
      refine' wpAnyH_take (i := 3) (oi := ⟨_, _, _, _, _, _⟩) (v := ?v156) rfl (by kernel_rfl) (by kernel_rfl) (by kernel_rfl) (fun _ _ _ h => h) (Or.inl ⟨by rfl, ?hy156⟩) (by assumption) ?rest156
      case hy156 =>
        intro w hSw
        (try dsimp only at hSw)
        go_simp
        try (with_reducible rfl)
      case rest156 =>
      (try simp only [Act.put, List.setIfInBounds_toArray, List.set_cons_zero, List.set_cons_succ])
      refine' wpAnyH_take (i := 4) (oi := ⟨_, _, _, _, _, _⟩) (v := ?v157) rfl (by kernel_rfl) (by kernel_rfl) (by kernel_rfl) (fun _ _ _ h => h) (Or.inl ⟨by rfl, ?hy157⟩) (by assumption) ?rest157
      case hy157 =>
        intro w hSw
        (try dsimp only at hSw)
        go_simp
        try (with_reducible rfl)
      case rest157 =>
      (try simp only [Act.put, List.setIfInBounds_toArray, List.set_cons_zero, List.set_cons_succ])
      refine' wpAnyH_take (i := 5) (oi := ⟨_, _, _, _, _, _⟩) (v := ?v158) rfl (by kernel_rfl) (by kernel_rfl) (by kernel_rfl) (fun _ _ _ h => h) (Or.inl ⟨by rfl, ?hy158⟩) (by assumption) ?rest158
      case hy158 =>
        intro w hSw
        (try dsimp only at hSw)
        go_simp
        try (with_reducible rfl)
      case rest158 =>
      (try simp only [Act.put, List.setIfInBounds_toArray, List.set_cons_zero, List.set_cons_succ])
      refine' wpAnyH_take (i := 6) (oi := ⟨_, _, _, _, _, _⟩) (v := ?v159) rfl (by kernel_rfl) (by kernel_rfl) (by kernel_rfl) (fun _ _ _ h => h) (Or.inl ⟨by rfl, ?hy159⟩) (by assumption) ?rest159
      case hy159 =>
        intro w hSw
        (try dsimp only at hSw)
        go_simp
        try (with_reducible rfl)
      case rest159 =>
      (try simp only [Act.put, List.setIfInBounds_toArray, List.set_cons_zero, List.set_cons_succ])
      refine wpAnyH_ready (rs := [2]) (by kernel_rfl) (by simp) ?_
      refine AllReadyH.cons (o := ⟨_, _, _, _, _, _⟩) rfl (fun K hK => ?_) AllReadyH.nil
      go_simp
      (go_at_call 25; refine (number_is _ _ _ u1 u2 n _ (RU1.out.below (by repeat (first | (with_reducible exact Below.refl _ _) | (with_reducible assumption) | (with_reducible refine below_drewN ?_ _) | (with_reducible refine Below.drew ?_) | (with_reducible refine below_ext_of ?_ (by first | exact Nat.le_refl _ | assumption | (simp only [World.size_alloc, World.size_setCell, size_ext, World.heap_drewN]; omega)) _ _) | (with_reducible refine Below.alloc ?_ (by first | exact Nat.le_refl _ | assumption | (simp only [World.size_alloc, World.size_setCell, size_ext, World.heap_drewN]; omega)) _) | (with_reducible refine Below.setCell ?_ (by first | exact Nat.le_refl _ | assumption | (simp only [World.size_alloc, World.size_setCell, size_ext, World.heap_drewN]; omega)) _)))) (RU2.out.below (by repeat (first | (with_reducible exact Below.refl _ _) | (with_reducible assumption) | (with_reducible refine below_drewN ?_ _) | (with_reducible refine Below.drew ?_) | (with_reducible refine below_ext_of ?_ (by first | exact Nat.le_refl _ | assumption | (simp only [World.size_alloc, World.size_setCell, size_ext, World.heap_drewN]; omega)) _ _) | (with_reducible refine Below.alloc ?_ (by first | exact Nat.le_refl _ | assumption | (simp only [World.size_alloc, World.size_setCell, size_ext, World.heap_drewN]; omega)) _) | (with_reducible refine Below.setCell ?_ (by first | exact Nat.le_refl _ | assumption | (simp only [World.size_alloc, World.size_setCell, size_ext, World.heap_drewN]; omega)) _)))) NU.out (by omega) HR5.out).mono ?_; rintro e wx ⟨rfl, hbx⟩; obtain ⟨Xx, dx, rfl⟩ := below_ext hbx; clear hbx; go_simp)
      refine hK.out _ _ ?hS160 (fun hHeld2 => ?go160)
      case hS160 =>
        (try dsimp only)
        try go_simp
      case go160 =>
      clear hK K
      clear hHeld
      have hHeld := hHeld2
      clear hHeld2
      (try simp only [Act.put, List.setIfInBounds_toArray, List.set_cons_zero, List.set_cons_succ])
      refine wpAnyH_ready (rs := [7]) (by kernel_rfl) (by simp) ?_
      refine AllReadyH.cons (o := ⟨_, _, _, _, _, _⟩) rfl (fun K hK => ?_) AllReadyH.nil
      go_simp
      (go_at_call 25; refine (number_is _ _ _ a1 a2 S4 _ (RA1.out.below (by repeat (first | (with_reducible exact Below.refl _ _) | (with_reducible assumption) | (with_reducible refine below_drewN ?_ _) | (with_reducible refine Below.drew ?_) | (with_reducible refine below_ext_of ?_ (by first | exact Nat.le_refl _ | assumption | (simp only [World.size_alloc, World.size_setCell, size_ext, World.heap_drewN]; omega)) _ _) | (with_reducible refine Below.alloc ?_ (by first | exact Nat.le_refl _ | assumption | (simp only [World.size_alloc, World.size_setCell, size_ext, World.heap_drewN]; omega)) _) | (with_reducible refine Below.setCell ?_ (by first | exact Nat.le_refl _ | assumption | (simp only [World.size_alloc, World.size_setCell, size_ext, World.heap_drewN]; omega)) _)))) (RA2.out.below (by repeat (first | (with_reducible exact Below.refl _ _) | (with_reducible assumption) | (with_reducible refine below_drewN ?_ _) | (with_reducible refine Below.drew ?_) | (with_reducible refine below_ext_of ?_ (by first | exact Nat.le_refl _ | assumption | (simp only [World.size_alloc, World.size_setCell, size_ext, World.heap_drewN]; omega)) _ _) | (with_reducible refine Below.alloc ?_ (by first | exact Nat.le_refl _ | assumption | (simp only [World.size_alloc, World.size_setCell, size_ext, World.heap_drewN]; omega)) _) | (with_reducible refine Below.setCell ?_ (by first | exact Nat.le_refl _ | assumption | (simp only [World.size_alloc, World.size_setCell, size_ext, World.heap_drewN]; omega)) _)))) MA.out (by omega) rfl).mono ?_; rintro e wx ⟨rfl, hbx⟩; obtain ⟨Xx, dx, rfl⟩ := below_ext hbx; clear hbx; go_simp)
      refine hK.out _ _ ?hS161 (fun hHeld2 => ?go161)
      case hS161 =>
        (try dsimp only)
        try go_simp
      case go161 =>
      clear hK K
      clear hHeld
      have hHeld := hHeld2
      clear hHeld2
      (try simp only [Act.put, List.setIfInBounds_toArray, List.set_cons_zero, List.set_cons_succ])
      refine' wpAnyH_take (i := 8) (oi := ⟨_, _, _, _, _, _⟩) (v := ?v162) rfl (by kernel_rfl) (by kernel_rfl) (by kernel_rfl) (fun _ _ _ h => h) (Or.inl ⟨by rfl, ?hy162⟩) (by assumption) ?rest162
      case hy162 =>
        intro w hSw
        (try dsimp only at hSw)
        go_simp
        try (with_reducible rfl)
      case rest162 =>
      (try simp only [Act.put, List.setIfInBounds_toArray, List.set_cons_zero, List.set_cons_succ])
      refine' wpAnyH_take (i := 9) (oi := ⟨_, _, _, _, _, _⟩) (v := ?v163) rfl (by kernel_rfl) (by kernel_rfl) (by kernel_rfl) (fun _ _ _ h => h) (Or.inl ⟨by rfl, ?hy163⟩) (by assumption) ?rest163
      case hy163 =>
        intro w hSw
        (try dsimp only at hSw)
        go_simp
        try (with_reducible rfl)
      case rest163 =>
      (try simp only [Act.put, List.setIfInBounds_toArray, List.set_cons_zero, List.set_cons_succ])
      refine' wpAnyH_take (i := 10) (oi := ⟨_, _, _, _, _, _⟩) (v := ?v164) rfl (by kernel_rfl) (by kernel_rfl) (by kernel_rfl) (fun _ _ _ h => h) (Or.inl ⟨by rfl, ?hy164⟩) (by assumption) ?rest164
      case hy164 =>
        intro w hSw
        (try dsimp only at hSw)
        go_simp
        try (with_reducible rfl)
      case rest164 =>
      (try simp only [Act.put, List.setIfInBounds_toArray, List.set_cons_zero, List.set_cons_succ])
      refine' wpAnyH_take (i := 11) (oi := ⟨_, _, _, _, _, _⟩) (v := ?v165) rfl (by kernel_rfl) (by kernel_rfl) (by kernel_rfl) (fun _ _ _ h => h) (Or.inl ⟨by rfl, ?hy165⟩) (by assumption) ?rest165
      case hy165 =>
        intro w hSw
        (try dsimp only at hSw)
        go_simp
        try (with_reducible rfl)
      case rest165 =>
      (try simp only [Act.put, List.setIfInBounds_toArray, List.set_cons_zero, List.set_cons_succ])
      refine' wpAnyH_take (i := 12) (oi := ⟨_, _, _, _, _, _⟩) (v := ?v166) rfl (by kernel_rfl) (by kernel_rfl) (by kernel_rfl) (fun _ _ _ h => h) (Or.inl ⟨by rfl, ?hy166⟩) (by assumption) ?rest166
      case hy166 =>
        intro w hSw
        (try dsimp only at hSw)
        go_simp
        try (with_reducible rfl)
      case rest166 =>
      (try simp only [Act.put, List.setIfInBounds_toArray, List.set_cons_zero, List.set_cons_succ])
      refine' wpAnyH_take (i := 13) (oi := ⟨_, _, _, _, _, _⟩) (v := ?v167) rfl (by kernel_rfl) (by kernel_rfl) (by kernel_rfl) (fun _ _ _ h => h) (Or.inl ⟨by rfl, ?hy167⟩) (by assumption) ?rest167
      case hy167 =>
        intro w hSw
        (try dsimp only at hSw)
        go_simp
        try (with_reducible rfl)
      case rest167 =>
      (try simp only [Act.put, List.setIfInBounds_toArray, List.set_cons_zero, List.set_cons_succ])
      refine' wpAnyH_take (i := 14) (oi := ⟨_, _, _, _, _, _⟩) (v := ?v168) rfl (by kernel_rfl) (by kernel_rfl) (by kernel_rfl) (fun _ _ _ h => h) (Or.inl ⟨by rfl, ?hy168⟩) (by assumption) ?rest168
      case hy168 =>
        intro w hSw
        (try dsimp only at hSw)
        go_simp
        try (with_reducible rfl)
      case rest168 =>
      (try simp only [Act.put, List.setIfInBounds_toArray, List.set_cons_zero, List.set_cons_succ])
      refine' wpAnyH_take (i := 15) (oi := ⟨_, _, _, _, _, _⟩) (v := ?v169) rfl (by kernel_rfl) (by kernel_rfl) (by kernel_rfl) (fun _ _ _ h => h) (Or.inl ⟨by rfl, ?hy169⟩) (by assumption) ?rest169
      case hy169 =>
        intro w hSw
        (try dsimp only at hSw)
        go_simp
        try (with_reducible rfl)
      case rest169 =>
      (try simp only [Act.put, List.setIfInBounds_toArray, List.set_cons_zero, List.set_cons_succ])
      refine wpAnyH_ready (rs := [16]) (by kernel_rfl) (by simp) ?_
      refine AllReadyH.cons (o := ⟨_, _, _, _, _, _⟩) rfl (fun K hK => ?_) AllReadyH.nil
      go_simp
      (go_at_call 26; refine (same_true _ _ _ _ _ o1 o2 a1 a2 (RO1.out.below (by repeat (first | (with_reducible exact Below.refl _ _) | (with_reducible assumption) | (with_reducible refine below_drewN ?_ _) | (with_reducible refine Below.drew ?_) | (with_reducible refine below_ext_of ?_ (by first | exact Nat.le_refl _ | assumption | (simp only [World.size_alloc, World.size_setCell, size_ext, World.heap_drewN]; omega)) _ _) | (with_reducible refine Below.alloc ?_ (by first | exact Nat.le_refl _ | assumption | (simp only [World.size_alloc, World.size_setCell, size_ext, World.heap_drewN]; omega)) _) | (with_reducible refine Below.setCell ?_ (by first | exact Nat.le_refl _ | assumption | (simp only [World.size_alloc, World.size_setCell, size_ext, World.heap_drewN]; omega)) _)))) (RO2.out.below (by repeat (first | (with_reducible exact Below.refl _ _) | (with_reducible assumption) | (with_reducible refine below_drewN ?_ _) | (with_reducible refine Below.drew ?_) | (with_reducible refine below_ext_of ?_ (by first | exact Nat.le_refl _ | assumption | (simp only [World.size_alloc, World.size_setCell, size_ext, World.heap_drewN]; omega)) _ _) | (with_reducible refine Below.alloc ?_ (by first | exact Nat.le_refl _ | assumption | (simp only [World.size_alloc, World.size_setCell, size_ext, World.heap_drewN]; omega)) _) | (with_reducible refine Below.setCell ?_ (by first | exact Nat.le_refl _ | assumption | (simp only [World.size_alloc, World.size_setCell, size_ext, World.heap_drewN]; omega)) _)))) (RA1.out.below (by repeat (first | (with_reducible exact Below.refl _ _) | (with_reducible assumption) | (with_reducible refine below_drewN ?_ _) | (with_reducible refine Below.drew ?_) | (with_reducible refine below_ext_of ?_ (by first | exact Nat.le_refl _ | assumption | (simp only [World.size_alloc, World.size_setCell, size_ext, World.heap_drewN]; omega)) _ _) | (with_reducible refine Below.alloc ?_ (by first | exact Nat.le_refl _ | assumption | (simp only [World.size_alloc, World.size_setCell, size_ext, World.heap_drewN]; omega)) _) | (with_reducible refine Below.setCell ?_ (by first | exact Nat.le_refl _ | assumption | (simp only [World.size_alloc, World.size_setCell, size_ext, World.heap_drewN]; omega)) _)))) (RA2.out.below (by repeat (first | (with_reducible exact Below.refl _ _) | (with_reducible assumption) | (with_reducible refine below_drewN ?_ _) | (with_reducible refine Below.drew ?_) | (with_reducible refine below_ext_of ?_ (by first | exact Nat.le_refl _ | assumption | (simp only [World.size_alloc, World.size_setCell, size_ext, World.heap_drewN]; omega)) _ _) | (with_reducible refine Below.alloc ?_ (by first | exact Nat.le_refl _ | assumption | (simp only [World.size_alloc, World.size_setCell, size_ext, World.heap_drewN]; omega)) _) | (with_reducible refine Below.setCell ?_ (by first | exact Nat.le_refl _ | assumption | (simp only [World.size_alloc, World.size_setCell, size_ext, World.heap_drewN]; omega)) _)))) OS.out).mono ?_; rintro e wx ⟨rfl, hbx⟩; obtain ⟨Xx, dx, rfl⟩ := below_ext hbx; clear hbx; go_simp)
      refine hK.out _ _ ?hS170 (fun hHeld2 => ?go170)
      case hS170 =>
        (try dsimp only)
        try go_simp
      case go170 =>
      clear hK K
      clear hHeld
      have hHeld := hHeld2
      clear hHeld2
      (try simp only [Act.put, List.setIfInBounds_toArray, List.set_cons_zero, List.set_cons_succ])
      refine' wpAnyH_take (i := 17) (oi := ⟨_, _, _, _, _, _⟩) (v := ?v171) rfl (by kernel_rfl) (by kernel_rfl) (by kernel_rfl) (fun _ _ _ h => h) (Or.inl ⟨by rfl, ?hy171⟩) (by assumption) ?rest171
      case hy171 =>
        intro w hSw
        (try dsimp only at hSw)
        go_simp
        try (with_reducible rfl)
      case rest171 =>
      (try simp only [Act.put, List.setIfInBounds_toArray, List.set_cons_zero, List.set_cons_succ])
      refine' wpAnyH_take (i := 18) (oi := ⟨_, _, _, _, _, _⟩) (v := ?v172) rfl (by kernel_rfl) (by kernel_rfl) (by kernel_rfl) (fun _ _ _ h => h) (Or.inl ⟨by rfl, ?hy172⟩) (by assumption) ?rest172
      case hy172 =>
        intro w hSw
        (try dsimp only at hSw)
        go_simp
        try (with_reducible rfl)
      case rest172 =>
      (try simp only [Act.put, List.setIfInBounds_toArray, List.set_cons_zero, List.set_cons_succ])
      refine' wpAnyH_take (i := 19) (oi := ⟨_, _, _, _, _, _⟩) (v := ?v173) rfl (by kernel_rfl) (by kernel_rfl) (by kernel_rfl) (fun _ _ _ h => h) (Or.inl ⟨by rfl, ?hy173⟩) (by assumption) ?rest173
      case hy173 =>
        intro w hSw
        (try dsimp only at hSw)
        go_simp
        try (with_reducible rfl)
      case rest173 =>
      (try simp only [Act.put, List.setIfInBounds_toArray, List.set_cons_zero, List.set_cons_succ])
      refine' wpAnyH_take (i := 20) (oi := ⟨_, _, _, _, _, _⟩) (v := ?v174) rfl (by kernel_rfl) (by kernel_rfl) (by kernel_rfl) (fun _ _ _ h => h) (Or.inl ⟨by rfl, ?hy174⟩) (by assumption) ?rest174
      case hy174 =>
        intro w hSw
        (try dsimp only at hSw)
        go_simp
        try (with_reducible rfl)
      case rest174 =>
      (try simp only [Act.put, List.setIfInBounds_toArray, List.set_cons_zero, List.set_cons_succ])
      refine wpAnyH_ready (rs := [21]) (by kernel_rfl) (by simp) ?_
      refine AllReadyH.cons (o := ⟨_, _, _, _, _, _⟩) rfl (fun K hK => ?_) AllReadyH.nil
      go_simp
      (go_at_call 27; refine (short_true _ _ _ u1 u2 (RU1.out.below (by repeat (first | (with_reducible exact Below.refl _ _) | (with_reducible assumption) | (with_reducible refine below_drewN ?_ _) | (with_reducible refine Below.drew ?_) | (with_reducible refine below_ext_of ?_ (by first | exact Nat.le_refl _ | assumption | (simp only [World.size_alloc, World.size_setCell, size_ext, World.heap_drewN]; omega)) _ _) | (with_reducible refine Below.alloc ?_ (by first | exact Nat.le_refl _ | assumption | (simp only [World.size_alloc, World.size_setCell, size_ext, World.heap_drewN]; omega)) _) | (with_reducible refine Below.setCell ?_ (by first | exact Nat.le_refl _ | assumption | (simp only [World.size_alloc, World.size_setCell, size_ext, World.heap_drewN]; omega)) _)))) (RU2.out.below (by repeat (first | (with_reducible exact Below.refl _ _) | (with_reducible assumption) | (with_reducible refine below_drewN ?_ _) | (with_reducible refine Below.drew ?_) | (with_reducible refine below_ext_of ?_ (by first | exact Nat.le_refl _ | assumption | (simp only [World.size_alloc, World.size_setCell, size_ext, World.heap_drewN]; omega)) _ _) | (with_reducible refine Below.alloc ?_ (by first | exact Nat.le_refl _ | assumption | (simp only [World.size_alloc, World.size_setCell, size_ext, World.heap_drewN]; omega)) _) | (with_reducible refine Below.setCell ?_ (by first | exact Nat.le_refl _ | assumption | (simp only [World.size_alloc, World.size_setCell, size_ext, World.heap_drewN]; omega)) _)))) (norm_of_is HMU2.out.is HMU2.out.hl HMU2.out.ll)).mono ?_; rintro e wx ⟨rfl, hbx⟩; obtain ⟨Xx, dx, rfl⟩ := below_ext hbx; clear hbx; go_simp)
      refine hK.out _ _ ?hS175 (fun hHeld2 => ?go175)
      case hS175 =>
        (try dsimp only)
        try go_simp
      case go175 =>
      clear hK K
      clear hHeld
      have hHeld := hHeld2
      clear hHeld2
      (try simp only [Act.put, List.setIfInBounds_toArray, List.set_cons_zero, List.set_cons_succ])
      refine' wpAnyH_take (i := 22) (oi := ⟨_, _, _, _, _, _⟩) (v := ?v176) rfl (by kernel_rfl) (by kernel_rfl) (by kernel_rfl) (fun _ _ _ h => h) (Or.inl ⟨by rfl, ?hy176⟩) (by assumption) ?rest176
      case hy176 =>
        intro w hSw
        (try dsimp only at hSw)
        go_simp
        try (with_reducible rfl)
      case rest176 =>
      (try simp only [Act.put, List.setIfInBounds_toArray, List.set_cons_zero, List.set_cons_succ])
      refine' wpAnyH_take (i := 23) (oi := ⟨_, _, _, _, _, _⟩) (v := ?v177) rfl (by kernel_rfl) (by kernel_rfl) (by kernel_rfl) (fun _ _ _ h => h) (Or.inl ⟨by rfl, ?hy177⟩) (by assumption) ?rest177
      case hy177 =>
        intro w hSw
        (try dsimp only at hSw)
        go_simp
        try (with_reducible rfl)
      case rest177 =>
      (try simp only [Act.put, List.setIfInBounds_toArray, List.set_cons_zero, List.set_cons_succ])
      refine wpAnyH_done (by kernel_rfl) ?_ _
      go_wp2_with fail
      go_meet
      case rel => exact ⟨_, rfl, HBR.out.trans (Below.mono (by repeat (first | (with_reducible exact Below.refl _ _) | (with_reducible assumption) | (with_reducible refine below_drewN ?_ _) | (with_reducible refine Below.drew ?_) | (with_reducible refine below_ext_of ?_ (by first | exact Nat.le_refl _ | assumption | (simp only [World.size_alloc, World.size_setCell, size_ext, World.heap_drewN]; omega)) _ _) | (with_reducible refine Below.alloc ?_ (by first | exact Nat.le_refl _ | assumption | (simp only [World.size_alloc, World.size_setCell, size_ext, World.heap_drewN]; omega)) _) | (with_reducible refine Below.setCell ?_ (by first | exact Nat.le_refl _ | assumption | (simp only [World.size_alloc, World.size_setCell, size_ext, World.heap_drewN]; omega)) _))) HBR.out.size)⟩
    · subst hg
      go_wp2_with fail
      go_meet
      case rel => exact ⟨_, rfl, HBR.out.trans (Below.mono (by repeat (first | (with_reducible exact Below.refl _ _) | (with_reducible assumption) | (with_reducible refine below_drewN ?_ _) | (with_reducible refine Below.drew ?_) | (with_reducible refine below_ext_of ?_ (by first | exact Nat.le_refl _ | assumption | (simp only [World.size_alloc, World.size_setCell, size_ext, World.heap_drewN]; omega)) _ _) | (with_reducible refine Below.alloc ?_ (by first | exact Nat.le_refl _ | assumption | (simp only [World.size_alloc, World.size_setCell, size_ext, World.heap_drewN]; omega)) _) | (with_reducible refine Below.setCell ?_ (by first | exact Nat.le_refl _ | assumption | (simp only [World.size_alloc, World.size_setCell, size_ext, World.heap_drewN]; omega)) _))) HBR.out.size)⟩
  case rest =>
  obtain ⟨Y1, rfl, hB⟩ := hcut
  replace RA1 := Lib.hid (RA1.out.below hB)
  replace RA2 := Lib.hid (RA2.out.below hB)
  replace RB1 := Lib.hid (RB1.out.below hB)
  replace RB2 := Lib.hid (RB2.out.below hB)
  replace RD1 := Lib.hid (RD1.out.below hB)
  replace RD2 := Lib.hid (RD2.out.below hB)
  replace RC1 := Lib.hid (RC1.out.below hB)
  replace RC2 := Lib.hid (RC2.out.below hB)
  replace RU1 := Lib.hid (RU1.out.below hB)
  replace RU2 := Lib.hid (RU2.out.below hB)
  replace RW1 := Lib.hid (RW1.out.below hB)
  replace RW2 := Lib.hid (RW2.out.below hB)
  replace RK1 := Lib.hid (RK1.out.below hB)
  replace RK2 := Lib.hid (RK2.out.below hB)
  replace HVB := Lib.hid (HVB.out.trans (hB.mono HVB.out.size))
  replace Ka0 := keep_cell hB Na Ka0
  replace Ka1 := keep_cell hB Na Ka1
  replace Na := Nat.lt_of_lt_of_le Na hB.size
  replace Kb0 := keep_cell hB Nb Kb0
  replace Kb1 := keep_cell hB Nb Kb1
  replace Nb := Nat.lt_of_lt_of_le Nb hB.size
  replace Kd0 := keep_cell hB Nd Kd0
  replace Kd1 := keep_cell hB Nd Kd1
  replace Nd := Nat.lt_of_lt_of_le Nd hB.size
  replace Kc0 := keep_cell hB Nc Kc0
  replace Kc1 := keep_cell hB Nc Kc1
  replace Nc := Nat.lt_of_lt_of_le Nc hB.size
  replace Ku0 := keep_cell hB Nu Ku0
  replace Ku1 := keep_cell hB Nu Ku1
  replace Nu := Nat.lt_of_lt_of_le Nu hB.size
  replace Kw0 := keep_cell hB Nw Kw0
  replace Kw1 := keep_cell hB Nw Kw1
  replace Nw := Nat.lt_of_lt_of_le Nw hB.size
  replace Kk0 := keep_cell hB Nk Kk0
  replace Kk1 := keep_cell hB Nk Kk1
  replace Nk := Nat.lt_of_lt_of_le Nk hB.size
  clear hB
  apply_assumption
  exact each3 w Y1 HVB a1 a2 b1 b2 pa1 pa2 pb1 pb2 ca1 ca2 cb1 cb2 RA1 RA2 Ba Ka0 Ka1 Na RB1 RB2 Bb Kb0 Kb1 Nb n hn2 I_a1 I_b1 MA MB HLA HLB _ _ _ _ _ _ _ _ _ _ _ _ _ _ _ _ _ _ _ _ _ _ _ _ _ _ _ _ _ _ _ _ _ _ _ _ _ _ _ _ _ _ _ _ _ _ _ _ _ _ _ _ _ _ _ _ _ _ _ _ _ _ _ _ _ _ _ _ _ _ _ _ _ _ _ _ _ _ _ _ _ _ _ _ _ _ _ _ _ _ _ _ _ _ _ _ _ _ _ _ _ _ _ _ _ _ _ _ _ _ _ _ _ _ _ _ _ _ _ _ _ _ _ _ _ _ _ _ _ _ _ _ _ _ _ _ _ _ _ _ _ _ _ _ _ _ _ _ _ _ _ _ _ _ _ _ _ _ _ _ _ _ _ _ _ _ _ _ _ _ _ _ _ _ _ _ _ _ _ _ _ _ _ _ _ _ _ _ _ _ _ _ _ _ _ _ _ _ _ _ _ _ _ _ _ _ _ _ _ _ _ _ _ _ _ _ _ _ _ _ _ _ _ _ _ _ _ _ _ _ _ _ _ _ _ _ _ _ _ _ _ _ _ _ _ _ _ _ _ _ _ _ _ _ _ _ _ _ _ _
end Go.Proofs.Ytpcnapmlmhhcpaa
