import Derived.Test.YtdfpoemghnhlfaaPx5
import Derived.Test.YtdfpoemghnhlfaaG
import Derived.Test.YtdfpoemghnhlfaaDj
import Derived.WalkKit
import Derived.WalkSpells
import Derived.WalkLawsBesides
import Derived.Lib.Hide
import Derived.KernelRfl
set_option linter.unusedVariables false
set_option linter.unusedSimpArgs false
namespace Go.Proofs.Ytdfpoemghnhlfaa.P
open Go.RowKit Go.Proofs.YtdfpoemghnhlfaaW.PrintWords Go.Proofs.YtdfpoemghnhlfaaW.PrintLast Go.Proofs.YtdfpoemghnhlfaaW.PrintMore
attribute [local go_sem] setCell_drewN alloc_drewN size_ext ext_ext ext_drewN ext_drew drewN_ext drew_ext cell?_ext frozen?_ext setCell_ext cell?_past1 frozen?_past1 setCell_past1 cell?_past2 frozen?_past2 setCell_past2 cell?_past3 frozen?_past3 setCell_past3 cell?_past4 frozen?_past4 setCell_past4 cell?_past5 frozen?_past5 setCell_past5 cell?_past6 frozen?_past6 setCell_past6 cell?_past7 frozen?_past7 setCell_past7 cell?_past8 frozen?_past8 setCell_past8

theorem keep_cell {w w' : World} {n i : Nat} {v : Value} (hb : Below w.heap.size w w') (hn : n < w.heap.size) (h : w.cell? ⟨n, i, none⟩ = some v) : w'.cell? ⟨n, i, none⟩ = some v := by
  obtain ⟨X, d, rfl⟩ := below_ext hb
  rw [cell?_ext _ _ _ _ _ hn]; exact h
theorem keep_new {w w' : World} {vs : Array Value} {s : Nat} (hb : Below (w.alloc (.cells vs s)).heap.size (w.alloc (.cells vs s)) w') (i : Nat) {v : Value} (h : vs[i]? = some v) : w'.cell? ⟨w.heap.size, i, none⟩ = some v :=
  keep_cell hb (by simp [go_sem]) (by rw [← h]; exact cell_of (World.alloc_heap_new w (.cells vs s)) i)
def wl : List S48 := [⟨4, 2, 0, 0, 0, 0⟩, ⟨1, 0, 0, 7, 1, 0⟩]
theorem all_wl : deps_All.f 40 wl = some ([(⟨true, 7, 0⟩ : S26)], [(⟨false, 0, 0⟩ : S26), (⟨false, 0, 0⟩ : S26)], 1, 0) := by kernel_rfl
theorem of_wl : deps_Of.f 40 wl 3 = some (false, 0, 1, 0) := by kernel_rfl
theorem at_0 : deps_At.f [(⟨true, 7, 0⟩ : S26)] [(⟨false, 0, 0⟩ : S26), (⟨false, 0, 0⟩ : S26)] 1 0 = some (true, 7, 0, 0) := by kernel_rfl
theorem at_4 : deps_At.f [(⟨true, 7, 0⟩ : S26)] [(⟨false, 0, 0⟩ : S26), (⟨false, 0, 0⟩ : S26)] 1 4 = some (false, 0, 1, 0) := by kernel_rfl
theorem last_1 : deps_Last.f [(⟨true, 7, 0⟩ : S26)] [(⟨false, 0, 0⟩ : S26), (⟨false, 0, 0⟩ : S26)] 1 1 = some (4, true, 0) := by kernel_rfl
theorem may_1 : deps_May.f [(⟨true, 7, 0⟩ : S26)] [(⟨false, 0, 0⟩ : S26), (⟨false, 0, 0⟩ : S26)] 1 = some true := by kernel_rfl
theorem may_0 : deps_May.f [] [] 0 = some false := by kernel_rfl
/-- A block that holds just these links. -/
theorem reads_wl {w : World} {B : Nat} (h : w.heap[B]? = some (.cells #[.int .u8 4, .int .i64 2, .int .i64 0, .int .i64 0, .int .u8 0, .int .i64 0, .int .u8 1, .int .i64 0, .int .i64 0, .int .i64 7, .int .u8 1, .int .i64 0] 48)) : Kd.C k48 w (some ⟨B, 0, none⟩) wl.length wl := by
  have h0 : w = w := rfl
  refine ⟨rfl, by decide, fun _ => ⟨_, rfl, fun j p hj => ?_⟩⟩
  have hj2 : j < 2 := (List.getElem?_eq_some_iff.1 hj).1
  have hc : ∀ o, w.cell? ⟨B, o, none⟩ = #[Value.int .u8 4, .int .i64 2, .int .i64 0, .int .i64 0, .int .u8 0, .int .i64 0, .int .u8 1, .int .i64 0, .int .i64 0, .int .i64 7, .int .u8 1, .int .i64 0][o]? := fun o => cell_of h o
  refine ⟨_, rfl, k48_mk w p, fun i u hu => ?_⟩
  have hi : i < 6 := (List.getElem?_eq_some_iff.1 hu).1
  have ha : (⟨B, 0, none⟩ : Addr).add (j * k48.sz + i) = ⟨B, j * 6 + i, none⟩ := by
    unfold Addr.add
    split
    · rename_i hz
      rw [show j * 6 + i = 0 from hz]
    · simp; rfl
  rw [ha, hc]
  rcases j with _ | _ | j
  · cases hj
    rcases i with _ | _ | _ | _ | _ | _ | i <;> first | exact hu | omega
  · cases hj
    rcases i with _ | _ | _ | _ | _ | _ | i <;> first | exact hu | omega
  · omega
theorem all_call (A : Option Addr) (w : World) (h : Kd.C k48 w A 2 wl) : Calls Try.prog 10 #[.slice A 2 2] w fun e w' => ∃ A0 A1 c0 c1, e = .returned (.tuple #[.agg #[.slice A0 1 c0, .slice A1 2 c1, .int .i64 1], .int .i64 0]) ∧ Kd.C k26 w' A0 1 [(⟨true, 7, 0⟩ : S26)] ∧ 1 ≤ c0 ∧ Kd.C k26 w' A1 2 [(⟨false, 0, 0⟩ : S26), (⟨false, 0, 0⟩ : S26)] ∧ 2 ≤ c1 ∧ Below w.heap.size w w' := by
  refine (deps_All.calls 40 A 2 wl [(⟨true, 7, 0⟩ : S26)] [(⟨false, 0, 0⟩ : S26), (⟨false, 0, 0⟩ : S26)] 1 0 w h (by decide) all_wl).mono ?_
  rintro e V ⟨v0, v1, rfl, r0, r1, hb⟩
  obtain ⟨A0, c0, rfl, l0, q0⟩ := Kd.R_reads r0
  obtain ⟨A1, c1, rfl, l1, q1⟩ := Kd.R_reads r1
  exact ⟨A0, A1, c0, c1, rfl, q0, l0, q1, l1, hb⟩
theorem of_call (A : Option Addr) (w : World) (h : Kd.C k48 w A 2 wl) : Calls Try.prog 9 #[.slice A 2 2, .int .i64 3] w fun e w' => e = .returned (.tuple #[.agg #[.bool false, .int .i64 0, .int .i64 1], .int .i64 0]) ∧ Below w.heap.size w w' := deps_Of.calls 40 A 2 wl 3 false 0 1 0 w h (by decide) of_wl
theorem at0_call (A0 A1 : Option Addr) (c0 c1 : Nat) (w : World) (h0 : Kd.C k26 w A0 1 [(⟨true, 7, 0⟩ : S26)]) (l0 : 1 ≤ c0) (h1 : Kd.C k26 w A1 2 [(⟨false, 0, 0⟩ : S26), (⟨false, 0, 0⟩ : S26)]) (l1 : 2 ≤ c1) : Calls Try.prog 15 #[.agg #[.slice A0 1 c0, .slice A1 2 c1, .int .i64 1], .int .i64 0] w fun e w' => e = .returned (.tuple #[.agg #[.bool true, .int .i64 7, .int .i64 0], .int .i64 0]) ∧ Below w.heap.size w w' := deps_At.calls A0 c0 [(⟨true, 7, 0⟩ : S26)] A1 c1 [(⟨false, 0, 0⟩ : S26), (⟨false, 0, 0⟩ : S26)] 1 0 true 7 0 0 w h0 l0 h1 l1 at_0
theorem at4_call (A0 A1 : Option Addr) (c0 c1 : Nat) (w : World) (h0 : Kd.C k26 w A0 1 [(⟨true, 7, 0⟩ : S26)]) (l0 : 1 ≤ c0) (h1 : Kd.C k26 w A1 2 [(⟨false, 0, 0⟩ : S26), (⟨false, 0, 0⟩ : S26)]) (l1 : 2 ≤ c1) : Calls Try.prog 15 #[.agg #[.slice A0 1 c0, .slice A1 2 c1, .int .i64 1], .int .i64 4] w fun e w' => e = .returned (.tuple #[.agg #[.bool false, .int .i64 0, .int .i64 1], .int .i64 0]) ∧ Below w.heap.size w w' := deps_At.calls A0 c0 [(⟨true, 7, 0⟩ : S26)] A1 c1 [(⟨false, 0, 0⟩ : S26), (⟨false, 0, 0⟩ : S26)] 1 4 false 0 1 0 w h0 l0 h1 l1 at_4
theorem last_call (A0 A1 : Option Addr) (c0 c1 : Nat) (w : World) (h0 : Kd.C k26 w A0 1 [(⟨true, 7, 0⟩ : S26)]) (l0 : 1 ≤ c0) (h1 : Kd.C k26 w A1 2 [(⟨false, 0, 0⟩ : S26), (⟨false, 0, 0⟩ : S26)]) (l1 : 2 ≤ c1) : Calls Try.prog 16 #[.agg #[.slice A0 1 c0, .slice A1 2 c1, .int .i64 1], .int .i64 1] w fun e w' => e = .returned (.tuple #[.int .i64 4, .bool true, .int .i64 0]) ∧ Below w.heap.size w w' := deps_Last.calls A0 c0 [(⟨true, 7, 0⟩ : S26)] A1 c1 [(⟨false, 0, 0⟩ : S26), (⟨false, 0, 0⟩ : S26)] 1 1 4 true 0 w h0 l0 h1 l1 last_1
theorem may1_call (A0 A1 : Option Addr) (c0 c1 : Nat) (w : World) (h0 : Kd.C k26 w A0 1 [(⟨true, 7, 0⟩ : S26)]) (l0 : 1 ≤ c0) (h1 : Kd.C k26 w A1 2 [(⟨false, 0, 0⟩ : S26), (⟨false, 0, 0⟩ : S26)]) (l1 : 2 ≤ c1) : Calls Try.prog 18 #[.agg #[.slice A0 1 c0, .slice A1 2 c1, .int .i64 1]] w fun e w' => e = .returned (.bool true) ∧ Below w.heap.size w w' := deps_May.calls A0 c0 [(⟨true, 7, 0⟩ : S26)] A1 c1 [(⟨false, 0, 0⟩ : S26), (⟨false, 0, 0⟩ : S26)] 1 true w h0 l0 h1 l1 may_1
theorem may0_call (w : World) : Calls Try.prog 18 #[.agg #[.slice none 0 0, .slice none 0 0, .int .i64 0]] w fun e w' => e = .returned (.bool false) ∧ Below w.heap.size w w' := deps_May.calls none 0 [] none 0 [] 0 false w (Kd.C_nil _ _) (Nat.le_refl _) (Kd.C_nil _ _) (Nat.le_refl _) may_0
theorem up_2 (w : World) : Calls Try.prog 21 #[.int .i64 2] w fun e w' => e = .returned (.agg #[.int .u8 4, .int .i64 2, .int .i64 0, .int .i64 0, .int .u8 0, .int .i64 0]) ∧ Below w.heap.size w w' := by
  go_enter Try.func21, Try.ntmps21
  go_wp2_with fail
  refine bodyPost_ret (v := .agg #[.int .u8 4, .int .i64 2, .int .i64 0, .int .i64 0, .int .u8 0, .int .i64 0]) (by simp [results, Try.results21, go_sem]) rfl ⟨rfl, ?_⟩
  repeat (first | (with_reducible exact Below.refl _ _) | (with_reducible assumption) | (with_reducible refine below_drewN ?_ _) | (with_reducible refine Below.drew ?_) | (with_reducible refine below_ext_of ?_ (by first | exact Nat.le_refl _ | assumption | (simp only [World.size_alloc, World.size_setCell, size_ext, World.heap_drewN]; omega)) _ _) | (with_reducible refine Below.alloc ?_ (by first | exact Nat.le_refl _ | assumption | (simp only [World.size_alloc, World.size_setCell, size_ext, World.heap_drewN]; omega)) _) | (with_reducible refine Below.setCell ?_ (by first | exact Nat.le_refl _ | assumption | (simp only [World.size_alloc, World.size_setCell, size_ext, World.heap_drewN]; omega)) _))
theorem fby_7 (w : World) : Calls Try.prog 22 #[.int .i64 7] w fun e w' => e = .returned (.agg #[.int .u8 1, .int .i64 0, .int .i64 0, .int .i64 7, .int .u8 1, .int .i64 0]) ∧ Below w.heap.size w w' := by
  go_enter Try.func22, Try.ntmps22
  go_wp2_with fail
  refine bodyPost_ret (v := .agg #[.int .u8 1, .int .i64 0, .int .i64 0, .int .i64 7, .int .u8 1, .int .i64 0]) (by simp [results, Try.results22, go_sem]) rfl ⟨rfl, ?_⟩
  repeat (first | (with_reducible exact Below.refl _ _) | (with_reducible assumption) | (with_reducible refine below_drewN ?_ _) | (with_reducible refine Below.drew ?_) | (with_reducible refine below_ext_of ?_ (by first | exact Nat.le_refl _ | assumption | (simp only [World.size_alloc, World.size_setCell, size_ext, World.heap_drewN]; omega)) _ _) | (with_reducible refine Below.alloc ?_ (by first | exact Nat.le_refl _ | assumption | (simp only [World.size_alloc, World.size_setCell, size_ext, World.heap_drewN]; omega)) _) | (with_reducible refine Below.setCell ?_ (by first | exact Nat.le_refl _ | assumption | (simp only [World.size_alloc, World.size_setCell, size_ext, World.heap_drewN]; omega)) _))
set_option maxRecDepth 100000 in
set_option maxHeartbeats 8000000 in
theorem works_any (w : World) : Calls Try.prog 8 #[] w fun e w' => e = .returned (.bool true) ∧ Below w.heap.size w w' := by
  go_enter Try.func8, Try.ntmps8
  go_wp2_with fail
  refine (up_2 _).mono ?_
  rintro e w' ⟨rfl, hb⟩
  obtain ⟨X1, d1, rfl⟩ := below_ext hb
  clear hb
  go_wp2_with fail
  refine (fby_7 _).mono ?_
  rintro e w' ⟨rfl, hb⟩
  obtain ⟨X2, d2, rfl⟩ := below_ext hb
  clear hb
  go_wp2_with fail
  have hbk := World.alloc_heap_new (ext (ext w X1 d1) X2 d2) (.cells #[.int .u8 4, .int .i64 2, .int .i64 0, .int .i64 0, .int .u8 0, .int .i64 0, .int .u8 1, .int .i64 0, .int .i64 0, .int .i64 7, .int .u8 1, .int .i64 0] 48)
  rw [ext_ext, size_ext, Array.size_append] at hbk
  have hwl := reads_wl hbk
  refine (all_call _ _ hwl).mono ?_
  rintro e V ⟨A0, A1, c0, c1, rfl, q0, l0, q1, l1, hb⟩
  have HWL := Lib.hid (Kd.C_below hwl hb)
  have Q0 := Lib.hid q0
  have Q1 := Lib.hid q1
  have HVB : Hid (Below w.heap.size w V) := Lib.hid (Below.trans (by repeat (first | (with_reducible exact Below.refl _ _) | (with_reducible assumption) | (with_reducible refine below_drewN ?_ _) | (with_reducible refine Below.drew ?_) | (with_reducible refine below_ext_of ?_ (by first | exact Nat.le_refl _ | assumption | (simp only [World.size_alloc, World.size_setCell, size_ext, World.heap_drewN]; omega)) _ _) | (with_reducible refine Below.alloc ?_ (by first | exact Nat.le_refl _ | assumption | (simp only [World.size_alloc, World.size_setCell, size_ext, World.heap_drewN]; omega)) _) | (with_reducible refine Below.setCell ?_ (by first | exact Nat.le_refl _ | assumption | (simp only [World.size_alloc, World.size_setCell, size_ext, World.heap_drewN]; omega)) _))) (hb.mono (by simp [go_sem] <;> omega)))
  clear hbk hwl q0 q1 hb
  obtain ⟨B, hB⟩ : ∃ B, B = w.heap.size + (X1.size + X2.size) := ⟨_, rfl⟩
  rw [← hB] at HWL ⊢
  clear hB
  go_wp2_with fail
  refine (at0_call _ _ _ _ _ (Kd.C_below Q0.out (by repeat (first | (with_reducible exact Below.refl _ _) | (with_reducible assumption) | (with_reducible refine below_drewN ?_ _) | (with_reducible refine Below.drew ?_) | (with_reducible refine below_ext_of ?_ (by first | exact Nat.le_refl _ | assumption | (simp only [World.size_alloc, World.size_setCell, size_ext, World.heap_drewN]; omega)) _ _) | (with_reducible refine Below.alloc ?_ (by first | exact Nat.le_refl _ | assumption | (simp only [World.size_alloc, World.size_setCell, size_ext, World.heap_drewN]; omega)) _) | (with_reducible refine Below.setCell ?_ (by first | exact Nat.le_refl _ | assumption | (simp only [World.size_alloc, World.size_setCell, size_ext, World.heap_drewN]; omega)) _)))) l0 (Kd.C_below Q1.out (by repeat (first | (with_reducible exact Below.refl _ _) | (with_reducible assumption) | (with_reducible refine below_drewN ?_ _) | (with_reducible refine Below.drew ?_) | (with_reducible refine below_ext_of ?_ (by first | exact Nat.le_refl _ | assumption | (simp only [World.size_alloc, World.size_setCell, size_ext, World.heap_drewN]; omega)) _ _) | (with_reducible refine Below.alloc ?_ (by first | exact Nat.le_refl _ | assumption | (simp only [World.size_alloc, World.size_setCell, size_ext, World.heap_drewN]; omega)) _) | (with_reducible refine Below.setCell ?_ (by first | exact Nat.le_refl _ | assumption | (simp only [World.size_alloc, World.size_setCell, size_ext, World.heap_drewN]; omega)) _)))) l1).mono ?_
  rintro e W1 ⟨rfl, hb⟩
  have hB : Below V.heap.size V W1 := Below.trans (by repeat (first | (with_reducible exact Below.refl _ _) | (with_reducible assumption) | (with_reducible refine below_drewN ?_ _) | (with_reducible refine Below.drew ?_) | (with_reducible refine below_ext_of ?_ (by first | exact Nat.le_refl _ | assumption | (simp only [World.size_alloc, World.size_setCell, size_ext, World.heap_drewN]; omega)) _ _) | (with_reducible refine Below.alloc ?_ (by first | exact Nat.le_refl _ | assumption | (simp only [World.size_alloc, World.size_setCell, size_ext, World.heap_drewN]; omega)) _) | (with_reducible refine Below.setCell ?_ (by first | exact Nat.le_refl _ | assumption | (simp only [World.size_alloc, World.size_setCell, size_ext, World.heap_drewN]; omega)) _))) (hb.mono (by simp [go_sem] <;> omega))
  replace Q0 := Lib.hid (Kd.C_below Q0.out hB)
  replace Q1 := Lib.hid (Kd.C_below Q1.out hB)
  replace HWL := Lib.hid (Kd.C_below HWL.out hB)
  replace HVB := Lib.hid (HVB.out.trans (hB.mono HVB.out.size))
  have K10 := keep_new hb 0 rfl
  have K11 := keep_new hb 1 rfl
  have K12 := keep_new hb 2 rfl
  have N1 : V.heap.size < W1.heap.size := Nat.lt_of_lt_of_le (by simp [go_sem]) hb.size
  clear hb hB
  obtain ⟨b1, hk⟩ : ∃ b, b = V.heap.size := ⟨_, rfl⟩
  rw [← hk] at K10 K11 K12 N1 ⊢
  clear hk
  go_wp2_with fail
  refine (at4_call _ _ _ _ _ (Kd.C_below Q0.out (by repeat (first | (with_reducible exact Below.refl _ _) | (with_reducible assumption) | (with_reducible refine below_drewN ?_ _) | (with_reducible refine Below.drew ?_) | (with_reducible refine below_ext_of ?_ (by first | exact Nat.le_refl _ | assumption | (simp only [World.size_alloc, World.size_setCell, size_ext, World.heap_drewN]; omega)) _ _) | (with_reducible refine Below.alloc ?_ (by first | exact Nat.le_refl _ | assumption | (simp only [World.size_alloc, World.size_setCell, size_ext, World.heap_drewN]; omega)) _) | (with_reducible refine Below.setCell ?_ (by first | exact Nat.le_refl _ | assumption | (simp only [World.size_alloc, World.size_setCell, size_ext, World.heap_drewN]; omega)) _)))) l0 (Kd.C_below Q1.out (by repeat (first | (with_reducible exact Below.refl _ _) | (with_reducible assumption) | (with_reducible refine below_drewN ?_ _) | (with_reducible refine Below.drew ?_) | (with_reducible refine below_ext_of ?_ (by first | exact Nat.le_refl _ | assumption | (simp only [World.size_alloc, World.size_setCell, size_ext, World.heap_drewN]; omega)) _ _) | (with_reducible refine Below.alloc ?_ (by first | exact Nat.le_refl _ | assumption | (simp only [World.size_alloc, World.size_setCell, size_ext, World.heap_drewN]; omega)) _) | (with_reducible refine Below.setCell ?_ (by first | exact Nat.le_refl _ | assumption | (simp only [World.size_alloc, World.size_setCell, size_ext, World.heap_drewN]; omega)) _)))) l1).mono ?_
  rintro e W2 ⟨rfl, hb⟩
  have hB : Below W1.heap.size W1 W2 := Below.trans (by repeat (first | (with_reducible exact Below.refl _ _) | (with_reducible assumption) | (with_reducible refine below_drewN ?_ _) | (with_reducible refine Below.drew ?_) | (with_reducible refine below_ext_of ?_ (by first | exact Nat.le_refl _ | assumption | (simp only [World.size_alloc, World.size_setCell, size_ext, World.heap_drewN]; omega)) _ _) | (with_reducible refine Below.alloc ?_ (by first | exact Nat.le_refl _ | assumption | (simp only [World.size_alloc, World.size_setCell, size_ext, World.heap_drewN]; omega)) _) | (with_reducible refine Below.setCell ?_ (by first | exact Nat.le_refl _ | assumption | (simp only [World.size_alloc, World.size_setCell, size_ext, World.heap_drewN]; omega)) _))) (hb.mono (by simp [go_sem] <;> omega))
  replace Q0 := Lib.hid (Kd.C_below Q0.out hB)
  replace Q1 := Lib.hid (Kd.C_below Q1.out hB)
  replace HWL := Lib.hid (Kd.C_below HWL.out hB)
  replace HVB := Lib.hid (HVB.out.trans (hB.mono HVB.out.size))
  replace K10 := keep_cell hB N1 K10
  replace K11 := keep_cell hB N1 K11
  replace K12 := keep_cell hB N1 K12
  replace N1 := Nat.lt_of_lt_of_le N1 hB.size
  have K20 := keep_new hb 0 rfl
  have K21 := keep_new hb 1 rfl
  have K22 := keep_new hb 2 rfl
  have N2 : W1.heap.size < W2.heap.size := Nat.lt_of_lt_of_le (by simp [go_sem]) hb.size
  clear hb hB
  obtain ⟨b2, hk⟩ : ∃ b, b = W1.heap.size := ⟨_, rfl⟩
  rw [← hk] at K20 K21 K22 N2 ⊢
  clear hk
  go_wp2_with fail
  refine (of_call _ _ (Kd.C_below HWL.out (by repeat (first | (with_reducible exact Below.refl _ _) | (with_reducible assumption) | (with_reducible refine below_drewN ?_ _) | (with_reducible refine Below.drew ?_) | (with_reducible refine below_ext_of ?_ (by first | exact Nat.le_refl _ | assumption | (simp only [World.size_alloc, World.size_setCell, size_ext, World.heap_drewN]; omega)) _ _) | (with_reducible refine Below.alloc ?_ (by first | exact Nat.le_refl _ | assumption | (simp only [World.size_alloc, World.size_setCell, size_ext, World.heap_drewN]; omega)) _) | (with_reducible refine Below.setCell ?_ (by first | exact Nat.le_refl _ | assumption | (simp only [World.size_alloc, World.size_setCell, size_ext, World.heap_drewN]; omega)) _))))).mono ?_
  rintro e W3 ⟨rfl, hb⟩
  have hB : Below W2.heap.size W2 W3 := Below.trans (by repeat (first | (with_reducible exact Below.refl _ _) | (with_reducible assumption) | (with_reducible refine below_drewN ?_ _) | (with_reducible refine Below.drew ?_) | (with_reducible refine below_ext_of ?_ (by first | exact Nat.le_refl _ | assumption | (simp only [World.size_alloc, World.size_setCell, size_ext, World.heap_drewN]; omega)) _ _) | (with_reducible refine Below.alloc ?_ (by first | exact Nat.le_refl _ | assumption | (simp only [World.size_alloc, World.size_setCell, size_ext, World.heap_drewN]; omega)) _) | (with_reducible refine Below.setCell ?_ (by first | exact Nat.le_refl _ | assumption | (simp only [World.size_alloc, World.size_setCell, size_ext, World.heap_drewN]; omega)) _))) (hb.mono (by simp [go_sem] <;> omega))
  replace Q0 := Lib.hid (Kd.C_below Q0.out hB)
  replace Q1 := Lib.hid (Kd.C_below Q1.out hB)
  replace HWL := Lib.hid (Kd.C_below HWL.out hB)
  replace HVB := Lib.hid (HVB.out.trans (hB.mono HVB.out.size))
  replace K10 := keep_cell hB N1 K10
  replace K11 := keep_cell hB N1 K11
  replace K12 := keep_cell hB N1 K12
  replace N1 := Nat.lt_of_lt_of_le N1 hB.size
  replace K20 := keep_cell hB N2 K20
  replace K21 := keep_cell hB N2 K21
  replace K22 := keep_cell hB N2 K22
  replace N2 := Nat.lt_of_lt_of_le N2 hB.size
  have K30 := keep_new hb 0 rfl
  have K31 := keep_new hb 1 rfl
  have K32 := keep_new hb 2 rfl
  have N3 : W2.heap.size < W3.heap.size := Nat.lt_of_lt_of_le (by simp [go_sem]) hb.size
  clear hb hB
  obtain ⟨b3, hk⟩ : ∃ b, b = W2.heap.size := ⟨_, rfl⟩
  rw [← hk] at K30 K31 K32 N3 ⊢
  clear hk
  go_wp2_with fail
  refine (last_call _ _ _ _ _ (Kd.C_below Q0.out (by repeat (first | (with_reducible exact Below.refl _ _) | (with_reducible assumption) | (with_reducible refine below_drewN ?_ _) | (with_reducible refine Below.drew ?_) | (with_reducible refine below_ext_of ?_ (by first | exact Nat.le_refl _ | assumption | (simp only [World.size_alloc, World.size_setCell, size_ext, World.heap_drewN]; omega)) _ _) | (with_reducible refine Below.alloc ?_ (by first | exact Nat.le_refl _ | assumption | (simp only [World.size_alloc, World.size_setCell, size_ext, World.heap_drewN]; omega)) _) | (with_reducible refine Below.setCell ?_ (by first | exact Nat.le_refl _ | assumption | (simp only [World.size_alloc, World.size_setCell, size_ext, World.heap_drewN]; omega)) _)))) l0 (Kd.C_below Q1.out (by repeat (first | (with_reducible exact Below.refl _ _) | (with_reducible assumption) | (with_reducible refine below_drewN ?_ _) | (with_reducible refine Below.drew ?_) | (with_reducible refine below_ext_of ?_ (by first | exact Nat.le_refl _ | assumption | (simp only [World.size_alloc, World.size_setCell, size_ext, World.heap_drewN]; omega)) _ _) | (with_reducible refine Below.alloc ?_ (by first | exact Nat.le_refl _ | assumption | (simp only [World.size_alloc, World.size_setCell, size_ext, World.heap_drewN]; omega)) _) | (with_reducible refine Below.setCell ?_ (by first | exact Nat.le_refl _ | assumption | (simp only [World.size_alloc, World.size_setCell, size_ext, World.heap_drewN]; omega)) _)))) l1).mono ?_
  rintro e W4 ⟨rfl, hb⟩
  have hB : Below W3.heap.size W3 W4 := Below.trans (by repeat (first | (with_reducible exact Below.refl _ _) | (with_reducible assumption) | (with_reducible refine below_drewN ?_ _) | (with_reducible refine Below.drew ?_) | (with_reducible refine below_ext_of ?_ (by first | exact Nat.le_refl _ | assumption | (simp only [World.size_alloc, World.size_setCell, size_ext, World.heap_drewN]; omega)) _ _) | (with_reducible refine Below.alloc ?_ (by first | exact Nat.le_refl _ | assumption | (simp only [World.size_alloc, World.size_setCell, size_ext, World.heap_drewN]; omega)) _) | (with_reducible refine Below.setCell ?_ (by first | exact Nat.le_refl _ | assumption | (simp only [World.size_alloc, World.size_setCell, size_ext, World.heap_drewN]; omega)) _))) (hb.mono (by simp [go_sem] <;> omega))
  replace Q0 := Lib.hid (Kd.C_below Q0.out hB)
  replace Q1 := Lib.hid (Kd.C_below Q1.out hB)
  replace HWL := Lib.hid (Kd.C_below HWL.out hB)
  replace HVB := Lib.hid (HVB.out.trans (hB.mono HVB.out.size))
  replace K10 := keep_cell hB N1 K10
  replace K11 := keep_cell hB N1 K11
  replace K12 := keep_cell hB N1 K12
  replace N1 := Nat.lt_of_lt_of_le N1 hB.size
  replace K20 := keep_cell hB N2 K20
  replace K21 := keep_cell hB N2 K21
  replace K22 := keep_cell hB N2 K22
  replace N2 := Nat.lt_of_lt_of_le N2 hB.size
  replace K30 := keep_cell hB N3 K30
  replace K31 := keep_cell hB N3 K31
  replace K32 := keep_cell hB N3 K32
  replace N3 := Nat.lt_of_lt_of_le N3 hB.size
  have K40 := keep_new hb 0 rfl
  have K41 := keep_new hb 1 rfl
  have K42 := keep_new hb 2 rfl
  have N4 : W3.heap.size < W4.heap.size := Nat.lt_of_lt_of_le (by simp [go_sem]) hb.size
  clear hb hB
  obtain ⟨b4, hk⟩ : ∃ b, b = W3.heap.size := ⟨_, rfl⟩
  rw [← hk] at K40 K41 K42 N4 ⊢
  clear hk
  go_wp2_with fail
  refine (may1_call _ _ _ _ _ (Kd.C_below Q0.out (by repeat (first | (with_reducible exact Below.refl _ _) | (with_reducible assumption) | (with_reducible refine below_drewN ?_ _) | (with_reducible refine Below.drew ?_) | (with_reducible refine below_ext_of ?_ (by first | exact Nat.le_refl _ | assumption | (simp only [World.size_alloc, World.size_setCell, size_ext, World.heap_drewN]; omega)) _ _) | (with_reducible refine Below.alloc ?_ (by first | exact Nat.le_refl _ | assumption | (simp only [World.size_alloc, World.size_setCell, size_ext, World.heap_drewN]; omega)) _) | (with_reducible refine Below.setCell ?_ (by first | exact Nat.le_refl _ | assumption | (simp only [World.size_alloc, World.size_setCell, size_ext, World.heap_drewN]; omega)) _)))) l0 (Kd.C_below Q1.out (by repeat (first | (with_reducible exact Below.refl _ _) | (with_reducible assumption) | (with_reducible refine below_drewN ?_ _) | (with_reducible refine Below.drew ?_) | (with_reducible refine below_ext_of ?_ (by first | exact Nat.le_refl _ | assumption | (simp only [World.size_alloc, World.size_setCell, size_ext, World.heap_drewN]; omega)) _ _) | (with_reducible refine Below.alloc ?_ (by first | exact Nat.le_refl _ | assumption | (simp only [World.size_alloc, World.size_setCell, size_ext, World.heap_drewN]; omega)) _) | (with_reducible refine Below.setCell ?_ (by first | exact Nat.le_refl _ | assumption | (simp only [World.size_alloc, World.size_setCell, size_ext, World.heap_drewN]; omega)) _)))) l1).mono ?_
  rintro e W5 ⟨rfl, hb⟩
  have hB : Below W4.heap.size W4 W5 := Below.trans (by repeat (first | (with_reducible exact Below.refl _ _) | (with_reducible assumption) | (with_reducible refine below_drewN ?_ _) | (with_reducible refine Below.drew ?_) | (with_reducible refine below_ext_of ?_ (by first | exact Nat.le_refl _ | assumption | (simp only [World.size_alloc, World.size_setCell, size_ext, World.heap_drewN]; omega)) _ _) | (with_reducible refine Below.alloc ?_ (by first | exact Nat.le_refl _ | assumption | (simp only [World.size_alloc, World.size_setCell, size_ext, World.heap_drewN]; omega)) _) | (with_reducible refine Below.setCell ?_ (by first | exact Nat.le_refl _ | assumption | (simp only [World.size_alloc, World.size_setCell, size_ext, World.heap_drewN]; omega)) _))) (hb.mono (by simp [go_sem] <;> omega))
  replace Q0 := Lib.hid (Kd.C_below Q0.out hB)
  replace Q1 := Lib.hid (Kd.C_below Q1.out hB)
  replace HWL := Lib.hid (Kd.C_below HWL.out hB)
  replace HVB := Lib.hid (HVB.out.trans (hB.mono HVB.out.size))
  replace K10 := keep_cell hB N1 K10
  replace K11 := keep_cell hB N1 K11
  replace K12 := keep_cell hB N1 K12
  replace N1 := Nat.lt_of_lt_of_le N1 hB.size
  replace K20 := keep_cell hB N2 K20
  replace K21 := keep_cell hB N2 K21
  replace K22 := keep_cell hB N2 K22
  replace N2 := Nat.lt_of_lt_of_le N2 hB.size
  replace K30 := keep_cell hB N3 K30
  replace K31 := keep_cell hB N3 K31
  replace K32 := keep_cell hB N3 K32
  replace N3 := Nat.lt_of_lt_of_le N3 hB.size
  replace K40 := keep_cell hB N4 K40
  replace K41 := keep_cell hB N4 K41
  replace K42 := keep_cell hB N4 K42
  replace N4 := Nat.lt_of_lt_of_le N4 hB.size
  clear hb hB
  go_wp2_with fail
  refine (may0_call _).mono ?_
  rintro e W6 ⟨rfl, hb⟩
  have hB : Below W5.heap.size W5 W6 := Below.trans (by repeat (first | (with_reducible exact Below.refl _ _) | (with_reducible assumption) | (with_reducible refine below_drewN ?_ _) | (with_reducible refine Below.drew ?_) | (with_reducible refine below_ext_of ?_ (by first | exact Nat.le_refl _ | assumption | (simp only [World.size_alloc, World.size_setCell, size_ext, World.heap_drewN]; omega)) _ _) | (with_reducible refine Below.alloc ?_ (by first | exact Nat.le_refl _ | assumption | (simp only [World.size_alloc, World.size_setCell, size_ext, World.heap_drewN]; omega)) _) | (with_reducible refine Below.setCell ?_ (by first | exact Nat.le_refl _ | assumption | (simp only [World.size_alloc, World.size_setCell, size_ext, World.heap_drewN]; omega)) _))) (hb.mono (by simp [go_sem] <;> omega))
  replace Q0 := Lib.hid (Kd.C_below Q0.out hB)
  replace Q1 := Lib.hid (Kd.C_below Q1.out hB)
  replace HWL := Lib.hid (Kd.C_below HWL.out hB)
  replace HVB := Lib.hid (HVB.out.trans (hB.mono HVB.out.size))
  replace K10 := keep_cell hB N1 K10
  replace K11 := keep_cell hB N1 K11
  replace K12 := keep_cell hB N1 K12
  replace N1 := Nat.lt_of_lt_of_le N1 hB.size
  replace K20 := keep_cell hB N2 K20
  replace K21 := keep_cell hB N2 K21
  replace K22 := keep_cell hB N2 K22
  replace N2 := Nat.lt_of_lt_of_le N2 hB.size
  replace K30 := keep_cell hB N3 K30
  replace K31 := keep_cell hB N3 K31
  replace K32 := keep_cell hB N3 K32
  replace N3 := Nat.lt_of_lt_of_le N3 hB.size
  replace K40 := keep_cell hB N4 K40
  replace K41 := keep_cell hB N4 K41
  replace K42 := keep_cell hB N4 K42
  replace N4 := Nat.lt_of_lt_of_le N4 hB.size
  clear hb hB
  go_wp2_with fail
  go_ret
  exact ⟨rfl, HVB.out.trans (Below.mono (by repeat (first | (with_reducible exact Below.refl _ _) | (with_reducible assumption) | (with_reducible refine below_drewN ?_ _) | (with_reducible refine Below.drew ?_) | (with_reducible refine below_ext_of ?_ (by first | exact Nat.le_refl _ | assumption | (simp only [World.size_alloc, World.size_setCell, size_ext, World.heap_drewN]; omega)) _ _) | (with_reducible refine Below.alloc ?_ (by first | exact Nat.le_refl _ | assumption | (simp only [World.size_alloc, World.size_setCell, size_ext, World.heap_drewN]; omega)) _) | (with_reducible refine Below.setCell ?_ (by first | exact Nat.le_refl _ | assumption | (simp only [World.size_alloc, World.size_setCell, size_ext, World.heap_drewN]; omega)) _))) HVB.out.size)⟩
end Go.Proofs.Ytdfpoemghnhlfaa.P
