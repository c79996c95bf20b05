/-
  deps.product: contract.
  Conditions: the links lie in memory; their numbers are int64s.
-/
import Derived.Test.YtdfpoemghnhlfaaDg
import Derived.Deep.DeepCutAuto
import Derived.LoopTactic
set_option linter.unusedVariables false
set_option linter.unusedSimpArgs false
namespace Go.Proofs.Ytdfpoemghnhlfaa.P
open Go.RowKit Go.Shelf Go.Proofs.YtdfpoemghnhlfaaW.PrintWords Go.Proofs.YtdfpoemghnhlfaaW.PrintLast Go.Proofs.YtdfpoemghnhlfaaW.PrintMore
attribute [local go_sem] setCell_drewN alloc_drewN size_ext ext_ext ext_drewN ext_drew drewN_ext drew_ext cell?_ext frozen?_ext setCell_ext cell?_past1 frozen?_past1 setCell_past1 cell?_past2 frozen?_past2 setCell_past2 cell?_past3 frozen?_past3 setCell_past3 cell?_past4 frozen?_past4 setCell_past4 cell?_past5 frozen?_past5 setCell_past5 cell?_past6 frozen?_past6 setCell_past6 cell?_past7 frozen?_past7 setCell_past7 cell?_past8 frozen?_past8 setCell_past8

def prodStep (kind most : Int) (s : Int × Bool) (x : S48) : Int × Bool := if x.f0 = kind then mulStep most s x.f1 else s
def prodF (kind most : Int) (l : List S48) : Int × Bool := l.foldl (prodStep kind most) (1, true)
theorem prodF_take (kind most : Int) (l : List S48) (q : Nat) (hq : q < l.length) : prodF kind most (l.take (q + 1)) = prodStep kind most (prodF kind most (l.take q)) (rd_T48 l q) := by
  unfold prodF
  rw [List.take_succ_eq_append_getElem hq, List.foldl_append]
  simp [rd_T48, hq]
theorem fitV_in (v : Int) : in64 (fitV v) = true := by
  unfold in64 fitV
  simp only [Bool.and_eq_true, decide_eq_true_eq]
  split <;> omega
theorem mulStep_in {most : Int} {s : Int × Bool} {k : Int} (h : in64 s.1 = true) : in64 (mulStep most s k).1 = true := by
  unfold mulStep
  split
  · exact fitV_in _
  · exact h
set_option maxRecDepth 100000 in
set_option maxHeartbeats 4000000 in
theorem product_any (A0 : Option Addr) (c0 : Nat) (l : List S48) (kind most : Int) (w : World) (hr0 : Kd.C k48 w A0 l.length l) (hall : ∀ x ∈ l, in64 x.f1 = true) :
    Calls Try.prog 25 #[.slice A0 l.length c0, .int .u8 kind, .int .i64 most] w fun e w' => e = .returned (.tuple #[.int .i64 (prodF kind most l).1, .bool (prodF kind most l).2]) ∧ Below w.heap.size w w' := by
  have hmx := hr0.2.1
  have HR0 := Lib.hid hr0
  have HA := Lib.hid hall
  obtain ⟨n, hn⟩ : ∃ n, n = l.length := ⟨_, rfl⟩
  have HN := Lib.hid hn
  rw [← hn] at hmx ⊢
  clear hr0 hall hn
  go_enter Try.func25, Try.ntmps25
  go_wp2_with fail
  go_loopw [16] (fun i wr => ∃ (q : Nat) (v : Int) (b : Bool), i = .int .i64 q ∧ q ≤ n ∧ Hid (prodF kind most (l.take q) = (v, b) ∧ in64 v = true ∧ Below w.heap.size w wr ∧ wr.heap[w.heap.size]? = some (.cells #[.int .i64 most] 2) ∧ wr.heap[w.heap.size + 1]? = some (.cells #[.int .i64 v] 2) ∧ wr.heap[w.heap.size + 1 + 1]? = some (.cells #[.bool b] 4))) (fun i _ => n - (intOf i).toNat)
  case atStart =>
    refine ⟨0, 1, true, rfl, by omega, Lib.hid ⟨rfl, rfl, ?_, ?_, ?_, ?_⟩⟩
    · repeat (first | (with_reducible exact Below.refl _ _) | (with_reducible assumption) | (with_reducible refine below_drewN ?_ _) | (with_reducible refine Below.drew ?_) | (with_reducible refine below_ext_of ?_ (by first | exact Nat.le_refl _ | assumption | (simp only [World.size_alloc, World.size_setCell, size_ext, World.heap_drewN]; omega)) _ _) | (with_reducible refine Below.alloc ?_ (by first | exact Nat.le_refl _ | assumption | (simp only [World.size_alloc, World.size_setCell, size_ext, World.heap_drewN]; omega)) _) | (with_reducible refine Below.setCell ?_ (by first | exact Nat.le_refl _ | assumption | (simp only [World.size_alloc, World.size_setCell, size_ext, World.heap_drewN]; omega)) _))
    · exact (heap_old _ _ _ (by simp; omega)).trans ((heap_old _ _ _ (by simp)).trans (heap_new _ _ _ rfl))
    · exact (heap_old _ _ _ (by simp)).trans (heap_new _ _ _ (by simp))
    · exact heap_new _ _ _ (by simp)
  case round =>
    obtain ⟨q, v, b, rfl, hq, HI⟩ := hrel
    obtain ⟨hp, hv, hB, b0, b1, b2⟩ := HI.out
    have hs := hB.size
    have HB := Lib.hid hB
    have B0 := Lib.hid b0
    have B1 := Lib.hid b1
    have B2 := Lib.hid b2
    have HP := Lib.hid hp
    have HV := Lib.hid hv
    have p1 := cell_of b1 0
    have p2 := cell_of b2 0
    have hl2 : w.heap.size + 1 + 1 < wr.heap.size := (Array.getElem?_eq_some_iff.1 b2).1
    simp only [List.getElem?_toArray, List.getElem?_cons_zero] at p1 p2
    clear hp hv hB b0 b1 b2 HI
    by_cases hlt : q < n
    · have e1 : (q : Int) < n := by omega
      have e2 := decide_eq_true e1
      have e3 : (0 : Int) ≤ q := by omega
      have e4 : IntKind.i64.wrap ((q : Int) + 1) = (q : Int) + 1 := by rw [IntKind.wrap_i64]; omega
      obtain ⟨ad, rfl, s0, s1, s2, s3, s4, s5⟩ := at_T48 (Kd.C_below HR0.out HB.out) q (by omega) (by have := HN.out; omega)
      rw [Int.toNat_natCast] at s0 s1 s2 s3 s4 s5
      have hx : in64 (rd_T48 l q).f1 = true := HA.out _ (by have := HN.out; unfold rd_T48; rw [Int.toNat_natCast, List.getD_eq_getElem?_getD, List.getElem?_eq_getElem (by omega)]; exact List.getElem_mem _)
      have hst : Hid (prodF kind most (l.take (q + 1)) = prodStep kind most (v, b) (rd_T48 l q)) := Lib.hid (by rw [prodF_take _ _ _ _ (by have := HN.out; omega), HP.out])
      have HX := Lib.hid hx
      clear hx p1 p2
      generalize rd_T48 l q = x at *
      by_cases hk : x.f0 = kind
      · have k1 : (x.f0 == kind) = true := by simpa using hk
        have hst2 : Hid (prodF kind most (l.take (q + 1)) = mulStep most (v, b) x.f1) := Lib.hid (by rw [hst.out]; unfold prodStep; rw [if_pos hk])
        have HK := Lib.hid hk
        clear hk
        go_wp2_with fail
        refine (by_any _ w.heap.size (w.heap.size + 1) (w.heap.size + 1 + 1) x.f1 v most b HX.out HV.out (by omega) (by omega) (by omega) ((Below.heap_alloc wr _ _ (by omega)).trans B0.out) ((Below.heap_alloc wr _ _ (by omega)).trans B1.out) ((Below.heap_alloc wr _ _ (by omega)).trans B2.out)).mono ?_
        rintro e w' ⟨rfl, hbyd⟩
        have HBY := Lib.hid hbyd
        clear hbyd
        go_wp2_with fail
        go_roundw
        case measure =>
          simp only [intOf, Int.toNat_natCast]
          omega
        case rel =>
          obtain ⟨y1, y2, y3, y4⟩ := HBY.out
          exact ⟨q + 1, _, _, rfl, by omega, Lib.hid ⟨hst2.out, mulStep_in HV.out, (HB.out.alloc HB.out.size _).trans (y4 _ (by omega) (by omega)), (y3 _ (by omega) (by omega)).trans ((Below.heap_alloc wr _ _ (by omega)).trans B0.out), y1, y2⟩⟩
      · have k1 : (x.f0 == kind) = false := by simpa using hk
        have hst2 : Hid (prodF kind most (l.take (q + 1)) = (v, b)) := Lib.hid (by rw [hst.out]; unfold prodStep; rw [if_neg hk])
        go_wp2_with fail
        go_roundw
        case measure =>
          simp only [intOf, Int.toNat_natCast]
          omega
        case rel =>
          exact ⟨q + 1, _, _, rfl, by omega, Lib.hid ⟨hst2.out, HV.out, HB.out.alloc HB.out.size _, (Below.heap_alloc wr _ _ (by omega)).trans B0.out, (Below.heap_alloc wr _ _ (by omega)).trans B1.out, (Below.heap_alloc wr _ _ (by omega)).trans B2.out⟩⟩
    · have e1 : ¬ ((q : Int) < n) := by omega
      have e2 := decide_eq_false e1
      have hf : Hid (prodF kind most l = (v, b)) := Lib.hid (by have := HP.out; rwa [List.take_of_length_le (by have := HN.out; omega)] at this)
      go_wp2_with fail
      go_quiet (fail)
      go_wp2_with fail
      go_ret2
      rw [hf.out]
      exact ⟨rfl, below_dn HB.out nq⟩
end Go.Proofs.Ytdfpoemghnhlfaa.P
