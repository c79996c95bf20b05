/-
  carillonlaw25.HeapSorts: all that was put comes in order, each as often as it was put: it returns true.
  Conditions: the row of jobs lies in memory, its numbers are Go's.
-/
import Derived.Test.YtbplaiooipldlaaWk
import Derived.Test.YtbplaiooipldlaaCm
import Derived.WalkKit
import Derived.WalkSpells
import Derived.WalkLawsBesides
import Derived.Deep.QuietTactic
import Derived.BigQuiet
import Derived.Lib.Hide
import Derived.Handy
import Derived.Deep.DeepCutAuto
import Derived.Deep.RegionLaw
import Derived.Deep.RegionHeld3
import Derived.Deep.RegionWith
import Derived.BigRegion
set_option linter.unusedVariables false
set_option linter.unusedSimpArgs false
namespace Go.Proofs.Ytbplaiooipldlaa
open Go.RowKit Hp
attribute [local go_sem] setCell_drewN alloc_drewN size_ext ext_ext ext_drewN ext_drew drewN_ext drew_ext cell?_ext frozen?_ext setCell_ext cell?_past1 frozen?_past1 setCell_past1 cell?_past2 frozen?_past2 setCell_past2 cell?_past3 frozen?_past3 setCell_past3 cell?_past4 frozen?_past4 setCell_past4 cell?_past5 frozen?_past5 setCell_past5 cell?_past6 frozen?_past6 setCell_past6 cell?_past7 frozen?_past7 setCell_past7 cell?_past8 frozen?_past8 setCell_past8

/-- Jobs in a row at block ab from cell ao on. -/
def Src (w : World) (ab ao : Nat) (l : List Key) : Prop :=
  ∀ i, i < l.length → w.cell? ⟨ab, ao + i * 3, none⟩ = some (.int .i64 (at_ l i).due) ∧ w.cell? ⟨ab, ao + i * 3 + 1, none⟩ = some (.int .i64 (at_ l i).task) ∧ w.cell? ⟨ab, ao + i * 3 + 2, none⟩ = some (.int .i64 (at_ l i).n)
theorem Src.kept {w w' : World} {ab ao : Nat} {l : List Key} {Fp : Nat → Prop} (h : Src w ab ao l) (hf : Fr Fp w w') (hlt : ab < w.heap.size) (hn : ¬ Fp ab) : Src w' ab ao l := by
  intro i hi
  obtain ⟨h1, h2, h3⟩ := h i hi
  exact ⟨(hf.cell _ _ hlt hn).trans h1, (hf.cell _ _ hlt hn).trans h2, (hf.cell _ _ hlt hn).trans h3⟩
theorem Src.below {w w' : World} {ab ao : Nat} {l : List Key} (h : Src w ab ao l) (hf : Below w.heap.size w w') (hlt : ab < w.heap.size) : Src w' ab ao l :=
  h.kept (Fp := fun _ => False) (Fr.of_below hf) hlt (fun h => h)
/-- A heap and a map that counts, both the call's own. -/
def Two (w wr : World) (H : Nat) (v : Value) (most : Int) (B m : Nat) (xs : List Key) (f : Key → Int) : Prop :=
  IsHeap wr H v most xs ∧ Cnt wr B m f ∧ (∀ j, foot H v j → w.heap.size ≤ j) ∧ ¬ foot H v B ∧ w.heap.size ≤ B ∧ Below w.heap.size w wr
theorem Two.kept {w wr w' : World} {H : Nat} {v : Value} {most : Int} {B m : Nat} {xs : List Key} {f : Key → Int} {Fp : Nat → Prop} (h : Two w wr H v most B m xs f) (hf : Fr Fp wr w') (h1 : ∀ j, foot H v j → ¬ Fp j) (h2 : ¬ Fp B) (h3 : ∀ j, Fp j → w.heap.size ≤ j) : Two w w' H v most B m xs f := by
  obtain ⟨i1, i2, i3, i4, i5, i6⟩ := h
  exact ⟨i1.kept hf h1, i2.kept hf h2, i3, i4, i5, i6.trans (hf.to_below i6.size h3)⟩
theorem Two.app {w wr w' : World} {H : Nat} {v v' : Value} {most : Int} {B m : Nat} {xs zs : List Key} {f : Key → Int} (h : Two w wr H v most B m xs f) (hA : Appended wr w' H v most zs v') : Two w w' H v' most B m zs f := by
  obtain ⟨i1, i2, i3, i4, i5, i6⟩ := h
  have hB := i2.lt
  refine ⟨hA.1, i2.kept hA.2.2 i4, fun j hj => ?_, fun hj => ?_, i5, i6.trans (hA.2.2.to_below i6.size i3)⟩
  · rcases hA.2.1 j hj with h | h
    · exact i3 j h
    · exact Nat.le_trans i6.size h
  · rcases hA.2.1 _ hj with h | h
    · exact i4 h
    · omega
theorem Two.cnt {w wr w' : World} {H : Nat} {v : Value} {most : Int} {B m m' : Nat} {xs : List Key} {f g : Key → Int} (h : Two w wr H v most B m xs f) (hf : Fr (fun j => j = B) wr w') (hc : Cnt w' B m' g) : Two w w' H v most B m' xs g := by
  obtain ⟨i1, i2, i3, i4, i5, i6⟩ := h
  exact ⟨i1.kept hf (fun j hj e => i4 (e ▸ hj)), hc, i3, i4, i5, i6.trans (hf.to_below i6.size (fun j e => e ▸ i5))⟩
theorem count_step (l : List Key) (i : Nat) (hi : i < l.length) (k : Key) : ((l.take (i + 1)).count k : Int) = if k = at_ l i then (((l.take i).count (at_ l i) : Nat) : Int) + 1 else ((l.take i).count k : Int) := by
  rw [List.take_succ_eq_append_getElem hi, List.count_append, at_eq l i hi]
  by_cases h : k = l[i]
  · rw [if_pos h, h]; simp
  · rw [if_neg h]; simp [List.count_singleton, Ne.symm h]
set_option maxHeartbeats 2000000 in
theorem HeapSorts_out (p : Option Addr) (n cap : Nat) (w : World) (h : n = 0 ∨ 500 < n) : Calls Try.prog 3 #[.slice p n cap] w fun e w' => e = .returned (.bool true) ∧ Below w.heap.size w w' := by
  by_cases h0 : 500 < n
  · have d1 : decide ((↑n : Int) > 500) = true := decide_eq_true (by omega)
    have d2 : (500 : Int) < ↑n := by omega
    clear h
    go_enter Try.func3, Try.ntmps3
    go_wp2_with fail
    refine (works_any _).mono ?_
    rintro e w1 ⟨rfl, hb⟩
    obtain ⟨X4, d4, rfl⟩ := below_ext hb
    clear hb
    go_wp2_with fail
    go_ret
    exact ⟨rfl, by repeat (first | (with_reducible exact Below.refl _ _) | (with_reducible assumption) | (with_reducible refine below_drewN ?_ _) | (with_reducible refine Below.drew ?_) | (with_reducible refine below_ext_of ?_ (by first | exact Nat.le_refl _ | assumption | (simp only [World.size_alloc, World.size_setCell, size_ext, World.heap_drewN]; omega)) _ _) | (with_reducible refine Below.alloc ?_ (by first | exact Nat.le_refl _ | assumption | (simp only [World.size_alloc, World.size_setCell, size_ext, World.heap_drewN]; omega)) _) | (with_reducible refine Below.setCell ?_ (by first | exact Nat.le_refl _ | assumption | (simp only [World.size_alloc, World.size_setCell, size_ext, World.heap_drewN]; omega)) _))⟩
  · obtain rfl : n = 0 := by omega
    go_enter Try.func3, Try.ntmps3
    go_wp2_with fail
    refine (works_any _).mono ?_
    rintro e w1 ⟨rfl, hb⟩
    obtain ⟨X4, d4, rfl⟩ := below_ext hb
    clear hb
    go_wp2_with fail
    go_ret
    exact ⟨rfl, by repeat (first | (with_reducible exact Below.refl _ _) | (with_reducible assumption) | (with_reducible refine below_drewN ?_ _) | (with_reducible refine Below.drew ?_) | (with_reducible refine below_ext_of ?_ (by first | exact Nat.le_refl _ | assumption | (simp only [World.size_alloc, World.size_setCell, size_ext, World.heap_drewN]; omega)) _ _) | (with_reducible refine Below.alloc ?_ (by first | exact Nat.le_refl _ | assumption | (simp only [World.size_alloc, World.size_setCell, size_ext, World.heap_drewN]; omega)) _) | (with_reducible refine Below.setCell ?_ (by first | exact Nat.le_refl _ | assumption | (simp only [World.size_alloc, World.size_setCell, size_ext, World.heap_drewN]; omega)) _))⟩
set_option maxRecDepth 100000 in
set_option maxHeartbeats 20000000 in
theorem HeapSorts_walk (l : List Key) (ab ao cap : Nat) (w : World) (hs : Src w ab ao l) (hwf : ∀ i, i < l.length → Wf (at_ l i)) (hab : ab < w.heap.size) (h0 : 0 < l.length) (h5 : l.length ≤ 500) :
    Calls Try.prog 3 #[.slice (some ⟨ab, ao, none⟩) l.length cap] w fun e w' => e = .returned (.bool true) ∧ Below w.heap.size w w' := by
  have hmm := @run_makeMap Try.prog
  obtain ⟨n, hn⟩ : ∃ n, n = l.length := ⟨_, rfl⟩
  rw [← hn] at h0 h5 ⊢
  have d1 : decide ((n : Int) > 500) = false := decide_eq_false (by omega)
  have d2 : ((n : Int) == 0) = false := beq_false_of_ne (by omega)
  have d3 : ¬ (500 < (n : Int)) := by omega
  have d4 : decide (500 < (n : Int)) = false := decide_eq_false (by omega)
  have HS := Lib.hid hs
  have HW := Lib.hid hwf
  have HN := Lib.hid hn
  clear hs hwf hn
  go_enter Try.func3, Try.ntmps3
  go_wp2_with fail
  refine (new_ok _ (n : Int) (by omega) (by omega)).mono ?_
  rintro e w1 ⟨rfl, h1, b1⟩
  have H1 := Lib.hid h1
  have B1 := Lib.hid b1
  clear h1 b1 d1 d3 d4
  go_wp2_with fail
  have hB : w.heap.size < w1.heap.size := H1.out.lt _ (.inl rfl)
  have HT : Hid (Two w (w1.alloc (.map #[] 0)) w.heap.size (.slice none 0 0) n w1.heap.size 0 [] (fun _ => 0)) := Lib.hid (by
    refine ⟨H1.out.kept (Fp := fun _ => False) (by repeat (first | (with_reducible exact Fr.refl _ _) | (with_reducible apply Fr.ext) | (with_reducible apply Fr.drew) | (with_reducible apply Fr.alloc))) (fun _ _ h => h), cnt_made _, ?_, ?_, by omega, B1.out.alloc (by omega) _⟩
    · rintro j (rfl | hj)
      · omega
      · cases hj
    · rintro (hj | hj)
      · omega
      · cases hj)
  clear H1 B1
  go_loopw [6] (fun i wr => ∃ (k : Nat) (xs : List Key) (v : Value), i = .int .i64 (k : Int) ∧ k ≤ n ∧ Hid (Ok xs ∧ xs.Perm (l.take k)) ∧ Hid (Two w wr w.heap.size v n w1.heap.size k xs (fun q => (((l.take k).count q : Nat) : Int)))) (fun i _ => n - (intOf i).toNat)
  case atStart => exact ⟨0, [], .slice none 0 0, rfl, by omega, Lib.hid ⟨ok_nil, by simp⟩, by simpa using HT⟩
  case round =>
  clear HT
  obtain ⟨k, xs, v, rfl, hkn, hP, hT⟩ := hrel
  by_cases hk : k < n
  · have e1 : (k : Int) < n := by omega
    have e2 := decide_eq_true e1
    have e3 : (0 : Int) ≤ k := by omega
    have hn := HN.out
    obtain ⟨s1, s2, s3⟩ := (HS.out.below hT.out.2.2.2.2.2 hab) k (by omega)
    have hwx := HW.out k (by omega)
    have hlen : xs.length = k := by rw [hP.out.2.length_eq, List.length_take]; omega
    obtain ⟨x, hx⟩ : ∃ x, x = at_ l k := ⟨_, rfl⟩
    rw [← hx] at s1 s2 s3 hwx
    have Hx := Lib.hid hx
    have Hwx := Lib.hid hwx
    have Hlen := Lib.hid hlen
    clear hn hwx hx hlen
    go_wp2_with fail
    refine (hput_ok _ x w.heap.size v n xs hT.out.1 (by rw [Hlen.out]; omega) (by rw [Hlen.out]; omega)).mono ?_
    rintro e w2 ⟨rfl, v', hA⟩
    have hT2 := Lib.hid (hT.out.app hA)
    clear hA s1 s2 s3
    obtain ⟨s1, s2, s3⟩ := (HS.out.below hT2.out.2.2.2.2.2 hab) k (by have := HN.out; omega)
    rw [← Hx.out] at s1 s2 s3
    obtain ⟨c, hc⟩ : ∃ c : Nat, (c : Int) = (((l.take k).count x : Nat) : Int) := ⟨_, rfl⟩
    have hck : c ≤ 500 := by
      have := List.count_le_length (a := x) (l := l.take k)
      rw [List.length_take] at this
      omega
    have hcd : Cnt w2.drew w1.heap.size k (fun q => (((l.take k).count q : Nat) : Int)) := hT2.out.2.1.kept (Fp := fun _ => False) (Fr.refl _ _).drew (fun h => h)
    have g1 := cnt_look hcd x Hwx.out
    obtain ⟨v0, st, w3, g2, hmid, hst⟩ := cnt_entry hcd x Hwx.out (by unfold maxLen; omega)
    have g5 := cnt_look hmid x Hwx.out
    rw [← hc] at g5
    clear hmid
    obtain ⟨w4, g3, hC4, hF4⟩ := hst ((c : Int) + 1) (WalkArith.wf_i64 (by omega))
    rw [← hc] at g1
    have g4 : IntKind.i64.wrap ((c : Int) + 1) = (c : Int) + 1 := by rw [IntKind.wrap_i64]; omega
    have HC4 := Lib.hid hC4
    have HF4 := Lib.hid hF4
    have Hc := Lib.hid hc
    clear hst hcd hC4 hF4 hc
    go_wp2_with fail
    go_region
    go_wp2_with fail
    go_roundw
    case measure =>
      simp only [intOf, Int.toNat_natCast]
      omega
    case rel =>
      have hn := HN.out
      obtain ⟨o1, o2⟩ := put_spec xs x hP.out.1
      refine ⟨k + 1, put xs x, v', rfl, by omega, Lib.hid ⟨o1, ?_⟩, Lib.hid ?_⟩
      · refine o2.trans ?_
        rw [List.take_succ_eq_append_getElem (by omega), ← at_eq l k (by omega), ← Hx.out]
        exact hP.out.2.append_right _
      · have hq := hT2.out.cnt ((Fr.refl _ _).drew.trans HF4.out (fun _ _ h => h)) HC4.out
        have hf : (fun q => (((l.take (k + 1)).count q : Nat) : Int)) = (fun q => if q = x then (c : Int) + 1 else (((l.take k).count q : Nat) : Int)) := by
          funext q
          rw [count_step l k (by omega) q, ← Hx.out, Hc.out]
        rw [hf]
        exact hq
  · have e1 : ¬ ((k : Int) < n) := by omega
    have e2 := decide_eq_false e1
    obtain rfl : k = n := by omega
    have hPn : Hid (Ok xs ∧ xs.Perm l ∧ xs.length = k) := Lib.hid (by
      have h := hP.out
      rw [List.take_of_length_le (by have := HN.out; omega)] at h
      exact ⟨h.1, h.2, by rw [h.2.length_eq]; exact HN.out.symm⟩)
    clear hP hk hkn
    go_wp2_with fail
    obtain ⟨wz, hwz⟩ : ∃ wz, wz = wr := ⟨wr, rfl⟩
    subst hwz
    have hB2 := hT.out.2.1.lt
    have hBF : w.heap.size ≤ wz.heap.size := hT.out.2.2.2.2.2.size
    have hFt : ∀ j, foot w.heap.size v j → j < wz.heap.size := hT.out.1.lt
    go_loopw [8] (fun i ws => ∃ (j : Nat) (ys : List Key) (v' : Value) (m : Nat) (b : Key), i = .int .i64 (j : Int) ∧ j ≤ k ∧ m ≤ k + j ∧ Hid (Ok ys ∧ ys.length = k - j ∧ (0 < j → ∀ y ∈ ys, less y b = false) ∧ (∀ y ∈ ys, Wf y)) ∧ Hid (Two w ws w.heap.size v' k w1.heap.size m ys (fun q => ((ys.count q : Nat) : Int))) ∧
      wz.heap.size < ws.heap.size ∧ Hid (¬ foot w.heap.size v' wz.heap.size) ∧ ws.cell? ⟨wz.heap.size, 0, none⟩ = some (.int .i64 b.due) ∧ ws.cell? ⟨wz.heap.size, 1, none⟩ = some (.int .i64 b.task) ∧ ws.cell? ⟨wz.heap.size, 2, none⟩ = some (.int .i64 b.n) ∧ (∀ o, ws.frozen? ⟨wz.heap.size, o, none⟩ = false)) (fun i _ => k - (intOf i).toNat)
    case atStart =>
      refine ⟨0, xs, v, k, ⟨-9223372036854775808, -4611686018427387904, 0⟩, rfl, by omega, by omega, Lib.hid ⟨hPn.out.1, hPn.out.2.2, fun h => absurd h (by omega), fun y hy => ?_⟩, Lib.hid ?_, by simp [go_sem], Lib.hid (fun h => by have := hFt _ h; omega), by simp [go_sem], by simp [go_sem], by simp [go_sem], fun o => by simp [go_sem]⟩
      · obtain ⟨i, hi, rfl⟩ := List.getElem_of_mem (hPn.out.2.1.mem_iff.1 hy)
        rw [← at_eq l i hi]
        exact HW.out i hi
      · have hT' := hT.out.kept (Fp := fun _ => False) (w' := wz.alloc (.cells #[.int .i64 (-9223372036854775808), .int .i64 (-4611686018427387904), .int .i64 0] 31)) (by repeat (first | (with_reducible exact Fr.refl _ _) | (with_reducible apply Fr.ext) | (with_reducible apply Fr.drew) | (with_reducible apply Fr.alloc))) (fun _ _ h => h) (fun h => h) (fun _ h => h.elim)
        have hf : (fun q => ((xs.count q : Nat) : Int)) = (fun q => (((l.take k).count q : Nat) : Int)) := by
          funext q
          rw [List.take_of_length_le (by have := HN.out; omega), hPn.out.2.1.count_eq]
        rw [hf]
        exact hT'
    case round =>
    clear hPn hT hFt
    obtain ⟨j, ys, v', m, b, rfl, hjk, hm, hP, hT, hz, hnf, b0, b1, b2, bf⟩ := hrel
    by_cases hj : j < k
    · have e1 : (j : Int) < k := by omega
      have e2 := decide_eq_true e1
      have e3 : (0 : Int) ≤ j := by omega
      have hpos : 0 < ys.length := by have := hP.out.2.1; omega
      go_wp2_with fail
      refine (htake_ok _ w.heap.size v' k ys hT.out.1 hpos (by have := hP.out.2.1; omega)).mono ?_
      rintro e w2 ⟨rfl, v2, hA⟩
      obtain ⟨r1, r2⟩ := rest_spec ys hP.out.1 hpos
      have hleast := first_mem ys hP.out.1
      generalize at_ ys 0 = a at *
      have hamem : a ∈ ys := r2.mem_iff.1 (by simp)
      have hab2 : 0 < j → less a b = false := fun h => hP.out.2.2.1 h a hamem
      have hwa : Wf a := hP.out.2.2.2 a hamem
      have hT2 := Lib.hid (hT.out.app hA)
      have hz2 : wz.heap.size < w2.heap.size := Nat.lt_of_lt_of_le hz hA.2.2.size
      have q0 := (hA.2.2.cell _ 0 hz hnf.out).trans b0
      have q1 := (hA.2.2.cell _ 1 hz hnf.out).trans b1
      have q2 := (hA.2.2.cell _ 2 hz hnf.out).trans b2
      have qf : ∀ o, w2.frozen? ⟨wz.heap.size, o, none⟩ = false := fun o => (hA.2.2.frozen _ o hz hnf.out).trans (bf o)
      have hnf2 : Hid (¬ foot w.heap.size v2 wz.heap.size) := Lib.hid (fun h => by
        rcases hA.2.1 _ h with h | h
        · exact hnf.out h
        · omega)
      have hR : Hid (Ok (rest ys) ∧ (rest ys).length = k - (j + 1) ∧ (∀ y ∈ rest ys, less y a = false) ∧ (∀ y ∈ rest ys, Wf y) ∧ (a :: rest ys).Perm ys) := Lib.hid (by
        have hlen := r2.length_eq
        have hl2 := hP.out.2.1
        simp only [List.length_cons] at hlen
        refine ⟨r1, by omega, fun y hy => hleast y (r2.mem_iff.1 (by simp [hy])), fun y hy => hP.out.2.2.2 y (r2.mem_iff.1 (by simp [hy])), r2⟩)
      obtain ⟨c, hc⟩ : ∃ c : Nat, (c : Int) = ((ys.count a : Nat) : Int) := ⟨_, rfl⟩
      have hc1 : 1 ≤ c := by
        have := List.count_pos_iff.2 hamem
        omega
      have hc5 : c ≤ 500 := by
        have := List.count_le_length (a := a) (l := ys)
        have := hP.out.2.1
        omega
      have hc0 : ((c : Int) == 0) = false := beq_false_of_ne (by omega)
      have Hwa := Lib.hid hwa
      have Hc := Lib.hid hc
      have Hab2 := Lib.hid hab2
      have Hm := Lib.hid hm
      clear hA r1 r2 hleast hamem hP hT hnf b0 b1 b2 bf hwa hc hab2 hz hpos hm
      go_upto_region 18 with (fail)
      go_cut [85] (fun s wc => s = .bool false ∧ ∃ X d, wc = ext (w2.alloc (.cells #[.int .i64 a.due, .int .i64 a.task, .int .i64 a.n] 31)) X d)
      case first =>
        have hcn : Cnt (w2.alloc (.cells #[.int .i64 a.due, .int .i64 a.task, .int .i64 a.n] 31)) w1.heap.size m (fun q => ((ys.count q : Nat) : Int)) := hT2.out.2.1.kept (Fp := fun _ => False) (by repeat (first | (with_reducible exact Fr.refl _ _) | (with_reducible apply Fr.ext) | (with_reducible apply Fr.drew) | (with_reducible apply Fr.alloc))) (fun h => h)
        have g1 := cnt_look hcn a Hwa.out
        rw [← Hc.out] at g1
        by_cases hj0 : j = 0
        · subst hj0
          clear hcn
          go_wp2_with fail
          go_meet
          case rel => exact ⟨rfl, _, _, (ext_nil _).symm⟩
        · have j1 : (0 : Int) < j := by omega
          have j2 := decide_eq_true j1
          have hl := Lib.hid (Hab2.out (by omega))
          have g5 : ∀ X d, (Instr.lookup 28 (.map (some w1.heap.size)) (.agg #[.int .i64 a.due, .int .i64 a.task, .int .i64 a.n]) false).run Try.prog (ext (w2.alloc (.cells #[.int .i64 a.due, .int .i64 a.task, .int .i64 a.n] 31)) X d) = .ok (.int .i64 (c : Int)) (ext (w2.alloc (.cells #[.int .i64 a.due, .int .i64 a.task, .int .i64 a.n] 31)) X d) := fun X d => by
            have := cnt_look (hcn.kept (Fp := fun _ => False) ((Fr.refl _ _).ext X d) (fun h => h)) a Hwa.out
            rw [← Hc.out] at this
            exact this
          clear hcn g1
          go_wp2_with fail
          refine (less_any a b _).mono ?_
          rintro e w3 ⟨rfl, hbw⟩
          obtain ⟨X, d, rfl⟩ := below_ext hbw
          clear hbw
          rw [hl.out]
          go_wp2_with fail
          go_meet
          case rel => exact ⟨rfl, _, _, rfl⟩
      case rest =>
      obtain ⟨rfl, X, d, rfl⟩ := hcut
      obtain ⟨W, hW⟩ : ∃ W, W = ext (w2.alloc (.cells #[.int .i64 a.due, .int .i64 a.task, .int .i64 a.n] 31)) X d := ⟨_, rfl⟩
      rw [← hW]
      have hFW : Fr (fun _ => False) w2 W := by rw [hW]; exact ((Fr.refl _ _).alloc _).ext _ _
      have hT3 := Lib.hid (hT2.out.kept hFW (fun _ _ h => h) (fun h => h) (fun _ h => h.elim))
      have hz3 : wz.heap.size < W.heap.size := Nat.lt_of_lt_of_le hz2 hFW.size
      have hz4 : w2.heap.size < W.heap.size := by rw [hW]; simp [go_sem]; omega
      have p0 := (hFW.cell _ 0 hz2 (fun h => h)).trans q0
      have p1 := (hFW.cell _ 1 hz2 (fun h => h)).trans q1
      have p2 := (hFW.cell _ 2 hz2 (fun h => h)).trans q2
      have pf : ∀ o, W.frozen? ⟨wz.heap.size, o, none⟩ = false := fun o => (hFW.frozen _ o hz2 (fun h => h)).trans (qf o)
      have x0 : W.cell? ⟨w2.heap.size, 0, none⟩ = some (.int .i64 a.due) := by rw [hW]; simp [go_sem]
      have x1 : W.cell? ⟨w2.heap.size, 1, none⟩ = some (.int .i64 a.task) := by rw [hW]; simp [go_sem]
      have x2 : W.cell? ⟨w2.heap.size, 2, none⟩ = some (.int .i64 a.n) := by rw [hW]; simp [go_sem]
      have hcd : Cnt W.drew w1.heap.size m (fun q => ((ys.count q : Nat) : Int)) := hT3.out.2.1.kept (Fp := fun _ => False) (Fr.refl _ _).drew (fun h => h)
      have g1 := cnt_look hcd a Hwa.out
      obtain ⟨v0, st, w3, g2, hmid, hst⟩ := cnt_entry hcd a Hwa.out (by have := Hm.out; unfold maxLen; omega)
      have g5 := cnt_look hmid a Hwa.out
      rw [← Hc.out] at g5
      clear hmid
      obtain ⟨w4, g3, hC4, hF4⟩ := hst ((c : Int) - 1) (WalkArith.wf_i64 (by omega))
      rw [← Hc.out] at g1
      have g4 : IntKind.i64.wrap ((c : Int) - 1) = (c : Int) - 1 := by rw [IntKind.wrap_i64]; omega
      have hF5 : Fr (fun j => j = w1.heap.size) W w4 := (Fr.refl _ _).drew.trans hF4 (fun _ _ h => h)
      have hBW : w1.heap.size < wz.heap.size := hB2
      have y0 := (hF5.cell _ 0 hz4 (by omega)).trans x0
      have y1 := (hF5.cell _ 1 hz4 (by omega)).trans x1
      have y2 := (hF5.cell _ 2 hz4 (by omega)).trans x2
      have k0 := (hF5.cell _ 0 hz3 (by omega)).trans p0
      have k1 := (hF5.cell _ 1 hz3 (by omega)).trans p1
      have k2 := (hF5.cell _ 2 hz3 (by omega)).trans p2
      have kf : ∀ o, w4.frozen? ⟨wz.heap.size, o, none⟩ = false := fun o => (hF5.frozen _ o hz3 (by omega)).trans (pf o)
      have hz5 : wz.heap.size < w4.heap.size := Nat.lt_of_lt_of_le hz3 hF5.size
      have hT4 := Lib.hid (hT3.out.cnt hF5 hC4)
      clear hst hcd hC4 hF4 hF5 hFW hT3 hT2 q0 q1 q2 qf p0 p1 p2 pf hW
      go_wp2_with fail
      go_region
      go_wp2_with fail
      go_roundw
      case measure =>
        simp only [intOf, Int.toNat_natCast]
        omega
      case rel =>
        refine ⟨j + 1, rest ys, v2, m + 1, a, rfl, by omega, by have := Hm.out; omega, Lib.hid ⟨hR.out.1, hR.out.2.1, fun _ => hR.out.2.2.1, hR.out.2.2.2.1⟩, Lib.hid ?_, ?_, hnf2, ?_, ?_, ?_, ?_⟩
        · have hf : (fun q => (((rest ys).count q : Nat) : Int)) = (fun q => if q = a then (c : Int) - 1 else ((ys.count q : Nat) : Int)) := by
            funext q
            have hp := hR.out.2.2.2.2.count_eq q
            by_cases hq : q = a
            · subst hq
              rw [if_pos rfl, Hc.out, ← hp]
              simp
            · rw [if_neg hq, ← hp, List.count_cons_of_ne (fun e => hq e.symm)]
          rw [hf]
          refine hT4.out.kept (Fp := fun j => j = wz.heap.size) (by repeat (first | (with_reducible exact Fr.refl _ _) | (with_reducible refine Fr.setCell ?_ _ _ _ (.inl rfl)))) (fun j hj e => hnf2.out (e ▸ hj)) (by omega) (fun j e => by omega)
        · exact Nat.lt_of_lt_of_le hz5 (Fr.size (Fp := fun j => j = wz.heap.size) (by repeat (first | (with_reducible exact Fr.refl _ _) | (with_reducible refine Fr.setCell ?_ _ _ _ (.inl rfl)))))
        · simp [go_sem, k0, k1, k2, hz5]
        · simp [go_sem, k0, k1, k2, hz5]
        · simp [go_sem, k0, k1, k2, hz5]
        · intro o
          simp [go_sem, kf]
    · have e1 : ¬ ((j : Int) < k) := by omega
      have e2 := decide_eq_false e1
      have h0' : ys.length = 0 := by have := hP.out.2.1; omega
      clear b0 b1 b2 bf
      go_wp2_with fail
      refine (htake_none _ w.heap.size v' k ys hT.out.1 h0').mono ?_
      rintro e w2 ⟨rfl, hb⟩
      obtain ⟨X, d, rfl⟩ := below_ext hb
      clear hb
      go_wp2_with fail
      refine (len_heap _ w.heap.size v' k ys (hT.out.1.kept (Fp := fun _ => False) (by repeat (first | (with_reducible exact Fr.refl _ _) | (with_reducible apply Fr.ext) | (with_reducible apply Fr.drew) | (with_reducible apply Fr.alloc))) (fun _ _ h => h))).mono ?_
      rintro e w2 ⟨rfl, rfl⟩
      rw [h0']
      go_wp2_with fail
      refine (works_any _).mono ?_
      rintro e w2 ⟨rfl, hb⟩
      obtain ⟨X1, d1, rfl⟩ := below_ext hb
      clear hb
      go_wp2_with fail
      go_ret
      have HTB := hT.out.2.2.2.2.2
      have sz := HTB.size
      exact ⟨rfl, by repeat (first | (with_reducible exact Below.refl _ _) | (with_reducible assumption) | (with_reducible refine below_drewN ?_ _) | (with_reducible refine Below.drew ?_) | (with_reducible refine below_ext_of ?_ (by first | exact Nat.le_refl _ | assumption | (simp only [World.size_alloc, World.size_setCell, size_ext, World.heap_drewN]; omega)) _ _) | (with_reducible refine Below.alloc ?_ (by first | exact Nat.le_refl _ | assumption | (simp only [World.size_alloc, World.size_setCell, size_ext, World.heap_drewN]; omega)) _) | (with_reducible refine Below.setCell ?_ (by first | exact Nat.le_refl _ | assumption | (simp only [World.size_alloc, World.size_setCell, size_ext, World.heap_drewN]; omega)) _))⟩
end Go.Proofs.Ytbplaiooipldlaa
