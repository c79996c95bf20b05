/-
  carillonlaw25.stands: the rows are all, each ahead of those that it stands over: it returns true of a heap's row and the set's row of the same jobs.
  Conditions: both rows lie in memory, at most 4096 jobs.
-/
import Derived.Test.YtbplaiooipldlaaSe
import Derived.WalkKit
import Derived.WalkSpells
import Derived.WalkLawsBesides
import Derived.Deep.QuietTactic
import Derived.BigQuiet
import Derived.Lib.Hide
import Derived.Handy
import Derived.OwnWalk
import Derived.Deep.DeepCutAuto
import Derived.Deep.RegionLaw
import Derived.Deep.RegionHeld3
import Derived.Deep.RegionWith
import Derived.BigRegion
set_option linter.unusedVariables false
set_option linter.unusedSimpArgs false
namespace Go.Proofs.Ytbplaiooipldlaa
open Go.RowKit Hp
attribute [local go_sem] setCell_drewN alloc_drewN size_ext ext_ext ext_drewN ext_drew drewN_ext drew_ext cell?_ext frozen?_ext setCell_ext cell?_past1 frozen?_past1 setCell_past1 cell?_past2 frozen?_past2 setCell_past2 cell?_past3 frozen?_past3 setCell_past3 cell?_past4 frozen?_past4 setCell_past4 cell?_past5 frozen?_past5 setCell_past5 cell?_past6 frozen?_past6 setCell_past6 cell?_past7 frozen?_past7 setCell_past7 cell?_past8 frozen?_past8 setCell_past8

theorem sput_go (w : World) (k : Key) (r : Nat) (v : Value) (most : Int) (xs : List Key) (h : IsSet w r v most xs) (hm : (xs.length : Int) < most) (hn : xs.length ≤ 4096) :
    Calls Try.prog 14 #[.pointer (some ⟨r, 0, none⟩), .agg #[.int .i64 k.due, .int .i64 k.task, .int .i64 k.n]] w fun e w' => e = .returned (.int .i64 0) ∧ ∃ v', SetDone w w' r most (ins k xs) v' := by
  cases xs with
  | nil => exact sput_nil w k r v most h (by simpa using hm)
  | cons x l => exact sput_ok w k r v most (x :: l) h (by simp) hm hn
/-- What is told of a row that may be nil. -/
def RowAt (w : World) (p : Option Addr) (xs : List Key) : Prop := 0 < xs.length → ∃ g o, p = some ⟨g, o, none⟩ ∧ g < w.heap.size ∧ Src w g o xs
set_option maxRecDepth 100000 in
set_option maxHeartbeats 20000000 in
theorem stands_ok (xs ys : List Key) (p q : Option Addr) (cp cq : Nat) (w : World) (hp : RowAt w p xs) (hq : RowAt w q ys) (ho : Ok xs) (hs : Sorted ys) (hxy : xs.Perm ys) (hn : xs.length ≤ 4096) :
    Calls Try.prog 16 #[.slice p xs.length cp, .slice q ys.length cq] w fun e w' => e = .returned (.bool true) ∧ Below w.heap.size w w' := by
  obtain ⟨n, hln⟩ : ∃ n, n = xs.length := ⟨_, rfl⟩
  have hly : ys.length = n := by rw [hln, hxy.length_eq]
  rw [hly, ← hln]
  rw [← hln] at hn
  have HX := Lib.hid hln
  have HY := Lib.hid hly
  have HP := Lib.hid hp
  have HQ := Lib.hid hq
  have HO := Lib.hid ho
  have HS := Lib.hid hs
  have HXY := Lib.hid hxy
  clear hln hly hp hq ho hs hxy
  go_enter Try.func16, Try.ntmps16
  go_wp2_with fail
  have HI : Hid (IsSet (w.alloc (.cells #[.int .i64 n, .slice none 0 0] 40)) w.heap.size (.slice none 0 0) n []) := Lib.hid ⟨heap_alloc_new w _, ⟨rfl, .inl ⟨rfl, rfl⟩⟩, fun _ => rfl⟩
  have HB : Hid (Below w.heap.size w (w.alloc (.cells #[.int .i64 n, .slice none 0 0] 40))) := Lib.hid ((Below.refl _ _).alloc (Nat.le_refl _) _)
  go_loopw [6] (fun i wr => ∃ (k : Nat) (v : Value) (zs : List Key), i = .int .i64 (k : Int) ∧ k ≤ n ∧ Hid (IsSet wr w.heap.size v n zs) ∧ Hid (Sorted zs ∧ zs.Perm (xs.take k) ∧ (∀ j, v.ownBlock = some j → w.heap.size ≤ j)) ∧ Hid (Below w.heap.size w wr)) (fun i _ => n - (intOf i).toNat)
  case atStart => exact ⟨0, .slice none 0 0, [], rfl, by omega, HI, Lib.hid ⟨List.Pairwise.nil, by simp, fun j h => by cases h⟩, HB⟩
  case round =>
  clear HI HB
  obtain ⟨k, v, zs, rfl, hkn, hI, hZ, hB⟩ := hrel
  by_cases hk : k < n
  · have e1 : (k : Int) < n := by omega
    have e2 := decide_eq_true e1
    have e3 : (0 : Int) ≤ k := by omega
    obtain ⟨g, o, rfl, hg, hsrc⟩ := HP.out (by have := HX.out; omega)
    have HSRC := Lib.hid hsrc
    have hzl : zs.length = k := by rw [hZ.out.2.1.length_eq, List.length_take]; have := HX.out; omega
    have HZL := Lib.hid hzl
    obtain ⟨s1, s2, s3⟩ := (hsrc.below hB.out hg) k (by have := HX.out; omega)
    obtain ⟨x, hx⟩ : ∃ x, x = at_ xs k := ⟨_, rfl⟩
    rw [← hx] at s1 s2 s3
    have Hx := Lib.hid hx
    clear hx hsrc hzl
    go_wp2_with fail
    refine (sput_go _ x w.heap.size v n zs hI.out (by rw [HZL.out]; exact e1) (by rw [HZL.out]; omega)).mono ?_
    rintro e w2 ⟨rfl, v2, hd⟩
    have HD := Lib.hid hd
    have HB2 : Hid (Below w.heap.size w w2) := Lib.hid (hB.out.trans (hd.2.2.to_below hB.out.size (fun j e => by omega)))
    have HZ2 : Hid (Sorted (ins x zs) ∧ (ins x zs).Perm (xs.take (k + 1)) ∧ (∀ j, v2.ownBlock = some j → w.heap.size ≤ j)) := Lib.hid (by
      refine ⟨ins_sorted x zs hZ.out.1, (ins_perm x zs).trans ?_, fun j hj => Nat.le_trans hB.out.size (hd.2.1 j hj)⟩
      have hxl := HX.out
      rw [List.take_succ_eq_append_getElem (by omega), ← at_eq xs k (by omega), ← Hx.out]
      exact (hZ.out.2.1.cons x).trans (List.perm_append_singleton x _).symm)
    clear s1 s2 s3 hd hI hZ hB
    go_wp2_with fail
    go_loopw [7] (fun i wr => ∃ (j : Nat) (X : Array Obj) (d : Nat), i = .int .i64 (j : Int) ∧ 2 * k + 1 ≤ j ∧ j ≤ 2 * k + 3 ∧ wr = ext w2 X d) (fun i _ => 2 * k + 4 - (intOf i).toNat)
    case atStart => exact ⟨2 * k + 1, #[], w2.drawn, by simp, by omega, by omega, (ext_nil w2).symm⟩
    case round =>
    clear e1 e2
    obtain ⟨j, X, d, rfl, hj1, hj2, rfl⟩ := hrel
    have e4 : (0 : Int) ≤ j := by omega
    by_cases hj3 : j ≤ 2 * k + 2
    · have f1 : (j : Int) ≤ 2 * (k : Int) + 2 := by omega
      have f2 := decide_eq_true f1
      by_cases hjn : j < n
      · have f3 : (j : Int) < n := by omega
        have f4 := decide_eq_true f3
        have e1 : (k : Int) < n := by omega
        obtain ⟨s1, s2, s3⟩ := (HSRC.out.below HB2.out hg) k (by have := HX.out; omega)
        obtain ⟨q1, q2, q3⟩ := (HSRC.out.below HB2.out hg) j (by have := HX.out; omega)
        have hL : Hid (less (at_ xs j) (at_ xs k) = false) := Lib.hid (by
          have := HO.out j (by omega) (by have := HX.out; omega)
          rwa [show (j - 1) / 2 = k by omega] at this)
        rw [← Hx.out] at s1 s2 s3 hL
        generalize at_ xs j = y at *
        have hgw2 : g < w2.heap.size := Nat.lt_of_lt_of_le hg HB2.out.size
        go_wp2_with fail
        go_region_held3 (fun w' => w'.cell? ⟨g, o + k * 3, none⟩ = some (.int .i64 x.due) ∧ w'.cell? ⟨g, o + k * 3 + 1, none⟩ = some (.int .i64 x.task) ∧ w'.cell? ⟨g, o + k * 3 + 2, none⟩ = some (.int .i64 x.n) ∧ w'.cell? ⟨g, o + j * 3, none⟩ = some (.int .i64 y.due) ∧ w'.cell? ⟨g, o + j * 3 + 1, none⟩ = some (.int .i64 y.task) ∧ w'.cell? ⟨g, o + j * 3 + 2, none⟩ = some (.int .i64 y.n)) (go_simp) (first
          | (go_at_call 23; refine (rless_any y x _).mono ?_; rintro e w1 ⟨rfl, hbw⟩; obtain ⟨X1, e1, rfl⟩ := below_ext hbw; clear hbw))
        rename_i hHeld
        clear hHeld
        rw [hL.out]
        go_wp2_with fail
        go_roundw
        case measure =>
          simp only [intOf, Int.toNat_natCast]
          omega
        case rel => exact ⟨j + 1, _, _, rfl, by omega, by omega, rfl⟩
      · have f3 : ¬ ((j : Int) < n) := by omega
        have f4 := decide_eq_false f3
        go_wp2_with fail
        go_roundw
        case measure =>
          simp only [intOf, Int.toNat_natCast]
          omega
        case rel => exact ⟨k + 1, v2, ins x zs, rfl, by omega, Lib.hid (HD.out.1.kept (Fp := fun _ => False) (Fr.of_below (ext_below _ _ _)) (fun _ _ h => h)), HZ2, Lib.hid (below_ext_of HB2.out HB2.out.size _ _)⟩
    · have f1 : ¬ ((j : Int) ≤ 2 * (k : Int) + 2) := by omega
      have f2 := decide_eq_false f1
      go_wp2_with fail
      go_roundw
      case measure =>
        simp only [intOf, Int.toNat_natCast]
        omega
      case rel => exact ⟨k + 1, v2, ins x zs, rfl, by omega, Lib.hid (HD.out.1.kept (Fp := fun _ => False) (Fr.of_below (ext_below _ _ _)) (fun _ _ h => h)), HZ2, Lib.hid (below_ext_of HB2.out HB2.out.size _ _)⟩
  · have e1 : ¬ ((k : Int) < n) := by omega
    have e2 := decide_eq_false e1
    obtain rfl : k = n := by omega
    have hze : zs = ys := sorted_eq zs ys hZ.out.1 HS.out (hZ.out.2.1.trans (by rw [List.take_of_length_le (by have := HX.out; omega)]; exact HXY.out))
    subst hze
    clear hZ hk hkn
    go_wp2_with fail
    obtain ⟨wz, hwz⟩ : ∃ wz, wz = wr := ⟨wr, rfl⟩
    subst hwz
    clear e1 e2
    go_loopw [8] (fun i wr => ∃ (j : Nat) (X : Array Obj) (d : Nat), i = .int .i64 (j : Int) ∧ j ≤ k ∧ wr = ext wz X d) (fun i _ => k - (intOf i).toNat)
    case atStart => exact ⟨0, #[], wz.drawn, rfl, by omega, (ext_nil wz).symm⟩
    case round =>
    obtain ⟨j, X, d, rfl, hj, rfl⟩ := hrel
    by_cases hjk : j < k
    · have e1 : (j : Int) < k := by omega
      have e2 := decide_eq_true e1
      have e3 : (0 : Int) ≤ j := by omega
      obtain ⟨gq, oq, rfl, hgq, hsq⟩ := HQ.out (by have := HY.out; omega)
      obtain ⟨gz, cz, rfl, hgz, hgzr, _, _⟩ := hI.out.form (by have := HY.out; omega)
      obtain ⟨c0, c1, cf⟩ := hI.out.cells
      have hwB := hI.out.lt _ (.inl rfl)
      obtain ⟨s1, s2, s3⟩ := (hsq.below hB.out hgq) j (by have := HY.out; omega)
      obtain ⟨q1, q2, q3⟩ := hI.out.2.1.rowE rfl j (by have := HY.out; omega)
      have hyl := HY.out
      rw [hyl] at c1
      generalize at_ zs j = y at *
      have hgq2 : gq < wz.heap.size := Nat.lt_of_lt_of_le hgq hB.out.size
      clear hyl hsq
      go_wp2_with fail
      go_region
      go_wp2_with fail
      go_roundw
      case measure =>
        simp only [intOf, Int.toNat_natCast]
        omega
      case rel => exact ⟨j + 1, _, _, rfl, by omega, rfl⟩
    · have e1 : ¬ ((j : Int) < k) := by omega
      have e2 := decide_eq_false e1
      go_wp2_with fail
      go_ret
      exact ⟨rfl, below_ext_of hB.out hB.out.size _ _⟩
end Go.Proofs.Ytbplaiooipldlaa
