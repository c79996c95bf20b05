/-
  carillonlaw25.HeapPlays: which job is first, whatever is put and taken, and that all stand in a row as they must: it returns true.
  Conditions: the script lies in memory.
-/
import Derived.Test.YtbplaiooipldlaaRa
import Derived.WalkKit
import Derived.WalkSpells
import Derived.WalkLawsBesides
import Derived.Deep.QuietTactic
import Derived.BigQuiet
import Derived.Lib.Hide
import Derived.Handy
import Derived.OwnWalk
import Derived.Deep.DeepCutAuto
import Derived.Deep.RegionLaw
import Derived.Deep.RegionHeld3
import Derived.Deep.RegionWith
import Derived.BigRegion
set_option linter.unusedVariables false
set_option linter.unusedSimpArgs false
namespace Go.Proofs.Ytbplaiooipldlaa
open Go.RowKit Hp
attribute [local go_sem] setCell_drewN alloc_drewN size_ext ext_ext ext_drewN ext_drew drewN_ext drew_ext cell?_ext frozen?_ext setCell_ext cell?_past1 frozen?_past1 setCell_past1 cell?_past2 frozen?_past2 setCell_past2 cell?_past3 frozen?_past3 setCell_past3 cell?_past4 frozen?_past4 setCell_past4 cell?_past5 frozen?_past5 setCell_past5 cell?_past6 frozen?_past6 setCell_past6 cell?_past7 frozen?_past7 setCell_past7 cell?_past8 frozen?_past8 setCell_past8

structure Step where
  k : Key
  takes : Bool
def stepAt (sc : List Step) (i : Nat) : Step := sc.getD i ⟨zero, false⟩
/-- A script in a row at block g from cell o on. -/
def SrcS (w : World) (g o : Nat) (sc : List Step) : Prop :=
  ∀ i, i < sc.length → w.cell? ⟨g, o + i * 4, none⟩ = some (.int .i64 (stepAt sc i).k.due) ∧ w.cell? ⟨g, o + i * 4 + 1, none⟩ = some (.int .i64 (stepAt sc i).k.task) ∧ w.cell? ⟨g, o + i * 4 + 2, none⟩ = some (.int .i64 (stepAt sc i).k.n) ∧ w.cell? ⟨g, o + i * 4 + 3, none⟩ = some (.bool (stepAt sc i).takes)
theorem SrcS.below {w w' : World} {g o : Nat} {sc : List Step} (h : SrcS w g o sc) (hf : Below w.heap.size w w') (hlt : g < w.heap.size) : SrcS w' g o sc := by
  intro i hi
  obtain ⟨h1, h2, h3, h4⟩ := h i hi
  exact ⟨(hf.cell (p := ⟨g, _, none⟩) hlt).trans h1, (hf.cell (p := ⟨g, _, none⟩) hlt).trans h2, (hf.cell (p := ⟨g, _, none⟩) hlt).trans h3, (hf.cell (p := ⟨g, _, none⟩) hlt).trans h4⟩
/-- A heap and a set, both the call's own. -/
def Pair (w wr : World) (H : Nat) (v : Value) (R : Nat) (vr : Value) (most : Int) (xs ys : List Key) : Prop :=
  IsHeap wr H v most xs ∧ IsSet wr R vr most ys ∧ (∀ j, foot H v j → w.heap.size ≤ j) ∧ (∀ j, foot R vr j → w.heap.size ≤ j) ∧ (∀ j, foot H v j → ¬ foot R vr j) ∧ Below w.heap.size w wr
theorem Pair.kept {w wr w' : World} {H R : Nat} {v vr : Value} {most : Int} {xs ys : List Key} {Fp : Nat → Prop} (h : Pair w wr H v R vr most xs ys) (hf : Fr Fp wr w') (h1 : ∀ j, foot H v j → ¬ Fp j) (h2 : ∀ j, foot R vr j → ¬ Fp j) (h3 : ∀ j, Fp j → w.heap.size ≤ j) : Pair w w' H v R vr most xs ys := by
  obtain ⟨i1, i2, i3, i4, i5, i7⟩ := h
  exact ⟨i1.kept hf h1, i2.kept hf h2, i3, i4, i5, i7.trans (hf.to_below i7.size h3)⟩
theorem Pair.below {w wr w' : World} {H R : Nat} {v vr : Value} {most : Int} {xs ys : List Key} (h : Pair w wr H v R vr most xs ys) (hf : Below wr.heap.size wr w') : Pair w w' H v R vr most xs ys :=
  h.kept (Fp := fun _ => False) (Fr.of_below hf) (fun _ _ h => h) (fun _ _ h => h) (fun _ h => h.elim)
theorem Pair.heap {w wr w' : World} {H R : Nat} {v vr v' : Value} {most : Int} {xs ys zs : List Key} (h : Pair w wr H v R vr most xs ys) (hA : Appended wr w' H v most zs v') : Pair w w' H v' R vr most zs ys := by
  obtain ⟨i1, i2, i3, i4, i5, i7⟩ := h
  refine ⟨hA.1, i2.kept hA.2.2 (fun j h2 h1 => i5 j h1 h2), fun j hj => ?_, i4, fun j hj h2 => ?_, i7.trans (hA.2.2.to_below i7.size i3)⟩
  · rcases hA.2.1 j hj with h | h
    · exact i3 j h
    · exact Nat.le_trans i7.size h
  · rcases hA.2.1 j hj with h | h
    · exact i5 j h h2
    · have := i2.lt j h2; omega
theorem Pair.set {w wr w' : World} {H R : Nat} {v vr v' : Value} {most : Int} {xs ys zs : List Key} (h : Pair w wr H v R vr most xs ys) (hA : SetDone wr w' R most zs v') : Pair w w' H v R v' most xs zs := by
  obtain ⟨i1, i2, i3, i4, i5, i7⟩ := h
  have hR : w.heap.size ≤ R := i4 R (.inl rfl)
  refine ⟨i1.kept hA.2.2 (fun j h1 h2 => i5 j h1 (.inl h2)), hA.1, i3, fun j hj => ?_, fun j hj h2 => ?_, i7.trans (hA.2.2.to_below i7.size (fun j e => e ▸ hR))⟩
  · rcases hj with rfl | hj
    · exact hR
    · exact Nat.le_trans i7.size (hA.2.1 j hj)
  · rcases h2 with rfl | h2
    · exact i5 j hj (.inl rfl)
    · have := hA.2.1 j h2
      have := i1.lt j hj
      omega
/-- The two agree. -/
def Agree (most : Int) (xs ys : List Key) : Prop := Ok xs ∧ Sorted ys ∧ xs.Perm ys ∧ (xs.length : Int) ≤ most
set_option maxHeartbeats 2000000 in
theorem HeapPlays_out (most : Int) (q : Option Addr) (sn sc : Nat) (w : World) (h : 300 < sn) : Calls Try.prog 4 #[.int .i64 most, .slice q sn sc] w fun e w' => e = .returned (.bool true) ∧ Below w.heap.size w w' := by
  have d1 : decide ((sn : Int) > 300) = true := decide_eq_true (by omega)
  have d2 : (300 : Int) < sn := by omega
  clear h
  go_enter Try.func4, Try.ntmps4
  go_wp2_with fail
  refine (works_any _).mono ?_
  rintro e w1 ⟨rfl, hb⟩
  obtain ⟨X4, d4, rfl⟩ := below_ext hb
  clear hb
  go_wp2_with fail
  go_ret
  exact ⟨rfl, by repeat (first | (with_reducible exact Below.refl _ _) | (with_reducible assumption) | (with_reducible refine below_drewN ?_ _) | (with_reducible refine Below.drew ?_) | (with_reducible refine below_ext_of ?_ (by first | exact Nat.le_refl _ | assumption | (simp only [World.size_alloc, World.size_setCell, size_ext, World.heap_drewN]; omega)) _ _) | (with_reducible refine Below.alloc ?_ (by first | exact Nat.le_refl _ | assumption | (simp only [World.size_alloc, World.size_setCell, size_ext, World.heap_drewN]; omega)) _) | (with_reducible refine Below.setCell ?_ (by first | exact Nat.le_refl _ | assumption | (simp only [World.size_alloc, World.size_setCell, size_ext, World.heap_drewN]; omega)) _))⟩
set_option maxHeartbeats 2000000 in
theorem HeapPlays_bad (most : Int) (q : Option Addr) (sn sc : Nat) (w : World) (h : sn ≤ 300) (hm : ¬ (1 ≤ most ∧ most ≤ 4096)) : Calls Try.prog 4 #[.int .i64 most, .slice q sn sc] w fun e w' => e = .returned (.bool true) ∧ Below w.heap.size w w' := by
  have d1 : decide ((sn : Int) > 300) = false := decide_eq_false (by omega)
  have d2 : ¬ ((300 : Int) < sn) := by omega
  by_cases hm1 : most < 1
  · have d3 := decide_eq_true hm1
    go_enter Try.func4, Try.ntmps4
    go_wp2_with fail
    refine (new_bad _ most hm).mono ?_
    rintro e w1 ⟨rfl, rfl⟩
    clear hm
    go_wp2_with fail
    refine (works_any _).mono ?_
    rintro e w1 ⟨rfl, hb⟩
    obtain ⟨X4, d4, rfl⟩ := below_ext hb
    clear hb
    go_wp2_with fail
    go_ret
    exact ⟨rfl, by repeat (first | (with_reducible exact Below.refl _ _) | (with_reducible assumption) | (with_reducible refine below_drewN ?_ _) | (with_reducible refine Below.drew ?_) | (with_reducible refine below_ext_of ?_ (by first | exact Nat.le_refl _ | assumption | (simp only [World.size_alloc, World.size_setCell, size_ext, World.heap_drewN]; omega)) _ _) | (with_reducible refine Below.alloc ?_ (by first | exact Nat.le_refl _ | assumption | (simp only [World.size_alloc, World.size_setCell, size_ext, World.heap_drewN]; omega)) _) | (with_reducible refine Below.setCell ?_ (by first | exact Nat.le_refl _ | assumption | (simp only [World.size_alloc, World.size_setCell, size_ext, World.heap_drewN]; omega)) _))⟩
  · have d3 := decide_eq_false hm1
    have d4 : decide (most > 4096) = true := decide_eq_true (by omega)
    have d5 : 4096 < most := by omega
    go_enter Try.func4, Try.ntmps4
    go_wp2_with fail
    refine (new_bad _ most hm).mono ?_
    rintro e w1 ⟨rfl, rfl⟩
    clear hm
    go_wp2_with fail
    refine (works_any _).mono ?_
    rintro e w1 ⟨rfl, hb⟩
    obtain ⟨X4, d4, rfl⟩ := below_ext hb
    clear hb
    go_wp2_with fail
    go_ret
    exact ⟨rfl, by repeat (first | (with_reducible exact Below.refl _ _) | (with_reducible assumption) | (with_reducible refine below_drewN ?_ _) | (with_reducible refine Below.drew ?_) | (with_reducible refine below_ext_of ?_ (by first | exact Nat.le_refl _ | assumption | (simp only [World.size_alloc, World.size_setCell, size_ext, World.heap_drewN]; omega)) _ _) | (with_reducible refine Below.alloc ?_ (by first | exact Nat.le_refl _ | assumption | (simp only [World.size_alloc, World.size_setCell, size_ext, World.heap_drewN]; omega)) _) | (with_reducible refine Below.setCell ?_ (by first | exact Nat.le_refl _ | assumption | (simp only [World.size_alloc, World.size_setCell, size_ext, World.heap_drewN]; omega)) _))⟩
set_option maxRecDepth 100000 in
set_option maxHeartbeats 20000000 in
theorem HeapPlays_ok (most : Int) (q : Option Addr) (sn sc : Nat) (w : World) (h : sn ≤ 300) (hm1 : 1 ≤ most) (hm2 : most ≤ 4096) (hq : 0 < sn → ∃ g o S, q = some ⟨g, o, none⟩ ∧ g < w.heap.size ∧ SrcS w g o S ∧ S.length = sn) :
    Calls Try.prog 4 #[.int .i64 most, .slice q sn sc] w fun e w' => e = .returned (.bool true) ∧ Below w.heap.size w w' := by
  have d1 : decide ((sn : Int) > 300) = false := decide_eq_false (by omega)
  have d2 : ¬ ((300 : Int) < sn) := by omega
  have d3 : decide (most < 1) = false := decide_eq_false (by omega)
  have d4 : decide (most > 4096) = false := decide_eq_false (by omega)
  have d5 : ¬ (4096 < most) := by omega
  have d6 : ¬ (most < 1) := by omega
  have HQ := Lib.hid hq
  have HM1 := Lib.hid hm1
  have HM2 := Lib.hid hm2
  clear hq hm1 hm2
  go_enter Try.func4, Try.ntmps4
  go_wp2_with fail
  refine (new_ok _ most HM1.out HM2.out).mono ?_
  rintro e w1 ⟨rfl, h1, b1⟩
  have hw1 : w.heap.size < w1.heap.size := h1.lt _ (.inl rfl)
  have HP : Hid (Pair w (w1.alloc (.cells #[.int .i64 most, .slice none 0 0] 40)) w.heap.size (.slice none 0 0) w1.heap.size (.slice none 0 0) most [] []) := Lib.hid (by
    refine ⟨h1.kept (Fp := fun _ => False) (by repeat (first | (with_reducible exact Fr.refl _ _) | (with_reducible apply Fr.ext) | (with_reducible apply Fr.drew) | (with_reducible apply Fr.alloc))) (fun _ _ h => h), ⟨heap_alloc_new w1 _, ⟨rfl, .inl ⟨rfl, rfl⟩⟩, fun _ => rfl⟩, ?_, ?_, ?_, b1.alloc (by omega) _⟩
    · rintro j (rfl | hj)
      · omega
      · cases hj
    · rintro j (rfl | hj)
      · omega
      · cases hj
    · rintro j (rfl | hj) (h | h)
      · omega
      · cases h
      · cases hj
      · cases hj)
  clear h1 b1
  go_wp2_with fail
  clear d1 d2 d3 d4 d5 d6
  go_loopw [8] (fun i wr => ∃ (k : Nat) (xs ys : List Key) (v vr : Value), i = .int .i64 (k : Int) ∧ k ≤ sn ∧ Hid (Pair w wr w.heap.size v w1.heap.size vr most xs ys) ∧ Hid (Agree most xs ys)) (fun i _ => sn - (intOf i).toNat)
  case atStart => exact ⟨0, [], [], _, _, rfl, by omega, HP, Lib.hid ⟨ok_nil, List.Pairwise.nil, List.Perm.refl _, by have := HM1.out; simp; omega⟩⟩
  case round =>
  clear HP
  obtain ⟨k, xs, ys, v, vr, rfl, hks, hP, hA⟩ := hrel
  by_cases hk : k < sn
  · have e1 : (k : Int) < sn := by omega
    have e2 := decide_eq_true e1
    have e3 : (0 : Int) ≤ k := by omega
    obtain ⟨g, o, sc', rfl, hg, hS, hSl⟩ := HQ.out (by omega)
    obtain ⟨s1, s2, s3, s4⟩ := (hS.below hP.out.2.2.2.2.2 hg) k (by omega)
    have HS := Lib.hid hS
    have HSl := Lib.hid hSl
    obtain ⟨x, hx⟩ : ∃ x, x = (stepAt sc' k).k := ⟨_, rfl⟩
    rw [← hx] at s1 s2 s3
    have Hx := Lib.hid hx
    generalize (stepAt sc' k).takes = tk at s4
    clear hx hS hSl
    go_upto_if 58 with (fail)
    go_cut [] (fun wc => ∃ (xs' ys' : List Key) (v' vr' : Value), Hid (Pair w wc w.heap.size v' w1.heap.size vr' most xs' ys') ∧ Hid (Agree most xs' ys'))
    case first =>
      cases tk
      · have hlen := hA.out.2.2.1.length_eq
        by_cases hfull : most ≤ xs.length
        · have hf2 : most ≤ ys.length := by rw [← hlen]; exact hfull
          have hgr : g < wr.heap.size := Nat.lt_of_lt_of_le hg hP.out.2.2.2.2.2.size
          go_upto_region 17 with (fail)
          go_cut [91] (fun s wc => s = .bool false ∧ ∃ X d, wc = ext wr X d)
          case first =>
            clear hlen hk hks
            go_region_held3 (fun w' => w'.cell? ⟨g, o + k * 4, none⟩ = some (.int .i64 x.due) ∧ w'.cell? ⟨g, o + k * 4 + 1, none⟩ = some (.int .i64 x.task) ∧ w'.cell? ⟨g, o + k * 4 + 2, none⟩ = some (.int .i64 x.n)) (go_simp) (first
              | (go_at_call 9; refine (hput_full _ x w.heap.size v most xs (hP.out.1.kept (Fp := fun _ => False) (by repeat (first | (with_reducible exact Fr.refl _ _) | (with_reducible apply Fr.ext) | (with_reducible apply Fr.drew) | (with_reducible apply Fr.alloc))) (fun _ _ h => h)) hfull).mono ?_; rintro e w1 ⟨rfl, hbw⟩; obtain ⟨X1, e1, rfl⟩ := below_ext hbw; clear hbw)
              | (go_at_call 14; refine (sput_full _ x w1.heap.size vr most ys (hP.out.2.1.kept (Fp := fun _ => False) (by repeat (first | (with_reducible exact Fr.refl _ _) | (with_reducible apply Fr.ext) | (with_reducible apply Fr.drew) | (with_reducible apply Fr.alloc))) (fun _ _ h => h)) hf2).mono ?_; rintro e w1 ⟨rfl, hbw⟩; obtain ⟨X1, e1, rfl⟩ := below_ext hbw; clear hbw))
            rename_i hHeld
            clear hHeld
            go_wp2_with fail
            go_meet
            case rel => exact ⟨rfl, _, _, rfl⟩
          case rest =>
          obtain ⟨rfl, X, d, rfl⟩ := hcut
          go_wp2_with fail
          go_meet
          case rel => exact ⟨xs, ys, v, vr, Lib.hid (hP.out.kept (Fp := fun _ => False) (by repeat (first | (with_reducible exact Fr.refl _ _) | (with_reducible apply Fr.ext) | (with_reducible apply Fr.drew) | (with_reducible apply Fr.alloc))) (fun _ _ h => h) (fun _ _ h => h) (fun _ h => h.elim)), hA⟩
        · have hlt1 : (xs.length : Int) < most := by omega
          have hlt2 : (ys.length : Int) < most := by rw [← hlen]; exact hlt1
          have hl4 : xs.length < 4096 := by have := HM2.out; omega
          have hl5 : ys.length ≤ 4096 := by omega
          have hgr : g < wr.heap.size := Nat.lt_of_lt_of_le hg hP.out.2.2.2.2.2.size
          have hS0 := HS.out
          have hSl0 := HSl.out
          have hAg : Hid (Agree most (put xs x) (ins x ys)) := Lib.hid (by
            have hA2 := hA.out
            obtain ⟨o1, o2⟩ := put_spec xs x hA2.1
            refine ⟨o1, ins_sorted x ys hA2.2.1, ?_, by rw [put_length xs x hA2.1]; omega⟩
            exact o2.trans ((List.perm_append_singleton x xs).trans ((hA2.2.2.1.cons x).trans (ins_perm x ys).symm)))
          go_upto_region 17 with (fail)
          go_cut [91] (fun s wc => s = .bool false ∧ ∃ v' vr', Hid (Pair w wc w.heap.size v' w1.heap.size vr' most (put xs x) (ins x ys)))
          case first =>
            clear hlen hk hks hfull hA
            have hP1 : Hid (Pair w wr.drew w.heap.size v w1.heap.size vr most xs ys) := Lib.hid (hP.out.kept (Fp := fun _ => False) (by repeat (first | (with_reducible exact Fr.refl _ _) | (with_reducible apply Fr.ext) | (with_reducible apply Fr.drew) | (with_reducible apply Fr.alloc))) (fun _ _ h => h) (fun _ _ h => h) (fun _ h => h.elim))
            clear hP
            go_region_with (first
              | (go_at_call 9; refine (hput_ok _ x w.heap.size v most xs hP1.out.1 hlt1 hl4).mono ?_; rintro e wA ⟨rfl, v', hAp⟩
                 have hP2 := Lib.hid (hP1.out.heap hAp)
                 obtain ⟨a1, a2, a3, a4⟩ := (hS0.below hP2.out.2.2.2.2.2 hg) k (by omega)
                 rw [← Hx.out] at a1 a2 a3
                 clear hAp a4)
              | (go_at_call 14; refine (sput_go _ x w1.heap.size vr most ys hP2.out.2.1 hlt2 hl5).mono ?_; rintro e wB ⟨rfl, vr', hD⟩
                 have hP3 := Lib.hid (hP2.out.set hD)
                 clear hD)
              | (go_at_call 14; refine (sput_go _ x w1.heap.size vr most ys hP1.out.2.1 hlt2 hl5).mono ?_; rintro e wB ⟨rfl, vr', hD⟩
                 have hP4 := Lib.hid (hP1.out.set hD)
                 obtain ⟨a1, a2, a3, a4⟩ := (hS0.below hP4.out.2.2.2.2.2 hg) k (by omega)
                 rw [← Hx.out] at a1 a2 a3
                 clear hD a4)
              | (go_at_call 9; refine (hput_ok _ x w.heap.size v most xs hP4.out.1 hlt1 hl4).mono ?_; rintro e wA ⟨rfl, v', hAp⟩
                 have hP3 := Lib.hid (hP4.out.heap hAp)
                 clear hAp))
            all_goals
              go_wp2_with fail
              go_meet
              case rel => exact ⟨rfl, _, _, hP3⟩
          case rest =>
          obtain ⟨rfl, v', vr', hP3⟩ := hcut
          go_wp2_with fail
          go_meet
          case rel => exact ⟨put xs x, ins x ys, v', vr', hP3, hAg⟩
      · by_cases hx0 : xs.length = 0
        · have hy0 : ys = [] := List.eq_nil_of_length_eq_zero (by rw [← hA.out.2.2.1.length_eq]; exact hx0)
          subst hy0
          go_wp2_with fail
          refine (htake_none _ w.heap.size v most xs hP.out.1 hx0).mono ?_
          rintro e w2 ⟨rfl, hb⟩
          obtain ⟨X, d, rfl⟩ := below_ext hb
          clear hb
          go_wp2_with fail
          refine (stake_none _ w1.heap.size vr most ((hP.out.2.1).kept (Fp := fun _ => False) (by repeat (first | (with_reducible exact Fr.refl _ _) | (with_reducible apply Fr.ext) | (with_reducible apply Fr.drew) | (with_reducible apply Fr.alloc))) (fun _ _ h => h))).mono ?_
          rintro e w2 ⟨rfl, hb⟩
          obtain ⟨X1, d1, rfl⟩ := below_ext hb
          clear hb
          have z1 : wr.heap.size + X.size < wr.heap.size + X.size + 1 + X1.size := by omega
          go_wp2_with fail
          go_meet
          case rel => exact ⟨xs, [], v, vr, Lib.hid (hP.out.kept (Fp := fun _ => False) (by repeat (first | (with_reducible exact Fr.refl _ _) | (with_reducible apply Fr.ext) | (with_reducible apply Fr.drew) | (with_reducible apply Fr.alloc))) (fun _ _ h => h) (fun _ _ h => h) (fun _ h => h.elim)), hA⟩
        · have hpos : 0 < xs.length := by omega
          have hA2 := hA.out
          have hx4 : xs.length ≤ 4096 := by have := hA2.2.2.2; have := HM2.out; omega
          obtain ⟨t1, t2⟩ := tail_perm xs ys hA2.1 hA2.2.1 hA2.2.2.1 hpos
          have hf := heap_first xs ys hA2.1 hA2.2.1 hA2.2.2.1 hpos
          obtain ⟨r1, r2⟩ := rest_spec xs hA2.1 hpos
          have hlen := hA2.2.2.1.length_eq
          have hAg : Hid (Agree most (rest xs) ys.tail) := Lib.hid ⟨r1, t2, t1, by have h := r2.length_eq; have := hA2.2.2.2; simp only [List.length_cons] at h; omega⟩
          clear hA2 t1 t2 r1 r2 hA
          cases ys with
          | nil => have h := hlen; simp only [List.length_nil] at h; omega
          | cons y m =>
          have hm4 : m.length ≤ 4096 := by simp at hlen; omega
          rw [show at_ (y :: m) 0 = y from rfl] at hf
          rw [show (y :: m).tail = m from rfl] at hAg
          have Hf := Lib.hid hf
          have Hm4 := Lib.hid hm4
          clear hlen hx0 hf hm4
          go_wp2_with fail
          refine (htake_ok _ w.heap.size v most xs hP.out.1 hpos hx4).mono ?_
          rintro e w2 ⟨rfl, v', hAp⟩
          rw [Hf.out]
          have hP2 := Lib.hid (hP.out.heap hAp)
          clear hAp hP hpos hx4
          go_wp2_with fail
          refine (stake_ok _ w1.heap.size vr most y m ((hP2.out.2.1).kept (Fp := fun _ => False) (by repeat (first | (with_reducible exact Fr.refl _ _) | (with_reducible apply Fr.ext) | (with_reducible apply Fr.drew) | (with_reducible apply Fr.alloc))) (fun _ _ h => h)) Hm4.out).mono ?_
          rintro e w3 ⟨rfl, vr', hD⟩
          have hP3 := Lib.hid ((hP2.out.kept (Fp := fun _ => False) (w' := w2.alloc (.cells #[.int .i64 y.due, .int .i64 y.task, .int .i64 y.n] 31)) (by repeat (first | (with_reducible exact Fr.refl _ _) | (with_reducible apply Fr.ext) | (with_reducible apply Fr.drew) | (with_reducible apply Fr.alloc))) (fun _ _ h => h) (fun _ _ h => h) (fun _ h => h.elim)).set hD)
          have hne : ¬ (w2.heap.size = w1.heap.size) := by have := hP2.out.2.1.lt _ (.inl rfl); omega
          have x0 := (hD.2.2.cell w2.heap.size 0 (by simp [go_sem]) hne).trans (show _ = some (Value.int .i64 y.due) by simp [go_sem])
          have x1 := (hD.2.2.cell w2.heap.size 1 (by simp [go_sem]) hne).trans (show _ = some (Value.int .i64 y.task) by simp [go_sem])
          have x2 := (hD.2.2.cell w2.heap.size 2 (by simp [go_sem]) hne).trans (show _ = some (Value.int .i64 y.n) by simp [go_sem])
          have hz : w2.heap.size < w3.heap.size := Nat.lt_of_lt_of_le (by simp [go_sem]) hD.2.2.size
          clear hD hP2 hne
          go_wp2_with fail
          go_meet
          case rel => exact ⟨rest xs, m, v', vr', Lib.hid (hP3.out.kept (Fp := fun _ => False) (by repeat (first | (with_reducible exact Fr.refl _ _) | (with_reducible apply Fr.ext) | (with_reducible apply Fr.drew) | (with_reducible apply Fr.alloc))) (fun _ _ h => h) (fun _ _ h => h) (fun _ h => h.elim)), hAg⟩
    case rest =>
    clear hP hA s1 s2 s3 s4 HS HSl Hx
    obtain ⟨xs', ys', v', vr', hP, hA⟩ := hcut
    have hx4 : xs'.length ≤ 4096 := by have := hA.out.2.2.2; have := HM2.out; omega
    have hlen := hA.out.2.2.1.length_eq
    have f1 : ((xs'.length : Int) == (ys'.length : Int)) = true := by rw [hlen]; simp
    by_cases hx0 : xs'.length = 0
    · have hy0 : ys' = [] := List.eq_nil_of_length_eq_zero (by rw [← hlen]; exact hx0)
      have hx1 : xs' = [] := List.eq_nil_of_length_eq_zero hx0
      subst hy0
      subst hx1
      obtain rfl := hP.out.2.1.2.2 rfl
      go_wp2_with fail
      refine (hfirst_none _ w.heap.size v' most [] hP.out.1 hx0).mono ?_
      rintro e w2 ⟨rfl, hb⟩
      obtain ⟨X, d, rfl⟩ := below_ext hb
      clear hb
      go_upto_region 20 with (fail)
      obtain ⟨W, hW⟩ : ∃ W, W = (ext wc X d).alloc (.cells #[.int .i64 0, .int .i64 0, .int .i64 0] 31) := ⟨_, rfl⟩
      rw [← hW]
      have hPW : Hid (Pair w W w.heap.size v' w1.heap.size (.slice none 0 0) most [] []) := Lib.hid (by rw [hW]; exact hP.out.kept (Fp := fun _ => False) (by repeat (first | (with_reducible exact Fr.refl _ _) | (with_reducible apply Fr.ext) | (with_reducible apply Fr.drew) | (with_reducible apply Fr.alloc))) (fun _ _ h => h) (fun _ _ h => h) (fun _ h => h.elim))
      have k0 : W.cell? ⟨wc.heap.size + X.size, 0, none⟩ = some (.int .i64 0) := by rw [hW]; simp [go_sem]
      have k1 : W.cell? ⟨wc.heap.size + X.size, 1, none⟩ = some (.int .i64 0) := by rw [hW]; simp [go_sem]
      have k2 : W.cell? ⟨wc.heap.size + X.size, 2, none⟩ = some (.int .i64 0) := by rw [hW]; simp [go_sem]
      have hkz : wc.heap.size + X.size < W.heap.size := by rw [hW]; simp [go_sem]
      have hrz := hPW.out.2.1.lt _ (.inl rfl)
      obtain ⟨c0, c1, cf⟩ := hPW.out.2.1.cells
      clear hW hP hx0 f1 hlen
      go_cut [146] (fun s wc => s = .bool false ∧ ∃ X d, wc = ext W X d)
      case first =>
        refine wp_region_held_drew (S := (fun w' => w'.cell? ⟨w1.heap.size, 1, none⟩ = some (.slice none 0 0) ∧ w'.cell? ⟨wc.heap.size + X.size, 0, none⟩ = some (.int .i64 0) ∧ w'.cell? ⟨wc.heap.size + X.size, 1, none⟩ = some (.int .i64 0) ∧ w'.cell? ⟨wc.heap.size + X.size, 2, none⟩ = some (.int .i64 0))) (by kernel_rfl) ?hS1 (fun hHeld => ?go1)
        case hS1 =>
          (try dsimp only)
          go_simp
        case go1 =>
        refine' wpAnyH_take (i := 0) (oi := ⟨_, _, _, _, _, _⟩) (v := ?v2) rfl (by kernel_rfl) (by kernel_rfl) (by kernel_rfl) (fun _ _ _ h => h) (Or.inl ⟨by rfl, ?hy2⟩) (by assumption) ?rest2
        case hy2 =>
          intro w hSw
          (try dsimp only at hSw)
          go_simp
          try (with_reducible rfl)
        case rest2 =>
        (try simp only [Act.put, List.setIfInBounds_toArray, List.set_cons_zero, List.set_cons_succ])
        refine' wpAnyH_take (i := 2) (oi := ⟨_, _, _, _, _, _⟩) (v := ?v3) rfl (by kernel_rfl) (by kernel_rfl) (by kernel_rfl) (fun _ _ _ h => h) (Or.inl ⟨by rfl, ?hy3⟩) (by assumption) ?rest3
        case hy3 =>
          intro w hSw
          (try dsimp only at hSw)
          go_simp
          try (with_reducible rfl)
        case rest3 =>
        (try simp only [Act.put, List.setIfInBounds_toArray, List.set_cons_zero, List.set_cons_succ])
        refine' wpAnyH_take (i := 3) (oi := ⟨_, _, _, _, _, _⟩) (v := ?v4) rfl (by kernel_rfl) (by kernel_rfl) (by kernel_rfl) (fun _ _ _ h => h) (Or.inl ⟨by rfl, ?hy4⟩) (by assumption) ?rest4
        case hy4 =>
          intro w hSw
          (try dsimp only at hSw)
          go_simp
          try (with_reducible rfl)
        case rest4 =>
        (try simp only [Act.put, List.setIfInBounds_toArray, List.set_cons_zero, List.set_cons_succ])
        refine' wpAnyH_take (i := 4) (oi := ⟨_, _, _, _, _, _⟩) (v := ?v5) rfl (by kernel_rfl) (by kernel_rfl) (by kernel_rfl) (fun _ _ _ h => h) (Or.inl ⟨by rfl, ?hy5⟩) (by assumption) ?rest5
        case hy5 =>
          intro w hSw
          (try dsimp only at hSw)
          go_simp
          try (with_reducible rfl)
        case rest5 =>
        (try simp only [Act.put, List.setIfInBounds_toArray, List.set_cons_zero, List.set_cons_succ])
        refine' wpAnyH_take (i := 5) (oi := ⟨_, _, _, _, _, _⟩) (v := ?v6) rfl (by kernel_rfl) (by kernel_rfl) (by kernel_rfl) (fun _ _ _ h => h) (Or.inl ⟨by rfl, ?hy6⟩) (by assumption) ?rest6
        case hy6 =>
          intro w hSw
          (try dsimp only at hSw)
          go_simp
          try (with_reducible rfl)
        case rest6 =>
        (try simp only [Act.put, List.setIfInBounds_toArray, List.set_cons_zero, List.set_cons_succ])
        refine' wpAnyH_take (i := 6) (oi := ⟨_, _, _, _, _, _⟩) (v := ?v7) rfl (by kernel_rfl) (by kernel_rfl) (by kernel_rfl) (fun _ _ _ h => h) (Or.inl ⟨by rfl, ?hy7⟩) (by assumption) ?rest7
        case hy7 =>
          intro w hSw
          (try dsimp only at hSw)
          go_simp
          try (with_reducible rfl)
        case rest7 =>
        (try simp only [Act.put, List.setIfInBounds_toArray, List.set_cons_zero, List.set_cons_succ])
        refine wpAnyH_ready (rs := [1]) (by kernel_rfl) (by simp) ?_
        refine AllReadyH.cons (o := ⟨_, _, _, _, _, _⟩) rfl (fun K hK => ?_) AllReadyH.nil
        go_simp
        (go_at_call 12; refine (len_heap _ w.heap.size v' most [] (hPW.out.1.kept (Fp := fun _ => False) (by repeat (first | (with_reducible exact Fr.refl _ _) | (with_reducible apply Fr.ext) | (with_reducible apply Fr.drew) | (with_reducible apply Fr.alloc))) (fun _ _ h => h))).mono ?_; rintro e wA ⟨rfl, rfl⟩; go_simp)
        refine hK.out _ _ ?hS8 (fun hHeld2 => ?go8)
        case hS8 =>
          (try dsimp only)
          go_simp
        case go8 =>
        clear hK K
        clear hHeld
        have hHeld := hHeld2
        clear hHeld2
        (try simp only [Act.put, List.setIfInBounds_toArray, List.set_cons_zero, List.set_cons_succ])
        refine' wpAnyH_take (i := 7) (oi := ⟨_, _, _, _, _, _⟩) (v := ?v9) rfl (by kernel_rfl) (by kernel_rfl) (by kernel_rfl) (fun _ _ _ h => h) (Or.inl ⟨by rfl, ?hy9⟩) (by assumption) ?rest9
        case hy9 =>
          intro w hSw
          (try dsimp only at hSw)
          go_simp
          try (with_reducible rfl)
        case rest9 =>
        (try simp only [Act.put, List.setIfInBounds_toArray, List.set_cons_zero, List.set_cons_succ])
        refine' wpAnyH_take (i := 8) (oi := ⟨_, _, _, _, _, _⟩) (v := ?v10) rfl (by kernel_rfl) (by kernel_rfl) (by kernel_rfl) (fun _ _ _ h => h) (Or.inl ⟨by rfl, ?hy10⟩) (by assumption) ?rest10
        case hy10 =>
          intro w hSw
          (try dsimp only at hSw)
          go_simp
          try (with_reducible rfl)
        case rest10 =>
        (try simp only [Act.put, List.setIfInBounds_toArray, List.set_cons_zero, List.set_cons_succ])
        refine' wpAnyH_take (i := 9) (oi := ⟨_, _, _, _, _, _⟩) (v := ?v11) rfl (by kernel_rfl) (by kernel_rfl) (by kernel_rfl) (fun _ _ _ h => h) (Or.inl ⟨by rfl, ?hy11⟩) (by assumption) ?rest11
        case hy11 =>
          intro w hSw
          (try dsimp only at hSw)
          go_simp
          try (with_reducible rfl)
        case rest11 =>
        (try simp only [Act.put, List.setIfInBounds_toArray, List.set_cons_zero, List.set_cons_succ])
        refine' wpAnyH_take (i := 10) (oi := ⟨_, _, _, _, _, _⟩) (v := ?v12) rfl (by kernel_rfl) (by kernel_rfl) (by kernel_rfl) (fun _ _ _ h => h) (Or.inl ⟨by rfl, ?hy12⟩) (by assumption) ?rest12
        case hy12 =>
          intro w hSw
          (try dsimp only at hSw)
          go_simp
          try (with_reducible rfl)
        case rest12 =>
        (try simp only [Act.put, List.setIfInBounds_toArray, List.set_cons_zero, List.set_cons_succ])
        refine' wpAnyH_take (i := 11) (oi := ⟨_, _, _, _, _, _⟩) (v := ?v13) rfl (by kernel_rfl) (by kernel_rfl) (by kernel_rfl) (fun _ _ _ h => h) (Or.inl ⟨by rfl, ?hy13⟩) (by assumption) ?rest13
        case hy13 =>
          intro w hSw
          (try dsimp only at hSw)
          go_simp
          try (with_reducible rfl)
        case rest13 =>
        (try simp only [Act.put, List.setIfInBounds_toArray, List.set_cons_zero, List.set_cons_succ])
        refine' wpAnyH_take (i := 12) (oi := ⟨_, _, _, _, _, _⟩) (v := ?v14) rfl (by kernel_rfl) (by kernel_rfl) (by kernel_rfl) (fun _ _ _ h => h) (Or.inl ⟨by rfl, ?hy14⟩) (by assumption) ?rest14
        case hy14 =>
          intro w hSw
          (try dsimp only at hSw)
          go_simp
          try (with_reducible rfl)
        case rest14 =>
        (try simp only [Act.put, List.setIfInBounds_toArray, List.set_cons_zero, List.set_cons_succ])
        refine' wpAnyH_take (i := 13) (oi := ⟨_, _, _, _, _, _⟩) (v := ?v15) rfl (by kernel_rfl) (by kernel_rfl) (by kernel_rfl) (fun _ _ _ h => h) (Or.inl ⟨by rfl, ?hy15⟩) (by assumption) ?rest15
        case hy15 =>
          intro w hSw
          (try dsimp only at hSw)
          go_simp
          try (with_reducible rfl)
        case rest15 =>
        (try simp only [Act.put, List.setIfInBounds_toArray, List.set_cons_zero, List.set_cons_succ])
        refine' wpAnyH_take (i := 14) (oi := ⟨_, _, _, _, _, _⟩) (v := ?v16) rfl (by kernel_rfl) (by kernel_rfl) (by kernel_rfl) (fun _ _ _ h => h) (Or.inl ⟨by rfl, ?hy16⟩) (by assumption) ?rest16
        case hy16 =>
          intro w hSw
          (try dsimp only at hSw)
          go_simp
          try (with_reducible rfl)
        case rest16 =>
        (try simp only [Act.put, List.setIfInBounds_toArray, List.set_cons_zero, List.set_cons_succ])
        refine' wpAnyH_take (i := 15) (oi := ⟨_, _, _, _, _, _⟩) (v := ?v17) rfl (by kernel_rfl) (by kernel_rfl) (by kernel_rfl) (fun _ _ _ h => h) (Or.inl ⟨by rfl, ?hy17⟩) (by assumption) ?rest17
        case hy17 =>
          intro w hSw
          (try dsimp only at hSw)
          go_simp
          try (with_reducible rfl)
        case rest17 =>
        (try simp only [Act.put, List.setIfInBounds_toArray, List.set_cons_zero, List.set_cons_succ])
        refine' wpAnyH_take (i := 16) (oi := ⟨_, _, _, _, _, _⟩) (v := ?v18) rfl (by kernel_rfl) (by kernel_rfl) (by kernel_rfl) (fun _ _ _ h => h) (Or.inl ⟨by rfl, ?hy18⟩) (by assumption) ?rest18
        case hy18 =>
          intro w hSw
          (try dsimp only at hSw)
          go_simp
          try (with_reducible rfl)
        case rest18 =>
        (try simp only [Act.put, List.setIfInBounds_toArray, List.set_cons_zero, List.set_cons_succ])
        refine' wpAnyH_take (i := 17) (oi := ⟨_, _, _, _, _, _⟩) (v := ?v19) rfl (by kernel_rfl) (by kernel_rfl) (by kernel_rfl) (fun _ _ _ h => h) (Or.inl ⟨by rfl, ?hy19⟩) (by assumption) ?rest19
        case hy19 =>
          intro w hSw
          (try dsimp only at hSw)
          go_simp
          try (with_reducible rfl)
        case rest19 =>
        (try simp only [Act.put, List.setIfInBounds_toArray, List.set_cons_zero, List.set_cons_succ])
        refine' wpAnyH_take (i := 18) (oi := ⟨_, _, _, _, _, _⟩) (v := ?v20) rfl (by kernel_rfl) (by kernel_rfl) (by kernel_rfl) (fun _ _ _ h => h) (Or.inl ⟨by rfl, ?hy20⟩) (by assumption) ?rest20
        case hy20 =>
          intro w hSw
          (try dsimp only at hSw)
          go_simp
          try (with_reducible rfl)
        case rest20 =>
        (try simp only [Act.put, List.setIfInBounds_toArray, List.set_cons_zero, List.set_cons_succ])
        refine' wpAnyH_take (i := 19) (oi := ⟨_, _, _, _, _, _⟩) (v := ?v21) rfl (by kernel_rfl) (by kernel_rfl) (by kernel_rfl) (fun _ _ _ h => h) (Or.inl ⟨by rfl, ?hy21⟩) (by assumption) ?rest21
        case hy21 =>
          intro w hSw
          (try dsimp only at hSw)
          go_simp
          try (with_reducible rfl)
        case rest21 =>
        (try simp only [Act.put, List.setIfInBounds_toArray, List.set_cons_zero, List.set_cons_succ])
        refine' wpAnyH_take (i := 20) (oi := ⟨_, _, _, _, _, _⟩) (v := ?v22) rfl (by kernel_rfl) (by kernel_rfl) (by kernel_rfl) (fun _ _ _ h => h) (Or.inl ⟨by rfl, ?hy22⟩) (by assumption) ?rest22
        case hy22 =>
          intro w hSw
          (try dsimp only at hSw)
          go_simp
          try (with_reducible rfl)
        case rest22 =>
        (try simp only [Act.put, List.setIfInBounds_toArray, List.set_cons_zero, List.set_cons_succ])
        refine' wpAnyH_take (i := 21) (oi := ⟨_, _, _, _, _, _⟩) (v := undef) rfl (by kernel_rfl) (by kernel_rfl) (by kernel_rfl) (fun _ _ _ h => h) (Or.inr ⟨by rfl, rfl⟩) (by assumption) ?rest23
        case rest23 =>
        (try simp only [Act.put, List.setIfInBounds_toArray, List.set_cons_zero, List.set_cons_succ])
        refine' wpAnyH_take (i := 22) (oi := ⟨_, _, _, _, _, _⟩) (v := undef) rfl (by kernel_rfl) (by kernel_rfl) (by kernel_rfl) (fun _ _ _ h => h) (Or.inr ⟨by rfl, rfl⟩) (by assumption) ?rest24
        case rest24 =>
        (try simp only [Act.put, List.setIfInBounds_toArray, List.set_cons_zero, List.set_cons_succ])
        refine' wpAnyH_take (i := 23) (oi := ⟨_, _, _, _, _, _⟩) (v := undef) rfl (by kernel_rfl) (by kernel_rfl) (by kernel_rfl) (fun _ _ _ h => h) (Or.inr ⟨by rfl, rfl⟩) (by assumption) ?rest25
        case rest25 =>
        (try simp only [Act.put, List.setIfInBounds_toArray, List.set_cons_zero, List.set_cons_succ])
        refine' wpAnyH_take (i := 24) (oi := ⟨_, _, _, _, _, _⟩) (v := undef) rfl (by kernel_rfl) (by kernel_rfl) (by kernel_rfl) (fun _ _ _ h => h) (Or.inr ⟨by rfl, rfl⟩) (by assumption) ?rest26
        case rest26 =>
        (try simp only [Act.put, List.setIfInBounds_toArray, List.set_cons_zero, List.set_cons_succ])
        refine' wpAnyH_take (i := 25) (oi := ⟨_, _, _, _, _, _⟩) (v := undef) rfl (by kernel_rfl) (by kernel_rfl) (by kernel_rfl) (fun _ _ _ h => h) (Or.inr ⟨by rfl, rfl⟩) (by assumption) ?rest27
        case rest27 =>
        (try simp only [Act.put, List.setIfInBounds_toArray, List.set_cons_zero, List.set_cons_succ])
        refine' wpAnyH_take (i := 26) (oi := ⟨_, _, _, _, _, _⟩) (v := undef) rfl (by kernel_rfl) (by kernel_rfl) (by kernel_rfl) (fun _ _ _ h => h) (Or.inr ⟨by rfl, rfl⟩) (by assumption) ?rest28
        case rest28 =>
        (try simp only [Act.put, List.setIfInBounds_toArray, List.set_cons_zero, List.set_cons_succ])
        refine' wpAnyH_take (i := 27) (oi := ⟨_, _, _, _, _, _⟩) (v := undef) rfl (by kernel_rfl) (by kernel_rfl) (by kernel_rfl) (fun _ _ _ h => h) (Or.inr ⟨by rfl, rfl⟩) (by assumption) ?rest29
        case rest29 =>
        (try simp only [Act.put, List.setIfInBounds_toArray, List.set_cons_zero, List.set_cons_succ])
        refine' wpAnyH_take (i := 28) (oi := ⟨_, _, _, _, _, _⟩) (v := undef) rfl (by kernel_rfl) (by kernel_rfl) (by kernel_rfl) (fun _ _ _ h => h) (Or.inr ⟨by rfl, rfl⟩) (by assumption) ?rest30
        case rest30 =>
        (try simp only [Act.put, List.setIfInBounds_toArray, List.set_cons_zero, List.set_cons_succ])
        refine' wpAnyH_take (i := 29) (oi := ⟨_, _, _, _, _, _⟩) (v := ?v31) rfl (by kernel_rfl) (by kernel_rfl) (by kernel_rfl) (fun _ _ _ h => h) (Or.inl ⟨by rfl, ?hy31⟩) (by assumption) ?rest31
        case hy31 =>
          intro w hSw
          (try dsimp only at hSw)
          go_simp
          try (with_reducible rfl)
        case rest31 =>
        (try simp only [Act.put, List.setIfInBounds_toArray, List.set_cons_zero, List.set_cons_succ])
        refine' wpAnyH_take (i := 30) (oi := ⟨_, _, _, _, _, _⟩) (v := ?v32) rfl (by kernel_rfl) (by kernel_rfl) (by kernel_rfl) (fun _ _ _ h => h) (Or.inl ⟨by rfl, ?hy32⟩) (by assumption) ?rest32
        case hy32 =>
          intro w hSw
          (try dsimp only at hSw)
          go_simp
          try (with_reducible rfl)
        case rest32 =>
        (try simp only [Act.put, List.setIfInBounds_toArray, List.set_cons_zero, List.set_cons_succ])
        refine' wpAnyH_take (i := 31) (oi := ⟨_, _, _, _, _, _⟩) (v := ?v33) rfl (by kernel_rfl) (by kernel_rfl) (by kernel_rfl) (fun _ _ _ h => h) (Or.inl ⟨by rfl, ?hy33⟩) (by assumption) ?rest33
        case hy33 =>
          intro w hSw
          (try dsimp only at hSw)
          go_simp
          try (with_reducible rfl)
        case rest33 =>
        (try simp only [Act.put, List.setIfInBounds_toArray, List.set_cons_zero, List.set_cons_succ])
        refine' wpAnyH_take (i := 32) (oi := ⟨_, _, _, _, _, _⟩) (v := ?v34) rfl (by kernel_rfl) (by kernel_rfl) (by kernel_rfl) (fun _ _ _ h => h) (Or.inl ⟨by rfl, ?hy34⟩) (by assumption) ?rest34
        case hy34 =>
          intro w hSw
          (try dsimp only at hSw)
          go_simp
          try (with_reducible rfl)
        case rest34 =>
        (try simp only [Act.put, List.setIfInBounds_toArray, List.set_cons_zero, List.set_cons_succ])
        refine' wpAnyH_take (i := 33) (oi := ⟨_, _, _, _, _, _⟩) (v := ?v35) rfl (by kernel_rfl) (by kernel_rfl) (by kernel_rfl) (fun _ _ _ h => h) (Or.inl ⟨by rfl, ?hy35⟩) (by assumption) ?rest35
        case hy35 =>
          intro w hSw
          (try dsimp only at hSw)
          go_simp
          try (with_reducible rfl)
        case rest35 =>
        (try simp only [Act.put, List.setIfInBounds_toArray, List.set_cons_zero, List.set_cons_succ])
        refine' wpAnyH_take (i := 34) (oi := ⟨_, _, _, _, _, _⟩) (v := ?v36) rfl (by kernel_rfl) (by kernel_rfl) (by kernel_rfl) (fun _ _ _ h => h) (Or.inl ⟨by rfl, ?hy36⟩) (by assumption) ?rest36
        case hy36 =>
          intro w hSw
          (try dsimp only at hSw)
          go_simp
          try (with_reducible rfl)
        case rest36 =>
        (try simp only [Act.put, List.setIfInBounds_toArray, List.set_cons_zero, List.set_cons_succ])
        refine' wpAnyH_take (i := 35) (oi := ⟨_, _, _, _, _, _⟩) (v := ?v37) rfl (by kernel_rfl) (by kernel_rfl) (by kernel_rfl) (fun _ _ _ h => h) (Or.inl ⟨by rfl, ?hy37⟩) (by assumption) ?rest37
        case hy37 =>
          intro w hSw
          (try dsimp only at hSw)
          go_simp
          try (with_reducible rfl)
        case rest37 =>
        (try simp only [Act.put, List.setIfInBounds_toArray, List.set_cons_zero, List.set_cons_succ])
        refine' wpAnyH_take (i := 36) (oi := ⟨_, _, _, _, _, _⟩) (v := ?v38) rfl (by kernel_rfl) (by kernel_rfl) (by kernel_rfl) (fun _ _ _ h => h) (Or.inl ⟨by rfl, ?hy38⟩) (by assumption) ?rest38
        case hy38 =>
          intro w hSw
          (try dsimp only at hSw)
          go_simp
          try (with_reducible rfl)
        case rest38 =>
        (try simp only [Act.put, List.setIfInBounds_toArray, List.set_cons_zero, List.set_cons_succ])
        refine' wpAnyH_take (i := 37) (oi := ⟨_, _, _, _, _, _⟩) (v := ?v39) rfl (by kernel_rfl) (by kernel_rfl) (by kernel_rfl) (fun _ _ _ h => h) (Or.inl ⟨by rfl, ?hy39⟩) (by assumption) ?rest39
        case hy39 =>
          intro w hSw
          (try dsimp only at hSw)
          go_simp
          try (with_reducible rfl)
        case rest39 =>
        (try simp only [Act.put, List.setIfInBounds_toArray, List.set_cons_zero, List.set_cons_succ])
        refine' wpAnyH_take (i := 38) (oi := ⟨_, _, _, _, _, _⟩) (v := ?v40) rfl (by kernel_rfl) (by kernel_rfl) (by kernel_rfl) (fun _ _ _ h => h) (Or.inl ⟨by rfl, ?hy40⟩) (by assumption) ?rest40
        case hy40 =>
          intro w hSw
          (try dsimp only at hSw)
          go_simp
          try (with_reducible rfl)
        case rest40 =>
        (try simp only [Act.put, List.setIfInBounds_toArray, List.set_cons_zero, List.set_cons_succ])
        refine' wpAnyH_take (i := 39) (oi := ⟨_, _, _, _, _, _⟩) (v := ?v41) rfl (by kernel_rfl) (by kernel_rfl) (by kernel_rfl) (fun _ _ _ h => h) (Or.inl ⟨by rfl, ?hy41⟩) (by assumption) ?rest41
        case hy41 =>
          intro w hSw
          (try dsimp only at hSw)
          go_simp
          try (with_reducible rfl)
        case rest41 =>
        (try simp only [Act.put, List.setIfInBounds_toArray, List.set_cons_zero, List.set_cons_succ])
        refine' wpAnyH_take (i := 40) (oi := ⟨_, _, _, _, _, _⟩) (v := ?v42) rfl (by kernel_rfl) (by kernel_rfl) (by kernel_rfl) (fun _ _ _ h => h) (Or.inl ⟨by rfl, ?hy42⟩) (by assumption) ?rest42
        case hy42 =>
          intro w hSw
          (try dsimp only at hSw)
          go_simp
          try (with_reducible rfl)
        case rest42 =>
        (try simp only [Act.put, List.setIfInBounds_toArray, List.set_cons_zero, List.set_cons_succ])
        refine' wpAnyH_take (i := 41) (oi := ⟨_, _, _, _, _, _⟩) (v := ?v43) rfl (by kernel_rfl) (by kernel_rfl) (by kernel_rfl) (fun _ _ _ h => h) (Or.inl ⟨by rfl, ?hy43⟩) (by assumption) ?rest43
        case hy43 =>
          intro w hSw
          (try dsimp only at hSw)
          go_simp
          try (with_reducible rfl)
        case rest43 =>
        (try simp only [Act.put, List.setIfInBounds_toArray, List.set_cons_zero, List.set_cons_succ])
        refine' wpAnyH_take (i := 43) (oi := ⟨_, _, _, _, _, _⟩) (v := ?v44) rfl (by kernel_rfl) (by kernel_rfl) (by kernel_rfl) (fun _ _ _ h => h) (Or.inl ⟨by rfl, ?hy44⟩) (by assumption) ?rest44
        case hy44 =>
          intro w hSw
          (try dsimp only at hSw)
          go_simp
          try (with_reducible rfl)
        case rest44 =>
        (try simp only [Act.put, List.setIfInBounds_toArray, List.set_cons_zero, List.set_cons_succ])
        refine' wpAnyH_take (i := 44) (oi := ⟨_, _, _, _, _, _⟩) (v := ?v45) rfl (by kernel_rfl) (by kernel_rfl) (by kernel_rfl) (fun _ _ _ h => h) (Or.inl ⟨by rfl, ?hy45⟩) (by assumption) ?rest45
        case hy45 =>
          intro w hSw
          (try dsimp only at hSw)
          go_simp
          try (with_reducible rfl)
        case rest45 =>
        (try simp only [Act.put, List.setIfInBounds_toArray, List.set_cons_zero, List.set_cons_succ])
        refine' wpAnyH_take (i := 45) (oi := ⟨_, _, _, _, _, _⟩) (v := ?v46) rfl (by kernel_rfl) (by kernel_rfl) (by kernel_rfl) (fun _ _ _ h => h) (Or.inl ⟨by rfl, ?hy46⟩) (by assumption) ?rest46
        case hy46 =>
          intro w hSw
          (try dsimp only at hSw)
          go_simp
          try (with_reducible rfl)
        case rest46 =>
        (try simp only [Act.put, List.setIfInBounds_toArray, List.set_cons_zero, List.set_cons_succ])
        refine' wpAnyH_take (i := 46) (oi := ⟨_, _, _, _, _, _⟩) (v := ?v47) rfl (by kernel_rfl) (by kernel_rfl) (by kernel_rfl) (fun _ _ _ h => h) (Or.inl ⟨by rfl, ?hy47⟩) (by assumption) ?rest47
        case hy47 =>
          intro w hSw
          (try dsimp only at hSw)
          go_simp
          try (with_reducible rfl)
        case rest47 =>
        (try simp only [Act.put, List.setIfInBounds_toArray, List.set_cons_zero, List.set_cons_succ])
        refine wpAnyH_ready (rs := [42]) (by kernel_rfl) (by simp) ?_
        refine AllReadyH.cons (o := ⟨_, _, _, _, _, _⟩) rfl (fun K hK => ?_) AllReadyH.nil
        go_simp
        (go_at_call 17; refine (rows_any _ w.heap.size v' most [] (hPW.out.1.kept (Fp := fun _ => False) (by repeat (first | (with_reducible exact Fr.refl _ _) | (with_reducible apply Fr.ext) | (with_reducible apply Fr.drew) | (with_reducible apply Fr.alloc))) (fun _ _ h => h)) hx4).mono ?_; rintro e wA ⟨p, cap', rfl, hra, hbw⟩; obtain ⟨X1, e1, rfl⟩ := below_ext hbw; clear hbw; go_simp)
        refine hK.out _ _ ?hS48 (fun hHeld2 => ?go48)
        case hS48 =>
          (try dsimp only)
          go_simp
        case go48 =>
        clear hK K
        clear hHeld
        have hHeld := hHeld2
        clear hHeld2
        (try simp only [Act.put, List.setIfInBounds_toArray, List.set_cons_zero, List.set_cons_succ])
        refine wpAnyH_ready (rs := [47]) (by kernel_rfl) (by simp) ?_
        refine AllReadyH.cons (o := ⟨_, _, _, _, _, _⟩) rfl (fun K hK => ?_) AllReadyH.nil
        go_simp
        (go_at_call 16; refine (stands_ok [] [] p none cap' 0 _ hra (fun h => absurd h (by simp)) hA.out.1 hA.out.2.1 hA.out.2.2.1 hx4).mono ?_; rintro e wA ⟨rfl, hbw⟩; obtain ⟨X2, e2, rfl⟩ := below_ext hbw; clear hbw; go_simp)
        refine hK.out _ _ ?hS49 (fun hHeld2 => ?go49)
        case hS49 =>
          (try dsimp only)
          go_simp
        case go49 =>
        clear hK K
        clear hHeld
        have hHeld := hHeld2
        clear hHeld2
        (try simp only [Act.put, List.setIfInBounds_toArray, List.set_cons_zero, List.set_cons_succ])
        refine' wpAnyH_take (i := 48) (oi := ⟨_, _, _, _, _, _⟩) (v := ?v50) rfl (by kernel_rfl) (by kernel_rfl) (by kernel_rfl) (fun _ _ _ h => h) (Or.inl ⟨by rfl, ?hy50⟩) (by assumption) ?rest50
        case hy50 =>
          intro w hSw
          (try dsimp only at hSw)
          go_simp
          try (with_reducible rfl)
        case rest50 =>
        (try simp only [Act.put, List.setIfInBounds_toArray, List.set_cons_zero, List.set_cons_succ])
        refine' wpAnyH_take (i := 49) (oi := ⟨_, _, _, _, _, _⟩) (v := ?v51) rfl (by kernel_rfl) (by kernel_rfl) (by kernel_rfl) (fun _ _ _ h => h) (Or.inl ⟨by rfl, ?hy51⟩) (by assumption) ?rest51
        case hy51 =>
          intro w hSw
          (try dsimp only at hSw)
          go_simp
          try (with_reducible rfl)
        case rest51 =>
        (try simp only [Act.put, List.setIfInBounds_toArray, List.set_cons_zero, List.set_cons_succ])
        refine wpAnyH_done (by kernel_rfl) ?_ _
        go_wp2_with fail
        go_meet
        case rel => exact ⟨rfl, _, _, rfl⟩
      case rest =>
      obtain ⟨rfl, X3, d3, rfl⟩ := hcut
      go_wp2_with fail
      go_roundw
      case measure =>
        simp only [intOf, Int.toNat_natCast]
        omega
      case rel => exact ⟨k + 1, [], [], v', _, rfl, by omega, Lib.hid (hPW.out.below (ext_below _ _ _)), hA⟩
    · have hpos : 0 < xs'.length := by omega
      have hf := heap_first xs' ys' hA.out.1 hA.out.2.1 hA.out.2.2.1 hpos
      obtain ⟨gz, cz, rfl, hgz, hgzr, _, _⟩ := hP.out.2.1.form (by omega)
      have f2 : decide ((0 : Int) < (ys'.length : Int)) = true := decide_eq_true (by omega)
      have f3 : (0 : Int) < (ys'.length : Int) := by omega
      have f5 : 0 < ys'.length := by omega
      have f6 := decide_eq_true f5
      have HLI : Hid ((xs'.length : Int) = (ys'.length : Int)) := Lib.hid (by rw [hlen])
      obtain ⟨a, ha⟩ : ∃ a, a = at_ ys' 0 := ⟨_, rfl⟩
      rw [← ha] at hf
      have Hf := Lib.hid hf
      have Ha := Lib.hid ha
      clear hf ha
      go_wp2_with fail
      refine (hfirst_ok _ w.heap.size v' most xs' hP.out.1 hpos).mono ?_
      rintro e w2 ⟨rfl, hb⟩
      obtain ⟨X, d, rfl⟩ := below_ext hb
      clear hb
      rw [Hf.out]
      go_upto_region 20 with (fail)
      obtain ⟨W, hW⟩ : ∃ W, W = (ext wc X d).alloc (.cells #[.int .i64 a.due, .int .i64 a.task, .int .i64 a.n] 31) := ⟨_, rfl⟩
      rw [← hW]
      have hPW : Hid (Pair w W w.heap.size v' w1.heap.size (.slice (some ⟨gz, 0, none⟩) ys'.length cz) most xs' ys') := Lib.hid (by rw [hW]; exact hP.out.kept (Fp := fun _ => False) (by repeat (first | (with_reducible exact Fr.refl _ _) | (with_reducible apply Fr.ext) | (with_reducible apply Fr.drew) | (with_reducible apply Fr.alloc))) (fun _ _ h => h) (fun _ _ h => h) (fun _ h => h.elim))
      have k0 : W.cell? ⟨wc.heap.size + X.size, 0, none⟩ = some (.int .i64 a.due) := by rw [hW]; simp [go_sem]
      have k1 : W.cell? ⟨wc.heap.size + X.size, 1, none⟩ = some (.int .i64 a.task) := by rw [hW]; simp [go_sem]
      have k2 : W.cell? ⟨wc.heap.size + X.size, 2, none⟩ = some (.int .i64 a.n) := by rw [hW]; simp [go_sem]
      have hkz : wc.heap.size + X.size < W.heap.size := by rw [hW]; simp [go_sem]
      have hrz := hPW.out.2.1.lt _ (.inl rfl)
      have hgzW := hPW.out.2.1.lt gz (.inr rfl)
      obtain ⟨c0, c1, cf⟩ := hPW.out.2.1.cells
      obtain ⟨y0, y1, y2⟩ := hPW.out.2.1.2.1.rowE rfl 0 (by omega)
      rw [← Ha.out, Nat.zero_mul] at y0 y1 y2
      rw [Nat.zero_add] at y1 y2
      have HSQ : Hid (Src W gz 0 ys') := Lib.hid (hPW.out.2.1.src rfl)
      clear hW hP hx0 hgz hgzr hlen
      go_cut [146] (fun s wc => s = .bool false ∧ ∃ X d, wc = ext W X d)
      case first =>
        refine wp_region_held_drew (S := (fun w' => w'.cell? ⟨w1.heap.size, 1, none⟩ = some (.slice (some ⟨gz, 0, none⟩) ys'.length cz) ∧ w'.cell? ⟨wc.heap.size + X.size, 0, none⟩ = some (.int .i64 a.due) ∧ w'.cell? ⟨wc.heap.size + X.size, 1, none⟩ = some (.int .i64 a.task) ∧ w'.cell? ⟨wc.heap.size + X.size, 2, none⟩ = some (.int .i64 a.n) ∧ w'.cell? ⟨gz, 0, none⟩ = some (.int .i64 a.due) ∧ w'.cell? ⟨gz, 1, none⟩ = some (.int .i64 a.task) ∧ w'.cell? ⟨gz, 2, none⟩ = some (.int .i64 a.n))) (by kernel_rfl) ?hS52 (fun hHeld => ?go52)
        case hS52 =>
          (try dsimp only)
          go_simp
        case go52 =>
        refine' wpAnyH_take (i := 0) (oi := ⟨_, _, _, _, _, _⟩) (v := ?v53) rfl (by kernel_rfl) (by kernel_rfl) (by kernel_rfl) (fun _ _ _ h => h) (Or.inl ⟨by rfl, ?hy53⟩) (by assumption) ?rest53
        case hy53 =>
          intro w hSw
          (try dsimp only at hSw)
          go_simp
          try (with_reducible rfl)
        case rest53 =>
        (try simp only [Act.put, List.setIfInBounds_toArray, List.set_cons_zero, List.set_cons_succ])
        refine' wpAnyH_take (i := 2) (oi := ⟨_, _, _, _, _, _⟩) (v := ?v54) rfl (by kernel_rfl) (by kernel_rfl) (by kernel_rfl) (fun _ _ _ h => h) (Or.inl ⟨by rfl, ?hy54⟩) (by assumption) ?rest54
        case hy54 =>
          intro w hSw
          (try dsimp only at hSw)
          go_simp
          try (with_reducible rfl)
        case rest54 =>
        (try simp only [Act.put, List.setIfInBounds_toArray, List.set_cons_zero, List.set_cons_succ])
        refine' wpAnyH_take (i := 3) (oi := ⟨_, _, _, _, _, _⟩) (v := ?v55) rfl (by kernel_rfl) (by kernel_rfl) (by kernel_rfl) (fun _ _ _ h => h) (Or.inl ⟨by rfl, ?hy55⟩) (by assumption) ?rest55
        case hy55 =>
          intro w hSw
          (try dsimp only at hSw)
          go_simp
          try (with_reducible rfl)
        case rest55 =>
        (try simp only [Act.put, List.setIfInBounds_toArray, List.set_cons_zero, List.set_cons_succ])
        refine' wpAnyH_take (i := 4) (oi := ⟨_, _, _, _, _, _⟩) (v := ?v56) rfl (by kernel_rfl) (by kernel_rfl) (by kernel_rfl) (fun _ _ _ h => h) (Or.inl ⟨by rfl, ?hy56⟩) (by assumption) ?rest56
        case hy56 =>
          intro w hSw
          (try dsimp only at hSw)
          go_simp
          try (with_reducible rfl)
        case rest56 =>
        (try simp only [Act.put, List.setIfInBounds_toArray, List.set_cons_zero, List.set_cons_succ])
        refine' wpAnyH_take (i := 5) (oi := ⟨_, _, _, _, _, _⟩) (v := ?v57) rfl (by kernel_rfl) (by kernel_rfl) (by kernel_rfl) (fun _ _ _ h => h) (Or.inl ⟨by rfl, ?hy57⟩) (by assumption) ?rest57
        case hy57 =>
          intro w hSw
          (try dsimp only at hSw)
          go_simp
          try (with_reducible rfl)
        case rest57 =>
        (try simp only [Act.put, List.setIfInBounds_toArray, List.set_cons_zero, List.set_cons_succ])
        refine' wpAnyH_take (i := 6) (oi := ⟨_, _, _, _, _, _⟩) (v := ?v58) rfl (by kernel_rfl) (by kernel_rfl) (by kernel_rfl) (fun _ _ _ h => h) (Or.inl ⟨by rfl, ?hy58⟩) (by assumption) ?rest58
        case hy58 =>
          intro w hSw
          (try dsimp only at hSw)
          go_simp
          try (with_reducible rfl)
        case rest58 =>
        (try simp only [Act.put, List.setIfInBounds_toArray, List.set_cons_zero, List.set_cons_succ])
        refine wpAnyH_ready (rs := [1]) (by kernel_rfl) (by simp) ?_
        refine AllReadyH.cons (o := ⟨_, _, _, _, _, _⟩) rfl (fun K hK => ?_) AllReadyH.nil
        go_simp
        (go_at_call 12; refine (len_heap _ w.heap.size v' most xs' (hPW.out.1.kept (Fp := fun _ => False) (by repeat (first | (with_reducible exact Fr.refl _ _) | (with_reducible apply Fr.ext) | (with_reducible apply Fr.drew) | (with_reducible apply Fr.alloc))) (fun _ _ h => h))).mono ?_; rintro e wA ⟨rfl, rfl⟩; rw [HLI.out]; go_simp)
        refine hK.out _ _ ?hS59 (fun hHeld2 => ?go59)
        case hS59 =>
          (try dsimp only)
          go_simp
        case go59 =>
        clear hK K
        clear hHeld
        have hHeld := hHeld2
        clear hHeld2
        (try simp only [Act.put, List.setIfInBounds_toArray, List.set_cons_zero, List.set_cons_succ])
        refine' wpAnyH_take (i := 7) (oi := ⟨_, _, _, _, _, _⟩) (v := ?v60) rfl (by kernel_rfl) (by kernel_rfl) (by kernel_rfl) (fun _ _ _ h => h) (Or.inl ⟨by rfl, ?hy60⟩) (by assumption) ?rest60
        case hy60 =>
          intro w hSw
          (try dsimp only at hSw)
          go_simp
          try (with_reducible rfl)
        case rest60 =>
        (try simp only [Act.put, List.setIfInBounds_toArray, List.set_cons_zero, List.set_cons_succ])
        refine' wpAnyH_take (i := 8) (oi := ⟨_, _, _, _, _, _⟩) (v := ?v61) rfl (by kernel_rfl) (by kernel_rfl) (by kernel_rfl) (fun _ _ _ h => h) (Or.inl ⟨by rfl, ?hy61⟩) (by assumption) ?rest61
        case hy61 =>
          intro w hSw
          (try dsimp only at hSw)
          go_simp
          try (with_reducible rfl)
        case rest61 =>
        (try simp only [Act.put, List.setIfInBounds_toArray, List.set_cons_zero, List.set_cons_succ])
        refine' wpAnyH_take (i := 9) (oi := ⟨_, _, _, _, _, _⟩) (v := ?v62) rfl (by kernel_rfl) (by kernel_rfl) (by kernel_rfl) (fun _ _ _ h => h) (Or.inl ⟨by rfl, ?hy62⟩) (by assumption) ?rest62
        case hy62 =>
          intro w hSw
          (try dsimp only at hSw)
          go_simp
          try (with_reducible rfl)
        case rest62 =>
        (try simp only [Act.put, List.setIfInBounds_toArray, List.set_cons_zero, List.set_cons_succ])
        refine' wpAnyH_take (i := 10) (oi := ⟨_, _, _, _, _, _⟩) (v := ?v63) rfl (by kernel_rfl) (by kernel_rfl) (by kernel_rfl) (fun _ _ _ h => h) (Or.inl ⟨by rfl, ?hy63⟩) (by assumption) ?rest63
        case hy63 =>
          intro w hSw
          (try dsimp only at hSw)
          go_simp
          try (with_reducible rfl)
        case rest63 =>
        (try simp only [Act.put, List.setIfInBounds_toArray, List.set_cons_zero, List.set_cons_succ])
        refine' wpAnyH_take (i := 11) (oi := ⟨_, _, _, _, _, _⟩) (v := ?v64) rfl (by kernel_rfl) (by kernel_rfl) (by kernel_rfl) (fun _ _ _ h => h) (Or.inl ⟨by rfl, ?hy64⟩) (by assumption) ?rest64
        case hy64 =>
          intro w hSw
          (try dsimp only at hSw)
          go_simp
          try (with_reducible rfl)
        case rest64 =>
        (try simp only [Act.put, List.setIfInBounds_toArray, List.set_cons_zero, List.set_cons_succ])
        refine' wpAnyH_take (i := 12) (oi := ⟨_, _, _, _, _, _⟩) (v := ?v65) rfl (by kernel_rfl) (by kernel_rfl) (by kernel_rfl) (fun _ _ _ h => h) (Or.inl ⟨by rfl, ?hy65⟩) (by assumption) ?rest65
        case hy65 =>
          intro w hSw
          (try dsimp only at hSw)
          go_simp
          try (with_reducible rfl)
        case rest65 =>
        (try simp only [Act.put, List.setIfInBounds_toArray, List.set_cons_zero, List.set_cons_succ])
        refine' wpAnyH_take (i := 13) (oi := ⟨_, _, _, _, _, _⟩) (v := ?v66) rfl (by kernel_rfl) (by kernel_rfl) (by kernel_rfl) (fun _ _ _ h => h) (Or.inl ⟨by rfl, ?hy66⟩) (by assumption) ?rest66
        case hy66 =>
          intro w hSw
          (try dsimp only at hSw)
          go_simp
          try (with_reducible rfl)
        case rest66 =>
        (try simp only [Act.put, List.setIfInBounds_toArray, List.set_cons_zero, List.set_cons_succ])
        refine' wpAnyH_take (i := 14) (oi := ⟨_, _, _, _, _, _⟩) (v := ?v67) rfl (by kernel_rfl) (by kernel_rfl) (by kernel_rfl) (fun _ _ _ h => h) (Or.inl ⟨by rfl, ?hy67⟩) (by assumption) ?rest67
        case hy67 =>
          intro w hSw
          (try dsimp only at hSw)
          go_simp
          try (with_reducible rfl)
        case rest67 =>
        (try simp only [Act.put, List.setIfInBounds_toArray, List.set_cons_zero, List.set_cons_succ])
        refine' wpAnyH_take (i := 15) (oi := ⟨_, _, _, _, _, _⟩) (v := ?v68) rfl (by kernel_rfl) (by kernel_rfl) (by kernel_rfl) (fun _ _ _ h => h) (Or.inl ⟨by rfl, ?hy68⟩) (by assumption) ?rest68
        case hy68 =>
          intro w hSw
          (try dsimp only at hSw)
          go_simp
          try (with_reducible rfl)
        case rest68 =>
        (try simp only [Act.put, List.setIfInBounds_toArray, List.set_cons_zero, List.set_cons_succ])
        refine' wpAnyH_take (i := 16) (oi := ⟨_, _, _, _, _, _⟩) (v := ?v69) rfl (by kernel_rfl) (by kernel_rfl) (by kernel_rfl) (fun _ _ _ h => h) (Or.inl ⟨by rfl, ?hy69⟩) (by assumption) ?rest69
        case hy69 =>
          intro w hSw
          (try dsimp only at hSw)
          go_simp
          try (with_reducible rfl)
        case rest69 =>
        (try simp only [Act.put, List.setIfInBounds_toArray, List.set_cons_zero, List.set_cons_succ])
        refine' wpAnyH_take (i := 17) (oi := ⟨_, _, _, _, _, _⟩) (v := ?v70) rfl (by kernel_rfl) (by kernel_rfl) (by kernel_rfl) (fun _ _ _ h => h) (Or.inl ⟨by rfl, ?hy70⟩) (by assumption) ?rest70
        case hy70 =>
          intro w hSw
          (try dsimp only at hSw)
          go_simp
          try (with_reducible rfl)
        case rest70 =>
        (try simp only [Act.put, List.setIfInBounds_toArray, List.set_cons_zero, List.set_cons_succ])
        refine' wpAnyH_take (i := 18) (oi := ⟨_, _, _, _, _, _⟩) (v := ?v71) rfl (by kernel_rfl) (by kernel_rfl) (by kernel_rfl) (fun _ _ _ h => h) (Or.inl ⟨by rfl, ?hy71⟩) (by assumption) ?rest71
        case hy71 =>
          intro w hSw
          (try dsimp only at hSw)
          go_simp
          try (with_reducible rfl)
        case rest71 =>
        (try simp only [Act.put, List.setIfInBounds_toArray, List.set_cons_zero, List.set_cons_succ])
        refine' wpAnyH_take (i := 19) (oi := ⟨_, _, _, _, _, _⟩) (v := ?v72) rfl (by kernel_rfl) (by kernel_rfl) (by kernel_rfl) (fun _ _ _ h => h) (Or.inl ⟨by rfl, ?hy72⟩) (by assumption) ?rest72
        case hy72 =>
          intro w hSw
          (try dsimp only at hSw)
          go_simp
          try (with_reducible rfl)
        case rest72 =>
        (try simp only [Act.put, List.setIfInBounds_toArray, List.set_cons_zero, List.set_cons_succ])
        refine' wpAnyH_take (i := 20) (oi := ⟨_, _, _, _, _, _⟩) (v := ?v73) rfl (by kernel_rfl) (by kernel_rfl) (by kernel_rfl) (fun _ _ _ h => h) (Or.inl ⟨by rfl, ?hy73⟩) (by assumption) ?rest73
        case hy73 =>
          intro w hSw
          (try dsimp only at hSw)
          go_simp
          try (with_reducible rfl)
        case rest73 =>
        (try simp only [Act.put, List.setIfInBounds_toArray, List.set_cons_zero, List.set_cons_succ])
        refine' wpAnyH_take (i := 21) (oi := ⟨_, _, _, _, _, _⟩) (v := ?v74) rfl (by kernel_rfl) (by kernel_rfl) (by kernel_rfl) (fun _ _ _ h => h) (Or.inl ⟨by rfl, ?hy74⟩) (by assumption) ?rest74
        case hy74 =>
          intro w hSw
          (try dsimp only at hSw)
          go_simp
          try (with_reducible rfl)
        case rest74 =>
        (try simp only [Act.put, List.setIfInBounds_toArray, List.set_cons_zero, List.set_cons_succ])
        refine' wpAnyH_take (i := 22) (oi := ⟨_, _, _, _, _, _⟩) (v := ?v75) rfl (by kernel_rfl) (by kernel_rfl) (by kernel_rfl) (fun _ _ _ h => h) (Or.inl ⟨by rfl, ?hy75⟩) (by assumption) ?rest75
        case hy75 =>
          intro w hSw
          (try dsimp only at hSw)
          go_simp
          try (with_reducible rfl)
        case rest75 =>
        (try simp only [Act.put, List.setIfInBounds_toArray, List.set_cons_zero, List.set_cons_succ])
        refine' wpAnyH_take (i := 23) (oi := ⟨_, _, _, _, _, _⟩) (v := ?v76) rfl (by kernel_rfl) (by kernel_rfl) (by kernel_rfl) (fun _ _ _ h => h) (Or.inl ⟨by rfl, ?hy76⟩) (by assumption) ?rest76
        case hy76 =>
          intro w hSw
          (try dsimp only at hSw)
          go_simp
          try (with_reducible rfl)
        case rest76 =>
        (try simp only [Act.put, List.setIfInBounds_toArray, List.set_cons_zero, List.set_cons_succ])
        refine' wpAnyH_take (i := 24) (oi := ⟨_, _, _, _, _, _⟩) (v := ?v77) rfl (by kernel_rfl) (by kernel_rfl) (by kernel_rfl) (fun _ _ _ h => h) (Or.inl ⟨by rfl, ?hy77⟩) (by assumption) ?rest77
        case hy77 =>
          intro w hSw
          (try dsimp only at hSw)
          go_simp
          try (with_reducible rfl)
        case rest77 =>
        (try simp only [Act.put, List.setIfInBounds_toArray, List.set_cons_zero, List.set_cons_succ])
        refine' wpAnyH_take (i := 25) (oi := ⟨_, _, _, _, _, _⟩) (v := ?v78) rfl (by kernel_rfl) (by kernel_rfl) (by kernel_rfl) (fun _ _ _ h => h) (Or.inl ⟨by rfl, ?hy78⟩) (by assumption) ?rest78
        case hy78 =>
          intro w hSw
          (try dsimp only at hSw)
          go_simp
          try (with_reducible rfl)
        case rest78 =>
        (try simp only [Act.put, List.setIfInBounds_toArray, List.set_cons_zero, List.set_cons_succ])
        refine' wpAnyH_take (i := 26) (oi := ⟨_, _, _, _, _, _⟩) (v := ?v79) rfl (by kernel_rfl) (by kernel_rfl) (by kernel_rfl) (fun _ _ _ h => h) (Or.inl ⟨by rfl, ?hy79⟩) (by assumption) ?rest79
        case hy79 =>
          intro w hSw
          (try dsimp only at hSw)
          go_simp
          try (with_reducible rfl)
        case rest79 =>
        (try simp only [Act.put, List.setIfInBounds_toArray, List.set_cons_zero, List.set_cons_succ])
        refine' wpAnyH_take (i := 27) (oi := ⟨_, _, _, _, _, _⟩) (v := ?v80) rfl (by kernel_rfl) (by kernel_rfl) (by kernel_rfl) (fun _ _ _ h => h) (Or.inl ⟨by rfl, ?hy80⟩) (by assumption) ?rest80
        case hy80 =>
          intro w hSw
          (try dsimp only at hSw)
          go_simp
          try (with_reducible rfl)
        case rest80 =>
        (try simp only [Act.put, List.setIfInBounds_toArray, List.set_cons_zero, List.set_cons_succ])
        refine' wpAnyH_take (i := 28) (oi := ⟨_, _, _, _, _, _⟩) (v := ?v81) rfl (by kernel_rfl) (by kernel_rfl) (by kernel_rfl) (fun _ _ _ h => h) (Or.inl ⟨by rfl, ?hy81⟩) (by assumption) ?rest81
        case hy81 =>
          intro w hSw
          (try dsimp only at hSw)
          go_simp
          try (with_reducible rfl)
        case rest81 =>
        (try simp only [Act.put, List.setIfInBounds_toArray, List.set_cons_zero, List.set_cons_succ])
        refine' wpAnyH_take (i := 29) (oi := ⟨_, _, _, _, _, _⟩) (v := ?v82) rfl (by kernel_rfl) (by kernel_rfl) (by kernel_rfl) (fun _ _ _ h => h) (Or.inl ⟨by rfl, ?hy82⟩) (by assumption) ?rest82
        case hy82 =>
          intro w hSw
          (try dsimp only at hSw)
          go_simp
          try (with_reducible rfl)
        case rest82 =>
        (try simp only [Act.put, List.setIfInBounds_toArray, List.set_cons_zero, List.set_cons_succ])
        refine' wpAnyH_take (i := 30) (oi := ⟨_, _, _, _, _, _⟩) (v := ?v83) rfl (by kernel_rfl) (by kernel_rfl) (by kernel_rfl) (fun _ _ _ h => h) (Or.inl ⟨by rfl, ?hy83⟩) (by assumption) ?rest83
        case hy83 =>
          intro w hSw
          (try dsimp only at hSw)
          go_simp
          try (with_reducible rfl)
        case rest83 =>
        (try simp only [Act.put, List.setIfInBounds_toArray, List.set_cons_zero, List.set_cons_succ])
        refine' wpAnyH_take (i := 31) (oi := ⟨_, _, _, _, _, _⟩) (v := ?v84) rfl (by kernel_rfl) (by kernel_rfl) (by kernel_rfl) (fun _ _ _ h => h) (Or.inl ⟨by rfl, ?hy84⟩) (by assumption) ?rest84
        case hy84 =>
          intro w hSw
          (try dsimp only at hSw)
          go_simp
          try (with_reducible rfl)
        case rest84 =>
        (try simp only [Act.put, List.setIfInBounds_toArray, List.set_cons_zero, List.set_cons_succ])
        refine' wpAnyH_take (i := 32) (oi := ⟨_, _, _, _, _, _⟩) (v := ?v85) rfl (by kernel_rfl) (by kernel_rfl) (by kernel_rfl) (fun _ _ _ h => h) (Or.inl ⟨by rfl, ?hy85⟩) (by assumption) ?rest85
        case hy85 =>
          intro w hSw
          (try dsimp only at hSw)
          go_simp
          try (with_reducible rfl)
        case rest85 =>
        (try simp only [Act.put, List.setIfInBounds_toArray, List.set_cons_zero, List.set_cons_succ])
        refine' wpAnyH_take (i := 33) (oi := ⟨_, _, _, _, _, _⟩) (v := ?v86) rfl (by kernel_rfl) (by kernel_rfl) (by kernel_rfl) (fun _ _ _ h => h) (Or.inl ⟨by rfl, ?hy86⟩) (by assumption) ?rest86
        case hy86 =>
          intro w hSw
          (try dsimp only at hSw)
          go_simp
          try (with_reducible rfl)
        case rest86 =>
        (try simp only [Act.put, List.setIfInBounds_toArray, List.set_cons_zero, List.set_cons_succ])
        refine' wpAnyH_take (i := 34) (oi := ⟨_, _, _, _, _, _⟩) (v := ?v87) rfl (by kernel_rfl) (by kernel_rfl) (by kernel_rfl) (fun _ _ _ h => h) (Or.inl ⟨by rfl, ?hy87⟩) (by assumption) ?rest87
        case hy87 =>
          intro w hSw
          (try dsimp only at hSw)
          go_simp
          try (with_reducible rfl)
        case rest87 =>
        (try simp only [Act.put, List.setIfInBounds_toArray, List.set_cons_zero, List.set_cons_succ])
        refine' wpAnyH_take (i := 35) (oi := ⟨_, _, _, _, _, _⟩) (v := undef) rfl (by kernel_rfl) (by kernel_rfl) (by kernel_rfl) (fun _ _ _ h => h) (Or.inr ⟨by rfl, rfl⟩) (by assumption) ?rest88
        case rest88 =>
        (try simp only [Act.put, List.setIfInBounds_toArray, List.set_cons_zero, List.set_cons_succ])
        refine' wpAnyH_take (i := 36) (oi := ⟨_, _, _, _, _, _⟩) (v := undef) rfl (by kernel_rfl) (by kernel_rfl) (by kernel_rfl) (fun _ _ _ h => h) (Or.inr ⟨by rfl, rfl⟩) (by assumption) ?rest89
        case rest89 =>
        (try simp only [Act.put, List.setIfInBounds_toArray, List.set_cons_zero, List.set_cons_succ])
        refine' wpAnyH_take (i := 37) (oi := ⟨_, _, _, _, _, _⟩) (v := undef) rfl (by kernel_rfl) (by kernel_rfl) (by kernel_rfl) (fun _ _ _ h => h) (Or.inr ⟨by rfl, rfl⟩) (by assumption) ?rest90
        case rest90 =>
        (try simp only [Act.put, List.setIfInBounds_toArray, List.set_cons_zero, List.set_cons_succ])
        refine' wpAnyH_take (i := 38) (oi := ⟨_, _, _, _, _, _⟩) (v := ?v91) rfl (by kernel_rfl) (by kernel_rfl) (by kernel_rfl) (fun _ _ _ h => h) (Or.inl ⟨by rfl, ?hy91⟩) (by assumption) ?rest91
        case hy91 =>
          intro w hSw
          (try dsimp only at hSw)
          go_simp
          try (with_reducible rfl)
        case rest91 =>
        (try simp only [Act.put, List.setIfInBounds_toArray, List.set_cons_zero, List.set_cons_succ])
        refine' wpAnyH_take (i := 39) (oi := ⟨_, _, _, _, _, _⟩) (v := ?v92) rfl (by kernel_rfl) (by kernel_rfl) (by kernel_rfl) (fun _ _ _ h => h) (Or.inl ⟨by rfl, ?hy92⟩) (by assumption) ?rest92
        case hy92 =>
          intro w hSw
          (try dsimp only at hSw)
          go_simp
          try (with_reducible rfl)
        case rest92 =>
        (try simp only [Act.put, List.setIfInBounds_toArray, List.set_cons_zero, List.set_cons_succ])
        refine' wpAnyH_take (i := 40) (oi := ⟨_, _, _, _, _, _⟩) (v := ?v93) rfl (by kernel_rfl) (by kernel_rfl) (by kernel_rfl) (fun _ _ _ h => h) (Or.inl ⟨by rfl, ?hy93⟩) (by assumption) ?rest93
        case hy93 =>
          intro w hSw
          (try dsimp only at hSw)
          go_simp
          try (with_reducible rfl)
        case rest93 =>
        (try simp only [Act.put, List.setIfInBounds_toArray, List.set_cons_zero, List.set_cons_succ])
        refine' wpAnyH_take (i := 41) (oi := ⟨_, _, _, _, _, _⟩) (v := ?v94) rfl (by kernel_rfl) (by kernel_rfl) (by kernel_rfl) (fun _ _ _ h => h) (Or.inl ⟨by rfl, ?hy94⟩) (by assumption) ?rest94
        case hy94 =>
          intro w hSw
          (try dsimp only at hSw)
          go_simp
          try (with_reducible rfl)
        case rest94 =>
        (try simp only [Act.put, List.setIfInBounds_toArray, List.set_cons_zero, List.set_cons_succ])
        refine' wpAnyH_take (i := 43) (oi := ⟨_, _, _, _, _, _⟩) (v := ?v95) rfl (by kernel_rfl) (by kernel_rfl) (by kernel_rfl) (fun _ _ _ h => h) (Or.inl ⟨by rfl, ?hy95⟩) (by assumption) ?rest95
        case hy95 =>
          intro w hSw
          (try dsimp only at hSw)
          go_simp
          try (with_reducible rfl)
        case rest95 =>
        (try simp only [Act.put, List.setIfInBounds_toArray, List.set_cons_zero, List.set_cons_succ])
        refine' wpAnyH_take (i := 44) (oi := ⟨_, _, _, _, _, _⟩) (v := ?v96) rfl (by kernel_rfl) (by kernel_rfl) (by kernel_rfl) (fun _ _ _ h => h) (Or.inl ⟨by rfl, ?hy96⟩) (by assumption) ?rest96
        case hy96 =>
          intro w hSw
          (try dsimp only at hSw)
          go_simp
          try (with_reducible rfl)
        case rest96 =>
        (try simp only [Act.put, List.setIfInBounds_toArray, List.set_cons_zero, List.set_cons_succ])
        refine' wpAnyH_take (i := 45) (oi := ⟨_, _, _, _, _, _⟩) (v := ?v97) rfl (by kernel_rfl) (by kernel_rfl) (by kernel_rfl) (fun _ _ _ h => h) (Or.inl ⟨by rfl, ?hy97⟩) (by assumption) ?rest97
        case hy97 =>
          intro w hSw
          (try dsimp only at hSw)
          go_simp
          try (with_reducible rfl)
        case rest97 =>
        (try simp only [Act.put, List.setIfInBounds_toArray, List.set_cons_zero, List.set_cons_succ])
        refine' wpAnyH_take (i := 46) (oi := ⟨_, _, _, _, _, _⟩) (v := ?v98) rfl (by kernel_rfl) (by kernel_rfl) (by kernel_rfl) (fun _ _ _ h => h) (Or.inl ⟨by rfl, ?hy98⟩) (by assumption) ?rest98
        case hy98 =>
          intro w hSw
          (try dsimp only at hSw)
          go_simp
          try (with_reducible rfl)
        case rest98 =>
        (try simp only [Act.put, List.setIfInBounds_toArray, List.set_cons_zero, List.set_cons_succ])
        refine wpAnyH_ready (rs := [42]) (by kernel_rfl) (by simp) ?_
        refine AllReadyH.cons (o := ⟨_, _, _, _, _, _⟩) rfl (fun K hK => ?_) AllReadyH.nil
        go_simp
        (go_at_call 17; refine (rows_any _ w.heap.size v' most xs' (hPW.out.1.kept (Fp := fun _ => False) (by repeat (first | (with_reducible exact Fr.refl _ _) | (with_reducible apply Fr.ext) | (with_reducible apply Fr.drew) | (with_reducible apply Fr.alloc))) (fun _ _ h => h)) hx4).mono ?_; rintro e wA ⟨p, cap', rfl, hra, hbw⟩; obtain ⟨X1, e1, rfl⟩ := below_ext hbw; clear hbw; go_simp)
        refine hK.out _ _ ?hS99 (fun hHeld2 => ?go99)
        case hS99 =>
          (try dsimp only)
          go_simp
        case go99 =>
        clear hK K
        clear hHeld
        have hHeld := hHeld2
        clear hHeld2
        (try simp only [Act.put, List.setIfInBounds_toArray, List.set_cons_zero, List.set_cons_succ])
        refine wpAnyH_ready (rs := [47]) (by kernel_rfl) (by simp) ?_
        refine AllReadyH.cons (o := ⟨_, _, _, _, _, _⟩) rfl (fun K hK => ?_) AllReadyH.nil
        go_simp
        (go_at_call 16; refine (stands_ok xs' ys' p (some ⟨gz, 0, none⟩) cap' cz _ hra (fun _ => ⟨gz, 0, rfl, lt_ext _ _ _ _ hgzW, HSQ.out.kept (Fp := fun _ => False) (by repeat (first | (with_reducible exact Fr.refl _ _) | (with_reducible apply Fr.ext) | (with_reducible apply Fr.drew) | (with_reducible apply Fr.alloc))) hgzW (fun h => h)⟩) hA.out.1 hA.out.2.1 hA.out.2.2.1 hx4).mono ?_; rintro e wA ⟨rfl, hbw⟩; obtain ⟨X2, e2, rfl⟩ := below_ext hbw; clear hbw; go_simp)
        refine hK.out _ _ ?hS100 (fun hHeld2 => ?go100)
        case hS100 =>
          (try dsimp only)
          go_simp
        case go100 =>
        clear hK K
        clear hHeld
        have hHeld := hHeld2
        clear hHeld2
        (try simp only [Act.put, List.setIfInBounds_toArray, List.set_cons_zero, List.set_cons_succ])
        refine' wpAnyH_take (i := 48) (oi := ⟨_, _, _, _, _, _⟩) (v := ?v101) rfl (by kernel_rfl) (by kernel_rfl) (by kernel_rfl) (fun _ _ _ h => h) (Or.inl ⟨by rfl, ?hy101⟩) (by assumption) ?rest101
        case hy101 =>
          intro w hSw
          (try dsimp only at hSw)
          go_simp
          try (with_reducible rfl)
        case rest101 =>
        (try simp only [Act.put, List.setIfInBounds_toArray, List.set_cons_zero, List.set_cons_succ])
        refine' wpAnyH_take (i := 49) (oi := ⟨_, _, _, _, _, _⟩) (v := ?v102) rfl (by kernel_rfl) (by kernel_rfl) (by kernel_rfl) (fun _ _ _ h => h) (Or.inl ⟨by rfl, ?hy102⟩) (by assumption) ?rest102
        case hy102 =>
          intro w hSw
          (try dsimp only at hSw)
          go_simp
          try (with_reducible rfl)
        case rest102 =>
        (try simp only [Act.put, List.setIfInBounds_toArray, List.set_cons_zero, List.set_cons_succ])
        refine wpAnyH_done (by kernel_rfl) ?_ _
        go_wp2_with fail
        go_meet
        case rel => exact ⟨rfl, _, _, rfl⟩
      case rest =>
      obtain ⟨rfl, X3, d3, rfl⟩ := hcut
      go_wp2_with fail
      go_roundw
      case measure =>
        simp only [intOf, Int.toNat_natCast]
        omega
      case rel => exact ⟨k + 1, xs', ys', v', _, rfl, by omega, Lib.hid (hPW.out.below (ext_below _ _ _)), hA⟩
  · have e1 : ¬ ((k : Int) < sn) := by omega
    have e2 := decide_eq_false e1
    clear hA hk hks
    go_wp2_with fail
    refine (works_any _).mono ?_
    rintro e w2 ⟨rfl, hb⟩
    obtain ⟨X1, d1, rfl⟩ := below_ext hb
    clear hb
    go_wp2_with fail
    go_ret
    have HTB := hP.out.2.2.2.2.2
    have sz := HTB.size
    exact ⟨rfl, by repeat (first | (with_reducible exact Below.refl _ _) | (with_reducible assumption) | (with_reducible refine below_drewN ?_ _) | (with_reducible refine Below.drew ?_) | (with_reducible refine below_ext_of ?_ (by first | exact Nat.le_refl _ | assumption | (simp only [World.size_alloc, World.size_setCell, size_ext, World.heap_drewN]; omega)) _ _) | (with_reducible refine Below.alloc ?_ (by first | exact Nat.le_refl _ | assumption | (simp only [World.size_alloc, World.size_setCell, size_ext, World.heap_drewN]; omega)) _) | (with_reducible refine Below.setCell ?_ (by first | exact Nat.le_refl _ | assumption | (simp only [World.size_alloc, World.size_setCell, size_ext, World.heap_drewN]; omega)) _))⟩
end Go.Proofs.Ytbplaiooipldlaa
