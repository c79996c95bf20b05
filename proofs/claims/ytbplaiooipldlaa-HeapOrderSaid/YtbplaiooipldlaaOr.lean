/-
  carillonlaw25.HeapOrder: jobs come in the same order, in whatever order they were put: it returns true.
  Conditions: the two rows lie in memory.
-/
import Derived.Test.YtbplaiooipldlaaRk
import Derived.WalkKit
import Derived.WalkSpells
import Derived.WalkLawsBesides
import Derived.Deep.QuietTactic
import Derived.BigQuiet
import Derived.Lib.Hide
import Derived.Handy
import Derived.Deep.DeepCutAuto
import Derived.Deep.RegionLaw
import Derived.Deep.RegionHeld3
import Derived.Deep.RegionWith
import Derived.BigRegion
set_option linter.unusedVariables false
set_option linter.unusedSimpArgs false
namespace Go.Proofs.Ytbplaiooipldlaa
open Go.RowKit Hp
attribute [local go_sem] setCell_drewN alloc_drewN size_ext ext_ext ext_drewN ext_drew drewN_ext drew_ext cell?_ext frozen?_ext setCell_ext cell?_past1 frozen?_past1 setCell_past1 cell?_past2 frozen?_past2 setCell_past2 cell?_past3 frozen?_past3 setCell_past3 cell?_past4 frozen?_past4 setCell_past4 cell?_past5 frozen?_past5 setCell_past5 cell?_past6 frozen?_past6 setCell_past6 cell?_past7 frozen?_past7 setCell_past7 cell?_past8 frozen?_past8 setCell_past8

/-- Two heaps, both the call's own, apart from each other and from blocks of G. -/
def Duo (w wr : World) (G : Nat → Prop) (H1 : Nat) (v1 : Value) (H2 : Nat) (v2 : Value) (most : Int) (xs ys : List Key) : Prop :=
  IsHeap wr H1 v1 most xs ∧ IsHeap wr H2 v2 most ys ∧ (∀ j, foot H1 v1 j → w.heap.size ≤ j) ∧ (∀ j, foot H2 v2 j → w.heap.size ≤ j) ∧ (∀ j, foot H1 v1 j → ¬ foot H2 v2 j) ∧ (∀ j, G j → j < wr.heap.size ∧ ¬ foot H1 v1 j ∧ ¬ foot H2 v2 j) ∧ Below w.heap.size w wr
theorem Duo.kept {w wr w' : World} {G : Nat → Prop} {H1 H2 : Nat} {v1 v2 : Value} {most : Int} {xs ys : List Key} {Fp : Nat → Prop} (h : Duo w wr G H1 v1 H2 v2 most xs ys) (hf : Fr Fp wr w') (h1 : ∀ j, foot H1 v1 j → ¬ Fp j) (h2 : ∀ j, foot H2 v2 j → ¬ Fp j) (h3 : ∀ j, Fp j → w.heap.size ≤ j) : Duo w w' G H1 v1 H2 v2 most xs ys := by
  obtain ⟨i1, i2, i3, i4, i5, i6, i7⟩ := h
  exact ⟨i1.kept hf h1, i2.kept hf h2, i3, i4, i5, fun j hj => ⟨Nat.lt_of_lt_of_le (i6 j hj).1 hf.size, (i6 j hj).2⟩, i7.trans (hf.to_below i7.size h3)⟩
theorem Duo.swapped {w wr : World} {G : Nat → Prop} {H1 H2 : Nat} {v1 v2 : Value} {most : Int} {xs ys : List Key} (h : Duo w wr G H1 v1 H2 v2 most xs ys) : Duo w wr G H2 v2 H1 v1 most ys xs := by
  obtain ⟨i1, i2, i3, i4, i5, i6, i7⟩ := h
  exact ⟨i2, i1, i4, i3, fun j h1 h2 => i5 j h2 h1, fun j hj => ⟨(i6 j hj).1, (i6 j hj).2.2, (i6 j hj).2.1⟩, i7⟩
theorem Duo.app {w wr w' : World} {G : Nat → Prop} {H1 H2 : Nat} {v1 v2 v' : Value} {most : Int} {xs ys zs : List Key} (h : Duo w wr G H1 v1 H2 v2 most xs ys) (hA : Appended wr w' H1 v1 most zs v') : Duo w w' G H1 v' H2 v2 most zs ys := by
  obtain ⟨i1, i2, i3, i4, i5, i6, i7⟩ := h
  refine ⟨hA.1, i2.kept hA.2.2 (fun j h2 h1 => i5 j h1 h2), fun j hj => ?_, i4, fun j hj h2 => ?_, fun j hj => ⟨Nat.lt_of_lt_of_le (i6 j hj).1 hA.2.2.size, fun h1 => ?_, (i6 j hj).2.2⟩, i7.trans (hA.2.2.to_below i7.size i3)⟩
  · rcases hA.2.1 j hj with h | h
    · exact i3 j h
    · exact Nat.le_trans i7.size h
  · rcases hA.2.1 j hj with h | h
    · exact i5 j h h2
    · have := i2.lt j h2; omega
  · rcases hA.2.1 j h1 with h | h
    · exact (i6 j hj).2.1 h
    · have := (i6 j hj).1; omega
theorem Duo.res {w wr : World} {G G' : Nat → Prop} {H1 H2 : Nat} {v1 v2 : Value} {most : Int} {xs ys : List Key} (h : Duo w wr G H1 v1 H2 v2 most xs ys) (hg : ∀ j, G' j → G j) : Duo w wr G' H1 v1 H2 v2 most xs ys := by
  obtain ⟨i1, i2, i3, i4, i5, i6, i7⟩ := h
  exact ⟨i1, i2, i3, i4, i5, fun j hj => i6 j (hg j hj), i7⟩
set_option maxHeartbeats 2000000 in
theorem HeapOrder_out (p : Option Addr) (n cap : Nat) (q : Option Addr) (on oc : Nat) (w : World) (h : n = 0 ∨ 300 < n ∨ 300 < on) : Calls Try.prog 6 #[.slice p n cap, .slice q on oc] w fun e w' => e = .returned (.bool true) ∧ Below w.heap.size w w' := by
  by_cases h0 : 300 < n
  · have d1 : decide ((↑n : Int) > 300) = true := decide_eq_true (by omega)
    have d2 : (300 : Int) < ↑n := by omega
    clear h
    go_enter Try.func6, Try.ntmps6
    go_wp2_with fail
    refine (works_any _).mono ?_
    rintro e w1 ⟨rfl, hb⟩
    obtain ⟨X4, d4, rfl⟩ := below_ext hb
    clear hb
    go_wp2_with fail
    go_ret
    exact ⟨rfl, by repeat (first | (with_reducible exact Below.refl _ _) | (with_reducible assumption) | (with_reducible refine below_drewN ?_ _) | (with_reducible refine Below.drew ?_) | (with_reducible refine below_ext_of ?_ (by first | exact Nat.le_refl _ | assumption | (simp only [World.size_alloc, World.size_setCell, size_ext, World.heap_drewN]; omega)) _ _) | (with_reducible refine Below.alloc ?_ (by first | exact Nat.le_refl _ | assumption | (simp only [World.size_alloc, World.size_setCell, size_ext, World.heap_drewN]; omega)) _) | (with_reducible refine Below.setCell ?_ (by first | exact Nat.le_refl _ | assumption | (simp only [World.size_alloc, World.size_setCell, size_ext, World.heap_drewN]; omega)) _))⟩
  · have d1 : decide ((↑n : Int) > 300) = false := decide_eq_false (by omega)
    have d2 : ¬ ((300 : Int) < ↑n) := by omega
    by_cases h1 : 300 < on
    · have d3 : decide ((↑on : Int) > 300) = true := decide_eq_true (by omega)
      have d4 : (300 : Int) < ↑on := by omega
      clear h
      go_enter Try.func6, Try.ntmps6
      go_wp2_with fail
      refine (works_any _).mono ?_
      rintro e w1 ⟨rfl, hb⟩
      obtain ⟨X4, d4, rfl⟩ := below_ext hb
      clear hb
      go_wp2_with fail
      go_ret
      exact ⟨rfl, by repeat (first | (with_reducible exact Below.refl _ _) | (with_reducible assumption) | (with_reducible refine below_drewN ?_ _) | (with_reducible refine Below.drew ?_) | (with_reducible refine below_ext_of ?_ (by first | exact Nat.le_refl _ | assumption | (simp only [World.size_alloc, World.size_setCell, size_ext, World.heap_drewN]; omega)) _ _) | (with_reducible refine Below.alloc ?_ (by first | exact Nat.le_refl _ | assumption | (simp only [World.size_alloc, World.size_setCell, size_ext, World.heap_drewN]; omega)) _) | (with_reducible refine Below.setCell ?_ (by first | exact Nat.le_refl _ | assumption | (simp only [World.size_alloc, World.size_setCell, size_ext, World.heap_drewN]; omega)) _))⟩
    · have d3 : decide ((↑on : Int) > 300) = false := decide_eq_false (by omega)
      have d4 : ¬ ((300 : Int) < ↑on) := by omega
      obtain rfl : n = 0 := by omega
      clear h
      go_enter Try.func6, Try.ntmps6
      go_wp2_with fail
      refine (works_any _).mono ?_
      rintro e w1 ⟨rfl, hb⟩
      obtain ⟨X4, d4, rfl⟩ := below_ext hb
      clear hb
      go_wp2_with fail
      go_ret
      exact ⟨rfl, by repeat (first | (with_reducible exact Below.refl _ _) | (with_reducible assumption) | (with_reducible refine below_drewN ?_ _) | (with_reducible refine Below.drew ?_) | (with_reducible refine below_ext_of ?_ (by first | exact Nat.le_refl _ | assumption | (simp only [World.size_alloc, World.size_setCell, size_ext, World.heap_drewN]; omega)) _ _) | (with_reducible refine Below.alloc ?_ (by first | exact Nat.le_refl _ | assumption | (simp only [World.size_alloc, World.size_setCell, size_ext, World.heap_drewN]; omega)) _) | (with_reducible refine Below.setCell ?_ (by first | exact Nat.le_refl _ | assumption | (simp only [World.size_alloc, World.size_setCell, size_ext, World.heap_drewN]; omega)) _))⟩
set_option maxRecDepth 100000 in
set_option maxHeartbeats 20000000 in
theorem HeapOrder_walk (l : List Key) (ab ao cap : Nat) (q : Option Addr) (on oc : Nat) (w : World) (hs : Src w ab ao l) (hab : ab < w.heap.size) (h0 : 0 < l.length) (h3 : l.length ≤ 300) (ho : on ≤ 300)
    (hq : 0 < on → ∃ ob oo, q = some ⟨ob, oo, none⟩ ∧ ob < w.heap.size ∧ ∀ i, i < on → ∃ u : Nat, u < 65536 ∧ w.cell? ⟨ob, oo + i, none⟩ = some (.int .u16 u)) :
    Calls Try.prog 6 #[.slice (some ⟨ab, ao, none⟩) l.length cap, .slice q on oc] w fun e w' => e = .returned (.bool true) ∧ Below w.heap.size w w' := by
  obtain ⟨i0, hi, hz0, hz1, hz2⟩ := info_parts infoK
  obtain ⟨n, hn⟩ : ∃ n, n = l.length := ⟨_, rfl⟩
  rw [← hn] at h0 h3 ⊢
  have d1 : decide ((n : Int) > 300) = false := decide_eq_false (by omega)
  have d2 : ((n : Int) == 0) = false := beq_false_of_ne (by omega)
  have d3 : ¬ (300 < (n : Int)) := by omega
  have d4 : decide ((on : Int) > 300) = false := decide_eq_false (by omega)
  have d5 : ¬ (300 < (on : Int)) := by omega
  have HS := Lib.hid hs
  have HQ := Lib.hid hq
  have HN := Lib.hid hn
  clear hs hq hn
  go_enter Try.func6, Try.ntmps6
  go_wp2_with (first
    | (at_builtin; refine wpList_append_lies _ (by rfl) _ _ 22 rfl w.heap.size 31 i0 (.agg #[.int .i64 0, .int .i64 0, .int .i64 0]) 3 24 Try.underlying22 hi hz0 hz1 hz2 rfl (by decide) _ 0 [] (by rfl) (World.ownsRow_nil _ _ _ _) ⟨ab, ao, none⟩ n cap (flat l) (by rfl) (by rw [flat_length, HN.out]) (src_news HS.out) (flat_one l) h0 (by unfold maxLen; omega) (by omega) (Nat.le_refl _) _ rfl ?_
       intro gm capm w1 hown hgrow hat hlt))
  have hg : w.heap.size ≤ gm := by rcases hat with h | h; exact absurd h (by simp [Value.ownBlock]); omega
  have hb1 : Below w.heap.size w w1 := (Below.refl _ _).grown hgrow (Nat.le_refl _) (fun k hk => by simp [Value.ownBlock] at hk)
  have hR1 : Hid (RowK w1 w.heap.size (.slice (some ⟨gm, 0, none⟩) n capm) l) := Lib.hid (by
    unfold RowK
    rw [← HN.out]
    simpa using hown)
  have HB1 := Lib.hid hb1
  have HG := Lib.hid hg
  clear hown hgrow hat hi hz0 hz1 hz2 hb1 hlt d1 d3 d4 d5 hg
  go_loopw [6] (fun i wr => ∃ (k : Nat) (ms : List Key), i = .int .i64 (k : Int) ∧ k ≤ on ∧ Hid (ms.Perm l) ∧ Hid (RowK wr w.heap.size (.slice (some ⟨gm, 0, none⟩) n capm) ms) ∧ Hid (Below w.heap.size w wr)) (fun i _ => on - (intOf i).toNat)
  case atStart => exact ⟨0, l, rfl, by omega, Lib.hid (List.Perm.refl _), hR1, HB1⟩
  case round =>
  clear hR1 HB1
  obtain ⟨k, ms, rfl, hko, hP, hR, hB⟩ := hrel
  have hml : Hid (ms.length = n) := Lib.hid (by rw [hP.out.length_eq, HN.out])
  by_cases hk : k < on
  · have e1 : (k : Int) < on := by omega
    have e2 := decide_eq_true e1
    have e3 : (0 : Int) ≤ k := by omega
    obtain ⟨ob, oo, rfl, hob, hcell⟩ := HQ.out (by omega)
    obtain ⟨u, hu, hcu⟩ := hcell k hk
    have hcu2 : wr.cell? ⟨ob, oo + k, none⟩ = some (.int .u16 u) := (hB.out.cell (p := ⟨ob, oo + k, none⟩) hob).trans hcu
    have t1 : Int.tmod (k : Int) (n : Int) = ((k % n : Nat) : Int) := by rw [Int.tmod_eq_emod_of_nonneg (by omega)]; omega
    have t2 : Int.tmod (u : Int) (n : Int) = ((u % n : Nat) : Int) := by rw [Int.tmod_eq_emod_of_nonneg (by omega)]; omega
    have t3 : IntKind.i64.wrap (u : Int) = u := by rw [IntKind.wrap_i64]; omega
    obtain ⟨a, ha⟩ : ∃ a, a = k % n := ⟨_, rfl⟩
    obtain ⟨b, hb⟩ : ∃ b, b = u % n := ⟨_, rfl⟩
    have ha2 : a < n := by rw [ha]; exact Nat.mod_lt _ h0
    have hb2 : b < n := by rw [hb]; exact Nat.mod_lt _ h0
    rw [← ha] at t1
    rw [← hb] at t2
    clear hcell hcu ha hb
    have d6 : ¬ ((n : Int) = 0) := by omega
    have hgl : gm < wr.heap.size := (hR.out.lt gm rfl).2
    obtain ⟨r1, r2, r3⟩ := hR.out.rowE hml.out a (by have := hml.out; omega)
    obtain ⟨q1, q2, q3⟩ := hR.out.rowE hml.out b (by have := hml.out; omega)
    have rf := hR.out.frozen hml.out
    obtain ⟨x, hx⟩ : ∃ x, x = at_ ms a := ⟨_, rfl⟩
    obtain ⟨y, hy⟩ : ∃ y, y = at_ ms b := ⟨_, rfl⟩
    rw [← hx] at r1 r2 r3
    rw [← hy] at q1 q2 q3
    have Hx := Lib.hid hx
    have Hy := Lib.hid hy
    clear hx hy
    have f1 : (a : Int) < n := by omega
    have f2 : (b : Int) < n := by omega
    have f3 : (0 : Int) ≤ a := by omega
    have f4 : (0 : Int) ≤ b := by omega
    rcases Nat.lt_trichotomy a b with hlt | heq | hgt
    · go_wp2_with fail
      go_region
      go_wp2_with fail
      go_roundw
      case measure =>
        simp only [intOf, Int.toNat_natCast]
        omega
      case rel =>
        refine ⟨k + 1, swap ms a b, rfl, by omega, Lib.hid ((swap_perm ms a b (by have := hml.out; omega) (by have := hml.out; omega)).trans hP.out), Lib.hid ?_, Lib.hid ?_⟩
        · unfold swap
          rw [← Hx.out, ← Hy.out]
          exact ((hR.out.putAt hml.out a y).putAt (by simpa using hml.out) b x).kept (Fp := fun _ => False) (by repeat (first | (with_reducible exact Fr.refl _ _) | (with_reducible apply Fr.ext) | (with_reducible apply Fr.drew) | (with_reducible apply Fr.alloc))) (fun _ _ h => h)
        · exact hB.out.trans (Fr.to_below (Fp := fun j => j = gm) (by repeat (first | (with_reducible exact Fr.refl _ _) | (with_reducible apply Fr.ext) | (with_reducible apply Fr.drew) | (with_reducible apply Fr.alloc) | (with_reducible refine Fr.setCell ?_ _ _ _ (.inl rfl)))) hB.out.size (fun j e => e ▸ HG.out))
    · subst heq
      obtain rfl : x = y := by rw [Hx.out, Hy.out]
      go_wp2_with fail
      go_region
      go_wp2_with fail
      go_roundw
      case measure =>
        simp only [intOf, Int.toNat_natCast]
        omega
      case rel =>
        refine ⟨k + 1, swap ms a a, rfl, by omega, Lib.hid ((swap_perm ms a a (by have := hml.out; omega) (by have := hml.out; omega)).trans hP.out), Lib.hid ?_, Lib.hid ?_⟩
        · unfold swap
          rw [← Hx.out]
          exact ((hR.out.putAt hml.out a x).putAt (by simpa using hml.out) a x).kept (Fp := fun _ => False) (by repeat (first | (with_reducible exact Fr.refl _ _) | (with_reducible apply Fr.ext) | (with_reducible apply Fr.drew) | (with_reducible apply Fr.alloc))) (fun _ _ h => h)
        · exact hB.out.trans (Fr.to_below (Fp := fun j => j = gm) (by repeat (first | (with_reducible exact Fr.refl _ _) | (with_reducible apply Fr.ext) | (with_reducible apply Fr.drew) | (with_reducible apply Fr.alloc) | (with_reducible refine Fr.setCell ?_ _ _ _ (.inl rfl)))) hB.out.size (fun j e => e ▸ HG.out))
    · go_wp2_with fail
      go_region
      go_wp2_with fail
      go_roundw
      case measure =>
        simp only [intOf, Int.toNat_natCast]
        omega
      case rel =>
        refine ⟨k + 1, swap ms a b, rfl, by omega, Lib.hid ((swap_perm ms a b (by have := hml.out; omega) (by have := hml.out; omega)).trans hP.out), Lib.hid ?_, Lib.hid ?_⟩
        · unfold swap
          rw [← Hx.out, ← Hy.out]
          exact ((hR.out.putAt hml.out a y).putAt (by simpa using hml.out) b x).kept (Fp := fun _ => False) (by repeat (first | (with_reducible exact Fr.refl _ _) | (with_reducible apply Fr.ext) | (with_reducible apply Fr.drew) | (with_reducible apply Fr.alloc))) (fun _ _ h => h)
        · exact hB.out.trans (Fr.to_below (Fp := fun j => j = gm) (by repeat (first | (with_reducible exact Fr.refl _ _) | (with_reducible apply Fr.ext) | (with_reducible apply Fr.drew) | (with_reducible apply Fr.alloc) | (with_reducible refine Fr.setCell ?_ _ _ _ (.inl rfl)))) hB.out.size (fun j e => e ▸ HG.out))
  · have e1 : ¬ ((k : Int) < on) := by omega
    have e2 := decide_eq_false e1
    have hgl := (hR.out.lt gm rfl).2
    have hwl := hB.out.size
    clear HQ hk hko
    obtain ⟨wz, hwz⟩ : ∃ wz, wz = wr := ⟨wr, rfl⟩
    subst hwz
    go_wp2_with fail
    refine (new_ok _ (n : Int) (by omega) (by omega)).mono ?_
    rintro e wa ⟨rfl, ha1, ba1⟩
    have HA1 := Lib.hid ha1
    have BA1 := Lib.hid ba1
    have hsa : wz.heap.size < wa.heap.size := ha1.lt _ (.inl rfl)
    clear ha1 ba1
    go_wp2_with fail
    refine (new_ok _ (n : Int) (by omega) (by omega)).mono ?_
    rintro e wb ⟨rfl, ha2, ba2⟩
    have hsb : wa.heap.size < wb.heap.size := ha2.lt _ (.inl rfl)
    have HD : Hid (Duo w wb (fun j => j = gm) wz.heap.size (.slice none 0 0) wa.heap.size (.slice none 0 0) n [] []) := Lib.hid (by
      refine ⟨HA1.out.kept (Fp := fun _ => False) (Fr.of_below ba2) (fun _ _ h => h), ha2, ?_, ?_, ?_, ?_, hB.out.trans ((BA1.out.mono hwl).trans (ba2.mono (by omega)))⟩
      · rintro j (rfl | hj)
        · omega
        · cases hj
      · rintro j (rfl | hj)
        · omega
        · cases hj
      · rintro j (rfl | hj) (h | h)
        · omega
        · cases h
        · cases hj
        · cases hj
      · rintro j rfl
        refine ⟨by omega, ?_, ?_⟩
        · rintro (h | h)
          · omega
          · cases h
        · rintro (h | h)
          · omega
          · cases h)
    have HR2 : Hid (RowK wb w.heap.size (.slice (some ⟨gm, 0, none⟩) n capm) ms) := Lib.hid ((hR.out.kept (Fp := fun _ => False) (Fr.of_below BA1.out) (fun _ _ h => h)).kept (Fp := fun _ => False) (Fr.of_below ba2) (fun _ _ h => h))
    clear ha2 ba2 BA1 HA1 hR hB
    go_wp2_with fail
    go_loopw [14] (fun i wr => ∃ (k : Nat) (xs ys : List Key) (v1 v2 : Value), i = .int .i64 (k : Int) ∧ k ≤ n ∧ Hid (Ok xs ∧ Ok ys ∧ xs.Perm (l.take k) ∧ ys.Perm (ms.take k)) ∧ Hid (Duo w wr (fun j => j = gm) wz.heap.size v1 wa.heap.size v2 n xs ys) ∧ Hid (RowK wr w.heap.size (.slice (some ⟨gm, 0, none⟩) n capm) ms)) (fun i _ => n - (intOf i).toNat)
    case atStart => exact ⟨0, [], [], _, _, rfl, by omega, Lib.hid ⟨ok_nil, ok_nil, by simp, by simp⟩, HD, HR2⟩
    case round =>
    clear HD HR2 e1 e2
    obtain ⟨k, xs, ys, v1, v2, rfl, hkn, hO, hD, hR⟩ := hrel
    by_cases hk : k < n
    · have e1 : (k : Int) < n := by omega
      have e2 := decide_eq_true e1
      have e3 : (0 : Int) ≤ k := by omega
      have hlx : xs.length = k := by have := HN.out; rw [hO.out.2.2.1.length_eq, List.length_take]; omega
      have hly : ys.length = k := by have := hml.out; rw [hO.out.2.2.2.length_eq, List.length_take]; omega
      have Hlx := Lib.hid hlx
      have Hly := Lib.hid hly
      clear hlx hly
      obtain ⟨s1, s2, s3⟩ := (HS.out.below hD.out.2.2.2.2.2.2 hab) k (by have := HN.out; omega)
      obtain ⟨x, hx⟩ : ∃ x, x = at_ l k := ⟨_, rfl⟩
      rw [← hx] at s1 s2 s3
      have Hx := Lib.hid hx
      clear hx
      go_wp2_with fail
      refine (hput_ok _ x wz.heap.size v1 n xs hD.out.1 (by rw [Hlx.out]; omega) (by rw [Hlx.out]; omega)).mono ?_
      rintro e w2 ⟨rfl, v1', hA⟩
      have hD2 := Lib.hid (hD.out.app hA)
      have hR2 := Lib.hid (hR.out.kept hA.2.2 (fun j hj => (hD.out.2.2.2.2.2.1 j (by cases hj; rfl)).2.1))
      clear hA hD hR s1 s2 s3
      obtain ⟨s1, s2, s3⟩ := hR2.out.rowE hml.out k (by have := hml.out; omega)
      have hgl2 := (hR2.out.lt gm rfl).2
      obtain ⟨y, hy⟩ : ∃ y, y = at_ ms k := ⟨_, rfl⟩
      rw [← hy] at s1 s2 s3
      have Hy := Lib.hid hy
      clear hy
      go_wp2_with fail
      refine (hput_ok _ y wa.heap.size v2 n ys hD2.out.2.1 (by rw [Hly.out]; omega) (by rw [Hly.out]; omega)).mono ?_
      rintro e w3 ⟨rfl, v2', hA⟩
      have hD3 := Lib.hid (hD2.out.swapped.app hA).swapped
      have hR3 := Lib.hid (hR2.out.kept hA.2.2 (fun j hj => (hD2.out.2.2.2.2.2.1 j (by cases hj; rfl)).2.2))
      clear hA hD2 hR2 s1 s2 s3 hgl2
      go_wp2_with fail
      go_roundw
      case measure =>
        simp only [intOf, Int.toNat_natCast]
        omega
      case rel =>
        have hn := HN.out
        have hm := hml.out
        obtain ⟨o1, o2⟩ := put_spec xs x hO.out.1
        obtain ⟨o3, o4⟩ := put_spec ys y hO.out.2.1
        refine ⟨k + 1, put xs x, put ys y, v1', v2', rfl, by omega, Lib.hid ⟨o1, o3, ?_, ?_⟩, hD3, hR3⟩
        · refine o2.trans ?_
          rw [List.take_succ_eq_append_getElem (by omega), ← at_eq l k (by omega), ← Hx.out]
          exact hO.out.2.2.1.append_right _
        · refine o4.trans ?_
          rw [List.take_succ_eq_append_getElem (by omega), ← at_eq ms k (by omega), ← Hy.out]
          exact hO.out.2.2.2.append_right _
    · have e1 : ¬ ((k : Int) < n) := by omega
      have e2 := decide_eq_false e1
      have hPx : Hid (Ok xs ∧ Ok ys ∧ xs.Perm ys ∧ xs.length = n ∧ ys.length = n) := Lib.hid (by
        have h := hO.out
        have hn := HN.out
        have hm := hml.out
        rw [List.take_of_length_le (by omega), List.take_of_length_le (by omega)] at h
        exact ⟨h.1, h.2.1, h.2.2.1.trans (hP.out.symm.trans h.2.2.2.symm), by rw [h.2.2.1.length_eq]; omega, by rw [h.2.2.2.length_eq]; omega⟩)
      clear hO hP hR hk hkn
      have hxl := hPx.out.2.2.2.1
      go_wp2_with fail
      refine (rows_ok _ wz.heap.size v1 n xs hD.out.1 (by omega) (by omega)).mono ?_
      rintro e w4 ⟨gr, capr, rfl, hR4, hgr, hb4⟩
      rw [hxl]
      rw [hxl] at hR4
      have hD4 := Lib.hid (hD.out.kept (Fp := fun _ => False) (Fr.of_below hb4) (fun _ _ h => h) (fun _ _ h => h) (fun _ h => h.elim))
      have hgw : wr.heap.size ≤ gr := hgr
      have hfr1 : Hid (∀ j, foot wz.heap.size v1 j → j ≠ gr) := Lib.hid (fun j hj e => by have := hD.out.1.lt j hj; omega)
      have hfr2 : Hid (∀ j, foot wa.heap.size v2 j → j ≠ gr) := Lib.hid (fun j hj e => by have := hD.out.2.1.lt j hj; omega)
      have hgr3 : w.heap.size ≤ gr := Nat.le_trans hD.out.2.2.2.2.2.2.size hgr
      have HR4 : Hid (RowK w4 0 (.slice (some ⟨gr, 0, none⟩) n capr) xs) := Lib.hid (hR4.mono (Nat.zero_le _))
      clear hR4 hD hb4 hgw hgr hxl
      go_wp2_with fail
      go_loopw [16] (fun i wr => ∃ (k : Nat) (zs : List Key), i = .int .i64 (k : Int) ∧ k ≤ n ∧ Hid (zs.length = n) ∧ Hid (RowK wr 0 (.slice (some ⟨gr, 0, none⟩) n capr) zs) ∧ Hid (Duo w wr (fun j => j = gm) wz.heap.size v1 wa.heap.size v2 n xs ys)) (fun i _ => n - (intOf i).toNat)
      case atStart => exact ⟨0, xs, rfl, by omega, Lib.hid hPx.out.2.2.2.1, HR4, hD4⟩
      case round =>
      clear HR4 hD4 e1 e2
      obtain ⟨k, zs, rfl, hkn, hzl, hR, hD⟩ := hrel
      by_cases hk : k < n
      · have e1 : (k : Int) < n := by omega
        have e2 := decide_eq_true e1
        have e3 : (0 : Int) ≤ k := by omega
        obtain ⟨s1, s2, s3⟩ := hR.out.rowE hzl.out k (by have := hzl.out; omega)
        have rf := hR.out.frozen hzl.out
        have hgl2 := (hR.out.lt gr rfl).2
        generalize at_ zs k = z at *
        go_wp2_with fail
        go_roundw
        case measure =>
          simp only [intOf, Int.toNat_natCast]
          omega
        case rel =>
          refine ⟨k + 1, zs.set k ⟨-1, 0, 0⟩, rfl, by omega, Lib.hid (by rw [List.length_set]; exact hzl.out), Lib.hid (hR.out.putAt hzl.out k ⟨-1, 0, 0⟩), Lib.hid ?_⟩
          refine hD.out.kept (Fp := fun j => j = gr) (by repeat (first | (with_reducible exact Fr.refl _ _) | (with_reducible apply Fr.ext) | (with_reducible apply Fr.drew) | (with_reducible apply Fr.alloc) | (with_reducible refine Fr.setCell ?_ _ _ _ (.inl rfl)))) (fun j hj => hfr1.out j hj) (fun j hj => hfr2.out j hj) (fun j e => e ▸ hgr3)
      · have e1 : ¬ ((k : Int) < n) := by omega
        have e2 := decide_eq_false e1
        clear hR hk hkn hzl hfr1 hfr2
        go_wp2_with fail
        go_loopw [17] (fun i wr => ∃ (k : Nat) (xs ys : List Key) (v1 v2 : Value), i = .int .i64 (k : Int) ∧ k ≤ n ∧ Hid (Ok xs ∧ Ok ys ∧ xs.Perm ys ∧ xs.length = n - k ∧ ys.length = n - k) ∧ Hid (Duo w wr (fun j => j = gm) wz.heap.size v1 wa.heap.size v2 n xs ys)) (fun i _ => n - (intOf i).toNat)
        case atStart => exact ⟨0, xs, ys, v1, v2, rfl, by omega, hPx, hD⟩
        case round =>
        clear hPx hD e1 e2
        obtain ⟨k, xs, ys, v1, v2, rfl, hkn, hO, hD⟩ := hrel
        by_cases hk : k < n
        · have e1 : (k : Int) < n := by omega
          have e2 := decide_eq_true e1
          have e3 : (0 : Int) ≤ k := by omega
          have px : 0 < xs.length := by have := hO.out.2.2.2.1; omega
          have py : 0 < ys.length := by have := hO.out.2.2.2.2; omega
          have p1 : xs.length ≤ 4096 := by have := hO.out.2.2.2.1; omega
          have p2 : ys.length ≤ 4096 := by have := hO.out.2.2.2.2; omega
          have hab' : at_ xs 0 = at_ ys 0 := first_eq xs ys hO.out.1 hO.out.2.1 hO.out.2.2.1 px
          go_wp2_with fail
          refine (htake_ok _ wz.heap.size v1 n xs hD.out.1 px p1).mono ?_
          rintro e w2 ⟨rfl, v1', hA⟩
          have hD2 := Lib.hid (hD.out.app hA)
          obtain ⟨o1, o2⟩ := rest_spec xs hO.out.1 px
          obtain ⟨o3, o4⟩ := rest_spec ys hO.out.2.1 py
          have hO2 : Hid (Ok (rest xs) ∧ Ok (rest ys) ∧ (rest xs).Perm (rest ys) ∧ (rest xs).length = n - (k + 1) ∧ (rest ys).length = n - (k + 1)) := Lib.hid (by
            have h1 := o2.length_eq
            have h2 := o4.length_eq
            have h3 := hO.out.2.2.2.1
            have h4 := hO.out.2.2.2.2
            simp only [List.length_cons] at h1 h2
            rw [← hab'] at o4
            exact ⟨o1, o3, (List.perm_cons _).1 (o2.trans (hO.out.2.2.1.trans o4.symm)), by omega, by omega⟩)
          rw [hab']
          clear hA hD o1 o2 o3 o4 hab' hO
          have HPY := Lib.hid py
          have HP2 := Lib.hid p2
          have Hq : ∃ a, a = at_ ys 0 := ⟨_, rfl⟩
          obtain ⟨a, ha⟩ := Hq
          rw [← ha]
          have Ha := Lib.hid ha
          clear px py p1 p2 ha
          go_wp2_with fail
          refine (htake_ok _ wa.heap.size v2 n ys (hD2.out.2.1.kept (Fp := fun _ => False) (by repeat (first | (with_reducible exact Fr.refl _ _) | (with_reducible apply Fr.ext) | (with_reducible apply Fr.drew) | (with_reducible apply Fr.alloc))) (fun _ _ h => h)) HPY.out HP2.out).mono ?_
          rintro e w3 ⟨rfl, v2', hA⟩
          rw [← Ha.out]
          have hDx := hD2.out.kept (Fp := fun _ => False) (w' := w2.alloc (.cells #[.int .i64 a.due, .int .i64 a.task, .int .i64 a.n] 31)) (by repeat (first | (with_reducible exact Fr.refl _ _) | (with_reducible apply Fr.ext) | (with_reducible apply Fr.drew) | (with_reducible apply Fr.alloc))) (fun _ _ h => h) (fun _ _ h => h) (fun _ h => h.elim)
          have hnf : ¬ foot wa.heap.size v2 w2.heap.size := fun h => by have := hD2.out.2.1.lt _ h; omega
          have x0 := (hA.2.2.cell w2.heap.size 0 (by simp [go_sem]) hnf).trans (show _ = some (Value.int .i64 a.due) by simp [go_sem])
          have x1 := (hA.2.2.cell w2.heap.size 1 (by simp [go_sem]) hnf).trans (show _ = some (Value.int .i64 a.task) by simp [go_sem])
          have x2 := (hA.2.2.cell w2.heap.size 2 (by simp [go_sem]) hnf).trans (show _ = some (Value.int .i64 a.n) by simp [go_sem])
          have hz : w2.heap.size < w3.heap.size := Nat.lt_of_lt_of_le (by simp [go_sem]) hA.2.2.size
          have hD3 := Lib.hid (hDx.swapped.app hA).swapped
          clear hA hDx hnf hD2 Ha HPY HP2
          go_wp2_with fail
          go_roundw
          case measure =>
            simp only [intOf, Int.toNat_natCast]
            omega
          case rel => exact ⟨k + 1, rest xs, rest ys, v1', v2', rfl, by omega, hO2, Lib.hid (hD3.out.kept (Fp := fun _ => False) (by repeat (first | (with_reducible exact Fr.refl _ _) | (with_reducible apply Fr.ext) | (with_reducible apply Fr.drew) | (with_reducible apply Fr.alloc))) (fun _ _ h => h) (fun _ _ h => h) (fun _ h => h.elim))⟩
        · have e1 : ¬ ((k : Int) < n) := by omega
          have e2 := decide_eq_false e1
          clear hO hk hkn
          go_wp2_with fail
          refine (works_any _).mono ?_
          rintro e w2 ⟨rfl, hb⟩
          obtain ⟨X1, d1, rfl⟩ := below_ext hb
          clear hb
          go_wp2_with fail
          go_ret
          have HTB := hD.out.2.2.2.2.2.2
          have sz := HTB.size
          exact ⟨rfl, by repeat (first | (with_reducible exact Below.refl _ _) | (with_reducible assumption) | (with_reducible refine below_drewN ?_ _) | (with_reducible refine Below.drew ?_) | (with_reducible refine below_ext_of ?_ (by first | exact Nat.le_refl _ | assumption | (simp only [World.size_alloc, World.size_setCell, size_ext, World.heap_drewN]; omega)) _ _) | (with_reducible refine Below.alloc ?_ (by first | exact Nat.le_refl _ | assumption | (simp only [World.size_alloc, World.size_setCell, size_ext, World.heap_drewN]; omega)) _) | (with_reducible refine Below.setCell ?_ (by first | exact Nat.le_refl _ | assumption | (simp only [World.size_alloc, World.size_setCell, size_ext, World.heap_drewN]; omega)) _))⟩
end Go.Proofs.Ytbplaiooipldlaa
