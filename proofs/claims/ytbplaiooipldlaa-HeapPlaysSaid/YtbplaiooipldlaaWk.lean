/-
  carillonlaw25.works: three jobs; it returns true.
  No condition.
-/
import Derived.Test.YtbplaiooipldlaaCt
import Derived.WalkKit
import Derived.WalkSpells
import Derived.WalkLawsBesides
import Derived.Deep.QuietTactic
import Derived.BigQuiet
import Derived.Lib.Hide
import Derived.Handy
set_option linter.unusedVariables false
set_option linter.unusedSimpArgs false
namespace Go.Proofs.Ytbplaiooipldlaa
open Go.RowKit Hp
attribute [local go_sem] setCell_drewN alloc_drewN size_ext ext_ext ext_drewN ext_drew drewN_ext drew_ext cell?_ext frozen?_ext setCell_ext cell?_past1 frozen?_past1 setCell_past1 cell?_past2 frozen?_past2 setCell_past2 cell?_past3 frozen?_past3 setCell_past3 cell?_past4 frozen?_past4 setCell_past4 cell?_past5 frozen?_past5 setCell_past5 cell?_past6 frozen?_past6 setCell_past6 cell?_past7 frozen?_past7 setCell_past7 cell?_past8 frozen?_past8 setCell_past8

theorem live {w0 w w' : World} {B H : Nat} {v v' : Value} {most : Int} {xs zs : List Key} (h : IsHeap w H v most xs) (hf : ∀ j, foot H v j → B ≤ j) (hb : Below B w0 w) (hA : Appended w w' H v most zs v') :
    IsHeap w' H v' most zs ∧ (∀ j, foot H v' j → B ≤ j) ∧ Below B w0 w' := by
  have hB : B ≤ w.heap.size := by
    have := h.lt H (.inl rfl); have := hf H (.inl rfl); omega
  refine ⟨hA.1, fun j hj => ?_, hb.trans (hA.2.2.to_below hB hf)⟩
  rcases hA.2.1 j hj with h | h
  · exact hf j h
  · omega
set_option maxHeartbeats 1000000 in
theorem works_any (w : World) : Calls Try.prog 7 #[] w fun e w' => e = .returned (.bool true) ∧ Below w.heap.size w w' := by
  go_enter Try.func7, Try.ntmps7
  go_wp2_with fail
  refine (new_ok _ 3 (by decide) (by decide)).mono ?_
  rintro e w1 ⟨rfl, h1, b1⟩
  have f1 : ∀ j, foot w.heap.size (.slice none 0 0) j → w.heap.size ≤ j := by
    rintro j (rfl | hj)
    · omega
    · cases hj
  have H1 := Lib.hid h1
  clear h1
  go_wp2_with fail
  have h1 := H1.out
  clear H1
  refine (hput_ok w1 ⟨5, 1, 0⟩ w.heap.size _ 3 [] h1 (by decide) (by decide)).mono ?_
  rintro e w2 ⟨rfl, v2, hA⟩
  rw [show put [] ⟨5, 1, 0⟩ = [⟨5, 1, 0⟩] from by decide] at hA
  obtain ⟨h2, f2, b2⟩ := live h1 f1 b1 hA
  clear hA h1 f1 b1
  have H2 := Lib.hid h2
  clear h2
  go_wp2_with fail
  have h2 := H2.out
  clear H2
  refine (hput_ok w2 ⟨3, 2, 0⟩ w.heap.size _ 3 [⟨5, 1, 0⟩] h2 (by decide) (by decide)).mono ?_
  rintro e w3 ⟨rfl, v3, hA⟩
  rw [show put [⟨5, 1, 0⟩] ⟨3, 2, 0⟩ = [⟨3, 2, 0⟩, ⟨5, 1, 0⟩] from by decide] at hA
  obtain ⟨h3, f3, b3⟩ := live h2 f2 b2 hA
  clear hA h2 f2 b2
  have H3 := Lib.hid h3
  clear h3
  go_wp2_with fail
  have h3 := H3.out
  clear H3
  refine (hput_ok w3 ⟨3, 1, 7⟩ w.heap.size _ 3 [⟨3, 2, 0⟩, ⟨5, 1, 0⟩] h3 (by decide) (by decide)).mono ?_
  rintro e w4 ⟨rfl, v4, hA⟩
  rw [show put [⟨3, 2, 0⟩, ⟨5, 1, 0⟩] ⟨3, 1, 7⟩ = [⟨3, 1, 7⟩, ⟨5, 1, 0⟩, ⟨3, 2, 0⟩] from by decide] at hA
  obtain ⟨h4, f4, b4⟩ := live h3 f3 b3 hA
  clear hA h3 f3 b3
  have H4 := Lib.hid h4
  clear h4
  go_wp2_with fail
  have h4 := H4.out
  clear H4
  refine (hput_full w4 ⟨0, 0, 0⟩ w.heap.size _ 3 _ h4 (by decide)).mono ?_
  rintro e w5 ⟨rfl, hb5⟩
  have h5 := h4.kept (Fp := fun _ => False) (Fr.of_below hb5) (fun _ _ h => h)
  have b5 := b4.trans (hb5.mono (by have := h4.lt _ (.inl rfl); omega))
  clear h4 b4 hb5
  have H5 := Lib.hid h5
  clear h5
  go_wp2_with fail
  have h5 := H5.out
  clear H5
  refine (htake_ok w5 w.heap.size _ 3 _ h5 (by decide) (by decide)).mono ?_
  rintro e w6 ⟨rfl, v6, hA⟩
  rw [show rest [⟨3, 1, 7⟩, ⟨5, 1, 0⟩, ⟨3, 2, 0⟩] = [⟨3, 2, 0⟩, ⟨5, 1, 0⟩] from by decide] at hA
  rw [show at_ [⟨3, 1, 7⟩, ⟨5, 1, 0⟩, ⟨3, 2, 0⟩] 0 = (⟨3, 1, 7⟩ : Key) from rfl]
  obtain ⟨h6, f6, b6⟩ := live h5 f4 b5 hA
  clear hA h5 b5 f4
  have H6 := Lib.hid h6
  clear h6
  go_wp2_with fail
  have h6 := H6.out
  clear H6
  refine (hfirst_ok _ w.heap.size v6 3 [⟨3, 2, 0⟩, ⟨5, 1, 0⟩] (h6.kept (Fp := fun _ => False) (by repeat (first | (with_reducible exact Fr.refl _ _) | (with_reducible apply Fr.ext) | (with_reducible apply Fr.drew) | (with_reducible apply Fr.alloc))) (fun _ _ h => h)) (by decide)).mono ?_
  rintro e w7 ⟨rfl, hb⟩
  rw [show at_ [⟨3, 2, 0⟩, ⟨5, 1, 0⟩] 0 = (⟨3, 2, 0⟩ : Key) from rfl]
  obtain ⟨X, d, rfl⟩ := below_ext hb
  clear hb
  have H6 := Lib.hid h6
  clear h6
  go_wp2_with fail
  refine (len_heap _ w.heap.size v6 3 [⟨3, 2, 0⟩, ⟨5, 1, 0⟩] (H6.out.kept (Fp := fun _ => False) (by repeat (first | (with_reducible exact Fr.refl _ _) | (with_reducible apply Fr.ext) | (with_reducible apply Fr.drew) | (with_reducible apply Fr.alloc))) (fun _ _ h => h))).mono ?_
  rintro e w8 ⟨rfl, rfl⟩
  rw [show (([⟨3, 2, 0⟩, ⟨5, 1, 0⟩] : List Key).length : Int) = 2 from rfl]
  go_wp2_with fail
  refine (less_any ⟨3, 1, 7⟩ ⟨3, 2, 0⟩ _).mono ?_
  rintro e w8 ⟨rfl, hb⟩
  rw [show less ⟨3, 1, 7⟩ ⟨3, 2, 0⟩ = true from by decide]
  obtain ⟨X1, d1, rfl⟩ := below_ext hb
  clear hb
  have s1 : w6.heap.size < w6.heap.size + 1 + X.size + 1 := by omega
  have s2 : w6.heap.size + 1 + X.size < w6.heap.size + 1 + X.size + 1 := by omega
  go_wp2_with fail
  refine (less_any ⟨3, 2, 0⟩ ⟨3, 1, 7⟩ _).mono ?_
  rintro e w8 ⟨rfl, hb⟩
  rw [show less ⟨3, 2, 0⟩ ⟨3, 1, 7⟩ = false from by decide]
  obtain ⟨X2, d2, rfl⟩ := below_ext hb
  clear hb
  go_wp2_with fail
  go_ret
  have sz := b6.size
  exact ⟨rfl, by repeat (first | (with_reducible exact Below.refl _ _) | (with_reducible assumption) | (with_reducible refine below_drewN ?_ _) | (with_reducible refine Below.drew ?_) | (with_reducible refine below_ext_of ?_ (by first | exact Nat.le_refl _ | assumption | (simp only [World.size_alloc, World.size_setCell, size_ext, World.heap_drewN]; omega)) _ _) | (with_reducible refine Below.alloc ?_ (by first | exact Nat.le_refl _ | assumption | (simp only [World.size_alloc, World.size_setCell, size_ext, World.heap_drewN]; omega)) _) | (with_reducible refine Below.setCell ?_ (by first | exact Nat.le_refl _ | assumption | (simp only [World.size_alloc, World.size_setCell, size_ext, World.heap_drewN]; omega)) _))⟩
theorem HeapNone_walk (k : Key) (w : World) : Calls Try.prog 5 #[.agg #[.int .i64 k.due, .int .i64 k.task, .int .i64 k.n]] w fun e w' => e = .returned (.bool true) ∧ Below w.heap.size w w' := by
  go_enter Try.func5, Try.ntmps5
  go_wp2_with fail
  refine (hfirst_nil _).mono ?_
  rintro e w1 ⟨rfl, hb⟩
  obtain ⟨X1, d1, rfl⟩ := below_ext hb
  clear hb
  go_wp2_with fail
  refine (htake_nil _).mono ?_
  rintro e w1 ⟨rfl, hb⟩
  obtain ⟨X2, d2, rfl⟩ := below_ext hb
  clear hb
  have s1 : w.heap.size < w.heap.size + 1 + X1.size := by omega
  have s2 : w.heap.size < w.heap.size + 1 + X1.size + 1 := by omega
  have s3 : w.heap.size < w.heap.size + 1 + X1.size + 1 + X2.size := by omega
  have s4 : w.heap.size < w.heap.size + 1 + X1.size + 1 + X2.size + 1 := by omega
  go_wp2_with fail
  refine (hput_nil _ k).mono ?_
  rintro e w1 ⟨rfl, hb⟩
  obtain ⟨X3, d3, rfl⟩ := below_ext hb
  clear hb
  go_wp2_with fail
  refine (len_nil _).mono ?_
  rintro e w1 ⟨rfl, rfl⟩
  go_wp2_with fail
  refine (hrows_nil _).mono ?_
  rintro e w1 ⟨rfl, rfl⟩
  go_wp2_with fail
  refine (works_any _).mono ?_
  rintro e w1 ⟨rfl, hb⟩
  obtain ⟨X4, d4, rfl⟩ := below_ext hb
  clear hb
  go_wp2_with fail
  go_ret
  exact ⟨rfl, by repeat (first | (with_reducible exact Below.refl _ _) | (with_reducible assumption) | (with_reducible refine below_drewN ?_ _) | (with_reducible refine Below.drew ?_) | (with_reducible refine below_ext_of ?_ (by first | exact Nat.le_refl _ | assumption | (simp only [World.size_alloc, World.size_setCell, size_ext, World.heap_drewN]; omega)) _ _) | (with_reducible refine Below.alloc ?_ (by first | exact Nat.le_refl _ | assumption | (simp only [World.size_alloc, World.size_setCell, size_ext, World.heap_drewN]; omega)) _) | (with_reducible refine Below.setCell ?_ (by first | exact Nat.le_refl _ | assumption | (simp only [World.size_alloc, World.size_setCell, size_ext, World.heap_drewN]; omega)) _))⟩
end Go.Proofs.Ytbplaiooipldlaa
