/-
  Words that the walks of carillonref01's numbers use: sums and differences of digits as the walk spells them.
  No condition: plain lemmas.
-/
import Derived.Test.YtkabmpbfabgkfaaRows
import Derived.Test.YtkabmpbfabgkfaaPure
import Derived.WalkKit
import Derived.WalkSpells
import Derived.WalkLawsBesides
import Derived.Deep.QuietTactic
import Derived.BigQuiet
import Derived.Lib.Hide
import Derived.Handy
set_option linter.unusedVariables false
set_option linter.unusedSimpArgs false
namespace Go.Proofs.Ytkabmpbfabgkfaa
open Go.RowKit Big

/-- A store, a new block, behind draws: the draws outermost. -/
theorem setCell_drewN (w : World) (n : Nat) (a : Addr) (v : Value) : (w.drewN n).setCell a v = (w.setCell a v).drewN n := rfl
theorem alloc_drewN (w : World) (n : Nat) (o : Obj) : (w.drewN n).alloc o = (w.alloc o).drewN n := rfl
/-- A world with new blocks behind its own, and another count of draws: what a call leaves that only lays new blocks. -/
def ext (w : World) (X : Array Obj) (d : Nat) : World := { w with heap := w.heap ++ X, drawn := d }
theorem below_ext {w w1 : World} (h : Below w.heap.size w w1) : ∃ X d, w1 = ext w X d := by
  obtain ⟨ho, ht, hu, hs, hb⟩ := h
  refine ⟨w1.heap.extract w.heap.size w1.heap.size, w1.drawn, ?_⟩
  have e : w1.heap = w.heap ++ w1.heap.extract w.heap.size w1.heap.size := by
    apply Array.ext_getElem?
    intro k
    by_cases hk : k < w.heap.size
    · rw [hb k hk, Array.getElem?_append_left hk]
    · rw [Array.getElem?_append_right (by omega), Array.getElem?_extract]
      by_cases hk2 : k < w1.heap.size
      · rw [if_pos (by omega)]; congr 1; omega
      · rw [if_neg (by omega), Array.getElem?_eq_none (by omega)]
  cases w1
  simp only at ho ht hu e
  unfold ext
  subst ho ht hu
  congr 1
theorem ext_below (w : World) (X : Array Obj) (d : Nat) : Below w.heap.size w (ext w X d) :=
  ⟨rfl, rfl, rfl, by simp [ext], fun k hk => by simp only [ext]; rw [Array.getElem?_append_left hk]⟩
theorem below_ext_of {B : Nat} {a w : World} (h : Below B a w) (hB : B ≤ w.heap.size) (X : Array Obj) (d : Nat) : Below B a (ext w X d) :=
  h.trans ((ext_below w X d).mono hB)
theorem size_ext (w : World) (X : Array Obj) (d : Nat) : (ext w X d).heap.size = w.heap.size + X.size := by simp [ext]
theorem lt_ext (w : World) (X : Array Obj) (d n : Nat) (h : n < w.heap.size) : n < (ext w X d).heap.size := by rw [size_ext]; omega
theorem le_ext (w : World) (X : Array Obj) (d n : Nat) (h : n ≤ w.heap.size) : n ≤ (ext w X d).heap.size := by rw [size_ext]; omega
theorem alloc_ext (w : World) (X : Array Obj) (d : Nat) (o : Obj) : (ext w X d).alloc o = ext w (X.push o) d := by simp [ext, World.alloc]
theorem ext_nil (w : World) : ext w #[] w.drawn = w := by simp [ext]
theorem ext_ext (w : World) (X Y : Array Obj) (d e : Nat) : ext (ext w X d) Y e = ext w (X ++ Y) e := by simp [ext, Array.append_assoc]
theorem ext_drewN (w : World) (n : Nat) (X : Array Obj) (d : Nat) : ext (w.drewN n) X d = ext w X d := rfl
theorem ext_drew (w : World) (X : Array Obj) (d : Nat) : ext w.drew X d = ext w X d := rfl
theorem drewN_ext (w : World) (n : Nat) (X : Array Obj) (d : Nat) : (ext w X d).drewN n = ext w X (d + n) := rfl
theorem drew_ext (w : World) (X : Array Obj) (d : Nat) : (ext w X d).drew = ext w X (d + 1) := rfl
theorem cell?_ext (w : World) (X : Array Obj) (d : Nat) (b o : Nat) (h : b < w.heap.size) : (ext w X d).cell? ⟨b, o, none⟩ = w.cell? ⟨b, o, none⟩ := by
  simp only [World.cell?, ext]; rw [Array.getElem?_append_left h]
theorem frozen?_ext (w : World) (X : Array Obj) (d : Nat) (b o : Nat) (h : b < w.heap.size) : (ext w X d).frozen? ⟨b, o, none⟩ = w.frozen? ⟨b, o, none⟩ := by
  simp only [World.frozen?, ext]; rw [Array.getElem?_append_left h]
theorem setCell_ext (w : World) (X : Array Obj) (d : Nat) (b o : Nat) (v : Value) (h : b < w.heap.size) : (ext w X d).setCell ⟨b, o, none⟩ v = ext (w.setCell ⟨b, o, none⟩ v) X d := by
  unfold World.setCell ext
  congr 1
  apply Array.ext_getElem?
  intro k
  simp only [Array.getElem?_modify]
  by_cases hk : k < w.heap.size
  · rw [Array.getElem?_append_left hk, Array.getElem?_append_left (by simpa using hk), Array.getElem?_modify]
  · rw [Array.getElem?_append_right (by omega), Array.getElem?_append_right (by simp; omega)]
    rw [if_neg (by omega)]; simp
theorem cell?_past1 (w : World) (X : Array Obj) (d n i : Nat) (o1 : Obj) (h : n < w.heap.size) : (((ext w X d).alloc o1)).cell? ⟨n, i, none⟩ = w.cell? ⟨n, i, none⟩ := by
  rw [World.cell?_alloc_past]
  · exact cell?_ext w X d n i h
  all_goals (simp only [World.size_alloc, size_ext]; omega)
theorem frozen?_past1 (w : World) (X : Array Obj) (d n i : Nat) (o1 : Obj) (h : n < w.heap.size) : (((ext w X d).alloc o1)).frozen? ⟨n, i, none⟩ = w.frozen? ⟨n, i, none⟩ := by
  rw [World.frozen?_alloc_past]
  · exact frozen?_ext w X d n i h
  all_goals (simp only [World.size_alloc, size_ext]; omega)
theorem setCell_past1 (w : World) (X : Array Obj) (d n i : Nat) (v : Value) (o1 : Obj) (h : n < w.heap.size) : (((ext w X d).alloc o1)).setCell ⟨n, i, none⟩ v = ((ext (w.setCell ⟨n, i, none⟩ v) X d).alloc o1) := by
  rw [World.setCell_alloc_past]
  · rw [setCell_ext w X d n i v h]
  all_goals (simp only [World.size_alloc, size_ext]; omega)
theorem cell?_past2 (w : World) (X : Array Obj) (d n i : Nat) (o1 o2 : Obj) (h : n < w.heap.size) : ((((ext w X d).alloc o1).alloc o2)).cell? ⟨n, i, none⟩ = w.cell? ⟨n, i, none⟩ := by
  rw [World.cell?_alloc_past]
  rw [World.cell?_alloc_past]
  · exact cell?_ext w X d n i h
  all_goals (simp only [World.size_alloc, size_ext]; omega)
theorem frozen?_past2 (w : World) (X : Array Obj) (d n i : Nat) (o1 o2 : Obj) (h : n < w.heap.size) : ((((ext w X d).alloc o1).alloc o2)).frozen? ⟨n, i, none⟩ = w.frozen? ⟨n, i, none⟩ := by
  rw [World.frozen?_alloc_past]
  rw [World.frozen?_alloc_past]
  · exact frozen?_ext w X d n i h
  all_goals (simp only [World.size_alloc, size_ext]; omega)
theorem setCell_past2 (w : World) (X : Array Obj) (d n i : Nat) (v : Value) (o1 o2 : Obj) (h : n < w.heap.size) : ((((ext w X d).alloc o1).alloc o2)).setCell ⟨n, i, none⟩ v = (((ext (w.setCell ⟨n, i, none⟩ v) X d).alloc o1).alloc o2) := by
  rw [World.setCell_alloc_past]
  rw [World.setCell_alloc_past]
  · rw [setCell_ext w X d n i v h]
  all_goals (simp only [World.size_alloc, size_ext]; omega)
theorem cell?_past3 (w : World) (X : Array Obj) (d n i : Nat) (o1 o2 o3 : Obj) (h : n < w.heap.size) : (((((ext w X d).alloc o1).alloc o2).alloc o3)).cell? ⟨n, i, none⟩ = w.cell? ⟨n, i, none⟩ := by
  rw [World.cell?_alloc_past]
  rw [World.cell?_alloc_past]
  rw [World.cell?_alloc_past]
  · exact cell?_ext w X d n i h
  all_goals (simp only [World.size_alloc, size_ext]; omega)
theorem frozen?_past3 (w : World) (X : Array Obj) (d n i : Nat) (o1 o2 o3 : Obj) (h : n < w.heap.size) : (((((ext w X d).alloc o1).alloc o2).alloc o3)).frozen? ⟨n, i, none⟩ = w.frozen? ⟨n, i, none⟩ := by
  rw [World.frozen?_alloc_past]
  rw [World.frozen?_alloc_past]
  rw [World.frozen?_alloc_past]
  · exact frozen?_ext w X d n i h
  all_goals (simp only [World.size_alloc, size_ext]; omega)
theorem setCell_past3 (w : World) (X : Array Obj) (d n i : Nat) (v : Value) (o1 o2 o3 : Obj) (h : n < w.heap.size) : (((((ext w X d).alloc o1).alloc o2).alloc o3)).setCell ⟨n, i, none⟩ v = ((((ext (w.setCell ⟨n, i, none⟩ v) X d).alloc o1).alloc o2).alloc o3) := by
  rw [World.setCell_alloc_past]
  rw [World.setCell_alloc_past]
  rw [World.setCell_alloc_past]
  · rw [setCell_ext w X d n i v h]
  all_goals (simp only [World.size_alloc, size_ext]; omega)
theorem cell?_past4 (w : World) (X : Array Obj) (d n i : Nat) (o1 o2 o3 o4 : Obj) (h : n < w.heap.size) : ((((((ext w X d).alloc o1).alloc o2).alloc o3).alloc o4)).cell? ⟨n, i, none⟩ = w.cell? ⟨n, i, none⟩ := by
  rw [World.cell?_alloc_past]
  rw [World.cell?_alloc_past]
  rw [World.cell?_alloc_past]
  rw [World.cell?_alloc_past]
  · exact cell?_ext w X d n i h
  all_goals (simp only [World.size_alloc, size_ext]; omega)
theorem frozen?_past4 (w : World) (X : Array Obj) (d n i : Nat) (o1 o2 o3 o4 : Obj) (h : n < w.heap.size) : ((((((ext w X d).alloc o1).alloc o2).alloc o3).alloc o4)).frozen? ⟨n, i, none⟩ = w.frozen? ⟨n, i, none⟩ := by
  rw [World.frozen?_alloc_past]
  rw [World.frozen?_alloc_past]
  rw [World.frozen?_alloc_past]
  rw [World.frozen?_alloc_past]
  · exact frozen?_ext w X d n i h
  all_goals (simp only [World.size_alloc, size_ext]; omega)
theorem setCell_past4 (w : World) (X : Array Obj) (d n i : Nat) (v : Value) (o1 o2 o3 o4 : Obj) (h : n < w.heap.size) : ((((((ext w X d).alloc o1).alloc o2).alloc o3).alloc o4)).setCell ⟨n, i, none⟩ v = (((((ext (w.setCell ⟨n, i, none⟩ v) X d).alloc o1).alloc o2).alloc o3).alloc o4) := by
  rw [World.setCell_alloc_past]
  rw [World.setCell_alloc_past]
  rw [World.setCell_alloc_past]
  rw [World.setCell_alloc_past]
  · rw [setCell_ext w X d n i v h]
  all_goals (simp only [World.size_alloc, size_ext]; omega)
theorem cell?_past5 (w : World) (X : Array Obj) (d n i : Nat) (o1 o2 o3 o4 o5 : Obj) (h : n < w.heap.size) : (((((((ext w X d).alloc o1).alloc o2).alloc o3).alloc o4).alloc o5)).cell? ⟨n, i, none⟩ = w.cell? ⟨n, i, none⟩ := by
  rw [World.cell?_alloc_past]
  rw [World.cell?_alloc_past]
  rw [World.cell?_alloc_past]
  rw [World.cell?_alloc_past]
  rw [World.cell?_alloc_past]
  · exact cell?_ext w X d n i h
  all_goals (simp only [World.size_alloc, size_ext]; omega)
theorem frozen?_past5 (w : World) (X : Array Obj) (d n i : Nat) (o1 o2 o3 o4 o5 : Obj) (h : n < w.heap.size) : (((((((ext w X d).alloc o1).alloc o2).alloc o3).alloc o4).alloc o5)).frozen? ⟨n, i, none⟩ = w.frozen? ⟨n, i, none⟩ := by
  rw [World.frozen?_alloc_past]
  rw [World.frozen?_alloc_past]
  rw [World.frozen?_alloc_past]
  rw [World.frozen?_alloc_past]
  rw [World.frozen?_alloc_past]
  · exact frozen?_ext w X d n i h
  all_goals (simp only [World.size_alloc, size_ext]; omega)
theorem setCell_past5 (w : World) (X : Array Obj) (d n i : Nat) (v : Value) (o1 o2 o3 o4 o5 : Obj) (h : n < w.heap.size) : (((((((ext w X d).alloc o1).alloc o2).alloc o3).alloc o4).alloc o5)).setCell ⟨n, i, none⟩ v = ((((((ext (w.setCell ⟨n, i, none⟩ v) X d).alloc o1).alloc o2).alloc o3).alloc o4).alloc o5) := by
  rw [World.setCell_alloc_past]
  rw [World.setCell_alloc_past]
  rw [World.setCell_alloc_past]
  rw [World.setCell_alloc_past]
  rw [World.setCell_alloc_past]
  · rw [setCell_ext w X d n i v h]
  all_goals (simp only [World.size_alloc, size_ext]; omega)
theorem cell?_past6 (w : World) (X : Array Obj) (d n i : Nat) (o1 o2 o3 o4 o5 o6 : Obj) (h : n < w.heap.size) : ((((((((ext w X d).alloc o1).alloc o2).alloc o3).alloc o4).alloc o5).alloc o6)).cell? ⟨n, i, none⟩ = w.cell? ⟨n, i, none⟩ := by
  rw [World.cell?_alloc_past]
  rw [World.cell?_alloc_past]
  rw [World.cell?_alloc_past]
  rw [World.cell?_alloc_past]
  rw [World.cell?_alloc_past]
  rw [World.cell?_alloc_past]
  · exact cell?_ext w X d n i h
  all_goals (simp only [World.size_alloc, size_ext]; omega)
theorem frozen?_past6 (w : World) (X : Array Obj) (d n i : Nat) (o1 o2 o3 o4 o5 o6 : Obj) (h : n < w.heap.size) : ((((((((ext w X d).alloc o1).alloc o2).alloc o3).alloc o4).alloc o5).alloc o6)).frozen? ⟨n, i, none⟩ = w.frozen? ⟨n, i, none⟩ := by
  rw [World.frozen?_alloc_past]
  rw [World.frozen?_alloc_past]
  rw [World.frozen?_alloc_past]
  rw [World.frozen?_alloc_past]
  rw [World.frozen?_alloc_past]
  rw [World.frozen?_alloc_past]
  · exact frozen?_ext w X d n i h
  all_goals (simp only [World.size_alloc, size_ext]; omega)
theorem setCell_past6 (w : World) (X : Array Obj) (d n i : Nat) (v : Value) (o1 o2 o3 o4 o5 o6 : Obj) (h : n < w.heap.size) : ((((((((ext w X d).alloc o1).alloc o2).alloc o3).alloc o4).alloc o5).alloc o6)).setCell ⟨n, i, none⟩ v = (((((((ext (w.setCell ⟨n, i, none⟩ v) X d).alloc o1).alloc o2).alloc o3).alloc o4).alloc o5).alloc o6) := by
  rw [World.setCell_alloc_past]
  rw [World.setCell_alloc_past]
  rw [World.setCell_alloc_past]
  rw [World.setCell_alloc_past]
  rw [World.setCell_alloc_past]
  rw [World.setCell_alloc_past]
  · rw [setCell_ext w X d n i v h]
  all_goals (simp only [World.size_alloc, size_ext]; omega)
theorem cell?_past7 (w : World) (X : Array Obj) (d n i : Nat) (o1 o2 o3 o4 o5 o6 o7 : Obj) (h : n < w.heap.size) : (((((((((ext w X d).alloc o1).alloc o2).alloc o3).alloc o4).alloc o5).alloc o6).alloc o7)).cell? ⟨n, i, none⟩ = w.cell? ⟨n, i, none⟩ := by
  rw [World.cell?_alloc_past]
  rw [World.cell?_alloc_past]
  rw [World.cell?_alloc_past]
  rw [World.cell?_alloc_past]
  rw [World.cell?_alloc_past]
  rw [World.cell?_alloc_past]
  rw [World.cell?_alloc_past]
  · exact cell?_ext w X d n i h
  all_goals (simp only [World.size_alloc, size_ext]; omega)
theorem frozen?_past7 (w : World) (X : Array Obj) (d n i : Nat) (o1 o2 o3 o4 o5 o6 o7 : Obj) (h : n < w.heap.size) : (((((((((ext w X d).alloc o1).alloc o2).alloc o3).alloc o4).alloc o5).alloc o6).alloc o7)).frozen? ⟨n, i, none⟩ = w.frozen? ⟨n, i, none⟩ := by
  rw [World.frozen?_alloc_past]
  rw [World.frozen?_alloc_past]
  rw [World.frozen?_alloc_past]
  rw [World.frozen?_alloc_past]
  rw [World.frozen?_alloc_past]
  rw [World.frozen?_alloc_past]
  rw [World.frozen?_alloc_past]
  · exact frozen?_ext w X d n i h
  all_goals (simp only [World.size_alloc, size_ext]; omega)
theorem setCell_past7 (w : World) (X : Array Obj) (d n i : Nat) (v : Value) (o1 o2 o3 o4 o5 o6 o7 : Obj) (h : n < w.heap.size) : (((((((((ext w X d).alloc o1).alloc o2).alloc o3).alloc o4).alloc o5).alloc o6).alloc o7)).setCell ⟨n, i, none⟩ v = ((((((((ext (w.setCell ⟨n, i, none⟩ v) X d).alloc o1).alloc o2).alloc o3).alloc o4).alloc o5).alloc o6).alloc o7) := by
  rw [World.setCell_alloc_past]
  rw [World.setCell_alloc_past]
  rw [World.setCell_alloc_past]
  rw [World.setCell_alloc_past]
  rw [World.setCell_alloc_past]
  rw [World.setCell_alloc_past]
  rw [World.setCell_alloc_past]
  · rw [setCell_ext w X d n i v h]
  all_goals (simp only [World.size_alloc, size_ext]; omega)
theorem cell?_past8 (w : World) (X : Array Obj) (d n i : Nat) (o1 o2 o3 o4 o5 o6 o7 o8 : Obj) (h : n < w.heap.size) : ((((((((((ext w X d).alloc o1).alloc o2).alloc o3).alloc o4).alloc o5).alloc o6).alloc o7).alloc o8)).cell? ⟨n, i, none⟩ = w.cell? ⟨n, i, none⟩ := by
  rw [World.cell?_alloc_past]
  rw [World.cell?_alloc_past]
  rw [World.cell?_alloc_past]
  rw [World.cell?_alloc_past]
  rw [World.cell?_alloc_past]
  rw [World.cell?_alloc_past]
  rw [World.cell?_alloc_past]
  rw [World.cell?_alloc_past]
  · exact cell?_ext w X d n i h
  all_goals (simp only [World.size_alloc, size_ext]; omega)
theorem frozen?_past8 (w : World) (X : Array Obj) (d n i : Nat) (o1 o2 o3 o4 o5 o6 o7 o8 : Obj) (h : n < w.heap.size) : ((((((((((ext w X d).alloc o1).alloc o2).alloc o3).alloc o4).alloc o5).alloc o6).alloc o7).alloc o8)).frozen? ⟨n, i, none⟩ = w.frozen? ⟨n, i, none⟩ := by
  rw [World.frozen?_alloc_past]
  rw [World.frozen?_alloc_past]
  rw [World.frozen?_alloc_past]
  rw [World.frozen?_alloc_past]
  rw [World.frozen?_alloc_past]
  rw [World.frozen?_alloc_past]
  rw [World.frozen?_alloc_past]
  rw [World.frozen?_alloc_past]
  · exact frozen?_ext w X d n i h
  all_goals (simp only [World.size_alloc, size_ext]; omega)
theorem setCell_past8 (w : World) (X : Array Obj) (d n i : Nat) (v : Value) (o1 o2 o3 o4 o5 o6 o7 o8 : Obj) (h : n < w.heap.size) : ((((((((((ext w X d).alloc o1).alloc o2).alloc o3).alloc o4).alloc o5).alloc o6).alloc o7).alloc o8)).setCell ⟨n, i, none⟩ v = (((((((((ext (w.setCell ⟨n, i, none⟩ v) X d).alloc o1).alloc o2).alloc o3).alloc o4).alloc o5).alloc o6).alloc o7).alloc o8) := by
  rw [World.setCell_alloc_past]
  rw [World.setCell_alloc_past]
  rw [World.setCell_alloc_past]
  rw [World.setCell_alloc_past]
  rw [World.setCell_alloc_past]
  rw [World.setCell_alloc_past]
  rw [World.setCell_alloc_past]
  rw [World.setCell_alloc_past]
  · rw [setCell_ext w X d n i v h]
  all_goals (simp only [World.size_alloc, size_ext]; omega)
/-- The lowest 64 bits. -/
def low (A : Nat) : Int := ((A % 18446744073709551616 : Nat) : Int)
theorem low_or (A : Nat) : bits .or .u64 (dg A 0) (IntKind.u64.wrap (dg A 1 * 4294967296)) = low A := by
  have e : IntKind.u64.wrap (dg A 1 * 4294967296) = ((A / 4294967296 % 4294967296 * 4294967296 : Nat) : Int) := by
    rw [IntKind.wrap_u64, dg1]; omega
  rw [e, dg0, u64_or_nat _ _ (by omega) (by omega), Nat.or_comm, nat_join 32 _ _ (by omega) (by omega)]
  unfold low; omega
theorem low_lo (A : Nat) : 0 ≤ low A := by unfold low; omega
theorem ret_ib {x y : Int} {b c : Bool} (h1 : x = y) (h2 : b = c) : Ending.returned (.tuple #[.int .i64 x, .bool b]) = Ending.returned (.tuple #[.int .i64 y, .bool c]) := by rw [h1, h2]
theorem ret_i {k : IntKind} {x y : Int} (h : x = y) : Ending.returned (.int k x) = Ending.returned (.int k y) := by rw [h]
theorem ret_b {x y : Bool} (h : x = y) : Ending.returned (.bool x) = Ending.returned (.bool y) := by rw [h]
/-- Is it not 0? -/
def nz (A : Nat) : Bool := !decide (A = 0)
/-- A number of a sign and a size. -/
def sg (s : Bool) (A : Nat) : Int := if s then -(A : Int) else A
/-- Does it lie in an int64? -/
def fitB (v : Int) : Bool := decide (-9223372036854775808 ≤ v ∧ v ≤ 9223372036854775807)
/-- The number, or 0 where it does not lie in an int64. -/
def fitV (v : Int) : Int := if -9223372036854775808 ≤ v ∧ v ≤ 9223372036854775807 then v else 0
theorem fit_no {v : Int} (h : ¬ (-9223372036854775808 ≤ v ∧ v ≤ 9223372036854775807)) : 0 = fitV v ∧ false = fitB v := by
  unfold fitV fitB; rw [if_neg h, decide_eq_false h]; exact ⟨rfl, rfl⟩
theorem fit_yes {v x : Int} (h : -9223372036854775808 ≤ v ∧ v ≤ 9223372036854775807) (e : x = v) : x = fitV v ∧ true = fitB v := by
  unfold fitV fitB; rw [if_pos h, decide_eq_true h]; exact ⟨e, rfl⟩
/-- The sum of two digits and a carry. -/
def xs (A B k : Nat) : Int := dg A k + dg B k + cy A B k
theorem xs_lo (A B k : Nat) : 0 ≤ xs A B k := by unfold xs; have := dg_lo A k; have := dg_lo B k; have := cy_lo A B k; omega
theorem xs_hi (A B k : Nat) : xs A B k ≤ 8589934591 := by unfold xs; have := dg_hi A k; have := dg_hi B k; have := cy_hi A B k; omega
theorem xs_wrap (A B k : Nat) : IntKind.u64.wrap (IntKind.u64.wrap (dg A k + dg B k) + cy A B k) = xs A B k := by
  have h1 := dg_lo A k; have h2 := dg_lo B k; have h3 := cy_lo A B k; have h4 := dg_hi A k; have h5 := dg_hi B k; have h6 := cy_hi A B k
  rw [IntKind.wrap_u64, IntKind.wrap_u64]; unfold xs; omega
theorem xs_wrap0 (A B : Nat) : IntKind.u64.wrap (IntKind.u64.wrap (dg A 0 + dg B 0)) = xs A B 0 := by
  rw [← xs_wrap, cy0, Int.add_zero]
theorem xs_dg (A B k : Nat) : bits .and .u64 (xs A B k) 4294967295 = dg (A + B) k := by
  rw [and_low32 _ (xs_lo A B k) (by have := xs_hi A B k; omega)]; exact (add_step A B k).1
theorem xs_cy (A B k : Nat) : xs A B k / 4294967296 = cy A B (k + 1) := (add_step A B k).2
/-- The difference of two digits and a borrow, one lent. -/
def ds (A B k : Nat) : Int := 4294967296 + dg A k - dg B k - bw A B k
theorem ds_lo (A B k : Nat) : 0 ≤ ds A B k := by unfold ds; have := dg_lo A k; have := dg_hi B k; have := bw_hi A B k; omega
theorem ds_hi (A B k : Nat) : ds A B k ≤ 8589934591 := by unfold ds; have := dg_hi A k; have := dg_lo B k; have := bw_lo A B k; omega
theorem ds_wrap (A B k : Nat) : IntKind.u64.wrap (IntKind.u64.wrap (IntKind.u64.wrap (4294967296 + dg A k) - dg B k) - bw A B k) = ds A B k := by
  have h1 := dg_lo A k; have h2 := dg_lo B k; have h3 := bw_lo A B k; have h4 := dg_hi A k; have h5 := dg_hi B k; have h6 := bw_hi A B k
  rw [IntKind.wrap_u64, IntKind.wrap_u64, IntKind.wrap_u64]; unfold ds; omega
theorem ds_wrap0 (A B : Nat) : IntKind.u64.wrap (IntKind.u64.wrap (IntKind.u64.wrap (4294967296 + dg A 0) - dg B 0)) = ds A B 0 := by
  rw [← ds_wrap, bw0, Int.sub_zero]
theorem ds_dg (A B k : Nat) (h : B ≤ A) : bits .and .u64 (ds A B k) 4294967295 = dg (A - B) k := by
  rw [and_low32 _ (ds_lo A B k) (by have := ds_hi A B k; omega)]; exact (sub_step A B k h).1
theorem ds_bw (A B k : Nat) (h : B ≤ A) : IntKind.u64.wrap (1 - ds A B k / 4294967296) = bw A B (k + 1) := by
  rw [← (sub_step A B k h).2, IntKind.wrap_u64]
  have := ds_lo A B k; have := ds_hi A B k
  unfold ds at *; omega
end Go.Proofs.Ytkabmpbfabgkfaa
