/-
  Worlds, blocks, rows of the call's own: small laws.
  Conditions: none.
-/
import Derived.Test.YtkabmpbfabgkfaaUs
import Derived.Test.YtkabmpbfabgkfaaOa
import Derived.WalkKit
import Derived.WalkSpells
import Derived.WalkLawsBesides
import Derived.Deep.QuietTactic
import Derived.BigQuiet
import Derived.Lib.Hide
import Derived.Handy
import Derived.Deep.AppendLies
import Derived.Maps.AppendAt
import Derived.OwnWalk
import Derived.Lib.LazyBuf
import Derived.Deep.DeepCutAuto
import Derived.Deep.RegionLaw
import Derived.Deep.RegionHeld3
import Derived.Deep.RegionWith
import Derived.BigRegion
import Derived.Deep.CutBlock
import Derived.LoopN
import Derived.Laws.AppendOwn
set_option linter.unusedVariables false
set_option linter.unusedSimpArgs false
namespace Go.Proofs.Ytkabmpbfabgkfaa
open Go.RowKit 
open Big
attribute [local go_sem] setCell_drewN alloc_drewN size_ext ext_ext ext_drewN ext_drew drewN_ext drew_ext cell?_ext frozen?_ext setCell_ext cell?_past1 frozen?_past1 setCell_past1 cell?_past2 frozen?_past2 setCell_past2 cell?_past3 frozen?_past3 setCell_past3 cell?_past4 frozen?_past4 setCell_past4 cell?_past5 frozen?_past5 setCell_past5 cell?_past6 frozen?_past6 setCell_past6 cell?_past7 frozen?_past7 setCell_past7 cell?_past8 frozen?_past8 setCell_past8
open Go.Proofs.Ytkabmpbfabgkfaa.P Go.Proofs.YtkabmpbfabgkfaaW.PrintWords Go.Proofs.YtkabmpbfabgkfaaW.PrintLast Go.Proofs.YtkabmpbfabgkfaaW.PrintMore
theorem cell_at {W W' : World} {b i : Nat} (h : W'.heap[b]? = W.heap[b]?) : W'.cell? ⟨b, i, none⟩ = W.cell? ⟨b, i, none⟩ := by simp only [World.cell?, h]
theorem set_oth' {W : World} {b c : Nat} {i : Nat} {v : Value} (h : b ≠ c) : (W.setCell ⟨b, i, none⟩ v).heap[c]? = W.heap[c]? := by
  simp only [World.setCell, Array.getElem?_modify]
  rw [if_neg h]
theorem set_s0 {W : World} {b : Nat} {v0 v1 : Value} {t : TypeId} (h : W.heap[b]? = some (.cells #[v0, v1] t)) (u : Value) : (W.setCell ⟨b, 0, none⟩ u).heap[b]? = some (.cells #[u, v1] t) := by
  simp only [World.setCell, Array.getElem?_modify, if_pos, h]; rfl
theorem set_s1 {W : World} {b : Nat} {v0 v1 : Value} {t : TypeId} (h : W.heap[b]? = some (.cells #[v0, v1] t)) (u : Value) : (W.setCell ⟨b, 1, none⟩ u).heap[b]? = some (.cells #[v0, u] t) := by
  simp only [World.setCell, Array.getElem?_modify, if_pos, h]; rfl
theorem below_set {B b i : Nat} {w W : World} {v : Value} (h : Below B w W) (hb : B ≤ b) : Below B w (W.setCell ⟨b, i, none⟩ v) := by
  obtain ⟨h1, h2, h3, h4, h5⟩ := h
  exact ⟨h1, h2, h3, by rw [World.size_setCell]; exact h4, fun k hk => (set_oth' (by omega)).trans (h5 k hk)⟩
theorem lt_of_blk {W : World} {b : Nat} {o : Obj} (h : W.heap[b]? = some o) : b < W.heap.size := by
  rcases Nat.lt_or_ge b W.heap.size with h1 | h1
  · exact h1
  · rw [Array.getElem?_eq_none (by omega)] at h; cases h
theorem keepc {B : Nat} {w W : World} (hB : w.heap.size ≤ B) (hb : Below B w W) {p : Addr} {v : Value} (h : w.cell? p = some v) : W.cell? p = some v :=
  ((hb.mono hB).cell (World.block_lt_of_cell? w p h)).trans h
theorem fitB_of {v : Int} (h1 : -9223372036854775808 ≤ v) (h2 : v ≤ 9223372036854775807) : fitB v = true ∧ fitV v = v := by
  constructor
  · exact decide_eq_true ⟨h1, h2⟩
  · unfold fitV; rw [if_pos ⟨h1, h2⟩]
theorem own_ne {W : World} {base g : Nat} {e t : TypeId} {size n : Nat} {v : Value} {xs : List Value} {vs : Array Value} {fr : Nat × Nat} (h : W.ownsRow base e size v n xs) (hg : W.heap[g]? = some (.cells vs t fr)) (hne : e ≠ t) : some g ≠ v.ownBlock := by
  rcases h.2 with ⟨rfl, _⟩ | ⟨g', cap, cur, rfl, _, hg', _⟩
  · simp [Value.ownBlock]
  · intro e1
    have e2 : g = g' := by simpa [Value.ownBlock] using e1
    subst e2
    rw [hg] at hg'
    injection hg' with h1
    injection h1 with _ h2
    exact hne h2.symm
theorem own_base {W : World} {base k : Nat} {e : TypeId} {size n : Nat} {v : Value} {xs : List Value} (h : W.ownsRow base e size v n xs) (hk : some k = v.ownBlock) : base ≤ k := by
  rcases h.2 with ⟨rfl, _⟩ | ⟨g', cap, cur, rfl, hb, _⟩
  · simp [Value.ownBlock] at hk
  · have e2 : k = g' := by simpa [Value.ownBlock] using hk
    omega
theorem grown_below {B : Nat} {w W W' : World} {v : Value} {e : TypeId} {size n : Nat} {xs : List Value} (h : Below B w W) (hown : W.ownsRow B e size v n xs) (hg : W.grownBy W' v.ownBlock) (hB : B ≤ W.heap.size) : Below B w W' := by
  obtain ⟨h1, h2, h3, h4, h5⟩ := h
  refine ⟨hg.os.trans h1, hg.tape.trans h2, hg.output.trans h3, Nat.le_trans h4 hg.size, fun k hk => ?_⟩
  rw [hg.block k (by omega) (fun e1 => by have := own_base hown e1; omega)]
  exact h5 k hk
end Go.Proofs.Ytkabmpbfabgkfaa
