/-
  A map of jobs that counts: what a look-up tells, and what a store at a key leaves.
  Conditions: keys whose numbers are Go's own; a map that has room.
-/
import Derived.Test.YtbplaiooipldlaaSt
import Derived.WalkKit
import Derived.WalkSpells
import Derived.WalkLawsBesides
import Derived.Deep.QuietTactic
import Derived.BigQuiet
import Derived.Lib.Hide
import Derived.Handy
import Derived.DeepKeys4
import Derived.MapKept
import Derived.MapViews
import Derived.Maps.Own
import Derived.Maps.Views
import Derived.WideKeyEntry
import Derived.Deep.Strs
import Derived.ProofKit
set_option linter.unusedVariables false
set_option linter.unusedSimpArgs false
namespace Go.Proofs.Ytbplaiooipldlaa
open Go.RowKit Hp

open Go.ChangeShapes Go.WideShapes Go.Deep Go.WideMaps
def Wf (k : Key) : Prop := (Lit.int .i64 k.due).wf = true ∧ (Lit.int .i64 k.task).wf = true ∧ (Lit.int .i64 k.n).wf = true
theorem kLaidOut : laidOutB Try.prog = true := by kernel_rfl
theorem kRow : (31 : TypeId) < Try.prog.types.size := of_decide_eq_true (by kernel_rfl)
theorem kCells : Try.prog.cellsOf 31 = 3 := by kernel_rfl
theorem kCells2 : Try.prog.cellsOf 2 = 1 := by kernel_rfl
theorem kCells3 : Try.prog.cellsOf 3 = 1 := by kernel_rfl
theorem kDeep : Try.prog.keyTypeAt (Try.prog.types.size + 1) 31 = true := by kernel_rfl
theorem kWide : (match Try.prog.underlying 31 with | some (.array _ _) | some (.struct _) => true | _ => false) = true := by rw [Try.underlying31]
theorem kLaw : KeyLaw Try.prog 31 := deep_law_laid kLaidOut (m := 2) (by omega) kRow (by kernel_rfl) kWide
theorem kFormed (k : Key) : (.agg #[.int .i64 k.due, .int .i64 k.task, .int .i64 k.n] : Value).formed Try.prog 31 = true := by simp [Value.formed, Try.underlying31, kCells]
theorem zeroI (w : World) : (zeroValue 3).run Try.prog w = .ok (.int .i64 0) w := by kernel_rfl
theorem keyReads {H : Type} (enc : TypeId × Value → H) (k : Key) (h : Wf k) (W' : World) (base : Nat) (sp : Nat → Bool) (held : Bool) : DataW.Trod enc Try.prog W' base sp held 31 (.agg #[.int .i64 k.due, .int .i64 k.task, .int .i64 k.n]) (.agg [.lit (.int .i64 k.due), .lit (.int .i64 k.task), .lit (.int .i64 k.n)]) [] := ⟨2, by
  obtain ⟨wa, wb, wc⟩ := h
  have f0 : DataW.trod enc Try.prog W' base sp held 1 2 [.int .i64 k.due] = some (.lit (.int .i64 k.due), []) := by simp [DataW.trod, Try.underlying2, wa]
  have f1 : DataW.trod enc Try.prog W' base sp held 1 3 [.int .i64 k.task] = some (.lit (.int .i64 k.task), []) := by simp [DataW.trod, Try.underlying3, wb]
  have f2 : DataW.trod enc Try.prog W' base sp held 1 2 [.int .i64 k.n] = some (.lit (.int .i64 k.n), []) := by simp [DataW.trod, Try.underlying2, wc]
  have := trod_struct3_mk (enc := enc) (w := W') (base := base) (spare := sp) (held := held) (n := 1) (cs := [.int .i64 k.due, .int .i64 k.task, .int .i64 k.n]) Try.underlying31 (by simp [kCells]) (by simpa [kCells2, kCells3] using f0) (by simpa [kCells2, kCells3] using f1) (by simpa [kCells2, kCells3] using f2)
  simpa [Value.cells] using this⟩
theorem keyK (w : World) (k : Key) (h : Wf k) : ∃ kl, keyOf Try.prog 31 (.agg #[.int .i64 k.due, .int .i64 k.task, .int .i64 k.n]) = some kl :=
  ⟨_, (keyOf_asKey kDeep kWide (kFormed k) (keyReads (H := Unit) (fun _ => ()) k h w 0 (fun _ => true) true)).1⟩
theorem kv_inj {a b : Key} (h : (.agg #[.int .i64 a.due, .int .i64 a.task, .int .i64 a.n]) = (.agg #[.int .i64 b.due, .int .i64 b.task, .int .i64 b.n] : Value)) : a = b := by
  cases a; cases b; simp at h; simp [h]
/-- Block B is a map of at most n entries in which key k's number is f k (0 where there is none). -/
def Cnt (w : World) (B n : Nat) (f : Key → Int) : Prop :=
  ∃ D : DataW Unit, w.ownsMap Try.prog 31 (plainElem Try.prog 3) B n D ∧ ∀ k kl, keyOf Try.prog 31 (.agg #[.int .i64 k.due, .int .i64 k.task, .int .i64 k.n]) = some kl → D.atKey kl (.lit (.int .i64 0)) = .lit (.int .i64 (f k))
theorem cnt_made (w : World) : Cnt (w.alloc (.map #[] 0)) w.heap.size 0 (fun _ => 0) :=
  ⟨.map [], World.ownsMap_made _ _ _ _, fun _ _ _ => rfl⟩
theorem Cnt.kept {w w' : World} {B n : Nat} {f : Key → Int} {Fp : Nat → Prop} (h : Cnt w B n f) (hf : Fr Fp w w') (hn : ¬ Fp B) : Cnt w' B n f := by
  obtain ⟨D, hD, ha⟩ := h
  have hlt := hD.lt
  obtain ⟨es, clock, hb, F, hs, hE⟩ := hD
  exact ⟨D, ⟨es, clock, (hf.block B hlt hn).trans hb, F, hs, hE⟩, ha⟩
theorem Cnt.lt {w : World} {B n : Nat} {f : Key → Int} (h : Cnt w B n f) : B < w.heap.size := by
  obtain ⟨D, hD, ha⟩ := h
  exact hD.lt
theorem cnt_look {w : World} {B n : Nat} {f : Key → Int} (h : Cnt w B n f) (k : Key) (hk : Wf k) : (Instr.lookup 28 (.map (some B)) (.agg #[.int .i64 k.due, .int .i64 k.task, .int .i64 k.n]) false).run Try.prog w = .ok (.int .i64 (f k)) w := by
  obtain ⟨D, hD, ha⟩ := h
  obtain ⟨kl, hkl⟩ := keyK w k hk
  obtain ⟨c, hrun, hat, _⟩ := hD.lookup_int (Maps.Keyed.of_law kLaw) Try.underlying28 Try.underlying3 (zeroI _) hkl
  have := ha k kl hkl
  rw [hat] at this
  simp at this
  rw [hrun, this]
theorem cnt_entry {w : World} {B n : Nat} {f : Key → Int} (h : Cnt w B n f) (k : Key) (hk : Wf k) (hn : n < maxLen) :
    ∃ (v0 : Value) (st : Nat) (w1 : World), (Instr.mapEntry 28 (.map (some B)) (.agg #[.int .i64 k.due, .int .i64 k.task, .int .i64 k.n])).run Try.prog w = .ok (.tuple #[v0, .int .i64 st]) w1 ∧ Cnt w1 B (n + 1) f ∧
      ∀ c : Int, (Lit.int .i64 c).wf = true → ∃ w2, (Instr.entryStore 28 (.map (some B)) (.int .i64 st) (.int .i64 c)).run Try.prog w1 = .ok () w2 ∧
        Cnt w2 B (n + 1) (fun k' => if k' = k then c else f k') ∧ Fr (fun j => j = B) w w2 := by
  obtain ⟨D, hD, ha⟩ := h
  obtain ⟨kl, hkl⟩ := keyK w k hk
  obtain ⟨es, clock, hb, F, hs, hE⟩ := id hD
  obtain ⟨v0, st, es1, clock1, r1, _, r2⟩ := WideElems.entry_then_store kLaw Try.underlying28 (z := .int .i64 0) zeroI hb F hkl
  refine ⟨v0, st, _, r1, ?_, fun c hc => ?_⟩
  · rcases kLaw.find w hkl es.toList F.keys with ⟨h1, h2⟩ | ⟨j, e0, h1, h2, h3⟩
    · obtain ⟨w', r5, hown, hgr⟩ := hD.update (Maps.Keyed.of_law kLaw) Try.underlying28 hn hkl (plainElem_int Try.underlying3 (a := 0) (by decide))
      have e1 : (Instr.mapEntry 28 (.map (some B)) (.agg #[.int .i64 k.due, .int .i64 k.task, .int .i64 k.n])).run Try.prog w = .ok (.tuple #[.int .i64 0, goInt clock]) (ChangeMaps.setBlock w B (.map (es.push ⟨.agg #[.int .i64 k.due, .int .i64 k.task, .int .i64 k.n], .int .i64 0, clock⟩) (clock + 1))) := by
        simp [Instr.mapEntry, run_underlying Try.underlying28, MapKept.run_getObj_map hb, kLaw.check w false hkl, h1, zeroI, MapKept.run_setObj_map _ hb, Result.andThen, ChangeMaps.setBlock]
      have e2 : (Instr.mapUpdate 28 (.map (some B)) (.agg #[.int .i64 k.due, .int .i64 k.task, .int .i64 k.n]) (.int .i64 0)).run Try.prog w = .ok () (ChangeMaps.setBlock w B (.map (es.push ⟨.agg #[.int .i64 k.due, .int .i64 k.task, .int .i64 k.n], .int .i64 0, clock⟩) (clock + 1))) := by
        simp [Instr.mapUpdate, run_underlying Try.underlying28, MapKept.run_getObj_map hb, kLaw.check w false hkl, h1, MapKept.run_setObj_map _ hb, Result.andThen, ChangeMaps.setBlock]
      rw [e1] at r1
      rw [e2] at r5
      simp only [Result.ok.injEq] at r1 r5
      rw [← r1.2, r5.2]
      have hfk : f k = 0 := by
        have h3 := cnt_look ⟨D, hD, ha⟩ k hk
        have e3 : (Instr.lookup 28 (.map (some B)) (.agg #[.int .i64 k.due, .int .i64 k.task, .int .i64 k.n]) false).run Try.prog w = .ok (.int .i64 0) w := by
          simp [Instr.lookup, run_underlying Try.underlying28, MapKept.run_getObj_map hb, kLaw.check w _ hkl, h1, zeroI, Result.andThen]
        rw [e3] at h3
        simp at h3
        exact h3.symm
      refine ⟨D.put kl (.lit (.int .i64 0)), hown, fun k' kl' hk' => ?_⟩
      by_cases e : k' = k
      · subst e
        have : kl' = kl := Option.some.inj (hk'.symm.trans hkl)
        subst this
        rw [hfk]
        exact Maps.atKey_put_same ⟨_, hE⟩ ((Maps.Keyed.of_law kLaw).key hk') _ _
      · have hne : kl' ≠ kl := fun he => e (kv_inj (kLaw.inj hk' (hkl.trans (by rw [he]))))
        rw [Maps.atKey_put_other hne]
        exact ha k' kl' hk'
    · have hj : es[j]? = some e0 := by simpa using h2
      have hsame : es.modify j (fun e => { e with key := .agg #[.int .i64 k.due, .int .i64 k.task, .int .i64 k.n] }) = es := by
        apply Array.ext'
        rw [Array.toList_modify, ChangeMaps.modify_eq_set _ _ _ _ h2]
        have : ({ e0 with key := .agg #[.int .i64 k.due, .int .i64 k.task, .int .i64 k.n] } : MapEntry) = e0 := by rw [← h3]
        rw [this]
        exact WideElems.set_self _ _ _ h2
      have e1 : (Instr.mapEntry 28 (.map (some B)) (.agg #[.int .i64 k.due, .int .i64 k.task, .int .i64 k.n])).run Try.prog w = .ok (.tuple #[e0.val, goInt e0.born]) (ChangeMaps.setBlock w B (.map es clock)) := by
        simp [Instr.mapEntry, run_underlying Try.underlying28, MapKept.run_getObj_map hb, kLaw.check w false hkl, h1, hj, h3, kLaw.stays w hkl, hsame, MapKept.run_setObj_map _ hb, Result.andThen, ChangeMaps.setBlock]
      rw [e1] at r1
      simp only [Result.ok.injEq] at r1
      rw [← r1.2]
      exact ⟨D, (World.ownsMap.mono ⟨es, clock, ChangeMaps.heap_setBlock_same hb _, F, hs, hE⟩ (by omega)), ha⟩
  obtain ⟨es', clock', r3, r4⟩ := r2 (ChangeMaps.setBlock w B (.map es1 clock1)) (.int .i64 c) (ChangeMaps.heap_setBlock_same hb _)
  obtain ⟨w', r5, hown, hgr⟩ := hD.update (Maps.Keyed.of_law kLaw) Try.underlying28 hn hkl (plainElem_int Try.underlying3 hc)
  rw [r4] at r5
  simp at r5
  subst r5
  refine ⟨_, r3, ⟨D.put kl (.lit (.int .i64 c)), ?_, fun k' kl' hk' => ?_⟩, ?_⟩
  · refine hown.kept (row := none) ⟨rfl, rfl, rfl, ?_, fun i hi _ => ?_⟩ (by simp)
    · simp [ChangeMaps.setBlock]
    · simp only [ChangeMaps.setBlock, Array.getElem?_setIfInBounds]
      simp
      split <;> rfl
  · show _ = DataW.lit (.int .i64 (if k' = k then c else f k'))
    by_cases e : k' = k
    · subst e
      rw [if_pos rfl]
      have : kl' = kl := Option.some.inj (hk'.symm.trans hkl)
      subst this
      exact Maps.atKey_put_same ⟨_, hE⟩ ((Maps.Keyed.of_law kLaw).key hk') _ _
    · rw [if_neg e]
      have hne : kl' ≠ kl := fun he => e (kv_inj (kLaw.inj hk' (hkl.trans (by rw [he]))))
      rw [Maps.atKey_put_other hne]
      exact ha k' kl' hk'
  · refine ⟨rfl, rfl, rfl, ?_, fun i hi hne => ?_⟩
    · simp [ChangeMaps.setBlock]
    · simp only [ChangeMaps.setBlock, Array.getElem?_setIfInBounds]
      rw [if_neg (by omega), if_neg (by omega)]
end Go.Proofs.Ytbplaiooipldlaa
