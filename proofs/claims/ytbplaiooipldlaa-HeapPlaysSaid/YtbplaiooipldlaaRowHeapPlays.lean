/-
  The Go function carillonlaw25.HeapPlays returns true at every bound and every script (which job is first, whatever is put and taken, and that all stand in a row as they must), and its arguments read as before.
  Conditions: none beyond the row's own.
-/
import Derived.Test.YtbplaiooipldlaaAr
import Derived.Test.YtbplaiooipldlaaPl
import Derived.ProofKit
import Derived.OpenShut
set_option linter.unusedVariables false
set_option linter.unusedSimpArgs false
namespace Go.Proofs.Ytbplaiooipldlaa.heapPlays
open Go.ChangeShapes Go.WideShapes Go.ChangeAt Go.RowKit Go.Deep Hp
theorem own : ownKnob Try.prog.godebug = none := by kernel_rfl
theorem sCells : Try.prog.cellsOf 42 = 4 := by kernel_rfl
theorem bCells : Try.prog.cellsOf 4 = 1 := by kernel_rfl
theorem step_of {H : Type} {enc : TypeId × Value → H} {w : World} {base : Nat} {sp : Nat → Bool} {held : Bool} {n : Nat} {cs : List Value} {x : DataW H × List MemPlace} (h : DataW.trod enc Try.prog w base sp held n 42 cs = some x) :
    ∃ s : Step, cs = kv s.k ++ [.bool s.takes] := by
  obtain ⟨xs, m, _, _, hl, hlen, hf⟩ := DataW.trod_struct Try.underlying42 h
  rw [sCells] at hl
  have h0 := hf 0 _ rfl
  have h1 := hf 1 _ rfl
  have hlen' : xs.length = 2 := hlen
  obtain ⟨x0, x1, rfl⟩ : ∃ a b, xs = [a, b] := by
    match xs, hlen' with
    | [a, b], _ => exact ⟨a, b, rfl⟩
  obtain ⟨k, hk, _⟩ := key_of h0
  obtain ⟨b, hb, _⟩ := DataW.trod_bool Try.underlying4 h1
  have hk' : cs.take 3 = kv k := by
    have h : (cs.drop 0).take (Try.prog.cellsOf 31) = kv k := hk
    rw [kCells, List.drop_zero] at h
    exact h
  have hb' : (cs.drop 3).take 1 = [.bool b] := by
    have h : (cs.drop 3).take (Try.prog.cellsOf 4) = [.bool b] := hb
    rw [bCells] at h
    exact h
  refine ⟨⟨k, b⟩, ?_⟩
  have e : cs = cs.take 3 ++ (cs.drop 3).take 1 := by
    rw [List.take_of_length_le (l := cs.drop 3) (by simp [hl]), List.take_append_drop]
  rw [e, hk', hb']
theorem steps_of {H : Type} {enc : TypeId × Value → H} {W : World} {sp : Nat → Bool} {held : Bool} {p : Option Addr} {len cap : Nat} {d : DataW H} {ps : List MemPlace} (h : DataW.Trod enc Try.prog W 0 sp held 37 (.slice p len cap) d ps) (h0 : 0 < len) :
    ∃ (ab ao : Nat) (l : List Step), p = some ⟨ab, ao, none⟩ ∧ ab < W.heap.size ∧ SrcS W ab ao l ∧ l.length = len := by
  obtain ⟨fuel, hf⟩ := h
  rcases open_slice Try.underlying37 hf with ⟨hcs, _⟩ | ⟨a, len', cap', m, n, D, Pl, hcs, hb, hl, hm, hmm, hx, hi⟩
  · simp [Value.cells] at hcs
    omega
  · simp [Value.cells] at hcs
    obtain ⟨rfl, rfl, rfl⟩ := hcs
    have hlm : len ≤ m := by
      subst hmm
      split <;> omega
    have key : ∀ i, i < len → ∃ k : Step, (∀ j, j < 4 → W.cell? (a.add (i * 4 + j)) = (kv k.k ++ [.bool k.takes])[j]?) := by
      intro i hil
      obtain ⟨cs', hc, ht⟩ := hi i (by omega)
      rw [sCells] at hc
      obtain ⟨k, rfl⟩ := step_of ht
      obtain ⟨_, _, hat⟩ := World.cells?_some hc
      exact ⟨k, fun j hj => by rw [← add_add]; exact hat j hj⟩
    have hspot : a.spot = none := by
      obtain ⟨k, hk⟩ := key 0 h0
      have h1 := hk 0 (by omega)
      simp only [Nat.zero_mul, Nat.zero_add, Addr.add, if_pos] at h1
      unfold World.cell? at h1
      split at h1
      · split at h1
        · simp [kv] at h1
        · rename_i hs; cases hq : a.spot with
          | none => rfl
          | some s => rw [hq] at hs; simp at hs
      · simp [kv] at h1
    obtain ⟨ab, ao, asp⟩ := a
    obtain rfl : asp = none := hspot
    let f : Nat → Step := fun i => if h : i < len then Classical.choose (key i h) else ⟨zero, false⟩
    have hfl : ∀ i, i < len → stepAt ((List.range len).map f) i = f i := by
      intro i hi
      simp [stepAt, hi]
    refine ⟨ab, ao, (List.range len).map f, rfl, ?_, ?_, by simp⟩
    · obtain ⟨k, hk⟩ := key 0 h0
      have h1 := hk 0 (by omega)
      simp only [Nat.zero_mul, Nat.zero_add, Addr.add, if_pos] at h1
      exact World.block_lt_of_cell? W ⟨ab, ao, none⟩ (h1.trans (by simp [kv]; rfl))
    · intro i hi
      simp only [List.length_map, List.length_range] at hi
      rw [hfl i hi]
      have hk := (Classical.choose_spec (key i hi))
      have hfi : f i = Classical.choose (key i hi) := by simp only [f, dif_pos hi]
      rw [← hfi] at hk
      have ha : ∀ j, j < 4 → W.cell? ⟨ab, ao + i * 4 + j, none⟩ = (kv (f i).k ++ [.bool (f i).takes])[j]? := by
        intro j hj
        rw [← hk j hj]
        unfold Addr.add
        split
        · rename_i hz
          rw [show ao + i * 4 + j = ao by omega]
        · rw [Nat.add_assoc]
      exact ⟨ha 0 (by omega), ha 1 (by omega), ha 2 (by omega), ha 3 (by omega)⟩
set_option maxRecDepth 100000 in
theorem lifted (os : Os) (started : os.Started) (H : Type) (enc : TypeId × Value → H) :
    ReturnsInHanded {} Try.checked os 4 .any (Rows.heapPlaysSpec.pre6 enc Try.prog Try.f4 Rows.heapPlaysRow.domain false) (Rows.heapPlaysSpec.post enc Try.prog Try.f4 false true false false) := by
  refine returnsInHanded_of_change (C := Try.checked) own started (by kernel_rfl) Try.func4
    (ChangeSpec.witness6 (enc := enc) (C := Try.checked) false ⟨#[], #[.int .i64 0, .slice none 0 0], []⟩ 8 (by kernel_rfl) (by kernel_rfl) (by kernel_rfl) (by kernel_rfl)) ?_
  intro W base args ds gs before hval0 hW hcnd _
  have hval : ∀ (j : Nat) t v, Try.f4.params[j]? = some t → args[j]? = some v → Value.okWide Try.prog W .any base t v := hval0
  have hW' := hW
  obtain ⟨p, q, hA0, hV, rfl, hfz, hnd⟩ := hW
  have hA : DataW.TrodAll enc Try.prog W 0 (fun _ => true) true Try.f4.params.toList args.toList ds p := hA0
  rw [Try.params4] at hA hval
  obtain ⟨v0, vs0, d0, ds0, p0, q0, hargs, rfl, rfl, h0, r0⟩ := trodAll_cons hA
  obtain ⟨v1, vs1, d1, ds1, p1, q1, rfl, rfl, rfl, h1, r1⟩ := trodAll_cons r0
  obtain ⟨rfl, rfl, rfl⟩ := trodAll_nil r1
  obtain rfl : args = #[v0, v1] := by cases args; simp_all
  obtain ⟨rfl, rfl⟩ := trodVars_none hV
  obtain ⟨most, rfl, rfl, rfl, wm⟩ := open_int Try.underlying3 (hval 0 3 v0 rfl rfl) h0
  obtain ⟨a1, sn, sc, rfl⟩ := okWide_slice Try.underlying37 (hval 1 37 v1 rfl rfl)
  clear hA0 hval0
  simp only [List.append_nil, List.nil_append] at hW'
  have hlt : ∀ x ∈ p1, x.block < W.heap.size := fun x hx => by simpa using hW'.lt x hx
  have hargs : ∀ (W' : World), Below W.heap.size W W' → DataW.TrodAll enc Try.prog W' 0 (fun b => decide (b < W.heap.size)) true [3, 37] [.int .i64 most, .slice a1 sn sc] [.lit (.int .i64 most), d1] p1 :=
    fun W' hn => by simpa using trodAll_cons_mk (shut_int Try.underlying3 wm) (trodAll_cons_mk (Below.trod kLaidOut (by kernel_rfl) (of_decide_eq_true (by kernel_rfl)) h1 hn hlt) trodAll_mk0)
  have fin : Calls Try.prog 4 #[.int .i64 most, .slice a1 sn sc] W fun e w' => e = .returned (.bool true) ∧ Below W.heap.size W w' := by
    by_cases hn : 300 < sn
    · exact HeapPlays_out most a1 sn sc W hn
    · by_cases hm : 1 ≤ most ∧ most ≤ 4096
      · exact HeapPlays_ok most a1 sn sc W (by omega) hm.1 hm.2 (fun h => steps_of h1 h)
      · exact HeapPlays_bad most a1 sn sc W (by omega) hm
  refine fin.mono fun e W' ⟨he, hg⟩ => ?_
  subst he
  exact ⟨_, rfl, _, _, _, [], p1, [], hW', trodAll_cons_mk (shut_bool Try.underlying4 _) trodAll_mk0, hargs _ hg, rfl, hg.frame _, fun h => by cases h⟩
theorem over : Rows.heapPlaysRow.holds Try.pinned (OpenSpec.ofChange Rows.heapPlaysSpec) :=
  OpenClaim.holds_of_wide 4 Try.f4 rfl rfl rfl rfl rfl rfl rfl ⟨rfl, rfl, rfl, rfl, rfl⟩ rfl rfl rfl rfl rfl (by kernel_rfl) Try.func4 (by kernel_rfl)
    (of_decide_eq_true (by kernel_rfl)) (by unfold Func.isWrapper; first | (rw [if_pos (by decide +kernel)]; kernel_rfl) | (rw [if_neg (by decide +kernel)]; exact ⟨rfl, rfl⟩))
    (fun os started H enc _ => lifted os started H enc)
theorem proved : Rows.HeapPlaysSaid := over
#print axioms proved
end Go.Proofs.Ytbplaiooipldlaa.heapPlays
