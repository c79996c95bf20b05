/-
  words.all and words.Bounds: contracts.
  Conditions: the rows lie in memory; at most ten thousand numbers.
-/
import Derived.Test.YtpcnapmlmhhcpaaGg
import Derived.WalkKit
import Derived.WalkSpells
import Derived.WalkLawsBesides
import Derived.Deep.QuietTactic
import Derived.BigQuiet
import Derived.Lib.Hide
import Derived.Handy
import Derived.BigRegion
import Derived.Deep.DeepCutAuto
import Derived.Deep.RegionHeld3
import Derived.Deep.RegionLaw
import Derived.LoopIn
import Derived.LoopNIn
import Derived.OwnWalkIn
import Derived.RangeFuncBound
import Derived.RangeFuncBox
import Derived.RangeFuncCalls
import Derived.RangeFuncLeaves
import Derived.RangeFuncNested
import Derived.Shelf.Abstract
import Derived.Sort.CutIn
import Derived.Sort.QuietIn
import Derived.Sort.LoopGhostIn
import Derived.TacticsInMore
set_option linter.unusedVariables false
set_option linter.unusedSimpArgs false
namespace Go.Proofs.Ytpcnapmlmhhcpaa
open Go.RowKit 
open Big
attribute [local go_sem] Oper.semAt_some

theorem num_loop (h l : List Int) (t k : Nat) (hk : k < l.length) : Go.Proofs.Ytpcnapmlmhhcpaa.num h l (h.length + t * l.length + k) = at_ l k := by
  unfold Go.Proofs.Ytpcnapmlmhhcpaa.num
  rw [if_neg (by omega), show h.length + t * l.length + k - h.length = k + t * l.length by omega, Nat.add_mul_mod_self_right, Nat.mod_eq_of_lt hk]
theorem RowAt.cell {w : World} {p : Option Addr} {n cap : Nat} {xs : List Int} (h : RowAt w (.slice p n cap) xs) (hn : n = xs.length) {k : Nat} (hk : k < n) : ∃ g o, p = some ⟨g, o, none⟩ ∧ w.cell? ⟨g, o + k, none⟩ = some (.int .i64 (at_ xs k)) := by
  obtain ⟨p', cap', e1, e2, e3, e4, e5⟩ := h
  cases e1
  obtain ⟨g, o, hp, hg, hi⟩ := e5 (by omega)
  exact ⟨g, o, hp, hi k (by omega)⟩
/-- words.all's rounds: each number in turn, head and loop, and the loop again; it ends when a round says so. -/
theorem all_ends (F : Fence) (n : Nat) (hf : F.fn 64) (hro : F.round = none) (hn : 1 ≤ n) (lp Bd n₀ M : Nat) (A0 A1 : Option Addr) (p q c0 c1 : Nat) (h l : List Int) (hp : p = h.length) (hq : q = l.length) (hq0 : 0 < q) (hpb : p ≤ 10000) (hqb : q ≤ 10000) (w0 : World) (J : Nat → World → Prop) (Jx : World → Prop) (W : World)
    (hJ : ∀ k W1, J k W1 → k ≤ M ∧ W1.heap[Bd]? = some (.cells #[.slice A0 p c0, .slice A1 q c1] 24) ∧ Below n₀ w0 W1)
    (R1 : ∀ W1, Below n₀ w0 W1 → RowAt W1 (.slice A0 p c0) h) (R2 : ∀ W1, Below n₀ w0 W1 → RowAt W1 (.slice A1 q c1) l)
    (hY : ∀ k W1, J k W1 → YieldAt F (n - 1) Try.prog lp #[.int .i64 (Go.Proofs.Ytpcnapmlmhhcpaa.num h l k)] W1 fun e W' => (e = .returned (.bool true) ∧ J (k + 1) W') ∨ (e = .returned (.bool false) ∧ Jx W'))
    (h0 : J 0 W) :
    CallsIn F n Try.prog 64 #[.func (.yield lp) #[] #[], .pointer (some ⟨Bd, 0, none⟩)] W fun e W' => (∃ v, e = .returned v) ∧ Jx W' := by
  have HJ := Lib.hid hJ
  have HR1 := Lib.hid R1
  have HR2 := Lib.hid R2
  have HY := Lib.hid hY
  have HP := Lib.hid hp
  have HQ := Lib.hid hq
  have H0 := Lib.hid h0
  obtain ⟨_, j1, j2⟩ := hJ 0 W h0
  obtain ⟨x0, x1⟩ := cell_of j1
  clear hJ R1 R2 hY hp hq h0 j1 j2
  refine callsIn_of_wp Try.func64 rfl hf ?_ hro
  simp only [Try.ntmps64, List.size_toArray, List.length_cons, List.length_nil, Nat.reduceAdd, Nat.reduceSub, Array.replicate_succ, Array.replicate_zero, List.push_toArray, List.append_toArray, List.nil_append, List.cons_append]
  gi_wp2
  clear x0 x1
  gi_loopw [10] (fun i wr => ∃ (k : Nat) (V : World), i = .int .i64 (k : Int) ∧ k ≤ p ∧ V = wr ∧ Hid (J k V)) (fun i _ => p - (intOf i).toNat)
  case atStart => exact ⟨0, _, rfl, Nat.zero_le _, rfl, H0⟩
  case round =>
  obtain ⟨k, V, rfl, hk, rfl, hj⟩ := hrel
  obtain ⟨hM, j1, j2⟩ := HJ.out _ _ hj.out
  by_cases hlt : k < p
  · obtain ⟨g, o, rfl, s1⟩ := RowAt.cell (HR1.out V j2) HP.out hlt
    have e1 : (k : Int) < p := by omega
    have e1' := decide_eq_true e1
    have e2 : (0 : Int) ≤ k := by omega
    have e3 : IntKind.i64.wrap ((k : Int) + 1) = (k : Int) + 1 := by rw [IntKind.wrap_i64]; omega
    obtain ⟨fn, tmps, assign, body, hy, hR⟩ := HY.out k V hj.out
    rw [show Go.Proofs.Ytpcnapmlmhhcpaa.num h l k = at_ h k from num_head k (by rw [← HP.out]; exact hlt)] at hy
    generalize at_ h k = xv at *
    clear j1 j2 hj HR1 HR2 HJ H0
    gi_wp2
    refine hR.mono ?_
    rintro e W3 (⟨rfl, hJ3⟩ | ⟨rfl, hJx3⟩)
    · have HJ3 := Lib.hid hJ3
      clear hJ3 hR hy
      gi_wp2
      go_roundw
      case rel => exact ⟨k + 1, _, by go_num, by omega, rfl, HJ3⟩
      case measure =>
        simp only [intOf, Int.toNat_natCast]
        omega
    · have HJX := Lib.hid hJx3
      clear hJx3 hR hy
      gi_wp2
      refine bodyPost_ret (results_none rfl _ _ _) rfl ?_
      exact ⟨⟨_, rfl⟩, HJX.out⟩
  · have hkp : k = p := by omega
    subst hkp
    have e1 : ¬ ((k : Int) < k) := by omega
    have e1' := decide_eq_false e1
    clear j1 j2 hk hlt
    gi_wp2
    clear e1 e1'
    gi_loopg [] (M + 1) (fun g wr => ∃ (t : Nat) (V : World), V = wr ∧ M + 1 ≤ k + t * q + g ∧ Hid (J (k + t * q) V))
    case atStart => exact ⟨0, _, rfl, by omega, by rw [Nat.zero_mul, Nat.add_zero]; exact hj⟩
    case round =>
    clear hj hM
    obtain ⟨t, V, rfl, hg, hj⟩ := hrel
    obtain ⟨hM, j1, j2⟩ := HJ.out _ _ hj.out
    obtain ⟨x0, x1⟩ := cell_of j1
    clear j1 j2
    gi_wp2
    clear x0 x1
    gi_loopw [22] (fun i wr => ∃ (j : Nat) (V : World), i = .int .i64 (j : Int) ∧ j ≤ q ∧ V = wr ∧ Hid (J (k + t * q + j) V)) (fun i _ => q - (intOf i).toNat)
    case atStart => exact ⟨0, _, rfl, Nat.zero_le _, rfl, hj⟩
    case round =>
    clear hj
    obtain ⟨j, V, rfl, hjq, rfl, hj⟩ := hrel
    obtain ⟨hM2, j1, j2⟩ := HJ.out _ _ hj.out
    by_cases hlt : j < q
    · obtain ⟨g, o, rfl, s1⟩ := RowAt.cell (HR2.out V j2) HQ.out hlt
      have e1 : (j : Int) < q := by omega
      have e1' := decide_eq_true e1
      have e2 : (0 : Int) ≤ j := by omega
      have e3 : IntKind.i64.wrap ((j : Int) + 1) = (j : Int) + 1 := by rw [IntKind.wrap_i64]; omega
      obtain ⟨fn, tmps, assign, body, hy, hR⟩ := HY.out _ V hj.out
      rw [show Go.Proofs.Ytpcnapmlmhhcpaa.num h l (k + t * q + j) = at_ l j by rw [HP.out, HQ.out]; exact num_loop h l t j (by rw [← HQ.out]; exact hlt)] at hy
      generalize at_ l j = xv at *
      clear j1 j2 hj HR1 HR2 HJ H0
      gi_wp2
      refine hR.mono ?_
      rintro e W3 (⟨rfl, hJ3⟩ | ⟨rfl, hJx3⟩)
      · have HJ3 : Hid (J (k + t * q + (j + 1)) W3) := Lib.hid hJ3
        clear hJ3 hR hy
        gi_wp2
        go_roundw
        case rel => exact ⟨j + 1, _, by go_num, by omega, rfl, HJ3⟩
        case measure =>
          simp only [intOf, Int.toNat_natCast]
          omega
      · have HJX := Lib.hid hJx3
        clear hJx3 hR hy
        gi_wp2
        refine bodyPost_ret (results_none rfl _ _ _) rfl ?_
        exact ⟨⟨_, rfl⟩, HJX.out⟩
    · have hjq2 : j = q := by omega
      have e1 : ¬ ((j : Int) < q) := by omega
      have e1' := decide_eq_false e1
      have HJ2 : Hid (J (k + (t + 1) * q) V) := Lib.hid (by rw [Nat.add_mul, Nat.one_mul, ← Nat.add_assoc]; rw [hjq2] at hj; exact hj.out)
      have hgk : M + 1 ≤ k + (t + 1) * q + (gk - 1) := by rw [Nat.add_mul, Nat.one_mul]; omega
      have hg0 : 0 < gk := by omega
      clear j1 j2 hj hjq2 hM hg
      gi_wp2
      go_roundg (gk - 1)
      case measure => omega
      case rel => exact ⟨t + 1, _, rfl, hgk, HJ2⟩

/-- A loop's record, by its state and its jump. -/
def lrec (fn : FuncId) (tmps : Array Value) (ps : Array Tmp) (assign body : Code) (D : Nat) (st : LoopState) (pe : Option Code) : Loop := { state := st, pending := pe, fn := fn, tmps := tmps, params := ps, assign := assign, body := body, defers := D }
/-- How a round may be left: it goes on, or by the exit. -/
def roundEnds (B ex : Nat) (I : World → Prop) (Ix : World → Prop) (W : World) : Exit → Act → World → Prop
  | .normal, _, W' => KeepsFrom B W W' ∧ I W'
  | .exit id, _, W' => id = ex ∧ KeepsFrom B W W' ∧ Ix W'
  | _, _, _ => False
/-- An operation within a round, and outside one. -/
theorem upon_wide_r {P : Program} {l n : Nat} {o : Oper} {a : Act} {K K' : Act → World → Prop} {Q Q' : Exit → Act → World → Prop} (hK : ∀ a w, K a w → K' a w) (hQ : ∀ e a w, Q e a w → Q' e a w) (r : Result Next) (h : o.upon P a K Q r) : o.uponIn (Fence.wide.inRound l) n P a K' Q' r := by
  cases r with
  | ok x w' =>
    cases x with
    | value v => exact hK _ _ h
    | skip => exact hK _ _ h
    | defer d => exact hK _ _ h
    | enter f args =>
      refine ⟨(fun h => by cases h), CallsIn.inRound l (callsIn_wide.2 (Calls.mono h ?_))⟩
      rintro e w'' hh
      cases e with
      | returned v => exact hK _ _ hh
      | panicked c => exact hQ _ _ _ hh
      | outgrown => obtain ⟨b, v, hb⟩ := hh; exact ⟨b, v, hQ _ _ _ hb⟩
    | row row args =>
      refine ⟨(fun h => by cases h), fun c cs _ => ?_⟩
      obtain ⟨v, w'', hr, hs⟩ := h c cs
      exact ⟨v, w'', hK _ _ hr, stepsIn_wide.2 hs⟩
    | _ => exact h.elim
  | halt x w' =>
    cases x with
    | panic v => exact hQ _ _ _ h
    | _ => exact h.elim
theorem wpAnyIn_of_any_r {P : Program} {md : Region.Mode} {ops : Array Oper} {l n : Nat} {Q : Exit → Act → World → Prop} (hnd : ∀ (i : Nat) (o : Oper), ops[i]? = some o → ∀ c, o.op ≠ .defer c) : ∀ (fuel : Nat) (listed : Array Bool) (a : Act) (w : World),
    wpAny P md ops (fun e a w => e = .normal ∧ Q .normal a w) fuel listed a w → wpAnyIn (Fence.wide.inRound l) n P md ops Q fuel listed a w
  | 0, _, _, _, h => ⟨h.1, h.2.2⟩
  | fuel + 1, _, _, _, h => ⟨fun h0 => (h.1 h0).2, fun i hi => by
      have h2 := h.2 i hi
      unfold wpOp at h2
      unfold wpOpIn
      split
      · rename_i ho
        simp only [ho] at h2
        exact wpAnyIn_of_any_r hnd fuel _ _ _ h2
      · rename_i o ho
        simp only [ho] at h2
        split
        · rename_i hw
          simp only [hw, if_true] at h2
          rcases h2 with h2 | ⟨_, b, v, hb, _⟩
          · refine ⟨fun f _ => trivial, ?_⟩
            rw [Fence.inRound_round, Oper.semAt_some l _ _ (hnd i o ho)]
            exact upon_wide_r (fun a w => wpAnyIn_of_any_r hnd fuel _ a w) (fun e a w hq => by obtain ⟨rfl, hq⟩ := hq; exact hq) _ h2
          · cases hb
        · rename_i hw
          simp only [hw] at h2
          exact ⟨fun f _ => trivial, wpAnyIn_of_any_r hnd fuel _ _ _ h2⟩⟩
def noDefer (ls : List Oper) : Bool := ls.all fun o => match o.op with | .defer _ => false | _ => true
theorem noDefer_spec {ls : List Oper} (h : noDefer ls = true) (i : Nat) (o : Oper) (hi : ls.toArray[i]? = some o) : ∀ c, o.op ≠ .defer c := by
  intro c hc
  unfold noDefer at h
  rw [List.all_eq_true] at h
  have hm : o ∈ ls := by rw [List.getElem?_toArray] at hi; exact List.mem_of_getElem? hi
  have := h o hm
  rw [hc] at this
  cases this
/-- A region that draws its order, within a round: as outside one. -/
theorem region_r {P : Program} {l n : Nat} {id : Nat} {Q : Exit → Act → World → Prop} {a : Act} {w : World} {ls : List Oper} (hnd : noDefer ls = true) (hm : P.follows .mixedOrders = true)
    (h : wpAnyH P .any ls.toArray (fun e a w => e = .normal ∧ Q .normal a w) (fun _ => True) ls.toArray.size (Array.replicate ls.toArray.size false) a w.drew) : (Code.region id ls.toArray true).wpIn (Fence.wide.inRound l) n P Q a w :=
  wpIn_region_any hm (wpAnyIn_of_any_r (noDefer_spec hnd) _ _ _ _ (wpAny_of_held _ _ _ _ h))
/-- A range over a function that has no end of its own: the loop's body ends it. -/
theorem range_ends {F : Fence} {n : Nat} {g : Operand} {ps : Array Tmp} {assign body : Code} {Q : Exit → Act → World → Prop} {a : Act} {w : World} (hro : F.round = none) (h1 : 1 ≤ n) {gf : Nat} {lb : Array Value} (hg : a.eval g = .func (.func gf) #[] lb) (hFg : F.fn gf)
    (eg : ∀ args w, (callFunc gf args).run Try.prog w = .ok (.enter gf args) w) (encs : Nat → Array Value) (hps : ∀ k, (encs k).size = ps.size) (a₁ : Nat → Act) (I : Nat → World → Prop) (Ix : World → Prop) (ex : Nat)
    (hIp : ∀ k W l o o', I k W → w.heap.size ≤ l → W.heap[l]? = some o → o.isCells = false → I k (W.putObj l o'))
    (hXp : ∀ W l o o', Ix W → w.heap.size ≤ l → W.heap[l]? = some o → o.isCells = false → Ix (W.putObj l o'))
    (h0 : ∀ o1 o2, I 0 ((w.alloc o1).alloc o2))
    (hend : ∀ (l : Nat) (J : Nat → World → Prop) (Jx : World → Prop) (W : World), (∀ k W1, J k W1 → I k W1) →
      (∀ k W1, J k W1 → YieldAt F (n - 1 - 1) Try.prog l (encs k) W1 fun e W' => (e = .returned (.bool true) ∧ J (k + 1) W') ∨ (e = .returned (.bool false) ∧ Jx W')) → J 0 W →
      CallsIn F (n - 1) Try.prog gf (#[.func (.yield l) #[] #[]] ++ lb) W fun e W' => (∃ v, e = .returned v) ∧ Jx W')
    (hassign : ∀ l k W K, K (a₁ k) W → assign.wpIn (F.inRound l) (n - 1 - 1) Try.prog (Exit.then K (fun _ _ _ => False)) { tmps := (ps.zip (encs k)).foldl (fun t (p, v) => t.setIfInBounds p v) a.tmps, defers := [] } W)
    (hbody : ∀ l k W, I k W → body.wpIn (F.inRound l) (n - 1 - 1) Try.prog (roundEnds w.heap.size ex (I (k + 1)) Ix W) (a₁ k) W)
    (hstop : ∀ W, Ix W → W.heap[w.heap.size]? = some (.deferred (some [])) → (Code.exit ex).wpIn F n Try.prog Q { a with defers := { target := .collected w.heap.size, args := #[] } :: a.defers } W) :
    (Code.rangeFunc g ps assign body).wpIn F n Try.prog Q a w := by
  refine wpIn_rangeFunc fun fn hfn => ?_
  rw [hro]
  let R := lrec fn a.tmps ps assign body w.heap.size
  let V := (w.alloc (.deferred (some []))).alloc (.loop (R .ready none))
  have vL : V.heap[w.heap.size + 1]? = some (.loop (R .ready none)) := by
    have := World.alloc_heap_new (w.alloc (.deferred (some []))) (.loop (R .ready none))
    rwa [World.size_alloc] at this
  have vD : V.heap[w.heap.size]? = some (.deferred (some [])) := (Below.heap_alloc _ _ _ (by simp)).trans (World.alloc_heap_new w _)
  refine ⟨w.heap.size + 1, [{ target := .collected w.heap.size, args := #[] }], V, { target := .fn (.func gf) lb, args := #[.func (.yield (w.heap.size + 1)) #[] #[]] }, V, gf, #[.func (.yield (w.heap.size + 1)) #[] #[]] ++ lb, V, run_enterLoop_outer _ _ _ _ _, ?_, ?_, ?_, fun _ => h1, ?_⟩
  · simp only [resolve, hg]
    simp [go_sem]
  · intro f' hf'
    simp [Target.leads] at hf'
    subst hf'
    exact hFg
  · simp [invoke, go_sem, eg]
  refine (hend (w.heap.size + 1)
    (fun k W => I k W ∧ W.heap[w.heap.size + 1]? = some (.loop (R .ready none)) ∧ W.heap[w.heap.size]? = some (.deferred (some [])))
    (fun W => Ix W ∧ W.heap[w.heap.size + 1]? = some (.loop (R .done (some (.exit ex)))) ∧ W.heap[w.heap.size]? = some (.deferred (some []))) V (fun _ _ h => h.1) ?_ ⟨h0 _ _, vL, vD⟩).mono ?_
  · rintro k W ⟨hi, hl, hd⟩
    refine ⟨fn, _, assign, body, run_yield hl (hps k), roundIn_of_wpIn hfn (hassign _ k W _ ⟨_, run_beginRound hl rfl, ?_⟩)⟩
    have hlt := (Array.getElem?_eq_some_iff.1 hl).1
    have bL : (W.putObj (w.heap.size + 1) (.loop (R .busy none))).heap[w.heap.size + 1]? = some (.loop (R .busy none)) := World.putObj_heap_same hlt
    have bD : (W.putObj (w.heap.size + 1) (.loop (R .busy none))).heap[w.heap.size]? = some (.deferred (some [])) := (World.putObj_heap_other (by omega)).trans hd
    refine wpIn_mono (hbody (w.heap.size + 1) k _ (hIp _ _ _ _ (.loop (R .busy none)) hi (by omega) hl rfl)) ?_
    rintro e a3 W3 hp
    cases e with
    | normal =>
      obtain ⟨hk, hi3⟩ := hp
      have cL := hk.same _ _ (by omega) bL rfl
      have cD := hk.same _ _ (Nat.le_refl _) bD rfl
      exact ⟨_, _, run_endRound none cL, .inl ⟨rfl, hIp _ _ _ _ _ hi3 (by omega) cL rfl, World.putObj_heap_same (Array.getElem?_eq_some_iff.1 cL).1, (World.putObj_heap_other (by omega)).trans cD⟩⟩
    | exit id =>
      obtain ⟨rfl, hk, hi3⟩ := hp
      have cL := hk.same _ _ (by omega) bL rfl
      have cD := hk.same _ _ (Nat.le_refl _) bD rfl
      exact ⟨_, _, run_endRound (some (.exit id)) cL, .inr ⟨rfl, hXp _ _ _ _ hi3 (by omega) cL rfl, World.putObj_heap_same (Array.getElem?_eq_some_iff.1 cL).1, (World.putObj_heap_other (by omega)).trans cD⟩⟩
    | ret => exact hp.elim
    | goto t => exact hp.elim
    | panic ch => exact hp.elim
    | outgrown => exact hp.elim
  · rintro e W2 ⟨⟨v, rfl⟩, hi, hl, hd⟩
    exact ⟨some (.exit ex), _, run_endLoop hl (by intro h; cases h), hstop _ (hXp _ _ _ _ hi (by omega) hl rfl) ((World.putObj_heap_other (by omega)).trans hd)⟩

theorem one_of {W : World} {b : Nat} {v : Value} {t : TypeId} {fr : Nat × Nat} (h : W.heap[b]? = some (.cells #[v] t fr)) : W.cell? ⟨b, 0, none⟩ = some v := by simp [World.cell?, h]
theorem set_one {W : World} {b : Nat} {v : Value} {t : TypeId} (h : W.heap[b]? = some (.cells #[v] t)) (u : Value) : (W.setCell ⟨b, 0, none⟩ u).heap[b]? = some (.cells #[u] t) := by
  simp only [World.setCell, Array.getElem?_modify, if_pos, h]; rfl
theorem set_far {W : World} {b c i : Nat} {v : Value} (h : b ≠ c) : (W.setCell ⟨b, i, none⟩ v).heap[c]? = W.heap[c]? := by
  simp only [World.setCell, Array.getElem?_modify]
  rw [if_neg h]
theorem put_far {W : World} {b c : Nat} {o : Obj} (h : c ≠ b) : (W.putObj b o).heap[c]? = W.heap[c]? := World.putObj_heap_other h
/-- What holds when k numbers have come. -/
def BI (w : World) (S n B5 : Nat) (lo hi : Nat → Int) (A0 A1 : Option Addr) (p q c0 c1 : Nat) (k : Nat) (W : World) : Prop :=
  k ≤ n ∧ W.heap[B5 + 1]? = some (.cells #[.slice A0 p c0, .slice A1 q c1] 24) ∧ W.heap[w.heap.size + 1]? = some (.cells #[.int .i64 (lo k)] 2) ∧ W.heap[w.heap.size + 1 + 1]? = some (.cells #[.int .i64 (hi k)] 2) ∧ W.heap[B5]? = some (.cells #[.int .i64 (((n - k : Nat) : Int))] 3) ∧ Below w.heap.size w W ∧ S ≤ W.heap.size
/-- What holds when all have come. -/
def BX (w : World) (S n : Nat) (lo hi : Nat → Int) (W : World) : Prop :=
  W.heap[w.heap.size + 1]? = some (.cells #[.int .i64 (lo n)] 2) ∧ W.heap[w.heap.size + 1 + 1]? = some (.cells #[.int .i64 (hi n)] 2) ∧ Below w.heap.size w W ∧ S ≤ W.heap.size
theorem below_put {w W : World} {l : Nat} (h : Below w.heap.size w W) (hl : w.heap.size ≤ l) (o' : Obj) : Below w.heap.size w (W.putObj l o') :=
  h.grown (grownBy_putObj' W l o') h.size (fun k hk => by cases hk; exact hl)
theorem BI.put {w W : World} {S n B5 : Nat} {lo hi : Nat → Int} {A0 A1 : Option Addr} {p q c0 c1 k l : Nat} {o' : Obj} (h : BI w S n B5 lo hi A0 A1 p q c0 c1 k W) (hb : w.heap.size + 1 + 1 < B5) (hS : S = B5 + 1 + 1) (hl : S ≤ l) : BI w S n B5 lo hi A0 A1 p q c0 c1 k (W.putObj l o') := by
  obtain ⟨h1, h2, h3, h4, h5, h6, h7⟩ := h
  exact ⟨h1, (put_far (by omega)).trans h2, (put_far (by omega)).trans h3, (put_far (by omega)).trans h4, (put_far (by omega)).trans h5, below_put h6 (by omega) _, by simpa [World.putObj] using h7⟩
theorem BI.step {w W : World} {S n B5 : Nat} {lo hi : Nat → Int} {A0 A1 : Option Addr} {p q c0 c1 k : Nat} {r : Nat} {u1 u2 u5 : Int} (hk : k ≤ n) (hlt : k < n) (hr : n - (k + 1) = r) (n1 : ¬ (w.heap.size + 1 = B5)) (n2 : ¬ (w.heap.size + 1 + 1 = B5)) (hS : S = B5 + 1 + 1) (hs : S ≤ W.heap.size)
    (b0 : W.heap[B5 + 1]? = some (.cells #[.slice A0 p c0, .slice A1 q c1] 24)) (b1 : W.heap[w.heap.size + 1]? = some (.cells #[.int .i64 (u1)] 2)) (b2 : W.heap[w.heap.size + 1 + 1]? = some (.cells #[.int .i64 (u2)] 2)) (b5 : W.heap[B5]? = some (.cells #[.int .i64 (u5)] 3)) (hb : Below w.heap.size w W) (hb5 : w.heap.size + 1 + 1 < B5 := by assumption) :
    KeepsFrom S W ((((W.setCell ⟨w.heap.size + 1, 0, none⟩ (.int .i64 (lo (k + 1)))).setCell ⟨w.heap.size + 1 + 1, 0, none⟩ (.int .i64 (hi (k + 1)))).setCell ⟨B5, 0, none⟩ (.int .i64 (r : Int))).drew) ∧
      BI w S n B5 lo hi A0 A1 p q c0 c1 (k + 1) ((((W.setCell ⟨w.heap.size + 1, 0, none⟩ (.int .i64 (lo (k + 1)))).setCell ⟨w.heap.size + 1 + 1, 0, none⟩ (.int .i64 (hi (k + 1)))).setCell ⟨B5, 0, none⟩ (.int .i64 (r : Int))).drew) := by
  refine ⟨((((KeepsOthers.setCell _ _ _).trans (KeepsOthers.setCell _ _ _)).trans (KeepsOthers.setCell _ _ _)).trans (KeepsOthers.drew _)).from _, hlt, ?_, ?_, ?_, ?_, ?_, ?_⟩
  · show (((W.setCell _ _).setCell _ _).setCell _ _).heap[_]? = _
    rw [set_far (by omega), set_far (by omega), set_far (by omega)]; exact b0
  · show (((W.setCell _ _).setCell _ _).setCell _ _).heap[_]? = _
    rw [set_far (by omega), set_far (by omega)]; exact set_one b1 _
  · show (((W.setCell _ _).setCell _ _).setCell _ _).heap[_]? = _
    rw [set_far (by omega)]; exact set_one (by rw [set_far (by omega)]; exact b2) _
  · show (((W.setCell _ _).setCell _ _).setCell _ _).heap[_]? = _
    rw [hr]; exact set_one (by rw [set_far (by omega), set_far (by omega)]; exact b5) _
  · exact (((hb.setCell (Nat.le_succ _) _).setCell (Nat.le_trans (Nat.le_succ _) (Nat.le_succ _)) _).setCell (Nat.le_of_lt (Nat.lt_trans (Nat.lt_succ_self _) (Nat.lt_trans (Nat.lt_succ_self _) hb5))) _).drew
  · show S ≤ (((W.setCell _ _).setCell _ _).setCell _ _).heap.size
    rw [World.size_setCell, World.size_setCell, World.size_setCell]; exact hs
theorem BX.put {w W : World} {S n l : Nat} {lo hi : Nat → Int} {o' : Obj} (h : BX w S n lo hi W) (hS : w.heap.size + 1 + 1 < S) (hl : S ≤ l) : BX w S n lo hi (W.putObj l o') := by
  obtain ⟨h3, h4, h6, h7⟩ := h
  exact ⟨(put_far (by omega)).trans h3, (put_far (by omega)).trans h4, below_put h6 (by omega) _, by simpa [World.putObj] using h7⟩
set_option maxHeartbeats 1000000 in
theorem all_call (w : World) (v1 v2 : Value) : Calls Try.prog 48 #[.agg #[v1, v2]] w fun e w' => e = .returned (.func (.func 64) #[] #[.pointer (some ⟨w.heap.size, 0, none⟩)]) ∧ w.alloc (.cells #[v1, v2] 24) = w' := by
  go_enter Try.func48, Try.ntmps48
  go_wp2_with fail
  go_ret
  exact ⟨rfl, rfl⟩
attribute [local go_sem] min_ab max_ab
set_option maxRecDepth 100000 in
set_option maxHeartbeats 8000000 in
theorem bounds_call (w : World) (vh vl : Value) (h l : List Int) (x y : Int) (h1 : RowAt w vh h) (h2 : RowAt w vl l) (hm : may h l = true) (hx : loB h l (h.length + l.length) = x) (hy : hiB h l (h.length + l.length) = y) :
    Calls Try.prog 31 #[.agg #[vh, vl]] w fun e w' => e = .returned (.tuple #[.int .i64 x, .int .i64 y, .int .i64 0]) ∧ Below w.heap.size w w' := by
  obtain ⟨m1, m2, m3⟩ := may_len hm
  have H1 := Lib.hid h1
  have H2 := Lib.hid h2
  have HMay := Lib.hid hm
  obtain ⟨g, o, cl, rfl, rl, hg, hi⟩ := row_shape h2 m1
  obtain ⟨ph, ch, rfl, rh⟩ := h1
  have s0 := hi 0 m1
  rw [Nat.add_zero] at s0
  obtain ⟨p, hp⟩ : ∃ p, p = h.length := ⟨_, rfl⟩
  obtain ⟨q, hq⟩ : ∃ q, q = l.length := ⟨_, rfl⟩
  obtain ⟨n, hn⟩ : ∃ n, n = p + q := ⟨_, rfl⟩
  rw [← hp] at m3
  rw [← hq] at m1 m2
  have HX : Hid (loB h l n = x) := Lib.hid (by rw [hn, hp, hq]; exact hx)
  have HY : Hid (hiB h l n = y) := Lib.hid (by rw [hn, hp, hq]; exact hy)
  rw [← hp, ← hq]
  have R1 : Hid (RowAt w (.slice ph p ch) h) := Lib.hid (by rw [hp]; exact H1.out)
  obtain ⟨pl, hpl⟩ : ∃ pl, pl = some (⟨g, o, none⟩ : Addr) := ⟨_, rfl⟩
  have R2 : Hid (RowAt w (.slice (some ⟨g, o, none⟩) q cl) l) := Lib.hid (by rw [hq]; exact H2.out)
  have HP := Lib.hid hp
  have HQ := Lib.hid hq
  have e1 : ((p : Int) + (q : Int)) = (n : Int) := by omega
  have e2 : IntKind.i64.wrap ((p : Int) + (q : Int)) = (n : Int) := by rw [IntKind.wrap_i64]; omega
  have e3 : (0 : Int) < q := by omega
  have e5 : n ≤ 20000 := by omega
  have L0 : Hid (loB h l 0 = at_ l 0) := Lib.hid rfl
  have L1 : Hid (hiB h l 0 = at_ l 0) := Lib.hid rfl
  have LS : Hid (∀ k, loB h l (k + 1) = mnI (loB h l k) (Go.Proofs.Ytpcnapmlmhhcpaa.num h l k)) := Lib.hid (fun k => rfl)
  have LT : Hid (∀ k, hiB h l (k + 1) = mxI (hiB h l k) (Go.Proofs.Ytpcnapmlmhhcpaa.num h l k)) := Lib.hid (fun k => rfl)
  clear hp hq hn hx hy H1 H2 hi rh rl hm hpl
  generalize at_ l 0 = z0 at *
  refine callsIn_wide.1 (callsIn_of_wp_marks (F := Fence.wide) (n := 6) Try.func31 rfl trivial ?_ rfl)
  simp only [Try.ntmps31, List.size_toArray, List.length_cons, List.length_nil, Nat.reduceAdd, Nat.reduceSub, Array.replicate_succ, Array.replicate_zero, List.push_toArray, List.append_toArray, List.nil_append, List.cons_append]
  refine wpIn_wide.2 ?_
  go_wp2_with fail
  refine (may_any _ _ _ h l (R1.out.below (by repeat (first | (with_reducible exact Below.refl _ _) | (with_reducible assumption) | (with_reducible refine below_drewN ?_ _) | (with_reducible refine Below.drew ?_) | (with_reducible refine below_ext_of ?_ (by first | exact Nat.le_refl _ | assumption | (simp only [World.size_alloc, World.size_setCell, size_ext, World.heap_drewN]; omega)) _ _) | (with_reducible refine Below.alloc ?_ (by first | exact Nat.le_refl _ | assumption | (simp only [World.size_alloc, World.size_setCell, size_ext, World.heap_drewN]; omega)) _) | (with_reducible refine Below.setCell ?_ (by first | exact Nat.le_refl _ | assumption | (simp only [World.size_alloc, World.size_setCell, size_ext, World.heap_drewN]; omega)) _)))) (R2.out.below (by repeat (first | (with_reducible exact Below.refl _ _) | (with_reducible assumption) | (with_reducible refine below_drewN ?_ _) | (with_reducible refine Below.drew ?_) | (with_reducible refine below_ext_of ?_ (by first | exact Nat.le_refl _ | assumption | (simp only [World.size_alloc, World.size_setCell, size_ext, World.heap_drewN]; omega)) _ _) | (with_reducible refine Below.alloc ?_ (by first | exact Nat.le_refl _ | assumption | (simp only [World.size_alloc, World.size_setCell, size_ext, World.heap_drewN]; omega)) _) | (with_reducible refine Below.setCell ?_ (by first | exact Nat.le_refl _ | assumption | (simp only [World.size_alloc, World.size_setCell, size_ext, World.heap_drewN]; omega)) _))))).mono ?_
  rintro e w1 ⟨rfl, hb⟩
  rw [HMay.out]
  obtain ⟨X, d, rfl⟩ := below_ext hb
  clear hb
  go_upto_region 3 with (fail)
  obtain ⟨W, hW⟩ : ∃ W, W = ext (((w.alloc (.cells #[.slice ph p ch, .slice (some ⟨g, o, none⟩) q cl] 24)).alloc (.cells #[.int .i64 (0)] 2)).alloc (.cells #[.int .i64 (0)] 2)) X d := ⟨_, rfl⟩
  rw [← hW]
  have HBW : Hid (Below w.heap.size w W) := Lib.hid (by
    rw [hW]
    repeat (first | (with_reducible exact Below.refl _ _) | (with_reducible assumption) | (with_reducible refine below_drewN ?_ _) | (with_reducible refine Below.drew ?_) | (with_reducible refine below_ext_of ?_ (by first | exact Nat.le_refl _ | assumption | (simp only [World.size_alloc, World.size_setCell, size_ext, World.heap_drewN]; omega)) _ _) | (with_reducible refine Below.alloc ?_ (by first | exact Nat.le_refl _ | assumption | (simp only [World.size_alloc, World.size_setCell, size_ext, World.heap_drewN]; omega)) _) | (with_reducible refine Below.setCell ?_ (by first | exact Nat.le_refl _ | assumption | (simp only [World.size_alloc, World.size_setCell, size_ext, World.heap_drewN]; omega)) _)))
  have hs0 := congrArg (fun W => W.heap.size) hW
  simp only [World.size_alloc, size_ext] at hs0
  have K0 : W.heap[w.heap.size]? = some (.cells #[.slice ph p ch, .slice (some ⟨g, o, none⟩) q cl] 24) := by
    rw [hW, (ext_below _ _ _).block _ (by simp only [World.size_alloc]; omega), Below.heap_alloc _ _ _ (by simp only [World.size_alloc]; omega), Below.heap_alloc _ _ _ (by simp only [World.size_alloc]; omega)]
    exact heap_alloc_new w _
  have K1 : W.heap[w.heap.size + 1]? = some (.cells #[.int .i64 (0)] 2) := by
    rw [hW, (ext_below _ _ _).block _ (by simp only [World.size_alloc]; omega), Below.heap_alloc _ _ _ (by simp only [World.size_alloc]; omega)]
    have := heap_alloc_new (w.alloc (.cells #[.slice ph p ch, .slice (some ⟨g, o, none⟩) q cl] 24)) (.cells #[.int .i64 (0)] 2)
    rwa [World.size_alloc] at this
  have K2 : W.heap[w.heap.size + 1 + 1]? = some (.cells #[.int .i64 (0)] 2) := by
    rw [hW, (ext_below _ _ _).block _ (by simp only [World.size_alloc]; omega)]
    have := heap_alloc_new ((w.alloc (.cells #[.slice ph p ch, .slice (some ⟨g, o, none⟩) q cl] 24)).alloc (.cells #[.int .i64 (0)] 2)) (.cells #[.int .i64 (0)] 2)
    rwa [World.size_alloc, World.size_alloc] at this
  have hw3 : w.heap.size + 3 ≤ W.heap.size := by omega
  have s1 := (HBW.out.cell (p := ⟨g, o, none⟩) hg).trans s0
  have hgw : g < w.heap.size := hg
  clear hW hs0 s0 X d
  obtain ⟨x0, x1⟩ := cell_of K0
  have x2 := one_of K1
  have x3 := one_of K2
  have f2 := frozen_of K1
  have f3 := frozen_of K2
  have HK0 := Lib.hid K0
  have HK1 := Lib.hid K1
  have HK2 := Lib.hid K2
  clear K0 K1 K2
  have g1 : ¬ (g = w.heap.size + 1) := by omega
  have g2 : ¬ (g = w.heap.size + 1 + 1) := by omega
  have l0 : w.heap.size < W.heap.size := by omega
  have l1 : w.heap.size + 1 < W.heap.size := by omega
  have l2 : w.heap.size + 1 + 1 < W.heap.size := by omega
  go_region
  go_upto_region 4 with (fail)
  obtain ⟨V, hV⟩ : ∃ V, V = ((W.setCell ⟨w.heap.size + 1, 0, none⟩ (.int .i64 z0)).setCell ⟨w.heap.size + 1 + 1, 0, none⟩ (.int .i64 z0)).drew := ⟨_, rfl⟩
  rw [← hV]
  have v0 : V.heap[w.heap.size]? = some (.cells #[.slice ph p ch, .slice (some ⟨g, o, none⟩) q cl] 24) := by rw [hV]; show ((W.setCell _ _).setCell _ _).heap[_]? = _; rw [set_far (by omega), set_far (by omega)]; exact HK0.out
  have v1 : V.heap[w.heap.size + 1]? = some (.cells #[.int .i64 (z0)] 2) := by rw [hV]; show ((W.setCell _ _).setCell _ _).heap[_]? = _; rw [set_far (by omega)]; exact set_one HK1.out _
  have v2 : V.heap[w.heap.size + 1 + 1]? = some (.cells #[.int .i64 (z0)] 2) := by
    rw [hV]; show ((W.setCell _ _).setCell _ _).heap[_]? = _
    exact set_one (by rw [set_far (by omega)]; exact HK2.out) _
  have HBV : Hid (Below w.heap.size w V) := Lib.hid (by
    rw [hV]
    exact (((HBW.out.setCell (Nat.le_succ _) _).setCell (Nat.le_trans (Nat.le_succ _) (Nat.le_succ _)) _).drew))
  have hvz : V.heap.size = W.heap.size := by rw [hV]; show ((W.setCell _ _).setCell _ _).heap.size = _; rw [World.size_setCell, World.size_setCell]
  have hv3 : w.heap.size + 3 ≤ V.heap.size := by omega
  clear hV hvz s1 x0 x1 x2 x3 f2 f3 HK0 HK1 HK2 g1 g2 l0 l1 l2 hw3 HBW
  obtain ⟨x0, x1⟩ := cell_of v0
  have V0 := Lib.hid v0
  have V1 := Lib.hid v1
  have V2 := Lib.hid v2
  clear v0 v1 v2
  have l0 : w.heap.size < V.heap.size := by omega
  go_wp2_with fail
  refine (all_call _ _ _).mono ?_
  rintro e w1 ⟨rfl, rfl⟩
  obtain ⟨W0, hW0⟩ : ∃ W0, W0 = (V.alloc (.cells #[.int .i64 ((n : Int))] 3)).alloc (.cells #[.slice ph p ch, .slice (some ⟨g, o, none⟩) q cl] 24) := ⟨_, rfl⟩
  rw [← hW0]
  obtain ⟨B5, hB5⟩ : ∃ B5, B5 = V.heap.size := ⟨_, rfl⟩
  have a1 : W0.heap[w.heap.size + 1]? = some (.cells #[.int .i64 (z0)] 2) := by
    rw [hW0, Below.heap_alloc _ _ _ (by simp only [World.size_alloc]; omega), Below.heap_alloc _ _ _ (by omega)]
    exact V1.out
  have a2 : W0.heap[w.heap.size + 1 + 1]? = some (.cells #[.int .i64 (z0)] 2) := by
    rw [hW0, Below.heap_alloc _ _ _ (by simp only [World.size_alloc]; omega), Below.heap_alloc _ _ _ (by omega)]
    exact V2.out
  have a5 : W0.heap[B5]? = some (.cells #[.int .i64 ((n : Int))] 3) := by
    rw [hW0, hB5, Below.heap_alloc _ _ _ (by simp only [World.size_alloc]; omega)]
    exact heap_alloc_new V _
  have ad : W0.heap[B5 + 1]? = some (.cells #[.slice ph p ch, .slice (some ⟨g, o, none⟩) q cl] 24) := by
    rw [hW0, hB5]
    have := heap_alloc_new (V.alloc (.cells #[.int .i64 ((n : Int))] 3)) (.cells #[.slice ph p ch, .slice (some ⟨g, o, none⟩) q cl] 24)
    rwa [World.size_alloc] at this
  have hb0 : Below w.heap.size w W0 := by
    rw [hW0]
    exact (HBV.out.alloc HBV.out.size _).alloc (by rw [World.size_alloc]; omega) _
  have hs0 : W0.heap.size = B5 + 1 + 1 := by rw [hW0, hB5, World.size_alloc, World.size_alloc]
  have hb5 : w.heap.size + 1 + 1 < B5 := by omega
  rw [show (V.alloc (.cells #[.int .i64 ((n : Int))] 3)).heap.size = B5 + 1 by rw [hB5, World.size_alloc], ← hB5]
  have C1 := Lib.hid a1
  have C2 := Lib.hid a2
  have C5 := Lib.hid a5
  have CD := Lib.hid ad
  have HB0 := Lib.hid hb0
  have HS0 := Lib.hid hs0
  clear hW0 hB5 a1 a2 a5 ad hb0 hs0 x0 x1 V0 V1 V2 l0 hv3 HBV
  go_wp2_with fail
  clear e1 e2 e3
  refine wpIn_wide.1 (range_ends (F := Fence.wide) (n := 6) rfl (by omega) (gf := 64) (lb := #[.pointer (some ⟨B5 + 1, 0, none⟩)]) rfl trivial (enters_of Try.func64 (by kernel_rfl) rfl) (fun k => #[.int .i64 (Go.Proofs.Ytpcnapmlmhhcpaa.num h l k)]) (fun _ => rfl)
    (fun k => { tmps := #[.agg #[.slice ph p ch, .slice (some ⟨g, o, none⟩) q cl], .pointer (some ⟨w.heap.size, 0, none⟩), .pointer (some ⟨w.heap.size + 1, 0, none⟩), .pointer (some ⟨w.heap.size + 1 + 1, 0, none⟩), .int .i64 0, .pointer (some ⟨B5, 0, none⟩), (.int .i64 (Go.Proofs.Ytpcnapmlmhhcpaa.num h l k)), .agg #[.slice ph p ch, .slice (some ⟨g, o, none⟩) q cl], .bool true, .bool false, .pointer (some ⟨w.heap.size, 1, none⟩), .slice (some ⟨g, o, none⟩) q cl, .pointer (some ⟨g, o, none⟩), .int .i64 z0, .pointer (some ⟨w.heap.size, 1, none⟩), .slice (some ⟨g, o, none⟩) q cl, .pointer (some ⟨g, o, none⟩), .int .i64 z0, .pointer (some ⟨w.heap.size, 0, none⟩), .slice ph p ch, .int .i64 (p : Int), .pointer (some ⟨w.heap.size, 1, none⟩), .slice (some ⟨g, o, none⟩) q cl, .int .i64 (q : Int), .int .i64 (n : Int), .agg #[.slice ph p ch, .slice (some ⟨g, o, none⟩) q cl], .func (.func 64) #[] #[.pointer (some ⟨B5 + 1, 0, none⟩)], (.int .i64 (Go.Proofs.Ytpcnapmlmhhcpaa.num h l k)), undef, undef, undef, undef, undef, undef, undef, undef, undef, undef, undef, undef], defers := [] }) (BI w W0.heap.size n B5 (loB h l) (hiB h l) ph (some ⟨g, o, none⟩) p q ch cl) (BX w W0.heap.size n (loB h l) (hiB h l)) 0
    (fun k W l o o' hi hl h1 h2 => hi.put hb5 (by have := HS0.out; omega) hl) (fun W l o o' hi hl h1 h2 => hi.put (by have := HS0.out; omega) hl)
    (fun o1 o2 => ?hzero) (fun lp J Jx W hJI hY hJ0 => all_ends Fence.wide 5 trivial rfl (by omega) lp (B5 + 1) w.heap.size n ph (some ⟨g, o, none⟩) p q ch cl h l HP.out HQ.out m1 (by omega) (by omega) w J Jx W (fun k W1 hj => ⟨(hJI k W1 hj).1, (hJI k W1 hj).2.1, (hJI k W1 hj).2.2.2.2.2.1⟩) (fun W1 hb => R1.out.below hb) (fun W1 hb => R2.out.below hb) hY hJ0)
    (fun lp k W K hK => ?hassign) (fun lp k W hi => ?hbody) (fun W hx hD => ?hstop))
  case hzero =>
    have old : ∀ b, b < W0.heap.size → ((W0.alloc o1).alloc o2).heap[b]? = W0.heap[b]? := fun b hb => by
      rw [Below.heap_alloc _ _ _ (by rw [World.size_alloc]; omega), Below.heap_alloc _ _ _ hb]
    have hS := HS0.out
    refine ⟨Nat.zero_le _, (old _ (by omega)).trans CD.out, (old _ (by omega)).trans (by rw [L0.out]; exact C1.out), (old _ (by omega)).trans (by rw [L1.out]; exact C2.out), (old _ (by omega)).trans C5.out, (HB0.out.alloc HB0.out.size _).alloc (by rw [World.size_alloc]; omega) _, by rw [World.size_alloc, World.size_alloc]; omega⟩
  case hassign =>
    gi_wp2
    exact hK
  case hbody =>
    obtain ⟨hk, b0, b1, b2, b5, hb, hs⟩ := hi
    have hS := HS0.out
    have c1 := one_of b1
    have c2 := one_of b2
    have c5 := one_of b5
    have f1 := frozen_of b1
    have f2 := frozen_of b2
    have f5 := frozen_of b5
    have D0 := Lib.hid b0
    have D1 := Lib.hid b1
    have D2 := Lib.hid b2
    have D5 := Lib.hid b5
    have DB := Lib.hid hb
    have l1 : w.heap.size + 1 < W.heap.size := by omega
    have l2 : w.heap.size + 1 + 1 < W.heap.size := by omega
    have l5 : B5 < W.heap.size := by omega
    have n1 : ¬ (w.heap.size + 1 = B5) := by omega
    have n2 : ¬ (w.heap.size + 1 + 1 = B5) := by omega
    have n3 : ¬ (B5 = w.heap.size + 1) := by omega
    have n4 : ¬ (B5 = w.heap.size + 1 + 1) := by omega
    have F1 : Hid (mnI (loB h l k) (Go.Proofs.Ytpcnapmlmhhcpaa.num h l k) = loB h l (k + 1)) := Lib.hid (LS.out k).symm
    have F2 : Hid (mxI (hiB h l k) (Go.Proofs.Ytpcnapmlmhhcpaa.num h l k) = hiB h l (k + 1)) := Lib.hid (LT.out k).symm
    clear b0 b1 b2 b5 hb
    by_cases hlt : k < n
    · obtain ⟨r, hr⟩ : ∃ r, n - k = r + 1 := ⟨n - k - 1, by omega⟩
      rw [hr] at c5
      have e1 : (((r + 1 : Nat) : Int) == 0) = false := beq_false_of_ne (by omega)
      have e2 : ((r + 1 : Nat) : Int) - 1 = (r : Int) := by omega
      have e3 : IntKind.i64.wrap (((r + 1 : Nat) : Int) - 1) = (r : Int) := by rw [IntKind.wrap_i64]; omega
      obtain ⟨lo, hlo⟩ : ∃ lo, loB h l k = lo := ⟨_, rfl⟩
      obtain ⟨hi, hhi⟩ : ∃ hi, hiB h l k = hi := ⟨_, rfl⟩
      obtain ⟨nx, hnx⟩ : ∃ nx, Go.Proofs.Ytpcnapmlmhhcpaa.num h l k = nx := ⟨_, rfl⟩
      rw [hlo] at c1 D1
      rw [hhi] at c2 D2
      rw [hlo, hnx] at F1
      rw [hhi, hnx] at F2
      rw [hnx]
      obtain ⟨r1, hr1⟩ : ∃ r1 : Int, r1 = ((r + 1 : Nat) : Int) := ⟨_, rfl⟩
      rw [← hr1] at c5 e1 e2 e3
      have HR : Hid (n - (k + 1) = r) := Lib.hid (by omega)
      have hwr : IntKind.i64.wrap (r : Int) = (r : Int) := by rw [IntKind.wrap_i64]; omega
      have HWR := Lib.hid hwr
      clear hlo hhi hnx hr hr1
      gi_upto_region 8 with (fail)
      refine region_r (by kernel_rfl) (by kernel_rfl) ?_
      have hHeld : True := trivial
      refine' wpAnyH_take (i := 1) (oi := ⟨_, _, _, _, _, _⟩) (v := ?v2) rfl (by kernel_rfl) (by kernel_rfl) (by kernel_rfl) (fun _ _ _ h => absurd h.1 (by intro h; cases h)) (Or.inl ⟨by rfl, ?hy2⟩) (by assumption) ?rest2
      case hy2 =>
        intro w hSw
        (try dsimp only at hSw)
        go_simp
        try (with_reducible rfl)
      case rest2 =>
      (try simp only [Act.put, List.setIfInBounds_toArray, List.set_cons_zero, List.set_cons_succ])
      refine' wpAnyH_take (i := 4) (oi := ⟨_, _, _, _, _, _⟩) (v := ?v3) rfl (by kernel_rfl) (by kernel_rfl) (by kernel_rfl) (fun _ _ _ h => absurd h.1 (by intro h; cases h)) (Or.inl ⟨by rfl, ?hy3⟩) (by assumption) ?rest3
      case hy3 =>
        intro w hSw
        (try dsimp only at hSw)
        go_simp
        try (with_reducible rfl)
      case rest3 =>
      (try simp only [Act.put, List.setIfInBounds_toArray, List.set_cons_zero, List.set_cons_succ])
      refine wpAnyH_ready (rs := [0, 3]) (by kernel_rfl) (by simp) ?_
      refine (AllReadyH.cons (o := ⟨_, _, _, _, _, _⟩) rfl (fun K hK => ?_) (AllReadyH.cons (o := ⟨_, _, _, _, _, _⟩) rfl (fun K hK => ?_) AllReadyH.nil))
      · go_simp
        skip
        refine hK.out _ _ ?hS5 (fun hHeld2 => ?go5)
        case hS5 =>
          (try dsimp only)
          try go_simp
        case go5 =>
        clear hK K
        clear hHeld
        have hHeld := hHeld2
        clear hHeld2
        (try simp only [Act.put, List.setIfInBounds_toArray, List.set_cons_zero, List.set_cons_succ])
        refine' wpAnyH_take (i := 2) (oi := ⟨_, _, _, _, _, _⟩) (v := ?v6) rfl (by kernel_rfl) (by kernel_rfl) (by kernel_rfl) (fun _ _ _ h => absurd h.1 (by intro h; cases h)) (Or.inl ⟨by rfl, ?hy6⟩) (by assumption) ?rest6
        case hy6 =>
          intro w hSw
          (try dsimp only at hSw)
          go_simp
          try (with_reducible rfl)
        case rest6 =>
        (try simp only [Act.put, List.setIfInBounds_toArray, List.set_cons_zero, List.set_cons_succ])
        refine wpAnyH_ready (rs := [3, 6]) (by kernel_rfl) (by simp) ?_
        refine (AllReadyH.cons (o := ⟨_, _, _, _, _, _⟩) rfl (fun K hK => ?_) (AllReadyH.cons (o := ⟨_, _, _, _, _, _⟩) rfl (fun K hK => ?_) AllReadyH.nil))
        · go_simp
          skip
          refine hK.out _ _ ?hS8 (fun hHeld2 => ?go8)
          case hS8 =>
            (try dsimp only)
            try go_simp
          case go8 =>
          clear hK K
          clear hHeld
          have hHeld := hHeld2
          clear hHeld2
          (try simp only [Act.put, List.setIfInBounds_toArray, List.set_cons_zero, List.set_cons_succ])
          refine' wpAnyH_take (i := 5) (oi := ⟨_, _, _, _, _, _⟩) (v := ?v9) rfl (by kernel_rfl) (by kernel_rfl) (by kernel_rfl) (fun _ _ _ h => absurd h.1 (by intro h; cases h)) (Or.inl ⟨by rfl, ?hy9⟩) (by assumption) ?rest9
          case hy9 =>
            intro w hSw
            (try dsimp only at hSw)
            go_simp
            try (with_reducible rfl)
          case rest9 =>
          (try simp only [Act.put, List.setIfInBounds_toArray, List.set_cons_zero, List.set_cons_succ])
          refine wpAnyH_ready (rs := [6]) (by kernel_rfl) (by simp) ?_
          refine (AllReadyH.cons (o := ⟨_, _, _, _, _, _⟩) rfl (fun K hK => ?_) AllReadyH.nil)
          go_simp
          skip
          refine hK.out _ _ ?hS11 (fun hHeld2 => ?go11)
          case hS11 =>
            (try dsimp only)
            try go_simp
          case go11 =>
          clear hK K
          clear hHeld
          have hHeld := hHeld2
          clear hHeld2
          (try simp only [Act.put, List.setIfInBounds_toArray, List.set_cons_zero, List.set_cons_succ])
          refine wpAnyH_ready (rs := [7]) (by kernel_rfl) (by simp) ?_
          refine (AllReadyH.cons (o := ⟨_, _, _, _, _, _⟩) rfl (fun K hK => ?_) AllReadyH.nil)
          go_simp
          skip
          refine hK.out _ _ ?hS13 (fun hHeld2 => ?go13)
          case hS13 =>
            (try dsimp only)
            try go_simp
          case go13 =>
          clear hK K
          clear hHeld
          have hHeld := hHeld2
          clear hHeld2
          (try simp only [Act.put, List.setIfInBounds_toArray, List.set_cons_zero, List.set_cons_succ])
          refine wpAnyH_done (by kernel_rfl) ?_ _
          refine ⟨rfl, ?_⟩
          gi_wp2
          rw [F1.out, F2.out]
          try rw [show wrap64 (r : Int) = (r : Int) from HWR.out]
          exact BI.step (lo := loB h l) (hi := hiB h l) hk hlt HR.out n1 n2 hS hs D0.out D1.out D2.out D5.out DB.out
        · go_simp
          skip
          refine hK.out _ _ ?hS15 (fun hHeld2 => ?go15)
          case hS15 =>
            (try dsimp only)
            try go_simp
          case go15 =>
          clear hK K
          clear hHeld
          have hHeld := hHeld2
          clear hHeld2
          (try simp only [Act.put, List.setIfInBounds_toArray, List.set_cons_zero, List.set_cons_succ])
          refine wpAnyH_ready (rs := [3]) (by kernel_rfl) (by simp) ?_
          refine (AllReadyH.cons (o := ⟨_, _, _, _, _, _⟩) rfl (fun K hK => ?_) AllReadyH.nil)
          go_simp
          skip
          refine hK.out _ _ ?hS17 (fun hHeld2 => ?go17)
          case hS17 =>
            (try dsimp only)
            try go_simp
          case go17 =>
          clear hK K
          clear hHeld
          have hHeld := hHeld2
          clear hHeld2
          (try simp only [Act.put, List.setIfInBounds_toArray, List.set_cons_zero, List.set_cons_succ])
          refine' wpAnyH_take (i := 5) (oi := ⟨_, _, _, _, _, _⟩) (v := ?v18) rfl (by kernel_rfl) (by kernel_rfl) (by kernel_rfl) (fun _ _ _ h => absurd h.1 (by intro h; cases h)) (Or.inl ⟨by rfl, ?hy18⟩) (by assumption) ?rest18
          case hy18 =>
            intro w hSw
            (try dsimp only at hSw)
            go_simp
            try (with_reducible rfl)
          case rest18 =>
          (try simp only [Act.put, List.setIfInBounds_toArray, List.set_cons_zero, List.set_cons_succ])
          refine wpAnyH_ready (rs := [7]) (by kernel_rfl) (by simp) ?_
          refine (AllReadyH.cons (o := ⟨_, _, _, _, _, _⟩) rfl (fun K hK => ?_) AllReadyH.nil)
          go_simp
          skip
          refine hK.out _ _ ?hS20 (fun hHeld2 => ?go20)
          case hS20 =>
            (try dsimp only)
            try go_simp
          case go20 =>
          clear hK K
          clear hHeld
          have hHeld := hHeld2
          clear hHeld2
          (try simp only [Act.put, List.setIfInBounds_toArray, List.set_cons_zero, List.set_cons_succ])
          refine wpAnyH_done (by kernel_rfl) ?_ _
          refine ⟨rfl, ?_⟩
          gi_wp2
          rw [F1.out, F2.out]
          try rw [show wrap64 (r : Int) = (r : Int) from HWR.out]
          exact BI.step (lo := loB h l) (hi := hiB h l) hk hlt HR.out n1 n2 hS hs D0.out D1.out D2.out D5.out DB.out
      · go_simp
        skip
        refine hK.out _ _ ?hS22 (fun hHeld2 => ?go22)
        case hS22 =>
          (try dsimp only)
          try go_simp
        case go22 =>
        clear hK K
        clear hHeld
        have hHeld := hHeld2
        clear hHeld2
        (try simp only [Act.put, List.setIfInBounds_toArray, List.set_cons_zero, List.set_cons_succ])
        refine' wpAnyH_take (i := 5) (oi := ⟨_, _, _, _, _, _⟩) (v := ?v23) rfl (by kernel_rfl) (by kernel_rfl) (by kernel_rfl) (fun _ _ _ h => absurd h.1 (by intro h; cases h)) (Or.inl ⟨by rfl, ?hy23⟩) (by assumption) ?rest23
        case hy23 =>
          intro w hSw
          (try dsimp only at hSw)
          go_simp
          try (with_reducible rfl)
        case rest23 =>
        (try simp only [Act.put, List.setIfInBounds_toArray, List.set_cons_zero, List.set_cons_succ])
        refine wpAnyH_ready (rs := [0]) (by kernel_rfl) (by simp) ?_
        refine (AllReadyH.cons (o := ⟨_, _, _, _, _, _⟩) rfl (fun K hK => ?_) AllReadyH.nil)
        go_simp
        skip
        refine hK.out _ _ ?hS25 (fun hHeld2 => ?go25)
        case hS25 =>
          (try dsimp only)
          try go_simp
        case go25 =>
        clear hK K
        clear hHeld
        have hHeld := hHeld2
        clear hHeld2
        (try simp only [Act.put, List.setIfInBounds_toArray, List.set_cons_zero, List.set_cons_succ])
        refine' wpAnyH_take (i := 2) (oi := ⟨_, _, _, _, _, _⟩) (v := ?v26) rfl (by kernel_rfl) (by kernel_rfl) (by kernel_rfl) (fun _ _ _ h => absurd h.1 (by intro h; cases h)) (Or.inl ⟨by rfl, ?hy26⟩) (by assumption) ?rest26
        case hy26 =>
          intro w hSw
          (try dsimp only at hSw)
          go_simp
          try (with_reducible rfl)
        case rest26 =>
        (try simp only [Act.put, List.setIfInBounds_toArray, List.set_cons_zero, List.set_cons_succ])
        refine wpAnyH_ready (rs := [6]) (by kernel_rfl) (by simp) ?_
        refine (AllReadyH.cons (o := ⟨_, _, _, _, _, _⟩) rfl (fun K hK => ?_) AllReadyH.nil)
        go_simp
        skip
        refine hK.out _ _ ?hS28 (fun hHeld2 => ?go28)
        case hS28 =>
          (try dsimp only)
          try go_simp
        case go28 =>
        clear hK K
        clear hHeld
        have hHeld := hHeld2
        clear hHeld2
        (try simp only [Act.put, List.setIfInBounds_toArray, List.set_cons_zero, List.set_cons_succ])
        refine wpAnyH_ready (rs := [7]) (by kernel_rfl) (by simp) ?_
        refine (AllReadyH.cons (o := ⟨_, _, _, _, _, _⟩) rfl (fun K hK => ?_) AllReadyH.nil)
        go_simp
        skip
        refine hK.out _ _ ?hS30 (fun hHeld2 => ?go30)
        case hS30 =>
          (try dsimp only)
          try go_simp
        case go30 =>
        clear hK K
        clear hHeld
        have hHeld := hHeld2
        clear hHeld2
        (try simp only [Act.put, List.setIfInBounds_toArray, List.set_cons_zero, List.set_cons_succ])
        refine wpAnyH_done (by kernel_rfl) ?_ _
        refine ⟨rfl, ?_⟩
        gi_wp2
        rw [F1.out, F2.out]
        try rw [show wrap64 (r : Int) = (r : Int) from HWR.out]
        exact BI.step (lo := loB h l) (hi := hiB h l) hk hlt HR.out n1 n2 hS hs D0.out D1.out D2.out D5.out DB.out
    · have e0 : ((n - k : Nat) : Int) = 0 := by omega
      rw [e0] at c5
      have hkn : k = n := by omega
      clear e0
      rw [hkn] at D1 D2
      gi_wp2
      exact ⟨rfl, KeepsFrom.refl _ _, D1.out, D2.out, DB.out, hs⟩
  case hstop =>
    obtain ⟨b1, b2, hb, hs⟩ := hx
    rw [HX.out] at b1
    rw [HY.out] at b2
    have c1 := one_of b1
    have c2 := one_of b2
    have f1 := frozen_of b1
    have f2 := frozen_of b2
    have D1 := Lib.hid b1
    have D2 := Lib.hid b2
    have DB := Lib.hid hb
    have HD := Lib.hid hD
    have hS := HS0.out
    have l1 : w.heap.size + 1 < W.heap.size := by omega
    have l2 : w.heap.size + 1 + 1 < W.heap.size := by omega
    clear b1 b2 hb hD
    have g1 : ¬ (w.heap.size + 1 = w.heap.size + 1 + 1) := by omega
    have g2 : ¬ (w.heap.size + 1 + 1 = w.heap.size + 1) := by omega
    refine wpIn_wide.2 ?_
    go_upto_region 10 with (fail)
    go_region
    obtain ⟨V, hV⟩ : ∃ V, V = ((W.setCell ⟨w.heap.size + 1, 0, none⟩ (.int .i64 x)).setCell ⟨w.heap.size + 1 + 1, 0, none⟩ (.int .i64 y)).drew := ⟨_, rfl⟩
    rw [← hV]
    have v1 : V.heap[w.heap.size + 1]? = some (.cells #[.int .i64 (x)] 2) := by rw [hV]; show ((W.setCell _ _).setCell _ _).heap[_]? = _; rw [set_far (by omega)]; exact set_one D1.out _
    have v2 : V.heap[w.heap.size + 1 + 1]? = some (.cells #[.int .i64 (y)] 2) := by
      rw [hV]; show ((W.setCell _ _).setCell _ _).heap[_]? = _
      exact set_one (by rw [set_far (by omega)]; exact D2.out) _
    have vd : V.heap[W0.heap.size]? = some (.deferred (some [])) := by rw [hV]; show ((W.setCell _ _).setCell _ _).heap[_]? = _; rw [set_far (by omega), set_far (by omega)]; exact HD.out
    have HBV : Below w.heap.size w V := by
      rw [hV]
      exact (((DB.out.setCell (Nat.le_succ _) _).setCell (Nat.le_trans (Nat.le_succ _) (Nat.le_succ _)) _).drew)
    have HBP := Lib.hid (below_put (l := W0.heap.size) HBV (by omega) (.deferred none))
    have d1 := one_of ((put_far (W := V) (o := .deferred none) (show w.heap.size + 1 ≠ W0.heap.size by omega)).trans v1)
    have d2 := one_of ((put_far (W := V) (o := .deferred none) (show w.heap.size + 1 + 1 ≠ W0.heap.size by omega)).trans v2)
    have HVD := Lib.hid vd
    clear hV v1 v2 vd HBV c1 c2 f1 f2 D1 D2 DB HD g1 g2
    go_wp2_with fail
    refine ⟨by simp, .inl ⟨_, _, rfl, run_takeDeferred HVD.out, ?_⟩⟩
    refine ⟨.tuple #[.int .i64 x, .int .i64 y, .int .i64 0], by simp [results, Try.results31, d1, d2, asAddr, go_sem], rfl, HBP.out⟩
end Go.Proofs.Ytpcnapmlmhhcpaa
