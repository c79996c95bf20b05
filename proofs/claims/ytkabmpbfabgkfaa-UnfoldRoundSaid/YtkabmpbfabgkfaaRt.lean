/-
  carillonref14.May.
  Conditions: the rows lie in memory; their numbers are int64s.
-/
import Derived.Test.YtkabmpbfabgkfaaRy
import Derived.Test.YtkabmpbfabgkfaaLq
import Derived.WalkKit
import Derived.WalkSpells
import Derived.WalkLawsBesides
import Derived.Deep.QuietTactic
import Derived.BigQuiet
import Derived.Lib.Hide
import Derived.Handy
import Derived.Deep.AppendLies
import Derived.Maps.AppendAt
import Derived.OwnWalk
import Derived.Lib.LazyBuf
import Derived.Deep.DeepCutAuto
import Derived.Deep.RegionLaw
import Derived.Deep.RegionHeld3
import Derived.Deep.RegionWith
import Derived.BigRegion
import Derived.Deep.CutBlock
import Derived.LoopN
import Derived.Deep.CutRange
set_option linter.unusedVariables false
set_option linter.unusedSimpArgs false
namespace Go.Proofs.Ytkabmpbfabgkfaa
open Go.RowKit 
open Big
attribute [local go_sem] setCell_drewN alloc_drewN size_ext ext_ext ext_drewN ext_drew drewN_ext drew_ext cell?_ext frozen?_ext setCell_ext cell?_past1 frozen?_past1 setCell_past1 cell?_past2 frozen?_past2 setCell_past2 cell?_past3 frozen?_past3 setCell_past3 cell?_past4 frozen?_past4 setCell_past4 cell?_past5 frozen?_past5 setCell_past5 cell?_past6 frozen?_past6 setCell_past6 cell?_past7 frozen?_past7 setCell_past7 cell?_past8 frozen?_past8 setCell_past8
open Go.Proofs.Ytkabmpbfabgkfaa.P Go.Proofs.YtkabmpbfabgkfaaW.PrintWords Go.Proofs.YtkabmpbfabgkfaaW.PrintLast Go.Proofs.YtkabmpbfabgkfaaW.PrintMore
theorem ext_cell {w : World} {X : Array Obj} {d : Nat} {p : Addr} {v : Value} (h : w.cell? p = some v) : (ext w X d).cell? p = some v := ((ext_below w X d).cell (World.block_lt_of_cell? w p h)).trans h
theorem mayT_iff {t : S44} : mayT t = true ↔ mayC t.f0.f0 t.f0.f1 = true ∧ 1 ≤ t.f1 ∧ t.f1 ≤ t.f0.f0 ∧ 1 ≤ t.f4.length ∧ t.f4.length ≤ 32 ∧ ((t.f3 = -1 ∧ 0 ≤ t.f2 ∧ 1 ≤ t.f5 ∧ t.f5 ≤ 32) ∨ (t.f3 ≠ -1 ∧ t.f2 = -1 ∧ 0 ≤ t.f3 ∧ t.f5 = 0 ∧ t.f4.length = 1)) := by
  unfold mayT
  simp only [Bool.and_eq_true, decide_eq_true_eq]
  by_cases h : t.f3 = -1
  · rw [if_pos h]
    simp only [Bool.and_eq_true, decide_eq_true_eq]
    constructor
    · rintro ⟨a, b, c, d, e, f, g, i⟩; exact ⟨a, b, c, d, e, .inl ⟨h, f, g, i⟩⟩
    · rintro ⟨a, b, c, d, e, ⟨_, f, g, i⟩ | ⟨f, _⟩⟩
      · exact ⟨a, b, c, d, e, f, g, i⟩
      · exact absurd h f
  · rw [if_neg h]
    simp only [Bool.and_eq_true, decide_eq_true_eq]
    constructor
    · rintro ⟨a, b, c, d, e, f, g, i, j⟩; exact ⟨a, b, c, d, e, .inr ⟨h, f, g, i, j⟩⟩
    · rintro ⟨a, b, c, d, e, ⟨f, _⟩ | ⟨_, f, g, i, j⟩⟩
      · exact absurd f h
      · exact ⟨a, b, c, d, e, f, g, i, j⟩
theorem mayT_not {t : S44} (h : ¬ (mayC t.f0.f0 t.f0.f1 = true ∧ 1 ≤ t.f1 ∧ t.f1 ≤ t.f0.f0 ∧ 1 ≤ t.f4.length ∧ t.f4.length ≤ 32 ∧ ((t.f3 = -1 ∧ 0 ≤ t.f2 ∧ 1 ≤ t.f5 ∧ t.f5 ≤ 32) ∨ (t.f3 ≠ -1 ∧ t.f2 = -1 ∧ 0 ≤ t.f3 ∧ t.f5 = 0 ∧ t.f4.length = 1)))) : mayT t = false := by
  cases hm : mayT t with
  | false => rfl
  | true => exact absurd (mayT_iff.1 hm) h
def insTo (ins : List S25) (n : Nat) : Prop := ∀ (j : Nat) (h : j < ins.length), j < n → mayC ins[j].f0 ins[j].f1 = true
def tasksTo (l : List S44) (n : Nat) : Prop := ∀ (j : Nat) (h : j < l.length), j < n → mayT l[j] = true
def rowTo (l : List S44) (ins : List S25) (t : S44) (n : Nat) : Prop := ∀ (j : Nat) (h : j < t.f4.length), j < n → rdOk l ins t t.f4[j] = true
def readsTo (l : List S44) (ins : List S25) (n : Nat) : Prop := ∀ (j : Nat) (h : j < l.length), j < n → tkOk l ins l[j] = true
theorem succTo {P : Nat → Prop} {n : Nat} (a : ∀ j, j < n → P j) (b : P n) : ∀ j, j < n + 1 → P j := fun j hj => by
  rcases Nat.lt_or_ge j n with h | h
  · exact a j h
  · obtain rfl : j = n := by omega
    exact b
theorem insTo_succ {ins : List S25} {n : Nat} (h : n < ins.length) (a : insTo ins n) (b : mayC ins[n].f0 ins[n].f1 = true) : insTo ins (n + 1) := fun j hj => succTo (P := fun j => ∀ h : j < ins.length, mayC ins[j].f0 ins[j].f1 = true) (fun j hj h => a j h hj) (fun _ => b) j |> fun f h => f h hj
theorem tasksTo_succ {l : List S44} {n : Nat} (h : n < l.length) (a : tasksTo l n) (b : mayT l[n] = true) : tasksTo l (n + 1) := fun j hj => succTo (P := fun j => ∀ h : j < l.length, mayT l[j] = true) (fun j hj h => a j h hj) (fun _ => b) j |> fun f h => f h hj
theorem rowTo_succ {l : List S44} {ins : List S25} {t : S44} {n : Nat} (h : n < t.f4.length) (a : rowTo l ins t n) (b : rdOk l ins t t.f4[n] = true) : rowTo l ins t (n + 1) := fun j hj => succTo (P := fun j => ∀ h : j < t.f4.length, rdOk l ins t t.f4[j] = true) (fun j hj h => a j h hj) (fun _ => b) j |> fun f h => f h hj
theorem readsTo_succ {l : List S44} {ins : List S25} {n : Nat} (h : n < l.length) (a : readsTo l ins n) (b : tkOk l ins l[n] = true) : readsTo l ins (n + 1) := fun j hj => succTo (P := fun j => ∀ h : j < l.length, tkOk l ins l[j] = true) (fun j hj h => a j h hj) (fun _ => b) j |> fun f h => f h hj
theorem tkOk_all {l : List S44} {ins : List S25} {t : S44} (a : rowTo l ins t t.f4.length) : tkOk l ins t = true := by
  unfold tkOk
  refine List.all_eq_true.2 (fun r hr => ?_)
  obtain ⟨j, hj, rfl⟩ := List.getElem_of_mem hr
  exact a j hj hj
theorem tkOk_one {l : List S44} {ins : List S25} {t : S44} (a : tkOk l ins t = true) {j : Nat} (h : j < t.f4.length) : rdOk l ins t t.f4[j] = true := List.all_eq_true.1 a _ (List.getElem_mem h)
theorem mayTs_not {l : List S44} {ins : List S25} (h : ¬ (l.length ≤ 160 ∧ ins.length ≤ 32 ∧ insTo ins ins.length ∧ tasksTo l l.length ∧ readsTo l ins l.length)) : mayTs l ins = false := by
  cases hm : mayTs l ins with
  | false => rfl
  | true =>
    obtain ⟨a, b, c, d, _⟩ := mayTs_spec hm
    refine absurd ⟨a, b, fun j hj _ => c _ (List.getElem_mem hj), fun j hj _ => d _ (List.getElem_mem hj), fun j hj _ => ?_⟩ h
    unfold mayTs at hm
    simp only [Bool.and_eq_true] at hm
    exact List.all_eq_true.1 hm.2.2.2.2 _ (List.getElem_mem hj)
theorem mayTs_yes {l : List S44} {ins : List S25} (a : l.length ≤ 160) (b : ins.length ≤ 32) (c : insTo ins ins.length) (d : tasksTo l l.length) (e : readsTo l ins l.length) : mayTs l ins = true := by
  unfold mayTs
  have h1 : ins.any bad25 = false := by
    rw [List.any_eq_false]
    intro x hx
    obtain ⟨j, hj, rfl⟩ := List.getElem_of_mem hx
    unfold bad25
    rw [c j hj hj]
    decide
  have h2 : l.all mayT = true := List.all_eq_true.2 (fun x hx => by obtain ⟨j, hj, rfl⟩ := List.getElem_of_mem hx; exact d j hj hj)
  have h3 : l.all (tkOk l ins) = true := List.all_eq_true.2 (fun x hx => by obtain ⟨j, hj, rfl⟩ := List.getElem_of_mem hx; exact e j hj hj)
  rw [decide_eq_true a, decide_eq_true b, h1, h2, h3]
  rfl
set_option maxRecDepth 100000 in
set_option maxHeartbeats 16000000 in
theorem rmayTs_any (w : World) (A0 A1 : Option Addr) (c0 c1 : Nat) (l : List S44) (ins : List S25) (hr0 : Kd.C k44 w A0 l.length l) (hr1 : Kd.C k25 w A1 ins.length ins) :
    Calls Try.prog 14 #[.slice A0 l.length c0, .slice A1 ins.length c1] w fun e w' => e = .returned (.bool (mayTs l ins)) ∧ Below w.heap.size w w' := by
  obtain ⟨R, hR⟩ : ∃ R, mayTs l ins = R := ⟨_, rfl⟩
  rw [hR]
  have HRR := Lib.hid hR
  have HR0 := Lib.hid hr0
  have HR1 := Lib.hid hr1
  clear hR hr0 hr1
  go_enter Try.func14, Try.ntmps14
  by_cases hl : 160 < l.length
  · have e1 : decide ((l.length : Int) > 160) = true := decide_eq_true (by omega)
    have e1' : decide (160 < l.length) = true := decide_eq_true hl
    have HN := Lib.hid hl
    clear hl
    have HBw : Hid (Below w.heap.size w w) := Lib.hid (Below.refl _ _)
    go_wp2_with fail
    go_ret
    exact ⟨ret_rb ((mayTs_not (fun h => by have := HN.out; omega)).symm.trans HRR.out), HBw.out⟩
  by_cases hi : 32 < ins.length
  · have e1 : decide ((l.length : Int) > 160) = false := decide_eq_false (by omega)
    have e1' : decide (160 < l.length) = false := decide_eq_false hl
    have e2 : decide ((ins.length : Int) > 32) = true := decide_eq_true (by omega)
    have e2' : decide (32 < ins.length) = true := decide_eq_true hi
    have HN := Lib.hid hi
    clear hl hi
    have HBw : Hid (Below w.heap.size w w) := Lib.hid (Below.refl _ _)
    go_wp2_with fail
    go_ret
    exact ⟨ret_rb ((mayTs_not (fun h => by have := HN.out; omega)).symm.trans HRR.out), HBw.out⟩
  have e1 : decide ((l.length : Int) > 160) = false := decide_eq_false (by omega)
  have e1' : decide (160 < l.length) = false := decide_eq_false hl
  have e2 : decide ((ins.length : Int) > 32) = false := decide_eq_false (by omega)
  have e2' : decide (32 < ins.length) = false := decide_eq_false hi
  have HLI : Hid (l.length ≤ 160 ∧ ins.length ≤ 32) := Lib.hid (by omega)
  clear hl hi
  go_wp2_with fail
  clear e1 e1' e2 e2'
  go_loopw [5] (fun i wr => ∃ k : Nat, k ≤ ins.length ∧ i = .int .i64 k ∧ Hid (Below w.heap.size w wr) ∧ Hid (insTo ins k)) (fun i _ => ins.length - (RowKit.intOf i).toNat)
  case atStart => exact ⟨0, Nat.zero_le _, rfl, Lib.hid (Below.refl _ _), Lib.hid (fun j _ h => absurd h (Nat.not_lt_zero _))⟩
  case round =>
    obtain ⟨k, hk, rfl, HBwr, HK⟩ := hrel
    by_cases hlt : k < ins.length
    · obtain ⟨ai, hai, z0, z1⟩ := at_T25 (Kd.C_below HR1.out HBwr.out) k (by omega) (by omega)
      have hrd : rd_T25 ins (k : Int) = ins[k] := by unfold rd_T25; rw [Int.toNat_natCast]; exact getD_eq _ _ _ hlt
      rw [hrd, Int.toNat_natCast] at z0 z1
      obtain ⟨x, hx⟩ : ∃ x, ins[k] = x := ⟨_, rfl⟩
      rw [hx] at z0 z1
      have HX : Hid (∀ h : k < ins.length, ins[k]'h = x) := Lib.hid (fun _ => hx)
      have HLT := Lib.hid hlt
      have d1 : IntKind.i64.wrap ((k : Int) + 1) = (k : Int) + 1 := by have := HLI.out; rw [IntKind.wrap_i64]; omega
      have e1 : (k : Int) < ins.length := by omega
      have e2 : (0 : Int) ≤ k := by omega
      subst hai
      clear hrd hx hlt hk
      go_wp2_with fail
      refine (rmay_clock _ x.f0 x.f1).mono ?_
      rintro e W1 ⟨rfl, hb⟩
      have HBW1 := Lib.hid (HBwr.out.trans (hb.mono HBwr.out.size))
      clear hb z0 z1
      cases hc : mayC x.f0 x.f1 with
      | false =>
        have HN := Lib.hid hc
        clear hc
        go_wp2_with fail
        go_ret
        exact ⟨ret_rb ((mayTs_not (fun h => absurd (h.2.2.1 k HLT.out HLT.out) (by rw [HX.out HLT.out, HN.out]; decide))).symm.trans HRR.out), HBW1.out⟩
      | true =>
        have HN := Lib.hid hc
        clear hc
        go_wp2_with fail
        go_roundw
        case rel => exact ⟨k + 1, by have := HLT.out; omega, by simp, HBW1, Lib.hid (insTo_succ HLT.out HK.out (by rw [HX.out HLT.out]; exact HN.out))⟩
        case measure => have := HLT.out; simp [RowKit.intOf]; omega
    · have e1 : ¬ ((k : Int) < ins.length) := by omega
      obtain rfl : k = ins.length := by omega
      have HINS := HK
      have HB2 := HBwr
      rename World => w2
      clear hlt hk HBwr HK
      go_wp2_with fail
      go_loopw [6] (fun i wr => ∃ k : Nat, k ≤ l.length ∧ i = .int .i64 k ∧ Hid (Below w.heap.size w wr) ∧ Hid (tasksTo l k)) (fun i _ => l.length - (RowKit.intOf i).toNat)
      case atStart => exact ⟨0, Nat.zero_le _, rfl, HB2, Lib.hid (fun j _ h => absurd h (Nat.not_lt_zero _))⟩
      case round =>
        clear HB2 w2 e1
        obtain ⟨k, hk, rfl, HBwr, HK⟩ := hrel
        by_cases hlt : k < l.length
        · obtain ⟨at', A5, c5, hat, x0, x1, x2, x3, x4, x5, x6, xl, xr⟩ := at_T44 (Kd.C_below HR0.out HBwr.out) k (by omega) (by omega)
          have hrt : rd_T44 l (k : Int) = l[k] := by unfold rd_T44; rw [Int.toNat_natCast]; exact getD_eq _ _ _ hlt
          rw [hrt, Int.toNat_natCast] at x0 x1 x2 x3 x4 x5 x6
          clear xl xr
          obtain ⟨x, hx⟩ : ∃ x, l[k] = x := ⟨_, rfl⟩
          rw [hx] at x0 x1 x2 x3 x4 x5 x6
          have HX : Hid (∀ h : k < l.length, l[k]'h = x) := Lib.hid (fun _ => hx)
          have HLT := Lib.hid hlt
          have d1 : IntKind.i64.wrap ((k : Int) + 1) = (k : Int) + 1 := by have := HLI.out; rw [IntKind.wrap_i64]; omega
          have e1 : (k : Int) < l.length := by omega
          have e2 : (0 : Int) ≤ k := by omega
          subst hat
          clear hrt hx hlt hk
          go_upto_region 12 with (fail)
          obtain ⟨w7, hw7⟩ : ∃ V, V = wr.alloc (.cells #[.int .i64 x.f0.f0, .int .i64 x.f0.f1, .int .i64 x.f1, .int .i64 x.f2, .int .i64 x.f3, .slice A5 x.f4.length c5, .int .i64 x.f5] 44) := ⟨_, rfl⟩
          obtain ⟨B7, hB7⟩ : ∃ B, B = wr.heap.size := ⟨_, rfl⟩
          rw [← hw7, ← hB7]
          have hb : Below wr.heap.size wr w7 := by rw [hw7]; exact (Below.refl _ _).alloc (Nat.le_refl _) _
          have H7w7 : Hid (w7.heap[B7]? = some (.cells #[.int .i64 x.f0.f0, .int .i64 x.f0.f1, .int .i64 x.f1, .int .i64 x.f2, .int .i64 x.f3, .slice A5 x.f4.length c5, .int .i64 x.f5] 44)) := Lib.hid (by rw [hw7]; exact heap_new' _ _ _ hB7)
          have HBw7 := Lib.hid (HBwr.out.trans (hb.mono HBwr.out.size))
          clear hw7 hB7 hb HBwr x0 x1 x2 x3 x4 x5 x6 e1 e2
          have y70 : w7.cell? ⟨B7, 0, none⟩ = some (.int .i64 x.f0.f0) := cell_lit (i := 0) H7w7.out
          have y71 : w7.cell? ⟨B7, 1, none⟩ = some (.int .i64 x.f0.f1) := cell_lit (i := 1) H7w7.out
          go_wp2_with fail
          refine (rmay_clock _ x.f0.f0 x.f0.f1).mono ?_
          rintro e w8 ⟨rfl, hb⟩
          have HBw8 := Lib.hid (HBw7.out.trans (hb.mono HBw7.out.size))
          have H7w8 := Lib.hid ((hb.block _ (lt_of_blk H7w7.out)).trans H7w7.out)
          clear hb H7w7
          clear y70 y71
          have y70 : w8.cell? ⟨B7, 0, none⟩ = some (.int .i64 x.f0.f0) := cell_lit (i := 0) H7w8.out
          have y71 : w8.cell? ⟨B7, 1, none⟩ = some (.int .i64 x.f0.f1) := cell_lit (i := 1) H7w8.out
          have y72 : w8.cell? ⟨B7, 2, none⟩ = some (.int .i64 x.f1) := cell_lit (i := 2) H7w8.out
          have y73 : w8.cell? ⟨B7, 3, none⟩ = some (.int .i64 x.f2) := cell_lit (i := 3) H7w8.out
          have y74 : w8.cell? ⟨B7, 4, none⟩ = some (.int .i64 x.f3) := cell_lit (i := 4) H7w8.out
          have y75 : w8.cell? ⟨B7, 5, none⟩ = some (.slice A5 x.f4.length c5) := cell_lit (i := 5) H7w8.out
          have y76 : w8.cell? ⟨B7, 6, none⟩ = some (.int .i64 x.f5) := cell_lit (i := 6) H7w8.out
          clear H7w8
          cases hc : mayC x.f0.f0 x.f0.f1 with
          | false =>
            have HC := Lib.hid hc
            clear hc
            have HN : Hid (∀ h : k < l.length, mayT (l[k]'h) = false) := Lib.hid (fun h => by rw [HX.out h]; exact mayT_not (fun h => by obtain ⟨h0, h1, h2, h3, h4, h5⟩ := h; rw [HC.out] at h0; cases h0))
            go_wp2_with fail
            go_ret
            exact ⟨ret_rb ((mayTs_not (fun h => absurd (h.2.2.2.1 k HLT.out HLT.out) (by rw [HN.out HLT.out]; decide))).symm.trans HRR.out), HBw8.out⟩
          | true =>
            have HC := Lib.hid hc
            clear hc
            by_cases q1 : 1 ≤ x.f1
            · have b1 : decide (x.f1 < 1) = false := decide_eq_false (by omega)
              by_cases q2 : x.f1 ≤ x.f0.f0
              · have b2 : decide (x.f1 > x.f0.f0) = false := decide_eq_false (by omega)
                have b2' : decide (x.f0.f0 < x.f1) = false := decide_eq_false (by omega)
                by_cases q3 : 1 ≤ x.f4.length
                · have b3 : decide ((x.f4.length : Int) < 1) = false := decide_eq_false (by omega)
                  have b3' : decide (x.f4.length < 1) = false := decide_eq_false (by omega)
                  have b3'' : decide (x.f4.length = 0) = false := decide_eq_false (by omega)
                  by_cases q4 : x.f4.length ≤ 32
                  · have b4 : decide ((x.f4.length : Int) > 32) = false := decide_eq_false (by omega)
                    have b4' : decide (32 < x.f4.length) = false := decide_eq_false (by omega)
                    by_cases r1 : x.f3 = -1
                    · have a1 : (x.f3 == -1) = true := by rw [r1]; rfl
                      have a1' : decide (x.f3 ≥ 0) = false := decide_eq_false (by omega)
                      by_cases r2 : 0 ≤ x.f2
                      · have a2 : decide (x.f2 ≥ 0) = true := decide_eq_true (by omega)
                        have a2' : (x.f2 == -1) = false := beq_false_of_ne (by omega)
                        by_cases r3 : 1 ≤ x.f5
                        · have a3 : decide (x.f5 ≥ 1) = true := decide_eq_true (by omega)
                          by_cases r4 : x.f5 ≤ 32
                          · have a4 : decide (x.f5 ≤ 32) = true := decide_eq_true (by omega)
                            have HOKX : Hid (∀ h : k < l.length, mayT (l[k]'h) = true) := Lib.hid (fun h => by rw [HX.out h]; exact mayT_iff.2 ⟨HC.out, q1, q2, q3, q4, .inl ⟨r1, r2, r3, r4⟩⟩)
                            clear q1 q2 q3 q4 r1 r2 r3 r4
                            go_wp2_with fail
                            go_roundw
                            case rel => exact ⟨k + 1, by have := HLT.out; omega, by simp, HBw8, Lib.hid (tasksTo_succ HLT.out HK.out (HOKX.out HLT.out))⟩
                            case measure => have := HLT.out; simp [RowKit.intOf]; omega
                          · have a4 : decide (x.f5 ≤ 32) = false := decide_eq_false (by omega)
                            have HN : Hid (∀ h : k < l.length, mayT (l[k]'h) = false) := Lib.hid (fun h => by rw [HX.out h]; exact mayT_not (fun h => by obtain ⟨h0, h1, h2, h3, h4, h5⟩ := h; omega))
                            go_wp2_with fail
                            go_ret
                            exact ⟨ret_rb ((mayTs_not (fun h => absurd (h.2.2.2.1 k HLT.out HLT.out) (by rw [HN.out HLT.out]; decide))).symm.trans HRR.out), HBw8.out⟩
                        · have a3 : decide (x.f5 ≥ 1) = false := decide_eq_false (by omega)
                          have HN : Hid (∀ h : k < l.length, mayT (l[k]'h) = false) := Lib.hid (fun h => by rw [HX.out h]; exact mayT_not (fun h => by obtain ⟨h0, h1, h2, h3, h4, h5⟩ := h; omega))
                          go_wp2_with fail
                          go_ret
                          exact ⟨ret_rb ((mayTs_not (fun h => absurd (h.2.2.2.1 k HLT.out HLT.out) (by rw [HN.out HLT.out]; decide))).symm.trans HRR.out), HBw8.out⟩
                      · have a2 : decide (x.f2 ≥ 0) = false := decide_eq_false (by omega)
                        by_cases r3 : x.f2 = -1
                        · have a2' : (x.f2 == -1) = true := by rw [r3]; rfl
                          have HN : Hid (∀ h : k < l.length, mayT (l[k]'h) = false) := Lib.hid (fun h => by rw [HX.out h]; exact mayT_not (fun h => by obtain ⟨h0, h1, h2, h3, h4, h5⟩ := h; omega))
                          go_wp2_with fail
                          go_ret
                          exact ⟨ret_rb ((mayTs_not (fun h => absurd (h.2.2.2.1 k HLT.out HLT.out) (by rw [HN.out HLT.out]; decide))).symm.trans HRR.out), HBw8.out⟩
                        · have a2' : (x.f2 == -1) = false := beq_false_of_ne r3
                          have HN : Hid (∀ h : k < l.length, mayT (l[k]'h) = false) := Lib.hid (fun h => by rw [HX.out h]; exact mayT_not (fun h => by obtain ⟨h0, h1, h2, h3, h4, h5⟩ := h; omega))
                          go_wp2_with fail
                          go_ret
                          exact ⟨ret_rb ((mayTs_not (fun h => absurd (h.2.2.2.1 k HLT.out HLT.out) (by rw [HN.out HLT.out]; decide))).symm.trans HRR.out), HBw8.out⟩
                    · have a1 : (x.f3 == -1) = false := beq_false_of_ne r1
                      by_cases r2 : x.f2 = -1
                      · have a2 : (x.f2 == -1) = true := by rw [r2]; rfl
                        by_cases r3 : 0 ≤ x.f3
                        · have a3 : decide (x.f3 ≥ 0) = true := decide_eq_true (by omega)
                          by_cases r4 : x.f5 = 0
                          · have a4 : (x.f5 == 0) = true := by rw [r4]; rfl
                            by_cases q8 : x.f4.length = 1
                            · have z1 : ((x.f4.length : Int) == 1) = true := by rw [q8]; rfl
                              have z2 : (x.f4.length == 1) = true := by rw [q8]; rfl
                              have HOKX : Hid (∀ h : k < l.length, mayT (l[k]'h) = true) := Lib.hid (fun h => by rw [HX.out h]; exact mayT_iff.2 ⟨HC.out, q1, q2, q3, q4, .inr ⟨r1, r2, r3, r4, q8⟩⟩)
                              clear q1 q2 q3 q4 r1 r2 r3 r4 q8
                              go_wp2_with fail
                              go_roundw
                              case rel => exact ⟨k + 1, by have := HLT.out; omega, by simp, HBw8, Lib.hid (tasksTo_succ HLT.out HK.out (HOKX.out HLT.out))⟩
                              case measure => have := HLT.out; simp [RowKit.intOf]; omega
                            · have z1 : ((x.f4.length : Int) == 1) = false := beq_false_of_ne (by omega)
                              have z2 : (x.f4.length == 1) = false := beq_false_of_ne q8
                              have HN : Hid (∀ h : k < l.length, mayT (l[k]'h) = false) := Lib.hid (fun h => by rw [HX.out h]; exact mayT_not (fun h => by obtain ⟨h0, h1, h2, h3, h4, h5⟩ := h; omega))
                              go_wp2_with fail
                              go_ret
                              exact ⟨ret_rb ((mayTs_not (fun h => absurd (h.2.2.2.1 k HLT.out HLT.out) (by rw [HN.out HLT.out]; decide))).symm.trans HRR.out), HBw8.out⟩
                          · have a4 : (x.f5 == 0) = false := beq_false_of_ne r4
                            have HN : Hid (∀ h : k < l.length, mayT (l[k]'h) = false) := Lib.hid (fun h => by rw [HX.out h]; exact mayT_not (fun h => by obtain ⟨h0, h1, h2, h3, h4, h5⟩ := h; omega))
                            go_wp2_with fail
                            go_ret
                            exact ⟨ret_rb ((mayTs_not (fun h => absurd (h.2.2.2.1 k HLT.out HLT.out) (by rw [HN.out HLT.out]; decide))).symm.trans HRR.out), HBw8.out⟩
                        · have a3 : decide (x.f3 ≥ 0) = false := decide_eq_false (by omega)
                          have HN : Hid (∀ h : k < l.length, mayT (l[k]'h) = false) := Lib.hid (fun h => by rw [HX.out h]; exact mayT_not (fun h => by obtain ⟨h0, h1, h2, h3, h4, h5⟩ := h; omega))
                          go_wp2_with fail
                          go_ret
                          exact ⟨ret_rb ((mayTs_not (fun h => absurd (h.2.2.2.1 k HLT.out HLT.out) (by rw [HN.out HLT.out]; decide))).symm.trans HRR.out), HBw8.out⟩
                      · have a2 : (x.f2 == -1) = false := beq_false_of_ne r2
                        have HN : Hid (∀ h : k < l.length, mayT (l[k]'h) = false) := Lib.hid (fun h => by rw [HX.out h]; exact mayT_not (fun h => by obtain ⟨h0, h1, h2, h3, h4, h5⟩ := h; omega))
                        go_wp2_with fail
                        go_ret
                        exact ⟨ret_rb ((mayTs_not (fun h => absurd (h.2.2.2.1 k HLT.out HLT.out) (by rw [HN.out HLT.out]; decide))).symm.trans HRR.out), HBw8.out⟩
                  · have b4 : decide ((x.f4.length : Int) > 32) = true := decide_eq_true (by omega)
                    have b4' : decide (32 < x.f4.length) = true := decide_eq_true (by omega)
                    have HN : Hid (∀ h : k < l.length, mayT (l[k]'h) = false) := Lib.hid (fun h => by rw [HX.out h]; exact mayT_not (fun h => by obtain ⟨h0, h1, h2, h3, h4, h5⟩ := h; omega))
                    go_wp2_with fail
                    go_ret
                    exact ⟨ret_rb ((mayTs_not (fun h => absurd (h.2.2.2.1 k HLT.out HLT.out) (by rw [HN.out HLT.out]; decide))).symm.trans HRR.out), HBw8.out⟩
                · have b3 : decide ((x.f4.length : Int) < 1) = true := decide_eq_true (by omega)
                  have b3' : decide (x.f4.length < 1) = true := decide_eq_true (by omega)
                  have b3'' : decide (x.f4.length = 0) = true := decide_eq_true (by omega)
                  have HN : Hid (∀ h : k < l.length, mayT (l[k]'h) = false) := Lib.hid (fun h => by rw [HX.out h]; exact mayT_not (fun h => by obtain ⟨h0, h1, h2, h3, h4, h5⟩ := h; omega))
                  go_wp2_with fail
                  go_ret
                  exact ⟨ret_rb ((mayTs_not (fun h => absurd (h.2.2.2.1 k HLT.out HLT.out) (by rw [HN.out HLT.out]; decide))).symm.trans HRR.out), HBw8.out⟩
              · have b2 : decide (x.f1 > x.f0.f0) = true := decide_eq_true (by omega)
                have b2' : decide (x.f0.f0 < x.f1) = true := decide_eq_true (by omega)
                have HN : Hid (∀ h : k < l.length, mayT (l[k]'h) = false) := Lib.hid (fun h => by rw [HX.out h]; exact mayT_not (fun h => by obtain ⟨h0, h1, h2, h3, h4, h5⟩ := h; omega))
                go_wp2_with fail
                go_ret
                exact ⟨ret_rb ((mayTs_not (fun h => absurd (h.2.2.2.1 k HLT.out HLT.out) (by rw [HN.out HLT.out]; decide))).symm.trans HRR.out), HBw8.out⟩
            · have b1 : decide (x.f1 < 1) = true := decide_eq_true (by omega)
              have HN : Hid (∀ h : k < l.length, mayT (l[k]'h) = false) := Lib.hid (fun h => by rw [HX.out h]; exact mayT_not (fun h => by obtain ⟨h0, h1, h2, h3, h4, h5⟩ := h; omega))
              go_wp2_with fail
              go_ret
              exact ⟨ret_rb ((mayTs_not (fun h => absurd (h.2.2.2.1 k HLT.out HLT.out) (by rw [HN.out HLT.out]; decide))).symm.trans HRR.out), HBw8.out⟩
        · have e1 : ¬ ((k : Int) < l.length) := by omega
          obtain rfl : k = l.length := by omega
          have HTS := HK
          have HB3 := HBwr
          rename World => w3
          clear hlt hk HBwr HK
          have HI : Hid (∀ c ∈ ins, mayC c.f0 c.f1 = true) := Lib.hid (fun c hc => by obtain ⟨j, hj, rfl⟩ := List.getElem_of_mem hc; exact HINS.out j hj hj)
          have HTA : Hid (∀ t ∈ l, mayC t.f0.f0 t.f0.f1 = true) := Lib.hid (fun c hc => by obtain ⟨j, hj, rfl⟩ := List.getElem_of_mem hc; exact (mayT_iff.1 (HTS.out j hj hj)).1)
          go_wp2_with fail
          go_loopw [10] (fun i wr => ∃ k : Nat, k ≤ l.length ∧ i = .int .i64 k ∧ Hid (Below w.heap.size w wr) ∧ Hid (readsTo l ins k)) (fun i _ => l.length - (RowKit.intOf i).toNat)
          case atStart => exact ⟨0, Nat.zero_le _, rfl, HB3, Lib.hid (fun j _ h => absurd h (Nat.not_lt_zero _))⟩
          case round =>
            clear HB3 w3 e1
            obtain ⟨k, hk, rfl, HBwr, HK⟩ := hrel
            by_cases hlt : k < l.length
            · have HLT := Lib.hid hlt
              obtain ⟨x, hx⟩ : ∃ x, l[k] = x := ⟨_, rfl⟩
              have HX : Hid (∀ h : k < l.length, l[k]'h = x) := Lib.hid (fun _ => hx)
              have hxl := (mayT_iff (t := x)).1 (by rw [← HX.out hlt]; exact HTS.out k hlt hlt)
              have HXL : Hid (x.f4.length ≤ 32) := Lib.hid hxl.2.2.2.2.1
              have HPX : Hid (mayC x.f0.f0 x.f0.f1 = true) := Lib.hid hxl.1
              have HRT : Hid (rd_T44 l (k : Int) = x) := Lib.hid (by rw [← hx]; unfold rd_T44; rw [Int.toNat_natCast]; exact getD_eq _ _ _ hlt)
              have d1 : IntKind.i64.wrap ((k : Int) + 1) = (k : Int) + 1 := by have := HLI.out; rw [IntKind.wrap_i64]; omega
              have e1 : (k : Int) < l.length := by omega
              have e2 : (0 : Int) ≤ k := by omega
              clear hxl hx hlt hk
              go_wp2_with fail
              go_loopw [11] (fun i wr => ∃ j : Nat, j ≤ x.f4.length ∧ i = .int .i64 j ∧ Hid (Below w.heap.size w wr) ∧ Hid (rowTo l ins x j)) (fun i _ => x.f4.length - (RowKit.intOf i).toNat)
              case atStart => exact ⟨0, Nat.zero_le _, rfl, HBwr, Lib.hid (fun j _ h => absurd h (Nat.not_lt_zero _))⟩
              case round =>
                clear HBwr
                obtain ⟨j, hj, rfl, HBwr, HJ⟩ := hrel
                obtain ⟨at', A5, c5, hat, x0, x1, x2, x3, x4, x5, x6, xl, xr⟩ := at_T44 (Kd.C_below HR0.out HBwr.out) k (by omega) (by omega)
                rw [HRT.out, Int.toNat_natCast] at x0 x1 x2 x3 x4 x5 x6
                rw [HRT.out] at xr xl
                subst hat
                by_cases hlt : j < x.f4.length
                · have HLJ := Lib.hid hlt
                  obtain ⟨ar, A3, c3, A4, c4, har, y0, y1, y2, y3, y4, y5, yl3, yr3, yl4, yr4⟩ := at_T69 xr j (by omega) (by omega)
                  have hrt : rd_T69 x.f4 (j : Int) = x.f4[j] := by unfold rd_T69; rw [Int.toNat_natCast]; exact getD_eq _ _ _ hlt
                  rw [hrt, Int.toNat_natCast] at y0 y1 y2 y3 y4 y5
                  rw [hrt] at yr3 yr4
                  obtain ⟨y, hy⟩ : ∃ y, x.f4[j] = y := ⟨_, rfl⟩
                  rw [hy] at y0 y1 y2 y3 y4 y5 yr3 yr4
                  have HY : Hid (∀ h : j < x.f4.length, x.f4[j]'h = y) := Lib.hid (fun _ => hy)
                  have R3 := Lib.hid yr3
                  have R4 := Lib.hid yr4
                  have d2 : IntKind.i64.wrap ((j : Int) + 1) = (j : Int) + 1 := by have := HXL.out; rw [IntKind.wrap_i64]; omega
                  have e3 : (j : Int) < x.f4.length := by omega
                  have e4 : (0 : Int) ≤ j := by omega
                  subst har
                  clear hrt hy hlt hj yl3 yl4 yr3 yr4 xl xr
                  obtain ⟨rv, hrv⟩ : ∃ rv, rdOk l ins x y = rv := ⟨_, rfl⟩
                  have HRDV := Lib.hid hrv
                  have nx : (at'.add (k * 7)).block < wr.heap.size := World.block_lt_of_cell? _ _ x0
                  have ny : (ar.add (j * 6)).block < wr.heap.size := World.block_lt_of_cell? _ _ y0
                  clear hrv
                  go_upto_region 24 with (fail)
                  refine wp_region_held_drew (S := (fun w' => w'.cell? (at'.add (k * 7)) = some (.int .i64 x.f0.f0) ∧ w'.cell? ⟨(at'.add (k * 7)).block, (at'.add (k * 7)).off + 1, none⟩ = some (.int .i64 x.f0.f1) ∧ w'.cell? ⟨(at'.add (k * 7)).block, (at'.add (k * 7)).off + 2, none⟩ = some (.int .i64 x.f1) ∧ w'.cell? ⟨(at'.add (k * 7)).block, (at'.add (k * 7)).off + 3, none⟩ = some (.int .i64 x.f2) ∧ w'.cell? ⟨(at'.add (k * 7)).block, (at'.add (k * 7)).off + 4, none⟩ = some (.int .i64 x.f3) ∧ w'.cell? ⟨(at'.add (k * 7)).block, (at'.add (k * 7)).off + 5, none⟩ = some (.slice (some ar) x.f4.length c5) ∧ w'.cell? ⟨(at'.add (k * 7)).block, (at'.add (k * 7)).off + 6, none⟩ = some (.int .i64 x.f5) ∧ w'.cell? (ar.add (j * 6)) = some (.int .u8 y.f0) ∧ w'.cell? ⟨(ar.add (j * 6)).block, (ar.add (j * 6)).off + 1, none⟩ = some (.int .i64 y.f1) ∧ w'.cell? ⟨(ar.add (j * 6)).block, (ar.add (j * 6)).off + 2, none⟩ = some (.int .i64 y.f2) ∧ w'.cell? ⟨(ar.add (j * 6)).block, (ar.add (j * 6)).off + 3, none⟩ = some (.slice A3 y.f3.f0.length c3) ∧ w'.cell? ⟨(ar.add (j * 6)).block, (ar.add (j * 6)).off + 4, none⟩ = some (.slice A4 y.f3.f1.length c4) ∧ w'.cell? ⟨(ar.add (j * 6)).block, (ar.add (j * 6)).off + 5, none⟩ = some (.int .i64 y.f3.f2))) (by kernel_rfl) ?hS13 (fun hHeld => ?go13)
                  case hS13 =>
                    (try dsimp only)
                    try go_simp
                    try exact ⟨ext_cell x0, ext_cell x1, ext_cell x2, ext_cell x3, ext_cell x4, ext_cell x5, ext_cell x6, ext_cell y0, ext_cell y1, ext_cell y2, ext_cell y3, ext_cell y4, ext_cell y5⟩
                    try exact ⟨ext_cell x0, ext_cell y0⟩
                  case go13 =>
                  refine' wpAnyH_take (i := 0) (oi := ⟨_, _, _, _, _, _⟩) (v := ?v14) rfl (by kernel_rfl) (by kernel_rfl) (by kernel_rfl) (fun _ _ _ h => h) (Or.inl ⟨by rfl, ?hy14⟩) (by assumption) ?rest14
                  case hy14 =>
                    intro w hSw
                    (try dsimp only at hSw)
                    go_simp
                    try (with_reducible rfl)
                  case rest14 =>
                  (try simp only [Act.put, List.setIfInBounds_toArray, List.set_cons_zero, List.set_cons_succ])
                  refine' wpAnyH_take (i := 1) (oi := ⟨_, _, _, _, _, _⟩) (v := ?v15) rfl (by kernel_rfl) (by kernel_rfl) (by kernel_rfl) (fun _ _ _ h => h) (Or.inl ⟨by rfl, ?hy15⟩) (by assumption) ?rest15
                  case hy15 =>
                    intro w hSw
                    (try dsimp only at hSw)
                    go_simp
                    try (with_reducible rfl)
                  case rest15 =>
                  (try simp only [Act.put, List.setIfInBounds_toArray, List.set_cons_zero, List.set_cons_succ])
                  refine' wpAnyH_take (i := 2) (oi := ⟨_, _, _, _, _, _⟩) (v := ?v16) rfl (by kernel_rfl) (by kernel_rfl) (by kernel_rfl) (fun _ _ _ h => h) (Or.inl ⟨by rfl, ?hy16⟩) (by assumption) ?rest16
                  case hy16 =>
                    intro w hSw
                    (try dsimp only at hSw)
                    go_simp
                    try (with_reducible rfl)
                  case rest16 =>
                  (try simp only [Act.put, List.setIfInBounds_toArray, List.set_cons_zero, List.set_cons_succ])
                  refine' wpAnyH_take (i := 3) (oi := ⟨_, _, _, _, _, _⟩) (v := ?v17) rfl (by kernel_rfl) (by kernel_rfl) (by kernel_rfl) (fun _ _ _ h => h) (Or.inl ⟨by rfl, ?hy17⟩) (by assumption) ?rest17
                  case hy17 =>
                    intro w hSw
                    (try dsimp only at hSw)
                    go_simp
                    try (with_reducible rfl)
                  case rest17 =>
                  (try simp only [Act.put, List.setIfInBounds_toArray, List.set_cons_zero, List.set_cons_succ])
                  refine' wpAnyH_take (i := 4) (oi := ⟨_, _, _, _, _, _⟩) (v := ?v18) rfl (by kernel_rfl) (by kernel_rfl) (by kernel_rfl) (fun _ _ _ h => h) (Or.inl ⟨by rfl, ?hy18⟩) (by assumption) ?rest18
                  case hy18 =>
                    intro w hSw
                    (try dsimp only at hSw)
                    go_simp
                    try (with_reducible rfl)
                  case rest18 =>
                  (try simp only [Act.put, List.setIfInBounds_toArray, List.set_cons_zero, List.set_cons_succ])
                  refine' wpAnyH_take (i := 5) (oi := ⟨_, _, _, _, _, _⟩) (v := ?v19) rfl (by kernel_rfl) (by kernel_rfl) (by kernel_rfl) (fun _ _ _ h => h) (Or.inl ⟨by rfl, ?hy19⟩) (by assumption) ?rest19
                  case hy19 =>
                    intro w hSw
                    (try dsimp only at hSw)
                    go_simp
                    try (with_reducible rfl)
                  case rest19 =>
                  (try simp only [Act.put, List.setIfInBounds_toArray, List.set_cons_zero, List.set_cons_succ])
                  refine' wpAnyH_take (i := 6) (oi := ⟨_, _, _, _, _, _⟩) (v := ?v20) rfl (by kernel_rfl) (by kernel_rfl) (by kernel_rfl) (fun _ _ _ h => h) (Or.inl ⟨by rfl, ?hy20⟩) (by assumption) ?rest20
                  case hy20 =>
                    intro w hSw
                    (try dsimp only at hSw)
                    go_simp
                    try (with_reducible rfl)
                  case rest20 =>
                  (try simp only [Act.put, List.setIfInBounds_toArray, List.set_cons_zero, List.set_cons_succ])
                  refine' wpAnyH_take (i := 7) (oi := ⟨_, _, _, _, _, _⟩) (v := ?v21) rfl (by kernel_rfl) (by kernel_rfl) (by kernel_rfl) (fun _ _ _ h => h) (Or.inl ⟨by rfl, ?hy21⟩) (by assumption) ?rest21
                  case hy21 =>
                    intro w hSw
                    (try dsimp only at hSw)
                    go_simp
                    try (with_reducible rfl)
                  case rest21 =>
                  (try simp only [Act.put, List.setIfInBounds_toArray, List.set_cons_zero, List.set_cons_succ])
                  refine' wpAnyH_take (i := 8) (oi := ⟨_, _, _, _, _, _⟩) (v := ?v22) rfl (by kernel_rfl) (by kernel_rfl) (by kernel_rfl) (fun _ _ _ h => h) (Or.inl ⟨by rfl, ?hy22⟩) (by assumption) ?rest22
                  case hy22 =>
                    intro w hSw
                    (try dsimp only at hSw)
                    go_simp
                    try (with_reducible rfl)
                  case rest22 =>
                  (try simp only [Act.put, List.setIfInBounds_toArray, List.set_cons_zero, List.set_cons_succ])
                  refine' wpAnyH_take (i := 9) (oi := ⟨_, _, _, _, _, _⟩) (v := ?v23) rfl (by kernel_rfl) (by kernel_rfl) (by kernel_rfl) (fun _ _ _ h => h) (Or.inl ⟨by rfl, ?hy23⟩) (by assumption) ?rest23
                  case hy23 =>
                    intro w hSw
                    (try dsimp only at hSw)
                    go_simp
                    try (with_reducible rfl)
                  case rest23 =>
                  (try simp only [Act.put, List.setIfInBounds_toArray, List.set_cons_zero, List.set_cons_succ])
                  refine' wpAnyH_take (i := 10) (oi := ⟨_, _, _, _, _, _⟩) (v := ?v24) rfl (by kernel_rfl) (by kernel_rfl) (by kernel_rfl) (fun _ _ _ h => h) (Or.inl ⟨by rfl, ?hy24⟩) (by assumption) ?rest24
                  case hy24 =>
                    intro w hSw
                    (try dsimp only at hSw)
                    go_simp
                    try (with_reducible rfl)
                  case rest24 =>
                  (try simp only [Act.put, List.setIfInBounds_toArray, List.set_cons_zero, List.set_cons_succ])
                  refine' wpAnyH_take (i := 11) (oi := ⟨_, _, _, _, _, _⟩) (v := ?v25) rfl (by kernel_rfl) (by kernel_rfl) (by kernel_rfl) (fun _ _ _ h => h) (Or.inl ⟨by rfl, ?hy25⟩) (by assumption) ?rest25
                  case hy25 =>
                    intro w hSw
                    (try dsimp only at hSw)
                    go_simp
                    try (with_reducible rfl)
                  case rest25 =>
                  (try simp only [Act.put, List.setIfInBounds_toArray, List.set_cons_zero, List.set_cons_succ])
                  refine' wpAnyH_take (i := 12) (oi := ⟨_, _, _, _, _, _⟩) (v := ?v26) rfl (by kernel_rfl) (by kernel_rfl) (by kernel_rfl) (fun _ _ _ h => h) (Or.inl ⟨by rfl, ?hy26⟩) (by assumption) ?rest26
                  case hy26 =>
                    intro w hSw
                    (try dsimp only at hSw)
                    go_simp
                    try (with_reducible rfl)
                  case rest26 =>
                  (try simp only [Act.put, List.setIfInBounds_toArray, List.set_cons_zero, List.set_cons_succ])
                  refine' wpAnyH_take (i := 13) (oi := ⟨_, _, _, _, _, _⟩) (v := ?v27) rfl (by kernel_rfl) (by kernel_rfl) (by kernel_rfl) (fun _ _ _ h => h) (Or.inl ⟨by rfl, ?hy27⟩) (by assumption) ?rest27
                  case hy27 =>
                    intro w hSw
                    (try dsimp only at hSw)
                    go_simp
                    try (with_reducible rfl)
                  case rest27 =>
                  (try simp only [Act.put, List.setIfInBounds_toArray, List.set_cons_zero, List.set_cons_succ])
                  refine wpAnyH_ready (rs := [14]) (by kernel_rfl) (by simp) ?_
                  refine (AllReadyH.cons (o := ⟨_, _, _, _, _, _⟩) rfl (fun K hK => ?_) AllReadyH.nil)
                  go_simp
                  (go_at_call 27; ((with_reducible refine (rmr_any _ y x A3 A4 (some ar) (some at') A1 c3 c4 c5 c0 c1 l ins HI.out HTA.out HPX.out (Kd.C_below R3.out (by repeat (first | (with_reducible exact Below.refl _ _) | (with_reducible assumption) | (with_reducible refine below_drewN ?_ _) | (with_reducible refine Below.drew ?_) | (with_reducible refine below_ext_of ?_ (by first | exact Nat.le_refl _ | assumption | (simp only [World.size_alloc, World.size_setCell, size_ext, World.heap_drewN]; omega)) _ _) | (with_reducible refine Below.alloc ?_ (by first | exact Nat.le_refl _ | assumption | (simp only [World.size_alloc, World.size_setCell, size_ext, World.heap_drewN]; omega)) _) | (with_reducible refine Below.setCell ?_ (by first | exact Nat.le_refl _ | assumption | (simp only [World.size_alloc, World.size_setCell, size_ext, World.heap_drewN]; omega)) _)))) (Kd.C_below R4.out (by repeat (first | (with_reducible exact Below.refl _ _) | (with_reducible assumption) | (with_reducible refine below_drewN ?_ _) | (with_reducible refine Below.drew ?_) | (with_reducible refine below_ext_of ?_ (by first | exact Nat.le_refl _ | assumption | (simp only [World.size_alloc, World.size_setCell, size_ext, World.heap_drewN]; omega)) _ _) | (with_reducible refine Below.alloc ?_ (by first | exact Nat.le_refl _ | assumption | (simp only [World.size_alloc, World.size_setCell, size_ext, World.heap_drewN]; omega)) _) | (with_reducible refine Below.setCell ?_ (by first | exact Nat.le_refl _ | assumption | (simp only [World.size_alloc, World.size_setCell, size_ext, World.heap_drewN]; omega)) _)))) (Kd.C_below (Kd.C_below HR0.out HBwr.out) (by repeat (first | (with_reducible exact Below.refl _ _) | (with_reducible assumption) | (with_reducible refine below_drewN ?_ _) | (with_reducible refine Below.drew ?_) | (with_reducible refine below_ext_of ?_ (by first | exact Nat.le_refl _ | assumption | (simp only [World.size_alloc, World.size_setCell, size_ext, World.heap_drewN]; omega)) _ _) | (with_reducible refine Below.alloc ?_ (by first | exact Nat.le_refl _ | assumption | (simp only [World.size_alloc, World.size_setCell, size_ext, World.heap_drewN]; omega)) _) | (with_reducible refine Below.setCell ?_ (by first | exact Nat.le_refl _ | assumption | (simp only [World.size_alloc, World.size_setCell, size_ext, World.heap_drewN]; omega)) _)))) (Kd.C_below (Kd.C_below HR1.out HBwr.out) (by repeat (first | (with_reducible exact Below.refl _ _) | (with_reducible assumption) | (with_reducible refine below_drewN ?_ _) | (with_reducible refine Below.drew ?_) | (with_reducible refine below_ext_of ?_ (by first | exact Nat.le_refl _ | assumption | (simp only [World.size_alloc, World.size_setCell, size_ext, World.heap_drewN]; omega)) _ _) | (with_reducible refine Below.alloc ?_ (by first | exact Nat.le_refl _ | assumption | (simp only [World.size_alloc, World.size_setCell, size_ext, World.heap_drewN]; omega)) _) | (with_reducible refine Below.setCell ?_ (by first | exact Nat.le_refl _ | assumption | (simp only [World.size_alloc, World.size_setCell, size_ext, World.heap_drewN]; omega)) _))))).mono ?_)); rintro e wx ⟨rfl, hbx⟩; obtain ⟨X24, d24, rfl⟩ := below_ext hbx; clear hbx; (try rw [HRDV.out]); go_simp)
                  refine hK.out _ _ ?hS29 (fun hHeld2 => ?go29)
                  case hS29 =>
                    (try dsimp only)
                    try go_simp
                    try exact ⟨ext_cell x0, ext_cell x1, ext_cell x2, ext_cell x3, ext_cell x4, ext_cell x5, ext_cell x6, ext_cell y0, ext_cell y1, ext_cell y2, ext_cell y3, ext_cell y4, ext_cell y5⟩
                    try exact ⟨ext_cell x0, ext_cell y0⟩
                  case go29 =>
                  clear hK K
                  clear hHeld
                  have hHeld := hHeld2
                  clear hHeld2
                  (try simp only [Act.put, List.setIfInBounds_toArray, List.set_cons_zero, List.set_cons_succ])
                  refine' wpAnyH_take (i := 15) (oi := ⟨_, _, _, _, _, _⟩) (v := ?v30) rfl (by kernel_rfl) (by kernel_rfl) (by kernel_rfl) (fun _ _ _ h => h) (Or.inl ⟨by rfl, ?hy30⟩) (by assumption) ?rest30
                  case hy30 =>
                    intro w hSw
                    (try dsimp only at hSw)
                    go_simp
                    try (with_reducible rfl)
                  case rest30 =>
                  (try simp only [Act.put, List.setIfInBounds_toArray, List.set_cons_zero, List.set_cons_succ])
                  refine wpAnyH_done (by kernel_rfl) ?_ _
                  clear hHeld
                  go_upto_if 145 with (fail)
                  obtain ⟨w9, hw9⟩ : ∃ V, V = ext wr X24 d24 := ⟨_, rfl⟩
                  rw [← hw9]
                  have HBw9 : Hid (Below w.heap.size w w9) := Lib.hid (by rw [hw9]; exact HBwr.out.trans ((ext_below _ _ _).mono HBwr.out.size))
                  clear hw9 HBwr x0 x1 x2 x3 x4 x5 x6 y0 y1 y2 y3 y4 y5 R3 R4 nx ny
                  cases rv with
                  | false =>
                    go_wp2_with fail
                    go_ret
                    exact ⟨ret_rb ((mayTs_not (fun h => absurd (h.2.2.2.2 k HLT.out HLT.out) (by rw [HX.out HLT.out]; exact fun h2 => by have := tkOk_one h2 HLJ.out; rw [HY.out HLJ.out, HRDV.out] at this; cases this))).symm.trans HRR.out), HBw9.out⟩
                  | true =>
                    go_wp2_with fail
                    go_roundw
                    case rel => exact ⟨j + 1, by have := HLJ.out; omega, by simp, HBw9, Lib.hid (rowTo_succ HLJ.out HJ.out (by rw [HY.out HLJ.out]; exact HRDV.out))⟩
                    case measure => have := HLJ.out; simp [RowKit.intOf]; omega
                · have e3 : ¬ ((j : Int) < x.f4.length) := by omega
                  obtain rfl : j = x.f4.length := by omega
                  have HTK : Hid (∀ h : k < l.length, tkOk l ins (l[k]'h) = true) := Lib.hid (fun h => by rw [HX.out h]; exact tkOk_all HJ.out)
                  clear hlt hj xl xr
                  go_wp2_with fail
                  go_roundw
                  case rel => exact ⟨k + 1, by have := HLT.out; omega, by simp, HBwr, Lib.hid (readsTo_succ HLT.out HK.out (HTK.out HLT.out))⟩
                  case measure => have := HLT.out; simp [RowKit.intOf]; omega
            · have e1 : ¬ ((k : Int) < l.length) := by omega
              obtain rfl : k = l.length := by omega
              have HY : Hid (mayTs l ins = true) := Lib.hid (mayTs_yes HLI.out.1 HLI.out.2 HINS.out HTS.out HK.out)
              clear hlt hk
              go_wp2_with fail
              go_ret
              exact ⟨ret_rb (HY.out.symm.trans HRR.out), HBwr.out⟩
end Go.Proofs.Ytkabmpbfabgkfaa
