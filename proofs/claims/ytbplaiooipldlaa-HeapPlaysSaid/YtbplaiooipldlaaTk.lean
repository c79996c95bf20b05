/-
  heap.pile.take: the first job is taken, the last one takes its place and goes its way down.
  Conditions: the heap holds at least one job, and at most 4096.
-/
import Derived.Test.YtbplaiooipldlaaPu
import Derived.WalkKit
import Derived.WalkSpells
import Derived.WalkLawsBesides
import Derived.Deep.QuietTactic
import Derived.BigQuiet
import Derived.Lib.Hide
import Derived.Handy
import Derived.Deep.DeepCutAuto
import Derived.Deep.RegionLaw
import Derived.Deep.RegionHeld3
import Derived.BigRegion
set_option linter.unusedVariables false
set_option linter.unusedSimpArgs false
namespace Go.Proofs.Ytbplaiooipldlaa
open Go.RowKit Hp
attribute [local go_sem] setCell_drewN alloc_drewN size_ext ext_ext ext_drewN ext_drew drewN_ext drew_ext cell?_ext frozen?_ext setCell_ext cell?_past1 frozen?_past1 setCell_past1 cell?_past2 frozen?_past2 setCell_past2 cell?_past3 frozen?_past3 setCell_past3 cell?_past4 frozen?_past4 setCell_past4 cell?_past5 frozen?_past5 setCell_past5 cell?_past6 frozen?_past6 setCell_past6 cell?_past7 frozen?_past7 setCell_past7 cell?_past8 frozen?_past8 setCell_past8

theorem ext_drew' (w : World) : ext w #[] (w.drawn + 1) = w.drew := ext_nil w.drew
theorem low_if (ys : List Key) (n K N : Nat) (hK : K = 2 * n + 1) (hN : ys.length = N) : low ys n = if (decide (K + 1 < N) && less (at_ ys (K + 1)) (at_ ys K)) = true then K + 1 else K := by
  subst hK hN
  unfold low
  simp only [Bool.and_eq_true, decide_eq_true_eq]
theorem down_enough : ∀ (f g : Nat) (xs : List Key) (i : Nat), xs.length ≤ i + f → xs.length ≤ i + g → down f xs i = down g xs i := by
  intro f
  induction f with
  | zero => intro g xs i hf hg; rw [down_nil _ _ _ (by omega), down_nil _ _ _ (by omega)]
  | succ f ih =>
    intro g xs i hf hg
    cases g with
    | zero => rw [down_nil _ _ _ (by omega), down_nil _ _ _ (by omega)]
    | succ g =>
      rw [down_succ, down_succ]
      by_cases h0 : 2 * i + 1 ≥ xs.length
      · rw [if_pos h0, if_pos h0]
      · rw [if_neg h0, if_neg h0]
        obtain ⟨l1, l2, _⟩ := low_least xs i (by omega)
        rw [ih g (swap xs i (low xs i)) (low xs i) (by rw [swap_length]; omega) (by rw [swap_length]; omega)]
theorem six (wr : World) (g1 : Nat) (X : Array Obj) (d o1 o2 o3 o4 o5 o6 : Nat) (v1 v2 v3 v4 v5 v6 : Value) :
    Fr (fun k => g1 = k) wr (ext ((((((wr.setCell ⟨g1, o1, none⟩ v1).setCell ⟨g1, o2, none⟩ v2).setCell ⟨g1, o3, none⟩ v3).setCell ⟨g1, o4, none⟩ v4).setCell ⟨g1, o5, none⟩ v5).setCell ⟨g1, o6, none⟩ v6) X d) :=
  Fr.ext (((((((Fr.refl (fun k => g1 = k) wr).setCell _ _ _ (.inl rfl)).setCell _ _ _ (.inl rfl)).setCell _ _ _ (.inl rfl)).setCell _ _ _ (.inl rfl)).setCell _ _ _ (.inl rfl)).setCell _ _ _ (.inl rfl)) X d
theorem down_stop (ys : List Key) (n N q : Nat) (hl : ys.length = N) (hq : low ys n = q) (h : q < N → less (at_ ys q) (at_ ys n) = false) : down (N + 1) ys n = ys := by
  subst hl hq
  by_cases h0 : 2 * n + 1 < ys.length
  · rw [down_succ, if_neg (by omega), if_neg (by rw [h (low_least ys n h0).1]; decide)]
  · exact down_nil _ _ _ (by omega)
theorem down_go (ys : List Key) (n N q : Nat) (hl : ys.length = N) (hq : low ys n = q) (hn : n < q) (hqN : q < N) (h : less (at_ ys q) (at_ ys n) = true) : down (N + 1) ys n = down (N + 1) (swap ys n q) q := by
  have h0 : 2 * n + 1 < N := by
    unfold low at hq
    split at hq <;> omega
  subst hl hq
  rw [down_succ, if_neg (by omega), if_pos h]
  exact down_enough _ _ _ _ (by rw [swap_length]; omega) (by rw [swap_length]; omega)
set_option maxRecDepth 100000 in
set_option maxHeartbeats 20000000 in
theorem take_any (xs : List Key) (H : Nat) (v : Value) (most : Int) (w : World) (h : IsHeap w H v most xs) (h0 : 0 < xs.length) (hn : xs.length ≤ 4096) :
    Calls Try.prog 19 #[.pointer (some ⟨H, 0, none⟩)] w (fun e w' => e = .returned (.agg #[.int .i64 (at_ xs 0).due, .int .i64 (at_ xs 0).task, .int .i64 (at_ xs 0).n]) ∧ ∃ v', IsHeap w' H v' most (rest xs) ∧ (∀ j, foot H v' j → foot H v j ∨ w.heap.size ≤ j) ∧ Fr (foot H v) w w') := by
  obtain ⟨g1, cap1, rfl, hg, hgH, hcap, hcm⟩ := h.form h0
  obtain ⟨c0, c1, c2, cf⟩ := h.cells
  have hH := h.lt H (.inl rfl)
  have gf := h.frozen rfl
  obtain ⟨f1, f2, f3⟩ := h.rowE rfl 0 h0
  obtain ⟨l1, l2, l3⟩ := h.rowE rfl (xs.length - 1) (by omega)
  have Hh := Lib.hid h
  clear h
  obtain ⟨N, hN⟩ : ∃ N, xs.length = N + 1 := ⟨xs.length - 1, by omega⟩
  rw [hN] at c0 hcap hn l1 l2 l3 Hh ⊢
  rw [Nat.add_sub_cancel] at l1 l2 l3
  rw [Nat.zero_mul] at f1 f2 f3
  rw [Nat.zero_add] at f2 f3
  have b1 : (0 : Int) ≤ ↑N := by omega
  have b2 : (↑N : Int) < ↑N + 1 := by omega
  have b3 : (0 : Int) < ↑N + 1 := by omega
  have b4 : N < N + 1 := by omega
  have HNl := Lib.hid hN
  generalize ha : at_ xs 0 = a at *
  generalize hb : at_ xs N = b at *
  have Ha := Lib.hid ha
  have Hb := Lib.hid hb
  clear ha hb hN h0
  go_enter Try.func19, Try.ntmps19
  go_wp2_with fail
  have HA : Hid (Appended w (((((((w.setCell ⟨g1, 0, none⟩ (.int .i64 b.due)).setCell ⟨g1, 1, none⟩ (.int .i64 b.task)).setCell ⟨g1, 2, none⟩ (.int .i64 b.n)).setCell ⟨H, 0, none⟩ (.slice (some ⟨g1, 0, none⟩) N cap1)).alloc (.cells #[.int .i64 0, .int .i64 0, .int .i64 0] 31)).alloc (.cells #[.int .i64 a.due, .int .i64 a.task, .int .i64 a.n] 31)).drew.drew) H (.slice (some ⟨g1, 0, none⟩) (N + 1) cap1) most ((xs.set 0 b).take N) (.slice (some ⟨g1, 0, none⟩) N cap1)) := by
    have hl := HNl.out
    have h1 := (Hh.out.putAt hl 0 b).cutAt (by simpa using hl)
    refine Lib.hid ⟨?_, ?_, ?_⟩
    · exact h1.kept (Fp := fun _ => False) (((((Fr.refl _ _).alloc _).alloc _).drew).drew) (fun _ _ h => h)
    · intro j hj; exact .inl hj
    · exact (((((((Fr.refl _ w).setCell g1 0 _ (.inl (.inr rfl))).setCell g1 1 _ (.inl (.inr rfl))).setCell g1 2 _ (.inl (.inr rfl))).setCell H 0 _ (.inl (.inl rfl))).alloc _).alloc _).drew.drew
  have HR : Hid (down (N + 1) ((xs.set 0 b).take N) 0 = rest xs) := Lib.hid (by
    have hl := HNl.out
    unfold rest
    rw [hl, Nat.add_sub_cancel, Hb.out])
  have HL0 : Hid (((xs.set 0 b).take N).length = N) := Lib.hid (by have hl := HNl.out; simp; omega)
  go_region
  go_wp2_with fail
  go_region
  go_wp2_with fail
  clear c0 c1 c2 cf gf f1 f2 f3 l1 l2 l3 Hh
  go_loopw [5] (fun i wr => ∃ (n : Nat) (ys : List Key), i = .int .i64 (n : Int) ∧ n ≤ N ∧ Hid (ys.length = N) ∧ Hid (down (N + 1) ys n = rest xs) ∧ Hid (Appended w wr H (.slice (some ⟨g1, 0, none⟩) (N + 1) cap1) most ys (.slice (some ⟨g1, 0, none⟩) N cap1)) ∧
    w.heap.size + 1 < wr.heap.size ∧ wr.cell? ⟨w.heap.size + 1, 0, none⟩ = some (.int .i64 a.due) ∧ wr.cell? ⟨w.heap.size + 1, 1, none⟩ = some (.int .i64 a.task) ∧ wr.cell? ⟨w.heap.size + 1, 2, none⟩ = some (.int .i64 a.n) ∧ (∀ o, wr.frozen? ⟨w.heap.size, o, none⟩ = false) ∧ wr.cell? ⟨w.heap.size, 0, none⟩ = some (.int .i64 0) ∧ wr.cell? ⟨w.heap.size, 1, none⟩ = some (.int .i64 0) ∧ wr.cell? ⟨w.heap.size, 2, none⟩ = some (.int .i64 0)) (fun i _ => N + 1 - (intOf i).toNat)
  case atStart => exact ⟨0, _, rfl, by omega, HL0, HR, HA, by simp [go_sem], by simp [go_sem], by simp [go_sem], by simp [go_sem], fun o => by simp [go_sem], by simp [go_sem], by simp [go_sem], by simp [go_sem]⟩
  case round =>
    have HH0 := Lib.hid (And.intro hH hg)
    clear HA HR HL0 hH hg
    obtain ⟨n, ys, rfl, hnN, hl, hu, hW, hz, z0, z1, z2, yf, y0, y1, y2⟩ := hrel
    obtain ⟨hI, hN, hF⟩ := hW.out
    have hl2 := hl.out
    obtain ⟨c0, c1, c2, cf⟩ := hI.cells
    have hH := hI.lt H (.inl rfl)
    have hg := hI.lt g1 (.inr rfl)
    have gf := hI.frozen hl2
    have HI := Lib.hid hI
    have HN := Lib.hid hN
    have HF := Lib.hid hF
    clear hI hN hF hl2 hW
    have hz2 : w.heap.size < wr.heap.size := by omega
    go_wp2_with fail
    rw [show (2 * (n : Int) + 1) = ((2 * n + 1 : Nat) : Int) by omega]
    obtain ⟨K, hK⟩ : ∃ K, K = 2 * n + 1 := ⟨_, rfl⟩
    rw [← hK]
    have HK := Lib.hid hK
    have b5 : (0 : Int) ≤ ↑K := by omega
    have b6 : (0 : Int) ≤ ↑K + 1 := by omega
    have b7 : K < 8194 := by omega
    have w1 : IntKind.i64.wrap ((K : Int) + 1) = (K : Int) + 1 := by rw [IntKind.wrap_i64]; omega
    clear hK
    go_cut [68] (fun s wc => s = .bool (decide (K + 1 < N) && less (at_ ys (K + 1)) (at_ ys K)) ∧ ∃ X d, wc = ext wr X d)
    case first =>
      by_cases hc : K + 1 < N
      · have hl2 := hl.out
        obtain ⟨r1, r2, r3⟩ := HI.out.rowE hl2 (K + 1) (by omega)
        obtain ⟨q1, q2, q3⟩ := HI.out.rowE hl2 K (by omega)
        generalize at_ ys (K + 1) = x at *
        generalize at_ ys K = y at *
        have d1 : (↑K : Int) + 1 < ↑N := by omega
        have d2 : (↑K : Int) < ↑N := by omega
        have d3 : K < N := by omega
        have d4 := decide_eq_true d1
        have d5 := decide_eq_true hc
        clear hl2
        go_region_held3 (fun w' => w'.cell? ⟨H, 0, none⟩ = some (.slice (some ⟨g1, 0, none⟩) N cap1) ∧ w'.cell? ⟨H, 1, none⟩ = some (.func (.func 11) #[] #[]) ∧ w'.cell? ⟨g1, (K + 1) * 3, none⟩ = some (.int .i64 x.due) ∧ w'.cell? ⟨g1, (K + 1) * 3 + 1, none⟩ = some (.int .i64 x.task) ∧ w'.cell? ⟨g1, (K + 1) * 3 + 2, none⟩ = some (.int .i64 x.n) ∧ w'.cell? ⟨g1, K * 3, none⟩ = some (.int .i64 y.due) ∧ w'.cell? ⟨g1, K * 3 + 1, none⟩ = some (.int .i64 y.task) ∧ w'.cell? ⟨g1, K * 3 + 2, none⟩ = some (.int .i64 y.n)) (go_simp) (first
          | (go_at_call 11; refine (less_any x y _).mono ?_; rintro e w1 ⟨rfl, hbw⟩; obtain ⟨X, d, rfl⟩ := below_ext hbw; clear hbw))
        rename_i hHeld
        clear hHeld
        go_wp2_with fail
        go_meet
        case rel => exact ⟨by rw [d5, Bool.true_and], _, _, rfl⟩
      · have d1 : ¬ ((↑K : Int) + 1 < ↑N) := by omega
        have d4 := decide_eq_false d1
        have d5 := decide_eq_false hc
        go_region
        all_goals
          go_wp2_with fail
          go_meet
          case rel => exact ⟨by rw [d5, Bool.false_and], _, _, (ext_drew' wr).symm⟩
    case rest =>
    obtain ⟨rfl, X, d, rfl⟩ := hcut
    have Hlow := Lib.hid (low_if ys n K N HK.out hl.out)
    generalize (decide (K + 1 < N) && less (at_ ys (K + 1)) (at_ ys K)) = c at *
    obtain ⟨q, hq⟩ : ∃ q, q = if c = true then K + 1 else K := ⟨_, rfl⟩
    have Hq : Hid (low ys n = q) := Lib.hid (by rw [hq]; exact Hlow.out)
    have Hnq : Hid (n < q) := Lib.hid (by have := HK.out; rw [hq]; split <;> omega)
    have HQ := Lib.hid hq
    clear hq Hlow
    go_upto_if 68 with (fail)
    go_cut [6] (fun s wc => s = .int .i64 (q : Int) ∧ wc = ext wr X d)
    case first =>
      cases c
      · go_wp2_with fail
        go_meet
        case rel => exact ⟨by rw [HQ.out]; rfl, rfl⟩
      · go_wp2_with fail
        go_meet
        case rel => exact ⟨by rw [HQ.out]; rfl, rfl⟩
    case rest =>
    obtain ⟨rfl, rfl⟩ := hcut
    clear HQ
    go_wp2_with fail
    go_upto_region 8 with (fail)
    go_cut [95] (fun s wc => s = .bool (decide (N ≤ q) || !(less (at_ ys q) (at_ ys n))) ∧ ∃ X d, wc = ext wr X d)
    case first =>
      by_cases hqN : q < N
      · have hl2 := hl.out
        have hnq := Hnq.out
        obtain ⟨r1, r2, r3⟩ := HI.out.rowE hl2 q (by omega)
        obtain ⟨q1, q2, q3⟩ := HI.out.rowE hl2 n (by omega)
        generalize at_ ys q = x at *
        generalize at_ ys n = y at *
        have d1 : (↑q : Int) < ↑N := by omega
        have d2 : (0 : Int) ≤ ↑q := by omega
        have d3 : (0 : Int) ≤ ↑n := by omega
        have d4 : (↑n : Int) < ↑N := by omega
        have d5 : n < N := by omega
        have d6 : decide ((↑N : Int) ≤ ↑q) = false := decide_eq_false (by omega)
        have d7 : ¬ (N ≤ q) := by omega
        have d8 := decide_eq_false d7
        clear hl2
        go_region_held3 (fun w' => w'.cell? ⟨H, 0, none⟩ = some (.slice (some ⟨g1, 0, none⟩) N cap1) ∧ w'.cell? ⟨H, 1, none⟩ = some (.func (.func 11) #[] #[]) ∧ w'.cell? ⟨g1, q * 3, none⟩ = some (.int .i64 x.due) ∧ w'.cell? ⟨g1, q * 3 + 1, none⟩ = some (.int .i64 x.task) ∧ w'.cell? ⟨g1, q * 3 + 2, none⟩ = some (.int .i64 x.n) ∧ w'.cell? ⟨g1, n * 3, none⟩ = some (.int .i64 y.due) ∧ w'.cell? ⟨g1, n * 3 + 1, none⟩ = some (.int .i64 y.task) ∧ w'.cell? ⟨g1, n * 3 + 2, none⟩ = some (.int .i64 y.n)) (go_simp) (first
          | (go_at_call 11; refine (less_any x y _).mono ?_; rintro e w1 ⟨rfl, hbw⟩; obtain ⟨X1, e1, rfl⟩ := below_ext hbw; clear hbw))
        rename_i hHeld
        clear hHeld
        go_wp2_with fail
        go_meet
        case rel => exact ⟨by rw [d8, Bool.false_or], _, _, rfl⟩
      · have d6 : decide ((↑N : Int) ≤ ↑q) = true := decide_eq_true (by omega)
        have d7 : N ≤ q := by omega
        have d8 : (↑N : Int) ≤ ↑q := by omega
        have d9 := decide_eq_true d7
        go_region
        go_wp2_with fail
        go_meet
        case rel => exact ⟨by rw [d9, Bool.true_or], _, _, rfl⟩
    case rest =>
    clear X d
    obtain ⟨rfl, X, d, rfl⟩ := hcut
    obtain ⟨stop, hstop⟩ : ∃ stop, stop = (decide (N ≤ q) || !(less (at_ ys q) (at_ ys n))) := ⟨_, rfl⟩
    rw [← hstop]
    have HS := Lib.hid hstop
    clear hstop
    cases stop
    · have hs : q < N ∧ less (at_ ys q) (at_ ys n) = true := by simpa using HS.out.symm
      obtain ⟨hqN, hless⟩ := hs
      have hl2 := hl.out
      have hnq := Hnq.out
      obtain ⟨r1, r2, r3⟩ := HI.out.rowE hl2 q (by omega)
      obtain ⟨q1, q2, q3⟩ := HI.out.rowE hl2 n (by omega)
      generalize hx : at_ ys q = x at *
      generalize hy : at_ ys n = y at *
      have Hx := Lib.hid hx
      have Hy := Lib.hid hy
      have HL := Lib.hid hless
      have HqN := Lib.hid hqN
      have d1 : (↑q : Int) < ↑N := by omega
      have d2 : (0 : Int) ≤ ↑q := by omega
      have d3 : (0 : Int) ≤ ↑n := by omega
      have d4 : (↑n : Int) < ↑N := by omega
      have d5 : n < N := by omega
      clear hl2 hx hy hless
      go_wp2_with fail
      go_region
      go_wp2_with fail
      go_roundw
      case measure =>
        have h3 := Hnq.out
        simp only [intOf, Int.toNat_natCast]
        omega
      case rel =>
        have h1 := hl.out
        refine ⟨q, swap ys n q, rfl, by omega, Lib.hid (by rw [swap_length]; exact h1), Lib.hid ?_, Lib.hid ⟨?_, HN.out, ?_⟩, ?_, ?_, ?_, ?_, ?_, ?_, ?_, ?_⟩
        · rw [← hu.out]
          exact (down_go ys n N q h1 Hq.out Hnq.out HqN.out (by rw [Hx.out, Hy.out]; exact HL.out)).symm
        · refine IsHeap.kept (Fp := fun _ => False) ?_ (Fr.of_below (ext_below _ _ _)) (fun _ _ h => h)
          unfold swap
          rw [Hx.out, Hy.out]
          exact (HI.out.putAt h1 n x).putAt (by simpa using h1) q y
        · refine Fr.ext ?_ _ _
          refine HF.out.trans (b := wr) ?_ (G := fun k => g1 = k) ?_
          · exact ((((((Fr.refl (fun k => g1 = k) wr).setCell _ _ _ (.inl rfl)).setCell _ _ _ (.inl rfl)).setCell _ _ _ (.inl rfl)).setCell _ _ _ (.inl rfl)).setCell _ _ _ (.inl rfl)).setCell _ _ _ (.inl rfl)
          · intro j hj e
            subst e
            exact .inr rfl
        · exact Nat.lt_of_lt_of_le hz (six _ _ _ _ _ _ _ _ _ _ _ _ _ _ _ _).size
        · exact ((six _ _ _ _ _ _ _ _ _ _ _ _ _ _ _ _).cell _ _ hz (by have := HH0.out.2; show ¬ g1 = _; omega)).trans z0
        · exact ((six _ _ _ _ _ _ _ _ _ _ _ _ _ _ _ _).cell _ _ hz (by have := HH0.out.2; show ¬ g1 = _; omega)).trans z1
        · exact ((six _ _ _ _ _ _ _ _ _ _ _ _ _ _ _ _).cell _ _ hz (by have := HH0.out.2; show ¬ g1 = _; omega)).trans z2
        · intro o
          exact ((six _ _ _ _ _ _ _ _ _ _ _ _ _ _ _ _).frozen _ _ hz2 (by have := HH0.out.2; show ¬ g1 = _; omega)).trans (yf o)
        · exact ((six _ _ _ _ _ _ _ _ _ _ _ _ _ _ _ _).cell _ _ hz2 (by have := HH0.out.2; show ¬ g1 = _; omega)).trans y0
        · exact ((six _ _ _ _ _ _ _ _ _ _ _ _ _ _ _ _).cell _ _ hz2 (by have := HH0.out.2; show ¬ g1 = _; omega)).trans y1
        · exact ((six _ _ _ _ _ _ _ _ _ _ _ _ _ _ _ _).cell _ _ hz2 (by have := HH0.out.2; show ¬ g1 = _; omega)).trans y2
    · skip
      go_wp2_with fail
      refine bodyPost_ret (v := .agg #[.int .i64 a.due, .int .i64 a.task, .int .i64 a.n]) (by simp [results, Try.results19, go_sem, y0, y1, y2, hz2]) rfl ⟨rfl, .slice (some ⟨g1, 0, none⟩) N cap1, ?_, ?_, ?_⟩
      · rw [← hu.out, down_stop ys n N q hl.out Hq.out (fun h => by have hs := HS.out; rw [decide_eq_false (by omega), Bool.false_or] at hs; simpa using hs.symm)]
        refine HI.out.kept (Fp := fun k => k = w.heap.size) ?_ ?_
        · repeat (first | (with_reducible exact Fr.refl _ _) | (with_reducible apply Fr.ext) | (with_reducible apply Fr.drew) | (with_reducible refine Fr.setCell ?_ _ _ _ (.inl rfl)))
        · rintro j (rfl | hj) e
          · have := HH0.out.1; omega
          · cases hj; have := HH0.out.2; have e2 : g1 = w.heap.size := e; omega
      · exact HN.out
      · refine HF.out.trans (G := fun k => k = w.heap.size) ?_ (fun j hj e => by omega)
        repeat (first | (with_reducible exact Fr.refl _ _) | (with_reducible apply Fr.ext) | (with_reducible apply Fr.drew) | (with_reducible refine Fr.setCell ?_ _ _ _ (.inl rfl)))
end Go.Proofs.Ytbplaiooipldlaa
