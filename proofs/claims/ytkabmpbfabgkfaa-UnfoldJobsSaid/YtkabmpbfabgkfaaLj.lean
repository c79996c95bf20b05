/-
  The law UnfoldJobs.
  Conditions: the rows lie in memory; their numbers are int64s.
-/
import Derived.Test.YtkabmpbfabgkfaaLp
import Derived.Test.YtkabmpbfabgkfaaHv
import Derived.Test.YtkabmpbfabgkfaaWd
import Derived.WalkKit
import Derived.WalkSpells
import Derived.WalkLawsBesides
import Derived.Deep.QuietTactic
import Derived.BigQuiet
import Derived.Lib.Hide
import Derived.Handy
import Derived.Deep.AppendLies
import Derived.Maps.AppendAt
import Derived.OwnWalk
import Derived.Lib.LazyBuf
import Derived.Deep.DeepCutAuto
import Derived.Deep.RegionLaw
import Derived.Deep.RegionHeld3
import Derived.Deep.RegionWith
import Derived.BigRegion
import Derived.Deep.CutBlock
import Derived.LoopN
import Derived.Shelf.SlSortCmp.WholeK
import Derived.Shelf.SlSortCmp.NoneTotal
import Derived.Laws.AppendOwn
import Derived.Deep.CutRange
set_option linter.unusedVariables false
set_option linter.unusedSimpArgs false
namespace Go.Proofs.Ytkabmpbfabgkfaa
open Go.RowKit 
open Big
attribute [local go_sem] setCell_drewN alloc_drewN size_ext ext_ext ext_drewN ext_drew drewN_ext drew_ext cell?_ext frozen?_ext setCell_ext cell?_past1 frozen?_past1 setCell_past1 cell?_past2 frozen?_past2 setCell_past2 cell?_past3 frozen?_past3 setCell_past3 cell?_past4 frozen?_past4 setCell_past4 cell?_past5 frozen?_past5 setCell_past5 cell?_past6 frozen?_past6 setCell_past6 cell?_past7 frozen?_past7 setCell_past7 cell?_past8 frozen?_past8 setCell_past8
open Go.Proofs.Ytkabmpbfabgkfaa.P Go.Proofs.YtkabmpbfabgkfaaW.PrintWords Go.Proofs.YtkabmpbfabgkfaaW.PrintLast Go.Proofs.YtkabmpbfabgkfaaW.PrintMore
open Go.Shelf Go.Lib Go.Sort
theorem infoI : (Try.prog.info? 2).map (fun i => (i.zero, i.size, i.bytes)) = some (some (.int .i64 0), 1, 8) := by kernel_rfl
theorem rdate_any (w : World) (p s n D E : Int) (h1 : IntKind.i64.wrap (n * p) = D) (h2 : IntKind.i64.wrap (s + D) = E) : Calls Try.prog 17 #[.agg #[.int .i64 p, .int .i64 s], .int .i64 n] w fun e w' => e = .returned (.int .i64 E) ∧ Below w.heap.size w w' := by
  go_enter Try.func17, Try.ntmps17
  go_wp2_with fail
  go_ret
  exact ⟨rfl, by repeat (first | (with_reducible exact Below.refl _ _) | (with_reducible assumption) | (with_reducible refine below_drewN ?_ _) | (with_reducible refine Below.drew ?_) | (with_reducible refine below_ext_of ?_ (by first | exact Nat.le_refl _ | assumption | (simp only [World.size_alloc, World.size_setCell, size_ext, World.heap_drewN]; omega)) _ _) | (with_reducible refine Below.alloc ?_ (by first | exact Nat.le_refl _ | assumption | (simp only [World.size_alloc, World.size_setCell, size_ext, World.heap_drewN]; omega)) _) | (with_reducible refine Below.setCell ?_ (by first | exact Nat.le_refl _ | assumption | (simp only [World.size_alloc, World.size_setCell, size_ext, World.heap_drewN]; omega)) _))⟩
/-- The counts, as they stand in memory. -/
def nextV (B : List S60) (i L : Nat) : List Value := (List.range L).map fun k => Value.int .i64 (cntB B i k : Nat)
theorem nextV_get (B : List S60) (i L k : Nat) (h : k < L) : (nextV B i L)[k]? = some (.int .i64 (cntB B i k : Nat)) := by
  unfold nextV
  rw [List.getElem?_map, List.getElem?_range h]
  rfl
theorem nextV_zero (B : List S60) (L : Nat) : (madeCells (Value.int .i64 0).cells (L * 1)).toList = nextV B 0 L := by
  apply List.ext_getElem?
  intro k
  rcases Nat.lt_or_ge k L with h | h
  · rw [nextV_get _ _ _ _ h]
    have h1 : k < L * 1 := by omega
    simp [madeCells, Value.cells, cntB, h, Nat.mod_one]
  · rw [List.getElem?_eq_none (by simp [madeCells]; omega), List.getElem?_eq_none (by simp [nextV]; omega)]
theorem nextV_succ (B : List S60) (i L k : Nat) (hi : i < B.length) (hk : B[i].f0 = (k : Int)) (hL : k < L) : (nextV B i L).set k (.int .i64 ((cntB B i k : Nat) + 1 : Int)) = nextV B (i + 1) L := by
  apply List.ext_getElem?
  intro q
  rw [List.getElem?_set]
  rcases Nat.lt_or_ge q L with h | h
  · rw [nextV_get _ _ _ _ h]
    split
    · rename_i e
      subst e
      rw [if_pos (by simp [nextV]; exact hL), nextV_get _ _ _ _ h, cntB_succ B i k hi, if_pos hk]
      simp
    · rename_i e
      rw [nextV_get _ _ _ _ h, cntB_succ B i q hi, if_neg (by omega)]
      simp
  · rw [List.getElem?_eq_none (by simp [nextV]; omega)]
    split
    · rename_i e; omega
    · rw [List.getElem?_eq_none (by simp [nextV]; omega)]
theorem ext_cell {w : World} {X : Array Obj} {d : Nat} {p : Addr} {v : Value} (h : w.cell? p = some v) : (ext w X d).cell? p = some v := ((ext_below w X d).cell (World.block_lt_of_cell? w p h)).trans h
theorem block_add (a : Addr) (i : Nat) : (a.add i).block = a.block := by unfold Addr.add; split <;> rfl
theorem lt_block_add {W : World} {a : Addr} {i : Nat} {v : Value} (h : W.cell? (a.add i) = some v) : a.block < W.heap.size := by
  have := World.block_lt_of_cell? W _ h
  rwa [block_add] at this
theorem cntB_le (B : List S60) (i k : Nat) : cntB B i k ≤ B.length := by
  unfold cntB
  have h1 := List.length_filter_le (fun x : S60 => decide (x.f0 = (k : Int))) (B.take i)
  have h2 := List.length_take_le i B
  have h3 := List.length_take_le' i B
  omega
theorem below_mono {p s u U : Int} (hp : 1 ≤ p) (hu : u ≤ U) : belowN p s u ≤ belowN p s U := by
  have b1 := belowN_nonneg (s := s) (u := u) hp
  have b2 := belowN_nonneg (s := s) (u := U) hp
  rcases Int.lt_or_le (belowN p s U) (belowN p s u) with h | h
  · have h1 := (below_iff (s := s) (u := u) hp (belowN p s U).toNat).1 (by omega)
    have h2 := (below_iff (s := s) (u := U) hp (belowN p s U).toNat).2 (by omega)
    omega
  · exact h
theorem sumB_mono {u U : Int} (hu : u ≤ U) : ∀ (l : List S44) (n N M : Int), (∀ t ∈ l, mayC t.f0.f0 t.f0.f1 = true) → n ≤ N → sumB U l N = some M → ∃ m, sumB u l n = some m
  | [], n, N, M, _, _, _ => ⟨n, rfl⟩
  | t :: l, n, N, M, hl, hn, h => by
    simp only [sumB] at h ⊢
    have hb := below_mono (s := t.f0.f1) (mayC_spec (hl t List.mem_cons_self)).1 hu
    split at h
    · cases h
    · rw [if_neg (by omega)]
      exact sumB_mono hu l _ _ M (fun z hz => hl z (List.mem_cons_of_mem _ hz)) (by omega) h
theorem jobsF_two {l : List S44} {u U : Int} (h100 : l.length ≤ 100) (hu0 : 0 ≤ u) (hu : u ≤ U) (hU : U ≤ 131070) :
    (jobsF l u = ([], 2) ∧ jobsF l U = ([], 2)) ∨ (jobsF l u = ([], 4) ∧ jobsF l U = ([], 4)) ∨ (jobsF l u = (sortJ (jobsL u 0 l), 0) ∧ jobsF l U = ([], 4)) ∨
    ((∀ t ∈ l, mayC t.f0.f0 t.f0.f1 = true) ∧ jobsF l u = (sortJ (jobsL u 0 l), 0) ∧ jobsF l U = (sortJ (jobsL U 0 l), 0) ∧ (jobsL U 0 l).length ≤ 4096) := by
  have hF : ∀ v : Int, 0 ≤ v → v ≤ 131070 → jobsF l v = if l.any bad44 = true then (([], 2) : List S60 × Int) else match sumB v l 0 with | none => ([], 4) | some _ => (sortJ (jobsL v 0 l), 0) := fun v h0 h1 => by
    unfold jobsF
    rw [if_neg (by omega), if_neg (by omega), if_neg (by omega)]
    cases l.any bad44 <;> cases sumB v l 0 <;> rfl
  rw [hF u hu0 (by omega), hF U (by omega) hU]
  cases hb : l.any bad44 with
  | true => exact .inl ⟨rfl, rfl⟩
  | false =>
    have hl : ∀ t ∈ l, mayC t.f0.f0 t.f0.f1 = true := fun t ht => by
      have h1 := List.any_eq_false.1 hb t ht
      unfold bad44 at h1
      simpa using h1
    refine .inr ?_
    rw [if_neg (by decide), if_neg (by decide)]
    cases h1 : sumB u l 0 with
    | none =>
      cases h2 : sumB U l 0 with
      | none => exact .inl ⟨rfl, rfl⟩
      | some M =>
        obtain ⟨m, hm⟩ := sumB_mono hu l 0 0 M hl (Int.le_refl _) h2
        rw [h1] at hm
        cases hm
    | some m =>
      cases h2 : sumB U l 0 with
      | none => exact .inr (.inl ⟨rfl, rfl⟩)
      | some M =>
        have := sumB_len U l 0 0 M hl (by decide) h2
        exact .inr (.inr ⟨hl, rfl, rfl, by omega⟩)
theorem jobs_law {l : List S44} {u U : Int} (h100 : l.length ≤ 100) (hu0 : 0 ≤ u) (hu : u ≤ U) (hU : U ≤ 131070) :
    (jobsF l u = ([], 2) ∧ jobsF l U = ([], 2)) ∨ (jobsF l u = ([], 4) ∧ jobsF l U = ([], 4)) ∨ (∃ A, jobsF l u = (A, 0) ∧ jobsF l U = ([], 4)) ∨
    ((∀ t ∈ l, mayC t.f0.f0 t.f0.f1 = true) ∧ ∃ A B, jobsF l u = (A, 0) ∧ jobsF l U = (B, 0) ∧ A.length ≤ B.length ∧ B.length ≤ 4096 ∧
      (∀ (i : Nat) (hi : i < B.length), (i < A.length ↔ B[i].f2 < u) ∧ ((h : i < A.length) → A[i] = B[i])) ∧
      (∀ (i : Nat) (hi : i < B.length), ∃ (k : Nat) (hk : k < l.length), B[i] = jobOf k l[k] (cntB B i k) ∧ ((cntB B i k : Nat) : Int) < belowN l[k].f0.f0 l[k].f0.f1 U) ∧
      (∀ (i : Nat) (hi : i + 1 < B.length), B[i].f2 < B[i + 1].f2 ∨ B[i].f2 = B[i + 1].f2 ∧ B[i].f0 < B[i + 1].f0) ∧
      (∀ (k : Nat) (hk : k < l.length), U ≤ l[k].f0.f1 + (cntB B B.length k : Nat) * l[k].f0.f0)) := by
  rcases jobsF_two h100 hu0 hu hU with h | h | ⟨h1, h2⟩ | ⟨hl, h1, h2, h3⟩
  · exact .inl h
  · exact .inr (.inl h)
  · exact .inr (.inr (.inl ⟨_, h1, h2⟩))
  · exact .inr (.inr (.inr ⟨hl, _, _, h1, h2, jobs_len hl hu, by rw [sortJ_length]; exact h3, fun i hi => jobs_ahead hl hu i hi, fun i hi => jobs_at hl i hi, fun i hi => jobs_next hl i hi, fun k hk => jobs_end hl k hk⟩))
set_option maxRecDepth 100000 in
set_option maxHeartbeats 16000000 in
theorem UnfoldJobs_any (w : World) (A0 : Option Addr) (c0 : Nat) (l : List S44) (u m : Int) (hin : l.all inTask = true) (hr0 : Kd.C k44 w A0 l.length l) (hc0 : l.length ≤ c0) (hu0 : 0 ≤ u) (hu1 : u ≤ 65535) (hm0 : 0 ≤ m) (hm1 : m ≤ 65535) :
    Calls Try.prog 5 #[.slice A0 l.length c0, .int .u16 u, .int .u16 m] w fun e w' => e = .returned (.bool true) ∧ Below w.heap.size w w' := by
  obtain ⟨hv, hHV⟩ := Heavy_any w A0 c0 l hr0 hc0
  have HHV := Lib.hid hHV
  have HR := Lib.hid hr0
  have HIN := Lib.hid hin
  have hlen : l.length ≤ 9223372036854775807 := hr0.2.1
  clear hHV hr0 hin
  go_enter Try.func5, Try.ntmps5
  cases hv with
  | true =>
    go_wp2_with fail
    refine HHV.out.mono ?_
    rintro e W1 ⟨rfl, hb⟩
    have HB := Lib.hid hb
    clear hb
    go_wp2_with fail
    refine (works_any _).mono ?_
    rintro e W2 ⟨rfl, hb⟩
    have HB2 := Lib.hid (HB.out.trans (hb.mono HB.out.size))
    clear hb
    go_wp2_with fail
    go_ret
    exact ⟨rfl, HB2.out⟩
  | false =>
    by_cases h100 : 100 < l.length
    · have d1 : decide ((l.length : Int) > 100) = true := decide_eq_true (by omega)
      have d1' : decide (100 < (l.length : Int)) = true := decide_eq_true (by omega)
      go_wp2_with fail
      refine HHV.out.mono ?_
      rintro e W1 ⟨rfl, hb⟩
      have HB := Lib.hid hb
      clear hb
      go_wp2_with fail
      refine (works_any _).mono ?_
      rintro e W2 ⟨rfl, hb⟩
      have HB2 := Lib.hid (HB.out.trans (hb.mono HB.out.size))
      clear hb
      go_wp2_with fail
      go_ret
      exact ⟨rfl, HB2.out⟩
    · have d1 : decide ((l.length : Int) > 100) = false := decide_eq_false (by omega)
      have d1' : decide (100 < (l.length : Int)) = false := decide_eq_false (by omega)
      have H100 : Hid (l.length ≤ 100) := Lib.hid (by omega)
      clear h100
      go_wp2_with fail
      refine HHV.out.mono ?_
      rintro e W1 ⟨rfl, hb⟩
      have HB := Lib.hid hb
      clear hb HHV
      obtain ⟨U, hU⟩ : ∃ U, u + m = U := ⟨_, rfl⟩
      have hUW : IntKind.i64.wrap (u + m) = U := by rw [IntKind.wrap_i64]; omega
      have hUW' : IntKind.i64.wrap u = u := by rw [IntKind.wrap_i64]; omega
      have hMW' : IntKind.i64.wrap m = m := by rw [IntKind.wrap_i64]; omega
      have HU := Lib.hid (show 0 ≤ u ∧ u ≤ U ∧ U ≤ 131070 by omega)
      have HOK : Hid (∀ t ∈ l, ok44 t = true) := Lib.hid (fun t ht => (inTask_ok (List.all_eq_true.1 HIN.out t ht)).1)
      have HTWO := Lib.hid (jobs_law H100.out HU.out.1 HU.out.2.1 HU.out.2.2)
      clear hu0 hu1 hm0 hm1 hU
      go_wp2_with fail
      refine (Jobs_any _ A0 c0 l u HOK.out (Kd.C_below HR.out HB.out)).mono ?_
      rintro e W2 hJ
      rcases HTWO.out with ⟨h1, h2⟩ | ⟨h1, h2⟩ | ⟨A, h1, h2⟩ | ⟨hl, A, B, h1, h2, hLen, hBl, hFA, hFK, hFN, hFE⟩
      · rw [h1] at hJ
        obtain ⟨Aa, ca, rfl, ha, hb⟩ := hJ
        have HB2 := Lib.hid (HB.out.trans (hb.mono HB.out.size))
        clear ha hb
        go_wp2_with fail
        refine (Jobs_any _ A0 c0 l U HOK.out (Kd.C_below HR.out HB2.out)).mono ?_
        rintro e W3 hJ
        rw [h2] at hJ
        obtain ⟨Ab, cb, rfl, ha, hb⟩ := hJ
        have HB3 := Lib.hid (HB2.out.trans (hb.mono HB2.out.size))
        clear ha hb h1 h2
        go_wp2_with fail
        refine (works_any _).mono ?_
        rintro e W4 ⟨rfl, hb⟩
        have HB4 := Lib.hid (HB3.out.trans (hb.mono HB3.out.size))
        clear hb
        go_wp2_with fail
        go_ret
        exact ⟨rfl, HB4.out⟩
      · rw [h1] at hJ
        obtain ⟨Aa, ca, rfl, ha, hb⟩ := hJ
        have HB2 := Lib.hid (HB.out.trans (hb.mono HB.out.size))
        clear ha hb
        go_wp2_with fail
        refine (Jobs_any _ A0 c0 l U HOK.out (Kd.C_below HR.out HB2.out)).mono ?_
        rintro e W3 hJ
        rw [h2] at hJ
        obtain ⟨Ab, cb, rfl, ha, hb⟩ := hJ
        have HB3 := Lib.hid (HB2.out.trans (hb.mono HB2.out.size))
        clear ha hb h1 h2
        go_wp2_with fail
        refine (works_any _).mono ?_
        rintro e W4 ⟨rfl, hb⟩
        have HB4 := Lib.hid (HB3.out.trans (hb.mono HB3.out.size))
        clear hb
        go_wp2_with fail
        go_ret
        exact ⟨rfl, HB4.out⟩
      · rw [h1] at hJ
        obtain ⟨Aa, ca, rfl, ha, hb⟩ := hJ
        have HB2 := Lib.hid (HB.out.trans (hb.mono HB.out.size))
        clear ha hb
        go_wp2_with fail
        refine (Jobs_any _ A0 c0 l U HOK.out (Kd.C_below HR.out HB2.out)).mono ?_
        rintro e W3 hJ
        rw [h2] at hJ
        obtain ⟨Ab, cb, rfl, ha, hb⟩ := hJ
        have HB3 := Lib.hid (HB2.out.trans (hb.mono HB2.out.size))
        clear ha hb h1 h2
        go_wp2_with fail
        refine (works_any _).mono ?_
        rintro e W4 ⟨rfl, hb⟩
        have HB4 := Lib.hid (HB3.out.trans (hb.mono HB3.out.size))
        clear hb
        go_wp2_with fail
        go_ret
        exact ⟨rfl, HB4.out⟩
      · rw [h1] at hJ
        obtain ⟨Aa, ca, rfl, ha, hb⟩ := hJ
        have HB2 := Lib.hid (HB.out.trans (hb.mono HB.out.size))
        have HA := Lib.hid ha
        have H2 := Lib.hid h2
        have HL := Lib.hid hl
        have HLEN := Lib.hid hLen
        have HBL := Lib.hid hBl
        have HFA := Lib.hid hFA
        have HFK := Lib.hid hFK
        have HFN := Lib.hid hFN
        have HFE := Lib.hid hFE
        clear ha hb h1 h2 hl hLen hBl hFA hFK hFN hFE
        go_wp2_with fail
        refine (Jobs_any _ A0 c0 l U HOK.out (Kd.C_below HR.out HB2.out)).mono ?_
        rintro e W3 hJ
        rw [H2.out] at hJ
        obtain ⟨Ab, cb, rfl, ha, hb⟩ := hJ
        have HB3 := Lib.hid (HB2.out.trans (hb.mono HB2.out.size))
        have HA3 := Lib.hid (Kd.C_below HA.out hb)
        have HBB := Lib.hid ha
        clear ha hb H2 HA HB2 HB HTWO
        have d2 : decide ((A.length : Int) > B.length) = false := decide_eq_false (by have := HLEN.out; omega)
        have d2a : decide (B.length < A.length) = false := decide_eq_false (by have := HLEN.out; omega)
        have d2b : decide ((B.length : Int) < A.length) = false := decide_eq_false (by have := HLEN.out; omega)
        obtain ⟨i0, ii, z0, z1, z2⟩ := info_parts infoI
        obtain ⟨w1, hmk, hown, hgrow⟩ := run_makeSlice_full (P := Try.prog) W3 W3.heap.size 58 2 i0 (.int .i64 0) 1 Try.underlying58 ii z0 z1 .i64 .i64 l.length (by have := H100.out; omega) (by rw [z2]; have := H100.out; omega) (by have := H100.out; unfold maxLen; omega) (Nat.le_refl _)
        have HO : Hid (w1.ownsRow W3.heap.size 2 1 (.slice (some ⟨W3.heap.size, 0, none⟩) l.length l.length) l.length (nextV B 0 l.length)) := Lib.hid (by rw [← nextV_zero]; exact hown)
        have HB4 := Lib.hid (Below.grown (Below.refl W3.heap.size W3) hgrow (Nat.le_refl _) (fun k hk => by cases hk))
        clear hown hgrow ii z0 z1 z2
        go_wp2_with fail
        clear hmk d1 d1' d2 d2a d2b hlen
        go_loopw [12] (fun i wr => ∃ (n : Nat), n ≤ B.length ∧ i = .int .i64 n ∧ wr.ownsRow W3.heap.size 2 1 (.slice (some ⟨W3.heap.size, 0, none⟩) l.length l.length) l.length (nextV B n l.length) ∧ Below W3.heap.size W3 wr) (fun i _ => B.length - (RowKit.intOf i).toNat)
        case atStart => exact ⟨0, Nat.zero_le _, rfl, HO.out, HB4.out⟩
        case round =>
          clear HO HB4 w1
          obtain ⟨n, hn, rfl, hown, hb⟩ := hrel
          have HO := Lib.hid hown
          have HB := Lib.hid hb
          have HNN := Lib.hid hn
          clear hown hb hn
          by_cases hlt : n < B.length
          · obtain ⟨k, hk, hj, hcb⟩ := HFK.out n hlt
            obtain ⟨hpre, hsame⟩ := HFA.out n hlt
            have hmay := HL.out _ (List.getElem_mem hk)
            obtain ⟨p1, p2, t1, t2⟩ := mayC_spec hmay
            have hRlt := (below_iff (s := l[k].f0.f1) (u := U) p1 (cntB B n k)).1 hcb
            have hset := nextV_succ B n l.length k hlt (by rw [hj]; rfl) hk
            have hcell : wr.cell? ((⟨W3.heap.size, 0, none⟩ : Addr).add k) = some (.int .i64 (cntB B n k : Nat)) := HO.out.cells rfl k _ (nextV_get _ _ _ _ hk)
            rw [Addr.add_lit, Nat.zero_add] at hcell
            obtain ⟨c, hc⟩ : ∃ c, cntB B n k = c := ⟨_, rfl⟩
            rw [hc] at hj hcb hRlt hset hcell
            have hD0 : 0 ≤ (c : Int) * l[k].f0.f0 := Int.mul_nonneg (by omega) (by omega)
            obtain ⟨D, hD⟩ : ∃ D, (c : Int) * l[k].f0.f0 = D := ⟨_, rfl⟩
            unfold jobOf at hj
            rw [hD] at hj hRlt hD0
            obtain ⟨R, hR⟩ : ∃ R, l[k].f0.f1 + D = R := ⟨_, rfl⟩
            rw [hR] at hj hRlt
            obtain ⟨E, hE⟩ : ∃ E, IntKind.i64.wrap (R + l[k].f1) = E := ⟨_, rfl⟩
            rw [hE] at hj
            have hU2 := HU.out
            have W1 : Hid (IntKind.i64.wrap ((c : Int) * l[k].f0.f0) = D) := Lib.hid (by rw [hD, IntKind.wrap_i64]; omega)
            have W2 : Hid (IntKind.i64.wrap (l[k].f0.f1 + D) = R) := Lib.hid (by rw [hR, IntKind.wrap_i64]; omega)
            rw [hj] at hpre hsame
            have HPRE : Hid (n < A.length ↔ R < u) := Lib.hid hpre
            have HSAME : Hid (∀ h : n < A.length, A[n] = ⟨k, c, R, E⟩) := Lib.hid hsame
            have HJ := Lib.hid hj
            have HSET := Lib.hid hset
            have HC := Lib.hid hc
            have hRD := Lib.hid hRlt
            have HD := Lib.hid hD
            have HRR := Lib.hid hR
            obtain ⟨ab, hab, b0, b1, b2, b3⟩ := at_T60 HBB.out n (by omega) (by omega)
            have hrd : rd_T60 B (n : Int) = B[n] := by unfold rd_T60; rw [Int.toNat_natCast]; exact getD_eq _ _ _ hlt
            rw [hrd, HJ.out, Int.toNat_natCast] at b0 b1 b2 b3
            dsimp only at b0 b1 b2 b3
            obtain ⟨at', A5, c5, hat, x0, x1, x2, x3, x4, x5, x6, xl, xr⟩ := at_T44 (Kd.C_below HR.out HB3.out) k (by omega) (by omega)
            have hrt : rd_T44 l (k : Int) = l[k] := by unfold rd_T44; rw [Int.toNat_natCast]; exact getD_eq _ _ _ hk
            rw [hrt, Int.toNat_natCast] at x0 x1 x2
            clear x3 x4 x5 x6 xl xr
            generalize l[k] = x at *
            have e1 : (n : Int) < B.length := by omega
            have e2 : (0 : Int) ≤ n := by omega
            have e3 : decide ((k : Int) < 0) = false := decide_eq_false (by omega)
            have e4 : decide ((k : Int) ≥ l.length) = false := decide_eq_false (by omega)
            have e4a : decide (l.length ≤ k) = false := decide_eq_false (by omega)
            have e5 : (k : Int) < l.length := by omega
            have e6 : (0 : Int) ≤ k := by omega
            have e7 : decide (R ≥ U) = false := decide_eq_false (by omega)
            have HB0 := Lib.hid (And.intro b0 (And.intro b1 (And.intro b2 b3)))
            have HX0 := Lib.hid (And.intro x0 (And.intro x1 x2))
            clear hrd hrt hpre hsame hj hset hc hRlt hD hR hD0 hcb p1 p2 t1 t2 hU2 hmay x0 x1 x2
            replace b0 := keepc (Nat.le_refl _) HB.out b0
            replace b1 := keepc (Nat.le_refl _) HB.out b1
            replace b2 := keepc (Nat.le_refl _) HB.out b2
            replace b3 := keepc (Nat.le_refl _) HB.out b3
            subst hab
            subst hat
            go_upto_region 14 with (fail)
            obtain ⟨V, hV⟩ : ∃ V, V = wr.alloc (.cells #[.int .i64 k, .int .i64 c, .int .i64 R, .int .i64 E] 60) := ⟨_, rfl⟩
            obtain ⟨B13, hB13⟩ : ∃ B, B = wr.heap.size := ⟨_, rfl⟩
            rw [← hV, ← hB13]
            have HBV : Hid (Below W3.heap.size W3 V) := Lib.hid (by rw [hV]; exact HB.out.alloc HB.out.size _)
            have H13 : Hid (V.heap[B13]? = some (.cells #[.int .i64 k, .int .i64 c, .int .i64 R, .int .i64 E] 60)) := Lib.hid (by rw [hV]; exact heap_new' _ _ _ hB13)
            have HOV := Lib.hid (show V.ownsRow W3.heap.size 2 1 (.slice (some ⟨W3.heap.size, 0, none⟩) l.length l.length) l.length (nextV B n l.length) from by rw [hV]; exact HO.out.alloc _)
            have hcV : V.cell? ⟨W3.heap.size, k, none⟩ = some (.int .i64 c) := by
              have h1 := HOV.out.cells rfl k _ (nextV_get _ _ _ _ hk)
              rw [Addr.add_lit, Nat.zero_add, HC.out] at h1
              exact h1
            have hfV : ∀ o, V.frozen? ⟨W3.heap.size, o, none⟩ = false := fun o => by
              rcases HOV.out.2 with ⟨hv, _⟩ | ⟨g, cap, cur, hv, _, hg, _⟩
              · cases hv
              · cases hv; simp [World.frozen?, hg]
            have y0 : V.cell? ⟨B13, 0, none⟩ = some (.int .i64 k) := cell_lit (i := 0) H13.out
            have y1 : V.cell? ⟨B13, 1, none⟩ = some (.int .i64 c) := cell_lit (i := 1) H13.out
            have y2 : V.cell? ⟨B13, 2, none⟩ = some (.int .i64 R) := cell_lit (i := 2) H13.out
            have y3 : V.cell? ⟨B13, 3, none⟩ = some (.int .i64 E) := cell_lit (i := 3) H13.out
            have g13 : W3.heap.size ≠ B13 := by have := HO.out; rcases this.2 with ⟨hv, _⟩ | ⟨g, cap, cur, hv, _, hg, _⟩; · cases hv
                                                · cases hv; have := lt_of_blk hg; omega
            clear hV hB13 HO HB b0 b1 b2 b3 hcell wr
            have c1 : IntKind.i64.wrap ((c : Int) + 1) = (c : Int) + 1 := by rw [IntKind.wrap_i64]; have := HBL.out; have := cntB_le B n k; have := HC.out; omega
            go_cut [106] from 73 to 105 (fun s106 w' => s106 = .bool false ∧ ∃ nq, w' = V.drewN nq)
            case first =>
              by_cases hA : n < A.length
              · have f1 : (n : Int) < A.length := by omega
                obtain ⟨aa, haa, a0, a1, a2, a3⟩ := at_T60 HA3.out n (by omega) (by omega)
                have hra : rd_T60 A (n : Int) = A[n] := by unfold rd_T60; rw [Int.toNat_natCast]; exact getD_eq _ _ _ hA
                rw [hra, HSAME.out hA, Int.toNat_natCast] at a0 a1 a2 a3
                dsimp only at a0 a1 a2 a3
                replace a0 := keepc (Nat.le_refl _) HBV.out a0
                replace a1 := keepc (Nat.le_refl _) HBV.out a1
                replace a2 := keepc (Nat.le_refl _) HBV.out a2
                replace a3 := keepc (Nat.le_refl _) HBV.out a3
                have f2 : decide (R < u) = true := decide_eq_true (HPRE.out.1 hA)
                subst haa
                clear hra hA
                go_quiet (fail)
                go_wp2_with fail
                go_meet
                case rel => exact ⟨rfl, _, rfl⟩
              · have f1 : ¬ ((n : Int) < A.length) := by omega
                have f2 : decide (R < u) = false := decide_eq_false (fun h => hA (HPRE.out.2 h))
                clear hA
                go_quiet (fail)
                go_wp2_with fail
                go_meet
                case rel => exact ⟨rfl, _, rfl⟩
            case rest =>
            obtain ⟨rfl, nq, rfl⟩ := hcut
            have f2 : decide (R < u) = decide (n < A.length) := decide_eq_decide.2 HPRE.out.symm
            have f3 : decide ((n : Int) < A.length) = decide (n < A.length) := decide_eq_decide.2 (by omega)
            go_wp2_with fail
            obtain ⟨V2, hV2⟩ : ∃ V2, V2 = (V.setCell ⟨W3.heap.size, k, none⟩ (.int .i64 ((c : Int) + 1))).drewN nq := ⟨_, rfl⟩
            rw [← hV2]
            have HBV2 : Hid (Below W3.heap.size W3 V2) := Lib.hid (by rw [hV2]; exact below_drewN (below_set HBV.out (Nat.le_refl _)) _)
            have HO2 : Hid (V2.ownsRow W3.heap.size 2 1 (.slice (some ⟨W3.heap.size, 0, none⟩) l.length l.length) l.length (nextV B (n + 1) l.length)) := Lib.hid (by
              rw [hV2, ← HSET.out]
              exact (HOV.out.stored k (.int .i64 ((c : Int) + 1))).1)
            have H132 : Hid (V2.heap[B13]? = some (.cells #[.int .i64 k, .int .i64 c, .int .i64 R, .int .i64 E] 60)) := Lib.hid (by rw [hV2]; exact (set_oth' g13).trans H13.out)
            clear hV2 hcV hfV y0 y1 y2 y3 HOV H13 HBV V
            have y0 : V2.cell? ⟨B13, 0, none⟩ = some (.int .i64 k) := cell_lit (i := 0) H132.out
            have y1 : V2.cell? ⟨B13, 1, none⟩ = some (.int .i64 c) := cell_lit (i := 1) H132.out
            have y2 : V2.cell? ⟨B13, 2, none⟩ = some (.int .i64 R) := cell_lit (i := 2) H132.out
            have y3 : V2.cell? ⟨B13, 3, none⟩ = some (.int .i64 E) := cell_lit (i := 3) H132.out
            have x0 := keepc (Nat.le_refl _) HBV2.out HX0.out.1
            have x1 := keepc (Nat.le_refl _) HBV2.out HX0.out.2.1
            have x2 := keepc (Nat.le_refl _) HBV2.out HX0.out.2.2
            have n13 := lt_of_blk H132.out
            have nat' : at'.block < V2.heap.size := lt_block_add x0
            refine wp_region_held_drew (S := (fun w' => w'.cell? ⟨B13, 0, none⟩ = some (.int .i64 k) ∧ w'.cell? ⟨B13, 1, none⟩ = some (.int .i64 c) ∧ w'.cell? ⟨B13, 2, none⟩ = some (.int .i64 R) ∧ w'.cell? ⟨B13, 3, none⟩ = some (.int .i64 E) ∧ w'.cell? (at'.add (k * 7)) = some (.int .i64 x.f0.f0) ∧ w'.cell? ⟨(at'.add (k * 7)).block, (at'.add (k * 7)).off + 1, none⟩ = some (.int .i64 x.f0.f1) ∧ w'.cell? ⟨(at'.add (k * 7)).block, (at'.add (k * 7)).off + 2, none⟩ = some (.int .i64 x.f1))) (by kernel_rfl) ?hS73 (fun hHeld => ?go73)
            case hS73 =>
              (try dsimp only)
              try go_simp
              try exact ⟨ext_cell x0, ext_cell x1, ext_cell x2⟩
            case go73 =>
            refine' wpAnyH_take (i := 0) (oi := ⟨_, _, _, _, _, _⟩) (v := ?v74) rfl (by kernel_rfl) (by kernel_rfl) (by kernel_rfl) (fun _ _ _ h => h) (Or.inl ⟨by rfl, ?hy74⟩) (by assumption) ?rest74
            case hy74 =>
              intro w hSw
              (try dsimp only at hSw)
              go_simp
              try (with_reducible rfl)
            case rest74 =>
            (try simp only [Act.put, List.setIfInBounds_toArray, List.set_cons_zero, List.set_cons_succ])
            refine' wpAnyH_take (i := 1) (oi := ⟨_, _, _, _, _, _⟩) (v := ?v75) rfl (by kernel_rfl) (by kernel_rfl) (by kernel_rfl) (fun _ _ _ h => h) (Or.inl ⟨by rfl, ?hy75⟩) (by assumption) ?rest75
            case hy75 =>
              intro w hSw
              (try dsimp only at hSw)
              go_simp
              try (with_reducible rfl)
            case rest75 =>
            (try simp only [Act.put, List.setIfInBounds_toArray, List.set_cons_zero, List.set_cons_succ])
            refine' wpAnyH_take (i := 2) (oi := ⟨_, _, _, _, _, _⟩) (v := ?v76) rfl (by kernel_rfl) (by kernel_rfl) (by kernel_rfl) (fun _ _ _ h => h) (Or.inl ⟨by rfl, ?hy76⟩) (by assumption) ?rest76
            case hy76 =>
              intro w hSw
              (try dsimp only at hSw)
              go_simp
              try (with_reducible rfl)
            case rest76 =>
            (try simp only [Act.put, List.setIfInBounds_toArray, List.set_cons_zero, List.set_cons_succ])
            refine' wpAnyH_take (i := 3) (oi := ⟨_, _, _, _, _, _⟩) (v := ?v77) rfl (by kernel_rfl) (by kernel_rfl) (by kernel_rfl) (fun _ _ _ h => h) (Or.inl ⟨by rfl, ?hy77⟩) (by assumption) ?rest77
            case hy77 =>
              intro w hSw
              (try dsimp only at hSw)
              go_simp
              try (with_reducible rfl)
            case rest77 =>
            (try simp only [Act.put, List.setIfInBounds_toArray, List.set_cons_zero, List.set_cons_succ])
            refine' wpAnyH_take (i := 4) (oi := ⟨_, _, _, _, _, _⟩) (v := ?v78) rfl (by kernel_rfl) (by kernel_rfl) (by kernel_rfl) (fun _ _ _ h => h) (Or.inl ⟨by rfl, ?hy78⟩) (by assumption) ?rest78
            case hy78 =>
              intro w hSw
              (try dsimp only at hSw)
              go_simp
              try (with_reducible rfl)
            case rest78 =>
            (try simp only [Act.put, List.setIfInBounds_toArray, List.set_cons_zero, List.set_cons_succ])
            refine' wpAnyH_take (i := 5) (oi := ⟨_, _, _, _, _, _⟩) (v := ?v79) rfl (by kernel_rfl) (by kernel_rfl) (by kernel_rfl) (fun _ _ _ h => h) (Or.inl ⟨by rfl, ?hy79⟩) (by assumption) ?rest79
            case hy79 =>
              intro w hSw
              (try dsimp only at hSw)
              go_simp
              try (with_reducible rfl)
            case rest79 =>
            (try simp only [Act.put, List.setIfInBounds_toArray, List.set_cons_zero, List.set_cons_succ])
            refine' wpAnyH_take (i := 6) (oi := ⟨_, _, _, _, _, _⟩) (v := ?v80) rfl (by kernel_rfl) (by kernel_rfl) (by kernel_rfl) (fun _ _ _ h => h) (Or.inl ⟨by rfl, ?hy80⟩) (by assumption) ?rest80
            case hy80 =>
              intro w hSw
              (try dsimp only at hSw)
              go_simp
              try (with_reducible rfl)
            case rest80 =>
            (try simp only [Act.put, List.setIfInBounds_toArray, List.set_cons_zero, List.set_cons_succ])
            refine' wpAnyH_take (i := 7) (oi := ⟨_, _, _, _, _, _⟩) (v := ?v81) rfl (by kernel_rfl) (by kernel_rfl) (by kernel_rfl) (fun _ _ _ h => h) (Or.inl ⟨by rfl, ?hy81⟩) (by assumption) ?rest81
            case hy81 =>
              intro w hSw
              (try dsimp only at hSw)
              go_simp
              try (with_reducible rfl)
            case rest81 =>
            (try simp only [Act.put, List.setIfInBounds_toArray, List.set_cons_zero, List.set_cons_succ])
            refine' wpAnyH_take (i := 8) (oi := ⟨_, _, _, _, _, _⟩) (v := ?v82) rfl (by kernel_rfl) (by kernel_rfl) (by kernel_rfl) (fun _ _ _ h => h) (Or.inl ⟨by rfl, ?hy82⟩) (by assumption) ?rest82
            case hy82 =>
              intro w hSw
              (try dsimp only at hSw)
              go_simp
              try (with_reducible rfl)
            case rest82 =>
            (try simp only [Act.put, List.setIfInBounds_toArray, List.set_cons_zero, List.set_cons_succ])
            refine' wpAnyH_take (i := 9) (oi := ⟨_, _, _, _, _, _⟩) (v := ?v83) rfl (by kernel_rfl) (by kernel_rfl) (by kernel_rfl) (fun _ _ _ h => h) (Or.inl ⟨by rfl, ?hy83⟩) (by assumption) ?rest83
            case hy83 =>
              intro w hSw
              (try dsimp only at hSw)
              go_simp
              try (with_reducible rfl)
            case rest83 =>
            (try simp only [Act.put, List.setIfInBounds_toArray, List.set_cons_zero, List.set_cons_succ])
            refine wpAnyH_ready (rs := [10]) (by kernel_rfl) (by simp) ?_
            refine (AllReadyH.cons (o := ⟨_, _, _, _, _, _⟩) rfl (fun K hK => ?_) AllReadyH.nil)
            go_simp
            (go_at_call 17; refine (rdate_any _ x.f0.f0 x.f0.f1 c D R W1.out W2.out).mono ?_; rintro e wx ⟨rfl, hbx⟩; obtain ⟨X17, d17, rfl⟩ := below_ext hbx; clear hbx; go_simp)
            refine hK.out _ _ ?hS85 (fun hHeld2 => ?go85)
            case hS85 =>
              (try dsimp only)
              try go_simp
              try exact ⟨ext_cell x0, ext_cell x1, ext_cell x2⟩
            case go85 =>
            clear hK K
            clear hHeld
            have hHeld := hHeld2
            clear hHeld2
            (try simp only [Act.put, List.setIfInBounds_toArray, List.set_cons_zero, List.set_cons_succ])
            refine' wpAnyH_take (i := 11) (oi := ⟨_, _, _, _, _, _⟩) (v := ?v86) rfl (by kernel_rfl) (by kernel_rfl) (by kernel_rfl) (fun _ _ _ h => h) (Or.inl ⟨by rfl, ?hy86⟩) (by assumption) ?rest86
            case hy86 =>
              intro w hSw
              (try dsimp only at hSw)
              go_simp
              try (with_reducible rfl)
            case rest86 =>
            (try simp only [Act.put, List.setIfInBounds_toArray, List.set_cons_zero, List.set_cons_succ])
            refine' wpAnyH_take (i := 12) (oi := ⟨_, _, _, _, _, _⟩) (v := ?v87) rfl (by kernel_rfl) (by kernel_rfl) (by kernel_rfl) (fun _ _ _ h => h) (Or.inl ⟨by rfl, ?hy87⟩) (by assumption) ?rest87
            case hy87 =>
              intro w hSw
              (try dsimp only at hSw)
              go_simp
              try (with_reducible rfl)
            case rest87 =>
            (try simp only [Act.put, List.setIfInBounds_toArray, List.set_cons_zero, List.set_cons_succ])
            refine' wpAnyH_take (i := 13) (oi := ⟨_, _, _, _, _, _⟩) (v := ?v88) rfl (by kernel_rfl) (by kernel_rfl) (by kernel_rfl) (fun _ _ _ h => h) (Or.inl ⟨by rfl, ?hy88⟩) (by assumption) ?rest88
            case hy88 =>
              intro w hSw
              (try dsimp only at hSw)
              go_simp
              try (with_reducible rfl)
            case rest88 =>
            (try simp only [Act.put, List.setIfInBounds_toArray, List.set_cons_zero, List.set_cons_succ])
            refine' wpAnyH_take (i := 14) (oi := ⟨_, _, _, _, _, _⟩) (v := ?v89) rfl (by kernel_rfl) (by kernel_rfl) (by kernel_rfl) (fun _ _ _ h => h) (Or.inl ⟨by rfl, ?hy89⟩) (by assumption) ?rest89
            case hy89 =>
              intro w hSw
              (try dsimp only at hSw)
              go_simp
              try (with_reducible rfl)
            case rest89 =>
            (try simp only [Act.put, List.setIfInBounds_toArray, List.set_cons_zero, List.set_cons_succ])
            refine' wpAnyH_take (i := 15) (oi := ⟨_, _, _, _, _, _⟩) (v := ?v90) rfl (by kernel_rfl) (by kernel_rfl) (by kernel_rfl) (fun _ _ _ h => h) (Or.inl ⟨by rfl, ?hy90⟩) (by assumption) ?rest90
            case hy90 =>
              intro w hSw
              (try dsimp only at hSw)
              go_simp
              try (with_reducible rfl)
            case rest90 =>
            (try simp only [Act.put, List.setIfInBounds_toArray, List.set_cons_zero, List.set_cons_succ])
            refine' wpAnyH_take (i := 16) (oi := ⟨_, _, _, _, _, _⟩) (v := ?v91) rfl (by kernel_rfl) (by kernel_rfl) (by kernel_rfl) (fun _ _ _ h => h) (Or.inl ⟨by rfl, ?hy91⟩) (by assumption) ?rest91
            case hy91 =>
              intro w hSw
              (try dsimp only at hSw)
              go_simp
              try (with_reducible rfl)
            case rest91 =>
            (try simp only [Act.put, List.setIfInBounds_toArray, List.set_cons_zero, List.set_cons_succ])
            refine' wpAnyH_take (i := 17) (oi := ⟨_, _, _, _, _, _⟩) (v := ?v92) rfl (by kernel_rfl) (by kernel_rfl) (by kernel_rfl) (fun _ _ _ h => h) (Or.inl ⟨by rfl, ?hy92⟩) (by assumption) ?rest92
            case hy92 =>
              intro w hSw
              (try dsimp only at hSw)
              go_simp
              try (with_reducible rfl)
            case rest92 =>
            (try simp only [Act.put, List.setIfInBounds_toArray, List.set_cons_zero, List.set_cons_succ])
            refine' wpAnyH_take (i := 18) (oi := ⟨_, _, _, _, _, _⟩) (v := ?v93) rfl (by kernel_rfl) (by kernel_rfl) (by kernel_rfl) (fun _ _ _ h => h) (Or.inl ⟨by rfl, ?hy93⟩) (by assumption) ?rest93
            case hy93 =>
              intro w hSw
              (try dsimp only at hSw)
              go_simp
              try (with_reducible rfl)
            case rest93 =>
            (try simp only [Act.put, List.setIfInBounds_toArray, List.set_cons_zero, List.set_cons_succ])
            refine' wpAnyH_take (i := 19) (oi := ⟨_, _, _, _, _, _⟩) (v := ?v94) rfl (by kernel_rfl) (by kernel_rfl) (by kernel_rfl) (fun _ _ _ h => h) (Or.inl ⟨by rfl, ?hy94⟩) (by assumption) ?rest94
            case hy94 =>
              intro w hSw
              (try dsimp only at hSw)
              go_simp
              try (with_reducible rfl)
            case rest94 =>
            (try simp only [Act.put, List.setIfInBounds_toArray, List.set_cons_zero, List.set_cons_succ])
            refine' wpAnyH_take (i := 20) (oi := ⟨_, _, _, _, _, _⟩) (v := ?v95) rfl (by kernel_rfl) (by kernel_rfl) (by kernel_rfl) (fun _ _ _ h => h) (Or.inl ⟨by rfl, ?hy95⟩) (by assumption) ?rest95
            case hy95 =>
              intro w hSw
              (try dsimp only at hSw)
              go_simp
              try (with_reducible rfl)
            case rest95 =>
            (try simp only [Act.put, List.setIfInBounds_toArray, List.set_cons_zero, List.set_cons_succ])
            refine' wpAnyH_take (i := 21) (oi := ⟨_, _, _, _, _, _⟩) (v := ?v96) rfl (by kernel_rfl) (by kernel_rfl) (by kernel_rfl) (fun _ _ _ h => h) (Or.inl ⟨by rfl, ?hy96⟩) (by assumption) ?rest96
            case hy96 =>
              intro w hSw
              (try dsimp only at hSw)
              go_simp
              try (with_reducible rfl)
            case rest96 =>
            (try simp only [Act.put, List.setIfInBounds_toArray, List.set_cons_zero, List.set_cons_succ])
            refine' wpAnyH_take (i := 22) (oi := ⟨_, _, _, _, _, _⟩) (v := ?v97) rfl (by kernel_rfl) (by kernel_rfl) (by kernel_rfl) (fun _ _ _ h => h) (Or.inl ⟨by rfl, ?hy97⟩) (by assumption) ?rest97
            case hy97 =>
              intro w hSw
              (try dsimp only at hSw)
              go_simp
              try (with_reducible rfl)
            case rest97 =>
            (try simp only [Act.put, List.setIfInBounds_toArray, List.set_cons_zero, List.set_cons_succ])
            refine' wpAnyH_take (i := 23) (oi := ⟨_, _, _, _, _, _⟩) (v := ?v98) rfl (by kernel_rfl) (by kernel_rfl) (by kernel_rfl) (fun _ _ _ h => h) (Or.inl ⟨by rfl, ?hy98⟩) (by assumption) ?rest98
            case hy98 =>
              intro w hSw
              (try dsimp only at hSw)
              go_simp
              try (with_reducible rfl)
            case rest98 =>
            (try simp only [Act.put, List.setIfInBounds_toArray, List.set_cons_zero, List.set_cons_succ])
            refine' wpAnyH_take (i := 24) (oi := ⟨_, _, _, _, _, _⟩) (v := ?v99) rfl (by kernel_rfl) (by kernel_rfl) (by kernel_rfl) (fun _ _ _ h => h) (Or.inl ⟨by rfl, ?hy99⟩) (by assumption) ?rest99
            case hy99 =>
              intro w hSw
              (try dsimp only at hSw)
              go_simp
              try (with_reducible rfl)
            case rest99 =>
            (try simp only [Act.put, List.setIfInBounds_toArray, List.set_cons_zero, List.set_cons_succ])
            refine' wpAnyH_take (i := 25) (oi := ⟨_, _, _, _, _, _⟩) (v := ?v100) rfl (by kernel_rfl) (by kernel_rfl) (by kernel_rfl) (fun _ _ _ h => h) (Or.inl ⟨by rfl, ?hy100⟩) (by assumption) ?rest100
            case hy100 =>
              intro w hSw
              (try dsimp only at hSw)
              go_simp
              try (with_reducible rfl)
            case rest100 =>
            (try simp only [Act.put, List.setIfInBounds_toArray, List.set_cons_zero, List.set_cons_succ])
            refine' wpAnyH_take (i := 26) (oi := ⟨_, _, _, _, _, _⟩) (v := ?v101) rfl (by kernel_rfl) (by kernel_rfl) (by kernel_rfl) (fun _ _ _ h => h) (Or.inl ⟨by rfl, ?hy101⟩) (by assumption) ?rest101
            case hy101 =>
              intro w hSw
              (try dsimp only at hSw)
              go_simp
              try (with_reducible rfl)
            case rest101 =>
            (try simp only [Act.put, List.setIfInBounds_toArray, List.set_cons_zero, List.set_cons_succ])
            refine' wpAnyH_take (i := 27) (oi := ⟨_, _, _, _, _, _⟩) (v := ?v102) rfl (by kernel_rfl) (by kernel_rfl) (by kernel_rfl) (fun _ _ _ h => h) (Or.inl ⟨by rfl, ?hy102⟩) (by assumption) ?rest102
            case hy102 =>
              intro w hSw
              (try dsimp only at hSw)
              go_simp
              try (with_reducible rfl)
            case rest102 =>
            (try simp only [Act.put, List.setIfInBounds_toArray, List.set_cons_zero, List.set_cons_succ])
            refine' wpAnyH_take (i := 28) (oi := ⟨_, _, _, _, _, _⟩) (v := ?v103) rfl (by kernel_rfl) (by kernel_rfl) (by kernel_rfl) (fun _ _ _ h => h) (Or.inl ⟨by rfl, ?hy103⟩) (by assumption) ?rest103
            case hy103 =>
              intro w hSw
              (try dsimp only at hSw)
              go_simp
              try (with_reducible rfl)
            case rest103 =>
            (try simp only [Act.put, List.setIfInBounds_toArray, List.set_cons_zero, List.set_cons_succ])
            refine' wpAnyH_take (i := 29) (oi := ⟨_, _, _, _, _, _⟩) (v := ?v104) rfl (by kernel_rfl) (by kernel_rfl) (by kernel_rfl) (fun _ _ _ h => h) (Or.inl ⟨by rfl, ?hy104⟩) (by assumption) ?rest104
            case hy104 =>
              intro w hSw
              (try dsimp only at hSw)
              go_simp
              try (with_reducible rfl)
            case rest104 =>
            (try simp only [Act.put, List.setIfInBounds_toArray, List.set_cons_zero, List.set_cons_succ])
            refine' wpAnyH_take (i := 30) (oi := ⟨_, _, _, _, _, _⟩) (v := ?v105) rfl (by kernel_rfl) (by kernel_rfl) (by kernel_rfl) (fun _ _ _ h => h) (Or.inl ⟨by rfl, ?hy105⟩) (by assumption) ?rest105
            case hy105 =>
              intro w hSw
              (try dsimp only at hSw)
              go_simp
              try (with_reducible rfl)
            case rest105 =>
            (try simp only [Act.put, List.setIfInBounds_toArray, List.set_cons_zero, List.set_cons_succ])
            refine' wpAnyH_take (i := 31) (oi := ⟨_, _, _, _, _, _⟩) (v := ?v106) rfl (by kernel_rfl) (by kernel_rfl) (by kernel_rfl) (fun _ _ _ h => h) (Or.inl ⟨by rfl, ?hy106⟩) (by assumption) ?rest106
            case hy106 =>
              intro w hSw
              (try dsimp only at hSw)
              go_simp
              try (with_reducible rfl)
            case rest106 =>
            (try simp only [Act.put, List.setIfInBounds_toArray, List.set_cons_zero, List.set_cons_succ])
            refine' wpAnyH_take (i := 32) (oi := ⟨_, _, _, _, _, _⟩) (v := ?v107) rfl (by kernel_rfl) (by kernel_rfl) (by kernel_rfl) (fun _ _ _ h => h) (Or.inl ⟨by rfl, ?hy107⟩) (by assumption) ?rest107
            case hy107 =>
              intro w hSw
              (try dsimp only at hSw)
              go_simp
              try (with_reducible rfl)
            case rest107 =>
            (try simp only [Act.put, List.setIfInBounds_toArray, List.set_cons_zero, List.set_cons_succ])
            refine' wpAnyH_take (i := 33) (oi := ⟨_, _, _, _, _, _⟩) (v := ?v108) rfl (by kernel_rfl) (by kernel_rfl) (by kernel_rfl) (fun _ _ _ h => h) (Or.inl ⟨by rfl, ?hy108⟩) (by assumption) ?rest108
            case hy108 =>
              intro w hSw
              (try dsimp only at hSw)
              go_simp
              try (with_reducible rfl)
            case rest108 =>
            (try simp only [Act.put, List.setIfInBounds_toArray, List.set_cons_zero, List.set_cons_succ])
            refine' wpAnyH_take (i := 34) (oi := ⟨_, _, _, _, _, _⟩) (v := ?v109) rfl (by kernel_rfl) (by kernel_rfl) (by kernel_rfl) (fun _ _ _ h => h) (Or.inl ⟨by rfl, ?hy109⟩) (by assumption) ?rest109
            case hy109 =>
              intro w hSw
              (try dsimp only at hSw)
              go_simp
              try (with_reducible rfl)
            case rest109 =>
            (try simp only [Act.put, List.setIfInBounds_toArray, List.set_cons_zero, List.set_cons_succ])
            refine' wpAnyH_take (i := 35) (oi := ⟨_, _, _, _, _, _⟩) (v := ?v110) rfl (by kernel_rfl) (by kernel_rfl) (by kernel_rfl) (fun _ _ _ h => h) (Or.inl ⟨by rfl, ?hy110⟩) (by assumption) ?rest110
            case hy110 =>
              intro w hSw
              (try dsimp only at hSw)
              go_simp
              try (with_reducible rfl)
            case rest110 =>
            (try simp only [Act.put, List.setIfInBounds_toArray, List.set_cons_zero, List.set_cons_succ])
            refine' wpAnyH_take (i := 36) (oi := ⟨_, _, _, _, _, _⟩) (v := ?v111) rfl (by kernel_rfl) (by kernel_rfl) (by kernel_rfl) (fun _ _ _ h => h) (Or.inl ⟨by rfl, ?hy111⟩) (by assumption) ?rest111
            case hy111 =>
              intro w hSw
              (try dsimp only at hSw)
              go_simp
              try (with_reducible rfl)
            case rest111 =>
            (try simp only [Act.put, List.setIfInBounds_toArray, List.set_cons_zero, List.set_cons_succ])
            refine' wpAnyH_take (i := 37) (oi := ⟨_, _, _, _, _, _⟩) (v := ?v112) rfl (by kernel_rfl) (by kernel_rfl) (by kernel_rfl) (fun _ _ _ h => h) (Or.inl ⟨by rfl, ?hy112⟩) (by assumption) ?rest112
            case hy112 =>
              intro w hSw
              (try dsimp only at hSw)
              go_simp
              try (with_reducible rfl)
            case rest112 =>
            (try simp only [Act.put, List.setIfInBounds_toArray, List.set_cons_zero, List.set_cons_succ])
            refine' wpAnyH_take (i := 38) (oi := ⟨_, _, _, _, _, _⟩) (v := ?v113) rfl (by kernel_rfl) (by kernel_rfl) (by kernel_rfl) (fun _ _ _ h => h) (Or.inl ⟨by rfl, ?hy113⟩) (by assumption) ?rest113
            case hy113 =>
              intro w hSw
              (try dsimp only at hSw)
              go_simp
              try (with_reducible rfl)
            case rest113 =>
            (try simp only [Act.put, List.setIfInBounds_toArray, List.set_cons_zero, List.set_cons_succ])
            refine' wpAnyH_take (i := 39) (oi := ⟨_, _, _, _, _, _⟩) (v := ?v114) rfl (by kernel_rfl) (by kernel_rfl) (by kernel_rfl) (fun _ _ _ h => h) (Or.inl ⟨by rfl, ?hy114⟩) (by assumption) ?rest114
            case hy114 =>
              intro w hSw
              (try dsimp only at hSw)
              go_simp
              try (with_reducible rfl)
            case rest114 =>
            (try simp only [Act.put, List.setIfInBounds_toArray, List.set_cons_zero, List.set_cons_succ])
            refine' wpAnyH_take (i := 40) (oi := ⟨_, _, _, _, _, _⟩) (v := ?v115) rfl (by kernel_rfl) (by kernel_rfl) (by kernel_rfl) (fun _ _ _ h => h) (Or.inl ⟨by rfl, ?hy115⟩) (by assumption) ?rest115
            case hy115 =>
              intro w hSw
              (try dsimp only at hSw)
              go_simp
              try (with_reducible rfl)
            case rest115 =>
            (try simp only [Act.put, List.setIfInBounds_toArray, List.set_cons_zero, List.set_cons_succ])
            refine' wpAnyH_take (i := 41) (oi := ⟨_, _, _, _, _, _⟩) (v := ?v116) rfl (by kernel_rfl) (by kernel_rfl) (by kernel_rfl) (fun _ _ _ h => h) (Or.inl ⟨by rfl, ?hy116⟩) (by assumption) ?rest116
            case hy116 =>
              intro w hSw
              (try dsimp only at hSw)
              go_simp
              try (with_reducible rfl)
            case rest116 =>
            (try simp only [Act.put, List.setIfInBounds_toArray, List.set_cons_zero, List.set_cons_succ])
            refine' wpAnyH_take (i := 42) (oi := ⟨_, _, _, _, _, _⟩) (v := ?v117) rfl (by kernel_rfl) (by kernel_rfl) (by kernel_rfl) (fun _ _ _ h => h) (Or.inl ⟨by rfl, ?hy117⟩) (by assumption) ?rest117
            case hy117 =>
              intro w hSw
              (try dsimp only at hSw)
              go_simp
              try (with_reducible rfl)
            case rest117 =>
            (try simp only [Act.put, List.setIfInBounds_toArray, List.set_cons_zero, List.set_cons_succ])
            refine' wpAnyH_take (i := 43) (oi := ⟨_, _, _, _, _, _⟩) (v := ?v118) rfl (by kernel_rfl) (by kernel_rfl) (by kernel_rfl) (fun _ _ _ h => h) (Or.inl ⟨by rfl, ?hy118⟩) (by assumption) ?rest118
            case hy118 =>
              intro w hSw
              (try dsimp only at hSw)
              go_simp
              try (with_reducible rfl)
            case rest118 =>
            (try simp only [Act.put, List.setIfInBounds_toArray, List.set_cons_zero, List.set_cons_succ])
            refine' wpAnyH_take (i := 44) (oi := ⟨_, _, _, _, _, _⟩) (v := ?v119) rfl (by kernel_rfl) (by kernel_rfl) (by kernel_rfl) (fun _ _ _ h => h) (Or.inl ⟨by rfl, ?hy119⟩) (by assumption) ?rest119
            case hy119 =>
              intro w hSw
              (try dsimp only at hSw)
              go_simp
              try (with_reducible rfl)
            case rest119 =>
            (try simp only [Act.put, List.setIfInBounds_toArray, List.set_cons_zero, List.set_cons_succ])
            refine' wpAnyH_take (i := 45) (oi := ⟨_, _, _, _, _, _⟩) (v := ?v120) rfl (by kernel_rfl) (by kernel_rfl) (by kernel_rfl) (fun _ _ _ h => h) (Or.inl ⟨by rfl, ?hy120⟩) (by assumption) ?rest120
            case hy120 =>
              intro w hSw
              (try dsimp only at hSw)
              go_simp
              try (with_reducible rfl)
            case rest120 =>
            (try simp only [Act.put, List.setIfInBounds_toArray, List.set_cons_zero, List.set_cons_succ])
            refine' wpAnyH_take (i := 46) (oi := ⟨_, _, _, _, _, _⟩) (v := ?v121) rfl (by kernel_rfl) (by kernel_rfl) (by kernel_rfl) (fun _ _ _ h => h) (Or.inl ⟨by rfl, ?hy121⟩) (by assumption) ?rest121
            case hy121 =>
              intro w hSw
              (try dsimp only at hSw)
              go_simp
              try (with_reducible rfl)
            case rest121 =>
            (try simp only [Act.put, List.setIfInBounds_toArray, List.set_cons_zero, List.set_cons_succ])
            refine' wpAnyH_take (i := 47) (oi := ⟨_, _, _, _, _, _⟩) (v := ?v122) rfl (by kernel_rfl) (by kernel_rfl) (by kernel_rfl) (fun _ _ _ h => h) (Or.inl ⟨by rfl, ?hy122⟩) (by assumption) ?rest122
            case hy122 =>
              intro w hSw
              (try dsimp only at hSw)
              go_simp
              try (with_reducible rfl)
            case rest122 =>
            (try simp only [Act.put, List.setIfInBounds_toArray, List.set_cons_zero, List.set_cons_succ])
            refine wpAnyH_done (by kernel_rfl) ?_ _
            clear hHeld
            go_upto_region 19 with (fail)
            obtain ⟨V3, hV3⟩ : ∃ V3, V3 = ext V2 X17 d17 := ⟨_, rfl⟩
            rw [← hV3]
            have hb3 : Below V2.heap.size V2 V3 := by rw [hV3]; exact ext_below _ _ _
            have HBV3 := Lib.hid (HBV2.out.trans (hb3.mono HBV2.out.size))
            have HO3 := Lib.hid (own_below HO2.out hb3)
            have H133 : Hid (V3.heap[B13]? = some (.cells #[.int .i64 k, .int .i64 c, .int .i64 R, .int .i64 E] 60)) := Lib.hid ((hb3.block _ n13).trans H132.out)
            clear hV3 hb3 HBV2 HO2 H132 x0 x1 x2 n13 nat' y0 y1 y2 y3
            have y0 : V3.cell? ⟨B13, 0, none⟩ = some (.int .i64 k) := cell_lit (i := 0) H133.out
            have y2 : V3.cell? ⟨B13, 2, none⟩ = some (.int .i64 R) := cell_lit (i := 2) H133.out
            have c2 : IntKind.i64.wrap ((n : Int) + 1) = (n : Int) + 1 := by rw [IntKind.wrap_i64]; have := HBL.out; omega
            by_cases h0 : n = 0
            · have g1 : decide ((n : Int) > 0) = false := decide_eq_false (by omega)
              have g1a : decide (0 < n) = false := decide_eq_false (by omega)
              have HH0 := Lib.hid h0
              clear h0
              go_quiet (fail)
              go_wp2_with fail
              go_roundw
              case rel => exact ⟨n + 1, by omega, by simp, HO3.out, below_drewN HBV3.out _⟩
              case measure => simp [RowKit.intOf]; omega
            · have g1 : decide ((n : Int) > 0) = true := decide_eq_true (by omega)
              have g1a : decide (0 < n) = true := decide_eq_true (by omega)
              have HH0 := Lib.hid h0
              clear h0
              obtain ⟨q, hq⟩ : ∃ q, n = q + 1 := ⟨n - 1, by have := HH0.out; omega⟩
              have hqB : q + 1 < B.length := by omega
              have hprev := HFN.out q hqB
              have hBn : B[q + 1] = ⟨k, c, R, E⟩ := by
                have := HJ.out
                subst hq
                exact this
              rw [hBn] at hprev
              dsimp only at hprev
              obtain ⟨ab', hab', z0, z1, z2, z3⟩ := at_T60 HBB.out q (by omega) (by omega)
              have hrq : rd_T60 B (q : Int) = B[q] := by unfold rd_T60; rw [Int.toNat_natCast]; exact getD_eq _ _ _ (by omega)
              rw [hrq, Int.toNat_natCast] at z0 z2
              obtain rfl : ab = ab' := Option.some.inj hab'
              replace z0 := keepc (Nat.le_refl _) HBV3.out z0
              replace z2 := keepc (Nat.le_refl _) HBV3.out z2
              generalize B[q].f2 = P2 at *
              generalize B[q].f0 = P0 at *
              have c3 : IntKind.i64.wrap ((n : Int) - 1) = (q : Int) := by rw [IntKind.wrap_i64]; have := HBL.out; omega
              have g2 : (q : Int) < B.length := by omega
              have g3 : (0 : Int) ≤ q := by omega
              have g4 : decide (P2 > R) = false := decide_eq_false (by omega)
              clear z1 z3 hrq hab' hBn hq hqB
              by_cases h5 : P2 = R
              · have g5 : (P2 == R) = true := beq_iff_eq.2 h5
                have g6 : decide (P0 ≥ k) = false := decide_eq_false (by omega)
                clear hprev h5
                go_quiet (fail)
                go_wp2_with fail
                go_roundw
                case rel => exact ⟨n + 1, by omega, by simp, HO3.out, below_drewN HBV3.out _⟩
                case measure => simp [RowKit.intOf]; omega
              · have g5 : (P2 == R) = false := beq_false_of_ne h5
                clear hprev h5
                go_quiet (fail)
                go_wp2_with fail
                go_roundw
                case rel => exact ⟨n + 1, by omega, by simp, HO3.out, below_drewN HBV3.out _⟩
                case measure => simp [RowKit.intOf]; omega
          · obtain rfl : n = B.length := by have := HNN.out; omega
            clear hlt HNN
            rename World => wq
            have e0 : ¬ ((B.length : Int) < B.length) := by omega
            go_wp2_with fail
            go_loopw [14] (fun i wr => ∃ k : Nat, k ≤ l.length ∧ i = .int .i64 k ∧ Below wq.heap.size wq wr) (fun i _ => l.length - (RowKit.intOf i).toNat)
            case atStart => exact ⟨0, Nat.zero_le _, rfl, Below.refl _ _⟩
            case round =>
              obtain ⟨k, hkn, rfl, hb⟩ := hrel
              have HV := Lib.hid hb
              have HKK := Lib.hid hkn
              clear hb hkn
              by_cases hk : k < l.length
              · obtain ⟨at', A5, c5, hat, x0, x1, x2, x3, x4, x5, x6, xl, xr⟩ := at_T44 (Kd.C_below HR.out ((HB3.out.trans (HB.out.mono HB3.out.size)).trans (HV.out.mono (HB3.out.trans (HB.out.mono HB3.out.size)).size))) k (by omega) (by omega)
                have hrt : rd_T44 l (k : Int) = l[k] := by unfold rd_T44; rw [Int.toNat_natCast]; exact getD_eq _ _ _ hk
                rw [hrt, Int.toNat_natCast] at x0 x1
                clear x2 x3 x4 x5 x6 xl xr hrt
                have z0 : wr.cell? ((⟨W3.heap.size, 0, none⟩ : Addr).add k) = some (.int .i64 (cntB B B.length k : Nat)) := (own_below HO.out HV.out).cells rfl k _ (nextV_get _ _ _ _ hk)
                rw [Addr.add_lit, Nat.zero_add] at z0
                have hfe := HFE.out k hk
                have hmay := HL.out _ (List.getElem_mem hk)
                obtain ⟨p1, p2, t1, t2⟩ := mayC_spec hmay
                have hcl := cntB_le B B.length k
                generalize cntB B B.length k = c at *
                generalize l[k] = x at *
                obtain ⟨D, hD⟩ : ∃ D, (c : Int) * x.f0.f0 = D := ⟨_, rfl⟩
                have hD0 : 0 ≤ (c : Int) * x.f0.f0 := Int.mul_nonneg (by omega) (by omega)
                have hD1 : (c : Int) * x.f0.f0 ≤ 4096 * x.f0.f0 := Int.mul_le_mul_of_nonneg_right (by have := HBL.out; omega) (by omega)
                rw [hD] at hfe hD0 hD1
                obtain ⟨E, hE⟩ : ∃ E, x.f0.f1 + D = E := ⟨_, rfl⟩
                rw [hE] at hfe
                have W1 : Hid (IntKind.i64.wrap ((c : Int) * x.f0.f0) = D) := Lib.hid (by rw [hD, IntKind.wrap_i64]; omega)
                have W2 : Hid (IntKind.i64.wrap (x.f0.f1 + D) = E) := Lib.hid (by rw [hE, IntKind.wrap_i64]; omega)
                have e1 : (k : Int) < l.length := by omega
                have e2 : (0 : Int) ≤ k := by omega
                have e3 : decide (E < U) = false := decide_eq_false (by omega)
                have c2 : IntKind.i64.wrap ((k : Int) + 1) = (k : Int) + 1 := by rw [IntKind.wrap_i64]; have := H100.out; omega
                have HK := Lib.hid hk
                have HC := Lib.hid hat
                clear hfe hmay p1 p2 t1 t2 hcl hD hE hD0 hD1 hk
                rw [hat]
                clear hat
                go_upto_region 24 with (fail)
                refine wp_region_held_drew (S := (fun w' => w'.cell? (at'.add (k * 7)) = some (.int .i64 x.f0.f0) ∧ w'.cell? ⟨(at'.add (k * 7)).block, (at'.add (k * 7)).off + 1, none⟩ = some (.int .i64 x.f0.f1) ∧ w'.cell? ⟨W3.heap.size, k, none⟩ = some (.int .i64 c))) (by kernel_rfl) ?hS173 (fun hHeld => ?go173)
                case hS173 =>
                  (try dsimp only)
                  try go_simp
                  try exact ⟨ext_cell x0, ext_cell x1, ext_cell z0⟩
                case go173 =>
                refine' wpAnyH_take (i := 0) (oi := ⟨_, _, _, _, _, _⟩) (v := ?v174) rfl (by kernel_rfl) (by kernel_rfl) (by kernel_rfl) (fun _ _ _ h => h) (Or.inl ⟨by rfl, ?hy174⟩) (by assumption) ?rest174
                case hy174 =>
                  intro w hSw
                  (try dsimp only at hSw)
                  go_simp
                  try (with_reducible rfl)
                case rest174 =>
                (try simp only [Act.put, List.setIfInBounds_toArray, List.set_cons_zero, List.set_cons_succ])
                refine' wpAnyH_take (i := 1) (oi := ⟨_, _, _, _, _, _⟩) (v := ?v175) rfl (by kernel_rfl) (by kernel_rfl) (by kernel_rfl) (fun _ _ _ h => h) (Or.inl ⟨by rfl, ?hy175⟩) (by assumption) ?rest175
                case hy175 =>
                  intro w hSw
                  (try dsimp only at hSw)
                  go_simp
                  try (with_reducible rfl)
                case rest175 =>
                (try simp only [Act.put, List.setIfInBounds_toArray, List.set_cons_zero, List.set_cons_succ])
                refine' wpAnyH_take (i := 2) (oi := ⟨_, _, _, _, _, _⟩) (v := ?v176) rfl (by kernel_rfl) (by kernel_rfl) (by kernel_rfl) (fun _ _ _ h => h) (Or.inl ⟨by rfl, ?hy176⟩) (by assumption) ?rest176
                case hy176 =>
                  intro w hSw
                  (try dsimp only at hSw)
                  go_simp
                  try (with_reducible rfl)
                case rest176 =>
                (try simp only [Act.put, List.setIfInBounds_toArray, List.set_cons_zero, List.set_cons_succ])
                refine' wpAnyH_take (i := 3) (oi := ⟨_, _, _, _, _, _⟩) (v := ?v177) rfl (by kernel_rfl) (by kernel_rfl) (by kernel_rfl) (fun _ _ _ h => h) (Or.inl ⟨by rfl, ?hy177⟩) (by assumption) ?rest177
                case hy177 =>
                  intro w hSw
                  (try dsimp only at hSw)
                  go_simp
                  try (with_reducible rfl)
                case rest177 =>
                (try simp only [Act.put, List.setIfInBounds_toArray, List.set_cons_zero, List.set_cons_succ])
                refine' wpAnyH_take (i := 4) (oi := ⟨_, _, _, _, _, _⟩) (v := ?v178) rfl (by kernel_rfl) (by kernel_rfl) (by kernel_rfl) (fun _ _ _ h => h) (Or.inl ⟨by rfl, ?hy178⟩) (by assumption) ?rest178
                case hy178 =>
                  intro w hSw
                  (try dsimp only at hSw)
                  go_simp
                  try (with_reducible rfl)
                case rest178 =>
                (try simp only [Act.put, List.setIfInBounds_toArray, List.set_cons_zero, List.set_cons_succ])
                refine' wpAnyH_take (i := 5) (oi := ⟨_, _, _, _, _, _⟩) (v := ?v179) rfl (by kernel_rfl) (by kernel_rfl) (by kernel_rfl) (fun _ _ _ h => h) (Or.inl ⟨by rfl, ?hy179⟩) (by assumption) ?rest179
                case hy179 =>
                  intro w hSw
                  (try dsimp only at hSw)
                  go_simp
                  try (with_reducible rfl)
                case rest179 =>
                (try simp only [Act.put, List.setIfInBounds_toArray, List.set_cons_zero, List.set_cons_succ])
                refine' wpAnyH_take (i := 6) (oi := ⟨_, _, _, _, _, _⟩) (v := ?v180) rfl (by kernel_rfl) (by kernel_rfl) (by kernel_rfl) (fun _ _ _ h => h) (Or.inl ⟨by rfl, ?hy180⟩) (by assumption) ?rest180
                case hy180 =>
                  intro w hSw
                  (try dsimp only at hSw)
                  go_simp
                  try (with_reducible rfl)
                case rest180 =>
                (try simp only [Act.put, List.setIfInBounds_toArray, List.set_cons_zero, List.set_cons_succ])
                refine' wpAnyH_take (i := 7) (oi := ⟨_, _, _, _, _, _⟩) (v := ?v181) rfl (by kernel_rfl) (by kernel_rfl) (by kernel_rfl) (fun _ _ _ h => h) (Or.inl ⟨by rfl, ?hy181⟩) (by assumption) ?rest181
                case hy181 =>
                  intro w hSw
                  (try dsimp only at hSw)
                  go_simp
                  try (with_reducible rfl)
                case rest181 =>
                (try simp only [Act.put, List.setIfInBounds_toArray, List.set_cons_zero, List.set_cons_succ])
                refine' wpAnyH_take (i := 8) (oi := ⟨_, _, _, _, _, _⟩) (v := ?v182) rfl (by kernel_rfl) (by kernel_rfl) (by kernel_rfl) (fun _ _ _ h => h) (Or.inl ⟨by rfl, ?hy182⟩) (by assumption) ?rest182
                case hy182 =>
                  intro w hSw
                  (try dsimp only at hSw)
                  go_simp
                  try (with_reducible rfl)
                case rest182 =>
                (try simp only [Act.put, List.setIfInBounds_toArray, List.set_cons_zero, List.set_cons_succ])
                refine' wpAnyH_take (i := 10) (oi := ⟨_, _, _, _, _, _⟩) (v := ?v183) rfl (by kernel_rfl) (by kernel_rfl) (by kernel_rfl) (fun _ _ _ h => h) (Or.inl ⟨by rfl, ?hy183⟩) (by assumption) ?rest183
                case hy183 =>
                  intro w hSw
                  (try dsimp only at hSw)
                  go_simp
                  try (with_reducible rfl)
                case rest183 =>
                (try simp only [Act.put, List.setIfInBounds_toArray, List.set_cons_zero, List.set_cons_succ])
                refine' wpAnyH_take (i := 11) (oi := ⟨_, _, _, _, _, _⟩) (v := ?v184) rfl (by kernel_rfl) (by kernel_rfl) (by kernel_rfl) (fun _ _ _ h => h) (Or.inl ⟨by rfl, ?hy184⟩) (by assumption) ?rest184
                case hy184 =>
                  intro w hSw
                  (try dsimp only at hSw)
                  go_simp
                  try (with_reducible rfl)
                case rest184 =>
                (try simp only [Act.put, List.setIfInBounds_toArray, List.set_cons_zero, List.set_cons_succ])
                refine' wpAnyH_take (i := 12) (oi := ⟨_, _, _, _, _, _⟩) (v := ?v185) rfl (by kernel_rfl) (by kernel_rfl) (by kernel_rfl) (fun _ _ _ h => h) (Or.inl ⟨by rfl, ?hy185⟩) (by assumption) ?rest185
                case hy185 =>
                  intro w hSw
                  (try dsimp only at hSw)
                  go_simp
                  try (with_reducible rfl)
                case rest185 =>
                (try simp only [Act.put, List.setIfInBounds_toArray, List.set_cons_zero, List.set_cons_succ])
                refine' wpAnyH_take (i := 13) (oi := ⟨_, _, _, _, _, _⟩) (v := ?v186) rfl (by kernel_rfl) (by kernel_rfl) (by kernel_rfl) (fun _ _ _ h => h) (Or.inl ⟨by rfl, ?hy186⟩) (by assumption) ?rest186
                case hy186 =>
                  intro w hSw
                  (try dsimp only at hSw)
                  go_simp
                  try (with_reducible rfl)
                case rest186 =>
                (try simp only [Act.put, List.setIfInBounds_toArray, List.set_cons_zero, List.set_cons_succ])
                refine' wpAnyH_take (i := 14) (oi := ⟨_, _, _, _, _, _⟩) (v := ?v187) rfl (by kernel_rfl) (by kernel_rfl) (by kernel_rfl) (fun _ _ _ h => h) (Or.inl ⟨by rfl, ?hy187⟩) (by assumption) ?rest187
                case hy187 =>
                  intro w hSw
                  (try dsimp only at hSw)
                  go_simp
                  try (with_reducible rfl)
                case rest187 =>
                (try simp only [Act.put, List.setIfInBounds_toArray, List.set_cons_zero, List.set_cons_succ])
                refine wpAnyH_ready (rs := [9]) (by kernel_rfl) (by simp) ?_
                refine (AllReadyH.cons (o := ⟨_, _, _, _, _, _⟩) rfl (fun K hK => ?_) AllReadyH.nil)
                go_simp
                (go_at_call 17; refine (rdate_any _ x.f0.f0 x.f0.f1 c D E W1.out W2.out).mono ?_; rintro e wx ⟨rfl, hbx⟩; obtain ⟨X17, d17, rfl⟩ := below_ext hbx; clear hbx; go_simp)
                refine hK.out _ _ ?hS189 (fun hHeld2 => ?go189)
                case hS189 =>
                  (try dsimp only)
                  try go_simp
                  try exact ⟨ext_cell x0, ext_cell x1, ext_cell z0⟩
                case go189 =>
                clear hK K
                clear hHeld
                have hHeld := hHeld2
                clear hHeld2
                (try simp only [Act.put, List.setIfInBounds_toArray, List.set_cons_zero, List.set_cons_succ])
                refine' wpAnyH_take (i := 15) (oi := ⟨_, _, _, _, _, _⟩) (v := ?v190) rfl (by kernel_rfl) (by kernel_rfl) (by kernel_rfl) (fun _ _ _ h => h) (Or.inl ⟨by rfl, ?hy190⟩) (by assumption) ?rest190
                case hy190 =>
                  intro w hSw
                  (try dsimp only at hSw)
                  go_simp
                  try (with_reducible rfl)
                case rest190 =>
                (try simp only [Act.put, List.setIfInBounds_toArray, List.set_cons_zero, List.set_cons_succ])
                refine wpAnyH_done (by kernel_rfl) ?_ _
                clear hHeld
                go_wp2_with fail
                go_roundw
                case rel => exact ⟨k + 1, by have := HK.out; omega, by simp, (HV.out.trans ((ext_below _ _ _).mono HV.out.size))⟩
                case measure => have := HK.out; simp [RowKit.intOf]; omega
              · have e1 : ¬ ((k : Int) < l.length) := by omega
                go_wp2_with fail
                refine (works_any _).mono ?_
                rintro e W4 ⟨rfl, hb⟩
                have HB5 := Lib.hid (((HB3.out.trans (HB.out.mono HB3.out.size)).trans (HV.out.mono (HB3.out.trans (HB.out.mono HB3.out.size)).size)).trans (hb.mono ((HB3.out.trans (HB.out.mono HB3.out.size)).trans (HV.out.mono (HB3.out.trans (HB.out.mono HB3.out.size)).size)).size))
                clear hb
                go_wp2_with fail
                go_ret
                exact ⟨rfl, HB5.out⟩
end Go.Proofs.Ytkabmpbfabgkfaa
