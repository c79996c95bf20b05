/-
  unfold.Jobs.
  Conditions: the rows lie in memory; their clocks' numbers are int64s.
-/
import Derived.Test.YtkabmpbfabgkfaaJp
import Derived.Test.YtkabmpbfabgkfaaOc
import Derived.WalkKit
import Derived.WalkSpells
import Derived.WalkLawsBesides
import Derived.Deep.QuietTactic
import Derived.BigQuiet
import Derived.Lib.Hide
import Derived.Handy
import Derived.Deep.AppendLies
import Derived.Maps.AppendAt
import Derived.OwnWalk
import Derived.Lib.LazyBuf
import Derived.Deep.DeepCutAuto
import Derived.Deep.RegionLaw
import Derived.Deep.RegionHeld3
import Derived.Deep.RegionWith
import Derived.BigRegion
import Derived.Deep.CutBlock
import Derived.LoopN
import Derived.Shelf.SlSortCmp.WholeK
import Derived.Shelf.SlSortCmp.NoneTotal
import Derived.Laws.AppendOwn
set_option linter.unusedVariables false
set_option linter.unusedSimpArgs false
namespace Go.Proofs.Ytkabmpbfabgkfaa
open Go.RowKit 
open Big
attribute [local go_sem] setCell_drewN alloc_drewN size_ext ext_ext ext_drewN ext_drew drewN_ext drew_ext cell?_ext frozen?_ext setCell_ext cell?_past1 frozen?_past1 setCell_past1 cell?_past2 frozen?_past2 setCell_past2 cell?_past3 frozen?_past3 setCell_past3 cell?_past4 frozen?_past4 setCell_past4 cell?_past5 frozen?_past5 setCell_past5 cell?_past6 frozen?_past6 setCell_past6 cell?_past7 frozen?_past7 setCell_past7 cell?_past8 frozen?_past8 setCell_past8
open Go.Proofs.Ytkabmpbfabgkfaa.P Go.Proofs.YtkabmpbfabgkfaaW.PrintWords Go.Proofs.YtkabmpbfabgkfaaW.PrintLast Go.Proofs.YtkabmpbfabgkfaaW.PrintMore
open Go.Shelf Go.Lib Go.Sort
/-- A date of a clock, below a time. -/
theorem below_date {p s u : Int} {n : Nat} (hp : 1 ≤ p) (hn : (n : Int) < belowN p s u) : s + n * p < u := by
  unfold belowN at hn
  split at hn
  · have h1 : (n : Int) + 1 ≤ (u - s + p - 1) / p := hn
    rw [Int.le_ediv_iff_mul_le (by omega), Int.add_mul, Int.one_mul] at h1
    omega
  · omega
theorem own_below {W W' : World} {base : Nat} {e : TypeId} {size n : Nat} {v : Value} {xs : List Value} (h : W.ownsRow base e size v n xs) (hb : Below W.heap.size W W') : W'.ownsRow base e size v n xs :=
  h.kept (World.grownBy.mk hb.os hb.tape hb.output hb.size (fun k hk _ => hb.block k hk) : W.grownBy W' none) (by cases hv : v.ownBlock <;> simp)
theorem own_step {W : World} {b k m : Nat} {v : Value} {J : List S60} {x : S44} (h : W.ownsRow b 60 4 v ((J ++ jobsN k x m).length + 1) (flatJ (J ++ jobsN k x m) ++ kvJ (jobOf k x m))) : W.ownsRow b 60 4 v (J ++ jobsN k x (m + 1)).length (flatJ (J ++ jobsN k x (m + 1))) := by
  have e : flatJ [jobOf k x m] = kvJ (jobOf k x m) := by simp [flatJ]
  have e2 : (J ++ jobsN k x m ++ [jobOf k x m]).length = (J ++ jobsN k x m).length + 1 := by simp only [List.length_append, List.length_singleton]
  rw [jobsN_succ, ← List.append_assoc, flatJ_append, e2, e]
  exact h
/-- What Jobs hands back: a row of jobs, and an error number. -/
def JobsPost (w : World) (r : List S60 × Int) (e : Ending) (w' : World) : Prop := ∃ A cap, e = .returned (.tuple #[.slice A r.1.length cap, .int .i64 r.2]) ∧ Kd.C k60 w' A r.1.length r.1 ∧ Below w.heap.size w w'
set_option maxRecDepth 100000 in
set_option maxHeartbeats 16000000 in
theorem Jobs_any (w : World) (A0 : Option Addr) (c0 : Nat) (l : List S44) (u : Int) (hok : ∀ t ∈ l, ok44 t = true) (hr0 : Kd.C k44 w A0 l.length l) :
    Calls Try.prog 18 #[.slice A0 l.length c0, .int .i64 u] w (JobsPost w (jobsF l u)) := by
  have hlen : l.length ≤ 9223372036854775807 := hr0.2.1
  obtain ⟨i0, hi, hz0, hz1, hz2⟩ := info_parts infoJ
  have HR := Lib.hid hr0
  have HOK := Lib.hid hok
  clear hr0 hok
  obtain ⟨r, hr⟩ : ∃ r, jobsF l u = r := ⟨_, rfl⟩
  rw [hr]
  have HRR := Lib.hid hr
  clear hr
  by_cases c1 : 160 < l.length
  · have d1 : decide ((l.length : Int) > 160) = true := decide_eq_true (by omega)
    have d1' : decide (160 < (l.length : Int)) = true := decide_eq_true (by omega)
    have HRES : Hid (r = (([], 2) : List S60 × Int)) := Lib.hid (by rw [← HRR.out]; unfold jobsF; rw [if_pos c1])
    go_enter Try.func18, Try.ntmps18
    go_wp2_with fail
    go_ret2
    exact ⟨none, 0, by rw [HRES.out]; rfl, by rw [HRES.out]; exact row0, by repeat (first | (with_reducible exact Below.refl _ _) | (with_reducible assumption) | (with_reducible refine below_drewN ?_ _) | (with_reducible refine Below.drew ?_) | (with_reducible refine below_ext_of ?_ (by first | exact Nat.le_refl _ | assumption | (simp only [World.size_alloc, World.size_setCell, size_ext, World.heap_drewN]; omega)) _ _) | (with_reducible refine Below.alloc ?_ (by first | exact Nat.le_refl _ | assumption | (simp only [World.size_alloc, World.size_setCell, size_ext, World.heap_drewN]; omega)) _) | (with_reducible refine Below.setCell ?_ (by first | exact Nat.le_refl _ | assumption | (simp only [World.size_alloc, World.size_setCell, size_ext, World.heap_drewN]; omega)) _))⟩
  by_cases c2 : u < 0
  · have d1 : decide ((l.length : Int) > 160) = false := decide_eq_false (by omega)
    have d1' : decide (160 < (l.length : Int)) = false := decide_eq_false (by omega)
    have d2 : decide (u < 0) = true := decide_eq_true c2
    have HRES : Hid (r = (([], 2) : List S60 × Int)) := Lib.hid (by rw [← HRR.out]; unfold jobsF; rw [if_neg c1, if_pos c2])
    go_enter Try.func18, Try.ntmps18
    go_wp2_with fail
    go_ret2
    exact ⟨none, 0, by rw [HRES.out]; rfl, by rw [HRES.out]; exact row0, by repeat (first | (with_reducible exact Below.refl _ _) | (with_reducible assumption) | (with_reducible refine below_drewN ?_ _) | (with_reducible refine Below.drew ?_) | (with_reducible refine below_ext_of ?_ (by first | exact Nat.le_refl _ | assumption | (simp only [World.size_alloc, World.size_setCell, size_ext, World.heap_drewN]; omega)) _ _) | (with_reducible refine Below.alloc ?_ (by first | exact Nat.le_refl _ | assumption | (simp only [World.size_alloc, World.size_setCell, size_ext, World.heap_drewN]; omega)) _) | (with_reducible refine Below.setCell ?_ (by first | exact Nat.le_refl _ | assumption | (simp only [World.size_alloc, World.size_setCell, size_ext, World.heap_drewN]; omega)) _))⟩
  by_cases c3 : 1125899906842624 < u
  · have d1 : decide ((l.length : Int) > 160) = false := decide_eq_false (by omega)
    have d1' : decide (160 < (l.length : Int)) = false := decide_eq_false (by omega)
    have d2 : decide (u < 0) = false := decide_eq_false c2
    have d3 : decide (u > 1125899906842624) = true := decide_eq_true c3
    have HRES : Hid (r = (([], 2) : List S60 × Int)) := Lib.hid (by rw [← HRR.out]; unfold jobsF; rw [if_neg c1, if_neg c2, if_pos c3])
    go_enter Try.func18, Try.ntmps18
    go_wp2_with fail
    go_ret2
    exact ⟨none, 0, by rw [HRES.out]; rfl, by rw [HRES.out]; exact row0, by repeat (first | (with_reducible exact Below.refl _ _) | (with_reducible assumption) | (with_reducible refine below_drewN ?_ _) | (with_reducible refine Below.drew ?_) | (with_reducible refine below_ext_of ?_ (by first | exact Nat.le_refl _ | assumption | (simp only [World.size_alloc, World.size_setCell, size_ext, World.heap_drewN]; omega)) _ _) | (with_reducible refine Below.alloc ?_ (by first | exact Nat.le_refl _ | assumption | (simp only [World.size_alloc, World.size_setCell, size_ext, World.heap_drewN]; omega)) _) | (with_reducible refine Below.setCell ?_ (by first | exact Nat.le_refl _ | assumption | (simp only [World.size_alloc, World.size_setCell, size_ext, World.heap_drewN]; omega)) _))⟩
  have d1 : decide ((l.length : Int) > 160) = false := decide_eq_false (by omega)
  have d1' : decide (160 < (l.length : Int)) = false := decide_eq_false (by omega)
  have d2 : decide (u < 0) = false := decide_eq_false c2
  have d3 : decide (u > 1125899906842624) = false := decide_eq_false c3
  have HU : Hid (0 ≤ u ∧ u ≤ 1125899906842624) := Lib.hid (by omega)
  have HCF := Lib.hid (fun W hb => cf_44 A0 c0 l W HOK.out (Kd.C_below HR.out hb))
  have HC1 := Lib.hid c1
  have HC2 := Lib.hid c2
  have HC3 := Lib.hid c3
  clear c1 c2 c3
  obtain ⟨bb, hbb⟩ : ∃ b, l.any bad44 = b := ⟨_, rfl⟩
  rw [hbb] at HCF
  cases bb with
  | true =>
    have HRES : Hid (r = (([], 2) : List S60 × Int)) := Lib.hid (by rw [← HRR.out]; unfold jobsF; rw [if_neg (by have := HC1.out; omega), if_neg (by have := HC2.out; omega), if_neg (by have := HC3.out; omega), if_pos hbb])
    clear hbb
    go_enter Try.func18, Try.ntmps18
    go_wp2_with fail
    refine (HCF.out _ (by repeat (first | (with_reducible exact Below.refl _ _) | (with_reducible assumption) | (with_reducible refine below_drewN ?_ _) | (with_reducible refine Below.drew ?_) | (with_reducible refine below_ext_of ?_ (by first | exact Nat.le_refl _ | assumption | (simp only [World.size_alloc, World.size_setCell, size_ext, World.heap_drewN]; omega)) _ _) | (with_reducible refine Below.alloc ?_ (by first | exact Nat.le_refl _ | assumption | (simp only [World.size_alloc, World.size_setCell, size_ext, World.heap_drewN]; omega)) _) | (with_reducible refine Below.setCell ?_ (by first | exact Nat.le_refl _ | assumption | (simp only [World.size_alloc, World.size_setCell, size_ext, World.heap_drewN]; omega)) _)))).mono ?_
    rintro e w1 ⟨rfl, hb⟩
    obtain ⟨X, d, rfl⟩ := below_ext hb
    clear hb
    go_wp2_with fail
    go_ret2
    exact ⟨none, 0, by rw [HRES.out]; rfl, by rw [HRES.out]; exact row0, by repeat (first | (with_reducible exact Below.refl _ _) | (with_reducible assumption) | (with_reducible refine below_drewN ?_ _) | (with_reducible refine Below.drew ?_) | (with_reducible refine below_ext_of ?_ (by first | exact Nat.le_refl _ | assumption | (simp only [World.size_alloc, World.size_setCell, size_ext, World.heap_drewN]; omega)) _ _) | (with_reducible refine Below.alloc ?_ (by first | exact Nat.le_refl _ | assumption | (simp only [World.size_alloc, World.size_setCell, size_ext, World.heap_drewN]; omega)) _) | (with_reducible refine Below.setCell ?_ (by first | exact Nat.le_refl _ | assumption | (simp only [World.size_alloc, World.size_setCell, size_ext, World.heap_drewN]; omega)) _))⟩
  | false =>
    have HBB := Lib.hid hbb
    have HL : Hid (∀ t ∈ l, mayC t.f0.f0 t.f0.f1 = true) := Lib.hid (fun t ht => by
      have h1 := List.any_eq_false.1 hbb t ht
      unfold bad44 at h1
      simpa using h1)
    clear hbb
    go_enter Try.func18, Try.ntmps18
    go_wp2_with fail
    refine (HCF.out _ (by repeat (first | (with_reducible exact Below.refl _ _) | (with_reducible assumption) | (with_reducible refine below_drewN ?_ _) | (with_reducible refine Below.drew ?_) | (with_reducible refine below_ext_of ?_ (by first | exact Nat.le_refl _ | assumption | (simp only [World.size_alloc, World.size_setCell, size_ext, World.heap_drewN]; omega)) _ _) | (with_reducible refine Below.alloc ?_ (by first | exact Nat.le_refl _ | assumption | (simp only [World.size_alloc, World.size_setCell, size_ext, World.heap_drewN]; omega)) _) | (with_reducible refine Below.setCell ?_ (by first | exact Nat.le_refl _ | assumption | (simp only [World.size_alloc, World.size_setCell, size_ext, World.heap_drewN]; omega)) _)))).mono ?_
    rintro e w1 ⟨rfl, hb⟩
    have HB1 := Lib.hid hb
    clear hb HCF
    have HSZ := Lib.hid hlen
    go_wp2_with fail
    clear d1 d1' d2 d3
    go_loopw [6, 31] (fun n i wr => ∃ (k : Nat) (c : Int), k ≤ l.length ∧ n = .int .i64 c ∧ i = .int .i64 k ∧ sumB u (l.take k) 0 = some c ∧ Below w.heap.size w wr) (fun _ i _ => l.length - (RowKit.intOf i).toNat)
    case atStart => exact ⟨0, 0, Nat.zero_le _, rfl, rfl, rfl, HB1.out⟩
    case round =>
      clear HB1 w1
      obtain ⟨k, c, hk, rfl, rfl, hc, hb⟩ := hrel
      have HC := Lib.hid hc
      have HB := Lib.hid hb
      clear hc hb
      by_cases hlt : k < l.length
      · have HK := Lib.hid hk
        obtain ⟨ad, A5, c5, hA, s0, s1, s2, s3, s4, s5, s6, hl5, hr5⟩ := at_T44 HR.out k (by omega) (by omega)
        rw [Int.toNat_natCast] at s0 s1 s2 s3 s4 s5 s6
        have hrd : rd_T44 l k = l.getD k z44 := rfl
        rw [hrd] at s0 s1 s2 s3 s4 s5 s6
        have HX := Lib.hid (take_succ' l z44 k hlt)
        have HOT := Lib.hid (HL.out _ (getD_mem l z44 k hlt))
        have HDR := Lib.hid (drop_getD l z44 k hlt)
        clear hrd hl5 hr5
        generalize l.getD k z44 = x at *
        replace s0 := keepc (Nat.le_refl _) HB.out s0
        replace s1 := keepc (Nat.le_refl _) HB.out s1
        replace s2 := keepc (Nat.le_refl _) HB.out s2
        replace s3 := keepc (Nat.le_refl _) HB.out s3
        replace s4 := keepc (Nat.le_refl _) HB.out s4
        replace s5 := keepc (Nat.le_refl _) HB.out s5
        replace s6 := keepc (Nat.le_refl _) HB.out s6
        have e1 : (k : Int) < l.length := by omega
        have e2 : (0 : Int) ≤ k := by omega
        obtain ⟨p1, p2, t1, t2⟩ := mayC_spec HOT.out
        have HP := Lib.hid (And.intro p1 (And.intro p2 (And.intro t1 t2)))
        have hbn := belowN_nonneg (s := x.f0.f1) (u := u) p1
        have hbl := belowN_le (u := u) p1 t1 HU.out.1
        have w3 : IntKind.i64.wrap ((k : Int) + 1) = (k : Int) + 1 := by rw [IntKind.wrap_i64]; have := HSZ.out; omega
        have HBW : Hid (Below w.heap.size w (wr.alloc (.cells #[.int .i64 x.f0.f0, .int .i64 x.f0.f1, .int .i64 x.f1, .int .i64 x.f2, .int .i64 x.f3, .slice A5 x.f4.length c5, .int .i64 x.f5] 44))) := Lib.hid (HB.out.alloc HB.out.size _)
        have HCC := Lib.hid (below_any (wr.alloc (.cells #[.int .i64 x.f0.f0, .int .i64 x.f0.f1, .int .i64 x.f1, .int .i64 x.f2, .int .i64 x.f3, .slice A5 x.f4.length c5, .int .i64 x.f5] 44)) x.f0.f0 x.f0.f1 u p1 p2 t1 t2 HU.out.1 HU.out.2)
        have hc0 := sumB_len u (l.take k) 0 0 c (fun z hz => HL.out z (List.mem_of_mem_take hz)) (by decide) HC.out
        obtain ⟨b0, hb0⟩ : ∃ b, belowN x.f0.f0 x.f0.f1 u = b := ⟨_, rfl⟩
        rw [hb0] at HCC hbn hbl
        have hu := HU.out
        obtain ⟨c2, hc2⟩ : ∃ y, c + b0 = y := ⟨_, rfl⟩
        have w2 : IntKind.i64.wrap (c + b0) = c2 := by rw [IntKind.wrap_i64]; omega
        have HB0 := Lib.hid hb0
        have HC2' := Lib.hid hc2
        clear p1 p2 t1 t2 hbn hbl hc0 hu hb0 hc2 hk
        by_cases hbig : 4096 < c2
        · have d1 : decide (c2 > 4096) = true := decide_eq_true hbig
          have HRES : Hid (r = (([], 4) : List S60 × Int)) := Lib.hid (by
            rw [← HRR.out]
            have h1 : sumB u l 0 = none := by
              rw [HDR.out, sumB_append, HC.out]
              simp only [Option.bind_some, sumB]
              rw [if_pos (by rw [HB0.out, HC2'.out]; exact hbig)]
            unfold jobsF
            rw [if_neg (by have := HC1.out; omega), if_neg (by have := HC2.out; omega), if_neg (by have := HC3.out; omega), if_neg (by rw [HBB.out]; decide), h1])
          clear hbig
          rw [hA]
          go_wp2_with fail
          refine HCC.out.mono ?_
          rintro e w4 ⟨rfl, hb⟩
          have HB5 := Lib.hid (HBW.out.trans (hb.mono HBW.out.size))
          clear hb
          go_wp2_with fail
          go_ret2
          exact ⟨none, 0, by rw [HRES.out]; rfl, by rw [HRES.out]; exact row0, HB5.out⟩
        · have d1 : decide (c2 > 4096) = false := decide_eq_false hbig
          have HBIG := Lib.hid hbig
          clear hbig
          rw [hA]
          go_wp2_with fail
          refine HCC.out.mono ?_
          rintro e w4 ⟨rfl, hb⟩
          have HB5 := Lib.hid (HBW.out.trans (hb.mono HBW.out.size))
          clear hb
          go_wp2_with fail
          go_roundw
          case rel => exact ⟨k + 1, c2, by omega, rfl, by simp, by rw [HX.out, sumB_append, HC.out]; simp only [Option.bind_some, sumB]; rw [HB0.out, HC2'.out, if_neg (Int.not_lt.2 HBIG.out)], HB5.out⟩
          case measure => simp [RowKit.intOf]; omega
      · obtain rfl : k = l.length := by omega
        have e1 : ¬ ((l.length : Int) < l.length) := by omega
        have hc := HC.out
        rw [List.take_length] at hc
        have hsl := sumB_len u l 0 0 c HL.out (by decide) hc
        have HN : Hid ((jobsL u 0 l).length ≤ 4096) := Lib.hid (by omega)
        have HRES : Hid (r = ((sortJ (jobsL u 0 l), 0) : List S60 × Int)) := Lib.hid (by
          rw [← HRR.out]
          unfold jobsF
          rw [if_neg (by have := HC1.out; omega), if_neg (by have := HC2.out; omega), if_neg (by have := HC3.out; omega), if_neg (by rw [HBB.out]; decide), hc])
        clear hc hsl HC hlt hk hlen
        go_wp2_with fail
        go_loopw [9, 46] (fun v i wr => ∃ (k : Nat), k ≤ l.length ∧ i = .int .i64 k ∧ wr.ownsRow w.heap.size 60 4 v (jobsL u 0 (l.take k)).length (flatJ (jobsL u 0 (l.take k))) ∧ Below w.heap.size w wr) (fun _ i _ => l.length - (RowKit.intOf i).toNat)
        case atStart => exact ⟨0, Nat.zero_le _, rfl, World.ownsRow_nil _ _ _ _, HB.out⟩
        case round =>
          clear HB e1
          obtain ⟨k, hk, rfl, hown, hb⟩ := hrel
          have HO := Lib.hid hown
          have HB := Lib.hid hb
          clear hown hb
          by_cases hlt : k < l.length
          · have HK := Lib.hid hk
            obtain ⟨ad, A5, c5, hA, s0, s1, s2, s3, s4, s5, s6, hl5, hr5⟩ := at_T44 HR.out k (by omega) (by omega)
            rw [Int.toNat_natCast] at s0 s1 s2 s3 s4 s5 s6
            have hrd : rd_T44 l k = l.getD k z44 := rfl
            rw [hrd] at s0 s1 s2 s3 s4 s5 s6
            have HX := Lib.hid (take_succ' l z44 k hlt)
            have HOT := Lib.hid (HL.out _ (getD_mem l z44 k hlt))
            have HDR := Lib.hid (drop_getD l z44 k hlt)
            clear hrd hl5 hr5
            generalize l.getD k z44 = x at *
            replace s0 := keepc (Nat.le_refl _) HB.out s0
            replace s1 := keepc (Nat.le_refl _) HB.out s1
            replace s2 := keepc (Nat.le_refl _) HB.out s2
            replace s3 := keepc (Nat.le_refl _) HB.out s3
            replace s4 := keepc (Nat.le_refl _) HB.out s4
            replace s5 := keepc (Nat.le_refl _) HB.out s5
            replace s6 := keepc (Nat.le_refl _) HB.out s6
            have e1 : (k : Int) < l.length := by omega
            have e2 : (0 : Int) ≤ k := by omega
            obtain ⟨p1, p2, t1, t2⟩ := mayC_spec HOT.out
            have HP := Lib.hid (And.intro p1 (And.intro p2 (And.intro t1 t2)))
            have hbn := belowN_nonneg (s := x.f0.f1) (u := u) p1
            have hbl := belowN_le (u := u) p1 t1 HU.out.1
            have w3 : IntKind.i64.wrap ((k : Int) + 1) = (k : Int) + 1 := by rw [IntKind.wrap_i64]; have := HSZ.out; omega
            have HBW : Hid (Below w.heap.size w (wr.alloc (.cells #[.int .i64 x.f0.f0, .int .i64 x.f0.f1, .int .i64 x.f1, .int .i64 x.f2, .int .i64 x.f3, .slice A5 x.f4.length c5, .int .i64 x.f5] 44))) := Lib.hid (HB.out.alloc HB.out.size _)
            have HCC := Lib.hid (below_any (wr.alloc (.cells #[.int .i64 x.f0.f0, .int .i64 x.f0.f1, .int .i64 x.f1, .int .i64 x.f2, .int .i64 x.f3, .slice A5 x.f4.length c5, .int .i64 x.f5] 44)) x.f0.f0 x.f0.f1 u p1 p2 t1 t2 HU.out.1 HU.out.2)
            have H11 : Hid ((wr.alloc (.cells #[.int .i64 x.f0.f0, .int .i64 x.f0.f1, .int .i64 x.f1, .int .i64 x.f2, .int .i64 x.f3, .slice A5 x.f4.length c5, .int .i64 x.f5] 44)).heap[wr.heap.size]? = some (.cells #[.int .i64 x.f0.f0, .int .i64 x.f0.f1, .int .i64 x.f1, .int .i64 x.f2, .int .i64 x.f3, .slice A5 x.f4.length c5, .int .i64 x.f5] 44)) := Lib.hid (heap_new' _ _ _ rfl)
            have HOA : Hid ((wr.alloc (.cells #[.int .i64 x.f0.f0, .int .i64 x.f0.f1, .int .i64 x.f1, .int .i64 x.f2, .int .i64 x.f3, .slice A5 x.f4.length c5, .int .i64 x.f5] 44)).ownsRow w.heap.size 60 4 u9 (jobsL u 0 (l.take k)).length (flatJ (jobsL u 0 (l.take k)))) := Lib.hid (HO.out.alloc _)
            have HDT : Hid (∀ n : Nat, (n : Int) < belowN x.f0.f0 x.f0.f1 u → x.f0.f1 + n * x.f0.f0 < u) := Lib.hid (fun n hn => below_date p1 hn)
            obtain ⟨b0, hb0⟩ : ∃ b, belowN x.f0.f0 x.f0.f1 u = b := ⟨_, rfl⟩
            rw [hb0] at HCC hbn HDT
            obtain ⟨N0, hN0⟩ : ∃ N : Nat, b0 = (N : Int) := ⟨b0.toNat, by omega⟩
            subst hN0
            have hJn : jobsOf u k x = jobsN k x N0 := by unfold jobsOf; rw [hb0, Int.toNat_natCast]
            have htk : (l.take k).length = k := by rw [List.length_take]; omega
            have hJS : jobsL u 0 (l.take (k + 1)) = jobsL u 0 (l.take k) ++ jobsN k x N0 := by
              rw [HX.out, jobsL_append, htk]
              simp only [jobsL, List.append_nil, Nat.zero_add]
              rw [hJn]
            have hJB : (jobsL u 0 (l.take k)).length + N0 ≤ 4096 := by
              have h1 := jobsL_mono u l (k + 1)
              rw [hJS, List.length_append, jobsN_length] at h1
              have := HN.out
              omega
            have HJS := Lib.hid hJS
            have HJB := Lib.hid hJB
            obtain ⟨J, hJ⟩ : ∃ J, jobsL u 0 (l.take k) = J := ⟨_, rfl⟩
            rw [hJ] at HOA HJS HJB
            clear p1 p2 t1 t2 hbn hbl hb0 hk hJn htk hJS hJB hJ HO
            rw [hA]
            go_wp2_with fail
            obtain ⟨B11, hB11⟩ : ∃ B, wr.heap.size = B := ⟨_, rfl⟩
            obtain ⟨V, hV⟩ : ∃ V, (wr.alloc (.cells #[.int .i64 x.f0.f0, .int .i64 x.f0.f1, .int .i64 x.f1, .int .i64 x.f2, .int .i64 x.f3, .slice A5 x.f4.length c5, .int .i64 x.f5] 44)) = V := ⟨_, rfl⟩
            rw [hV] at HBW HCC H11 HOA ⊢
            rw [hB11] at H11 ⊢
            refine HCC.out.mono ?_
            rintro e w4 ⟨rfl, hb⟩
            have HB4 := Lib.hid (HBW.out.trans (hb.mono HBW.out.size))
            have H4 := Lib.hid ((hb.block _ (lt_of_blk H11.out)).trans H11.out)
            have HO4 := Lib.hid (own_below HOA.out hb)
            clear hb HCC HBW H11 HOA hV hB11 HB s0 s1 s2 s3 s4 s5 s6 wr
            go_wp2_with fail
            go_loopw [9, 55] (fun v i wr => ∃ (m : Nat), m ≤ N0 ∧ i = .int .i64 m ∧ wr.ownsRow w.heap.size 60 4 v (J ++ jobsN k x m).length (flatJ (J ++ jobsN k x m)) ∧ wr.heap[B11]? = some (.cells #[.int .i64 x.f0.f0, .int .i64 x.f0.f1, .int .i64 x.f1, .int .i64 x.f2, .int .i64 x.f3, .slice A5 x.f4.length c5, .int .i64 x.f5] 44) ∧ Below w.heap.size w wr) (fun _ i _ => N0 - (RowKit.intOf i).toNat)
            case atStart => exact ⟨0, Nat.zero_le _, rfl, by simpa [jobsN] using HO4.out, H4.out, HB4.out⟩
            case round =>
              clear HO4 H4 HB4 w4
              obtain ⟨m, hm, rfl, hown, h11, hb⟩ := hrel
              have HO := Lib.hid hown
              have H11 := Lib.hid h11
              have HB := Lib.hid hb
              have HM := Lib.hid hm
              clear hown h11 hb
              by_cases hlt2 : m < N0
              · obtain ⟨p1, p2, t1, t2⟩ := HP.out
                have hu := HU.out
                have hdt := HDT.out m (by omega)
                have hD0 : 0 ≤ (m : Int) * x.f0.f0 := Int.mul_nonneg (by omega) (by omega)
                obtain ⟨D, hD⟩ : ∃ D, (m : Int) * x.f0.f0 = D := ⟨_, rfl⟩
                obtain ⟨E, hE⟩ : ∃ E, x.f0.f1 + D = E := ⟨_, rfl⟩
                have W1 : IntKind.i64.wrap ((m : Int) * x.f0.f0) = D := by rw [hD, IntKind.wrap_i64]; rw [hD] at hdt hD0; omega
                have W2 : IntKind.i64.wrap (x.f0.f1 + D) = E := by rw [IntKind.wrap_i64]; rw [hD] at hdt hD0; omega
                obtain ⟨F', hF⟩ : ∃ F, IntKind.i64.wrap (E + x.f1) = F := ⟨_, rfl⟩
                have HY : Hid (jobOf k x m = ⟨k, m, E, F'⟩) := Lib.hid (by unfold jobOf; rw [hD, hE, hF])
                have HW1 := Lib.hid W1
                have HW2 := Lib.hid W2
                have e3 : (m : Int) < N0 := by omega
                have e5 : IntKind.i64.wrap ((m : Int) + 1) = (m : Int) + 1 := by rw [IntKind.wrap_i64]; have := HJB.out; omega
                have k0 : wr.cell? ⟨B11, 0, none⟩ = some (.int .i64 x.f0.f0) := cell_lit (i := 0) H11.out
                have k1 : wr.cell? ⟨B11, 1, none⟩ = some (.int .i64 x.f0.f1) := cell_lit (i := 1) H11.out
                clear p1 p2 t1 t2 hdt hD0 hD hE W1 W2 hu hm
                go_wp2_with fail
                refine (udate_any _ x.f0.f0 x.f0.f1 m D E HW1.out HW2.out).mono ?_
                rintro e w5 ⟨rfl, hb⟩
                have HB5 := Lib.hid (HB.out.trans (hb.mono HB.out.size))
                have H5 := Lib.hid ((hb.block _ (lt_of_blk H11.out)).trans H11.out)
                obtain ⟨pv, cv, hv⟩ := row_formJ HO.out
                have hO5 := own_below HO.out hb
                rw [hv] at hO5
                subst hv
                have hq : (J ++ jobsN k x m).length = J.length + m := by rw [List.length_append, jobsN_length]
                have hqle : J.length + m + 1 ≤ 4096 := by have := HJB.out; omega
                rw [hq] at hO5 ⊢
                obtain ⟨q, hqq⟩ : ∃ q, J.length + m = q := ⟨_, rfl⟩
                rw [hqq] at hO5 hqle ⊢
                have HQ := Lib.hid hqq
                have HO5 := Lib.hid hO5
                have k2 : w5.cell? ⟨B11, 2, none⟩ = some (.int .i64 x.f1) := cell_lit (i := 2) H5.out
                have n5 : w.heap.size ≤ w5.heap.size := HB5.out.size
                clear hb H11 HO HB k0 k1 hO5 hq hqq wr
                go_wp2_with (first
                  | (at_builtin; refine wpList_append_own_at _ (by rfl) _ _ 55 rfl w.heap.size 60 i0 (.agg #[.int .i64 0, .int .i64 0, .int .i64 0, .int .i64 0]) 4 32 Try.underlying55 hi hz0 hz1 hz2 rfl (by decide) (.slice pv q cv) q (flatJ (J ++ jobsN k x m)) (by rfl) (HO5.out.alloc _) ⟨w5.heap.size, 0, none⟩ 1 1 (kvJ ⟨k, m, E, F'⟩) (by rfl) rfl (job_src w5 ⟨k, m, E, F'⟩) (one_kvJ _) (by unfold maxLen; omega) (by omega) (by simp; omega) ?_
                     intro v2 w6 hown hgrow hnil hat
                     have HA6 := Lib.hid ((HB5.out.alloc n5 (.cells #[.int .i64 (k : Int), .int .i64 (m : Int), .int .i64 E, .int .i64 F'] 60)))
                     have HB6 := Lib.hid (grown_below HA6.out (HO5.out.alloc _) hgrow (by simp; omega))
                     have H56 : (w5.alloc (.cells #[.int .i64 (k : Int), .int .i64 (m : Int), .int .i64 E, .int .i64 F'] 60)).heap[B11]? = some (.cells #[.int .i64 x.f0.f0, .int .i64 x.f0.f1, .int .i64 x.f1, .int .i64 x.f2, .int .i64 x.f3, .slice A5 x.f4.length c5, .int .i64 x.f5] 44) := (heap_old' _ _ _ (lt_of_blk H5.out)).trans H5.out
                     have H6 := Lib.hid ((hgrow.block _ (lt_of_blk H56) (own_ne (HO5.out.alloc _) H56 (by decide))).trans H56)
                     have HO6 := Lib.hid hown
                     clear hown hgrow hnil hat HA6 H56 HB5 H5 HO5 k2 n5))
                go_roundw
                case rel => exact ⟨m + 1, by omega, by simp, own_step (by rw [HY.out, List.length_append, jobsN_length, HQ.out]; exact HO6.out), H6.out, HB6.out⟩
                case measure => simp [RowKit.intOf]; omega
              · obtain rfl : m = N0 := by omega
                have e4 : ¬ ((m : Int) < m) := by omega
                go_wp2_with fail
                go_roundw
                case rel => exact ⟨k + 1, by omega, by simp, by rw [HJS.out]; exact HO.out, HB.out⟩
                case measure => simp [RowKit.intOf]; omega
          · obtain rfl : k = l.length := by omega
            have e1 : ¬ ((l.length : Int) < l.length) := by omega
            have hO := HO.out
            rw [List.take_length] at hO
            have HO2 := Lib.hid hO
            clear hO HO
            go_wp2_with fail
            have hO := HO2.out
            have hN := HN.out
            generalize jobsL u 0 l = J at *
            rcases hO.2 with ⟨hv, hn⟩ | ⟨g, cap, cur, hv, hbg, hg, _⟩
            · subst hv
              have hJ : J = [] := List.length_eq_zero_iff.1 hn
              subst hJ
              refine (sort_none none 0 wr).mono ?_
              rintro e w' ⟨rfl, rfl⟩
              clear hO hN
              go_wp2_with fail
              go_ret2
              have h0 : sortJ [] = [] := List.length_eq_zero_iff.1 (sortJ_length [])
              exact ⟨none, 0, by rw [HRES.out, h0]; rfl, by rw [HRES.out, h0]; exact row0, HB.out⟩
            · subst hv
              obtain ⟨hH, hblk, hbase, _⟩ := holds_own hO
              refine (sort_jobs g 0 cap J.toArray wr hH hblk (by simp; omega)).mono ?_
              rintro e w' ⟨rfl, nn, os, rfl⟩
              have HD : Hid (k60.C (sortWorldK kvJ 4 wr g 0 nn (pdq (ltOf cmpJ) J.toArray 0 J.toArray.size (Lib.bitLen J.toArray.size) true true) os) (some ⟨g, 0, none⟩) J.length (sortJ J)) := Lib.hid (by
                have hl := sortJ_length J
                have hs : (pdq (ltOf cmpJ) J.toArray 0 J.toArray.size (Lib.bitLen J.toArray.size) true true).size = J.toArray.size := by
                  have : (sortJ J).length = _ := hl
                  unfold sortJ at this
                  simpa using this
                have h1 := reads_holds (holdsK_sortWorldK kvJ 4 wr g 0 nn J.toArray _ os hblk hH hs) (by rw [hs]; simp; omega)
                rw [hs] at h1
                simpa [sortJ] using h1)
              have HE := Lib.hid (HB.out.trans ((sorted_blocks (w := wr) hbase hblk 0 nn (pdq (ltOf cmpJ) J.toArray 0 J.toArray.size (Lib.bitLen J.toArray.size) true true) os)))
              generalize sortWorldK kvJ 4 wr g 0 nn (pdq (ltOf cmpJ) J.toArray 0 J.toArray.size (Lib.bitLen J.toArray.size) true true) os = W at *
              clear hO hN hH hblk hbase hg
              go_wp2_with fail
              go_ret2
              exact ⟨some ⟨g, 0, none⟩, cap, by rw [HRES.out, sortJ_length]; rfl, by rw [HRES.out, sortJ_length]; exact HD.out, HE.out⟩
end Go.Proofs.Ytkabmpbfabgkfaa
