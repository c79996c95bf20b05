/-
  words.Up of a word that may be: contract.
  Conditions: the rows lie in memory; the number is 1 or more.
-/
import Derived.Test.YtpcnapmlmhhcpaaWq
import Derived.WalkKit
import Derived.WalkSpells
import Derived.WalkLawsBesides
import Derived.Deep.QuietTactic
import Derived.BigQuiet
import Derived.Lib.Hide
import Derived.Handy
import Derived.Deep.AppendLies
import Derived.Maps.AppendAt
import Derived.OwnWalk
import Derived.Lib.LazyBuf
import Derived.Deep.DeepCutAuto
import Derived.Deep.RegionLaw
import Derived.Deep.RegionHeld3
import Derived.Deep.RegionWith
import Derived.BigRegion
set_option linter.unusedVariables false
set_option linter.unusedSimpArgs false
namespace Go.Proofs.Ytpcnapmlmhhcpaa
open Go.RowKit 
attribute [local go_sem] setCell_drewN alloc_drewN size_ext ext_ext ext_drewN ext_drew drewN_ext drew_ext cell?_ext frozen?_ext setCell_ext cell?_past1 frozen?_past1 setCell_past1 cell?_past2 frozen?_past2 setCell_past2 cell?_past3 frozen?_past3 setCell_past3 cell?_past4 frozen?_past4 setCell_past4 cell?_past5 frozen?_past5 setCell_past5 cell?_past6 frozen?_past6 setCell_past6 cell?_past7 frozen?_past7 setCell_past7 cell?_past8 frozen?_past8 setCell_past8
/-- What Up makes of a short word. -/
def upOut (H L : List Int) (k : Nat) : List Int × List Int × Int :=
  if H.length = 0 ∧ L.length = 1 then (H, L, 0)
  else if 4096 < k ∨ 4096 < H.length * k ∨ (1 < L.length ∧ 4096 < L.length * k) then ([], [], 4)
  else (outH (tab (fun i => num H L (i / k)) (H.length * k)) (tab (fun i => num H L ((H.length * k + i) / k)) (L.length * k)), outL (tab (fun i => num H L (i / k)) (H.length * k)) (tab (fun i => num H L ((H.length * k + i) / k)) (L.length * k)), outE (tab (fun i => num H L (i / k)) (H.length * k)) (tab (fun i => num H L ((H.length * k + i) / k)) (L.length * k)))

theorem Fresh.ext_swap {W W' : World} {X : Array Obj} {d d' : Nat} {B : Nat} {v : Value} {xs : List Int} (h : Fresh (ext W X d) B v xs) (hs : W'.heap.size = W.heap.size) (hB : W.heap.size ≤ B) : Fresh (ext W' X d') B v xs := by
  apply h.move
  intro k hk _
  simp only [ext]
  rw [Array.getElem?_append_right (by omega), Array.getElem?_append_right (by omega), hs]
theorem may_fits {h l : List Int} (hm : may h l = true) : fits h l = true := by
  obtain ⟨m1, m2, m3⟩ := may_len hm
  unfold fits
  rw [decide_eq_true (by unfold sHead; rw [List.length_take]; omega), decide_eq_true (by have := lp_le l; omega)]
  rfl
theorem may_norm {h l : List Int} (hm : may h l = true) : nE h l = 0 ∧ nH h l = sHead h l ∧ nL h l = sLoop h l := by
  unfold nE nH nL outE outH outL
  rw [if_pos hm, if_pos hm, if_pos hm, if_pos (may_fits hm), if_pos (may_fits hm), if_pos (may_fits hm)]
  exact ⟨rfl, rfl, rfl⟩
theorem may_sizes {h l : List Int} (hm : may h l = true) : (nH h l).length ≤ 4096 ∧ 0 < (nL h l).length ∧ (nL h l).length ≤ 4096 := by
  obtain ⟨m1, m2, m3⟩ := may_len hm
  obtain ⟨_, e1, e2⟩ := may_norm hm
  have p0 := lp_pos l m1
  have p1 := lp_le l
  have hb : sBack h l < lp l := Nat.mod_lt _ p0
  rw [e1, e2]
  unfold sHead sLoop
  rw [List.length_append, List.length_drop, List.length_take, List.length_take, List.length_take]
  omega
set_option maxRecDepth 100000 in
set_option maxHeartbeats 4000000 in
theorem up_ok (w : World) (vh vl : Value) (h l : List Int) (k : Nat) (h1 : RowAt w vh h) (h2 : RowAt w vl l) (hm : may h l = true) (hk1 : 0 < k) (hk : k < 9223372036854775808) :
    Calls Try.prog 15 #[.agg #[vh, vl], .int .i64 (k : Int)] w fun e w' => Below w.heap.size w w' ∧ ∃ v1 v2, e = .returned (.tuple #[.agg #[v1, v2], .int .i64 (upOut (nH h l) (nL h l) k).2.2]) ∧ Fresh w' w.heap.size v1 (upOut (nH h l) (nL h l) k).1 ∧ Fresh w' w.heap.size v2 (upOut (nH h l) (nL h l) k).2.1 ∧ Apart v1 v2 := by
  obtain ⟨s1, s2, s3⟩ := may_sizes hm
  have hE := (may_norm hm).1
  have H1 := Lib.hid h1
  have H2 := Lib.hid h2
  obtain ⟨ph, ch, rfl, rh⟩ := h1
  obtain ⟨pl, cl, rfl, rl⟩ := h2
  have e1 : ¬ ((k : Int) < 1) := by omega
  have e2 := decide_eq_false e1
  clear rh rl hm
  go_enter Try.func15, Try.ntmps15
  go_wp2_with fail
  refine (norm_any _ _ _ h l (H1.out.below (by repeat (first | (with_reducible exact Below.refl _ _) | (with_reducible assumption) | (with_reducible refine below_drewN ?_ _) | (with_reducible refine Below.drew ?_) | (with_reducible refine below_ext_of ?_ (by first | exact Nat.le_refl _ | assumption | (simp only [World.size_alloc, World.size_setCell, size_ext, World.heap_drewN]; omega)) _ _) | (with_reducible refine Below.alloc ?_ (by first | exact Nat.le_refl _ | assumption | (simp only [World.size_alloc, World.size_setCell, size_ext, World.heap_drewN]; omega)) _) | (with_reducible refine Below.setCell ?_ (by first | exact Nat.le_refl _ | assumption | (simp only [World.size_alloc, World.size_setCell, size_ext, World.heap_drewN]; omega)) _)))) (H2.out.below (by repeat (first | (with_reducible exact Below.refl _ _) | (with_reducible assumption) | (with_reducible refine below_drewN ?_ _) | (with_reducible refine Below.drew ?_) | (with_reducible refine below_ext_of ?_ (by first | exact Nat.le_refl _ | assumption | (simp only [World.size_alloc, World.size_setCell, size_ext, World.heap_drewN]; omega)) _ _) | (with_reducible refine Below.alloc ?_ (by first | exact Nat.le_refl _ | assumption | (simp only [World.size_alloc, World.size_setCell, size_ext, World.heap_drewN]; omega)) _) | (with_reducible refine Below.setCell ?_ (by first | exact Nat.le_refl _ | assumption | (simp only [World.size_alloc, World.size_setCell, size_ext, World.heap_drewN]; omega)) _))))).mono ?_
  rintro e w1 ⟨hb, v1, v2, rfl, o1, o2, hap⟩
  rw [hE]
  obtain ⟨X, d, rfl⟩ := below_ext hb
  clear hb
  have r1 := o1.row
  have r2 := o2.row
  have O1 := Lib.hid o1
  have O2 := Lib.hid o2
  have HAP0 := Lib.hid hap
  clear o1 o2 hap hE
  obtain ⟨p1, c1, rfl, _, _, _, _⟩ := r1
  obtain ⟨p2, c2, rfl, _, _, _, _⟩ := r2
  obtain ⟨n, hn⟩ : ∃ n, n = (nH h l).length := ⟨_, rfl⟩
  obtain ⟨m, hmm⟩ : ∃ m, m = (nL h l).length := ⟨_, rfl⟩
  have HN := Lib.hid hn
  have HM := Lib.hid hmm
  rw [← hn] at s1 O1 HAP0
  rw [← hmm] at s2 s3 O2 HAP0
  rw [← hn, ← hmm]
  clear hn hmm
  by_cases hone : n = 0 ∧ m = 1
  · obtain ⟨rfl, rfl⟩ := hone
    have hout : Hid (upOut (nH h l) (nL h l) k = (nH h l, nL h l, 0)) := Lib.hid (by unfold upOut; rw [if_pos ⟨HN.out.symm, HM.out.symm⟩])
    go_wp2_with fail
    go_region
    go_wp2_with fail
    refine bodyPost_ret (v := .tuple #[.agg #[.slice p1 0 c1, .slice p2 1 c2], .int .i64 0]) (by simp [results, Try.results15, go_sem]) rfl ⟨?_, ?_⟩
    · exact below_ext_of (((((Below.refl _ _).alloc (Nat.le_refl _) _).alloc (by simp) _)).alloc (by simp; omega) _) (by simp; omega) _ _
    · rw [hout.out]; exact ⟨_, _, rfl, (O1.out.ext_swap (by simp) (Nat.le_refl _)).mono (by simp; omega), (O2.out.ext_swap (by simp) (Nat.le_refl _)).mono (by simp; omega), HAP0.out⟩

  · have HONE := Lib.hid hone
    by_cases hn0 : n = 0
    · have d1 : ((n : Int) == 0) = true := by rw [hn0]; rfl
      have d2 : ((m : Int) == 1) = false := beq_false_of_ne (by omega)
      have d4 : ¬ ((m : Int) = 1) := by omega
      by_cases hk4 : 4096 < k
      · obtain ⟨q, hq⟩ : ∃ q, q = n * k := ⟨_, rfl⟩
        obtain ⟨s, hs⟩ : ∃ s, s = m * k := ⟨_, rfl⟩
        have HQ := Lib.hid hq
        have HS := Lib.hid hs
        clear hq hs
        have nK : (4096 < k) := by omega
        have nK2 := decide_eq_true nK
        have a1 : (4096 : Int) < k := by omega
        have a2 := decide_eq_true a1
        have a3 : decide ((k : Int) > 4096) = true := a2
        have HL : Hid (upOut (nH h l) (nL h l) k = ([], [], 4)) := Lib.hid (by
          unfold upOut
          rw [if_neg (fun c => HONE.out ⟨HN.out.trans c.1, HM.out.trans c.2⟩), if_pos]
          rw [← HN.out, ← HM.out, ← HQ.out, ← HS.out]
          omega)
        clear hn0
        go_wp2_with fail
        go_region
        go_wp2_with fail
        refine bodyPost_ret (v := .tuple #[.agg #[.slice none 0 0, .slice none 0 0], .int .i64 4]) (by simp [results, Try.results15, go_sem]) rfl ⟨?_, ?_⟩
        · exact below_ext_of (((((Below.refl _ _).alloc (Nat.le_refl _) _).alloc (by simp) _)).alloc (by simp; omega) _) (by simp; omega) _ _
        · rw [HL.out]; exact ⟨_, _, rfl, Fresh.nil _ _, Fresh.nil _ _, Apart.nil⟩

      · obtain ⟨q, hq⟩ : ∃ q, q = n * k := ⟨_, rfl⟩
        obtain ⟨s, hs⟩ : ∃ s, s = m * k := ⟨_, rfl⟩
        have hqb : q ≤ 4096 * 4096 := by rw [hq]; exact Nat.mul_le_mul s1 (by omega)
        have hsb : s ≤ 4096 * 4096 := by rw [hs]; exact Nat.mul_le_mul s3 (by omega)
        have hs0 : 0 < s := by rw [hs]; exact Nat.mul_pos s2 hk1
        have hq1 : ((n : Int) * (k : Int)) = (q : Int) := by rw [hq]; exact (Int.natCast_mul n k).symm
        have hq2 : IntKind.i64.wrap ((n : Int) * (k : Int)) = (q : Int) := by rw [hq1, IntKind.wrap_i64]; omega
        have hq3 : IntKind.i64.wrap (q : Int) = (q : Int) := by rw [IntKind.wrap_i64]; omega
        have hs1 : ((m : Int) * (k : Int)) = (s : Int) := by rw [hs]; exact (Int.natCast_mul m k).symm
        have hs2 : IntKind.i64.wrap ((m : Int) * (k : Int)) = (s : Int) := by rw [hs1, IntKind.wrap_i64]; omega
        have hs3 : IntKind.i64.wrap (s : Int) = (s : Int) := by rw [IntKind.wrap_i64]; omega
        have HQ := Lib.hid hq
        have HS := Lib.hid hs
        by_cases hq4 : 4096 < q
        · clear hq hs
          have nK : ¬ (4096 < k) := by omega
          have nK2 := decide_eq_false nK
          have a1 : ¬ ((4096 : Int) < k) := by omega
          have a2 := decide_eq_false a1
          have a3 : decide ((k : Int) > 4096) = false := a2
          have nQ : (4096 < q) := by omega
          have nQ2 := decide_eq_true nQ
          have b1 : (4096 : Int) < q := by omega
          have b2 := decide_eq_true b1
          have b3 : decide ((q : Int) > 4096) = true := b2
          have HL : Hid (upOut (nH h l) (nL h l) k = ([], [], 4)) := Lib.hid (by
            unfold upOut
            rw [if_neg (fun c => HONE.out ⟨HN.out.trans c.1, HM.out.trans c.2⟩), if_pos]
            rw [← HN.out, ← HM.out, ← HQ.out, ← HS.out]
            omega)
          clear hn0
          go_wp2_with fail
          go_region
          go_wp2_with fail
          refine bodyPost_ret (v := .tuple #[.agg #[.slice none 0 0, .slice none 0 0], .int .i64 4]) (by simp [results, Try.results15, go_sem]) rfl ⟨?_, ?_⟩
          · exact below_ext_of (((((Below.refl _ _).alloc (Nat.le_refl _) _).alloc (by simp) _)).alloc (by simp; omega) _) (by simp; omega) _ _
          · rw [HL.out]; exact ⟨_, _, rfl, Fresh.nil _ _, Fresh.nil _ _, Apart.nil⟩

        · by_cases hm1 : 1 < m
          · by_cases hs4 : 4096 < s
            · clear hq hs
              have nK : ¬ (4096 < k) := by omega
              have nK2 := decide_eq_false nK
              have a1 : ¬ ((4096 : Int) < k) := by omega
              have a2 := decide_eq_false a1
              have a3 : decide ((k : Int) > 4096) = false := a2
              have nQ : ¬ (4096 < q) := by omega
              have nQ2 := decide_eq_false nQ
              have b1 : ¬ ((4096 : Int) < q) := by omega
              have b2 := decide_eq_false b1
              have b3 : decide ((q : Int) > 4096) = false := b2
              have nM : (1 < m) := by omega
              have nM2 := decide_eq_true nM
              have c1_ : (1 : Int) < m := by omega
              have c2_ := decide_eq_true c1_
              have c3_ : decide ((m : Int) > 1) = true := c2_
              have nS : (4096 < s) := by omega
              have nS2 := decide_eq_true nS
              have g1 : (4096 : Int) < s := by omega
              have g2 := decide_eq_true g1
              have g3 : decide ((s : Int) > 4096) = true := g2
              have HL : Hid (upOut (nH h l) (nL h l) k = ([], [], 4)) := Lib.hid (by
                unfold upOut
                rw [if_neg (fun c => HONE.out ⟨HN.out.trans c.1, HM.out.trans c.2⟩), if_pos]
                rw [← HN.out, ← HM.out, ← HQ.out, ← HS.out]
                omega)
              clear hn0
              go_wp2_with fail
              go_region
              go_wp2_with fail
              refine bodyPost_ret (v := .tuple #[.agg #[.slice none 0 0, .slice none 0 0], .int .i64 4]) (by simp [results, Try.results15, go_sem]) rfl ⟨?_, ?_⟩
              · exact below_ext_of (((((Below.refl _ _).alloc (Nat.le_refl _) _).alloc (by simp) _)).alloc (by simp; omega) _) (by simp; omega) _ _
              · rw [HL.out]; exact ⟨_, _, rfl, Fresh.nil _ _, Fresh.nil _ _, Apart.nil⟩

            · clear hq hs
              have nK : ¬ (4096 < k) := by omega
              have nK2 := decide_eq_false nK
              have a1 : ¬ ((4096 : Int) < k) := by omega
              have a2 := decide_eq_false a1
              have a3 : decide ((k : Int) > 4096) = false := a2
              have nQ : ¬ (4096 < q) := by omega
              have nQ2 := decide_eq_false nQ
              have b1 : ¬ ((4096 : Int) < q) := by omega
              have b2 := decide_eq_false b1
              have b3 : decide ((q : Int) > 4096) = false := b2
              have nM : (1 < m) := by omega
              have nM2 := decide_eq_true nM
              have c1_ : (1 : Int) < m := by omega
              have c2_ := decide_eq_true c1_
              have c3_ : decide ((m : Int) > 1) = true := c2_
              have nS : ¬ (4096 < s) := by omega
              have nS2 := decide_eq_false nS
              have g1 : ¬ ((4096 : Int) < s) := by omega
              have g2 := decide_eq_false g1
              have g3 : decide ((s : Int) > 4096) = false := g2
              have HL : Hid (upOut (nH h l) (nL h l) k = (outH (tab (fun i => num (nH h l) (nL h l) (i / k)) q) (tab (fun i => num (nH h l) (nL h l) ((q + i) / k)) s), outL (tab (fun i => num (nH h l) (nL h l) (i / k)) q) (tab (fun i => num (nH h l) (nL h l) ((q + i) / k)) s), outE (tab (fun i => num (nH h l) (nL h l) (i / k)) q) (tab (fun i => num (nH h l) (nL h l) ((q + i) / k)) s))) := Lib.hid (by
                unfold upOut
                rw [if_neg (fun c => HONE.out ⟨HN.out.trans c.1, HM.out.trans c.2⟩), if_neg, ← HN.out, ← HM.out, ← HQ.out, ← HS.out]
                rw [← HN.out, ← HM.out, ← HQ.out, ← HS.out]
                omega)
              clear hn0
              go_wp2_with fail
              go_region
              go_wp2_with fail
              obtain ⟨W, hW⟩ : ∃ W, W = ext (((w.alloc (.cells #[.slice p1 n c1, .slice p2 m c2] 24)).alloc (.cells #[.int .i64 (k : Int)] 2)).alloc (.cells #[.slice none 0 0, .slice none 0 0] 24)) X (d + 1) := ⟨_, rfl⟩
              rw [← hW]
              have hbW : Below w.heap.size w W := by rw [hW]; exact below_ext_of (((((Below.refl _ _).alloc (Nat.le_refl _) _).alloc (by simp) _)).alloc (by simp; omega) _) (by simp; omega) _ _
              have k0 : W.cell? ⟨w.heap.size, 0, none⟩ = some (.slice p1 n c1) := by rw [hW]; simp [go_sem]
              have k1 : W.cell? ⟨w.heap.size, 1, none⟩ = some (.slice p2 m c2) := by rw [hW]; simp [go_sem]
              have k2 : W.cell? ⟨w.heap.size + 1, 0, none⟩ = some (.int .i64 (k : Int)) := by rw [hW]; simp [go_sem]
              have hz1 : w.heap.size < W.heap.size := by rw [hW]; simp [go_sem]; omega
              have hz2 : w.heap.size + 1 < W.heap.size := by rw [hW]; simp [go_sem]; omega
              have hz3 : w.heap.size + 2 < W.heap.size := by rw [hW]; simp [go_sem]; omega
              have hblk : W.heap[w.heap.size + 2]? = some (.cells #[.slice none 0 0, .slice none 0 0] 24) := by
                rw [hW, (ext_below _ _ _).block _ (by simp)]
                have := heap_alloc_new ((w.alloc (.cells #[.slice p1 n c1, .slice p2 m c2] 24)).alloc (.cells #[.int .i64 (k : Int)] 2)) (.cells #[.slice none 0 0, .slice none 0 0] 24)
                rwa [World.size_alloc, World.size_alloc] at this
              have R1 : Hid (RowAt W (.slice p1 n c1) (nH h l)) := Lib.hid (by rw [hW]; exact (O1.out.ext_swap (by simp) (Nat.le_refl _)).row)
              have R2 : Hid (RowAt W (.slice p2 m c2) (nL h l)) := Lib.hid (by rw [hW]; exact (O2.out.ext_swap (by simp) (Nat.le_refl _)).row)
              have HBW := Lib.hid hbW
              have HKB := Lib.hid hblk
              clear hW hbW hblk
              refine (made_up _ _ _ q s (fun i => num (nH h l) (nL h l) (i / k)) hs0 (by omega) (by omega) (fun i hi w' hb' => ?_)).mono ?_
              · exact upc w' w.heap.size (w.heap.size + 1) (.slice p1 n c1) (.slice p2 m c2) (nH h l) (nL h l) k i hk1 ((hb'.cell (p := ⟨w.heap.size, 0, none⟩) hz1).trans k0) ((hb'.cell (p := ⟨w.heap.size, 1, none⟩) hz1).trans k1) ((hb'.cell (p := ⟨w.heap.size + 1, 0, none⟩) hz2).trans k2) (R1.out.below hb') (R2.out.below hb') (by rw [← HM.out]; omega) (by omega) (by rw [← HN.out]; omega)
              rintro e w3 ⟨hb, v1, v2, rfl, o1, o2, hap⟩
              have Q1 := Lib.hid o1
              have Q2 := Lib.hid o2
              have HAP := Lib.hid hap
              have r1 := o1.row
              have r2 := o2.row
              clear o1 o2 hap
              obtain ⟨p1, c1, rfl, _⟩ := r1
              obtain ⟨p2, c2, rfl, _⟩ := r2
              have hblk : w3.heap[w.heap.size + 2]? = some (.cells #[.slice none 0 0, .slice none 0 0] 24) := (hb.block _ hz3).trans HKB.out
              have k0 : w3.cell? ⟨w.heap.size + 2, 0, none⟩ = some (.slice none 0 0) := by simp [World.cell?, hblk]
              have k1 : w3.cell? ⟨w.heap.size + 2, 1, none⟩ = some (.slice none 0 0) := by simp [World.cell?, hblk]
              have kf : ∀ o, w3.frozen? ⟨w.heap.size + 2, o, none⟩ = false := fun o => by simp [World.frozen?, hblk]
              have hz : w.heap.size + 2 < w3.heap.size := (Array.getElem?_eq_some_iff.1 hblk).1
              have HB3 := Lib.hid (HBW.out.trans (hb.mono HBW.out.size))
              have HK3 := Lib.hid hblk
              clear hb hblk
              generalize (outH (tab (fun i => num (nH h l) (nL h l) (i / k)) q) (tab (fun i => num (nH h l) (nL h l) ((q + i) / k)) s)).length = q1 at *
              generalize (outL (tab (fun i => num (nH h l) (nL h l) (i / k)) q) (tab (fun i => num (nH h l) (nL h l) ((q + i) / k)) s)).length = q2 at *
              go_wp2_with fail
              refine bodyPost_ret (v := .tuple #[.agg #[.slice p1 q1 c1, .slice p2 q2 c2], .int .i64 (outE (tab (fun i => num (nH h l) (nL h l) (i / k)) q) (tab (fun i => num (nH h l) (nL h l) ((q + i) / k)) s))]) (by simp [results, Try.results15, go_sem, k0, k1, hz]) rfl ⟨?_, by rw [HL.out]; exact ⟨_, _, rfl, ((Q1.out.put (b := w.heap.size + 2) hz3 0 _).put (b := w.heap.size + 2) hz3 1 _).mono (Nat.le_of_lt hz1), ((Q2.out.put (b := w.heap.size + 2) hz3 0 _).put (b := w.heap.size + 2) hz3 1 _).mono (Nat.le_of_lt hz1), HAP.out⟩⟩
              exact (HB3.out.setCell (p := ⟨w.heap.size + 2, 0, none⟩) (by show _ ≤ w.heap.size + 2; omega) _).setCell (p := ⟨w.heap.size + 2, 1, none⟩) (by show _ ≤ w.heap.size + 2; omega) _

          · omega

    · have d1 : ((n : Int) == 0) = false := beq_false_of_ne (by omega)
      have d3 : ¬ ((n : Int) = 0) := by omega
      by_cases hk4 : 4096 < k
      · obtain ⟨q, hq⟩ : ∃ q, q = n * k := ⟨_, rfl⟩
        obtain ⟨s, hs⟩ : ∃ s, s = m * k := ⟨_, rfl⟩
        have HQ := Lib.hid hq
        have HS := Lib.hid hs
        clear hq hs
        have nK : (4096 < k) := by omega
        have nK2 := decide_eq_true nK
        have a1 : (4096 : Int) < k := by omega
        have a2 := decide_eq_true a1
        have a3 : decide ((k : Int) > 4096) = true := a2
        have HL : Hid (upOut (nH h l) (nL h l) k = ([], [], 4)) := Lib.hid (by
          unfold upOut
          rw [if_neg (fun c => HONE.out ⟨HN.out.trans c.1, HM.out.trans c.2⟩), if_pos]
          rw [← HN.out, ← HM.out, ← HQ.out, ← HS.out]
          omega)
        go_wp2_with fail
        go_region
        go_wp2_with fail
        refine bodyPost_ret (v := .tuple #[.agg #[.slice none 0 0, .slice none 0 0], .int .i64 4]) (by simp [results, Try.results15, go_sem]) rfl ⟨?_, ?_⟩
        · exact below_ext_of (((((Below.refl _ _).alloc (Nat.le_refl _) _).alloc (by simp) _)).alloc (by simp; omega) _) (by simp; omega) _ _
        · rw [HL.out]; exact ⟨_, _, rfl, Fresh.nil _ _, Fresh.nil _ _, Apart.nil⟩

      · obtain ⟨q, hq⟩ : ∃ q, q = n * k := ⟨_, rfl⟩
        obtain ⟨s, hs⟩ : ∃ s, s = m * k := ⟨_, rfl⟩
        have hqb : q ≤ 4096 * 4096 := by rw [hq]; exact Nat.mul_le_mul s1 (by omega)
        have hsb : s ≤ 4096 * 4096 := by rw [hs]; exact Nat.mul_le_mul s3 (by omega)
        have hs0 : 0 < s := by rw [hs]; exact Nat.mul_pos s2 hk1
        have hq1 : ((n : Int) * (k : Int)) = (q : Int) := by rw [hq]; exact (Int.natCast_mul n k).symm
        have hq2 : IntKind.i64.wrap ((n : Int) * (k : Int)) = (q : Int) := by rw [hq1, IntKind.wrap_i64]; omega
        have hq3 : IntKind.i64.wrap (q : Int) = (q : Int) := by rw [IntKind.wrap_i64]; omega
        have hs1 : ((m : Int) * (k : Int)) = (s : Int) := by rw [hs]; exact (Int.natCast_mul m k).symm
        have hs2 : IntKind.i64.wrap ((m : Int) * (k : Int)) = (s : Int) := by rw [hs1, IntKind.wrap_i64]; omega
        have hs3 : IntKind.i64.wrap (s : Int) = (s : Int) := by rw [IntKind.wrap_i64]; omega
        have HQ := Lib.hid hq
        have HS := Lib.hid hs
        by_cases hq4 : 4096 < q
        · clear hq hs
          have nK : ¬ (4096 < k) := by omega
          have nK2 := decide_eq_false nK
          have a1 : ¬ ((4096 : Int) < k) := by omega
          have a2 := decide_eq_false a1
          have a3 : decide ((k : Int) > 4096) = false := a2
          have nQ : (4096 < q) := by omega
          have nQ2 := decide_eq_true nQ
          have b1 : (4096 : Int) < q := by omega
          have b2 := decide_eq_true b1
          have b3 : decide ((q : Int) > 4096) = true := b2
          have HL : Hid (upOut (nH h l) (nL h l) k = ([], [], 4)) := Lib.hid (by
            unfold upOut
            rw [if_neg (fun c => HONE.out ⟨HN.out.trans c.1, HM.out.trans c.2⟩), if_pos]
            rw [← HN.out, ← HM.out, ← HQ.out, ← HS.out]
            omega)
          go_wp2_with fail
          go_region
          go_wp2_with fail
          refine bodyPost_ret (v := .tuple #[.agg #[.slice none 0 0, .slice none 0 0], .int .i64 4]) (by simp [results, Try.results15, go_sem]) rfl ⟨?_, ?_⟩
          · exact below_ext_of (((((Below.refl _ _).alloc (Nat.le_refl _) _).alloc (by simp) _)).alloc (by simp; omega) _) (by simp; omega) _ _
          · rw [HL.out]; exact ⟨_, _, rfl, Fresh.nil _ _, Fresh.nil _ _, Apart.nil⟩

        · by_cases hm1 : 1 < m
          · by_cases hs4 : 4096 < s
            · clear hq hs
              have nK : ¬ (4096 < k) := by omega
              have nK2 := decide_eq_false nK
              have a1 : ¬ ((4096 : Int) < k) := by omega
              have a2 := decide_eq_false a1
              have a3 : decide ((k : Int) > 4096) = false := a2
              have nQ : ¬ (4096 < q) := by omega
              have nQ2 := decide_eq_false nQ
              have b1 : ¬ ((4096 : Int) < q) := by omega
              have b2 := decide_eq_false b1
              have b3 : decide ((q : Int) > 4096) = false := b2
              have nM : (1 < m) := by omega
              have nM2 := decide_eq_true nM
              have c1_ : (1 : Int) < m := by omega
              have c2_ := decide_eq_true c1_
              have c3_ : decide ((m : Int) > 1) = true := c2_
              have nS : (4096 < s) := by omega
              have nS2 := decide_eq_true nS
              have g1 : (4096 : Int) < s := by omega
              have g2 := decide_eq_true g1
              have g3 : decide ((s : Int) > 4096) = true := g2
              have HL : Hid (upOut (nH h l) (nL h l) k = ([], [], 4)) := Lib.hid (by
                unfold upOut
                rw [if_neg (fun c => HONE.out ⟨HN.out.trans c.1, HM.out.trans c.2⟩), if_pos]
                rw [← HN.out, ← HM.out, ← HQ.out, ← HS.out]
                omega)
              go_wp2_with fail
              go_region
              go_wp2_with fail
              refine bodyPost_ret (v := .tuple #[.agg #[.slice none 0 0, .slice none 0 0], .int .i64 4]) (by simp [results, Try.results15, go_sem]) rfl ⟨?_, ?_⟩
              · exact below_ext_of (((((Below.refl _ _).alloc (Nat.le_refl _) _).alloc (by simp) _)).alloc (by simp; omega) _) (by simp; omega) _ _
              · rw [HL.out]; exact ⟨_, _, rfl, Fresh.nil _ _, Fresh.nil _ _, Apart.nil⟩

            · clear hq hs
              have nK : ¬ (4096 < k) := by omega
              have nK2 := decide_eq_false nK
              have a1 : ¬ ((4096 : Int) < k) := by omega
              have a2 := decide_eq_false a1
              have a3 : decide ((k : Int) > 4096) = false := a2
              have nQ : ¬ (4096 < q) := by omega
              have nQ2 := decide_eq_false nQ
              have b1 : ¬ ((4096 : Int) < q) := by omega
              have b2 := decide_eq_false b1
              have b3 : decide ((q : Int) > 4096) = false := b2
              have nM : (1 < m) := by omega
              have nM2 := decide_eq_true nM
              have c1_ : (1 : Int) < m := by omega
              have c2_ := decide_eq_true c1_
              have c3_ : decide ((m : Int) > 1) = true := c2_
              have nS : ¬ (4096 < s) := by omega
              have nS2 := decide_eq_false nS
              have g1 : ¬ ((4096 : Int) < s) := by omega
              have g2 := decide_eq_false g1
              have g3 : decide ((s : Int) > 4096) = false := g2
              have HL : Hid (upOut (nH h l) (nL h l) k = (outH (tab (fun i => num (nH h l) (nL h l) (i / k)) q) (tab (fun i => num (nH h l) (nL h l) ((q + i) / k)) s), outL (tab (fun i => num (nH h l) (nL h l) (i / k)) q) (tab (fun i => num (nH h l) (nL h l) ((q + i) / k)) s), outE (tab (fun i => num (nH h l) (nL h l) (i / k)) q) (tab (fun i => num (nH h l) (nL h l) ((q + i) / k)) s))) := Lib.hid (by
                unfold upOut
                rw [if_neg (fun c => HONE.out ⟨HN.out.trans c.1, HM.out.trans c.2⟩), if_neg, ← HN.out, ← HM.out, ← HQ.out, ← HS.out]
                rw [← HN.out, ← HM.out, ← HQ.out, ← HS.out]
                omega)
              go_wp2_with fail
              go_region
              go_wp2_with fail
              obtain ⟨W, hW⟩ : ∃ W, W = ext (((w.alloc (.cells #[.slice p1 n c1, .slice p2 m c2] 24)).alloc (.cells #[.int .i64 (k : Int)] 2)).alloc (.cells #[.slice none 0 0, .slice none 0 0] 24)) X (d + 1) := ⟨_, rfl⟩
              rw [← hW]
              have hbW : Below w.heap.size w W := by rw [hW]; exact below_ext_of (((((Below.refl _ _).alloc (Nat.le_refl _) _).alloc (by simp) _)).alloc (by simp; omega) _) (by simp; omega) _ _
              have k0 : W.cell? ⟨w.heap.size, 0, none⟩ = some (.slice p1 n c1) := by rw [hW]; simp [go_sem]
              have k1 : W.cell? ⟨w.heap.size, 1, none⟩ = some (.slice p2 m c2) := by rw [hW]; simp [go_sem]
              have k2 : W.cell? ⟨w.heap.size + 1, 0, none⟩ = some (.int .i64 (k : Int)) := by rw [hW]; simp [go_sem]
              have hz1 : w.heap.size < W.heap.size := by rw [hW]; simp [go_sem]; omega
              have hz2 : w.heap.size + 1 < W.heap.size := by rw [hW]; simp [go_sem]; omega
              have hz3 : w.heap.size + 2 < W.heap.size := by rw [hW]; simp [go_sem]; omega
              have hblk : W.heap[w.heap.size + 2]? = some (.cells #[.slice none 0 0, .slice none 0 0] 24) := by
                rw [hW, (ext_below _ _ _).block _ (by simp)]
                have := heap_alloc_new ((w.alloc (.cells #[.slice p1 n c1, .slice p2 m c2] 24)).alloc (.cells #[.int .i64 (k : Int)] 2)) (.cells #[.slice none 0 0, .slice none 0 0] 24)
                rwa [World.size_alloc, World.size_alloc] at this
              have R1 : Hid (RowAt W (.slice p1 n c1) (nH h l)) := Lib.hid (by rw [hW]; exact (O1.out.ext_swap (by simp) (Nat.le_refl _)).row)
              have R2 : Hid (RowAt W (.slice p2 m c2) (nL h l)) := Lib.hid (by rw [hW]; exact (O2.out.ext_swap (by simp) (Nat.le_refl _)).row)
              have HBW := Lib.hid hbW
              have HKB := Lib.hid hblk
              clear hW hbW hblk
              refine (made_up _ _ _ q s (fun i => num (nH h l) (nL h l) (i / k)) hs0 (by omega) (by omega) (fun i hi w' hb' => ?_)).mono ?_
              · exact upc w' w.heap.size (w.heap.size + 1) (.slice p1 n c1) (.slice p2 m c2) (nH h l) (nL h l) k i hk1 ((hb'.cell (p := ⟨w.heap.size, 0, none⟩) hz1).trans k0) ((hb'.cell (p := ⟨w.heap.size, 1, none⟩) hz1).trans k1) ((hb'.cell (p := ⟨w.heap.size + 1, 0, none⟩) hz2).trans k2) (R1.out.below hb') (R2.out.below hb') (by rw [← HM.out]; omega) (by omega) (by rw [← HN.out]; omega)
              rintro e w3 ⟨hb, v1, v2, rfl, o1, o2, hap⟩
              have Q1 := Lib.hid o1
              have Q2 := Lib.hid o2
              have HAP := Lib.hid hap
              have r1 := o1.row
              have r2 := o2.row
              clear o1 o2 hap
              obtain ⟨p1, c1, rfl, _⟩ := r1
              obtain ⟨p2, c2, rfl, _⟩ := r2
              have hblk : w3.heap[w.heap.size + 2]? = some (.cells #[.slice none 0 0, .slice none 0 0] 24) := (hb.block _ hz3).trans HKB.out
              have k0 : w3.cell? ⟨w.heap.size + 2, 0, none⟩ = some (.slice none 0 0) := by simp [World.cell?, hblk]
              have k1 : w3.cell? ⟨w.heap.size + 2, 1, none⟩ = some (.slice none 0 0) := by simp [World.cell?, hblk]
              have kf : ∀ o, w3.frozen? ⟨w.heap.size + 2, o, none⟩ = false := fun o => by simp [World.frozen?, hblk]
              have hz : w.heap.size + 2 < w3.heap.size := (Array.getElem?_eq_some_iff.1 hblk).1
              have HB3 := Lib.hid (HBW.out.trans (hb.mono HBW.out.size))
              have HK3 := Lib.hid hblk
              clear hb hblk
              generalize (outH (tab (fun i => num (nH h l) (nL h l) (i / k)) q) (tab (fun i => num (nH h l) (nL h l) ((q + i) / k)) s)).length = q1 at *
              generalize (outL (tab (fun i => num (nH h l) (nL h l) (i / k)) q) (tab (fun i => num (nH h l) (nL h l) ((q + i) / k)) s)).length = q2 at *
              go_wp2_with fail
              refine bodyPost_ret (v := .tuple #[.agg #[.slice p1 q1 c1, .slice p2 q2 c2], .int .i64 (outE (tab (fun i => num (nH h l) (nL h l) (i / k)) q) (tab (fun i => num (nH h l) (nL h l) ((q + i) / k)) s))]) (by simp [results, Try.results15, go_sem, k0, k1, hz]) rfl ⟨?_, by rw [HL.out]; exact ⟨_, _, rfl, ((Q1.out.put (b := w.heap.size + 2) hz3 0 _).put (b := w.heap.size + 2) hz3 1 _).mono (Nat.le_of_lt hz1), ((Q2.out.put (b := w.heap.size + 2) hz3 0 _).put (b := w.heap.size + 2) hz3 1 _).mono (Nat.le_of_lt hz1), HAP.out⟩⟩
              exact (HB3.out.setCell (p := ⟨w.heap.size + 2, 0, none⟩) (by show _ ≤ w.heap.size + 2; omega) _).setCell (p := ⟨w.heap.size + 2, 1, none⟩) (by show _ ≤ w.heap.size + 2; omega) _

          · have hs4 : s ≤ 4096 := by
              have : m = 1 := by omega
              rw [hs, this, Nat.one_mul]
              omega
            clear hq hs
            have nK : ¬ (4096 < k) := by omega
            have nK2 := decide_eq_false nK
            have a1 : ¬ ((4096 : Int) < k) := by omega
            have a2 := decide_eq_false a1
            have a3 : decide ((k : Int) > 4096) = false := a2
            have nQ : ¬ (4096 < q) := by omega
            have nQ2 := decide_eq_false nQ
            have b1 : ¬ ((4096 : Int) < q) := by omega
            have b2 := decide_eq_false b1
            have b3 : decide ((q : Int) > 4096) = false := b2
            have nM : ¬ (1 < m) := by omega
            have nM2 := decide_eq_false nM
            have c1_ : ¬ ((1 : Int) < m) := by omega
            have c2_ := decide_eq_false c1_
            have c3_ : decide ((m : Int) > 1) = false := c2_
            have HL : Hid (upOut (nH h l) (nL h l) k = (outH (tab (fun i => num (nH h l) (nL h l) (i / k)) q) (tab (fun i => num (nH h l) (nL h l) ((q + i) / k)) s), outL (tab (fun i => num (nH h l) (nL h l) (i / k)) q) (tab (fun i => num (nH h l) (nL h l) ((q + i) / k)) s), outE (tab (fun i => num (nH h l) (nL h l) (i / k)) q) (tab (fun i => num (nH h l) (nL h l) ((q + i) / k)) s))) := Lib.hid (by
              unfold upOut
              rw [if_neg (fun c => HONE.out ⟨HN.out.trans c.1, HM.out.trans c.2⟩), if_neg, ← HN.out, ← HM.out, ← HQ.out, ← HS.out]
              rw [← HN.out, ← HM.out, ← HQ.out, ← HS.out]
              omega)
            go_wp2_with fail
            go_region
            go_wp2_with fail
            obtain ⟨W, hW⟩ : ∃ W, W = ext (((w.alloc (.cells #[.slice p1 n c1, .slice p2 m c2] 24)).alloc (.cells #[.int .i64 (k : Int)] 2)).alloc (.cells #[.slice none 0 0, .slice none 0 0] 24)) X (d + 1) := ⟨_, rfl⟩
            rw [← hW]
            have hbW : Below w.heap.size w W := by rw [hW]; exact below_ext_of (((((Below.refl _ _).alloc (Nat.le_refl _) _).alloc (by simp) _)).alloc (by simp; omega) _) (by simp; omega) _ _
            have k0 : W.cell? ⟨w.heap.size, 0, none⟩ = some (.slice p1 n c1) := by rw [hW]; simp [go_sem]
            have k1 : W.cell? ⟨w.heap.size, 1, none⟩ = some (.slice p2 m c2) := by rw [hW]; simp [go_sem]
            have k2 : W.cell? ⟨w.heap.size + 1, 0, none⟩ = some (.int .i64 (k : Int)) := by rw [hW]; simp [go_sem]
            have hz1 : w.heap.size < W.heap.size := by rw [hW]; simp [go_sem]; omega
            have hz2 : w.heap.size + 1 < W.heap.size := by rw [hW]; simp [go_sem]; omega
            have hz3 : w.heap.size + 2 < W.heap.size := by rw [hW]; simp [go_sem]; omega
            have hblk : W.heap[w.heap.size + 2]? = some (.cells #[.slice none 0 0, .slice none 0 0] 24) := by
              rw [hW, (ext_below _ _ _).block _ (by simp)]
              have := heap_alloc_new ((w.alloc (.cells #[.slice p1 n c1, .slice p2 m c2] 24)).alloc (.cells #[.int .i64 (k : Int)] 2)) (.cells #[.slice none 0 0, .slice none 0 0] 24)
              rwa [World.size_alloc, World.size_alloc] at this
            have R1 : Hid (RowAt W (.slice p1 n c1) (nH h l)) := Lib.hid (by rw [hW]; exact (O1.out.ext_swap (by simp) (Nat.le_refl _)).row)
            have R2 : Hid (RowAt W (.slice p2 m c2) (nL h l)) := Lib.hid (by rw [hW]; exact (O2.out.ext_swap (by simp) (Nat.le_refl _)).row)
            have HBW := Lib.hid hbW
            have HKB := Lib.hid hblk
            clear hW hbW hblk
            refine (made_up _ _ _ q s (fun i => num (nH h l) (nL h l) (i / k)) hs0 (by omega) (by omega) (fun i hi w' hb' => ?_)).mono ?_
            · exact upc w' w.heap.size (w.heap.size + 1) (.slice p1 n c1) (.slice p2 m c2) (nH h l) (nL h l) k i hk1 ((hb'.cell (p := ⟨w.heap.size, 0, none⟩) hz1).trans k0) ((hb'.cell (p := ⟨w.heap.size, 1, none⟩) hz1).trans k1) ((hb'.cell (p := ⟨w.heap.size + 1, 0, none⟩) hz2).trans k2) (R1.out.below hb') (R2.out.below hb') (by rw [← HM.out]; omega) (by omega) (by rw [← HN.out]; omega)
            rintro e w3 ⟨hb, v1, v2, rfl, o1, o2, hap⟩
            have Q1 := Lib.hid o1
            have Q2 := Lib.hid o2
            have HAP := Lib.hid hap
            have r1 := o1.row
            have r2 := o2.row
            clear o1 o2 hap
            obtain ⟨p1, c1, rfl, _⟩ := r1
            obtain ⟨p2, c2, rfl, _⟩ := r2
            have hblk : w3.heap[w.heap.size + 2]? = some (.cells #[.slice none 0 0, .slice none 0 0] 24) := (hb.block _ hz3).trans HKB.out
            have k0 : w3.cell? ⟨w.heap.size + 2, 0, none⟩ = some (.slice none 0 0) := by simp [World.cell?, hblk]
            have k1 : w3.cell? ⟨w.heap.size + 2, 1, none⟩ = some (.slice none 0 0) := by simp [World.cell?, hblk]
            have kf : ∀ o, w3.frozen? ⟨w.heap.size + 2, o, none⟩ = false := fun o => by simp [World.frozen?, hblk]
            have hz : w.heap.size + 2 < w3.heap.size := (Array.getElem?_eq_some_iff.1 hblk).1
            have HB3 := Lib.hid (HBW.out.trans (hb.mono HBW.out.size))
            have HK3 := Lib.hid hblk
            clear hb hblk
            generalize (outH (tab (fun i => num (nH h l) (nL h l) (i / k)) q) (tab (fun i => num (nH h l) (nL h l) ((q + i) / k)) s)).length = q1 at *
            generalize (outL (tab (fun i => num (nH h l) (nL h l) (i / k)) q) (tab (fun i => num (nH h l) (nL h l) ((q + i) / k)) s)).length = q2 at *
            go_wp2_with fail
            refine bodyPost_ret (v := .tuple #[.agg #[.slice p1 q1 c1, .slice p2 q2 c2], .int .i64 (outE (tab (fun i => num (nH h l) (nL h l) (i / k)) q) (tab (fun i => num (nH h l) (nL h l) ((q + i) / k)) s))]) (by simp [results, Try.results15, go_sem, k0, k1, hz]) rfl ⟨?_, by rw [HL.out]; exact ⟨_, _, rfl, ((Q1.out.put (b := w.heap.size + 2) hz3 0 _).put (b := w.heap.size + 2) hz3 1 _).mono (Nat.le_of_lt hz1), ((Q2.out.put (b := w.heap.size + 2) hz3 0 _).put (b := w.heap.size + 2) hz3 1 _).mono (Nat.le_of_lt hz1), HAP.out⟩⟩
            exact (HB3.out.setCell (p := ⟨w.heap.size + 2, 0, none⟩) (by show _ ≤ w.heap.size + 2; omega) _).setCell (p := ⟨w.heap.size + 2, 1, none⟩) (by show _ ≤ w.heap.size + 2; omega) _

end Go.Proofs.Ytpcnapmlmhhcpaa
