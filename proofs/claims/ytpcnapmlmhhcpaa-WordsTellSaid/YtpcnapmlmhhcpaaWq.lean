/-
  words.Drop of a word that may be: contract.
  Conditions: the rows lie in memory.
-/
import Derived.Test.YtpcnapmlmhhcpaaWo
import Derived.WalkKit
import Derived.WalkSpells
import Derived.WalkLawsBesides
import Derived.Deep.QuietTactic
import Derived.BigQuiet
import Derived.Lib.Hide
import Derived.Handy
import Derived.Deep.AppendLies
import Derived.Maps.AppendAt
import Derived.OwnWalk
import Derived.Lib.LazyBuf
import Derived.Deep.DeepCutAuto
import Derived.Deep.RegionLaw
import Derived.Deep.RegionHeld3
import Derived.Deep.RegionWith
import Derived.BigRegion
set_option linter.unusedVariables false
set_option linter.unusedSimpArgs false
namespace Go.Proofs.Ytpcnapmlmhhcpaa
open Go.RowKit 
attribute [local go_sem] setCell_drewN alloc_drewN size_ext ext_ext ext_drewN ext_drew drewN_ext drew_ext cell?_ext frozen?_ext setCell_ext cell?_past1 frozen?_past1 setCell_past1 cell?_past2 frozen?_past2 setCell_past2 cell?_past3 frozen?_past3 setCell_past3 cell?_past4 frozen?_past4 setCell_past4 cell?_past5 frozen?_past5 setCell_past5 cell?_past6 frozen?_past6 setCell_past6 cell?_past7 frozen?_past7 setCell_past7 cell?_past8 frozen?_past8 setCell_past8

theorem max_zero (ats : Array TypeId) (ty : TypeId) (q : Nat) : Builtin.max_ ats ty #[.int .i64 0, .int .i64 (q : Int)] = pure (.int .i64 (q : Int)) := by
  simp only [Builtin.max_, List.foldlM_cons, List.foldlM_nil, Builtin.max2, gt_iff_lt]
  by_cases h : (0 : Int) < q
  · rw [if_pos h]; rfl
  · obtain rfl : q = 0 := by omega
    simp
theorem max_neg (ats : Array TypeId) (ty : TypeId) (q : Nat) : Builtin.max_ ats ty #[.int .i64 0, .int .i64 (-(q : Int))] = pure (.int .i64 0) := by
  simp only [Builtin.max_, List.foldlM_cons, List.foldlM_nil, Builtin.max2, gt_iff_lt]
  rw [if_neg (by omega)]
  simp
attribute [local go_sem] max_zero max_neg

theorem made_drop0 (w : World) (a1 a2 : Value) (pN : Nat) (f : Nat → Int) (hp : 0 < pN) (hl : pN ≤ 200000)
    (hf : ∀ i, i < 0 + pN → ∀ w', Below w.heap.size w w' → Calls Try.prog 41 #[.int .i64 (i : Int), a1, a2] w' fun e w'' => e = .returned (.int .i64 (f i)) ∧ Below w'.heap.size w' w'') :
    Calls Try.prog 40 #[.int .i64 0, .int .i64 (pN : Int), .func (.func 41) #[] #[a1, a2]] w fun e w' => Below w.heap.size w w' ∧ Norms w' w.heap.size (tab f 0) (tab (fun i => f (0 + i)) pN) e :=
  made_drop w a1 a2 0 pN f hp (by omega) hl hf
/-- A place that is as good as k in a word of a head of n and a loop of p, and less far. -/
def dropK (n p k : Nat) : Nat := if n < k then n + (k - n) % p else k
set_option maxRecDepth 100000 in
set_option maxHeartbeats 4000000 in
theorem drop_ok (w : World) (vh vl : Value) (h l : List Int) (k : Nat) (h1 : RowAt w vh h) (h2 : RowAt w vl l) (hm : may h l = true) (hk : k < 9223372036854775808) :
    Calls Try.prog 13 #[.agg #[vh, vl], .int .i64 (k : Int)] w fun e w' => Below w.heap.size w w' ∧ Norms w' w.heap.size (tab (fun i => num h l (i + dropK h.length l.length k)) (h.length - dropK h.length l.length k)) (tab (fun i => num h l (h.length - dropK h.length l.length k + i + dropK h.length l.length k)) l.length) e := by
  obtain ⟨m1, m2, m3⟩ := may_len hm
  have Hm := Lib.hid hm
  have H1 := Lib.hid h1
  have H2 := Lib.hid h2
  obtain ⟨ph, ch, rfl, rh⟩ := h1
  obtain ⟨pl, cl, rfl, rl⟩ := h2
  obtain ⟨n, hn⟩ : ∃ n, n = h.length := ⟨_, rfl⟩
  obtain ⟨p, hp⟩ : ∃ p, p = l.length := ⟨_, rfl⟩
  obtain ⟨D, hD⟩ : ∃ D, D = dropK n p k := ⟨_, rfl⟩
  obtain ⟨q, hq⟩ : ∃ q, q = n - D := ⟨_, rfl⟩
  rw [← hn, ← hp, ← hD, ← hq]
  rw [← hn] at m3
  rw [← hp] at m1 m2
  have hDb : D ≤ n + p := by
    rw [hD]; unfold dropK
    split
    · have := Nat.mod_lt (k - n) (show 0 < p by omega); omega
    · omega
  have HN := Lib.hid hn
  have HP := Lib.hid hp
  have e0 : ¬ ((k : Int) < 0) := by omega
  have e0b := decide_eq_false e0
  clear rh rl hm hn hp
  by_cases hkn : n < k
  · have hDv : D = n + (k - n) % p := by rw [hD]; unfold dropK; rw [if_pos hkn]
    have hq0 : q = 0 := by omega
    subst hq0
    have e1 : (n : Int) < k := by omega
    have e2 : decide ((k : Int) > n) = true := decide_eq_true e1
    obtain ⟨M, hM⟩ : ∃ M, M = k - n := ⟨_, rfl⟩
    have e3 : ((k : Int) - n) = (M : Int) := by omega
    have e4 : IntKind.i64.wrap ((k : Int) - n) = (M : Int) := by rw [IntKind.wrap_i64]; omega
    have e4' : IntKind.i64.wrap (M : Int) = (M : Int) := by rw [IntKind.wrap_i64]; omega
    obtain ⟨T, hT⟩ : ∃ T, T = M % p := ⟨_, rfl⟩
    have hTp : T < p := by rw [hT]; exact Nat.mod_lt _ (by omega)
    have e5 : Int.tmod (M : Int) (p : Int) = (T : Int) := by rw [hT, Int.tmod_eq_emod_of_nonneg (by omega)]; rfl
    have e6 : ¬ ((p : Int) = 0) := by omega
    have e7 : ¬ (p = 0) := by omega
    have hDT : D = n + T := by rw [hDv, hT, hM]
    have e8 : ((n : Int) + T) = (D : Int) := by omega
    have e9 : IntKind.i64.wrap ((n : Int) + T) = (D : Int) := by rw [IntKind.wrap_i64]; omega
    have e9' : IntKind.i64.wrap (D : Int) = (D : Int) := by rw [IntKind.wrap_i64]; omega
    obtain ⟨G, hG⟩ : ∃ G, G = D - n := ⟨_, rfl⟩
    have e10 : ((n : Int) - D) = -(G : Int) := by omega
    have e11 : IntKind.i64.wrap ((n : Int) - D) = -(G : Int) := by rw [IntKind.wrap_i64]; omega
    have e12 : IntKind.i64.wrap (-(G : Int)) = -(G : Int) := by rw [IntKind.wrap_i64]; omega
    clear hD hDv hM hT hG hq hDT
    go_enter Try.func13, Try.ntmps13
    go_wp2_with fail
    refine (may_any _ _ _ h l (by rw [HN.out]; exact H1.out.below (by repeat (first | (with_reducible exact Below.refl _ _) | (with_reducible assumption) | (with_reducible refine below_drewN ?_ _) | (with_reducible refine Below.drew ?_) | (with_reducible refine below_ext_of ?_ (by first | exact Nat.le_refl _ | assumption | (simp only [World.size_alloc, World.size_setCell, size_ext, World.heap_drewN]; omega)) _ _) | (with_reducible refine Below.alloc ?_ (by first | exact Nat.le_refl _ | assumption | (simp only [World.size_alloc, World.size_setCell, size_ext, World.heap_drewN]; omega)) _) | (with_reducible refine Below.setCell ?_ (by first | exact Nat.le_refl _ | assumption | (simp only [World.size_alloc, World.size_setCell, size_ext, World.heap_drewN]; omega)) _)))) (by rw [HP.out]; exact H2.out.below (by repeat (first | (with_reducible exact Below.refl _ _) | (with_reducible assumption) | (with_reducible refine below_drewN ?_ _) | (with_reducible refine Below.drew ?_) | (with_reducible refine below_ext_of ?_ (by first | exact Nat.le_refl _ | assumption | (simp only [World.size_alloc, World.size_setCell, size_ext, World.heap_drewN]; omega)) _ _) | (with_reducible refine Below.alloc ?_ (by first | exact Nat.le_refl _ | assumption | (simp only [World.size_alloc, World.size_setCell, size_ext, World.heap_drewN]; omega)) _) | (with_reducible refine Below.setCell ?_ (by first | exact Nat.le_refl _ | assumption | (simp only [World.size_alloc, World.size_setCell, size_ext, World.heap_drewN]; omega)) _))))).mono ?_
    rintro e w1 ⟨rfl, hb⟩
    rw [Hm.out]
    obtain ⟨X, d, rfl⟩ := below_ext hb
    clear hb
    go_wp2_with fail
    go_region
    go_wp2_with fail
    obtain ⟨W, hW⟩ : ∃ W, W = ext (((w.alloc (.cells #[.slice ph n ch, .slice pl p cl] 24)).alloc (.cells #[.int .i64 (D : Int)] 2)).alloc (.cells #[.slice none 0 0, .slice none 0 0] 24)) X (d + 1) := ⟨_, rfl⟩
    rw [← hW]
    have hbW : Below w.heap.size w W := by rw [hW]; exact below_ext_of (((((Below.refl _ _).alloc (Nat.le_refl _) _).alloc (by simp) _)).alloc (by simp; omega) _) (by simp; omega) _ _
    have k0 : W.cell? ⟨w.heap.size, 0, none⟩ = some (.slice ph n ch) := by rw [hW]; simp [go_sem]
    have k1 : W.cell? ⟨w.heap.size, 1, none⟩ = some (.slice pl p cl) := by rw [hW]; simp [go_sem]
    have k2 : W.cell? ⟨w.heap.size + 1, 0, none⟩ = some (.int .i64 (D : Int)) := by rw [hW]; simp [go_sem]
    have hz1 : w.heap.size < W.heap.size := by rw [hW]; simp [go_sem]; omega
    have hz2 : w.heap.size + 1 < W.heap.size := by rw [hW]; simp [go_sem]; omega
    have hz3 : w.heap.size + 2 < W.heap.size := by rw [hW]; simp [go_sem]; omega
    have hblk : W.heap[w.heap.size + 2]? = some (.cells #[.slice none 0 0, .slice none 0 0] 24) := by
      rw [hW, (ext_below _ _ _).block _ (by simp)]
      have := heap_alloc_new ((w.alloc (.cells #[.slice ph n ch, .slice pl p cl] 24)).alloc (.cells #[.int .i64 (D : Int)] 2)) (.cells #[.slice none 0 0, .slice none 0 0] 24)
      rwa [World.size_alloc, World.size_alloc] at this
    have R1 : Hid (RowAt W (.slice ph n ch) h) := Lib.hid (by rw [HN.out]; exact H1.out.below hbW)
    have R2 : Hid (RowAt W (.slice pl p cl) l) := Lib.hid (by rw [HP.out]; exact H2.out.below hbW)
    have HBW := Lib.hid hbW
    have HKB := Lib.hid hblk
    clear hW hbW hblk
    refine (made_drop0 _ _ _ p (fun i => num h l (i + D)) (by omega) (by omega) (fun i hi w' hb' => ?_)).mono ?_
    · exact dropc w' w.heap.size (w.heap.size + 1) (.slice ph n ch) (.slice pl p cl) h l D i ((hb'.cell (p := ⟨w.heap.size, 0, none⟩) hz1).trans k0) ((hb'.cell (p := ⟨w.heap.size, 1, none⟩) hz1).trans k1) ((hb'.cell (p := ⟨w.heap.size + 1, 0, none⟩) hz2).trans k2) (R1.out.below hb') (R2.out.below hb') (by rw [← HP.out]; omega) (by omega) (by rw [← HN.out]; omega)
    rintro e w3 ⟨hb, v1, v2, rfl, o1, o2, hap⟩
    have Q1 := Lib.hid o1
    have Q2 := Lib.hid o2
    have HAP := Lib.hid hap
    have r1 := o1.row
    have r2 := o2.row
    clear o1 o2 hap
    obtain ⟨p1, c1, rfl, _⟩ := r1
    obtain ⟨p2, c2, rfl, _⟩ := r2
    have hblk : w3.heap[w.heap.size + 2]? = some (.cells #[.slice none 0 0, .slice none 0 0] 24) := (hb.block _ hz3).trans HKB.out
    have k0 : w3.cell? ⟨w.heap.size + 2, 0, none⟩ = some (.slice none 0 0) := by simp [World.cell?, hblk]
    have k1 : w3.cell? ⟨w.heap.size + 2, 1, none⟩ = some (.slice none 0 0) := by simp [World.cell?, hblk]
    have kf : ∀ o, w3.frozen? ⟨w.heap.size + 2, o, none⟩ = false := fun o => by simp [World.frozen?, hblk]
    have hz : w.heap.size + 2 < w3.heap.size := (Array.getElem?_eq_some_iff.1 hblk).1
    have HB3 := Lib.hid (HBW.out.trans (hb.mono HBW.out.size))
    have HK3 := Lib.hid hblk
    clear hb hblk
    generalize (outH (tab (fun i => num h l (i + D)) 0) (tab (fun i => num h l (0 + i + D)) p)).length = q1 at *
    generalize (outL (tab (fun i => num h l (i + D)) 0) (tab (fun i => num h l (0 + i + D)) p)).length = q2 at *
    go_wp2_with fail
    refine bodyPost_ret (v := .tuple #[.agg #[.slice p1 q1 c1, .slice p2 q2 c2], .int .i64 (outE (tab (fun i => num h l (i + D)) 0) (tab (fun i => num h l (0 + i + D)) p))]) (by simp [results, Try.results13, go_sem, k0, k1, hz]) rfl ⟨?_, _, _, rfl, ((Q1.out.put (b := w.heap.size + 2) hz3 0 _).put (b := w.heap.size + 2) hz3 1 _).mono (Nat.le_of_lt hz1), ((Q2.out.put (b := w.heap.size + 2) hz3 0 _).put (b := w.heap.size + 2) hz3 1 _).mono (Nat.le_of_lt hz1), HAP.out⟩
    exact (HB3.out.setCell (p := ⟨w.heap.size + 2, 0, none⟩) (by show _ ≤ w.heap.size + 2; omega) _).setCell (p := ⟨w.heap.size + 2, 1, none⟩) (by show _ ≤ w.heap.size + 2; omega) _

  · have hDk : D = k := by rw [hD]; unfold dropK; rw [if_neg hkn]
    clear hD
    subst hDk
    have e1 : ¬ ((n : Int) < D) := by omega
    have e2 : decide ((D : Int) > n) = false := decide_eq_false e1
    have e3 : ((n : Int) - D) = (q : Int) := by omega
    have e4 : IntKind.i64.wrap ((n : Int) - D) = (q : Int) := by rw [IntKind.wrap_i64]; omega
    have e5 : IntKind.i64.wrap (q : Int) = (q : Int) := by rw [IntKind.wrap_i64]; omega
    clear hq
    go_enter Try.func13, Try.ntmps13
    go_wp2_with fail
    refine (may_any _ _ _ h l (by rw [HN.out]; exact H1.out.below (by repeat (first | (with_reducible exact Below.refl _ _) | (with_reducible assumption) | (with_reducible refine below_drewN ?_ _) | (with_reducible refine Below.drew ?_) | (with_reducible refine below_ext_of ?_ (by first | exact Nat.le_refl _ | assumption | (simp only [World.size_alloc, World.size_setCell, size_ext, World.heap_drewN]; omega)) _ _) | (with_reducible refine Below.alloc ?_ (by first | exact Nat.le_refl _ | assumption | (simp only [World.size_alloc, World.size_setCell, size_ext, World.heap_drewN]; omega)) _) | (with_reducible refine Below.setCell ?_ (by first | exact Nat.le_refl _ | assumption | (simp only [World.size_alloc, World.size_setCell, size_ext, World.heap_drewN]; omega)) _)))) (by rw [HP.out]; exact H2.out.below (by repeat (first | (with_reducible exact Below.refl _ _) | (with_reducible assumption) | (with_reducible refine below_drewN ?_ _) | (with_reducible refine Below.drew ?_) | (with_reducible refine below_ext_of ?_ (by first | exact Nat.le_refl _ | assumption | (simp only [World.size_alloc, World.size_setCell, size_ext, World.heap_drewN]; omega)) _ _) | (with_reducible refine Below.alloc ?_ (by first | exact Nat.le_refl _ | assumption | (simp only [World.size_alloc, World.size_setCell, size_ext, World.heap_drewN]; omega)) _) | (with_reducible refine Below.setCell ?_ (by first | exact Nat.le_refl _ | assumption | (simp only [World.size_alloc, World.size_setCell, size_ext, World.heap_drewN]; omega)) _))))).mono ?_
    rintro e w1 ⟨rfl, hb⟩
    rw [Hm.out]
    obtain ⟨X, d, rfl⟩ := below_ext hb
    clear hb
    go_wp2_with fail
    go_region
    go_wp2_with fail
    obtain ⟨W, hW⟩ : ∃ W, W = ext (((w.alloc (.cells #[.slice ph n ch, .slice pl p cl] 24)).alloc (.cells #[.int .i64 (D : Int)] 2)).alloc (.cells #[.slice none 0 0, .slice none 0 0] 24)) X (d + 1) := ⟨_, rfl⟩
    rw [← hW]
    have hbW : Below w.heap.size w W := by rw [hW]; exact below_ext_of (((((Below.refl _ _).alloc (Nat.le_refl _) _).alloc (by simp) _)).alloc (by simp; omega) _) (by simp; omega) _ _
    have k0 : W.cell? ⟨w.heap.size, 0, none⟩ = some (.slice ph n ch) := by rw [hW]; simp [go_sem]
    have k1 : W.cell? ⟨w.heap.size, 1, none⟩ = some (.slice pl p cl) := by rw [hW]; simp [go_sem]
    have k2 : W.cell? ⟨w.heap.size + 1, 0, none⟩ = some (.int .i64 (D : Int)) := by rw [hW]; simp [go_sem]
    have hz1 : w.heap.size < W.heap.size := by rw [hW]; simp [go_sem]; omega
    have hz2 : w.heap.size + 1 < W.heap.size := by rw [hW]; simp [go_sem]; omega
    have hz3 : w.heap.size + 2 < W.heap.size := by rw [hW]; simp [go_sem]; omega
    have hblk : W.heap[w.heap.size + 2]? = some (.cells #[.slice none 0 0, .slice none 0 0] 24) := by
      rw [hW, (ext_below _ _ _).block _ (by simp)]
      have := heap_alloc_new ((w.alloc (.cells #[.slice ph n ch, .slice pl p cl] 24)).alloc (.cells #[.int .i64 (D : Int)] 2)) (.cells #[.slice none 0 0, .slice none 0 0] 24)
      rwa [World.size_alloc, World.size_alloc] at this
    have R1 : Hid (RowAt W (.slice ph n ch) h) := Lib.hid (by rw [HN.out]; exact H1.out.below hbW)
    have R2 : Hid (RowAt W (.slice pl p cl) l) := Lib.hid (by rw [HP.out]; exact H2.out.below hbW)
    have HBW := Lib.hid hbW
    have HKB := Lib.hid hblk
    clear hW hbW hblk
    refine (made_drop _ _ _ q p (fun i => num h l (i + D)) (by omega) (by omega) (by omega) (fun i hi w' hb' => ?_)).mono ?_
    · exact dropc w' w.heap.size (w.heap.size + 1) (.slice ph n ch) (.slice pl p cl) h l D i ((hb'.cell (p := ⟨w.heap.size, 0, none⟩) hz1).trans k0) ((hb'.cell (p := ⟨w.heap.size, 1, none⟩) hz1).trans k1) ((hb'.cell (p := ⟨w.heap.size + 1, 0, none⟩) hz2).trans k2) (R1.out.below hb') (R2.out.below hb') (by rw [← HP.out]; omega) (by omega) (by rw [← HN.out]; omega)
    rintro e w3 ⟨hb, v1, v2, rfl, o1, o2, hap⟩
    have Q1 := Lib.hid o1
    have Q2 := Lib.hid o2
    have HAP := Lib.hid hap
    have r1 := o1.row
    have r2 := o2.row
    clear o1 o2 hap
    obtain ⟨p1, c1, rfl, _⟩ := r1
    obtain ⟨p2, c2, rfl, _⟩ := r2
    have hblk : w3.heap[w.heap.size + 2]? = some (.cells #[.slice none 0 0, .slice none 0 0] 24) := (hb.block _ hz3).trans HKB.out
    have k0 : w3.cell? ⟨w.heap.size + 2, 0, none⟩ = some (.slice none 0 0) := by simp [World.cell?, hblk]
    have k1 : w3.cell? ⟨w.heap.size + 2, 1, none⟩ = some (.slice none 0 0) := by simp [World.cell?, hblk]
    have kf : ∀ o, w3.frozen? ⟨w.heap.size + 2, o, none⟩ = false := fun o => by simp [World.frozen?, hblk]
    have hz : w.heap.size + 2 < w3.heap.size := (Array.getElem?_eq_some_iff.1 hblk).1
    have HB3 := Lib.hid (HBW.out.trans (hb.mono HBW.out.size))
    have HK3 := Lib.hid hblk
    clear hb hblk
    generalize (outH (tab (fun i => num h l (i + D)) q) (tab (fun i => num h l (q + i + D)) p)).length = q1 at *
    generalize (outL (tab (fun i => num h l (i + D)) q) (tab (fun i => num h l (q + i + D)) p)).length = q2 at *
    go_wp2_with fail
    refine bodyPost_ret (v := .tuple #[.agg #[.slice p1 q1 c1, .slice p2 q2 c2], .int .i64 (outE (tab (fun i => num h l (i + D)) q) (tab (fun i => num h l (q + i + D)) p))]) (by simp [results, Try.results13, go_sem, k0, k1, hz]) rfl ⟨?_, _, _, rfl, ((Q1.out.put (b := w.heap.size + 2) hz3 0 _).put (b := w.heap.size + 2) hz3 1 _).mono (Nat.le_of_lt hz1), ((Q2.out.put (b := w.heap.size + 2) hz3 0 _).put (b := w.heap.size + 2) hz3 1 _).mono (Nat.le_of_lt hz1), HAP.out⟩
    exact (HB3.out.setCell (p := ⟨w.heap.size + 2, 0, none⟩) (by show _ ≤ w.heap.size + 2; omega) _).setCell (p := ⟨w.heap.size + 2, 1, none⟩) (by show _ ≤ w.heap.size + 2; omega) _
end Go.Proofs.Ytpcnapmlmhhcpaa
