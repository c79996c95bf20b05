/-
  words.Cons of a word that may be: contract.
  Conditions: the rows lie in memory.
-/
import Derived.Test.YtpcnapmlmhhcpaaWv
import Derived.WalkKit
import Derived.WalkSpells
import Derived.WalkLawsBesides
import Derived.Deep.QuietTactic
import Derived.BigQuiet
import Derived.Lib.Hide
import Derived.Handy
import Derived.Deep.AppendLies
import Derived.Maps.AppendAt
import Derived.OwnWalk
import Derived.Lib.LazyBuf
import Derived.Deep.DeepCutAuto
import Derived.Deep.RegionLaw
import Derived.Deep.RegionHeld3
import Derived.Deep.RegionWith
import Derived.BigRegion
set_option linter.unusedVariables false
set_option linter.unusedSimpArgs false
namespace Go.Proofs.Ytpcnapmlmhhcpaa
open Go.RowKit 
attribute [local go_sem] setCell_drewN alloc_drewN size_ext ext_ext ext_drewN ext_drew drewN_ext drew_ext cell?_ext frozen?_ext setCell_ext cell?_past1 frozen?_past1 setCell_past1 cell?_past2 frozen?_past2 setCell_past2 cell?_past3 frozen?_past3 setCell_past3 cell?_past4 frozen?_past4 setCell_past4 cell?_past5 frozen?_past5 setCell_past5 cell?_past6 frozen?_past6 setCell_past6 cell?_past7 frozen?_past7 setCell_past7 cell?_past8 frozen?_past8 setCell_past8

theorem step_append_row {W : World} {ops : Array Oper} {o : Oper} {a : Act} {Q : Exit → Act → World → Prop} {Kc : Act → World → Prop} (hw : Region.wanted o (yielded ops a.tmps) = true) (s x : Operand)
    (hop : o.op = .call { callee := .builtin .append, args := #[s, x], argTypes := #[22, 22] })
    (B : Nat) (v : Value) (xs ys : List Int) (A : Option Addr) (m c : Nat) (hs : a.eval s = v) (hx : a.eval x = .slice A m c) (ho : Fresh W B v xs) (hr : RowAt W (.slice A m c) ys) (hl : xs.length + ys.length ≤ 1000000) (hB : B ≤ W.heap.size)
    (h : ∀ v' w', Fresh w' B v' (xs ++ ys) → W.grownBy w' v.ownBlock → Kc (a.put o.dst v') w') : if Region.wanted o (yielded ops a.tmps) = true then Oper.wp Try.prog o a W Kc Q else Kc (a.put o.dst undef) W := by
  rw [if_pos hw]
  obtain ⟨v', w', hrun, h2, h3⟩ := run_append_row W o.type B v xs ys A m c ho hr hl hB
  unfold Oper.wp
  simp [execOp, hop, resolve, invoke, builtin, hs, hx, hrun, Result.andThen]
  exact h v' w' h2 h3
theorem fresh_one (W : World) (v : Int) : Fresh (W.alloc (.cells #[.int .i64 v] 2)) W.heap.size (.slice (some ⟨W.heap.size, 0, none⟩) 1 1) [v] :=
  ⟨rfl, .inr ⟨W.heap.size, 1, #[.int .i64 v], rfl, Nat.le_refl _, heap_alloc_new W _, Nat.le_refl _, by unfold maxLen; omega, rfl, rfl⟩⟩
set_option maxRecDepth 100000 in
set_option maxHeartbeats 4000000 in
theorem cons_ok (w : World) (v : Int) (vh vl : Value) (h l : List Int) (h1 : RowAt w vh h) (h2 : RowAt w vl l) (hm : may h l = true) :
    Calls Try.prog 14 #[.int .i64 v, .agg #[vh, vl]] w fun e w' => Below w.heap.size w w' ∧ Norms w' w.heap.size (v :: h) l e := by
  obtain ⟨m1, m2, m3⟩ := may_len hm
  have Hm := Lib.hid hm
  have H1 := Lib.hid h1
  have H2 := Lib.hid h2
  obtain ⟨ph, ch, rfl, rh⟩ := h1
  obtain ⟨pl, cl, rfl, rl⟩ := h2
  obtain ⟨n, hn⟩ : ∃ n, n = h.length := ⟨_, rfl⟩
  obtain ⟨p, hp⟩ : ∃ p, p = l.length := ⟨_, rfl⟩
  rw [← hn] at m3
  rw [← hp] at m1 m2
  rw [← hn, ← hp]
  have HN := Lib.hid hn
  have HP := Lib.hid hp
  have HM3 : Hid (h.length ≤ 4096) := Lib.hid (by rw [← hn]; exact m3)
  clear rh rl hm hn hp
  go_enter Try.func14, Try.ntmps14
  go_wp2_with fail
  refine (may_any _ _ _ h l (by rw [HN.out]; exact H1.out.below (by repeat (first | (with_reducible exact Below.refl _ _) | (with_reducible assumption) | (with_reducible refine below_drewN ?_ _) | (with_reducible refine Below.drew ?_) | (with_reducible refine below_ext_of ?_ (by first | exact Nat.le_refl _ | assumption | (simp only [World.size_alloc, World.size_setCell, size_ext, World.heap_drewN]; omega)) _ _) | (with_reducible refine Below.alloc ?_ (by first | exact Nat.le_refl _ | assumption | (simp only [World.size_alloc, World.size_setCell, size_ext, World.heap_drewN]; omega)) _) | (with_reducible refine Below.setCell ?_ (by first | exact Nat.le_refl _ | assumption | (simp only [World.size_alloc, World.size_setCell, size_ext, World.heap_drewN]; omega)) _)))) (by rw [HP.out]; exact H2.out.below (by repeat (first | (with_reducible exact Below.refl _ _) | (with_reducible assumption) | (with_reducible refine below_drewN ?_ _) | (with_reducible refine Below.drew ?_) | (with_reducible refine below_ext_of ?_ (by first | exact Nat.le_refl _ | assumption | (simp only [World.size_alloc, World.size_setCell, size_ext, World.heap_drewN]; omega)) _ _) | (with_reducible refine Below.alloc ?_ (by first | exact Nat.le_refl _ | assumption | (simp only [World.size_alloc, World.size_setCell, size_ext, World.heap_drewN]; omega)) _) | (with_reducible refine Below.setCell ?_ (by first | exact Nat.le_refl _ | assumption | (simp only [World.size_alloc, World.size_setCell, size_ext, World.heap_drewN]; omega)) _))))).mono ?_
  rintro e w1 ⟨rfl, hb⟩
  rw [Hm.out]
  obtain ⟨X, d, rfl⟩ := below_ext hb
  clear hb
  go_upto_region 3 with (fail)
  obtain ⟨W, hW⟩ : ∃ W, W = ext ((w.alloc (.cells #[.slice ph n ch, .slice pl p cl] 24)).alloc (.cells #[.slice none 0 0, .slice none 0 0] 24)) X d := ⟨_, rfl⟩
  rw [← hW]
  have hbW : Below w.heap.size w W := by rw [hW]; exact below_ext_of (((Below.refl _ _).alloc (Nat.le_refl _) _).alloc (by simp) _) (by simp; omega) _ _
  have k0 : W.cell? ⟨w.heap.size, 0, none⟩ = some (.slice ph n ch) := by rw [hW]; simp [go_sem]
  have k1 : W.cell? ⟨w.heap.size, 1, none⟩ = some (.slice pl p cl) := by rw [hW]; simp [go_sem]
  have hz1 : w.heap.size < W.heap.size := by rw [hW]; simp [go_sem]; omega
  have hz2 : w.heap.size + 1 < W.heap.size := by rw [hW]; simp [go_sem]; omega
  have hblk : W.heap[w.heap.size + 1]? = some (.cells #[.slice none 0 0, .slice none 0 0] 24) := by
    rw [hW, (ext_below _ _ _).block _ (by simp)]
    have := heap_alloc_new (w.alloc (.cells #[.slice ph n ch, .slice pl p cl] 24)) (.cells #[.slice none 0 0, .slice none 0 0] 24)
    rwa [World.size_alloc] at this
  have R1 : Hid (RowAt W (.slice ph n ch) h) := Lib.hid (by rw [HN.out]; exact H1.out.below hbW)
  have R2 : Hid (RowAt W (.slice pl p cl) l) := Lib.hid (by rw [HP.out]; exact H2.out.below hbW)
  have HBW := Lib.hid hbW
  have HKB := Lib.hid hblk
  clear hW hbW hblk
  refine wp_region_held_drew (S := (fun W' => W'.cell? ⟨w.heap.size, 0, none⟩ = some (.slice ph n ch) ∧ W'.cell? ⟨w.heap.size, 1, none⟩ = some (.slice pl p cl))) (by kernel_rfl) ?hS149 (fun hHeld => ?go149)
  case hS149 =>
    (try dsimp only)
    try go_simp
  case go149 =>
  refine' wpAnyH_take (i := 0) (oi := ⟨_, _, _, _, _, _⟩) (v := ?v150) rfl (by kernel_rfl) (by kernel_rfl) (by kernel_rfl) (fun _ _ _ h => h) (Or.inl ⟨by rfl, ?hy150⟩) (by assumption) ?rest150
  case hy150 =>
    intro w hSw
    (try dsimp only at hSw)
    go_simp
    try (with_reducible rfl)
  case rest150 =>
  (try simp only [Act.put, List.setIfInBounds_toArray, List.set_cons_zero, List.set_cons_succ])
  refine' wpAnyH_take (i := 2) (oi := ⟨_, _, _, _, _, _⟩) (v := ?v151) rfl (by kernel_rfl) (by kernel_rfl) (by kernel_rfl) (fun _ _ _ h => h) (Or.inl ⟨by rfl, ?hy151⟩) (by assumption) ?rest151
  case hy151 =>
    intro w hSw
    (try dsimp only at hSw)
    go_simp
    try (with_reducible rfl)
  case rest151 =>
  (try simp only [Act.put, List.setIfInBounds_toArray, List.set_cons_zero, List.set_cons_succ])
  refine' wpAnyH_take (i := 3) (oi := ⟨_, _, _, _, _, _⟩) (v := ?v152) rfl (by kernel_rfl) (by kernel_rfl) (by kernel_rfl) (fun _ _ _ h => h) (Or.inl ⟨by rfl, ?hy152⟩) (by assumption) ?rest152
  case hy152 =>
    intro w hSw
    (try dsimp only at hSw)
    go_simp
    try (with_reducible rfl)
  case rest152 =>
  (try simp only [Act.put, List.setIfInBounds_toArray, List.set_cons_zero, List.set_cons_succ])
  refine' wpAnyH_take (i := 5) (oi := ⟨_, _, _, _, _, _⟩) (v := ?v153) rfl (by kernel_rfl) (by kernel_rfl) (by kernel_rfl) (fun _ _ _ h => h) (Or.inl ⟨by rfl, ?hy153⟩) (by assumption) ?rest153
  case hy153 =>
    intro w hSw
    (try dsimp only at hSw)
    go_simp
    try (with_reducible rfl)
  case rest153 =>
  (try simp only [Act.put, List.setIfInBounds_toArray, List.set_cons_zero, List.set_cons_succ])
  refine' wpAnyH_take (i := 6) (oi := ⟨_, _, _, _, _, _⟩) (v := ?v154) rfl (by kernel_rfl) (by kernel_rfl) (by kernel_rfl) (fun _ _ _ h => h) (Or.inl ⟨by rfl, ?hy154⟩) (by assumption) ?rest154
  case hy154 =>
    intro w hSw
    (try dsimp only at hSw)
    go_simp
    try (with_reducible rfl)
  case rest154 =>
  (try simp only [Act.put, List.setIfInBounds_toArray, List.set_cons_zero, List.set_cons_succ])
  refine wpAnyH_ready (rs := [1]) (by kernel_rfl) (by simp) ?_
  refine AllReadyH.cons (o := ⟨_, _, _, _, _, _⟩) rfl (fun K hK => ?_) AllReadyH.nil
  go_simp
  skip
  refine hK.out _ _ ?hS155 (fun hHeld2 => ?go155)
  case hS155 =>
    (try dsimp only)
    try go_simp
  case go155 =>
  clear hK K
  clear hHeld
  have hHeld := hHeld2
  clear hHeld2
  (try simp only [Act.put, List.setIfInBounds_toArray, List.set_cons_zero, List.set_cons_succ])
  refine wpAnyH_ready (rs := [4]) (by kernel_rfl) (by simp) ?_
  refine AllReadyH.cons (o := ⟨_, _, _, _, _, _⟩) rfl (fun K hK => ?_) AllReadyH.nil
  refine step_append_row (by kernel_rfl) _ _ (by rfl) w.heap.size (.slice (some ⟨W.heap.size, 0, none⟩) 1 1) [v] h ph n ch (by rfl) (by rfl) (Fresh.mono (fresh_one _ v) HBW.out.size) (by rw [HN.out]; rw [HN.out] at R1; exact R1.out.below (by repeat (first | (with_reducible exact Below.refl _ _) | (with_reducible assumption) | (with_reducible refine below_drewN ?_ _) | (with_reducible refine Below.drew ?_) | (with_reducible refine below_ext_of ?_ (by first | exact Nat.le_refl _ | assumption | (simp only [World.size_alloc, World.size_setCell, size_ext, World.heap_drewN]; omega)) _ _) | (with_reducible refine Below.alloc ?_ (by first | exact Nat.le_refl _ | assumption | (simp only [World.size_alloc, World.size_setCell, size_ext, World.heap_drewN]; omega)) _) | (with_reducible refine Below.setCell ?_ (by first | exact Nat.le_refl _ | assumption | (simp only [World.size_alloc, World.size_setCell, size_ext, World.heap_drewN]; omega)) _)))) (by have := HM3.out; simp; omega) (by have := HBW.out.size; simp [go_sem]; omega) ?_
  intro va wa hfa hga
  have hba : Below W.heap.size W wa := Below.grown (by repeat (first | (with_reducible exact Below.refl _ _) | (with_reducible assumption) | (with_reducible refine below_drewN ?_ _) | (with_reducible refine Below.drew ?_) | (with_reducible refine below_ext_of ?_ (by first | exact Nat.le_refl _ | assumption | (simp only [World.size_alloc, World.size_setCell, size_ext, World.heap_drewN]; omega)) _ _) | (with_reducible refine Below.alloc ?_ (by first | exact Nat.le_refl _ | assumption | (simp only [World.size_alloc, World.size_setCell, size_ext, World.heap_drewN]; omega)) _) | (with_reducible refine Below.setCell ?_ (by first | exact Nat.le_refl _ | assumption | (simp only [World.size_alloc, World.size_setCell, size_ext, World.heap_drewN]; omega)) _))) hga (by simp [go_sem]) (fun k hk => by simp [Value.ownBlock] at hk; omega)
  have ra := hfa.row
  have RAA := Lib.hid ra
  obtain ⟨pa, ca, rfl, _⟩ := ra
  have HLA : Hid (([v] ++ h).length = n + 1) := Lib.hid (by have := HN.out; simp; omega)
  rw [HLA.out] at RAA ⊢
  have kA0a := (hba.cell (p := ⟨w.heap.size, 0, none⟩) hz1).trans k0
  have kA1a := (hba.cell (p := ⟨w.heap.size, 1, none⟩) hz1).trans k1
  have HBA := Lib.hid hba
  clear hfa hga hba
  refine hK.out _ _ ?hS156 (fun hHeld2 => ?go156)
  case hS156 =>
    (try dsimp only)
    try go_simp
  case go156 =>
  clear hK K
  clear hHeld
  have hHeld := hHeld2
  clear hHeld2
  (try simp only [Act.put, List.setIfInBounds_toArray, List.set_cons_zero, List.set_cons_succ])
  refine wpAnyH_ready (rs := [7]) (by kernel_rfl) (by simp) ?_
  refine AllReadyH.cons (o := ⟨_, _, _, _, _, _⟩) rfl (fun K hK => ?_) AllReadyH.nil
  go_simp
  go_at_call 38
  refine (short_any _ _ _ ([v] ++ h) l (RAA.out.below (by repeat (first | (with_reducible exact Below.refl _ _) | (with_reducible assumption) | (with_reducible refine below_drewN ?_ _) | (with_reducible refine Below.drew ?_) | (with_reducible refine below_ext_of ?_ (by first | exact Nat.le_refl _ | assumption | (simp only [World.size_alloc, World.size_setCell, size_ext, World.heap_drewN]; omega)) _ _) | (with_reducible refine Below.alloc ?_ (by first | exact Nat.le_refl _ | assumption | (simp only [World.size_alloc, World.size_setCell, size_ext, World.heap_drewN]; omega)) _) | (with_reducible refine Below.setCell ?_ (by first | exact Nat.le_refl _ | assumption | (simp only [World.size_alloc, World.size_setCell, size_ext, World.heap_drewN]; omega)) _)))) (R2.out.below (HBA.out.trans (Below.mono (by repeat (first | (with_reducible exact Below.refl _ _) | (with_reducible assumption) | (with_reducible refine below_drewN ?_ _) | (with_reducible refine Below.drew ?_) | (with_reducible refine below_ext_of ?_ (by first | exact Nat.le_refl _ | assumption | (simp only [World.size_alloc, World.size_setCell, size_ext, World.heap_drewN]; omega)) _ _) | (with_reducible refine Below.alloc ?_ (by first | exact Nat.le_refl _ | assumption | (simp only [World.size_alloc, World.size_setCell, size_ext, World.heap_drewN]; omega)) _) | (with_reducible refine Below.setCell ?_ (by first | exact Nat.le_refl _ | assumption | (simp only [World.size_alloc, World.size_setCell, size_ext, World.heap_drewN]; omega)) _))) HBA.out.size))) (by rw [← HP.out]; omega) (by rw [HLA.out]; omega) (by rw [← HP.out]; omega)).mono ?_
  rintro e w3 ⟨hb, hS⟩
  obtain ⟨v1, v2, rfl, o1, o2, hap⟩ := hS.form
  have Q1 := Lib.hid o1
  have Q2 := Lib.hid o2
  have HAP := Lib.hid hap
  have r1 := o1.row
  have r2 := o2.row
  clear o1 o2 hap
  obtain ⟨p1, c1, rfl, _⟩ := r1
  obtain ⟨p2, c2, rfl, _⟩ := r2
  have hbw3 : Below W.heap.size W w3 := HBA.out.trans (Below.mono (Below.trans (by repeat (first | (with_reducible exact Below.refl _ _) | (with_reducible assumption) | (with_reducible refine below_drewN ?_ _) | (with_reducible refine Below.drew ?_) | (with_reducible refine below_ext_of ?_ (by first | exact Nat.le_refl _ | assumption | (simp only [World.size_alloc, World.size_setCell, size_ext, World.heap_drewN]; omega)) _ _) | (with_reducible refine Below.alloc ?_ (by first | exact Nat.le_refl _ | assumption | (simp only [World.size_alloc, World.size_setCell, size_ext, World.heap_drewN]; omega)) _) | (with_reducible refine Below.setCell ?_ (by first | exact Nat.le_refl _ | assumption | (simp only [World.size_alloc, World.size_setCell, size_ext, World.heap_drewN]; omega)) _))) hb) HBA.out.size)
  have hblk3 : w3.heap[w.heap.size + 1]? = some (.cells #[.slice none 0 0, .slice none 0 0] 24) := (hbw3.block _ hz2).trans HKB.out
  have j0 : w3.cell? ⟨w.heap.size + 1, 0, none⟩ = some (.slice none 0 0) := by simp [World.cell?, hblk3]
  have j1 : w3.cell? ⟨w.heap.size + 1, 1, none⟩ = some (.slice none 0 0) := by simp [World.cell?, hblk3]
  have jf : ∀ o, w3.frozen? ⟨w.heap.size + 1, o, none⟩ = false := fun o => by simp [World.frozen?, hblk3]
  have jz : w.heap.size + 1 < w3.heap.size := (Array.getElem?_eq_some_iff.1 hblk3).1
  have kA03 := (hbw3.cell (p := ⟨w.heap.size, 0, none⟩) hz1).trans k0
  have kA13 := (hbw3.cell (p := ⟨w.heap.size, 1, none⟩) hz1).trans k1
  have HB3 := Lib.hid (HBW.out.trans (hbw3.mono HBW.out.size))
  have HLQ : Hid (w.heap.size + 1 < wa.heap.size) := Lib.hid (Nat.lt_of_lt_of_le hz2 HBA.out.size)
  clear hb hS hblk3 hbw3
  generalize (outH ([v] ++ h) l).length = q1 at *
  generalize (outL ([v] ++ h) l).length = q2 at *
  go_simp
  refine hK.out _ _ ?hS157 (fun hHeld2 => ?go157)
  case hS157 =>
    (try dsimp only)
    try go_simp
  case go157 =>
  clear hK K
  clear hHeld
  have hHeld := hHeld2
  clear hHeld2
  (try simp only [Act.put, List.setIfInBounds_toArray, List.set_cons_zero, List.set_cons_succ])
  refine' wpAnyH_take (i := 8) (oi := ⟨_, _, _, _, _, _⟩) (v := ?v158) rfl (by kernel_rfl) (by kernel_rfl) (by kernel_rfl) (fun _ _ _ h => h) (Or.inl ⟨by rfl, ?hy158⟩) (by assumption) ?rest158
  case hy158 =>
    intro w hSw
    (try dsimp only at hSw)
    go_simp
    try (with_reducible rfl)
  case rest158 =>
  (try simp only [Act.put, List.setIfInBounds_toArray, List.set_cons_zero, List.set_cons_succ])
  refine' wpAnyH_take (i := 9) (oi := ⟨_, _, _, _, _, _⟩) (v := ?v159) rfl (by kernel_rfl) (by kernel_rfl) (by kernel_rfl) (fun _ _ _ h => h) (Or.inl ⟨by rfl, ?hy159⟩) (by assumption) ?rest159
  case hy159 =>
    intro w hSw
    (try dsimp only at hSw)
    go_simp
    try (with_reducible rfl)
  case rest159 =>
  (try simp only [Act.put, List.setIfInBounds_toArray, List.set_cons_zero, List.set_cons_succ])
  refine wpAnyH_ready (rs := [10]) (by kernel_rfl) (by simp) ?_
  refine AllReadyH.cons (o := ⟨_, _, _, _, _, _⟩) rfl (fun K hK => ?_) AllReadyH.nil
  go_simp
  skip
  refine hK.out _ _ ?hS160 (fun hHeld2 => ?go160)
  case hS160 =>
    (try dsimp only)
    try go_simp
  case go160 =>
  clear hK K
  clear hHeld
  have hHeld := hHeld2
  clear hHeld2
  (try simp only [Act.put, List.setIfInBounds_toArray, List.set_cons_zero, List.set_cons_succ])
  refine' wpAnyH_take (i := 11) (oi := ⟨_, _, _, _, _, _⟩) (v := ?v161) rfl (by kernel_rfl) (by kernel_rfl) (by kernel_rfl) (fun _ _ _ h => h) (Or.inl ⟨by rfl, ?hy161⟩) (by assumption) ?rest161
  case hy161 =>
    intro w hSw
    (try dsimp only at hSw)
    go_simp
    try (with_reducible rfl)
  case rest161 =>
  (try simp only [Act.put, List.setIfInBounds_toArray, List.set_cons_zero, List.set_cons_succ])
  refine wpAnyH_done (by kernel_rfl) ?_ _
  go_wp2_with fail
  refine bodyPost_ret (v := .tuple #[.agg #[.slice p1 q1 c1, .slice p2 q2 c2], .int .i64 (outE ([v] ++ h) l)]) (by simp [results, Try.results14, go_sem, j0, j1, jz]) rfl ⟨?_, _, _, rfl, ((Q1.out.put (b := w.heap.size + 1) HLQ.out 0 _).put (b := w.heap.size + 1) HLQ.out 1 _).mono (by have := HBW.out.size; have := HBA.out.size; omega), ((Q2.out.put (b := w.heap.size + 1) HLQ.out 0 _).put (b := w.heap.size + 1) HLQ.out 1 _).mono (by have := HBW.out.size; have := HBA.out.size; omega), HAP.out⟩
  exact (HB3.out.setCell (p := ⟨w.heap.size + 1, 0, none⟩) (Nat.le_succ _) _).setCell (p := ⟨w.heap.size + 1, 1, none⟩) (Nat.le_succ _) _
end Go.Proofs.Ytpcnapmlmhhcpaa
