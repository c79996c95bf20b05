/-
  heap.pile.put: a job is put, and goes its way up.
  Conditions: the heap holds fewer than 4096 jobs.
-/
import Derived.Test.YtbplaiooipldlaaSt
import Derived.WalkKit
import Derived.WalkSpells
import Derived.WalkLawsBesides
import Derived.Deep.QuietTactic
import Derived.BigQuiet
import Derived.Lib.Hide
import Derived.Handy
import Derived.Deep.RegionLaw
import Derived.Deep.DeepCutAuto
import Derived.Deep.RegionLaw
import Derived.Deep.RegionHeld3
import Derived.BigRegion
set_option linter.unusedVariables false
set_option linter.unusedSimpArgs false
namespace Go.Proofs.Ytbplaiooipldlaa
open Go.RowKit Hp
attribute [local go_sem] setCell_drewN alloc_drewN size_ext ext_ext ext_drewN ext_drew drewN_ext drew_ext cell?_ext frozen?_ext setCell_ext cell?_past1 frozen?_past1 setCell_past1 cell?_past2 frozen?_past2 setCell_past2 cell?_past3 frozen?_past3 setCell_past3 cell?_past4 frozen?_past4 setCell_past4 cell?_past5 frozen?_past5 setCell_past5 cell?_past6 frozen?_past6 setCell_past6 cell?_past7 frozen?_past7 setCell_past7 cell?_past8 frozen?_past8 setCell_past8

theorem infoK : (Try.prog.info? 31).map (fun i => (i.zero, i.size, i.bytes)) = some (some (.agg #[.int .i64 0, .int .i64 0, .int .i64 0]), 3, 24) := by kernel_rfl
/-- What a call leaves of a heap: no result, the jobs zs, its blocks its own or new, all else as it was. -/
def Left0 (w : World) (H : Nat) (v : Value) (most : Int) (zs : List Key) (e : Ending) (w' : World) : Prop :=
  e = .returned (.tuple #[]) ∧ ∃ v', IsHeap w' H v' most zs ∧ (∀ j, foot H v' j → foot H v j ∨ w.heap.size ≤ j) ∧ Fr (foot H v) w w'
theorem news_kv (w : World) (k : Key) (g : Nat) (h0 : w.cell? ⟨g, 0, none⟩ = some (.int .i64 k.due)) (h1 : w.cell? ⟨g, 1, none⟩ = some (.int .i64 k.task)) (h2 : w.cell? ⟨g, 2, none⟩ = some (.int .i64 k.n)) :
    ∀ j u, (kv k)[j]? = some u → w.cell? ((⟨g, 0, none⟩ : Addr).add j) = some u := by
  intro j u hj
  unfold kv at hj
  match j, hj with
  | 0, hj => simp at hj; subst hj; simpa [Addr.add] using h0
  | 1, hj => simp at hj; subst hj; simpa [Addr.add] using h1
  | 2, hj => simp at hj; subst hj; simpa [Addr.add] using h2
  | j + 3, hj => simp at hj
theorem far2 (w : World) (o1 o2 : Obj) (H i : Nat) (h : H < w.heap.size) : ((w.alloc o1).alloc o2).drew.cell? ⟨H, i, none⟩ = w.cell? ⟨H, i, none⟩ := by
  show ((w.alloc o1).alloc o2).cell? _ = _
  rw [World.cell?_alloc_past _ _ _ (by simp only [World.size_alloc]; omega), World.cell?_alloc_past _ _ _ h]
theorem farz2 (w : World) (o1 o2 : Obj) (H i : Nat) (h : H < w.heap.size) : ((w.alloc o1).alloc o2).drew.frozen? ⟨H, i, none⟩ = w.frozen? ⟨H, i, none⟩ := by
  show ((w.alloc o1).alloc o2).frozen? _ = _
  rw [World.frozen?_alloc_past _ _ _ (by simp only [World.size_alloc]; omega), World.frozen?_alloc_past _ _ _ h]
/-- Behind the append: the heap's row is the new one. -/
def Appended (w wc : World) (H : Nat) (v : Value) (most : Int) (zs : List Key) (v' : Value) : Prop :=
  IsHeap wc H v' most zs ∧ (∀ j, foot H v' j → foot H v j ∨ w.heap.size ≤ j) ∧ Fr (foot H v) w wc
theorem Fr.setCell_block {Fp : Nat → Prop} {a b : World} (w1 : World) (H k : Nat) (u : Value) (hk : k ≠ H) : (w1.setCell ⟨H, 0, none⟩ u).heap[k]? = w1.heap[k]? := by
  simp only [World.setCell, Array.getElem?_modify]
  rw [if_neg (by omega)]
theorem appended (w : World) (o1 o2 : Obj) (w1 : World) (H : Nat) (v : Value) (most : Int) (xs : List Key) (ks : List Value) (zs : List Key) (g1 cap1 : Nat) (h : IsHeap w H v most xs) (hk : flat zs = ks) (hown : w1.ownsRow 0 31 3 (.slice (some ⟨g1, 0, none⟩) (xs.length + 1) cap1) (xs.length + 1) (flat xs ++ ks)) (hgrow : ((w.alloc o1).alloc o2).drew.grownBy w1 v.ownBlock)
    (hat : v.ownBlock = some g1 ∨ g1 = ((w.alloc o1).alloc o2).drew.heap.size) (hlt : g1 < w1.heap.size) (hz : zs.length = 1 := by rfl) :
    Appended w (w1.setCell ⟨H, 0, none⟩ (.slice (some ⟨g1, 0, none⟩) (xs.length + 1) cap1)) H v most (xs ++ zs) (.slice (some ⟨g1, 0, none⟩) (xs.length + 1) cap1) := by
  have hH := h.lt H (.inl rfl)
  have hne := h.far
  have hF : Fr (foot H v) w w1 := Fr.grown ((((Fr.refl _ _).alloc o1).alloc o2).drew) hgrow (fun j _ e => .inr e)
  have hsz : ((w.alloc o1).alloc o2).drew.heap.size = w.heap.size + 2 := by show ((w.alloc o1).alloc o2).heap.size = _; simp [World.size_alloc]
  have hg1 : g1 ≠ H := by
    rcases hat with e | e
    · rintro rfl; exact hne e.symm
    · omega
  have hb : w1.heap[H]? = w.heap[H]? := by
    rw [hgrow.block H (by omega) hne]
    show ((w.alloc o1).alloc o2).heap[H]? = _
    simp only [World.alloc]
    rw [Array.getElem?_push_lt (by simp; omega), Array.getElem_push_lt (by omega), Array.getElem?_eq_getElem hH]
  refine ⟨⟨?_, ?_⟩, ?_, hF.setCell H 0 _ (.inl (.inl rfl))⟩
  · simp only [World.setCell, Array.getElem?_modify, if_pos, hb, h.1]; rfl
  · rw [flat_append, hk, List.length_append, hz]
    refine ⟨hown.1, ?_⟩
    rcases hown.2 with ⟨_, h2⟩ | ⟨g, cap, cur, hv, hb2, hg, h3⟩
    · omega
    · cases hv
      exact .inr ⟨g1, cap1, cur, rfl, hb2, by rw [Fr.setCell_block (Fp := foot H v) (a := w) (b := w) _ _ _ _ hg1]; exact hg, h3⟩
  · rintro j (rfl | hj)
    · exact .inl (.inl rfl)
    · cases hj
      rcases hat with e | e
      · exact .inl (.inr e)
      · exact .inr (by show w.heap.size ≤ g1; omega)
theorem one_kv (k : Key) : ∀ u ∈ kv k, u.oneCell' = true := by
  intro u hu
  simp [kv] at hu
  rcases hu with rfl | rfl | rfl <;> rfl
theorem up_enough : ∀ (f g : Nat) (xs : List Key) (i : Nat), i < f → i < g → up f xs i = up g xs i := by
  intro f
  induction f with
  | zero => intro g xs i h; omega
  | succ f ih =>
    intro g xs i hf hg
    cases g with
    | zero => omega
    | succ g =>
      unfold up
      by_cases h0 : i = 0
      · rw [if_pos h0, if_pos h0]
      · rw [if_neg h0, if_neg h0, ih g _ _ (by omega) (by omega)]
def intOf : Value → Int
  | .int _ i => i
  | _ => 0
set_option maxHeartbeats 1000000 in
theorem put_any (k : Key) (xs : List Key) (H : Nat) (v : Value) (most : Int) (w : World) (h : IsHeap w H v most xs) (hn : xs.length < 4096) :
    Calls Try.prog 18 #[.pointer (some ⟨H, 0, none⟩), .agg #[.int .i64 k.due, .int .i64 k.task, .int .i64 k.n]] w (Left0 w H v most (put xs k)) := by
  obtain ⟨i0, hi, hz0, hz1, hz2⟩ := info_parts infoK
  have Hi := Lib.hid hi
  have Hz0 := Lib.hid hz0
  have Hz1 := Lib.hid hz1
  have Hz2 := Lib.hid hz2
  clear hi hz0 hz1 hz2
  obtain ⟨c0, c1, c2, cf⟩ := h.cells
  have hH := h.lt H (.inl rfl)
  have hne := h.far
  have Hh := Lib.hid h
  clear h
  go_enter Try.func18, Try.ntmps18
  go_wp2_with fail
  go_upto_region 1 with (fail)
  go_cut [] (fun wc => ∃ g1 cap1, Appended w wc H v most (xs ++ [k]) (.slice (some ⟨g1, 0, none⟩) (xs.length + 1) cap1))
  case first =>
    go_region_law (refine step_append_lies _ (by rfl) _ _ 22 (by rfl) 0 31 i0 (.agg #[.int .i64 0, .int .i64 0, .int .i64 0]) 3 24 Try.underlying22 Hi.out Hz0.out Hz1.out Hz2.out rfl (by decide) v xs.length (flat xs) (by simp [Act.eval, Act.put]) (by exact ((Hh.out.2.alloc _).alloc _)) ⟨w.heap.size + 1, 0, none⟩ 1 1 (kv k) (by simp [Act.eval, Act.put]) rfl (news_kv _ k _ (by simp [go_sem]) (by simp [go_sem]) (by simp [go_sem])) (one_kv k) (by omega) (by unfold maxLen; omega) (by omega) (by simp [go_sem]) _ rfl ?_
                   intro g1 cap1 w1 hown1 hgrow hat hlt
                   have e1 : w1.cell? ⟨H, 0, none⟩ = some v := (hgrow.cell_far ⟨H, 0, none⟩ (by simp [go_sem]; omega) hne).trans (far2 w _ _ H 0 hH ▸ c0)
                   have e2 : w1.frozen? ⟨H, 0, none⟩ = false := (hgrow.frozen_far ⟨H, 0, none⟩ (by simp [go_sem]; omega) hne).trans (farz2 w _ _ H 0 hH ▸ cf 0)
                   have e3 := appended w _ _ w1 H v most xs (kv k) [k] g1 cap1 Hh.out rfl hown1 hgrow hat hlt)
    all_goals
      go_wp2_with fail
      go_meet
      case rel => exact ⟨_, _, e3⟩
  case rest =>
  obtain ⟨g1, cap1, hA, hN, hF⟩ := hcut
  obtain ⟨d0, d1, d2, df⟩ := hA.cells
  have hlen : (xs ++ [k]).length = xs.length + 1 := by simp
  clear c0 c1 c2 cf hH hne Hi Hz0 Hz1 Hz2 Hh
  go_wp2_with fail
  have HA : Hid (Appended w wc H v most (xs ++ [k]) (.slice (some ⟨g1, 0, none⟩) (xs.length + 1) cap1)) := Lib.hid ⟨hA, hN, hF⟩
  clear hA hN hF d0 d1 d2 df hlen
  go_loopw [4] (fun i wr => ∃ (n : Nat) (ys : List Key), i = .int .i64 (n : Int) ∧ n < ys.length ∧ Hid (ys.length = xs.length + 1) ∧ Hid (up (n + 1) ys n = put xs k) ∧ Hid (Appended w wr H v most ys (.slice (some ⟨g1, 0, none⟩) (xs.length + 1) cap1))) (fun i _ => (intOf i).toNat)
  case atStart => exact ⟨xs.length, xs ++ [k], rfl, by simp, Lib.hid (by simp), Lib.hid rfl, HA⟩
  case round =>
    obtain ⟨n, ys, rfl, hny, hl, hu, hW⟩ := hrel
    clear HA
    obtain ⟨hI, hN, hF⟩ := hW.out
    cases n with
    | zero =>
      have hr := Lib.hid (show ys = put xs k from hu.out)
      clear hN hF hu
      go_wp2_with fail
      exact bodyPost_ret (v := .tuple #[]) (by simp [results, Try.results18, go_sem]) rfl ⟨rfl, _, hr.out ▸ hW.out.1, hW.out.2.1, hW.out.2.2⟩
    | succ m =>
      have hl2 := hl.out
      have hm : m + 1 < 4097 := by omega
      go_wp2_with fail
      rw [show ((m : Int) / 2) = ((m / 2 : Nat) : Int) by omega]
      have hp : m / 2 < ys.length := by omega
      have hp2 : m / 2 ≤ m := by omega
      have hu2 := hu
      clear hu
      obtain ⟨p, hpe⟩ : ∃ p, p = m / 2 := ⟨_, rfl⟩
      rw [← hpe] at hp hp2 ⊢
      obtain ⟨n, hne⟩ : ∃ n, n = m + 1 := ⟨_, rfl⟩
      rw [← hne] at hm hny hu2 ⊢
      have Hpe := Lib.hid hpe
      have Hne := Lib.hid hne
      have hp3 : p < n := by omega
      clear hpe hne hp2
      obtain ⟨r1, r2, r3⟩ := hI.rowE hl2 n hny
      obtain ⟨q1, q2, q3⟩ := hI.rowE hl2 p hp
      obtain ⟨c0, c1, c2, cf⟩ := hI.cells
      have hH := hI.lt H (.inl rfl)
      have hg := hI.lt g1 (.inr rfl)
      have gf := hI.frozen hl2
      generalize ha : at_ ys n = a at *
      generalize hb : at_ ys p = b at *
      have Ha := Lib.hid ha
      have Hb := Lib.hid hb
      have HI := Lib.hid hI
      have HN := Lib.hid hN
      have HF := Lib.hid hF
      clear ha hb hI hN hF
      have b1 : n < xs.length + 1 := by omega
      have b2 : p < xs.length + 1 := by omega
      have b3 : (0 : Int) ≤ ↑n := by omega
      have b4 : (0 : Int) ≤ ↑p := by omega
      have b5 : (↑n : Int) < ↑xs.length + 1 := by omega
      have b6 : (↑p : Int) < ↑xs.length + 1 := by omega
      clear hny hl2 hp
      go_region_held3 (fun w' => w'.cell? ⟨H, 0, none⟩ = some (.slice (some ⟨g1, 0, none⟩) (xs.length + 1) cap1) ∧ w'.cell? ⟨H, 1, none⟩ = some (.func (.func 11) #[] #[]) ∧ w'.cell? ⟨g1, n * 3, none⟩ = some (.int .i64 a.due) ∧ w'.cell? ⟨g1, n * 3 + 1, none⟩ = some (.int .i64 a.task) ∧ w'.cell? ⟨g1, n * 3 + 2, none⟩ = some (.int .i64 a.n) ∧ w'.cell? ⟨g1, p * 3, none⟩ = some (.int .i64 b.due) ∧ w'.cell? ⟨g1, p * 3 + 1, none⟩ = some (.int .i64 b.task) ∧ w'.cell? ⟨g1, p * 3 + 2, none⟩ = some (.int .i64 b.n)) (go_simp) (first
        | (go_at_call 11; refine (less_any a b _).mono ?_; rintro e w1 ⟨rfl, hbw⟩; obtain ⟨X, d, rfl⟩ := below_ext hbw; clear hbw))
      rename_i hHeld
      clear hHeld
      obtain ⟨L, hL⟩ : ∃ L, L = less a b := ⟨_, rfl⟩
      rw [← hL]
      have HL := Lib.hid hL
      clear hL
      cases L
      · have hr := Lib.hid (show ys = put xs k by rw [← hu2.out]; unfold up; rw [if_neg (by omega), show (n - 1) / 2 = p from by have := Hpe.out; have := Hne.out; omega, Ha.out, Hb.out, if_neg (by rw [← HL.out]; decide)])
        clear hu2
        go_wp2_with fail
        exact bodyPost_ret (v := .tuple #[]) (by simp [results, Try.results18, go_sem]) rfl ⟨rfl, _, hr.out ▸ (HI.out.kept (Fr.of_below (ext_below _ _ _)) (Fp := fun _ => False) (fun _ _ h => h)), HN.out, HF.out.ext _ _⟩
      go_wp2_with fail
      go_region
      go_wp2_with fail
      go_roundw
      case measure =>
        simp only [intOf, Int.toNat_natCast]
        have h3 := Hne.out
        omega
      case rel =>
        have h1 := hl.out
        refine ⟨p, swap ys n p, rfl, by rw [swap_length]; omega, Lib.hid (by rw [swap_length]; exact h1), Lib.hid ?_, Lib.hid ⟨?_, HN.out, ?_⟩⟩
        · have h2 := Hpe.out
          have h3 := Hne.out
          rw [← hu2.out]
          conv => rhs; unfold up
          rw [if_neg (by omega), show (n - 1) / 2 = p by omega, Ha.out, Hb.out, if_pos HL.out.symm]
          refine (up_enough _ _ _ _ ?_ ?_)
          · omega
          · omega
        · refine IsHeap.kept (Fp := fun _ => False) ?_ (Fr.of_below (ext_below _ _ _)) (fun _ _ h => h)
          unfold swap
          rw [Ha.out, Hb.out]
          exact (HI.out.putAt h1 n b).putAt (by simpa using h1) p a
        · refine Fr.ext ?_ _ _
          refine HF.out.trans (b := wr) ?_ (G := fun k => g1 = k) ?_
          · exact ((((((Fr.refl (fun k => g1 = k) wr).setCell _ _ _ (.inl rfl)).setCell _ _ _ (.inl rfl)).setCell _ _ _ (.inl rfl)).setCell _ _ _ (.inl rfl)).setCell _ _ _ (.inl rfl)).setCell _ _ _ (.inl rfl)
          · intro j hj e
            subst e
            rcases HN.out g1 (.inr rfl) with h | h
            · exact h
            · omega
end Go.Proofs.Ytbplaiooipldlaa
