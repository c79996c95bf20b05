/-
  Zips: they do not hang on their order, nor on which two are taken first; the lesser and the greater together are the sum.
  Conditions: each theorem's own.
-/
import Derived.Test.YtpcnapmlmhhcpaaCa
import Derived.Test.YtpcnapmlmhhcpaaWr
set_option linter.unusedVariables false
set_option linter.unusedSimpArgs false
namespace Go.Proofs.Ytpcnapmlmhhcpaa
open Go.RowKit Big

/-- A word that is the canonical form of a stream. -/
def IsW (s : Nat → Int) (H L : List Int) : Prop := ∃ K P, Canon s K P ∧ H = tab s K ∧ L = tab (fun i => s (K + i)) P
theorem IsW.unique {s : Nat → Int} {H L H' L' : List Int} (a : IsW s H L) (b : IsW s H' L') : H = H' ∧ L = L' := by
  obtain ⟨K, P, c, rfl, rfl⟩ := a
  obtain ⟨K', P', c', rfl, rfl⟩ := b
  obtain ⟨rfl, rfl⟩ := c.unique c'
  exact ⟨rfl, rfl⟩
theorem IsW.num {s : Nat → Int} {H L : List Int} (a : IsW s H L) : num H L = s := by
  obtain ⟨K, P, c, rfl, rfl⟩ := a
  funext n
  exact tab_num c.pos c.per n
theorem IsW.pos {s : Nat → Int} {H L : List Int} (a : IsW s H L) : 0 < L.length := by
  obtain ⟨K, P, c, rfl, rfl⟩ := a
  rw [tab_length]; exact c.pos
theorem IsW.per {s : Nat → Int} {H L : List Int} (a : IsW s H L) : Per s H.length L.length := by
  obtain ⟨K, P, c, rfl, rfl⟩ := a
  rw [tab_length, tab_length]; exact c.per
/-- A canonical form's head and loop are no longer than any that serve. -/
theorem IsW.least {s : Nat → Int} {H L : List Int} (a : IsW s H L) {h p : Nat} (hp : 0 < p) (h1 : Per s h p) : H.length ≤ h ∧ L.length ∣ p := by
  obtain ⟨K, P, c, rfl, rfl⟩ := a
  rw [tab_length, tab_length]
  have hg := (h1.gcd (p + P) p P (Nat.le_refl _) (h1.back hp c.per))
  have hd : P ∣ p := by
    have := c.least _ _ (Nat.gcd_pos_of_pos_left _ hp) hg
    have h2 : Nat.gcd p P = P := Nat.le_antisymm (Nat.gcd_le_right _ c.pos) this
    rw [← h2]; exact Nat.gcd_dvd_left _ _
  refine ⟨?_, hd⟩
  rcases c.head with h0 | h0
  · omega
  · rcases Nat.lt_or_ge h K with hlt | hge
    · exact absurd ((h1.back hp c.per) (K - 1) (by omega)) h0
    · exact hge
theorem short_is {h l : List Int} (h0 : 0 < l.length) : IsW (Go.Proofs.Ytpcnapmlmhhcpaa.num h l) (sHead h l) (sLoop h l) := ⟨_, _, canon_of h0, sHead_tab, sLoop_tab h0⟩
theorem norm_is {h l : List Int} (hm : may h l = true) : IsW (Go.Proofs.Ytpcnapmlmhhcpaa.num h l) (nH h l) (nL h l) := by
  obtain ⟨_, e1, e2⟩ := may_norm hm
  rw [e1, e2]
  exact short_is (may_len hm).1
theorem out_is {h l : List Int} (h0 : 0 < l.length) (he : outE h l = 0) : IsW (Go.Proofs.Ytpcnapmlmhhcpaa.num h l) (outH h l) (outL h l) := by
  unfold outE at he
  split at he
  · rename_i hf
    unfold outH outL
    rw [if_pos hf, if_pos hf]
    exact short_is h0
  · cases he
theorem out_no {h l : List Int} (he : outE h l ≠ 0) : outH h l = [] ∧ outL h l = [] ∧ outE h l = 4 := by
  unfold outE at he ⊢
  unfold outH outL
  split at he
  · exact absurd rfl he
  · rename_i hf
    rw [if_neg hf, if_neg hf, if_neg hf]
    exact ⟨rfl, rfl, rfl⟩
theorem out_fits {h l : List Int} (h0 : 0 < l.length) {s : Nat → Int} {H L : List Int} (hs : Go.Proofs.Ytpcnapmlmhhcpaa.num h l = s) (w : IsW s H L) (b1 : H.length ≤ 4096) (b2 : L.length ≤ 4096) : outE h l = 0 ∧ outH h l = H ∧ outL h l = L := by
  have w2 := short_is (h := h) h0
  rw [hs] at w2
  obtain ⟨e1, e2⟩ := w2.unique w
  have hl : lp l = L.length := by rw [← e2, sLoop_length h0]
  have hf : fits h l = true := by
    unfold fits
    rw [e1, hl, decide_eq_true b1, decide_eq_true b2]; rfl
  unfold outE outH outL
  rw [if_pos hf, if_pos hf, if_pos hf]
  exact ⟨rfl, e1, e2⟩
theorem out_len {h l : List Int} (h0 : 0 < l.length) (he : outE h l = 0) : (outH h l).length ≤ 4096 ∧ (outL h l).length ≤ 4096 := by
  unfold outE at he
  split at he
  · rename_i hf
    unfold outH outL
    rw [if_pos hf, if_pos hf, sLoop_length h0]
    unfold fits at hf
    simp only [Bool.and_eq_true, decide_eq_true_eq] at hf
    exact hf
  · cases he
/-! ### zips -/
theorem mn_comm (x y : Int) : mnI x y = mnI y x := by unfold mnI; split <;> split <;> omega
theorem mx_comm (x y : Int) : mxI x y = mxI y x := by unfold mxI; split <;> split <;> omega
theorem mn_assoc (x y z : Int) : mnI (mnI x y) z = mnI x (mnI y z) := by unfold mnI; repeat' split <;> (try omega)
theorem mx_assoc (x y z : Int) : mxI (mxI x y) z = mxI x (mxI y z) := by unfold mxI; repeat' split <;> (try omega)
theorem zV_comm (op : Nat) (h2 : op ≠ 2) (x y : Int) : zV op x y = zV op y x := by
  unfold zV
  rw [if_neg h2, if_neg h2, Int.add_comm x y, mn_comm x y, mx_comm x y]
theorem zB_comm (op : Nat) (h2 : op ≠ 2) (x y : Int) : zB op x y = zB op y x := by
  unfold zB
  rw [if_neg h2, if_neg h2, Int.add_comm x y]
theorem zS_comm (op : Nat) (h2 : op ≠ 2) (H L H' L' : List Int) : zS op H L H' L' = zS op H' L' H L := by funext i; exact zV_comm op h2 _ _
theorem zOk_comm (op : Nat) (h2 : op ≠ 2) (H L H' L' : List Int) (n : Nat) : zOk op H L H' L' n = zOk op H' L' H L n := by
  unfold zOk
  congr 1
  funext i
  exact zB_comm op h2 _ _
theorem zipOut_comm (op : Nat) (h2 : op ≠ 2) (H L H' L' : List Int) : zipOut op H L H' L' = zipOut op H' L' H L := by
  have eA : zA op H L H' L' = zA op H' L' H L := by unfold zA; rw [zS_comm op h2, Nat.max_comm]
  have eC : zC op H L H' L' = zC op H' L' H L := by unfold zC; rw [zS_comm op h2, Nat.max_comm, Nat.lcm_comm]
  unfold zipOut
  rw [eA, eC, zOk_comm op h2, Nat.max_comm, Nat.lcm_comm]
/-- What Zip answers, of whatever words. -/
def zipF (op : Nat) (a b c d : List Int) : List Int × List Int × Int := if nE a b = 0 ∧ nE c d = 0 then zipOut op (nH a b) (nL a b) (nH c d) (nL c d) else ([], [], 2)
theorem zipF_of {op : Nat} {a b c d : List Int} (h : nE a b = 0 ∧ nE c d = 0) : zipF op a b c d = zipOut op (nH a b) (nL a b) (nH c d) (nL c d) := if_pos h
theorem zipF_comm (op : Nat) (h2 : op ≠ 2) (a b c d : List Int) : zipF op a b c d = zipF op c d a b := by
  unfold zipF
  rw [zipOut_comm op h2]
  by_cases h : nE a b = 0 ∧ nE c d = 0
  · rw [if_pos h, if_pos ⟨h.2, h.1⟩]
  · rw [if_neg h, if_neg (fun c => h ⟨c.2, c.1⟩)]
theorem nE_may {h l : List Int} (he : nE h l = 0) : may h l = true := by
  cases hm : may h l
  · unfold nE at he; rw [hm, if_neg (by decide)] at he; cases he
  · rfl
theorem Per.both {s t : Nat → Int} {h h' p p' : Nat} (a : Per s h p) (b : Per t h' p') (f : Int → Int → Int) : Per (fun i => f (s i) (t i)) (max h h') (Nat.lcm p p') := by
  intro i hi
  show f (s (i + Nat.lcm p p')) (t (i + Nat.lcm p p')) = f (s i) (t i)
  rw [(a.dvd (Nat.dvd_lcm_left p p')) i (by omega), (b.dvd (Nat.dvd_lcm_right p p')) i (by omega)]
theorem per_small {s : Nat → Int} {h p : Nat} (a : Per s h p) (h0 : 0 < p) (i : Nat) : ∃ j, j < h + p ∧ (i < h → j = i) ∧ (∃ k, i = j + k * p) := by
  rcases Nat.lt_or_ge i h with hlt | hge
  · exact ⟨i, by omega, fun _ => rfl, 0, by simp⟩
  · refine ⟨h + (i - h) % p, by have := Nat.mod_lt (i - h) h0; omega, fun hh => by omega, (i - h) / p, ?_⟩
    have := Nat.mod_add_div (i - h) p
    rw [Nat.mul_comm] at this
    omega
structure ZipOk (op : Nat) (s t : Nat → Int) (r : List Int × List Int × Int) : Prop where
  is : IsW (fun i => zV op (s i) (t i)) r.1 r.2.1
  ok : ∀ i, zB op (s i) (t i) = true
  hl : r.1.length ≤ 4096
  ll : r.2.1.length ≤ 4096
/-- Of words that are canonical forms: what Zip answers without an error is the canonical form of what is put together. -/
theorem zip_is {op : Nat} {s t : Nat → Int} {H L H' L' : List Int} (a : IsW s H L) (b : IsW t H' L') (he : (zipOut op H L H' L').2.2 = 0) : ZipOk op s t (zipOut op H L H' L') ∧ max H.length H'.length + Nat.lcm L.length L'.length ≤ 65536 := by
  have hp : 0 < Nat.lcm L.length L'.length := Nat.lcm_pos a.pos b.pos
  have hper := a.per.both b.per (zV op)
  have hs : zS op H L H' L' = fun i => zV op (s i) (t i) := by funext i; unfold zS; rw [a.num, b.num]
  have hc0 : 0 < (zC op H L H' L').length := by unfold zC; rw [tab_length]; exact hp
  have hn : Go.Proofs.Ytpcnapmlmhhcpaa.num (zA op H L H' L') (zC op H L H' L') = fun i => zV op (s i) (t i) := by
    funext n
    unfold zA zC
    rw [hs]
    exact tab_num hp hper n
  unfold zipOut at he ⊢
  by_cases hbig : 65536 < max H.length H'.length + Nat.lcm L.length L'.length
  · rw [if_pos hbig] at he; cases he
  rw [if_neg hbig] at he ⊢
  by_cases hok : zOk op H L H' L' (max H.length H'.length + Nat.lcm L.length L'.length) = true
  · rw [if_pos hok] at he ⊢
    have w := out_is hc0 he
    rw [hn] at w
    obtain ⟨l1, l2⟩ := out_len hc0 he
    refine ⟨⟨w, fun i => ?_, l1, l2⟩, by omega⟩
    obtain ⟨j, hj, _, k, rfl⟩ := per_small hper hp i
    unfold zOk at hok
    rw [List.all_eq_true] at hok
    have := hok j (List.mem_range.2 hj)
    rw [a.num, b.num] at this
    rcases Nat.lt_or_ge j (max H.length H'.length) with hlt | hge
    · rcases Nat.eq_zero_or_pos k with rfl | hk
      · rw [Nat.zero_mul, Nat.add_zero]; exact this
      · by_cases hjm : j + k * Nat.lcm L.length L'.length < max H.length H'.length
        · have h2 := hok (j + k * Nat.lcm L.length L'.length) (List.mem_range.2 (by omega))
          rw [a.num, b.num] at h2
          exact h2
        · obtain ⟨j2, hj2, _, k2, e2⟩ : ∃ j2, j2 < max H.length H'.length + Nat.lcm L.length L'.length ∧ max H.length H'.length ≤ j2 ∧ ∃ k2, j + k * Nat.lcm L.length L'.length = j2 + k2 * Nat.lcm L.length L'.length := by
            refine ⟨max H.length H'.length + (j + k * Nat.lcm L.length L'.length - max H.length H'.length) % Nat.lcm L.length L'.length, by have := Nat.mod_lt (j + k * Nat.lcm L.length L'.length - max H.length H'.length) hp; omega, by omega, (j + k * Nat.lcm L.length L'.length - max H.length H'.length) / Nat.lcm L.length L'.length, ?_⟩
            have := Nat.mod_add_div (j + k * Nat.lcm L.length L'.length - max H.length H'.length) (Nat.lcm L.length L'.length)
            rw [Nat.mul_comm (Nat.lcm L.length L'.length)] at this
            omega
          rw [e2]
          have h2 := hok j2 (List.mem_range.2 hj2)
          rw [a.num, b.num] at h2
          rw [((a.per.dvd (Nat.dvd_lcm_left _ L'.length)).mul k2) j2 (by omega), ((b.per.dvd (Nat.dvd_lcm_right L.length _)).mul k2) j2 (by omega)]
          exact h2
    · rw [((a.per.dvd (Nat.dvd_lcm_left _ L'.length)).mul k) j (by omega), ((b.per.dvd (Nat.dvd_lcm_right L.length _)).mul k) j (by omega)]
      exact this
  · rw [if_neg hok] at he; cases he
theorem fit_of {v : Int} (h : fitB v = true) : fitV v = v := by
  unfold fitB at h; have h := of_decide_eq_true h; unfold fitV; rw [if_pos h]
theorem may_of_is {s : Nat → Int} {H L : List Int} (w : IsW s H L) (h1 : H.length ≤ 4096) (h2 : L.length ≤ 4096) : may H L = true := by
  unfold may
  rw [decide_eq_true (Nat.succ_le_of_lt w.pos), decide_eq_true h2, decide_eq_true h1]; rfl
/-- A canonical form's short one is it. -/
theorem norm_of_is {s : Nat → Int} {H L : List Int} (w : IsW s H L) (h1 : H.length ≤ 4096) (h2 : L.length ≤ 4096) : nE H L = 0 ∧ nH H L = H ∧ nL H L = L := by
  have hm := may_of_is w h1 h2
  have w2 := norm_is hm
  rw [w.num] at w2
  obtain ⟨e1, e2⟩ := w2.unique w
  exact ⟨(may_norm hm).1, e1, e2⟩
theorem zipF_ok {op : Nat} {a b c d : List Int} (he : (zipF op a b c d).2.2 = 0) : may a b = true ∧ may c d = true ∧ ZipOk op (Go.Proofs.Ytpcnapmlmhhcpaa.num a b) (Go.Proofs.Ytpcnapmlmhhcpaa.num c d) (zipF op a b c d) ∧ zipF op a b c d = zipOut op (nH a b) (nL a b) (nH c d) (nL c d) := by
  unfold zipF at he ⊢
  by_cases h : nE a b = 0 ∧ nE c d = 0
  · rw [if_pos h] at he ⊢
    have m1 := nE_may h.1
    have m2 := nE_may h.2
    exact ⟨m1, m2, (zip_is (norm_is m1) (norm_is m2) he).1, rfl⟩
  · rw [if_neg h] at he; cases he
/-- Which two of three are taken first is one. -/
theorem zip_assoc {op : Nat} (hop : op = 1 ∨ op = 3 ∨ op = 4) {a b c d e f : List Int} (h1 : (zipF op a b c d).2.2 = 0) (h2 : (zipF op c d e f).2.2 = 0)
    (h3 : (zipF op (zipF op a b c d).1 (zipF op a b c d).2.1 e f).2.2 = 0) (h4 : (zipF op a b (zipF op c d e f).1 (zipF op c d e f).2.1).2.2 = 0) :
    (zipF op (zipF op a b c d).1 (zipF op a b c d).2.1 e f).1 = (zipF op a b (zipF op c d e f).1 (zipF op c d e f).2.1).1 ∧ (zipF op (zipF op a b c d).1 (zipF op a b c d).2.1 e f).2.1 = (zipF op a b (zipF op c d e f).1 (zipF op c d e f).2.1).2.1 := by
  obtain ⟨_, _, z1, _⟩ := zipF_ok h1
  obtain ⟨_, _, z2, _⟩ := zipF_ok h2
  obtain ⟨_, _, z3, _⟩ := zipF_ok h3
  obtain ⟨_, _, z4, _⟩ := zipF_ok h4
  have w3 := z3.is
  have w4 := z4.is
  have o3 := z3.ok
  have o4 := z4.ok
  rw [z1.is.num] at w3 o3
  rw [z2.is.num] at w4 o4
  refine w3.unique ?_
  have : (fun i => zV op (zV op (Go.Proofs.Ytpcnapmlmhhcpaa.num a b i) (Go.Proofs.Ytpcnapmlmhhcpaa.num c d i)) (Go.Proofs.Ytpcnapmlmhhcpaa.num e f i)) = fun i => zV op (Go.Proofs.Ytpcnapmlmhhcpaa.num a b i) (zV op (Go.Proofs.Ytpcnapmlmhhcpaa.num c d i) (Go.Proofs.Ytpcnapmlmhhcpaa.num e f i)) := by
    funext i
    have q1 := z1.ok i
    have q2 := z2.ok i
    have q3 := o3 i
    have q4 := o4 i
    simp only at q3 q4
    rcases hop with rfl | rfl | rfl
    · have f1 : fitV (Go.Proofs.Ytpcnapmlmhhcpaa.num a b i + Go.Proofs.Ytpcnapmlmhhcpaa.num c d i) = _ := fit_of q1
      have f2 : fitV (Go.Proofs.Ytpcnapmlmhhcpaa.num c d i + Go.Proofs.Ytpcnapmlmhhcpaa.num e f i) = _ := fit_of q2
      show fitV (fitV (Go.Proofs.Ytpcnapmlmhhcpaa.num a b i + Go.Proofs.Ytpcnapmlmhhcpaa.num c d i) + Go.Proofs.Ytpcnapmlmhhcpaa.num e f i) = fitV (Go.Proofs.Ytpcnapmlmhhcpaa.num a b i + fitV (Go.Proofs.Ytpcnapmlmhhcpaa.num c d i + Go.Proofs.Ytpcnapmlmhhcpaa.num e f i))
      rw [f1, f2, Int.add_assoc]
    · exact mn_assoc _ _ _
    · exact mx_assoc _ _ _
  rw [this]
  exact w4
/-- The lesser and the greater together are the sum. -/
theorem zip_sum {a b c d : List Int} (h1 : (zipF 3 a b c d).2.2 = 0) (h2 : (zipF 4 a b c d).2.2 = 0) (h3 : (zipF 1 a b c d).2.2 = 0) :
    zipF 1 (zipF 3 a b c d).1 (zipF 3 a b c d).2.1 (zipF 4 a b c d).1 (zipF 4 a b c d).2.1 = zipF 1 a b c d := by
  obtain ⟨m1, m2, z1, e1⟩ := zipF_ok h1
  obtain ⟨_, _, z2, e2⟩ := zipF_ok h2
  obtain ⟨_, _, z3, e3⟩ := zipF_ok h3
  have n1 := norm_of_is z1.is z1.hl z1.ll
  have n2 := norm_of_is z2.is z2.hl z2.ll
  have wa := norm_is m1
  have wb := norm_is m2
  obtain ⟨_, hb⟩ := zip_is wa wb (by rw [← e3]; exact h3)
  have p1 := z1.is.least (Nat.lcm_pos wa.pos wb.pos) (wa.per.both wb.per (zV 3))
  have p2 := z2.is.least (Nat.lcm_pos wa.pos wb.pos) (wa.per.both wb.per (zV 4))
  have hs : (fun i => zV 1 (zV 3 (Go.Proofs.Ytpcnapmlmhhcpaa.num a b i) (Go.Proofs.Ytpcnapmlmhhcpaa.num c d i)) (zV 4 (Go.Proofs.Ytpcnapmlmhhcpaa.num a b i) (Go.Proofs.Ytpcnapmlmhhcpaa.num c d i))) = fun i => zV 1 (Go.Proofs.Ytpcnapmlmhhcpaa.num a b i) (Go.Proofs.Ytpcnapmlmhhcpaa.num c d i) := by
    funext i
    show fitV (mnI _ _ + mxI _ _) = fitV (_ + _)
    congr 1
    unfold mnI mxI
    split <;> split <;> omega
  have hb1 : ∀ i, zB 1 (zV 3 (Go.Proofs.Ytpcnapmlmhhcpaa.num a b i) (Go.Proofs.Ytpcnapmlmhhcpaa.num c d i)) (zV 4 (Go.Proofs.Ytpcnapmlmhhcpaa.num a b i) (Go.Proofs.Ytpcnapmlmhhcpaa.num c d i)) = true := by
    intro i
    have := z3.ok i
    have e : mnI (Go.Proofs.Ytpcnapmlmhhcpaa.num a b i) (Go.Proofs.Ytpcnapmlmhhcpaa.num c d i) + mxI (Go.Proofs.Ytpcnapmlmhhcpaa.num a b i) (Go.Proofs.Ytpcnapmlmhhcpaa.num c d i) = Go.Proofs.Ytpcnapmlmhhcpaa.num a b i + Go.Proofs.Ytpcnapmlmhhcpaa.num c d i := by
      unfold mnI mxI
      split <;> split <;> omega
    show fitB (mnI _ _ + mxI _ _) = true
    rw [e]
    exact this
  have hdv : Nat.lcm (zipF 3 a b c d).2.1.length (zipF 4 a b c d).2.1.length ≤ Nat.lcm (nL a b).length (nL c d).length := Nat.le_of_dvd (Nat.lcm_pos wa.pos wb.pos) (Nat.lcm_dvd p1.2 p2.2)
  have hle : ¬ 65536 < max (zipF 3 a b c d).1.length (zipF 4 a b c d).1.length + Nat.lcm (zipF 3 a b c d).2.1.length (zipF 4 a b c d).2.1.length := by omega
  have w3 := z3.is
  have key : zipF 1 (zipF 3 a b c d).1 (zipF 3 a b c d).2.1 (zipF 4 a b c d).1 (zipF 4 a b c d).2.1 = (outH (zA 1 (zipF 3 a b c d).1 (zipF 3 a b c d).2.1 (zipF 4 a b c d).1 (zipF 4 a b c d).2.1) (zC 1 (zipF 3 a b c d).1 (zipF 3 a b c d).2.1 (zipF 4 a b c d).1 (zipF 4 a b c d).2.1), outL (zA 1 (zipF 3 a b c d).1 (zipF 3 a b c d).2.1 (zipF 4 a b c d).1 (zipF 4 a b c d).2.1) (zC 1 (zipF 3 a b c d).1 (zipF 3 a b c d).2.1 (zipF 4 a b c d).1 (zipF 4 a b c d).2.1), outE (zA 1 (zipF 3 a b c d).1 (zipF 3 a b c d).2.1 (zipF 4 a b c d).1 (zipF 4 a b c d).2.1) (zC 1 (zipF 3 a b c d).1 (zipF 3 a b c d).2.1 (zipF 4 a b c d).1 (zipF 4 a b c d).2.1)) := by
    rw [zipF_of (op := 1) ⟨n1.1, n2.1⟩, n1.2.1, n1.2.2, n2.2.1, n2.2.2]
    unfold zipOut
    rw [if_neg hle, if_pos (zOk_of (fun i _ => by rw [z1.is.num, z2.is.num]; exact hb1 i))]
  have hp : 0 < Nat.lcm (zipF 3 a b c d).2.1.length (zipF 4 a b c d).2.1.length := Nat.lcm_pos z1.is.pos z2.is.pos
  have hn : Go.Proofs.Ytpcnapmlmhhcpaa.num (zA 1 (zipF 3 a b c d).1 (zipF 3 a b c d).2.1 (zipF 4 a b c d).1 (zipF 4 a b c d).2.1) (zC 1 (zipF 3 a b c d).1 (zipF 3 a b c d).2.1 (zipF 4 a b c d).1 (zipF 4 a b c d).2.1) = fun i => zV 1 (Go.Proofs.Ytpcnapmlmhhcpaa.num a b i) (Go.Proofs.Ytpcnapmlmhhcpaa.num c d i) := by
    rw [← hs]
    funext n
    have hper := z1.is.per.both z2.is.per (zV 1)
    unfold zA zC
    have e : zS 1 (zipF 3 a b c d).1 (zipF 3 a b c d).2.1 (zipF 4 a b c d).1 (zipF 4 a b c d).2.1 = fun i => zV 1 (zV 3 (Go.Proofs.Ytpcnapmlmhhcpaa.num a b i) (Go.Proofs.Ytpcnapmlmhhcpaa.num c d i)) (zV 4 (Go.Proofs.Ytpcnapmlmhhcpaa.num a b i) (Go.Proofs.Ytpcnapmlmhhcpaa.num c d i)) := by
      funext i; unfold zS; rw [z1.is.num, z2.is.num]
    rw [e]
    exact tab_num hp hper n
  obtain ⟨g1, g2, g3⟩ := out_fits (by unfold zC; rw [tab_length]; exact hp) hn w3 z3.hl z3.ll
  rw [key, g1, g2, g3, ← h3]
end Go.Proofs.Ytpcnapmlmhhcpaa
