/-
  What Drop, Cons, Up and Down make: the canonical forms of their streams.
  Conditions: each theorem's own.
-/
import Derived.Test.YtpcnapmlmhhcpaaCb
import Derived.Test.YtpcnapmlmhhcpaaWu
import Derived.Test.YtpcnapmlmhhcpaaWq
set_option linter.unusedVariables false
set_option linter.unusedSimpArgs false
namespace Go.Proofs.Ytpcnapmlmhhcpaa
open Go.RowKit Big

theorem out_small {h l : List Int} (h0 : 0 < l.length) (hh : h.length ≤ 4096) (hl : l.length ≤ 4096) : outE h l = 0 ∧ IsW (Go.Proofs.Ytpcnapmlmhhcpaa.num h l) (outH h l) (outL h l) ∧ (outH h l).length ≤ h.length ∧ (outL h l).length ≤ l.length := by
  have hf : fits h l = true := may_fits (by unfold may; rw [decide_eq_true (Nat.succ_le_of_lt h0), decide_eq_true hl, decide_eq_true hh]; rfl)
  have he : outE h l = 0 := by unfold outE; rw [if_pos hf]
  refine ⟨he, out_is h0 he, ?_, ?_⟩
  · unfold outH; rw [if_pos hf]; unfold sHead; rw [List.length_take]; omega
  · unfold outL; rw [if_pos hf, sLoop_length h0]; exact lp_le l
/-- What a word told from a table is: the canonical form of its stream. -/
structure Made (s : Nat → Int) (r : List Int × List Int × Int) : Prop where
  e : r.2.2 = 0
  is : IsW s r.1 r.2.1
  hl : r.1.length ≤ 4096
  ll : r.2.1.length ≤ 4096
def outT (h l : List Int) : List Int × List Int × Int := (outH h l, outL h l, outE h l)
theorem made_of {s : Nat → Int} {h p : Nat} (hp : 0 < p) (hh : h ≤ 4096) (hl : p ≤ 4096) (per : Per s h p) : Made s (outT (tab s h) (tab (fun i => s (h + i)) p)) := by
  obtain ⟨e, w, l1, l2⟩ := out_small (h := tab s h) (l := tab (fun i => s (h + i)) p) (by rw [tab_length]; exact hp) (by rw [tab_length]; exact hh) (by rw [tab_length]; exact hl)
  rw [tab_length] at l1 l2
  have hn : Go.Proofs.Ytpcnapmlmhhcpaa.num (tab s h) (tab (fun i => s (h + i)) p) = s := by funext n; exact tab_num hp per n
  rw [hn] at w
  exact ⟨e, w, Nat.le_trans l1 hh, Nat.le_trans l2 hl⟩
theorem num_per' {h l : List Int} : Per (Go.Proofs.Ytpcnapmlmhhcpaa.num h l) h.length l.length := num_per
def dropT (h l : List Int) (k : Nat) : List Int × List Int × Int := outT (tab (fun i => Go.Proofs.Ytpcnapmlmhhcpaa.num h l (i + dropK h.length l.length k)) (h.length - dropK h.length l.length k)) (tab (fun i => Go.Proofs.Ytpcnapmlmhhcpaa.num h l (h.length - dropK h.length l.length k + i + dropK h.length l.length k)) l.length)
theorem drop_made {h l : List Int} (hm : may h l = true) (k : Nat) : Made (fun i => Go.Proofs.Ytpcnapmlmhhcpaa.num h l (i + k)) (dropT h l k) := by
  obtain ⟨m1, m2, m3⟩ := may_len hm
  have hs : (fun i => Go.Proofs.Ytpcnapmlmhhcpaa.num h l (i + dropK h.length l.length k)) = fun i => Go.Proofs.Ytpcnapmlmhhcpaa.num h l (i + k) := by
    funext i
    unfold dropK
    split
    · rename_i hlt
      have hmod := Nat.mod_add_div (k - h.length) l.length
      have := Per.mul (num_per' (h := h) (l := l)) ((k - h.length) / l.length) (i + (h.length + (k - h.length) % l.length)) (by omega)
      rw [← this]
      congr 1
      rw [Nat.mul_comm]
      omega
    · rfl
  have per : Per (fun i => Go.Proofs.Ytpcnapmlmhhcpaa.num h l (i + dropK h.length l.length k)) (h.length - dropK h.length l.length k) l.length := by
    intro i hi
    have := num_per' (h := h) (l := l) (i + dropK h.length l.length k) (by omega)
    show Go.Proofs.Ytpcnapmlmhhcpaa.num h l (i + l.length + dropK h.length l.length k) = Go.Proofs.Ytpcnapmlmhhcpaa.num h l (i + dropK h.length l.length k)
    rw [← this]
    congr 1
    omega
  obtain ⟨e, w, l1, l2⟩ := made_of m1 (by omega) m2 per
  exact ⟨e, Eq.mp (congrArg (fun s => IsW s _ _) hs) w, l1, l2⟩
theorem num_cons (v : Int) (h l : List Int) (i : Nat) : Go.Proofs.Ytpcnapmlmhhcpaa.num (v :: h) l i = if i = 0 then v else Go.Proofs.Ytpcnapmlmhhcpaa.num h l (i - 1) := by
  unfold Go.Proofs.Ytpcnapmlmhhcpaa.num
  cases i with
  | zero => simp [at_]
  | succ i =>
    rw [if_neg (by omega : ¬ i + 1 = 0), Nat.add_sub_cancel]
    by_cases hi : i < h.length
    · rw [if_pos (by simp; omega), if_pos hi]; simp [at_]
    · rw [if_neg (by simp; omega), if_neg hi, List.length_cons, show i + 1 - (h.length + 1) = i - h.length by omega]
theorem cons_made {h l : List Int} (v : Int) (hm : may h l = true) (hh : h.length < 4096) : Made (fun i => if i = 0 then v else Go.Proofs.Ytpcnapmlmhhcpaa.num h l (i - 1)) (outT (v :: h) l) := by
  obtain ⟨m1, m2, m3⟩ := may_len hm
  obtain ⟨e, w, l1, l2⟩ := out_small (h := v :: h) (l := l) m1 (by simp; omega) m2
  rw [show Go.Proofs.Ytpcnapmlmhhcpaa.num (v :: h) l = fun i => if i = 0 then v else Go.Proofs.Ytpcnapmlmhhcpaa.num h l (i - 1) by funext i; exact num_cons v h l i] at w
  simp at l1
  exact ⟨e, w, by show (outH (v :: h) l).length ≤ 4096; omega, by show (outL (v :: h) l).length ≤ 4096; omega⟩
def downT (h l : List Int) (k : Nat) : List Int × List Int × Int := outT (tab (fun i => Go.Proofs.Ytpcnapmlmhhcpaa.num h l (i * k)) ((h.length + k - 1) / k)) (tab (fun i => Go.Proofs.Ytpcnapmlmhhcpaa.num h l (((h.length + k - 1) / k + i) * k)) l.length)
theorem down_made {h l : List Int} (hm : may h l = true) {k : Nat} (hk : 0 < k) : Made (fun i => Go.Proofs.Ytpcnapmlmhhcpaa.num h l (i * k)) (downT h l k) := by
  obtain ⟨m1, m2, m3⟩ := may_len hm
  have hq : (h.length + k - 1) / k ≤ h.length := by
    apply Nat.le_of_lt_succ
    rw [Nat.div_lt_iff_lt_mul hk]
    have := Nat.le_mul_of_pos_right h.length hk
    rw [Nat.succ_mul]
    omega
  have per : Per (fun i => Go.Proofs.Ytpcnapmlmhhcpaa.num h l (i * k)) ((h.length + k - 1) / k) l.length := by
    intro i hi
    have hge : h.length ≤ i * k := by
      have h1 : (h.length + k - 1) / k < i + 1 := by omega
      rw [Nat.div_lt_iff_lt_mul hk, Nat.succ_mul] at h1
      omega
    show Go.Proofs.Ytpcnapmlmhhcpaa.num h l ((i + l.length) * k) = Go.Proofs.Ytpcnapmlmhhcpaa.num h l (i * k)
    rw [Nat.add_mul, Nat.mul_comm l.length k]
    exact num_per'.mul k (i * k) hge
  exact made_of (s := fun i => Go.Proofs.Ytpcnapmlmhhcpaa.num h l (i * k)) m1 (by omega) m2 per
theorem up_made {s : Nat → Int} {H L : List Int} (w : IsW s H L) (h1 : H.length ≤ 4096) (h2 : L.length ≤ 4096) {k : Nat} (hk : 0 < k) : Made (fun i => s (i / k)) (upOut H L k) ∨ upOut H L k = ([], [], 4) := by
  unfold upOut
  by_cases hone : H.length = 0 ∧ L.length = 1
  · rw [if_pos hone]
    refine .inl ⟨rfl, ?_, h1, h2⟩
    have hper := w.per
    rw [hone.1, hone.2] at hper
    have hc : ∀ i, s i = s 0 := by
      intro i
      have := hper.mul i 0 (Nat.le_refl _)
      rw [Nat.mul_one, Nat.zero_add] at this
      exact this
    have : (fun i => s (i / k)) = s := by funext i; rw [hc i, hc (i / k)]
    rw [this]
    exact w
  · rw [if_neg hone]
    by_cases hbig : 4096 < k ∨ 4096 < H.length * k ∨ (1 < L.length ∧ 4096 < L.length * k)
    · rw [if_pos hbig]; exact .inr rfl
    · rw [if_neg hbig]
      have hp := w.pos
      have per : Per (fun i => s (i / k)) (H.length * k) (L.length * k) := by
        intro i hi
        show s ((i + L.length * k) / k) = s (i / k)
        rw [Nat.add_mul_div_right _ _ hk]
        exact w.per (i / k) ((Nat.le_div_iff_mul_le hk).2 hi)
      have hl : L.length * k ≤ 4096 := by
        by_cases h1 : 1 < L.length
        · omega
        · have : L.length = 1 := by omega
          rw [this]; omega
      have := made_of (s := fun i => s (i / k)) (Nat.mul_pos hp hk) (by omega) hl per
      rw [← w.num] at this
      rw [← w.num]
      exact .inl this
theorem same_is {a b c d : List Int} (hm : may a b = true) (w : IsW (Go.Proofs.Ytpcnapmlmhhcpaa.num a b) c d) (h1 : c.length ≤ 4096) (h2 : d.length ≤ 4096) : same c d a b = true := by
  obtain ⟨e1, e2, e3⟩ := norm_of_is w h1 h2
  obtain ⟨f1, f2⟩ := w.unique (norm_is hm)
  unfold same
  rw [e1, e2, e3, (may_norm hm).1, decide_eq_true rfl, decide_eq_true f1, decide_eq_true f2]
  rfl
end Go.Proofs.Ytpcnapmlmhhcpaa
