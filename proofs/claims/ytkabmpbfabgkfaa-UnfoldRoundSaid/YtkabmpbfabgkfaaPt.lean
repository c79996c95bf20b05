/-
  tasks.mayTask, clock, mayRead, May: what they answer.
  Conditions: none.
-/
import Derived.Test.YtkabmpbfabgkfaaPx7
set_option linter.unusedVariables false
set_option linter.unusedSimpArgs false
namespace Go.Proofs.Ytkabmpbfabgkfaa
open Go.RowKit 
open Go.Proofs.Ytkabmpbfabgkfaa.P Go.Proofs.YtkabmpbfabgkfaaW.PrintWords Go.Proofs.YtkabmpbfabgkfaaW.PrintLast Go.Proofs.YtkabmpbfabgkfaaW.PrintMore
/-- The numbers of a source, a dep, a read, a task are int64s. -/
def inSrc (s : S79) : Bool := in64 s.f1 && in64 s.f2
def inDep (d : S67) : Bool := d.f0.all inSrc && (d.f1.all inSrc && in64 d.f2)
def inRead (r : S69) : Bool := in64 r.f1 && (in64 r.f2 && inDep r.f3)
def inTask (t : S44) : Bool := (in64 t.f0.f0 && in64 t.f0.f1) && (in64 t.f1 && (in64 t.f2 && (in64 t.f3 && (in64 t.f5 && t.f4.all inRead))))
/-- May a task be, but for what it reads? -/
def mayT (t : S44) : Bool := mayC t.f0.f0 t.f0.f1 && (decide (1 ≤ t.f1) && (decide (t.f1 ≤ t.f0.f0) && (decide (1 ≤ t.f4.length) && (decide (t.f4.length ≤ 32) &&
  (if t.f3 = -1 then decide (0 ≤ t.f2) && (decide (1 ≤ t.f5) && decide (t.f5 ≤ 32)) else decide (t.f2 = -1) && (decide (0 ≤ t.f3) && (decide (t.f5 = 0) && decide (t.f4.length = 1))))))))
theorem wrap_small {i : Int} (h0 : -9223372036854775808 ≤ i) (h1 : i ≤ 9223372036854775807) : wrap64 i = i := by unfold wrap64; omega
theorem mayTask_f (t : S44) (h : ok44 t = true) (k : Nat) : tasks_mayTask.f (k + 1) t.f0.f0 t.f0.f1 t.f1 t.f2 t.f3 t.f4 t.f5 = some (mayT t) := by
  unfold ok44 at h
  rw [Bool.and_eq_true] at h
  unfold tasks_mayTask.f tasks_mayClock.f mayT
  rw [if_pos h]
  simp only [Option.bind_some, tasks_mayTask.j0]
  cases hc : mayC t.f0.f0 t.f0.f1 with
  | false => simp
  | true =>
    simp only [if_true, Bool.true_and]
    by_cases h1 : t.f1 < 1
    · rw [if_pos h1, decide_eq_false (show ¬ 1 ≤ t.f1 by omega)]; simp
    rw [if_neg h1, decide_eq_true (show 1 ≤ t.f1 by omega)]
    by_cases h2 : t.f1 > t.f0.f0
    · rw [if_pos h2, decide_eq_false (show ¬ t.f1 ≤ t.f0.f0 by omega)]; simp
    rw [if_neg h2, decide_eq_true (show t.f1 ≤ t.f0.f0 by omega)]
    by_cases h3 : (t.f4.length : Int) < 1
    · rw [if_pos h3, decide_eq_false (show ¬ 1 ≤ t.f4.length by omega)]; simp
    rw [if_neg h3, decide_eq_true (show 1 ≤ t.f4.length by omega)]
    by_cases h4 : (t.f4.length : Int) > 32
    · rw [decide_eq_true h4, decide_eq_false (show ¬ t.f4.length ≤ 32 by omega)]; simp
    rw [decide_eq_false h4, decide_eq_true (show t.f4.length ≤ 32 by omega)]
    simp only [Bool.true_and, Bool.false_eq_true, if_false]
    by_cases h5 : t.f3 = -1
    · rw [if_pos h5, if_pos h5]
      by_cases h6 : t.f2 ≥ 0
      · rw [if_pos h6, decide_eq_true (show 0 ≤ t.f2 from h6)]
        by_cases h7 : t.f5 ≥ 1
        · rw [if_pos h7, decide_eq_true (show 1 ≤ t.f5 from h7)]; rfl
        · rw [if_neg h7, decide_eq_false (show ¬ 1 ≤ t.f5 from h7)]; rfl
      · rw [if_neg h6, decide_eq_false (show ¬ 0 ≤ t.f2 from h6)]; rfl
    · rw [if_neg h5, if_neg h5]
      by_cases h6 : t.f2 = -1
      · rw [if_pos h6, decide_eq_true h6]
        by_cases h7 : t.f3 ≥ 0
        · rw [if_pos h7, decide_eq_true (show 0 ≤ t.f3 from h7)]
          by_cases h8 : t.f5 = 0
          · rw [if_pos h8, decide_eq_true h8]
            simp only [Bool.true_and, Option.some.injEq]
            rw [Bool.eq_iff_iff]
            simp
            omega
          · rw [if_neg h8, decide_eq_false h8]; rfl
        · rw [if_neg h7, decide_eq_false (show ¬ 0 ≤ t.f3 from h7)]; rfl
      · rw [if_neg h6, decide_eq_false h6]; rfl
/-- Of whom a read reads: the clock, and whether there is one. -/
def mayCk (r : S69) (l : List S44) (ins : List S25) : Int × Int × Bool :=
  if r.f0 = 1 ∧ 0 ≤ r.f1 ∧ r.f1 < ins.length ∧ r.f2 = 0 then ((rd_T25 ins r.f1).f0, (rd_T25 ins r.f1).f1, true)
  else if r.f0 = 2 ∧ 0 ≤ r.f1 ∧ r.f1 < l.length ∧ 0 ≤ r.f2 ∧ r.f2 < (rd_T44 l r.f1).f5 then ((rd_T44 l r.f1).f0.f0, (rd_T44 l r.f1).f0.f1, true)
  else (0, 0, false)
theorem clock_f (r : S69) (l : List S44) (ins : List S25) (k : Nat) : tasks_clock.f (k + 2) r.f0 r.f1 r.f2 r.f3.f0 r.f3.f1 r.f3.f2 l ins = some (mayCk r l ins) := by
  have hj1 : ∀ b : Bool, (b = true → 0 ≤ r.f1 ∧ r.f1 < l.length) → tasks_clock.j1 (k + 1) l b r.f0 r.f1 r.f2 r.f3.f0 r.f3.f1 r.f3.f2 = some (if b = true then ((rd_T44 l r.f1).f0.f0, (rd_T44 l r.f1).f0.f1, true) else (0, 0, false)) := by
    intro b hb
    cases b with
    | false => simp [tasks_clock.j1]
    | true => simp only [tasks_clock.j1, if_true]; rw [if_pos (hb rfl).1, if_pos (hb rfl).2]
  have hj0 : ∀ b : Bool, (b = true → 0 ≤ r.f1 ∧ r.f1 < ins.length) → tasks_clock.j0 (k + 2) l ins b r.f0 r.f1 r.f2 r.f3.f0 r.f3.f1 r.f3.f2 = some (if b = true then ((rd_T25 ins r.f1).f0, (rd_T25 ins r.f1).f1, true) else if r.f0 = 2 ∧ 0 ≤ r.f1 ∧ r.f1 < l.length ∧ 0 ≤ r.f2 ∧ r.f2 < (rd_T44 l r.f1).f5 then ((rd_T44 l r.f1).f0.f0, (rd_T44 l r.f1).f0.f1, true) else (0, 0, false)) := by
    intro b hb
    cases b with
    | true => simp only [tasks_clock.j0, if_true]; rw [if_pos (hb rfl).1, if_pos (hb rfl).2]
    | false =>
      simp only [tasks_clock.j0, Bool.false_eq_true, if_false]
      by_cases h1 : r.f0 = 2
      · rw [if_pos h1]
        by_cases h2 : r.f1 ≥ 0
        · rw [if_pos h2]
          by_cases h3 : r.f1 < l.length
          · rw [if_pos h3]
            by_cases h4 : r.f2 ≥ 0
            · rw [if_pos h4, if_pos (show 0 ≤ r.f1 from h2), hj1 _ (fun _ => ⟨h2, h3⟩)]
              by_cases h5 : r.f2 < (rd_T44 l r.f1).f5
              · rw [decide_eq_true h5, if_pos rfl, if_pos ⟨h1, h2, h3, h4, h5⟩]
              · rw [decide_eq_false h5, if_neg (by decide), if_neg (fun h => h5 h.2.2.2.2)]
            · rw [if_neg h4, hj1 false (fun h => by cases h), if_neg (by decide), if_neg (fun h => h4 h.2.2.2.1)]
          · rw [if_neg h3, hj1 false (fun h => by cases h), if_neg (by decide), if_neg (fun h => h3 h.2.2.1)]
        · rw [if_neg h2, hj1 false (fun h => by cases h), if_neg (by decide), if_neg (fun h => h2 h.2.1)]
      · rw [if_neg h1, hj1 false (fun h => by cases h), if_neg (by decide), if_neg (fun h => h1 h.1)]
  unfold tasks_clock.f mayCk
  by_cases h1 : r.f0 = 1
  · rw [if_pos h1]
    by_cases h2 : r.f1 ≥ 0
    · rw [if_pos h2]
      by_cases h3 : r.f1 < ins.length
      · rw [if_pos h3, hj0 _ (fun _ => ⟨h2, h3⟩)]
        by_cases h4 : r.f2 = 0
        · rw [show (r.f2 == 0) = true from beq_iff_eq.2 h4, if_pos rfl, if_pos ⟨h1, h2, h3, h4⟩]
        · rw [show (r.f2 == 0) = false from beq_false_of_ne h4, if_neg (show ¬ (r.f0 = 1 ∧ 0 ≤ r.f1 ∧ r.f1 < ins.length ∧ r.f2 = 0) from fun h => h4 h.2.2.2), if_neg (show ¬ (false = true) by decide)]
      · rw [if_neg h3, hj0 false (fun h => by cases h), if_neg (show ¬ (r.f0 = 1 ∧ 0 ≤ r.f1 ∧ r.f1 < ins.length ∧ r.f2 = 0) from fun h => h3 h.2.2.1), if_neg (show ¬ (false = true) by decide)]
    · rw [if_neg h2, hj0 false (fun h => by cases h), if_neg (show ¬ (r.f0 = 1 ∧ 0 ≤ r.f1 ∧ r.f1 < ins.length ∧ r.f2 = 0) from fun h => h2 h.2.1), if_neg (show ¬ (false = true) by decide)]
  · rw [if_neg h1, hj0 false (fun h => by cases h), if_neg (show ¬ (r.f0 = 1 ∧ 0 ≤ r.f1 ∧ r.f1 < ins.length ∧ r.f2 = 0) from fun h => h1 h.1), if_neg (show ¬ (false = true) by decide)]
/-- Is the m-th value read there at its date? -/
def okAt (h l : List S79) (st p s q t : Int) (m : Nat) : Bool := (atD h l st m).1 || (dateB q t (atD h l st m).2.2.1 && decide (dateV q t (atD h l st m).2.2.1 ≤ dateV p s m))
def mayR (h l : List S79) (st p s q t : Int) : Bool := mayD h l st && (decide (1 ≤ st) && (fitB (p * l.length) && (fitB (q * st) && (decide (p * l.length = q * st) && (List.range (h.length + l.length)).all (okAt h l st p s q t)))))
theorem fitV_of {x : Int} (h : fitB x = true) : fitV x = x := by unfold fitB at h; unfold fitV; rw [if_pos (of_decide_eq_true h)]
theorem rd79_in {h : List S79} (hh : h.all inSrc = true) (i : Int) (d : inSrc (rd_T79 h i) = true → True) : inSrc (rd_T79 h i) = true := by
  unfold rd_T79
  rw [List.getD_eq_getElem?_getD]
  cases hg : h[i.toNat]? with
  | none => decide
  | some x => exact List.all_eq_true.1 hh x (List.mem_of_getElem? hg)
theorem atD_in {h l : List S79} (hh : h.all inSrc = true) (hl : l.all inSrc = true) (st n : Int) : in64 (atD h l st n).2.1 = true ∧ in64 (atD h l st n).2.2.1 = true := by
  have a := rd79_in hh n (fun _ => trivial)
  have b := rd79_in hl ((n - h.length) % l.length) (fun _ => trivial)
  unfold inSrc at a b
  rw [Bool.and_eq_true] at a b
  unfold atD
  split
  · split
    · exact a
    · split
      · rename_i hf
        exact ⟨b.1, by have h2 := hf.2; unfold fitB at h2; exact in64_iff.2 (of_decide_eq_true h2)⟩
      · exact ⟨rfl, rfl⟩
  · exact ⟨rfl, rfl⟩
theorem mayD_len {h l : List S79} {st : Int} (hd : mayD h l st = true) : 1 ≤ l.length ∧ l.length ≤ 4096 ∧ h.length ≤ 4096 ∧ 0 ≤ st ∧ st ≤ 1099511627776 := by
  unfold mayD at hd
  simp only [Bool.and_eq_true, decide_eq_true_eq] at hd
  exact ⟨hd.1, hd.2.1, hd.2.2.1, hd.2.2.2.1, hd.2.2.2.2.1⟩
theorem mayRead_l0 (h l : List S79) (st p s q t : Int) (hh : h.all inSrc = true) (hl : l.all inSrc = true) (hp : in64 p = true) (hs : in64 s = true) (hq : in64 q = true) (ht : in64 t = true) (hn : h.length + l.length ≤ 8192) :
    ∀ (n i : Nat), i + n = h.length + l.length → Ev (fun k => tasks_mayRead.l0 k ((h.length : Int) + l.length) i h l st p s q t) ((List.range' i n).all (okAt h l st p s q t))
  | 0, i, hi => ⟨1, fun k hk => by
      obtain ⟨m, rfl⟩ : ∃ m, k = m + 1 := ⟨k - 1, by omega⟩
      simp only [tasks_mayRead.l0]
      rw [if_neg (by omega)]; rfl⟩
  | n + 1, i, hi => by
      obtain ⟨K, hK⟩ := mayRead_l0 h l st p s q t hh hl hp hs hq ht hn n (i + 1) (by omega)
      refine ⟨K + 2, fun k hk => ?_⟩
      obtain ⟨m, rfl⟩ : ∃ m, k = m + 2 := ⟨k - 2, by omega⟩
      replace hK := hK m (by omega)
      dsimp only at hK
      have hi64 : in64 (i : Int) = true := in64_iff.2 (by omega)
      simp only [tasks_mayRead.l0]
      rw [if_pos (by omega)]
      unfold deps_At.f clocks_Date.f
      rw [if_pos (by omega)]
      simp only [Option.bind_some]
      rw [if_pos ⟨hq, ht, (atD_in hh hl st i).2⟩, if_pos ⟨hp, hs, hi64⟩]
      simp only [Option.bind_some]
      have hw : wrap64 ((i : Int) + 1) = ((i + 1 : Nat) : Int) := by rw [wrap_small (by omega) (by omega)]; omega
      have hj : ∀ b : Bool, tasks_mayRead.j3 (m + 1) ((h.length : Int) + l.length) i b h l st p s q t = some (!b && (List.range' (i + 1) n).all (okAt h l st p s q t)) := by
        intro b
        cases b with
        | true => simp [tasks_mayRead.j3]
        | false => simp only [tasks_mayRead.j3, Bool.false_eq_true, if_false]; rw [hw, hK]; simp
      rw [hj, hj, hj, List.range'_succ, List.all_cons]
      unfold okAt
      cases hA : (atD h l st i).1 with
      | true => simp
      | false =>
        simp only [Bool.false_eq_true, if_false, Bool.false_or]
        cases hB : dateB q t (atD h l st i).2.2.1 with
        | false => simp
        | true =>
          simp only [if_true, Bool.true_and, Option.some.injEq]
          congr 1
          rw [Bool.eq_iff_iff]
          simp
theorem mayRead_f (h l : List S79) (st p s q t : Int) (hh : h.all inSrc = true) (hl : l.all inSrc = true) (hst : in64 st = true) (hp : in64 p = true) (hs : in64 s = true) (hq : in64 q = true) (ht : in64 t = true) : Ev (fun k => tasks_mayRead.f k h l st p s q t) (mayR h l st p s q t) := by
  by_cases hd : mayD h l st = true
  · have hlen := mayD_len hd
    obtain ⟨K, hK⟩ := mayRead_l0 h l st p s q t hh hl hp hs hq ht (by omega) (h.length + l.length) 0 (by omega)
    refine ⟨K + 2, fun k hk => ?_⟩
    obtain ⟨m, rfl⟩ : ∃ m, k = m + 2 := ⟨k - 2, by omega⟩
    have hK : tasks_mayRead.l0 m ((h.length : Int) + l.length) 0 h l st p s q t = _ := hK m (by omega)
    unfold tasks_mayRead.f deps_May.f mayR
    simp only [Option.bind_some]
    rw [hd, if_pos rfl, Bool.true_and]
    by_cases h1 : st < 1
    · rw [decide_eq_true h1, decide_eq_false (show ¬ 1 ≤ st by omega)]; simp [tasks_mayRead.j0]
    rw [decide_eq_false h1, decide_eq_true (show 1 ≤ st by omega), Bool.true_and]
    simp only [tasks_mayRead.j0, Bool.false_eq_true, if_false]
    unfold num_Mul.f
    rw [if_pos ⟨hp, in64_iff.2 (by omega)⟩, if_pos ⟨hq, hst⟩]
    simp only [Option.bind_some]
    have hj : ∀ b : Bool, tasks_mayRead.j1 (m + 1) b h l st p s q t = some (!b && (List.range (h.length + l.length)).all (okAt h l st p s q t)) := by
      intro b
      cases b with
      | true => simp [tasks_mayRead.j1]
      | false =>
        simp only [tasks_mayRead.j1, Bool.false_eq_true, if_false]
        rw [wrap_small (by omega) (by omega), hK, List.range_eq_range']
        simp
    rw [hj, hj]
    cases hA : fitB (p * l.length) with
    | false => simp
    | true =>
      cases hB : fitB (q * st) with
      | false => simp
      | true =>
        rw [fitV_of hA, fitV_of hB]
        simp only [if_true, Bool.true_and, Option.some.injEq]
        congr 1
        rw [Bool.eq_iff_iff]
        simp
  · have hd : mayD h l st = false := by simpa using hd
    refine ⟨1, fun k hk => ?_⟩
    obtain ⟨m, rfl⟩ : ∃ m, k = m + 1 := ⟨k - 1, by omega⟩
    unfold tasks_mayRead.f deps_May.f mayR
    simp only [Option.bind_some]
    rw [hd]
    simp [tasks_mayRead.j0]
/-- Does a task's read do? -/
def rdOk (l : List S44) (ins : List S25) (t : S44) (r : S69) : Bool := (mayCk r l ins).2.2 && mayR r.f3.f0 r.f3.f1 r.f3.f2 t.f0.f0 t.f0.f1 (mayCk r l ins).1 (mayCk r l ins).2.1
def tkOk (l : List S44) (ins : List S25) (t : S44) : Bool := t.f4.all (rdOk l ins t)
/-- May tasks be? -/
def mayTs (l : List S44) (ins : List S25) : Bool := decide (l.length ≤ 160) && (decide (ins.length ≤ 32) && (!(ins.any bad25) && (l.all mayT && l.all (tkOk l ins))))
theorem rd44_in {l : List S44} (hl : l.all inTask = true) (i : Int) : inTask (rd_T44 l i) = true := by
  unfold rd_T44
  rw [List.getD_eq_getElem?_getD]
  cases hg : l[i.toNat]? with
  | none => decide
  | some x => exact List.all_eq_true.1 hl x (List.mem_of_getElem? hg)
theorem rd25_in {l : List S25} (hl : l.all ok25 = true) (i : Int) : ok25 (rd_T25 l i) = true := by
  unfold rd_T25
  rw [List.getD_eq_getElem?_getD]
  cases hg : l[i.toNat]? with
  | none => decide
  | some x => exact List.all_eq_true.1 hl x (List.mem_of_getElem? hg)
theorem inTask_ok {t : S44} (h : inTask t = true) : ok44 t = true ∧ t.f4.all inRead = true := by
  unfold inTask at h
  unfold ok44
  simp only [Bool.and_eq_true] at h
  exact ⟨by rw [Bool.and_eq_true]; exact h.1, h.2.2.2.2.2⟩
theorem mayCk_in {l : List S44} {ins : List S25} (hl : l.all inTask = true) (hi : ins.all ok25 = true) (r : S69) : in64 (mayCk r l ins).1 = true ∧ in64 (mayCk r l ins).2.1 = true := by
  unfold mayCk
  split
  · have := rd25_in hi r.f1
    unfold ok25 at this
    rw [Bool.and_eq_true] at this
    exact this
  · split
    · have := (inTask_ok (rd44_in hl r.f1)).1
      unfold ok44 at this
      rw [Bool.and_eq_true] at this
      exact this
    · exact ⟨rfl, rfl⟩
theorem inRead_dep {r : S69} (h : inRead r = true) : r.f3.f0.all inSrc = true ∧ r.f3.f1.all inSrc = true ∧ in64 r.f3.f2 = true := by
  unfold inRead inDep at h
  simp only [Bool.and_eq_true] at h
  exact ⟨h.2.2.1, h.2.2.2.1, h.2.2.2.2⟩
theorem ok44_in {t : S44} (h : ok44 t = true) : in64 t.f0.f0 = true ∧ in64 t.f0.f1 = true := by
  unfold ok44 at h
  rw [Bool.and_eq_true] at h
  exact h
theorem getD_eq {α : Type} (l : List α) (z : α) (i : Nat) (h : i < l.length) : l.getD i z = l[i] := by
  rw [List.getD_eq_getElem?_getD, List.getElem?_eq_getElem h]; rfl
theorem May_l2 (l : List S44) (ins : List S25) (hl : l.all inTask = true) (hi : ins.all ok25 = true) (t : S44) (ht : inTask t = true) (i : Nat) (hw : wrap64 ((i : Int) + 1) = ((i + 1 : Nat) : Int)) (hn : t.f4.length ≤ 9223372036854775807) (R : Int)
    (hR : Ev (fun k => tasks_May.l1 k l ins l (l.length : Int) ((i + 1 : Nat) : Int)) R) (a b c d e f g : Int) (y : List S69) (ha : a = t.f0.f0) (hb : b = t.f0.f1) :
    ∀ (n j : Nat), j + n = t.f4.length → Ev (fun k => tasks_May.l2 k l ins l (l.length : Int) i t.f4 (t.f4.length : Int) j a b c d e y f) (if (t.f4.drop j).all (rdOk l ins t) = true then R else 2)
  | 0, j, hj => by
      obtain ⟨K, hK⟩ := hR
      refine ⟨K + 1, fun k hk => ?_⟩
      obtain ⟨m, rfl⟩ : ∃ m, k = m + 1 := ⟨k - 1, by omega⟩
      replace hK := hK m (by omega)
      dsimp only at hK
      simp only [tasks_May.l2]
      rw [if_neg (by omega), hw, hK, show t.f4.drop j = [] from List.drop_eq_nil_of_le (by omega)]
      rfl
  | n + 1, j, hj => by
      subst ha hb
      have hlt : j < t.f4.length := by omega
      obtain ⟨K, hK⟩ := May_l2 l ins hl hi t ht i hw hn R hR t.f0.f0 t.f0.f1 c d e f g y rfl rfl n (j + 1) (by omega)
      have hr : inRead t.f4[j] = true := List.all_eq_true.1 (inTask_ok ht).2 _ (List.getElem_mem hlt)
      have hdp := inRead_dep hr
      have hck := mayCk_in hl hi t.f4[j]
      have hpt := ok44_in (inTask_ok ht).1
      obtain ⟨K2, hK2⟩ := mayRead_f t.f4[j].f3.f0 t.f4[j].f3.f1 t.f4[j].f3.f2 t.f0.f0 t.f0.f1 (mayCk t.f4[j] l ins).1 (mayCk t.f4[j] l ins).2.1 hdp.1 hdp.2.1 hdp.2.2 hpt.1 hpt.2 hck.1 hck.2
      refine ⟨K + K2 + 3, fun k hk => ?_⟩
      obtain ⟨q, rfl⟩ : ∃ q, k = q + 1 := ⟨k - 1, by omega⟩
      replace hK := hK q (by omega)
      replace hK2 := hK2 q (by omega)
      dsimp only at hK hK2
      have hrd : rd_T69 t.f4 (j : Int) = t.f4[j] := by unfold rd_T69; rw [Int.toNat_natCast]; exact getD_eq _ _ _ hlt
      have hcf : tasks_clock.f q t.f4[j].f0 t.f4[j].f1 t.f4[j].f2 t.f4[j].f3.f0 t.f4[j].f3.f1 t.f4[j].f3.f2 l ins = some (mayCk t.f4[j] l ins) := by
        obtain ⟨m, rfl⟩ : ∃ m, q = m + 2 := ⟨q - 2, by omega⟩
        exact clock_f _ _ _ _
      have hwj : wrap64 ((j : Int) + 1) = ((j + 1 : Nat) : Int) := by rw [wrap_small (by omega) (by omega)]; omega
      simp only [tasks_May.l2]
      rw [if_pos (show (j : Int) < t.f4.length by omega), if_pos (show 0 ≤ (j : Int) by omega), if_pos (show (j : Int) < t.f4.length by omega), hrd, hcf]
      simp only [Option.bind_some]
      rw [hK2, hwj, hK, List.drop_eq_getElem_cons hlt, List.all_cons]
      simp only [Option.bind_some]
      unfold rdOk
      cases hc : (mayCk t.f4[j] l ins).2.2 with
      | false => simp
      | true =>
        simp only [if_true, Bool.true_and]
        cases hm : mayR t.f4[j].f3.f0 t.f4[j].f3.f1 t.f4[j].f3.f2 t.f0.f0 t.f0.f1 (mayCk t.f4[j] l ins).1 (mayCk t.f4[j] l ins).2.1 with
        | false => simp
        | true => simp only [if_true, Bool.true_and]
theorem May_l1 (l : List S44) (ins : List S25) (hl : l.all inTask = true) (hi : ins.all ok25 = true) (hn : l.length ≤ 160) (hm : l.all mayT = true) :
    ∀ (n i : Nat), i + n = l.length → Ev (fun k => tasks_May.l1 k l ins l (l.length : Int) i) (if (l.drop i).all (tkOk l ins) = true then 0 else 2)
  | 0, i, hj => by
      refine ⟨1, fun k hk => ?_⟩
      obtain ⟨m, rfl⟩ : ∃ m, k = m + 1 := ⟨k - 1, by omega⟩
      simp only [tasks_May.l1]
      rw [if_neg (by omega), show l.drop i = [] from List.drop_eq_nil_of_le (by omega)]
      rfl
  | n + 1, i, hj => by
      have hlt : i < l.length := by omega
      have ih := May_l1 l ins hl hi hn hm n (i + 1) (by omega)
      have ht : inTask l[i] = true := List.all_eq_true.1 hl _ (List.getElem_mem hlt)
      have h32 : l[i].f4.length ≤ 32 := by
        have := List.all_eq_true.1 hm _ (List.getElem_mem hlt)
        unfold mayT at this
        simp only [Bool.and_eq_true, decide_eq_true_eq] at this
        exact this.2.2.2.2.1
      have hwi : wrap64 ((i : Int) + 1) = ((i + 1 : Nat) : Int) := by rw [wrap_small (by omega) (by omega)]; omega
      have h2 := May_l2 l ins hl hi l[i] ht i hwi (by omega) _ ih l[i].f0.f0 l[i].f0.f1 l[i].f1 l[i].f2 l[i].f3 l[i].f5 0 l[i].f4 rfl rfl l[i].f4.length 0 (by omega)
      obtain ⟨K, hK⟩ := h2
      refine ⟨K + 1, fun k hk => ?_⟩
      obtain ⟨m, rfl⟩ : ∃ m, k = m + 1 := ⟨k - 1, by omega⟩
      replace hK := hK m (by omega)
      dsimp only at hK
      have hrd : rd_T44 l (i : Int) = l[i] := by unfold rd_T44; rw [Int.toNat_natCast]; exact getD_eq _ _ _ hlt
      simp only [tasks_May.l1]
      rw [if_pos (show (i : Int) < l.length by omega), if_pos (show 0 ≤ (i : Int) by omega), if_pos (show (i : Int) < l.length by omega), hrd]
      rw [show (0 : Int) = ((0 : Nat) : Int) from rfl, hK, List.drop_eq_getElem_cons hlt, List.all_cons, List.drop_zero]
      unfold tkOk
      cases l[i].f4.all (rdOk l ins l[i]) <;> simp
theorem May_l0 (l : List S44) (ins : List S25) (hl : l.all inTask = true) (hn : l.length ≤ 160) (R : Int) (hR : l.all mayT = true → Ev (fun k => tasks_May.l1 k l ins l (l.length : Int) 0) R) :
    ∀ (n i : Nat), i + n = l.length → (l.take i).all mayT = true → Ev (fun k => tasks_May.l0 k l ins l (l.length : Int) i) (if (l.drop i).all mayT = true then R else 2)
  | 0, i, hj, hp => by
      obtain ⟨K, hK⟩ := hR (by rw [List.take_of_length_le (by omega)] at hp; exact hp)
      refine ⟨K + 1, fun k hk => ?_⟩
      obtain ⟨m, rfl⟩ : ∃ m, k = m + 1 := ⟨k - 1, by omega⟩
      replace hK := hK m (by omega)
      dsimp only at hK
      simp only [tasks_May.l0]
      rw [if_neg (by omega), hK, show l.drop i = [] from List.drop_eq_nil_of_le (by omega)]
      rfl
  | n + 1, i, hj, hp => by
      have hlt : i < l.length := by omega
      have ht : inTask l[i] = true := List.all_eq_true.1 hl _ (List.getElem_mem hlt)
      have hrd : rd_T44 l (i : Int) = l[i] := by unfold rd_T44; rw [Int.toNat_natCast]; exact getD_eq _ _ _ hlt
      have hwi : wrap64 ((i : Int) + 1) = ((i + 1 : Nat) : Int) := by rw [wrap_small (by omega) (by omega)]; omega
      cases hc : mayT l[i] with
      | false =>
        refine ⟨2, fun k hk => ?_⟩
        obtain ⟨q, rfl⟩ : ∃ q, k = q + 1 := ⟨k - 1, by omega⟩
        have hmt : tasks_mayTask.f q l[i].f0.f0 l[i].f0.f1 l[i].f1 l[i].f2 l[i].f3 l[i].f4 l[i].f5 = some (mayT l[i]) := by
          obtain ⟨m, rfl⟩ : ∃ m, q = m + 1 := ⟨q - 1, by omega⟩
          exact mayTask_f _ (inTask_ok ht).1 m
        simp only [tasks_May.l0]
        rw [if_pos (show (i : Int) < l.length by omega), if_pos (show 0 ≤ (i : Int) by omega), if_pos (show (i : Int) < l.length by omega), hrd, hmt, hc, List.drop_eq_getElem_cons hlt, List.all_cons, hc]
        simp
      | true =>
        have hp2 : (l.take (i + 1)).all mayT = true := by
          rw [List.take_add_one, List.getElem?_eq_getElem hlt]
          show (l.take i ++ [l[i]]).all mayT = true
          rw [List.all_append, hp, List.all_cons, hc]; rfl
        obtain ⟨K, hK⟩ := May_l0 l ins hl hn R hR n (i + 1) (by omega) hp2
        refine ⟨K + 2, fun k hk => ?_⟩
        obtain ⟨q, rfl⟩ : ∃ q, k = q + 1 := ⟨k - 1, by omega⟩
        replace hK := hK q (by omega)
        dsimp only at hK
        have hmt : tasks_mayTask.f q l[i].f0.f0 l[i].f0.f1 l[i].f1 l[i].f2 l[i].f3 l[i].f4 l[i].f5 = some (mayT l[i]) := by
          obtain ⟨m, rfl⟩ : ∃ m, q = m + 1 := ⟨q - 1, by omega⟩
          exact mayTask_f _ (inTask_ok ht).1 m
        simp only [tasks_May.l0]
        rw [if_pos (show (i : Int) < l.length by omega), if_pos (show 0 ≤ (i : Int) by omega), if_pos (show (i : Int) < l.length by omega), hrd, hmt, hc]
        simp only [Option.bind_some, if_true]
        rw [hwi, hK, List.drop_eq_getElem_cons hlt, List.all_cons, hc, Bool.true_and]
theorem tasks_May_f (l : List S44) (ins : List S25) (hl : l.all inTask = true) (hi : ins.all ok25 = true) : Ev (fun k => tasks_May.f k l ins) (if mayTs l ins = true then 0 else 2) := by
  have hT : ∀ k, tasks_May.j0 (k + 1) l ins true = some 2 := fun k => by simp [tasks_May.j0]
  have hbad : ∀ R : Int, (∀ k, tasks_May.f (k + 1) l ins = some R) → Ev (fun k => tasks_May.f k l ins) R := fun R h => ⟨1, fun k hk => by
    obtain ⟨m, rfl⟩ : ∃ m, k = m + 1 := ⟨k - 1, by omega⟩
    exact h m⟩
  unfold mayTs
  by_cases h1 : l.length ≤ 160
  · by_cases h2 : ins.length ≤ 32
    · rw [decide_eq_true h1, decide_eq_true h2]
      simp only [Bool.true_and]
      cases hb : ins.any bad25 with
      | true =>
        refine hbad _ (fun k => ?_)
        unfold tasks_May.f api_Clock.f
        rw [if_neg (by omega), if_neg (by omega), if_pos hi, hb]
        simp only [Option.bind_some]
        rw [hT]; rfl
      | false =>
        obtain ⟨K, hK⟩ := May_l0 l ins hl h1 _ (fun hm => May_l1 l ins hl hi h1 hm l.length 0 (by omega)) l.length 0 (by omega) rfl
        refine ⟨K + 1, fun k hk => ?_⟩
        obtain ⟨m, rfl⟩ : ∃ m, k = m + 1 := ⟨k - 1, by omega⟩
        replace hK := hK m (by omega)
        dsimp only at hK
        show tasks_May.f (m + 1) l ins = _
        unfold tasks_May.f api_Clock.f
        rw [if_neg (by omega), if_neg (by omega), if_pos hi, hb]
        simp only [Option.bind_some, tasks_May.j0, Bool.false_eq_true, if_false]
        rw [show (0 : Int) = ((0 : Nat) : Int) from rfl, hK, List.drop_zero]
        cases l.all mayT <;> simp
    · refine hbad _ (fun k => ?_)
      unfold tasks_May.f
      rw [if_neg (by omega), if_pos (by omega), hT, decide_eq_false h2]
      simp
  · refine hbad _ (fun k => ?_)
    unfold tasks_May.f
    rw [if_pos (by omega), hT, decide_eq_false h1]
    simp
end Go.Proofs.Ytkabmpbfabgkfaa
