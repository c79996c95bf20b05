/-
  carillonlaw01.NumLaws: the law returns true at every two int64s.
-/
import Derived.Test.YtncohomkggnckaaLa
import Derived.Deep.DeepCutAuto
set_option linter.unusedVariables false
set_option linter.unusedSimpArgs false
namespace Go.Proofs.Ytncohomkggnckaa
open Go.RowKit Big

set_option maxRecDepth 100000 in
set_option maxHeartbeats 2000000 in
theorem NumLaws_walk (a b D M g l f c s : Int) (x y u v z : Bool) (w : World)
    (hd : Calls Try.prog 17 #[.int .i64 a, .int .i64 b] w fun e w' => e = .returned (.int .i64 D) ∧ w = w')
    (hm : Calls Try.prog 19 #[.int .i64 a, .int .i64 b] w fun e w' => e = .returned (.int .i64 M) ∧ w = w')
    (hg : Calls Try.prog 23 #[.int .i64 a, .int .i64 b] w fun e w' => e = .returned (.tuple #[.int .i64 g, .bool x]) ∧ w = w')
    (hl : Calls Try.prog 25 #[.int .i64 a, .int .i64 b] w fun e w' => e = .returned (.tuple #[.int .i64 l, .bool y]) ∧ w = w')
    (hf : Calls Try.prog 13 #[.int .i64 a, .int .i64 b] w fun e w' => e = .returned (.tuple #[.int .i64 f, .bool u]) ∧ w = w')
    (hc : Calls Try.prog 15 #[.int .i64 a, .int .i64 b] w fun e w' => e = .returned (.tuple #[.int .i64 c, .bool v]) ∧ w = w')
    (hs : Calls Try.prog 8 #[.int .i64 a, .int .i64 b] w fun e w' => e = .returned (.tuple #[.int .i64 s, .bool z]) ∧ w = w')
    (e1 : wrap64 (wrap64 (D * b) + M) = a ∨ b = 0)
    (e2 : x = true → y = true → wrap64 (g * l) = wrap64 (a * b) ∨ wrap64 (g * l) = wrap64 (-wrap64 (a * b)))
    (e3 : x = true → g ≠ 0 → a.tmod g = 0 ∧ b.tmod g = 0)
    (e4 : b = 0 → u = false ∧ v = false)
    (e5 : u = true → v = true → (a.tmod b = 0 ↔ f = c))
    (e6 : u = true → v = true → f ≠ c → wrap64 (c - f) = 1)
    (ht : z = true → Calls Try.prog 10 #[.int .i64 s, .int .i64 b] w fun e w' => e = .returned (.tuple #[.int .i64 a, .bool true]) ∧ w = w') :
    Calls Try.prog 7 #[.int .i64 a, .int .i64 b] w fun e w' => e = .returned (.bool true) ∧ w = w' := by
  have Hhd := Lib.hid hd; clear hd
  have Hhm := Lib.hid hm; clear hm
  have Hhg := Lib.hid hg; clear hg
  have Hhl := Lib.hid hl; clear hl
  have Hhf := Lib.hid hf; clear hf
  have Hhc := Lib.hid hc; clear hc
  have Hhs := Lib.hid hs; clear hs
  have Hht := Lib.hid ht; clear ht
  have He1 := Lib.hid e1; clear e1
  have He2 := Lib.hid e2; clear e2
  have He3 := Lib.hid e3; clear e3
  have He4 := Lib.hid e4; clear e4
  have He5 := Lib.hid e5; clear e5
  have He6 := Lib.hid e6; clear e6
  go_enter Try.func7, Try.ntmps7
  go_upto_region 1 with (fail)
  go_cut [31] (fun s31 wc => s31 = .bool false ∧ wc = w)
  case first =>
    go_wp2_with fail
    refine Hhd.out.mono ?_
    rintro e w' ⟨rfl, rfl⟩
    go_wp2_with fail
    refine Hhm.out.mono ?_
    rintro e w' ⟨rfl, rfl⟩
    rcases He1.out with h | h
    · go_wp2_with fail
      all_goals
        go_meet
        case rel => exact ⟨rfl, rfl⟩
    · have hb : (b != 0) = false := by simpa using h
      clear h
      go_wp2_with fail
      all_goals
        go_meet
        case rel => exact ⟨rfl, rfl⟩
  case rest =>
  obtain ⟨rfl, rfl⟩ := hcut
  go_wp2_with fail
  refine Hhg.out.mono ?_
  rintro e w' ⟨rfl, rfl⟩
  go_wp2_with fail
  refine Hhl.out.mono ?_
  rintro e w' ⟨rfl, rfl⟩
  go_upto_region 5 with (fail)
  go_cut [66] (fun s66 w2 => s66 = .bool false ∧ w2 = wc)
  case first =>
    cases x
    · go_wp2_with fail
      go_meet
      case rel => exact ⟨rfl, rfl⟩
    · cases y
      · go_wp2_with fail
        go_meet
        case rel => exact ⟨rfl, rfl⟩
      · rcases He2.out rfl rfl with h | h
        · go_wp2_with fail
          go_meet
          case rel => exact ⟨rfl, rfl⟩
        · by_cases h' : wrap64 (g * l) = wrap64 (a * b)
          · clear h
            go_wp2_with fail
            go_meet
            case rel => exact ⟨rfl, rfl⟩
          · have h3 : (wrap64 (g * l) != wrap64 (a * b)) = true := bne_iff_ne.2 h'
            have h4 : (wrap64 (g * l) != wrap64 (-wrap64 (a * b))) = false := by simpa using h
            clear h' h
            go_wp2_with fail
            all_goals
              go_meet
              case rel => exact ⟨rfl, rfl⟩
  case rest =>
  obtain ⟨rfl, rfl⟩ := hcut
  go_upto_region 7 with (fail)
  go_cut [83] (fun s83 w2 => s83 = .bool false ∧ w2 = wc)
  case first =>
    cases x
    · go_wp2_with fail
      go_meet
      case rel => exact ⟨rfl, rfl⟩
    · by_cases hg0 : g = 0
      · have h1 : (g != 0) = false := by simpa using hg0
        clear hg0
        go_wp2_with fail
        go_meet
        case rel => exact ⟨rfl, rfl⟩
      · obtain ⟨h2, h3⟩ := He3.out rfl hg0
        have h1 : (g != 0) = true := bne_iff_ne.2 hg0
        have h4 : (g == 0) = false := beq_false_of_ne hg0
        go_wp2_with fail
        go_meet
        case rel => exact ⟨rfl, rfl⟩
  case rest =>
  obtain ⟨rfl, rfl⟩ := hcut
  go_wp2_with fail
  refine Hhf.out.mono ?_
  rintro e w' ⟨rfl, rfl⟩
  go_wp2_with fail
  refine Hhc.out.mono ?_
  rintro e w' ⟨rfl, rfl⟩
  go_upto_region 11 with (fail)
  go_cut [103] (fun s103 w2 => s103 = .bool false ∧ w2 = wc)
  case first =>
    by_cases hb0 : b = 0
    · obtain ⟨rfl, rfl⟩ := He4.out hb0
      have h1 : (b == 0) = true := by simpa using hb0
      clear hb0
      go_wp2_with fail
      go_meet
      case rel => exact ⟨rfl, rfl⟩
    · have h1 : (b == 0) = false := beq_false_of_ne hb0
      go_wp2_with fail
      go_meet
      case rel => exact ⟨rfl, rfl⟩
  case rest =>
  obtain ⟨rfl, rfl⟩ := hcut
  go_upto_region 13 with (fail)
  go_cut [117] (fun s117 w2 => s117 = .bool false ∧ w2 = wc)
  case first =>
    cases u
    · go_wp2_with fail
      go_meet
      case rel => exact ⟨rfl, rfl⟩
    · cases v
      · go_wp2_with fail
        go_meet
        case rel => exact ⟨rfl, rfl⟩
      · have hb0 : ¬ b = 0 := fun h => by simpa using (He4.out h).1
        have hi := He5.out rfl rfl
        have h2 : (b == 0) = false := beq_false_of_ne hb0
        have h3 : (!((a.tmod b == 0) == (f == c))) = false := by
          by_cases hfc : f = c
          · rw [beq_iff_eq.2 hfc, beq_iff_eq.2 (hi.2 hfc)]; rfl
          · rw [beq_false_of_ne hfc, beq_false_of_ne (fun h => hfc (hi.1 h))]; rfl
        clear hi
        go_wp2_with fail
        all_goals
          go_meet
          case rel => exact ⟨rfl, rfl⟩
  case rest =>
  obtain ⟨rfl, rfl⟩ := hcut
  go_upto_region 15 with (fail)
  go_cut [132] (fun s132 w2 => s132 = .bool false ∧ w2 = wc)
  case first =>
    cases u
    · go_wp2_with fail
      go_meet
      case rel => exact ⟨rfl, rfl⟩
    · cases v
      · go_wp2_with fail
        go_meet
        case rel => exact ⟨rfl, rfl⟩
      · by_cases hfc : f = c
        · have h1 : (f != c) = false := by simpa using hfc
          clear hfc
          go_wp2_with fail
          go_meet
          case rel => exact ⟨rfl, rfl⟩
        · have h1 : (f != c) = true := bne_iff_ne.2 hfc
          have h2 := He6.out rfl rfl hfc
          go_wp2_with fail
          go_meet
          case rel => exact ⟨rfl, rfl⟩
  case rest =>
  obtain ⟨rfl, rfl⟩ := hcut
  go_wp2_with fail
  refine Hhs.out.mono ?_
  rintro e w' ⟨rfl, rfl⟩
  cases z
  · go_wp2_with fail
    refine (alive_any _).mono ?_
    rintro e w' ⟨rfl, rfl⟩
    go_wp2_with fail
    go_ret
    exact ⟨rfl, rfl⟩
  · have Ht := Lib.hid (Hht.out rfl)
    go_wp2_with fail
    refine Ht.out.mono ?_
    rintro e w' ⟨rfl, rfl⟩
    go_wp2_with fail
    refine (alive_any _).mono ?_
    rintro e w' ⟨rfl, rfl⟩
    go_wp2_with fail
    go_ret
    exact ⟨rfl, rfl⟩
end Go.Proofs.Ytncohomkggnckaa
