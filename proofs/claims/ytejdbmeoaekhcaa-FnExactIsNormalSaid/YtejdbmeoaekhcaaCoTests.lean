/- Walks: the form of a core's node, in the program. -/
import Derived.Test.YtejdbmeoaekhcaaCoPlain
import Derived.Test.YtejdbmeoaekhcaaTwo
import Derived.Lib.QuietBelow
import Derived.BigQuiet
namespace Go.Proofs.Ytejdbmeoaekhcaa
open Go.ChangeShapes Go.WideShapes Go.ChangeAt Go.RowKit Go.BigFrame
open Go.Sort (grow)
set_option linter.unusedVariables false

theorem impl_isInt (n : Int) (w : World) : Calls Try.prog 106 #[.int .i64 n] w fun e w' => e = .returned (.bool (inR n (-2147483648) 2147483647)) ∧ w = w' := by
  by_cases h1 : -2147483648 ≤ n <;> by_cases h2 : n ≤ 2147483647
  all_goals
    go_enter Try.func106, Try.ntmps106
    go_wp2
    go_ret
    exact ⟨ret_bool (by simp [inR]; try omega), rfl⟩
theorem impl_isDefIndex (n : Int) (w : World) : Calls Try.prog 108 #[.int .i64 n] w fun e w' => e = .returned (.bool (inR n 0 23)) ∧ w = w' := by
  by_cases h1 : 0 ≤ n <;> by_cases h2 : n < 24
  all_goals
    go_enter Try.func108, Try.ntmps108
    go_wp2
    go_ret
    exact ⟨ret_bool (by simp [inR]; try omega), rfl⟩
theorem impl_notIndex (n : Int) (w : World) : Calls Try.prog 109 #[.int .i64 n] w fun e w' => e = .returned (.bool (!inR n 0 23)) ∧ w = w' := by
  go_enter Try.func109, Try.ntmps109
  go_wp2_with fail
  refine (impl_isDefIndex _ _).mono ?_
  rintro e w1 ⟨rfl, rfl⟩
  go_wp2_with fail
  go_ret
  exact ⟨rfl, rfl⟩

theorem impl_IndexBad (ds : List Int) (a : Option Addr) (c : Nat) (w : World) (hr : RdL w (In.ds ds) (.slice a ds.length c)) :
    Calls Try.prog 102 #[.slice a ds.length c, .func (.func 109) #[] #[]] w fun e w' => ∃ r : Int, e = .returned (.int .i64 r) ∧ (decide (0 ≤ r) = !coData ds) ∧ Below w.heap.size w w' := by
  obtain ⟨_, _, e, i2, i3, i4⟩ := hr.eIn
  simp only [Value.slice.injEq, true_and] at e
  obtain ⟨rfl, rfl⟩ := e
  have I4 := hid i4
  clear hr i4
  go_enter Try.func102, Try.ntmps102
  go_wp2_with fail
  go_loopw [5, 8] (fun _ i wr => ∃ (j : Nat), j ≤ ds.length ∧ i = .int .i64 j ∧ Hid (∀ (i : Nat) x, i < j → ds[i]? = some x → inR x 0 23 = true) ∧ wr = w) (fun _ i _ => ds.length - (intOf i).toNat)
  case atStart => exact ⟨0, by omega, rfl, fun i t hi => absurd hi (by omega), rfl⟩
  case round =>
    obtain ⟨j, hj, rfl, HJ, rfl⟩ := hrel
    by_cases hlt : j < ds.length
    case pos =>
      obtain ⟨b, o, rfl, hbl, hall⟩ := I4.out (by omega)
      obtain ⟨x, hx⟩ : ∃ x, ds[j]? = some x := ⟨_, List.getElem?_eq_getElem hlt⟩
      obtain ⟨q0, hfc⟩ := hall j x hx
      have HT := hid hx
      clear hall I4 hx
      by_cases hi : inR x 0 23 = true
      case neg =>
        have HI := hid ((Bool.not_eq_true _).mp hi)
        clear hi
        go_wp2_with fail
        refine (impl_notIndex _ _).mono ?_
        rw [HI.out]
        rintro e w2 ⟨rfl, rfl⟩
        go_wp2_with fail
        go_ret
        exact ⟨j, rfl, by rw [coData_no _ j x HT.out HI.out]; simp, Below.refl _ _⟩
      case pos =>
        have HI := hid hi
        clear hi
        go_wp2_with fail
        refine (impl_notIndex _ _).mono ?_
        rw [HI.out]
        rintro e w2 ⟨rfl, rfl⟩
        go_wp2_with fail
        go_roundw
        case rel =>
          refine ⟨j + 1, by omega, by go_num, fun i t hi hti => ?_, by first | rfl | trivial⟩
          rcases Nat.lt_succ_iff_lt_or_eq.1 hi with hi | rfl
          · exact HJ.out i t hi hti
          · obtain rfl := Option.some.inj (hti.symm.trans HT.out)
            exact HI.out
        case measure => simp [intOf]; omega
    case neg =>
      go_wp2_with fail
      go_ret
      exact ⟨-1, rfl, by rw [coData_yes ds fun i x hx => HJ.out i x (by have := (List.getElem?_eq_some_iff.1 hx).1; omega) hx]; simp, Below.refl _ _⟩
theorem impl_AnyBad (ds : List Int) (a : Option Addr) (c : Nat) (w : World) (hr : RdL w (In.ds ds) (.slice a ds.length c)) :
    Calls Try.prog 93 #[.slice a ds.length c, .func (.func 109) #[] #[]] w fun e w' => e = .returned (.bool (!coData ds)) ∧ Below w.heap.size w w' := by
  have HC := hid (impl_IndexBad ds a c w hr)
  clear hr
  go_enter Try.func93, Try.ntmps93
  go_wp2_with fail
  refine HC.out.mono ?_
  rintro e w1 ⟨r, rfl, hr, hb⟩
  have HR := hid hr
  clear hr
  go_wp2_with fail
  go_ret
  exact ⟨ret_bool HR.out, hb⟩
end Go.Proofs.Ytejdbmeoaekhcaa
