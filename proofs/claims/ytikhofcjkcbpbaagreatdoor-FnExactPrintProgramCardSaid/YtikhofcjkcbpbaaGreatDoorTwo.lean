/- Walks of OperatorText and CodeName, of the program and of the reference. -/
import Derived.Test.YtikhofcjkcbpbaaGreatDoorIn
namespace Go.Proofs.YtikhofcjkcbpbaaGreatDoor
open Go.ChangeShapes Go.WideShapes Go.ChangeAt Go.RowKit

theorem impl_isOperator (n : Int) (w : World) : Calls Tryz.prog 79 #[.int .i64 n] w fun e w' => e = .returned (.bool (inR n 1 6)) ∧ w = w' := by
  by_cases h1 : 1 ≤ n <;> by_cases h2 : n ≤ 6
  all_goals
    go_enter Tryz.func79, Tryz.ntmps79
    go_wp2
    go_ret
    exact ⟨ret_bool (by simp [inR]; try omega), rfl⟩

def opText (n : Int) : ByteArray :=
  if n = 1 then ⟨#[43]⟩ else if n = 2 then ⟨#[45]⟩ else if n = 3 then ⟨#[42]⟩ else if n = 4 then ⟨#[47]⟩ else if n = 5 then ⟨#[60]⟩ else if n = 6 then ⟨#[61]⟩ else ⟨#[]⟩

theorem impl_OperatorText (n : Int) (w : World) : Calls Tryz.prog 53 #[.int .i64 n] w fun e w' => e = .returned (.string (opText n)) ∧ w = w' := by
  by_cases h : 1 ≤ n ∧ n ≤ 6
  · obtain rfl | rfl | rfl | rfl | rfl | rfl : n = 1 ∨ n = 2 ∨ n = 3 ∨ n = 4 ∨ n = 5 ∨ n = 6 := by omega
    all_goals
      go_enter Tryz.func53, Tryz.ntmps53
      go_wp2
      go_ret
      exact ⟨ret_string rfl, rfl⟩
  · have hin : inR n 1 6 = false := inR_f (by omega)
    have e : opText n = ⟨#[]⟩ := by unfold opText; repeat (rw [if_neg (by omega)])
    rw [e]
    clear e
    go_enter Tryz.func53, Tryz.ntmps53
    go_wp2_with (go_at_call 79; refine (impl_isOperator _ _).mono ?_; rintro e w' ⟨rfl, rfl⟩)
    go_ret
    exact ⟨ret_string rfl, rfl⟩

theorem spec_OperatorText (n : Int) (w : World) : Calls Tryz.prog 75 #[.int .i64 n] w fun e w' => e = .returned (.string (opText n)) ∧ Below w.heap.size w w' := by
  by_cases h : 1 ≤ n ∧ n ≤ 6
  · obtain rfl | rfl | rfl | rfl | rfl | rfl : n = 1 ∨ n = 2 ∨ n = 3 ∨ n = 4 ∨ n = 5 ∨ n = 6 := by omega
    all_goals
      go_enter Tryz.func75, Tryz.ntmps75
      go_wp2
      go_ret
      exact ⟨ret_string rfl, (Below.refl _ _).alloc (Nat.le_refl _) _⟩
  · have hin : inR n 1 6 = false := inR_f (by omega)
    have e : opText n = ⟨#[]⟩ := by unfold opText; repeat (rw [if_neg (by omega)])
    rw [e]
    clear e
    go_enter Tryz.func75, Tryz.ntmps75
    go_wp2_with (go_at_call 82; refine (spec_In _ _ _ _).mono ?_; rintro e w' ⟨rfl, rfl⟩)
    go_ret
    exact ⟨ret_string rfl, Below.refl _ _⟩
end Go.Proofs.YtikhofcjkcbpbaaGreatDoor
