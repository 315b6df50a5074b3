/- Walks of OperatorText and CodeName, of the program and of the reference. -/
import Derived.Test.YtidenjklgibhhaaOne
import Derived.BigQuiet
import Derived.Deep.QuietTactic
import Derived.Outline
namespace Go.Proofs.Ytidenjklgibhhaa
open Go.ChangeShapes Go.WideShapes Go.ChangeAt Go.RowKit

/-- In a range. -/
def inR (n lo hi : Int) : Bool := decide (lo ≤ n ∧ n ≤ hi)
theorem inR_t {n lo hi : Int} (h1 : lo ≤ n) (h2 : n ≤ hi) : inR n lo hi = true := by simp [inR, h1, h2]
theorem inR_f {n lo hi : Int} (h : n < lo ∨ hi < n) : inR n lo hi = false := by simp [inR]; omega

theorem spec_In (n lo hi : Int) (w : World) : Calls Try.prog 31 #[.int .i64 n, .int .i64 lo, .int .i64 hi] w fun e w' => e = .returned (.bool (inR n lo hi)) ∧ w = w' := by
  by_cases h1 : lo ≤ n <;> by_cases h2 : n ≤ hi
  all_goals
    go_enter Try.func31, Try.ntmps31
    go_wp2
    go_ret
    exact ⟨ret_bool (by simp [inR]; try omega), rfl⟩

theorem impl_isOperator (n : Int) (w : World) : Calls Try.prog 33 #[.int .i64 n] w fun e w' => e = .returned (.bool (inR n 1 6)) ∧ w = w' := by
  by_cases h1 : 1 ≤ n <;> by_cases h2 : n ≤ 6
  all_goals
    go_enter Try.func33, Try.ntmps33
    go_wp2
    go_ret
    exact ⟨ret_bool (by simp [inR]; try omega), rfl⟩

def opText (n : Int) : ByteArray :=
  if n = 1 then ⟨#[43]⟩ else if n = 2 then ⟨#[45]⟩ else if n = 3 then ⟨#[42]⟩ else if n = 4 then ⟨#[47]⟩ else if n = 5 then ⟨#[60]⟩ else if n = 6 then ⟨#[61]⟩ else ⟨#[]⟩

theorem impl_OperatorText (n : Int) (w : World) : Calls Try.prog 16 #[.int .i64 n] w fun e w' => e = .returned (.string (opText n)) ∧ w = w' := by
  by_cases h : 1 ≤ n ∧ n ≤ 6
  · obtain rfl | rfl | rfl | rfl | rfl | rfl : n = 1 ∨ n = 2 ∨ n = 3 ∨ n = 4 ∨ n = 5 ∨ n = 6 := by omega
    all_goals
      go_enter Try.func16, Try.ntmps16
      go_wp2
      go_ret
      exact ⟨ret_string rfl, rfl⟩
  · have hin : inR n 1 6 = false := inR_f (by omega)
    have e : opText n = ⟨#[]⟩ := by unfold opText; repeat (rw [if_neg (by omega)])
    rw [e]
    clear e
    go_enter Try.func16, Try.ntmps16
    go_wp2_with (go_at_call 33; refine (impl_isOperator _ _).mono ?_; rintro e w' ⟨rfl, rfl⟩)
    go_ret
    exact ⟨ret_string rfl, rfl⟩

theorem spec_OperatorText (n : Int) (w : World) : Calls Try.prog 15 #[.int .i64 n] w fun e w' => e = .returned (.string (opText n)) ∧ Below w.heap.size w w' := by
  by_cases h : 1 ≤ n ∧ n ≤ 6
  · obtain rfl | rfl | rfl | rfl | rfl | rfl : n = 1 ∨ n = 2 ∨ n = 3 ∨ n = 4 ∨ n = 5 ∨ n = 6 := by omega
    all_goals
      go_enter Try.func15, Try.ntmps15
      go_wp2
      go_outline
      go_ret
      exact ⟨ret_string rfl, (Below.refl _ _).alloc (Nat.le_refl _) _⟩
  · have hin : inR n 1 6 = false := inR_f (by omega)
    have e : opText n = ⟨#[]⟩ := by unfold opText; repeat (rw [if_neg (by omega)])
    rw [e]
    clear e
    go_enter Try.func15, Try.ntmps15
    go_wp2_with (go_at_call 31; refine (spec_In _ _ _ _).mono ?_; rintro e w' ⟨rfl, rfl⟩)
    go_ret
    exact ⟨ret_string rfl, Below.refl _ _⟩
end Go.Proofs.Ytidenjklgibhhaa
