/- Walks of OperatorText and CodeName, of the program and of the reference. -/
import Derived.Test.YtejdbmeoaekhcaaIn
namespace Go.Proofs.Ytejdbmeoaekhcaa
open Go.ChangeShapes Go.WideShapes Go.ChangeAt Go.RowKit

theorem impl_isOperator (n : Int) (w : World) : Calls Try.prog 107 #[.int .i64 n] w fun e w' => e = .returned (.bool (inR n 1 6)) ∧ w = w' := by
  by_cases h1 : 1 ≤ n <;> by_cases h2 : n ≤ 6
  all_goals
    go_enter Try.func107, Try.ntmps107
    go_wp2
    go_ret
    exact ⟨ret_bool (by simp [inR]; try omega), rfl⟩

def opText (n : Int) : ByteArray :=
  if n = 1 then ⟨#[43]⟩ else if n = 2 then ⟨#[45]⟩ else if n = 3 then ⟨#[42]⟩ else if n = 4 then ⟨#[47]⟩ else if n = 5 then ⟨#[60]⟩ else if n = 6 then ⟨#[61]⟩ else ⟨#[]⟩

end Go.Proofs.Ytejdbmeoaekhcaa
