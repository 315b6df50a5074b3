/- Walks of the laws' helpers: the sizes of slices of scalars. No condition. -/
import Derived.Test.YtejdbmeoaekhcaaSc
import Derived.Lib.QuietBelow
namespace Go.Proofs.Ytejdbmeoaekhcaa
open Go.ChangeShapes Go.WideShapes Go.ChangeAt Go.RowKit
open Go.Sort (grow)
set_option linter.unusedVariables false

theorem In.bulks_eq : ∀ ts : List Int, In.bulks ts = ts.length
  | [] => rfl
  | t :: ts => by simp [In.bulks, In.bulk, In.bulks_eq ts]; omega
theorem Bo.bulks_eq : ∀ ts : List Bool, Bo.bulks ts = ts.length
  | [] => rfl
  | t :: ts => by simp [Bo.bulks, Bo.bulk, Bo.bulks_eq ts]; omega

theorem szIns (ts : List Int) (a : Option Addr) (c : Nat) (left : Int) (w : World) (hr : RdL w (In.ds ts) (.slice a ts.length c)) (h0 : 0 ≤ left) (h1 : left ≤ 1048576) :
    Calls Try.prog 21 #[.slice a ts.length c, .int .i64 left] w fun e w' => e = .returned (.int .i64 (purse left (In.bulks ts))) ∧ Below w.heap.size w w' := by
  obtain ⟨_, _, e, h2, h3, -⟩ := hr.eIn
  simp only [Value.slice.injEq, true_and] at e
  obtain ⟨rfl, rfl⟩ := e
  rw [In.bulks_eq]
  clear hr
  by_cases hs : left < ts.length
  · rw [purse_no (by omega)]
    go_enter Try.func21, Try.ntmps21
    go_wp2_with fail
    go_ret
    exact ⟨rfl, Below.refl _ _⟩
  · rw [purse_ok (by omega)]
    go_enter Try.func21, Try.ntmps21
    go_wp2_with fail
    go_ret
    exact ⟨rfl, Below.refl _ _⟩

end Go.Proofs.Ytejdbmeoaekhcaa
