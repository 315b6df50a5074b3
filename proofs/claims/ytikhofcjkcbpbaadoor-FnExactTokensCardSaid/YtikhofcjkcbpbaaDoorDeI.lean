/- Walks: Decimal in the program. -/
import Derived.Test.YtikhofcjkcbpbaaDoorCard
import Derived.Test.YtikhofcjkcbpbaaDoorDeS
import Derived.Test.YtikhofcjkcbpbaaDoorShelf
namespace Go.Proofs.YtikhofcjkcbpbaaDoor
open Go.ChangeShapes Go.WideShapes Go.ChangeAt Go.RowKit
set_option linter.unusedVariables false

set_option maxRecDepth 100000 in
theorem impl_Decimal (n : Int) (h1 : -9223372036854775808 ≤ n) (h2 : n ≤ 9223372036854775807) (w : World) (hp : Pow w) :
    Calls Tryd.prog 8 #[.int .i64 n] w (Says w (Lib.itoa n)) := by
  have hc := fun w' (h : Pow w') => Tryd.strconv_FormatInt_10 n h1 h2 w' h
  have HC := hid hc
  have HP := hid hp
  clear hc hp
  go_enter Tryd.func8, Tryd.ntmps8
  go_wp2_with fail
  refine (HC.out _ HP.out).mono ?_
  rintro e w' ⟨rfl, k, os, rfl⟩
  go_wp2_with fail
  go_ret
  exact ⟨rfl, grow_below _ _ _⟩
end Go.Proofs.YtikhofcjkcbpbaaDoor
