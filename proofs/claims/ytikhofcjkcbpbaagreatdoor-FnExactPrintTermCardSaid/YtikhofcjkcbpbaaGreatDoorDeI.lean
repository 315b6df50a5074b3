/- Walks: Decimal in the program. -/
import Derived.Test.YtikhofcjkcbpbaaGreatDoorCard
import Derived.Test.YtikhofcjkcbpbaaGreatDoorDeS
import Derived.Test.YtikhofcjkcbpbaaGreatDoorShelf
namespace Go.Proofs.YtikhofcjkcbpbaaGreatDoor
open Go.ChangeShapes Go.WideShapes Go.ChangeAt Go.RowKit
set_option linter.unusedVariables false

set_option maxRecDepth 100000 in
theorem impl_Decimal (n : Int) (h1 : -9223372036854775808 ≤ n) (h2 : n ≤ 9223372036854775807) (w : World) (hp : Pow w) :
    Calls Tryz.prog 52 #[.int .i64 n] w (Says w (Lib.itoa n)) := by
  have hc := fun w' (h : Pow w') => Tryz.strconv_FormatInt_10 n h1 h2 w' h
  have HC := hid hc
  have HP := hid hp
  clear hc hp
  go_enter Tryz.func52, Tryz.ntmps52
  go_wp2_with fail
  refine (HC.out _ HP.out).mono ?_
  rintro e w' ⟨rfl, k, os, rfl⟩
  go_wp2_with fail
  go_ret
  exact ⟨rfl, grow_below _ _ _⟩
end Go.Proofs.YtikhofcjkcbpbaaGreatDoor
