/- The table of powers of ten out of a row's list; the two errors of strconv. -/
import Derived.Test.YtikhofcjkcbpbaaGreatDoorCard
import Derived.Stop.LaidTwo
namespace Go.Proofs.YtikhofcjkcbpbaaGreatDoor
open Go.ChangeShapes Go.WideShapes Go.ChangeAt Go.RowKit
set_option linter.unusedVariables false

theorem powData : (Rows.laid_internal_strconv_uint64pow10 : DataW Unit) = Lib.tabData .u64 Lib.pow10Tab := by kernel_rfl
theorem pow_of_laid {r : List (String × DataW Unit)} {W : World} (h : laidMet Tryz.prog (("math/bits.deBruijn32tab", Rows.laid_math_bits_deBruijn32tab) :: ("math/bits.deBruijn64tab", Rows.laid_math_bits_deBruijn64tab) :: ("internal/strconv.uint64pow10", Rows.laid_internal_strconv_uint64pow10) :: r) W) : Pow W := by
  have h3 := h.tail.tail
  rw [powData] at h3
  exact Lib.tabIs_of_head (g := 1) (t := 175) (e := 164) (n := 20) gPow (by kernel_rfl) Tryz.underlying175 Tryz.underlying164 (by kernel_rfl) (by kernel_rfl) h3
end Go.Proofs.YtikhofcjkcbpbaaGreatDoor
