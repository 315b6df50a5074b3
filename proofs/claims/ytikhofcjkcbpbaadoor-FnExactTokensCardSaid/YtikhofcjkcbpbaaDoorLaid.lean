/- The table of powers of ten out of a row's list; the two errors of strconv. -/
import Derived.Test.YtikhofcjkcbpbaaDoorCard
import Derived.Stop.LaidTwo
namespace Go.Proofs.YtikhofcjkcbpbaaDoor
open Go.ChangeShapes Go.WideShapes Go.ChangeAt Go.RowKit
set_option linter.unusedVariables false

theorem powData : (Rows.laid_internal_strconv_uint64pow10 : DataW Unit) = Lib.tabData .u64 Lib.pow10Tab := by kernel_rfl
theorem pow_of_laid {r : List (String × DataW Unit)} {W : World} (h : laidMet Tryd.prog (("math/bits.deBruijn32tab", Rows.laid_math_bits_deBruijn32tab) :: ("math/bits.deBruijn64tab", Rows.laid_math_bits_deBruijn64tab) :: ("internal/strconv.uint64pow10", Rows.laid_internal_strconv_uint64pow10) :: r) W) : Pow W := by
  have h3 := h.tail.tail
  rw [powData] at h3
  exact Lib.tabIs_of_head (g := 0) (t := 109) (e := 81) (n := 20) gPow (by kernel_rfl) Tryd.underlying109 Tryd.underlying81 (by kernel_rfl) (by kernel_rfl) h3
end Go.Proofs.YtikhofcjkcbpbaaDoor
