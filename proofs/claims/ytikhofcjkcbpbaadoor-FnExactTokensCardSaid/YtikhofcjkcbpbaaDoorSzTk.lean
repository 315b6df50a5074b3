/- Walks of the laws' helpers: the size of Token. No condition. -/
import Derived.Test.YtikhofcjkcbpbaaDoorDTk
import Derived.Test.YtikhofcjkcbpbaaDoorSzSc
import Derived.Lib.QuietBelow
namespace Go.Proofs.YtikhofcjkcbpbaaDoor
open Go.ChangeShapes Go.WideShapes Go.ChangeAt Go.RowKit
open Go.Sort (grow)
end Go.Proofs.YtikhofcjkcbpbaaDoor
