/-
  NARROWER THAN 'FOR EVERY INPUT', by the rows' own cells (each row's printed sentence says how): FnExactSameCore: loops · FnExactSameBook: loops · FnExactValidCore: loops · FnExactCoreSize: loops · FnExactIsErased: loops · FnExactIsClosed: loops · FnExactCountVar: loops · FnExactValidBook: loops · FnExactIsStratified: loops · FnExactIsNormal: loops · FnExactSameNeed: loops.
  DERIVED. THE GIVEN ROWS OF THIS SEAT. 11 by the template 'for every input the law returns true; each argument reads behind the call as it read before'; 0 by the template 'total and deterministic' (their statements: YtgbiefjokohkkaaTotals.lean).
  GIVEN WITH THE SEED: the statements are not yours to turn. If you find one false, say at which input.
  Laid BY PROGRAM, IN A SANDBOX (cutbox-rows.mjs): the forced cells as the released guide's own fill.sh prints them over the translation 41e1b34666ae1de9… (all of the seat's roots in one cut). By AI agents, Wed Nov 11 2026. No macro, syntax, notation, axiom, sorry.
-/
import Derived.Test.YtgbiefjokohkkaaChecked
import GoSem.Claim
import GoSem.ClaimJoined
import GoSem.ClaimMapViews
import Derived.JoinedTies
import Derived.KernelRfl
namespace Go.Proofs.Ytgbiefjokohkkaa
/- THE CELL 'sum', in the pinned program and in every row, IS THE sha256 OF THE DUMP (.gsa) THAT YtgbiefjokohkkaaProg.lean LOADS. Nothing in Lean hashes anything: it is a label: what it is worth is what the hold of that sum in a sandbox is worth. -/
noncomputable def Try.pinned : Pinned := { name := "ytgbiefjokohkkaa", sum := "41e1b34666ae1de957c6c4f7bf5cf4dd10e0139bd7bd8de80c9d65a4e7da8bfe", checked := Try.checked }
namespace Rows
def none {H : Type} : Left H := { results := [], args := [] }

/-- 'laws.FnExactSameCore': WHATEVER THE INPUT: true; the input reads as it did. -/
def fnExactSameCoreSpec : ChangeSpec := { name := "fnExactSameCore", fn := fun _ => fun
  | [d1, d2] => { results := [.lit (.bool true)], args := [d1, d2] }
  | _ => none }
def fnExactSameCoreRow : OpenClaim := { program := "ytgbiefjokohkkaa", sum := "41e1b34666ae1de957c6c4f7bf5cf4dd10e0139bd7bd8de80c9d65a4e7da8bfe", func := "loop.example/g01074/laws.FnExactSameCore", spec := "fnExactSameCore", unfollowed := true, recurses := true, loops := true, apart := false }
def FnExactSameCoreSaid : Prop := fnExactSameCoreRow.holds Try.pinned (OpenSpec.ofChange fnExactSameCoreSpec)

/-- ITS FALSE NEIGHBOUR: 'it returns false'. Refute it at one input. -/
def fnExactSameCoreWrong : ChangeSpec := { name := "fnExactSameCore", fn := fun _ => fun
  | [d1, d2] => { results := [.lit (.bool false)], args := [d1, d2] }
  | _ => none }
def FnExactSameCoreWrongFalsely : Prop := fnExactSameCoreRow.holds Try.pinned (OpenSpec.ofChange fnExactSameCoreWrong)

/-- 'laws.FnExactSameBook': WHATEVER THE INPUT: true; the input reads as it did. -/
def fnExactSameBookSpec : ChangeSpec := { name := "fnExactSameBook", fn := fun _ => fun
  | [d1, d2] => { results := [.lit (.bool true)], args := [d1, d2] }
  | _ => none }
def fnExactSameBookRow : OpenClaim := { program := "ytgbiefjokohkkaa", sum := "41e1b34666ae1de957c6c4f7bf5cf4dd10e0139bd7bd8de80c9d65a4e7da8bfe", func := "loop.example/g01074/laws.FnExactSameBook", spec := "fnExactSameBook", unfollowed := true, recurses := true, loops := true, apart := false }
def FnExactSameBookSaid : Prop := fnExactSameBookRow.holds Try.pinned (OpenSpec.ofChange fnExactSameBookSpec)

/-- ITS FALSE NEIGHBOUR: 'it returns false'. Refute it at one input. -/
def fnExactSameBookWrong : ChangeSpec := { name := "fnExactSameBook", fn := fun _ => fun
  | [d1, d2] => { results := [.lit (.bool false)], args := [d1, d2] }
  | _ => none }
def FnExactSameBookWrongFalsely : Prop := fnExactSameBookRow.holds Try.pinned (OpenSpec.ofChange fnExactSameBookWrong)

/-- 'laws.FnExactValidCore': WHATEVER THE INPUT: true; the input reads as it did. -/
def fnExactValidCoreSpec : ChangeSpec := { name := "fnExactValidCore", fn := fun _ => fun
  | [d] => { results := [.lit (.bool true)], args := [d] }
  | _ => none }
def fnExactValidCoreRow : OpenClaim := { program := "ytgbiefjokohkkaa", sum := "41e1b34666ae1de957c6c4f7bf5cf4dd10e0139bd7bd8de80c9d65a4e7da8bfe", func := "loop.example/g01074/laws.FnExactValidCore", spec := "fnExactValidCore", unfollowed := true, recurses := true, loops := true, apart := false }
def FnExactValidCoreSaid : Prop := fnExactValidCoreRow.holds Try.pinned (OpenSpec.ofChange fnExactValidCoreSpec)

/-- ITS FALSE NEIGHBOUR: 'it returns false'. Refute it at one input. -/
def fnExactValidCoreWrong : ChangeSpec := { name := "fnExactValidCore", fn := fun _ => fun
  | [d] => { results := [.lit (.bool false)], args := [d] }
  | _ => none }
def FnExactValidCoreWrongFalsely : Prop := fnExactValidCoreRow.holds Try.pinned (OpenSpec.ofChange fnExactValidCoreWrong)

/-- 'laws.FnExactCoreSize': WHATEVER THE INPUT: true; the input reads as it did. -/
def fnExactCoreSizeSpec : ChangeSpec := { name := "fnExactCoreSize", fn := fun _ => fun
  | [d] => { results := [.lit (.bool true)], args := [d] }
  | _ => none }
def fnExactCoreSizeRow : OpenClaim := { program := "ytgbiefjokohkkaa", sum := "41e1b34666ae1de957c6c4f7bf5cf4dd10e0139bd7bd8de80c9d65a4e7da8bfe", func := "loop.example/g01074/laws.FnExactCoreSize", spec := "fnExactCoreSize", unfollowed := true, recurses := true, loops := true, apart := false }
def FnExactCoreSizeSaid : Prop := fnExactCoreSizeRow.holds Try.pinned (OpenSpec.ofChange fnExactCoreSizeSpec)

/-- ITS FALSE NEIGHBOUR: 'it returns false'. Refute it at one input. -/
def fnExactCoreSizeWrong : ChangeSpec := { name := "fnExactCoreSize", fn := fun _ => fun
  | [d] => { results := [.lit (.bool false)], args := [d] }
  | _ => none }
def FnExactCoreSizeWrongFalsely : Prop := fnExactCoreSizeRow.holds Try.pinned (OpenSpec.ofChange fnExactCoreSizeWrong)

/-- 'laws.FnExactIsErased': WHATEVER THE INPUT: true; the input reads as it did. -/
def fnExactIsErasedSpec : ChangeSpec := { name := "fnExactIsErased", fn := fun _ => fun
  | [d] => { results := [.lit (.bool true)], args := [d] }
  | _ => none }
def fnExactIsErasedRow : OpenClaim := { program := "ytgbiefjokohkkaa", sum := "41e1b34666ae1de957c6c4f7bf5cf4dd10e0139bd7bd8de80c9d65a4e7da8bfe", func := "loop.example/g01074/laws.FnExactIsErased", spec := "fnExactIsErased", unfollowed := true, recurses := true, loops := true, apart := false }
def FnExactIsErasedSaid : Prop := fnExactIsErasedRow.holds Try.pinned (OpenSpec.ofChange fnExactIsErasedSpec)

/-- ITS FALSE NEIGHBOUR: 'it returns false'. Refute it at one input. -/
def fnExactIsErasedWrong : ChangeSpec := { name := "fnExactIsErased", fn := fun _ => fun
  | [d] => { results := [.lit (.bool false)], args := [d] }
  | _ => none }
def FnExactIsErasedWrongFalsely : Prop := fnExactIsErasedRow.holds Try.pinned (OpenSpec.ofChange fnExactIsErasedWrong)

/-- 'laws.FnExactIsClosed': WHATEVER THE INPUT: true; the input reads as it did. -/
def fnExactIsClosedSpec : ChangeSpec := { name := "fnExactIsClosed", fn := fun _ => fun
  | [d] => { results := [.lit (.bool true)], args := [d] }
  | _ => none }
def fnExactIsClosedRow : OpenClaim := { program := "ytgbiefjokohkkaa", sum := "41e1b34666ae1de957c6c4f7bf5cf4dd10e0139bd7bd8de80c9d65a4e7da8bfe", func := "loop.example/g01074/laws.FnExactIsClosed", spec := "fnExactIsClosed", unfollowed := true, recurses := true, loops := true, apart := false }
def FnExactIsClosedSaid : Prop := fnExactIsClosedRow.holds Try.pinned (OpenSpec.ofChange fnExactIsClosedSpec)

/-- ITS FALSE NEIGHBOUR: 'it returns false'. Refute it at one input. -/
def fnExactIsClosedWrong : ChangeSpec := { name := "fnExactIsClosed", fn := fun _ => fun
  | [d] => { results := [.lit (.bool false)], args := [d] }
  | _ => none }
def FnExactIsClosedWrongFalsely : Prop := fnExactIsClosedRow.holds Try.pinned (OpenSpec.ofChange fnExactIsClosedWrong)

/-- 'laws.FnExactCountVar': WHATEVER THE INPUT: true; the input reads as it did. -/
def fnExactCountVarSpec : ChangeSpec := { name := "fnExactCountVar", fn := fun _ => fun
  | [d1, d2] => { results := [.lit (.bool true)], args := [d1, d2] }
  | _ => none }
def fnExactCountVarRow : OpenClaim := { program := "ytgbiefjokohkkaa", sum := "41e1b34666ae1de957c6c4f7bf5cf4dd10e0139bd7bd8de80c9d65a4e7da8bfe", func := "loop.example/g01074/laws.FnExactCountVar", spec := "fnExactCountVar", unfollowed := true, recurses := true, loops := true, apart := false }
def FnExactCountVarSaid : Prop := fnExactCountVarRow.holds Try.pinned (OpenSpec.ofChange fnExactCountVarSpec)

/-- ITS FALSE NEIGHBOUR: 'it returns false'. Refute it at one input. -/
def fnExactCountVarWrong : ChangeSpec := { name := "fnExactCountVar", fn := fun _ => fun
  | [d1, d2] => { results := [.lit (.bool false)], args := [d1, d2] }
  | _ => none }
def FnExactCountVarWrongFalsely : Prop := fnExactCountVarRow.holds Try.pinned (OpenSpec.ofChange fnExactCountVarWrong)

/-- 'laws.FnExactValidBook': WHATEVER THE INPUT: true; the input reads as it did. -/
def fnExactValidBookSpec : ChangeSpec := { name := "fnExactValidBook", fn := fun _ => fun
  | [d] => { results := [.lit (.bool true)], args := [d] }
  | _ => none }
def fnExactValidBookRow : OpenClaim := { program := "ytgbiefjokohkkaa", sum := "41e1b34666ae1de957c6c4f7bf5cf4dd10e0139bd7bd8de80c9d65a4e7da8bfe", func := "loop.example/g01074/laws.FnExactValidBook", spec := "fnExactValidBook", unfollowed := true, recurses := true, loops := true, apart := false }
def FnExactValidBookSaid : Prop := fnExactValidBookRow.holds Try.pinned (OpenSpec.ofChange fnExactValidBookSpec)

/-- ITS FALSE NEIGHBOUR: 'it returns false'. Refute it at one input. -/
def fnExactValidBookWrong : ChangeSpec := { name := "fnExactValidBook", fn := fun _ => fun
  | [d] => { results := [.lit (.bool false)], args := [d] }
  | _ => none }
def FnExactValidBookWrongFalsely : Prop := fnExactValidBookRow.holds Try.pinned (OpenSpec.ofChange fnExactValidBookWrong)

/-- 'laws.FnExactIsStratified': WHATEVER THE INPUT: true; the input reads as it did. -/
def fnExactIsStratifiedSpec : ChangeSpec := { name := "fnExactIsStratified", fn := fun _ => fun
  | [d] => { results := [.lit (.bool true)], args := [d] }
  | _ => none }
def fnExactIsStratifiedRow : OpenClaim := { program := "ytgbiefjokohkkaa", sum := "41e1b34666ae1de957c6c4f7bf5cf4dd10e0139bd7bd8de80c9d65a4e7da8bfe", func := "loop.example/g01074/laws.FnExactIsStratified", spec := "fnExactIsStratified", unfollowed := true, recurses := true, loops := true, apart := false }
def FnExactIsStratifiedSaid : Prop := fnExactIsStratifiedRow.holds Try.pinned (OpenSpec.ofChange fnExactIsStratifiedSpec)

/-- ITS FALSE NEIGHBOUR: 'it returns false'. Refute it at one input. -/
def fnExactIsStratifiedWrong : ChangeSpec := { name := "fnExactIsStratified", fn := fun _ => fun
  | [d] => { results := [.lit (.bool false)], args := [d] }
  | _ => none }
def FnExactIsStratifiedWrongFalsely : Prop := fnExactIsStratifiedRow.holds Try.pinned (OpenSpec.ofChange fnExactIsStratifiedWrong)

/-- 'laws.FnExactIsNormal': WHATEVER THE INPUT: true; the input reads as it did. -/
def fnExactIsNormalSpec : ChangeSpec := { name := "fnExactIsNormal", fn := fun _ => fun
  | [d1, d2] => { results := [.lit (.bool true)], args := [d1, d2] }
  | _ => none }
def fnExactIsNormalRow : OpenClaim := { program := "ytgbiefjokohkkaa", sum := "41e1b34666ae1de957c6c4f7bf5cf4dd10e0139bd7bd8de80c9d65a4e7da8bfe", func := "loop.example/g01074/laws.FnExactIsNormal", spec := "fnExactIsNormal", unfollowed := true, recurses := true, loops := true, apart := false }
def FnExactIsNormalSaid : Prop := fnExactIsNormalRow.holds Try.pinned (OpenSpec.ofChange fnExactIsNormalSpec)

/-- ITS FALSE NEIGHBOUR: 'it returns false'. Refute it at one input. -/
def fnExactIsNormalWrong : ChangeSpec := { name := "fnExactIsNormal", fn := fun _ => fun
  | [d1, d2] => { results := [.lit (.bool false)], args := [d1, d2] }
  | _ => none }
def FnExactIsNormalWrongFalsely : Prop := fnExactIsNormalRow.holds Try.pinned (OpenSpec.ofChange fnExactIsNormalWrong)

/-- 'laws.FnExactSameNeed': WHATEVER THE INPUT: true; the input reads as it did. -/
def fnExactSameNeedSpec : ChangeSpec := { name := "fnExactSameNeed", fn := fun _ => fun
  | [d1, d2] => { results := [.lit (.bool true)], args := [d1, d2] }
  | _ => none }
def fnExactSameNeedRow : OpenClaim := { program := "ytgbiefjokohkkaa", sum := "41e1b34666ae1de957c6c4f7bf5cf4dd10e0139bd7bd8de80c9d65a4e7da8bfe", func := "loop.example/g01074/laws.FnExactSameNeed", spec := "fnExactSameNeed", unfollowed := true, recurses := true, loops := true, apart := false }
def FnExactSameNeedSaid : Prop := fnExactSameNeedRow.holds Try.pinned (OpenSpec.ofChange fnExactSameNeedSpec)

/-- ITS FALSE NEIGHBOUR: 'it returns false'. Refute it at one input. -/
def fnExactSameNeedWrong : ChangeSpec := { name := "fnExactSameNeed", fn := fun _ => fun
  | [d1, d2] => { results := [.lit (.bool false)], args := [d1, d2] }
  | _ => none }
def FnExactSameNeedWrongFalsely : Prop := fnExactSameNeedRow.holds Try.pinned (OpenSpec.ofChange fnExactSameNeedWrong)

/- THE SECOND FORM. 'bulk': how many values and letters a reading holds, each counted each time it is reached (what is shared counts as often as it is met; a slice's spare places count too). A statement '..UptoSaid' is the law's where the arguments, and the package variables that the reading takes, are together of bulk at most 1048576: NARROWER than '..Said'. Prove '..Said' where nothing that the law and all that it calls make is longer than what came in: it says more and counts as full. Else prove '..UptoSaid'. A law counts once. -/
mutual
def uptoBulk {H : Type} : DataW H → Nat
  | .lit (.string bytes) => bytes.length + 1
  | .lit _ => 1
  | .nil => 1
  | .ptr d => uptoBulk d + 1
  | .slice elems spare => uptoBulkAll elems + uptoBulkAll spare + 1
  | .agg parts => uptoBulkAll parts + 1
  | .iface _ d => uptoBulk d + 1
  | .map entries => uptoBulkEntries entries + 1
  | .held _ => 1
def uptoBulkAll {H : Type} : List (DataW H) → Nat
  | [] => 0
  | d :: r => uptoBulk d + uptoBulkAll r
def uptoBulkEntries {H : Type} : List (Lit × DataW H) → Nat
  | [] => 0
  | x :: r => uptoBulkEntry x + uptoBulkEntries r
def uptoBulkEntry {H : Type} : Lit × DataW H → Nat
  | (.string bytes, d) => bytes.length + uptoBulk d + 1
  | (_, d) => uptoBulk d + 1
 end
def uptoSmall : (H : Type) → List (DataW H) → Bool := fun _ ds => decide (uptoBulkAll ds ≤ 1048576)
def OpenSpec.upto (s : _root_.Go.ChangeSpec) : _root_.Go.OpenSpec := { _root_.Go.OpenSpec.ofChange s with cond := some uptoSmall }

/-- 'laws.FnExactSameCore', WHERE WHAT IT READS IS OF BULK AT MOST 1048576: true; the input reads as it did. -/
def fnExactSameCoreUptoRow : OpenClaim := { program := "ytgbiefjokohkkaa", sum := "41e1b34666ae1de957c6c4f7bf5cf4dd10e0139bd7bd8de80c9d65a4e7da8bfe", func := "loop.example/g01074/laws.FnExactSameCore", spec := "fnExactSameCore", unfollowed := true, recurses := true, loops := true, apart := false, narrowed := true }
def FnExactSameCoreUptoSaid : Prop := fnExactSameCoreUptoRow.holds Try.pinned (OpenSpec.upto fnExactSameCoreSpec)

/-- 'laws.FnExactSameBook', WHERE WHAT IT READS IS OF BULK AT MOST 1048576: true; the input reads as it did. -/
def fnExactSameBookUptoRow : OpenClaim := { program := "ytgbiefjokohkkaa", sum := "41e1b34666ae1de957c6c4f7bf5cf4dd10e0139bd7bd8de80c9d65a4e7da8bfe", func := "loop.example/g01074/laws.FnExactSameBook", spec := "fnExactSameBook", unfollowed := true, recurses := true, loops := true, apart := false, narrowed := true }
def FnExactSameBookUptoSaid : Prop := fnExactSameBookUptoRow.holds Try.pinned (OpenSpec.upto fnExactSameBookSpec)

/-- 'laws.FnExactValidCore', WHERE WHAT IT READS IS OF BULK AT MOST 1048576: true; the input reads as it did. -/
def fnExactValidCoreUptoRow : OpenClaim := { program := "ytgbiefjokohkkaa", sum := "41e1b34666ae1de957c6c4f7bf5cf4dd10e0139bd7bd8de80c9d65a4e7da8bfe", func := "loop.example/g01074/laws.FnExactValidCore", spec := "fnExactValidCore", unfollowed := true, recurses := true, loops := true, apart := false, narrowed := true }
def FnExactValidCoreUptoSaid : Prop := fnExactValidCoreUptoRow.holds Try.pinned (OpenSpec.upto fnExactValidCoreSpec)

/-- 'laws.FnExactCoreSize', WHERE WHAT IT READS IS OF BULK AT MOST 1048576: true; the input reads as it did. -/
def fnExactCoreSizeUptoRow : OpenClaim := { program := "ytgbiefjokohkkaa", sum := "41e1b34666ae1de957c6c4f7bf5cf4dd10e0139bd7bd8de80c9d65a4e7da8bfe", func := "loop.example/g01074/laws.FnExactCoreSize", spec := "fnExactCoreSize", unfollowed := true, recurses := true, loops := true, apart := false, narrowed := true }
def FnExactCoreSizeUptoSaid : Prop := fnExactCoreSizeUptoRow.holds Try.pinned (OpenSpec.upto fnExactCoreSizeSpec)

/-- 'laws.FnExactIsErased', WHERE WHAT IT READS IS OF BULK AT MOST 1048576: true; the input reads as it did. -/
def fnExactIsErasedUptoRow : OpenClaim := { program := "ytgbiefjokohkkaa", sum := "41e1b34666ae1de957c6c4f7bf5cf4dd10e0139bd7bd8de80c9d65a4e7da8bfe", func := "loop.example/g01074/laws.FnExactIsErased", spec := "fnExactIsErased", unfollowed := true, recurses := true, loops := true, apart := false, narrowed := true }
def FnExactIsErasedUptoSaid : Prop := fnExactIsErasedUptoRow.holds Try.pinned (OpenSpec.upto fnExactIsErasedSpec)

/-- 'laws.FnExactIsClosed', WHERE WHAT IT READS IS OF BULK AT MOST 1048576: true; the input reads as it did. -/
def fnExactIsClosedUptoRow : OpenClaim := { program := "ytgbiefjokohkkaa", sum := "41e1b34666ae1de957c6c4f7bf5cf4dd10e0139bd7bd8de80c9d65a4e7da8bfe", func := "loop.example/g01074/laws.FnExactIsClosed", spec := "fnExactIsClosed", unfollowed := true, recurses := true, loops := true, apart := false, narrowed := true }
def FnExactIsClosedUptoSaid : Prop := fnExactIsClosedUptoRow.holds Try.pinned (OpenSpec.upto fnExactIsClosedSpec)

/-- 'laws.FnExactCountVar', WHERE WHAT IT READS IS OF BULK AT MOST 1048576: true; the input reads as it did. -/
def fnExactCountVarUptoRow : OpenClaim := { program := "ytgbiefjokohkkaa", sum := "41e1b34666ae1de957c6c4f7bf5cf4dd10e0139bd7bd8de80c9d65a4e7da8bfe", func := "loop.example/g01074/laws.FnExactCountVar", spec := "fnExactCountVar", unfollowed := true, recurses := true, loops := true, apart := false, narrowed := true }
def FnExactCountVarUptoSaid : Prop := fnExactCountVarUptoRow.holds Try.pinned (OpenSpec.upto fnExactCountVarSpec)

/-- 'laws.FnExactValidBook', WHERE WHAT IT READS IS OF BULK AT MOST 1048576: true; the input reads as it did. -/
def fnExactValidBookUptoRow : OpenClaim := { program := "ytgbiefjokohkkaa", sum := "41e1b34666ae1de957c6c4f7bf5cf4dd10e0139bd7bd8de80c9d65a4e7da8bfe", func := "loop.example/g01074/laws.FnExactValidBook", spec := "fnExactValidBook", unfollowed := true, recurses := true, loops := true, apart := false, narrowed := true }
def FnExactValidBookUptoSaid : Prop := fnExactValidBookUptoRow.holds Try.pinned (OpenSpec.upto fnExactValidBookSpec)

/-- 'laws.FnExactIsStratified', WHERE WHAT IT READS IS OF BULK AT MOST 1048576: true; the input reads as it did. -/
def fnExactIsStratifiedUptoRow : OpenClaim := { program := "ytgbiefjokohkkaa", sum := "41e1b34666ae1de957c6c4f7bf5cf4dd10e0139bd7bd8de80c9d65a4e7da8bfe", func := "loop.example/g01074/laws.FnExactIsStratified", spec := "fnExactIsStratified", unfollowed := true, recurses := true, loops := true, apart := false, narrowed := true }
def FnExactIsStratifiedUptoSaid : Prop := fnExactIsStratifiedUptoRow.holds Try.pinned (OpenSpec.upto fnExactIsStratifiedSpec)

/-- 'laws.FnExactIsNormal', WHERE WHAT IT READS IS OF BULK AT MOST 1048576: true; the input reads as it did. -/
def fnExactIsNormalUptoRow : OpenClaim := { program := "ytgbiefjokohkkaa", sum := "41e1b34666ae1de957c6c4f7bf5cf4dd10e0139bd7bd8de80c9d65a4e7da8bfe", func := "loop.example/g01074/laws.FnExactIsNormal", spec := "fnExactIsNormal", unfollowed := true, recurses := true, loops := true, apart := false, narrowed := true }
def FnExactIsNormalUptoSaid : Prop := fnExactIsNormalUptoRow.holds Try.pinned (OpenSpec.upto fnExactIsNormalSpec)

/-- 'laws.FnExactSameNeed', WHERE WHAT IT READS IS OF BULK AT MOST 1048576: true; the input reads as it did. -/
def fnExactSameNeedUptoRow : OpenClaim := { program := "ytgbiefjokohkkaa", sum := "41e1b34666ae1de957c6c4f7bf5cf4dd10e0139bd7bd8de80c9d65a4e7da8bfe", func := "loop.example/g01074/laws.FnExactSameNeed", spec := "fnExactSameNeed", unfollowed := true, recurses := true, loops := true, apart := false, narrowed := true }
def FnExactSameNeedUptoSaid : Prop := fnExactSameNeedUptoRow.holds Try.pinned (OpenSpec.upto fnExactSameNeedSpec)

end Rows
end Go.Proofs.Ytgbiefjokohkkaa
