/-
  NARROWER THAN 'FOR EVERY INPUT', by the rows' own cells (each row's printed sentence says how): FnExactUsedDefs: loops · FnExactCheckNames: loops · FnExactReachableDefs: loops.
  DERIVED. THE GIVEN ROWS OF THIS SEAT. 3 by the template 'for every input the law returns true; each argument reads behind the call as it read before'; 0 by the template 'total and deterministic' (their statements: YtgpefnlpbjnjbaaGreatTotals.lean).
  GIVEN WITH THE SEED: the statements are not yours to turn. If you find one false, say at which input.
  Laid BY PROGRAM, IN A SANDBOX (cutbox-rows.mjs): the forced cells as the released guide's own fill.sh prints them over the translation 9ee1cad5d3fd6868… (all of the seat's roots in one cut). By AI agents, Wed Nov 11 2026. No macro, syntax, notation, axiom, sorry.
-/
import Derived.Test.YtgpefnlpbjnjbaaGreatChecked
import GoSem.Claim
import GoSem.ClaimJoined
import GoSem.ClaimMapViews
import Derived.JoinedTies
import Derived.KernelRfl
namespace Go.Proofs.YtgpefnlpbjnjbaaGreat
/- THE CELL 'sum', in the pinned program and in every row, IS THE sha256 OF THE DUMP (.gsa) THAT YtgpefnlpbjnjbaaGreatProg.lean LOADS. Nothing in Lean hashes anything: it is a label: what it is worth is what the hold of that sum in a sandbox is worth. -/
noncomputable def Tryz.pinned : Pinned := { name := "ytgpefnlpbjnjbaagreat", sum := "9ee1cad5d3fd686892ac946359a68d6c72fe060eca2bbe2c1ab9e6c638ef90df", checked := Tryz.checked }
namespace Rows
def none {H : Type} : Left H := { results := [], args := [] }

/-- 'laws.FnExactUsedDefs': WHATEVER THE INPUT: true; the input reads as it did. -/
def fnExactUsedDefsSpec : ChangeSpec := { name := "fnExactUsedDefs", fn := fun _ => fun
  | [d1, d2] => { results := [.lit (.bool true)], args := [d1, d2] }
  | _ => none }
def fnExactUsedDefsRow : OpenClaim := { program := "ytgpefnlpbjnjbaagreat", sum := "9ee1cad5d3fd686892ac946359a68d6c72fe060eca2bbe2c1ab9e6c638ef90df", func := "loop.example/g01074/laws.FnExactUsedDefs", spec := "fnExactUsedDefs", unfollowed := true, recurses := true, loops := true, apart := false }
def FnExactUsedDefsSaid : Prop := fnExactUsedDefsRow.holds Tryz.pinned (OpenSpec.ofChange fnExactUsedDefsSpec)

/-- ITS FALSE NEIGHBOUR: 'it returns false'. Refute it at one input. -/
def fnExactUsedDefsWrong : ChangeSpec := { name := "fnExactUsedDefs", fn := fun _ => fun
  | [d1, d2] => { results := [.lit (.bool false)], args := [d1, d2] }
  | _ => none }
def FnExactUsedDefsWrongFalsely : Prop := fnExactUsedDefsRow.holds Tryz.pinned (OpenSpec.ofChange fnExactUsedDefsWrong)

/-- 'laws.FnExactCheckNames': WHATEVER THE INPUT: true; the input reads as it did. -/
def fnExactCheckNamesSpec : ChangeSpec := { name := "fnExactCheckNames", fn := fun _ => fun
  | [d] => { results := [.lit (.bool true)], args := [d] }
  | _ => none }
def fnExactCheckNamesRow : OpenClaim := { program := "ytgpefnlpbjnjbaagreat", sum := "9ee1cad5d3fd686892ac946359a68d6c72fe060eca2bbe2c1ab9e6c638ef90df", func := "loop.example/g01074/laws.FnExactCheckNames", spec := "fnExactCheckNames", unfollowed := true, recurses := true, loops := true, apart := false }
def FnExactCheckNamesSaid : Prop := fnExactCheckNamesRow.holds Tryz.pinned (OpenSpec.ofChange fnExactCheckNamesSpec)

/-- ITS FALSE NEIGHBOUR: 'it returns false'. Refute it at one input. -/
def fnExactCheckNamesWrong : ChangeSpec := { name := "fnExactCheckNames", fn := fun _ => fun
  | [d] => { results := [.lit (.bool false)], args := [d] }
  | _ => none }
def FnExactCheckNamesWrongFalsely : Prop := fnExactCheckNamesRow.holds Tryz.pinned (OpenSpec.ofChange fnExactCheckNamesWrong)

/-- 'laws.FnExactReachableDefs': WHATEVER THE INPUT: true; the input reads as it did. -/
def fnExactReachableDefsSpec : ChangeSpec := { name := "fnExactReachableDefs", fn := fun _ => fun
  | [d1, d2] => { results := [.lit (.bool true)], args := [d1, d2] }
  | _ => none }
def fnExactReachableDefsRow : OpenClaim := { program := "ytgpefnlpbjnjbaagreat", sum := "9ee1cad5d3fd686892ac946359a68d6c72fe060eca2bbe2c1ab9e6c638ef90df", func := "loop.example/g01074/laws.FnExactReachableDefs", spec := "fnExactReachableDefs", unfollowed := true, recurses := true, loops := true, apart := false }
def FnExactReachableDefsSaid : Prop := fnExactReachableDefsRow.holds Tryz.pinned (OpenSpec.ofChange fnExactReachableDefsSpec)

/-- ITS FALSE NEIGHBOUR: 'it returns false'. Refute it at one input. -/
def fnExactReachableDefsWrong : ChangeSpec := { name := "fnExactReachableDefs", fn := fun _ => fun
  | [d1, d2] => { results := [.lit (.bool false)], args := [d1, d2] }
  | _ => none }
def FnExactReachableDefsWrongFalsely : Prop := fnExactReachableDefsRow.holds Tryz.pinned (OpenSpec.ofChange fnExactReachableDefsWrong)

/- THE SECOND FORM. 'bulk': how many values and letters a reading holds, each counted each time it is reached (what is shared counts as often as it is met; a slice's spare places count too). A statement '..UptoSaid' is the law's where the arguments, and the package variables that the reading takes, are together of bulk at most 1048576: NARROWER than '..Said'. Prove '..Said' where nothing that the law and all that it calls make is longer than what came in: it says more and counts as full. Else prove '..UptoSaid'. A law counts once. -/
mutual
def uptoBulk {H : Type} : DataW H → Nat
  | .lit (.string bytes) => bytes.length + 1
  | .lit _ => 1
  | .nil => 1
  | .ptr d => uptoBulk d + 1
  | .slice elems spare => uptoBulkAll elems + uptoBulkAll spare + 1
  | .agg parts => uptoBulkAll parts + 1
  | .iface _ d => uptoBulk d + 1
  | .map entries => uptoBulkEntries entries + 1
  | .held _ => 1
def uptoBulkAll {H : Type} : List (DataW H) → Nat
  | [] => 0
  | d :: r => uptoBulk d + uptoBulkAll r
def uptoBulkEntries {H : Type} : List (Lit × DataW H) → Nat
  | [] => 0
  | x :: r => uptoBulkEntry x + uptoBulkEntries r
def uptoBulkEntry {H : Type} : Lit × DataW H → Nat
  | (.string bytes, d) => bytes.length + uptoBulk d + 1
  | (_, d) => uptoBulk d + 1
 end
def uptoSmall : (H : Type) → List (DataW H) → Bool := fun _ ds => decide (uptoBulkAll ds ≤ 1048576)
def OpenSpec.upto (s : _root_.Go.ChangeSpec) : _root_.Go.OpenSpec := { _root_.Go.OpenSpec.ofChange s with cond := some uptoSmall }

/-- 'laws.FnExactUsedDefs', WHERE WHAT IT READS IS OF BULK AT MOST 1048576: true; the input reads as it did. -/
def fnExactUsedDefsUptoRow : OpenClaim := { program := "ytgpefnlpbjnjbaagreat", sum := "9ee1cad5d3fd686892ac946359a68d6c72fe060eca2bbe2c1ab9e6c638ef90df", func := "loop.example/g01074/laws.FnExactUsedDefs", spec := "fnExactUsedDefs", unfollowed := true, recurses := true, loops := true, apart := false, narrowed := true }
def FnExactUsedDefsUptoSaid : Prop := fnExactUsedDefsUptoRow.holds Tryz.pinned (OpenSpec.upto fnExactUsedDefsSpec)

/-- 'laws.FnExactCheckNames', WHERE WHAT IT READS IS OF BULK AT MOST 1048576: true; the input reads as it did. -/
def fnExactCheckNamesUptoRow : OpenClaim := { program := "ytgpefnlpbjnjbaagreat", sum := "9ee1cad5d3fd686892ac946359a68d6c72fe060eca2bbe2c1ab9e6c638ef90df", func := "loop.example/g01074/laws.FnExactCheckNames", spec := "fnExactCheckNames", unfollowed := true, recurses := true, loops := true, apart := false, narrowed := true }
def FnExactCheckNamesUptoSaid : Prop := fnExactCheckNamesUptoRow.holds Tryz.pinned (OpenSpec.upto fnExactCheckNamesSpec)

/-- 'laws.FnExactReachableDefs', WHERE WHAT IT READS IS OF BULK AT MOST 1048576: true; the input reads as it did. -/
def fnExactReachableDefsUptoRow : OpenClaim := { program := "ytgpefnlpbjnjbaagreat", sum := "9ee1cad5d3fd686892ac946359a68d6c72fe060eca2bbe2c1ab9e6c638ef90df", func := "loop.example/g01074/laws.FnExactReachableDefs", spec := "fnExactReachableDefs", unfollowed := true, recurses := true, loops := true, apart := false, narrowed := true }
def FnExactReachableDefsUptoSaid : Prop := fnExactReachableDefsUptoRow.holds Tryz.pinned (OpenSpec.upto fnExactReachableDefsSpec)

end Rows
end Go.Proofs.YtgpefnlpbjnjbaaGreat
