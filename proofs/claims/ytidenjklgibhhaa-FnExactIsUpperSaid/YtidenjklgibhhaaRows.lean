/-
  No cell of these rows narrows 'for every input' (looked for: loops, veiled, ifaces, maps, wideKeys, modest, calm, conditions, laid).
  DERIVED. THE GIVEN ROWS OF THIS SEAT. 10 by the template 'for every input the law returns true; each argument reads behind the call as it read before'; 0 by the template 'total and deterministic' (their statements: YtidenjklgibhhaaTotals.lean).
  GIVEN WITH THE SEED: the statements are not yours to turn. If you find one false, say at which input.
  Laid BY PROGRAM, IN A SANDBOX (cutbox-rows.mjs): the forced cells as the released guide's own fill.sh prints them over the translation 6c8adf5ed7a20a1d… (all of the seat's roots in one cut). By AI agents, Wed Nov 11 2026. No macro, syntax, notation, axiom, sorry.
-/
import Derived.Test.YtidenjklgibhhaaChecked
import GoSem.Claim
import GoSem.ClaimJoined
import GoSem.ClaimMapViews
import Derived.JoinedTies
import Derived.KernelRfl
namespace Go.Proofs.Ytidenjklgibhhaa
/- THE CELL 'sum', in the pinned program and in every row, IS THE sha256 OF THE DUMP (.gsa) THAT YtidenjklgibhhaaProg.lean LOADS. Nothing in Lean hashes anything: it is a label: what it is worth is what the hold of that sum in a sandbox is worth. -/
noncomputable def Try.pinned : Pinned := { name := "ytidenjklgibhhaa", sum := "6c8adf5ed7a20a1d756b0a4e9ba613f99fee9a9f5cdae1d65e1c3e0cea0f47e3", checked := Try.checked }
namespace Rows
def none {H : Type} : Left H := { results := [], args := [] }

/-- 'laws.FnExactConstants': WHATEVER THE INPUT: true; the input reads as it did. -/
def fnExactConstantsSpec : ChangeSpec := { name := "fnExactConstants", fn := fun _ => fun
  | [] => { results := [.lit (.bool true)], args := [] }
  | _ => none }
def fnExactConstantsRow : OpenClaim := { program := "ytidenjklgibhhaa", sum := "6c8adf5ed7a20a1d756b0a4e9ba613f99fee9a9f5cdae1d65e1c3e0cea0f47e3", func := "loop.example/g01074/laws.FnExactConstants", spec := "fnExactConstants", apart := false }
def FnExactConstantsSaid : Prop := fnExactConstantsRow.holds Try.pinned (OpenSpec.ofChange fnExactConstantsSpec)

/-- ITS FALSE NEIGHBOUR: 'it returns false'. Refute it at one input. -/
def fnExactConstantsWrong : ChangeSpec := { name := "fnExactConstants", fn := fun _ => fun
  | [] => { results := [.lit (.bool false)], args := [] }
  | _ => none }
def FnExactConstantsWrongFalsely : Prop := fnExactConstantsRow.holds Try.pinned (OpenSpec.ofChange fnExactConstantsWrong)

/-- 'laws.FnExactWrap32': WHATEVER THE INPUT: true; the input reads as it did. -/
def fnExactWrap32Spec : ChangeSpec := { name := "fnExactWrap32", fn := fun _ => fun
  | [d] => { results := [.lit (.bool true)], args := [d] }
  | _ => none }
def fnExactWrap32Row : OpenClaim := { program := "ytidenjklgibhhaa", sum := "6c8adf5ed7a20a1d756b0a4e9ba613f99fee9a9f5cdae1d65e1c3e0cea0f47e3", func := "loop.example/g01074/laws.FnExactWrap32", spec := "fnExactWrap32", apart := false }
def FnExactWrap32Said : Prop := fnExactWrap32Row.holds Try.pinned (OpenSpec.ofChange fnExactWrap32Spec)

/-- ITS FALSE NEIGHBOUR: 'it returns false'. Refute it at one input. -/
def fnExactWrap32Wrong : ChangeSpec := { name := "fnExactWrap32", fn := fun _ => fun
  | [d] => { results := [.lit (.bool false)], args := [d] }
  | _ => none }
def FnExactWrap32WrongFalsely : Prop := fnExactWrap32Row.holds Try.pinned (OpenSpec.ofChange fnExactWrap32Wrong)

/-- 'laws.FnExactOperatorText': WHATEVER THE INPUT: true; the input reads as it did. -/
def fnExactOperatorTextSpec : ChangeSpec := { name := "fnExactOperatorText", fn := fun _ => fun
  | [d] => { results := [.lit (.bool true)], args := [d] }
  | _ => none }
def fnExactOperatorTextRow : OpenClaim := { program := "ytidenjklgibhhaa", sum := "6c8adf5ed7a20a1d756b0a4e9ba613f99fee9a9f5cdae1d65e1c3e0cea0f47e3", func := "loop.example/g01074/laws.FnExactOperatorText", spec := "fnExactOperatorText", apart := false }
def FnExactOperatorTextSaid : Prop := fnExactOperatorTextRow.holds Try.pinned (OpenSpec.ofChange fnExactOperatorTextSpec)

/-- ITS FALSE NEIGHBOUR: 'it returns false'. Refute it at one input. -/
def fnExactOperatorTextWrong : ChangeSpec := { name := "fnExactOperatorText", fn := fun _ => fun
  | [d] => { results := [.lit (.bool false)], args := [d] }
  | _ => none }
def FnExactOperatorTextWrongFalsely : Prop := fnExactOperatorTextRow.holds Try.pinned (OpenSpec.ofChange fnExactOperatorTextWrong)

/-- 'laws.FnExactCodeName': WHATEVER THE INPUT: true; the input reads as it did. -/
def fnExactCodeNameSpec : ChangeSpec := { name := "fnExactCodeName", fn := fun _ => fun
  | [d] => { results := [.lit (.bool true)], args := [d] }
  | _ => none }
def fnExactCodeNameRow : OpenClaim := { program := "ytidenjklgibhhaa", sum := "6c8adf5ed7a20a1d756b0a4e9ba613f99fee9a9f5cdae1d65e1c3e0cea0f47e3", func := "loop.example/g01074/laws.FnExactCodeName", spec := "fnExactCodeName", apart := false }
def FnExactCodeNameSaid : Prop := fnExactCodeNameRow.holds Try.pinned (OpenSpec.ofChange fnExactCodeNameSpec)

/-- ITS FALSE NEIGHBOUR: 'it returns false'. Refute it at one input. -/
def fnExactCodeNameWrong : ChangeSpec := { name := "fnExactCodeName", fn := fun _ => fun
  | [d] => { results := [.lit (.bool false)], args := [d] }
  | _ => none }
def FnExactCodeNameWrongFalsely : Prop := fnExactCodeNameRow.holds Try.pinned (OpenSpec.ofChange fnExactCodeNameWrong)

/-- 'laws.FnExactOperatorOf': WHATEVER THE INPUT: true; the input reads as it did. -/
def fnExactOperatorOfSpec : ChangeSpec := { name := "fnExactOperatorOf", fn := fun _ => fun
  | [d] => { results := [.lit (.bool true)], args := [d] }
  | _ => none }
def fnExactOperatorOfRow : OpenClaim := { program := "ytidenjklgibhhaa", sum := "6c8adf5ed7a20a1d756b0a4e9ba613f99fee9a9f5cdae1d65e1c3e0cea0f47e3", func := "loop.example/g01074/laws.FnExactOperatorOf", spec := "fnExactOperatorOf", apart := false }
def FnExactOperatorOfSaid : Prop := fnExactOperatorOfRow.holds Try.pinned (OpenSpec.ofChange fnExactOperatorOfSpec)

/-- ITS FALSE NEIGHBOUR: 'it returns false'. Refute it at one input. -/
def fnExactOperatorOfWrong : ChangeSpec := { name := "fnExactOperatorOf", fn := fun _ => fun
  | [d] => { results := [.lit (.bool false)], args := [d] }
  | _ => none }
def FnExactOperatorOfWrongFalsely : Prop := fnExactOperatorOfRow.holds Try.pinned (OpenSpec.ofChange fnExactOperatorOfWrong)

/-- 'laws.FnExactIsKeyword': WHATEVER THE INPUT: true; the input reads as it did. -/
def fnExactIsKeywordSpec : ChangeSpec := { name := "fnExactIsKeyword", fn := fun _ => fun
  | [d] => { results := [.lit (.bool true)], args := [d] }
  | _ => none }
def fnExactIsKeywordRow : OpenClaim := { program := "ytidenjklgibhhaa", sum := "6c8adf5ed7a20a1d756b0a4e9ba613f99fee9a9f5cdae1d65e1c3e0cea0f47e3", func := "loop.example/g01074/laws.FnExactIsKeyword", spec := "fnExactIsKeyword", apart := false }
def FnExactIsKeywordSaid : Prop := fnExactIsKeywordRow.holds Try.pinned (OpenSpec.ofChange fnExactIsKeywordSpec)

/-- ITS FALSE NEIGHBOUR: 'it returns false'. Refute it at one input. -/
def fnExactIsKeywordWrong : ChangeSpec := { name := "fnExactIsKeyword", fn := fun _ => fun
  | [d] => { results := [.lit (.bool false)], args := [d] }
  | _ => none }
def FnExactIsKeywordWrongFalsely : Prop := fnExactIsKeywordRow.holds Try.pinned (OpenSpec.ofChange fnExactIsKeywordWrong)

/-- 'laws.FnExactIsName': WHATEVER THE INPUT: true; the input reads as it did. -/
def fnExactIsNameSpec : ChangeSpec := { name := "fnExactIsName", fn := fun _ => fun
  | [d] => { results := [.lit (.bool true)], args := [d] }
  | _ => none }
def fnExactIsNameRow : OpenClaim := { program := "ytidenjklgibhhaa", sum := "6c8adf5ed7a20a1d756b0a4e9ba613f99fee9a9f5cdae1d65e1c3e0cea0f47e3", func := "loop.example/g01074/laws.FnExactIsName", spec := "fnExactIsName", apart := false }
def FnExactIsNameSaid : Prop := fnExactIsNameRow.holds Try.pinned (OpenSpec.ofChange fnExactIsNameSpec)

/-- ITS FALSE NEIGHBOUR: 'it returns false'. Refute it at one input. -/
def fnExactIsNameWrong : ChangeSpec := { name := "fnExactIsName", fn := fun _ => fun
  | [d] => { results := [.lit (.bool false)], args := [d] }
  | _ => none }
def FnExactIsNameWrongFalsely : Prop := fnExactIsNameRow.holds Try.pinned (OpenSpec.ofChange fnExactIsNameWrong)

/-- 'laws.FnExactIsLower': WHATEVER THE INPUT: true; the input reads as it did. -/
def fnExactIsLowerSpec : ChangeSpec := { name := "fnExactIsLower", fn := fun _ => fun
  | [d] => { results := [.lit (.bool true)], args := [d] }
  | _ => none }
def fnExactIsLowerRow : OpenClaim := { program := "ytidenjklgibhhaa", sum := "6c8adf5ed7a20a1d756b0a4e9ba613f99fee9a9f5cdae1d65e1c3e0cea0f47e3", func := "loop.example/g01074/laws.FnExactIsLower", spec := "fnExactIsLower", apart := false }
def FnExactIsLowerSaid : Prop := fnExactIsLowerRow.holds Try.pinned (OpenSpec.ofChange fnExactIsLowerSpec)

/-- ITS FALSE NEIGHBOUR: 'it returns false'. Refute it at one input. -/
def fnExactIsLowerWrong : ChangeSpec := { name := "fnExactIsLower", fn := fun _ => fun
  | [d] => { results := [.lit (.bool false)], args := [d] }
  | _ => none }
def FnExactIsLowerWrongFalsely : Prop := fnExactIsLowerRow.holds Try.pinned (OpenSpec.ofChange fnExactIsLowerWrong)

/-- 'laws.FnExactIsUpper': WHATEVER THE INPUT: true; the input reads as it did. -/
def fnExactIsUpperSpec : ChangeSpec := { name := "fnExactIsUpper", fn := fun _ => fun
  | [d] => { results := [.lit (.bool true)], args := [d] }
  | _ => none }
def fnExactIsUpperRow : OpenClaim := { program := "ytidenjklgibhhaa", sum := "6c8adf5ed7a20a1d756b0a4e9ba613f99fee9a9f5cdae1d65e1c3e0cea0f47e3", func := "loop.example/g01074/laws.FnExactIsUpper", spec := "fnExactIsUpper", apart := false }
def FnExactIsUpperSaid : Prop := fnExactIsUpperRow.holds Try.pinned (OpenSpec.ofChange fnExactIsUpperSpec)

/-- ITS FALSE NEIGHBOUR: 'it returns false'. Refute it at one input. -/
def fnExactIsUpperWrong : ChangeSpec := { name := "fnExactIsUpper", fn := fun _ => fun
  | [d] => { results := [.lit (.bool false)], args := [d] }
  | _ => none }
def FnExactIsUpperWrongFalsely : Prop := fnExactIsUpperRow.holds Try.pinned (OpenSpec.ofChange fnExactIsUpperWrong)

/-- 'laws.FnExactOperate': WHATEVER THE INPUT: true; the input reads as it did. -/
def fnExactOperateSpec : ChangeSpec := { name := "fnExactOperate", fn := fun _ => fun
  | [d1, d2, d3] => { results := [.lit (.bool true)], args := [d1, d2, d3] }
  | _ => none }
def fnExactOperateRow : OpenClaim := { program := "ytidenjklgibhhaa", sum := "6c8adf5ed7a20a1d756b0a4e9ba613f99fee9a9f5cdae1d65e1c3e0cea0f47e3", func := "loop.example/g01074/laws.FnExactOperate", spec := "fnExactOperate", apart := false }
def FnExactOperateSaid : Prop := fnExactOperateRow.holds Try.pinned (OpenSpec.ofChange fnExactOperateSpec)

/-- ITS FALSE NEIGHBOUR: 'it returns false'. Refute it at one input. -/
def fnExactOperateWrong : ChangeSpec := { name := "fnExactOperate", fn := fun _ => fun
  | [d1, d2, d3] => { results := [.lit (.bool false)], args := [d1, d2, d3] }
  | _ => none }
def FnExactOperateWrongFalsely : Prop := fnExactOperateRow.holds Try.pinned (OpenSpec.ofChange fnExactOperateWrong)

/- THE SECOND FORM. 'bulk': how many values and letters a reading holds, each counted each time it is reached (what is shared counts as often as it is met; a slice's spare places count too). A statement '..UptoSaid' is the law's where the arguments, and the package variables that the reading takes, are together of bulk at most 1048576: NARROWER than '..Said'. Prove '..Said' where nothing that the law and all that it calls make is longer than what came in: it says more and counts as full. Else prove '..UptoSaid'. A law counts once. -/
mutual
def uptoBulk {H : Type} : DataW H → Nat
  | .lit (.string bytes) => bytes.length + 1
  | .lit _ => 1
  | .nil => 1
  | .ptr d => uptoBulk d + 1
  | .slice elems spare => uptoBulkAll elems + uptoBulkAll spare + 1
  | .agg parts => uptoBulkAll parts + 1
  | .iface _ d => uptoBulk d + 1
  | .map entries => uptoBulkEntries entries + 1
  | .held _ => 1
def uptoBulkAll {H : Type} : List (DataW H) → Nat
  | [] => 0
  | d :: r => uptoBulk d + uptoBulkAll r
def uptoBulkEntries {H : Type} : List (Lit × DataW H) → Nat
  | [] => 0
  | x :: r => uptoBulkEntry x + uptoBulkEntries r
def uptoBulkEntry {H : Type} : Lit × DataW H → Nat
  | (.string bytes, d) => bytes.length + uptoBulk d + 1
  | (_, d) => uptoBulk d + 1
 end
def uptoSmall : (H : Type) → List (DataW H) → Bool := fun _ ds => decide (uptoBulkAll ds ≤ 1048576)
def OpenSpec.upto (s : _root_.Go.ChangeSpec) : _root_.Go.OpenSpec := { _root_.Go.OpenSpec.ofChange s with cond := some uptoSmall }

/-- 'laws.FnExactConstants', WHERE WHAT IT READS IS OF BULK AT MOST 1048576: true; the input reads as it did. -/
def fnExactConstantsUptoRow : OpenClaim := { program := "ytidenjklgibhhaa", sum := "6c8adf5ed7a20a1d756b0a4e9ba613f99fee9a9f5cdae1d65e1c3e0cea0f47e3", func := "loop.example/g01074/laws.FnExactConstants", spec := "fnExactConstants", apart := false, narrowed := true }
def FnExactConstantsUptoSaid : Prop := fnExactConstantsUptoRow.holds Try.pinned (OpenSpec.upto fnExactConstantsSpec)

/-- 'laws.FnExactWrap32', WHERE WHAT IT READS IS OF BULK AT MOST 1048576: true; the input reads as it did. -/
def fnExactWrap32UptoRow : OpenClaim := { program := "ytidenjklgibhhaa", sum := "6c8adf5ed7a20a1d756b0a4e9ba613f99fee9a9f5cdae1d65e1c3e0cea0f47e3", func := "loop.example/g01074/laws.FnExactWrap32", spec := "fnExactWrap32", apart := false, narrowed := true }
def FnExactWrap32UptoSaid : Prop := fnExactWrap32UptoRow.holds Try.pinned (OpenSpec.upto fnExactWrap32Spec)

/-- 'laws.FnExactOperatorText', WHERE WHAT IT READS IS OF BULK AT MOST 1048576: true; the input reads as it did. -/
def fnExactOperatorTextUptoRow : OpenClaim := { program := "ytidenjklgibhhaa", sum := "6c8adf5ed7a20a1d756b0a4e9ba613f99fee9a9f5cdae1d65e1c3e0cea0f47e3", func := "loop.example/g01074/laws.FnExactOperatorText", spec := "fnExactOperatorText", apart := false, narrowed := true }
def FnExactOperatorTextUptoSaid : Prop := fnExactOperatorTextUptoRow.holds Try.pinned (OpenSpec.upto fnExactOperatorTextSpec)

/-- 'laws.FnExactCodeName', WHERE WHAT IT READS IS OF BULK AT MOST 1048576: true; the input reads as it did. -/
def fnExactCodeNameUptoRow : OpenClaim := { program := "ytidenjklgibhhaa", sum := "6c8adf5ed7a20a1d756b0a4e9ba613f99fee9a9f5cdae1d65e1c3e0cea0f47e3", func := "loop.example/g01074/laws.FnExactCodeName", spec := "fnExactCodeName", apart := false, narrowed := true }
def FnExactCodeNameUptoSaid : Prop := fnExactCodeNameUptoRow.holds Try.pinned (OpenSpec.upto fnExactCodeNameSpec)

/-- 'laws.FnExactOperatorOf', WHERE WHAT IT READS IS OF BULK AT MOST 1048576: true; the input reads as it did. -/
def fnExactOperatorOfUptoRow : OpenClaim := { program := "ytidenjklgibhhaa", sum := "6c8adf5ed7a20a1d756b0a4e9ba613f99fee9a9f5cdae1d65e1c3e0cea0f47e3", func := "loop.example/g01074/laws.FnExactOperatorOf", spec := "fnExactOperatorOf", apart := false, narrowed := true }
def FnExactOperatorOfUptoSaid : Prop := fnExactOperatorOfUptoRow.holds Try.pinned (OpenSpec.upto fnExactOperatorOfSpec)

/-- 'laws.FnExactIsKeyword', WHERE WHAT IT READS IS OF BULK AT MOST 1048576: true; the input reads as it did. -/
def fnExactIsKeywordUptoRow : OpenClaim := { program := "ytidenjklgibhhaa", sum := "6c8adf5ed7a20a1d756b0a4e9ba613f99fee9a9f5cdae1d65e1c3e0cea0f47e3", func := "loop.example/g01074/laws.FnExactIsKeyword", spec := "fnExactIsKeyword", apart := false, narrowed := true }
def FnExactIsKeywordUptoSaid : Prop := fnExactIsKeywordUptoRow.holds Try.pinned (OpenSpec.upto fnExactIsKeywordSpec)

/-- 'laws.FnExactIsName', WHERE WHAT IT READS IS OF BULK AT MOST 1048576: true; the input reads as it did. -/
def fnExactIsNameUptoRow : OpenClaim := { program := "ytidenjklgibhhaa", sum := "6c8adf5ed7a20a1d756b0a4e9ba613f99fee9a9f5cdae1d65e1c3e0cea0f47e3", func := "loop.example/g01074/laws.FnExactIsName", spec := "fnExactIsName", apart := false, narrowed := true }
def FnExactIsNameUptoSaid : Prop := fnExactIsNameUptoRow.holds Try.pinned (OpenSpec.upto fnExactIsNameSpec)

/-- 'laws.FnExactIsLower', WHERE WHAT IT READS IS OF BULK AT MOST 1048576: true; the input reads as it did. -/
def fnExactIsLowerUptoRow : OpenClaim := { program := "ytidenjklgibhhaa", sum := "6c8adf5ed7a20a1d756b0a4e9ba613f99fee9a9f5cdae1d65e1c3e0cea0f47e3", func := "loop.example/g01074/laws.FnExactIsLower", spec := "fnExactIsLower", apart := false, narrowed := true }
def FnExactIsLowerUptoSaid : Prop := fnExactIsLowerUptoRow.holds Try.pinned (OpenSpec.upto fnExactIsLowerSpec)

/-- 'laws.FnExactIsUpper', WHERE WHAT IT READS IS OF BULK AT MOST 1048576: true; the input reads as it did. -/
def fnExactIsUpperUptoRow : OpenClaim := { program := "ytidenjklgibhhaa", sum := "6c8adf5ed7a20a1d756b0a4e9ba613f99fee9a9f5cdae1d65e1c3e0cea0f47e3", func := "loop.example/g01074/laws.FnExactIsUpper", spec := "fnExactIsUpper", apart := false, narrowed := true }
def FnExactIsUpperUptoSaid : Prop := fnExactIsUpperUptoRow.holds Try.pinned (OpenSpec.upto fnExactIsUpperSpec)

/-- 'laws.FnExactOperate', WHERE WHAT IT READS IS OF BULK AT MOST 1048576: true; the input reads as it did. -/
def fnExactOperateUptoRow : OpenClaim := { program := "ytidenjklgibhhaa", sum := "6c8adf5ed7a20a1d756b0a4e9ba613f99fee9a9f5cdae1d65e1c3e0cea0f47e3", func := "loop.example/g01074/laws.FnExactOperate", spec := "fnExactOperate", apart := false, narrowed := true }
def FnExactOperateUptoSaid : Prop := fnExactOperateUptoRow.holds Try.pinned (OpenSpec.upto fnExactOperateSpec)

end Rows
end Go.Proofs.Ytidenjklgibhhaa
