/-
  NARROWER THAN 'FOR EVERY INPUT', by the rows' own cells (each row's printed sentence says how): FnExactSameType: loops · FnExactValidType: loops · FnExactTypeSize: loops · FnExactTypeText: loops · FnExactEraseType: loops · FnExactStripBangs: loops · FnExactValidDatas: loops · FnExactKnownType: loops · FnExactFindData: loops · FnExactFindConstructor: loops · FnExactInhabitedDatas: loops · FnExactSameTerm: loops.
  DERIVED. THE GIVEN ROWS OF THIS SEAT. 12 by the template 'for every input the law returns true; each argument reads behind the call as it read before'; 0 by the template 'total and deterministic' (their statements: YtdllmbbdhfnikaaTotals.lean).
  GIVEN WITH THE SEED: the statements are not yours to turn. If you find one false, say at which input.
  Laid BY PROGRAM, IN A SANDBOX (cutbox-rows.mjs): the forced cells as the released guide's own fill.sh prints them over the translation f571f188fe4bedd6… (all of the seat's roots in one cut). By AI agents, Wed Nov 11 2026. No macro, syntax, notation, axiom, sorry.
-/
import Derived.Test.YtdllmbbdhfnikaaChecked
import GoSem.Claim
import GoSem.ClaimJoined
import GoSem.ClaimMapViews
import Derived.JoinedTies
import Derived.KernelRfl
namespace Go.Proofs.Ytdllmbbdhfnikaa
/- THE CELL 'sum', in the pinned program and in every row, IS THE sha256 OF THE DUMP (.gsa) THAT YtdllmbbdhfnikaaProg.lean LOADS. Nothing in Lean hashes anything: it is a label: what it is worth is what the hold of that sum in a sandbox is worth. -/
noncomputable def Try.pinned : Pinned := { name := "ytdllmbbdhfnikaa", sum := "f571f188fe4bedd6790610117acd43bcdee6cb8b9cbc5159a58872e60f4c9306", checked := Try.checked }
namespace Rows
def none {H : Type} : Left H := { results := [], args := [] }

/-- 'laws.FnExactSameType': WHATEVER THE INPUT: true; the input reads as it did. -/
def fnExactSameTypeSpec : ChangeSpec := { name := "fnExactSameType", fn := fun _ => fun
  | [d1, d2] => { results := [.lit (.bool true)], args := [d1, d2] }
  | _ => none }
def fnExactSameTypeRow : OpenClaim := { program := "ytdllmbbdhfnikaa", sum := "f571f188fe4bedd6790610117acd43bcdee6cb8b9cbc5159a58872e60f4c9306", func := "loop.example/g01074/laws.FnExactSameType", spec := "fnExactSameType", unfollowed := true, recurses := true, loops := true, apart := false }
def FnExactSameTypeSaid : Prop := fnExactSameTypeRow.holds Try.pinned (OpenSpec.ofChange fnExactSameTypeSpec)

/-- ITS FALSE NEIGHBOUR: 'it returns false'. Refute it at one input. -/
def fnExactSameTypeWrong : ChangeSpec := { name := "fnExactSameType", fn := fun _ => fun
  | [d1, d2] => { results := [.lit (.bool false)], args := [d1, d2] }
  | _ => none }
def FnExactSameTypeWrongFalsely : Prop := fnExactSameTypeRow.holds Try.pinned (OpenSpec.ofChange fnExactSameTypeWrong)

/-- 'laws.FnExactValidType': WHATEVER THE INPUT: true; the input reads as it did. -/
def fnExactValidTypeSpec : ChangeSpec := { name := "fnExactValidType", fn := fun _ => fun
  | [d] => { results := [.lit (.bool true)], args := [d] }
  | _ => none }
def fnExactValidTypeRow : OpenClaim := { program := "ytdllmbbdhfnikaa", sum := "f571f188fe4bedd6790610117acd43bcdee6cb8b9cbc5159a58872e60f4c9306", func := "loop.example/g01074/laws.FnExactValidType", spec := "fnExactValidType", recurses := true, loops := true, apart := false }
def FnExactValidTypeSaid : Prop := fnExactValidTypeRow.holds Try.pinned (OpenSpec.ofChange fnExactValidTypeSpec)

/-- ITS FALSE NEIGHBOUR: 'it returns false'. Refute it at one input. -/
def fnExactValidTypeWrong : ChangeSpec := { name := "fnExactValidType", fn := fun _ => fun
  | [d] => { results := [.lit (.bool false)], args := [d] }
  | _ => none }
def FnExactValidTypeWrongFalsely : Prop := fnExactValidTypeRow.holds Try.pinned (OpenSpec.ofChange fnExactValidTypeWrong)

/-- 'laws.FnExactTypeSize': WHATEVER THE INPUT: true; the input reads as it did. -/
def fnExactTypeSizeSpec : ChangeSpec := { name := "fnExactTypeSize", fn := fun _ => fun
  | [d] => { results := [.lit (.bool true)], args := [d] }
  | _ => none }
def fnExactTypeSizeRow : OpenClaim := { program := "ytdllmbbdhfnikaa", sum := "f571f188fe4bedd6790610117acd43bcdee6cb8b9cbc5159a58872e60f4c9306", func := "loop.example/g01074/laws.FnExactTypeSize", spec := "fnExactTypeSize", recurses := true, loops := true, apart := false }
def FnExactTypeSizeSaid : Prop := fnExactTypeSizeRow.holds Try.pinned (OpenSpec.ofChange fnExactTypeSizeSpec)

/-- ITS FALSE NEIGHBOUR: 'it returns false'. Refute it at one input. -/
def fnExactTypeSizeWrong : ChangeSpec := { name := "fnExactTypeSize", fn := fun _ => fun
  | [d] => { results := [.lit (.bool false)], args := [d] }
  | _ => none }
def FnExactTypeSizeWrongFalsely : Prop := fnExactTypeSizeRow.holds Try.pinned (OpenSpec.ofChange fnExactTypeSizeWrong)

/-- 'laws.FnExactTypeText': WHATEVER THE INPUT: true; the input reads as it did. -/
def fnExactTypeTextSpec : ChangeSpec := { name := "fnExactTypeText", fn := fun _ => fun
  | [d] => { results := [.lit (.bool true)], args := [d] }
  | _ => none }
def fnExactTypeTextRow : OpenClaim := { program := "ytdllmbbdhfnikaa", sum := "f571f188fe4bedd6790610117acd43bcdee6cb8b9cbc5159a58872e60f4c9306", func := "loop.example/g01074/laws.FnExactTypeText", spec := "fnExactTypeText", unfollowed := true, recurses := true, loops := true, apart := false }
def FnExactTypeTextSaid : Prop := fnExactTypeTextRow.holds Try.pinned (OpenSpec.ofChange fnExactTypeTextSpec)

/-- ITS FALSE NEIGHBOUR: 'it returns false'. Refute it at one input. -/
def fnExactTypeTextWrong : ChangeSpec := { name := "fnExactTypeText", fn := fun _ => fun
  | [d] => { results := [.lit (.bool false)], args := [d] }
  | _ => none }
def FnExactTypeTextWrongFalsely : Prop := fnExactTypeTextRow.holds Try.pinned (OpenSpec.ofChange fnExactTypeTextWrong)

/-- 'laws.FnExactEraseType': WHATEVER THE INPUT: true; the input reads as it did. -/
def fnExactEraseTypeSpec : ChangeSpec := { name := "fnExactEraseType", fn := fun _ => fun
  | [d] => { results := [.lit (.bool true)], args := [d] }
  | _ => none }
def fnExactEraseTypeRow : OpenClaim := { program := "ytdllmbbdhfnikaa", sum := "f571f188fe4bedd6790610117acd43bcdee6cb8b9cbc5159a58872e60f4c9306", func := "loop.example/g01074/laws.FnExactEraseType", spec := "fnExactEraseType", recurses := true, loops := true, apart := false }
def FnExactEraseTypeSaid : Prop := fnExactEraseTypeRow.holds Try.pinned (OpenSpec.ofChange fnExactEraseTypeSpec)

/-- ITS FALSE NEIGHBOUR: 'it returns false'. Refute it at one input. -/
def fnExactEraseTypeWrong : ChangeSpec := { name := "fnExactEraseType", fn := fun _ => fun
  | [d] => { results := [.lit (.bool false)], args := [d] }
  | _ => none }
def FnExactEraseTypeWrongFalsely : Prop := fnExactEraseTypeRow.holds Try.pinned (OpenSpec.ofChange fnExactEraseTypeWrong)

/-- 'laws.FnExactStripBangs': WHATEVER THE INPUT: true; the input reads as it did. -/
def fnExactStripBangsSpec : ChangeSpec := { name := "fnExactStripBangs", fn := fun _ => fun
  | [d] => { results := [.lit (.bool true)], args := [d] }
  | _ => none }
def fnExactStripBangsRow : OpenClaim := { program := "ytdllmbbdhfnikaa", sum := "f571f188fe4bedd6790610117acd43bcdee6cb8b9cbc5159a58872e60f4c9306", func := "loop.example/g01074/laws.FnExactStripBangs", spec := "fnExactStripBangs", recurses := true, loops := true, apart := false }
def FnExactStripBangsSaid : Prop := fnExactStripBangsRow.holds Try.pinned (OpenSpec.ofChange fnExactStripBangsSpec)

/-- ITS FALSE NEIGHBOUR: 'it returns false'. Refute it at one input. -/
def fnExactStripBangsWrong : ChangeSpec := { name := "fnExactStripBangs", fn := fun _ => fun
  | [d] => { results := [.lit (.bool false)], args := [d] }
  | _ => none }
def FnExactStripBangsWrongFalsely : Prop := fnExactStripBangsRow.holds Try.pinned (OpenSpec.ofChange fnExactStripBangsWrong)

/-- 'laws.FnExactValidDatas': WHATEVER THE INPUT: true; the input reads as it did. -/
def fnExactValidDatasSpec : ChangeSpec := { name := "fnExactValidDatas", fn := fun _ => fun
  | [d] => { results := [.lit (.bool true)], args := [d] }
  | _ => none }
def fnExactValidDatasRow : OpenClaim := { program := "ytdllmbbdhfnikaa", sum := "f571f188fe4bedd6790610117acd43bcdee6cb8b9cbc5159a58872e60f4c9306", func := "loop.example/g01074/laws.FnExactValidDatas", spec := "fnExactValidDatas", unfollowed := true, recurses := true, loops := true, apart := false }
def FnExactValidDatasSaid : Prop := fnExactValidDatasRow.holds Try.pinned (OpenSpec.ofChange fnExactValidDatasSpec)

/-- ITS FALSE NEIGHBOUR: 'it returns false'. Refute it at one input. -/
def fnExactValidDatasWrong : ChangeSpec := { name := "fnExactValidDatas", fn := fun _ => fun
  | [d] => { results := [.lit (.bool false)], args := [d] }
  | _ => none }
def FnExactValidDatasWrongFalsely : Prop := fnExactValidDatasRow.holds Try.pinned (OpenSpec.ofChange fnExactValidDatasWrong)

/-- 'laws.FnExactKnownType': WHATEVER THE INPUT: true; the input reads as it did. -/
def fnExactKnownTypeSpec : ChangeSpec := { name := "fnExactKnownType", fn := fun _ => fun
  | [d1, d2] => { results := [.lit (.bool true)], args := [d1, d2] }
  | _ => none }
def fnExactKnownTypeRow : OpenClaim := { program := "ytdllmbbdhfnikaa", sum := "f571f188fe4bedd6790610117acd43bcdee6cb8b9cbc5159a58872e60f4c9306", func := "loop.example/g01074/laws.FnExactKnownType", spec := "fnExactKnownType", unfollowed := true, recurses := true, loops := true, apart := false }
def FnExactKnownTypeSaid : Prop := fnExactKnownTypeRow.holds Try.pinned (OpenSpec.ofChange fnExactKnownTypeSpec)

/-- ITS FALSE NEIGHBOUR: 'it returns false'. Refute it at one input. -/
def fnExactKnownTypeWrong : ChangeSpec := { name := "fnExactKnownType", fn := fun _ => fun
  | [d1, d2] => { results := [.lit (.bool false)], args := [d1, d2] }
  | _ => none }
def FnExactKnownTypeWrongFalsely : Prop := fnExactKnownTypeRow.holds Try.pinned (OpenSpec.ofChange fnExactKnownTypeWrong)

/-- 'laws.FnExactFindData': WHATEVER THE INPUT: true; the input reads as it did. -/
def fnExactFindDataSpec : ChangeSpec := { name := "fnExactFindData", fn := fun _ => fun
  | [d1, d2] => { results := [.lit (.bool true)], args := [d1, d2] }
  | _ => none }
def fnExactFindDataRow : OpenClaim := { program := "ytdllmbbdhfnikaa", sum := "f571f188fe4bedd6790610117acd43bcdee6cb8b9cbc5159a58872e60f4c9306", func := "loop.example/g01074/laws.FnExactFindData", spec := "fnExactFindData", unfollowed := true, recurses := true, loops := true, apart := false }
def FnExactFindDataSaid : Prop := fnExactFindDataRow.holds Try.pinned (OpenSpec.ofChange fnExactFindDataSpec)

/-- ITS FALSE NEIGHBOUR: 'it returns false'. Refute it at one input. -/
def fnExactFindDataWrong : ChangeSpec := { name := "fnExactFindData", fn := fun _ => fun
  | [d1, d2] => { results := [.lit (.bool false)], args := [d1, d2] }
  | _ => none }
def FnExactFindDataWrongFalsely : Prop := fnExactFindDataRow.holds Try.pinned (OpenSpec.ofChange fnExactFindDataWrong)

/-- 'laws.FnExactFindConstructor': WHATEVER THE INPUT: true; the input reads as it did. -/
def fnExactFindConstructorSpec : ChangeSpec := { name := "fnExactFindConstructor", fn := fun _ => fun
  | [d1, d2] => { results := [.lit (.bool true)], args := [d1, d2] }
  | _ => none }
def fnExactFindConstructorRow : OpenClaim := { program := "ytdllmbbdhfnikaa", sum := "f571f188fe4bedd6790610117acd43bcdee6cb8b9cbc5159a58872e60f4c9306", func := "loop.example/g01074/laws.FnExactFindConstructor", spec := "fnExactFindConstructor", unfollowed := true, recurses := true, loops := true, apart := false }
def FnExactFindConstructorSaid : Prop := fnExactFindConstructorRow.holds Try.pinned (OpenSpec.ofChange fnExactFindConstructorSpec)

/-- ITS FALSE NEIGHBOUR: 'it returns false'. Refute it at one input. -/
def fnExactFindConstructorWrong : ChangeSpec := { name := "fnExactFindConstructor", fn := fun _ => fun
  | [d1, d2] => { results := [.lit (.bool false)], args := [d1, d2] }
  | _ => none }
def FnExactFindConstructorWrongFalsely : Prop := fnExactFindConstructorRow.holds Try.pinned (OpenSpec.ofChange fnExactFindConstructorWrong)

/-- 'laws.FnExactInhabitedDatas': WHATEVER THE INPUT: true; the input reads as it did. -/
def fnExactInhabitedDatasSpec : ChangeSpec := { name := "fnExactInhabitedDatas", fn := fun _ => fun
  | [d] => { results := [.lit (.bool true)], args := [d] }
  | _ => none }
def fnExactInhabitedDatasRow : OpenClaim := { program := "ytdllmbbdhfnikaa", sum := "f571f188fe4bedd6790610117acd43bcdee6cb8b9cbc5159a58872e60f4c9306", func := "loop.example/g01074/laws.FnExactInhabitedDatas", spec := "fnExactInhabitedDatas", unfollowed := true, recurses := true, loops := true, apart := false }
def FnExactInhabitedDatasSaid : Prop := fnExactInhabitedDatasRow.holds Try.pinned (OpenSpec.ofChange fnExactInhabitedDatasSpec)

/-- ITS FALSE NEIGHBOUR: 'it returns false'. Refute it at one input. -/
def fnExactInhabitedDatasWrong : ChangeSpec := { name := "fnExactInhabitedDatas", fn := fun _ => fun
  | [d] => { results := [.lit (.bool false)], args := [d] }
  | _ => none }
def FnExactInhabitedDatasWrongFalsely : Prop := fnExactInhabitedDatasRow.holds Try.pinned (OpenSpec.ofChange fnExactInhabitedDatasWrong)

/-- 'laws.FnExactSameTerm': WHATEVER THE INPUT: true; the input reads as it did. -/
def fnExactSameTermSpec : ChangeSpec := { name := "fnExactSameTerm", fn := fun _ => fun
  | [d1, d2] => { results := [.lit (.bool true)], args := [d1, d2] }
  | _ => none }
def fnExactSameTermRow : OpenClaim := { program := "ytdllmbbdhfnikaa", sum := "f571f188fe4bedd6790610117acd43bcdee6cb8b9cbc5159a58872e60f4c9306", func := "loop.example/g01074/laws.FnExactSameTerm", spec := "fnExactSameTerm", unfollowed := true, recurses := true, loops := true, apart := false }
def FnExactSameTermSaid : Prop := fnExactSameTermRow.holds Try.pinned (OpenSpec.ofChange fnExactSameTermSpec)

/-- ITS FALSE NEIGHBOUR: 'it returns false'. Refute it at one input. -/
def fnExactSameTermWrong : ChangeSpec := { name := "fnExactSameTerm", fn := fun _ => fun
  | [d1, d2] => { results := [.lit (.bool false)], args := [d1, d2] }
  | _ => none }
def FnExactSameTermWrongFalsely : Prop := fnExactSameTermRow.holds Try.pinned (OpenSpec.ofChange fnExactSameTermWrong)

/- THE SECOND FORM. 'bulk': how many values and letters a reading holds, each counted each time it is reached (what is shared counts as often as it is met; a slice's spare places count too). A statement '..UptoSaid' is the law's where the arguments, and the package variables that the reading takes, are together of bulk at most 1048576: NARROWER than '..Said'. Prove '..Said' where nothing that the law and all that it calls make is longer than what came in: it says more and counts as full. Else prove '..UptoSaid'. A law counts once. -/
mutual
def uptoBulk {H : Type} : DataW H → Nat
  | .lit (.string bytes) => bytes.length + 1
  | .lit _ => 1
  | .nil => 1
  | .ptr d => uptoBulk d + 1
  | .slice elems spare => uptoBulkAll elems + uptoBulkAll spare + 1
  | .agg parts => uptoBulkAll parts + 1
  | .iface _ d => uptoBulk d + 1
  | .map entries => uptoBulkEntries entries + 1
  | .held _ => 1
def uptoBulkAll {H : Type} : List (DataW H) → Nat
  | [] => 0
  | d :: r => uptoBulk d + uptoBulkAll r
def uptoBulkEntries {H : Type} : List (Lit × DataW H) → Nat
  | [] => 0
  | x :: r => uptoBulkEntry x + uptoBulkEntries r
def uptoBulkEntry {H : Type} : Lit × DataW H → Nat
  | (.string bytes, d) => bytes.length + uptoBulk d + 1
  | (_, d) => uptoBulk d + 1
 end
def uptoSmall : (H : Type) → List (DataW H) → Bool := fun _ ds => decide (uptoBulkAll ds ≤ 1048576)
def OpenSpec.upto (s : _root_.Go.ChangeSpec) : _root_.Go.OpenSpec := { _root_.Go.OpenSpec.ofChange s with cond := some uptoSmall }

/-- 'laws.FnExactSameType', WHERE WHAT IT READS IS OF BULK AT MOST 1048576: true; the input reads as it did. -/
def fnExactSameTypeUptoRow : OpenClaim := { program := "ytdllmbbdhfnikaa", sum := "f571f188fe4bedd6790610117acd43bcdee6cb8b9cbc5159a58872e60f4c9306", func := "loop.example/g01074/laws.FnExactSameType", spec := "fnExactSameType", unfollowed := true, recurses := true, loops := true, apart := false, narrowed := true }
def FnExactSameTypeUptoSaid : Prop := fnExactSameTypeUptoRow.holds Try.pinned (OpenSpec.upto fnExactSameTypeSpec)

/-- 'laws.FnExactValidType', WHERE WHAT IT READS IS OF BULK AT MOST 1048576: true; the input reads as it did. -/
def fnExactValidTypeUptoRow : OpenClaim := { program := "ytdllmbbdhfnikaa", sum := "f571f188fe4bedd6790610117acd43bcdee6cb8b9cbc5159a58872e60f4c9306", func := "loop.example/g01074/laws.FnExactValidType", spec := "fnExactValidType", recurses := true, loops := true, apart := false, narrowed := true }
def FnExactValidTypeUptoSaid : Prop := fnExactValidTypeUptoRow.holds Try.pinned (OpenSpec.upto fnExactValidTypeSpec)

/-- 'laws.FnExactTypeSize', WHERE WHAT IT READS IS OF BULK AT MOST 1048576: true; the input reads as it did. -/
def fnExactTypeSizeUptoRow : OpenClaim := { program := "ytdllmbbdhfnikaa", sum := "f571f188fe4bedd6790610117acd43bcdee6cb8b9cbc5159a58872e60f4c9306", func := "loop.example/g01074/laws.FnExactTypeSize", spec := "fnExactTypeSize", recurses := true, loops := true, apart := false, narrowed := true }
def FnExactTypeSizeUptoSaid : Prop := fnExactTypeSizeUptoRow.holds Try.pinned (OpenSpec.upto fnExactTypeSizeSpec)

/-- 'laws.FnExactTypeText', WHERE WHAT IT READS IS OF BULK AT MOST 1048576: true; the input reads as it did. -/
def fnExactTypeTextUptoRow : OpenClaim := { program := "ytdllmbbdhfnikaa", sum := "f571f188fe4bedd6790610117acd43bcdee6cb8b9cbc5159a58872e60f4c9306", func := "loop.example/g01074/laws.FnExactTypeText", spec := "fnExactTypeText", unfollowed := true, recurses := true, loops := true, apart := false, narrowed := true }
def FnExactTypeTextUptoSaid : Prop := fnExactTypeTextUptoRow.holds Try.pinned (OpenSpec.upto fnExactTypeTextSpec)

/-- 'laws.FnExactEraseType', WHERE WHAT IT READS IS OF BULK AT MOST 1048576: true; the input reads as it did. -/
def fnExactEraseTypeUptoRow : OpenClaim := { program := "ytdllmbbdhfnikaa", sum := "f571f188fe4bedd6790610117acd43bcdee6cb8b9cbc5159a58872e60f4c9306", func := "loop.example/g01074/laws.FnExactEraseType", spec := "fnExactEraseType", recurses := true, loops := true, apart := false, narrowed := true }
def FnExactEraseTypeUptoSaid : Prop := fnExactEraseTypeUptoRow.holds Try.pinned (OpenSpec.upto fnExactEraseTypeSpec)

/-- 'laws.FnExactStripBangs', WHERE WHAT IT READS IS OF BULK AT MOST 1048576: true; the input reads as it did. -/
def fnExactStripBangsUptoRow : OpenClaim := { program := "ytdllmbbdhfnikaa", sum := "f571f188fe4bedd6790610117acd43bcdee6cb8b9cbc5159a58872e60f4c9306", func := "loop.example/g01074/laws.FnExactStripBangs", spec := "fnExactStripBangs", recurses := true, loops := true, apart := false, narrowed := true }
def FnExactStripBangsUptoSaid : Prop := fnExactStripBangsUptoRow.holds Try.pinned (OpenSpec.upto fnExactStripBangsSpec)

/-- 'laws.FnExactValidDatas', WHERE WHAT IT READS IS OF BULK AT MOST 1048576: true; the input reads as it did. -/
def fnExactValidDatasUptoRow : OpenClaim := { program := "ytdllmbbdhfnikaa", sum := "f571f188fe4bedd6790610117acd43bcdee6cb8b9cbc5159a58872e60f4c9306", func := "loop.example/g01074/laws.FnExactValidDatas", spec := "fnExactValidDatas", unfollowed := true, recurses := true, loops := true, apart := false, narrowed := true }
def FnExactValidDatasUptoSaid : Prop := fnExactValidDatasUptoRow.holds Try.pinned (OpenSpec.upto fnExactValidDatasSpec)

/-- 'laws.FnExactKnownType', WHERE WHAT IT READS IS OF BULK AT MOST 1048576: true; the input reads as it did. -/
def fnExactKnownTypeUptoRow : OpenClaim := { program := "ytdllmbbdhfnikaa", sum := "f571f188fe4bedd6790610117acd43bcdee6cb8b9cbc5159a58872e60f4c9306", func := "loop.example/g01074/laws.FnExactKnownType", spec := "fnExactKnownType", unfollowed := true, recurses := true, loops := true, apart := false, narrowed := true }
def FnExactKnownTypeUptoSaid : Prop := fnExactKnownTypeUptoRow.holds Try.pinned (OpenSpec.upto fnExactKnownTypeSpec)

/-- 'laws.FnExactFindData', WHERE WHAT IT READS IS OF BULK AT MOST 1048576: true; the input reads as it did. -/
def fnExactFindDataUptoRow : OpenClaim := { program := "ytdllmbbdhfnikaa", sum := "f571f188fe4bedd6790610117acd43bcdee6cb8b9cbc5159a58872e60f4c9306", func := "loop.example/g01074/laws.FnExactFindData", spec := "fnExactFindData", unfollowed := true, recurses := true, loops := true, apart := false, narrowed := true }
def FnExactFindDataUptoSaid : Prop := fnExactFindDataUptoRow.holds Try.pinned (OpenSpec.upto fnExactFindDataSpec)

/-- 'laws.FnExactFindConstructor', WHERE WHAT IT READS IS OF BULK AT MOST 1048576: true; the input reads as it did. -/
def fnExactFindConstructorUptoRow : OpenClaim := { program := "ytdllmbbdhfnikaa", sum := "f571f188fe4bedd6790610117acd43bcdee6cb8b9cbc5159a58872e60f4c9306", func := "loop.example/g01074/laws.FnExactFindConstructor", spec := "fnExactFindConstructor", unfollowed := true, recurses := true, loops := true, apart := false, narrowed := true }
def FnExactFindConstructorUptoSaid : Prop := fnExactFindConstructorUptoRow.holds Try.pinned (OpenSpec.upto fnExactFindConstructorSpec)

/-- 'laws.FnExactInhabitedDatas', WHERE WHAT IT READS IS OF BULK AT MOST 1048576: true; the input reads as it did. -/
def fnExactInhabitedDatasUptoRow : OpenClaim := { program := "ytdllmbbdhfnikaa", sum := "f571f188fe4bedd6790610117acd43bcdee6cb8b9cbc5159a58872e60f4c9306", func := "loop.example/g01074/laws.FnExactInhabitedDatas", spec := "fnExactInhabitedDatas", unfollowed := true, recurses := true, loops := true, apart := false, narrowed := true }
def FnExactInhabitedDatasUptoSaid : Prop := fnExactInhabitedDatasUptoRow.holds Try.pinned (OpenSpec.upto fnExactInhabitedDatasSpec)

/-- 'laws.FnExactSameTerm', WHERE WHAT IT READS IS OF BULK AT MOST 1048576: true; the input reads as it did. -/
def fnExactSameTermUptoRow : OpenClaim := { program := "ytdllmbbdhfnikaa", sum := "f571f188fe4bedd6790610117acd43bcdee6cb8b9cbc5159a58872e60f4c9306", func := "loop.example/g01074/laws.FnExactSameTerm", spec := "fnExactSameTerm", unfollowed := true, recurses := true, loops := true, apart := false, narrowed := true }
def FnExactSameTermUptoSaid : Prop := fnExactSameTermUptoRow.holds Try.pinned (OpenSpec.upto fnExactSameTermSpec)

end Rows
end Go.Proofs.Ytdllmbbdhfnikaa
