/-
  NARROWER THAN 'FOR EVERY INPUT', by the rows' own cells (each row's printed sentence says how): FnExactEraseType: loops · FnExactStripBangs: loops · FnExactInhabitedDatas: loops · FnExactAlphaSame: loops · FnExactStartNeed: loops · FnExactIsNormal: loops.
  DERIVED. THE GIVEN ROWS OF THIS SEAT. 6 by the template 'for every input the law returns true; each argument reads behind the call as it read before'; 0 by the template 'total and deterministic' (their statements: YtgpefnlpbjnjbaaTotals.lean).
  GIVEN WITH THE SEED: the statements are not yours to turn. If you find one false, say at which input.
  Laid BY PROGRAM, IN A SANDBOX (cutbox-rows.mjs): the forced cells as the released guide's own fill.sh prints them over the translation cfb2c75be7b6914f… (all of the seat's roots in one cut). By AI agents, Wed Nov 11 2026. No macro, syntax, notation, axiom, sorry.
-/
import Derived.Test.YtgpefnlpbjnjbaaChecked
import GoSem.Claim
import GoSem.ClaimJoined
import GoSem.ClaimMapViews
import Derived.JoinedTies
import Derived.KernelRfl
namespace Go.Proofs.Ytgpefnlpbjnjbaa
/- THE CELL 'sum', in the pinned program and in every row, IS THE sha256 OF THE DUMP (.gsa) THAT YtgpefnlpbjnjbaaProg.lean LOADS. Nothing in Lean hashes anything: it is a label: what it is worth is what the hold of that sum in a sandbox is worth. -/
noncomputable def Try.pinned : Pinned := { name := "ytgpefnlpbjnjbaa", sum := "cfb2c75be7b6914f94766ead8a9e5119da7f915e61c61aeb7d3021dcb7bdb34e", checked := Try.checked }
namespace Rows
def none {H : Type} : Left H := { results := [], args := [] }

/-- 'laws.FnExactEraseType': WHATEVER THE INPUT: true; the input reads as it did. -/
def fnExactEraseTypeSpec : ChangeSpec := { name := "fnExactEraseType", fn := fun _ => fun
  | [d] => { results := [.lit (.bool true)], args := [d] }
  | _ => none }
def fnExactEraseTypeRow : OpenClaim := { program := "ytgpefnlpbjnjbaa", sum := "cfb2c75be7b6914f94766ead8a9e5119da7f915e61c61aeb7d3021dcb7bdb34e", func := "loop.example/g01074/laws.FnExactEraseType", spec := "fnExactEraseType", recurses := true, loops := true, apart := false }
def FnExactEraseTypeSaid : Prop := fnExactEraseTypeRow.holds Try.pinned (OpenSpec.ofChange fnExactEraseTypeSpec)

/-- ITS FALSE NEIGHBOUR: 'it returns false'. Refute it at one input. -/
def fnExactEraseTypeWrong : ChangeSpec := { name := "fnExactEraseType", fn := fun _ => fun
  | [d] => { results := [.lit (.bool false)], args := [d] }
  | _ => none }
def FnExactEraseTypeWrongFalsely : Prop := fnExactEraseTypeRow.holds Try.pinned (OpenSpec.ofChange fnExactEraseTypeWrong)

/-- 'laws.FnExactStripBangs': WHATEVER THE INPUT: true; the input reads as it did. -/
def fnExactStripBangsSpec : ChangeSpec := { name := "fnExactStripBangs", fn := fun _ => fun
  | [d] => { results := [.lit (.bool true)], args := [d] }
  | _ => none }
def fnExactStripBangsRow : OpenClaim := { program := "ytgpefnlpbjnjbaa", sum := "cfb2c75be7b6914f94766ead8a9e5119da7f915e61c61aeb7d3021dcb7bdb34e", func := "loop.example/g01074/laws.FnExactStripBangs", spec := "fnExactStripBangs", recurses := true, loops := true, apart := false }
def FnExactStripBangsSaid : Prop := fnExactStripBangsRow.holds Try.pinned (OpenSpec.ofChange fnExactStripBangsSpec)

/-- ITS FALSE NEIGHBOUR: 'it returns false'. Refute it at one input. -/
def fnExactStripBangsWrong : ChangeSpec := { name := "fnExactStripBangs", fn := fun _ => fun
  | [d] => { results := [.lit (.bool false)], args := [d] }
  | _ => none }
def FnExactStripBangsWrongFalsely : Prop := fnExactStripBangsRow.holds Try.pinned (OpenSpec.ofChange fnExactStripBangsWrong)

/-- 'laws.FnExactInhabitedDatas': WHATEVER THE INPUT: true; the input reads as it did. -/
def fnExactInhabitedDatasSpec : ChangeSpec := { name := "fnExactInhabitedDatas", fn := fun _ => fun
  | [d] => { results := [.lit (.bool true)], args := [d] }
  | _ => none }
def fnExactInhabitedDatasRow : OpenClaim := { program := "ytgpefnlpbjnjbaa", sum := "cfb2c75be7b6914f94766ead8a9e5119da7f915e61c61aeb7d3021dcb7bdb34e", func := "loop.example/g01074/laws.FnExactInhabitedDatas", spec := "fnExactInhabitedDatas", unfollowed := true, recurses := true, loops := true, apart := false }
def FnExactInhabitedDatasSaid : Prop := fnExactInhabitedDatasRow.holds Try.pinned (OpenSpec.ofChange fnExactInhabitedDatasSpec)

/-- ITS FALSE NEIGHBOUR: 'it returns false'. Refute it at one input. -/
def fnExactInhabitedDatasWrong : ChangeSpec := { name := "fnExactInhabitedDatas", fn := fun _ => fun
  | [d] => { results := [.lit (.bool false)], args := [d] }
  | _ => none }
def FnExactInhabitedDatasWrongFalsely : Prop := fnExactInhabitedDatasRow.holds Try.pinned (OpenSpec.ofChange fnExactInhabitedDatasWrong)

/-- 'laws.FnExactAlphaSame': WHATEVER THE INPUT: true; the input reads as it did. -/
def fnExactAlphaSameSpec : ChangeSpec := { name := "fnExactAlphaSame", fn := fun _ => fun
  | [d1, d2] => { results := [.lit (.bool true)], args := [d1, d2] }
  | _ => none }
def fnExactAlphaSameRow : OpenClaim := { program := "ytgpefnlpbjnjbaa", sum := "cfb2c75be7b6914f94766ead8a9e5119da7f915e61c61aeb7d3021dcb7bdb34e", func := "loop.example/g01074/laws.FnExactAlphaSame", spec := "fnExactAlphaSame", unfollowed := true, recurses := true, loops := true, apart := false }
def FnExactAlphaSameSaid : Prop := fnExactAlphaSameRow.holds Try.pinned (OpenSpec.ofChange fnExactAlphaSameSpec)

/-- ITS FALSE NEIGHBOUR: 'it returns false'. Refute it at one input. -/
def fnExactAlphaSameWrong : ChangeSpec := { name := "fnExactAlphaSame", fn := fun _ => fun
  | [d1, d2] => { results := [.lit (.bool false)], args := [d1, d2] }
  | _ => none }
def FnExactAlphaSameWrongFalsely : Prop := fnExactAlphaSameRow.holds Try.pinned (OpenSpec.ofChange fnExactAlphaSameWrong)

/-- 'laws.FnExactStartNeed': WHATEVER THE INPUT: true; the input reads as it did. -/
def fnExactStartNeedSpec : ChangeSpec := { name := "fnExactStartNeed", fn := fun _ => fun
  | [d1, d2] => { results := [.lit (.bool true)], args := [d1, d2] }
  | _ => none }
def fnExactStartNeedRow : OpenClaim := { program := "ytgpefnlpbjnjbaa", sum := "cfb2c75be7b6914f94766ead8a9e5119da7f915e61c61aeb7d3021dcb7bdb34e", func := "loop.example/g01074/laws.FnExactStartNeed", spec := "fnExactStartNeed", unfollowed := true, recurses := true, loops := true, apart := false }
def FnExactStartNeedSaid : Prop := fnExactStartNeedRow.holds Try.pinned (OpenSpec.ofChange fnExactStartNeedSpec)

/-- ITS FALSE NEIGHBOUR: 'it returns false'. Refute it at one input. -/
def fnExactStartNeedWrong : ChangeSpec := { name := "fnExactStartNeed", fn := fun _ => fun
  | [d1, d2] => { results := [.lit (.bool false)], args := [d1, d2] }
  | _ => none }
def FnExactStartNeedWrongFalsely : Prop := fnExactStartNeedRow.holds Try.pinned (OpenSpec.ofChange fnExactStartNeedWrong)

/-- 'laws.FnExactIsNormal': WHATEVER THE INPUT: true; the input reads as it did. -/
def fnExactIsNormalSpec : ChangeSpec := { name := "fnExactIsNormal", fn := fun _ => fun
  | [d1, d2] => { results := [.lit (.bool true)], args := [d1, d2] }
  | _ => none }
def fnExactIsNormalRow : OpenClaim := { program := "ytgpefnlpbjnjbaa", sum := "cfb2c75be7b6914f94766ead8a9e5119da7f915e61c61aeb7d3021dcb7bdb34e", func := "loop.example/g01074/laws.FnExactIsNormal", spec := "fnExactIsNormal", unfollowed := true, recurses := true, loops := true, apart := false }
def FnExactIsNormalSaid : Prop := fnExactIsNormalRow.holds Try.pinned (OpenSpec.ofChange fnExactIsNormalSpec)

/-- ITS FALSE NEIGHBOUR: 'it returns false'. Refute it at one input. -/
def fnExactIsNormalWrong : ChangeSpec := { name := "fnExactIsNormal", fn := fun _ => fun
  | [d1, d2] => { results := [.lit (.bool false)], args := [d1, d2] }
  | _ => none }
def FnExactIsNormalWrongFalsely : Prop := fnExactIsNormalRow.holds Try.pinned (OpenSpec.ofChange fnExactIsNormalWrong)

/- THE SECOND FORM. 'bulk': how many values and letters a reading holds, each counted each time it is reached (what is shared counts as often as it is met; a slice's spare places count too). A statement '..UptoSaid' is the law's where the arguments, and the package variables that the reading takes, are together of bulk at most 1048576: NARROWER than '..Said'. Prove '..Said' where nothing that the law and all that it calls make is longer than what came in: it says more and counts as full. Else prove '..UptoSaid'. A law counts once. -/
mutual
def uptoBulk {H : Type} : DataW H → Nat
  | .lit (.string bytes) => bytes.length + 1
  | .lit _ => 1
  | .nil => 1
  | .ptr d => uptoBulk d + 1
  | .slice elems spare => uptoBulkAll elems + uptoBulkAll spare + 1
  | .agg parts => uptoBulkAll parts + 1
  | .iface _ d => uptoBulk d + 1
  | .map entries => uptoBulkEntries entries + 1
  | .held _ => 1
def uptoBulkAll {H : Type} : List (DataW H) → Nat
  | [] => 0
  | d :: r => uptoBulk d + uptoBulkAll r
def uptoBulkEntries {H : Type} : List (Lit × DataW H) → Nat
  | [] => 0
  | x :: r => uptoBulkEntry x + uptoBulkEntries r
def uptoBulkEntry {H : Type} : Lit × DataW H → Nat
  | (.string bytes, d) => bytes.length + uptoBulk d + 1
  | (_, d) => uptoBulk d + 1
 end
def uptoSmall : (H : Type) → List (DataW H) → Bool := fun _ ds => decide (uptoBulkAll ds ≤ 1048576)
def OpenSpec.upto (s : _root_.Go.ChangeSpec) : _root_.Go.OpenSpec := { _root_.Go.OpenSpec.ofChange s with cond := some uptoSmall }

/-- 'laws.FnExactEraseType', WHERE WHAT IT READS IS OF BULK AT MOST 1048576: true; the input reads as it did. -/
def fnExactEraseTypeUptoRow : OpenClaim := { program := "ytgpefnlpbjnjbaa", sum := "cfb2c75be7b6914f94766ead8a9e5119da7f915e61c61aeb7d3021dcb7bdb34e", func := "loop.example/g01074/laws.FnExactEraseType", spec := "fnExactEraseType", recurses := true, loops := true, apart := false, narrowed := true }
def FnExactEraseTypeUptoSaid : Prop := fnExactEraseTypeUptoRow.holds Try.pinned (OpenSpec.upto fnExactEraseTypeSpec)

/-- 'laws.FnExactStripBangs', WHERE WHAT IT READS IS OF BULK AT MOST 1048576: true; the input reads as it did. -/
def fnExactStripBangsUptoRow : OpenClaim := { program := "ytgpefnlpbjnjbaa", sum := "cfb2c75be7b6914f94766ead8a9e5119da7f915e61c61aeb7d3021dcb7bdb34e", func := "loop.example/g01074/laws.FnExactStripBangs", spec := "fnExactStripBangs", recurses := true, loops := true, apart := false, narrowed := true }
def FnExactStripBangsUptoSaid : Prop := fnExactStripBangsUptoRow.holds Try.pinned (OpenSpec.upto fnExactStripBangsSpec)

/-- 'laws.FnExactInhabitedDatas', WHERE WHAT IT READS IS OF BULK AT MOST 1048576: true; the input reads as it did. -/
def fnExactInhabitedDatasUptoRow : OpenClaim := { program := "ytgpefnlpbjnjbaa", sum := "cfb2c75be7b6914f94766ead8a9e5119da7f915e61c61aeb7d3021dcb7bdb34e", func := "loop.example/g01074/laws.FnExactInhabitedDatas", spec := "fnExactInhabitedDatas", unfollowed := true, recurses := true, loops := true, apart := false, narrowed := true }
def FnExactInhabitedDatasUptoSaid : Prop := fnExactInhabitedDatasUptoRow.holds Try.pinned (OpenSpec.upto fnExactInhabitedDatasSpec)

/-- 'laws.FnExactAlphaSame', WHERE WHAT IT READS IS OF BULK AT MOST 1048576: true; the input reads as it did. -/
def fnExactAlphaSameUptoRow : OpenClaim := { program := "ytgpefnlpbjnjbaa", sum := "cfb2c75be7b6914f94766ead8a9e5119da7f915e61c61aeb7d3021dcb7bdb34e", func := "loop.example/g01074/laws.FnExactAlphaSame", spec := "fnExactAlphaSame", unfollowed := true, recurses := true, loops := true, apart := false, narrowed := true }
def FnExactAlphaSameUptoSaid : Prop := fnExactAlphaSameUptoRow.holds Try.pinned (OpenSpec.upto fnExactAlphaSameSpec)

/-- 'laws.FnExactStartNeed', WHERE WHAT IT READS IS OF BULK AT MOST 1048576: true; the input reads as it did. -/
def fnExactStartNeedUptoRow : OpenClaim := { program := "ytgpefnlpbjnjbaa", sum := "cfb2c75be7b6914f94766ead8a9e5119da7f915e61c61aeb7d3021dcb7bdb34e", func := "loop.example/g01074/laws.FnExactStartNeed", spec := "fnExactStartNeed", unfollowed := true, recurses := true, loops := true, apart := false, narrowed := true }
def FnExactStartNeedUptoSaid : Prop := fnExactStartNeedUptoRow.holds Try.pinned (OpenSpec.upto fnExactStartNeedSpec)

/-- 'laws.FnExactIsNormal', WHERE WHAT IT READS IS OF BULK AT MOST 1048576: true; the input reads as it did. -/
def fnExactIsNormalUptoRow : OpenClaim := { program := "ytgpefnlpbjnjbaa", sum := "cfb2c75be7b6914f94766ead8a9e5119da7f915e61c61aeb7d3021dcb7bdb34e", func := "loop.example/g01074/laws.FnExactIsNormal", spec := "fnExactIsNormal", unfollowed := true, recurses := true, loops := true, apart := false, narrowed := true }
def FnExactIsNormalUptoSaid : Prop := fnExactIsNormalUptoRow.holds Try.pinned (OpenSpec.upto fnExactIsNormalSpec)

end Rows
end Go.Proofs.Ytgpefnlpbjnjbaa
