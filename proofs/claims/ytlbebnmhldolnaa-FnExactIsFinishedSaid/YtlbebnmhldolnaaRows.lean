/-
  NARROWER THAN 'FOR EVERY INPUT', by the rows' own cells (each row's printed sentence says how): FnExactStartNeed: loops · FnExactValidNeed: loops · FnExactIsFinished: loops.
  DERIVED. THE GIVEN ROWS OF THIS SEAT. 4 by the template 'for every input the law returns true; each argument reads behind the call as it read before'; 0 by the template 'total and deterministic' (their statements: YtlbebnmhldolnaaTotals.lean).
  GIVEN WITH THE SEED: the statements are not yours to turn. If you find one false, say at which input.
  Laid BY PROGRAM, IN A SANDBOX (cutbox-rows.mjs): the forced cells as the released guide's own fill.sh prints them over the translation 5c18e4cd3591393b… (all of the seat's roots in one cut). By AI agents, Wed Nov 11 2026. No macro, syntax, notation, axiom, sorry.
-/
import Derived.Test.YtlbebnmhldolnaaChecked
import GoSem.Claim
import GoSem.ClaimJoined
import GoSem.ClaimMapViews
import Derived.JoinedTies
import Derived.KernelRfl
namespace Go.Proofs.Ytlbebnmhldolnaa
/- THE CELL 'sum', in the pinned program and in every row, IS THE sha256 OF THE DUMP (.gsa) THAT YtlbebnmhldolnaaProg.lean LOADS. Nothing in Lean hashes anything: it is a label: what it is worth is what the hold of that sum in a sandbox is worth. -/
noncomputable def Try.pinned : Pinned := { name := "ytlbebnmhldolnaa", sum := "5c18e4cd3591393b85bdbbeed9b16aec7d10c5880e5bf08894259546ce09eeae", checked := Try.checked }
namespace Rows
def none {H : Type} : Left H := { results := [], args := [] }

/-- 'laws.FnExactLineColumn': WHATEVER THE INPUT: true; the input reads as it did. -/
def fnExactLineColumnSpec : ChangeSpec := { name := "fnExactLineColumn", fn := fun _ => fun
  | [d1, d2] => { results := [.lit (.bool true)], args := [d1, d2] }
  | _ => none }
def fnExactLineColumnRow : OpenClaim := { program := "ytlbebnmhldolnaa", sum := "5c18e4cd3591393b85bdbbeed9b16aec7d10c5880e5bf08894259546ce09eeae", func := "loop.example/g01074/laws.FnExactLineColumn", spec := "fnExactLineColumn", inPlace := ["internal/bytealg.CountString", "internal/bytealg.IndexByteString", "internal/bytealg.IndexString"], named := ["internal/bytealg.MaxLen"], apart := false }
def FnExactLineColumnSaid : Prop := fnExactLineColumnRow.holds Try.pinned (OpenSpec.ofChange fnExactLineColumnSpec)

/-- ITS FALSE NEIGHBOUR: 'it returns false'. Refute it at one input. -/
def fnExactLineColumnWrong : ChangeSpec := { name := "fnExactLineColumn", fn := fun _ => fun
  | [d1, d2] => { results := [.lit (.bool false)], args := [d1, d2] }
  | _ => none }
def FnExactLineColumnWrongFalsely : Prop := fnExactLineColumnRow.holds Try.pinned (OpenSpec.ofChange fnExactLineColumnWrong)

/-- 'laws.FnExactStartNeed': WHATEVER THE INPUT: true; the input reads as it did. -/
def fnExactStartNeedSpec : ChangeSpec := { name := "fnExactStartNeed", fn := fun _ => fun
  | [d1, d2] => { results := [.lit (.bool true)], args := [d1, d2] }
  | _ => none }
def fnExactStartNeedRow : OpenClaim := { program := "ytlbebnmhldolnaa", sum := "5c18e4cd3591393b85bdbbeed9b16aec7d10c5880e5bf08894259546ce09eeae", func := "loop.example/g01074/laws.FnExactStartNeed", spec := "fnExactStartNeed", unfollowed := true, recurses := true, loops := true, apart := false }
def FnExactStartNeedSaid : Prop := fnExactStartNeedRow.holds Try.pinned (OpenSpec.ofChange fnExactStartNeedSpec)

/-- ITS FALSE NEIGHBOUR: 'it returns false'. Refute it at one input. -/
def fnExactStartNeedWrong : ChangeSpec := { name := "fnExactStartNeed", fn := fun _ => fun
  | [d1, d2] => { results := [.lit (.bool false)], args := [d1, d2] }
  | _ => none }
def FnExactStartNeedWrongFalsely : Prop := fnExactStartNeedRow.holds Try.pinned (OpenSpec.ofChange fnExactStartNeedWrong)

/-- 'laws.FnExactValidNeed': WHATEVER THE INPUT: true; the input reads as it did. -/
def fnExactValidNeedSpec : ChangeSpec := { name := "fnExactValidNeed", fn := fun _ => fun
  | [d1, d2] => { results := [.lit (.bool true)], args := [d1, d2] }
  | _ => none }
def fnExactValidNeedRow : OpenClaim := { program := "ytlbebnmhldolnaa", sum := "5c18e4cd3591393b85bdbbeed9b16aec7d10c5880e5bf08894259546ce09eeae", func := "loop.example/g01074/laws.FnExactValidNeed", spec := "fnExactValidNeed", unfollowed := true, recurses := true, loops := true, apart := false }
def FnExactValidNeedSaid : Prop := fnExactValidNeedRow.holds Try.pinned (OpenSpec.ofChange fnExactValidNeedSpec)

/-- ITS FALSE NEIGHBOUR: 'it returns false'. Refute it at one input. -/
def fnExactValidNeedWrong : ChangeSpec := { name := "fnExactValidNeed", fn := fun _ => fun
  | [d1, d2] => { results := [.lit (.bool false)], args := [d1, d2] }
  | _ => none }
def FnExactValidNeedWrongFalsely : Prop := fnExactValidNeedRow.holds Try.pinned (OpenSpec.ofChange fnExactValidNeedWrong)

/-- 'laws.FnExactIsFinished': WHATEVER THE INPUT: true; the input reads as it did. -/
def fnExactIsFinishedSpec : ChangeSpec := { name := "fnExactIsFinished", fn := fun _ => fun
  | [d1, d2] => { results := [.lit (.bool true)], args := [d1, d2] }
  | _ => none }
def fnExactIsFinishedRow : OpenClaim := { program := "ytlbebnmhldolnaa", sum := "5c18e4cd3591393b85bdbbeed9b16aec7d10c5880e5bf08894259546ce09eeae", func := "loop.example/g01074/laws.FnExactIsFinished", spec := "fnExactIsFinished", unfollowed := true, recurses := true, loops := true, apart := false }
def FnExactIsFinishedSaid : Prop := fnExactIsFinishedRow.holds Try.pinned (OpenSpec.ofChange fnExactIsFinishedSpec)

/-- ITS FALSE NEIGHBOUR: 'it returns false'. Refute it at one input. -/
def fnExactIsFinishedWrong : ChangeSpec := { name := "fnExactIsFinished", fn := fun _ => fun
  | [d1, d2] => { results := [.lit (.bool false)], args := [d1, d2] }
  | _ => none }
def FnExactIsFinishedWrongFalsely : Prop := fnExactIsFinishedRow.holds Try.pinned (OpenSpec.ofChange fnExactIsFinishedWrong)

/- THE SECOND FORM. 'bulk': how many values and letters a reading holds, each counted each time it is reached (what is shared counts as often as it is met; a slice's spare places count too). A statement '..UptoSaid' is the law's where the arguments, and the package variables that the reading takes, are together of bulk at most 1048576: NARROWER than '..Said'. Prove '..Said' where nothing that the law and all that it calls make is longer than what came in: it says more and counts as full. Else prove '..UptoSaid'. A law counts once. -/
mutual
def uptoBulk {H : Type} : DataW H → Nat
  | .lit (.string bytes) => bytes.length + 1
  | .lit _ => 1
  | .nil => 1
  | .ptr d => uptoBulk d + 1
  | .slice elems spare => uptoBulkAll elems + uptoBulkAll spare + 1
  | .agg parts => uptoBulkAll parts + 1
  | .iface _ d => uptoBulk d + 1
  | .map entries => uptoBulkEntries entries + 1
  | .held _ => 1
def uptoBulkAll {H : Type} : List (DataW H) → Nat
  | [] => 0
  | d :: r => uptoBulk d + uptoBulkAll r
def uptoBulkEntries {H : Type} : List (Lit × DataW H) → Nat
  | [] => 0
  | x :: r => uptoBulkEntry x + uptoBulkEntries r
def uptoBulkEntry {H : Type} : Lit × DataW H → Nat
  | (.string bytes, d) => bytes.length + uptoBulk d + 1
  | (_, d) => uptoBulk d + 1
 end
def uptoSmall : (H : Type) → List (DataW H) → Bool := fun _ ds => decide (uptoBulkAll ds ≤ 1048576)
def OpenSpec.upto (s : _root_.Go.ChangeSpec) : _root_.Go.OpenSpec := { _root_.Go.OpenSpec.ofChange s with cond := some uptoSmall }

/-- 'laws.FnExactLineColumn', WHERE WHAT IT READS IS OF BULK AT MOST 1048576: true; the input reads as it did. -/
def fnExactLineColumnUptoRow : OpenClaim := { program := "ytlbebnmhldolnaa", sum := "5c18e4cd3591393b85bdbbeed9b16aec7d10c5880e5bf08894259546ce09eeae", func := "loop.example/g01074/laws.FnExactLineColumn", spec := "fnExactLineColumn", inPlace := ["internal/bytealg.CountString", "internal/bytealg.IndexByteString", "internal/bytealg.IndexString"], named := ["internal/bytealg.MaxLen"], apart := false, narrowed := true }
def FnExactLineColumnUptoSaid : Prop := fnExactLineColumnUptoRow.holds Try.pinned (OpenSpec.upto fnExactLineColumnSpec)

/-- 'laws.FnExactStartNeed', WHERE WHAT IT READS IS OF BULK AT MOST 1048576: true; the input reads as it did. -/
def fnExactStartNeedUptoRow : OpenClaim := { program := "ytlbebnmhldolnaa", sum := "5c18e4cd3591393b85bdbbeed9b16aec7d10c5880e5bf08894259546ce09eeae", func := "loop.example/g01074/laws.FnExactStartNeed", spec := "fnExactStartNeed", unfollowed := true, recurses := true, loops := true, apart := false, narrowed := true }
def FnExactStartNeedUptoSaid : Prop := fnExactStartNeedUptoRow.holds Try.pinned (OpenSpec.upto fnExactStartNeedSpec)

/-- 'laws.FnExactValidNeed', WHERE WHAT IT READS IS OF BULK AT MOST 1048576: true; the input reads as it did. -/
def fnExactValidNeedUptoRow : OpenClaim := { program := "ytlbebnmhldolnaa", sum := "5c18e4cd3591393b85bdbbeed9b16aec7d10c5880e5bf08894259546ce09eeae", func := "loop.example/g01074/laws.FnExactValidNeed", spec := "fnExactValidNeed", unfollowed := true, recurses := true, loops := true, apart := false, narrowed := true }
def FnExactValidNeedUptoSaid : Prop := fnExactValidNeedUptoRow.holds Try.pinned (OpenSpec.upto fnExactValidNeedSpec)

/-- 'laws.FnExactIsFinished', WHERE WHAT IT READS IS OF BULK AT MOST 1048576: true; the input reads as it did. -/
def fnExactIsFinishedUptoRow : OpenClaim := { program := "ytlbebnmhldolnaa", sum := "5c18e4cd3591393b85bdbbeed9b16aec7d10c5880e5bf08894259546ce09eeae", func := "loop.example/g01074/laws.FnExactIsFinished", spec := "fnExactIsFinished", unfollowed := true, recurses := true, loops := true, apart := false, narrowed := true }
def FnExactIsFinishedUptoSaid : Prop := fnExactIsFinishedUptoRow.holds Try.pinned (OpenSpec.upto fnExactIsFinishedSpec)

end Rows
end Go.Proofs.Ytlbebnmhldolnaa
