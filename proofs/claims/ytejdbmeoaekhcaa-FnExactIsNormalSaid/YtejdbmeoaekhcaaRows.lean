/-
  NARROWER THAN 'FOR EVERY INPUT', by the rows' own cells (each row's printed sentence says how): FnExactIsNormal: loops · FnExactStartNeed: loops.
  DERIVED. THE GIVEN ROWS OF THIS SEAT. 2 by the template 'for every input the law returns true; each argument reads behind the call as it read before'; 0 by the template 'total and deterministic' (their statements: YtejdbmeoaekhcaaTotals.lean).
  GIVEN WITH THE SEED: the statements are not yours to turn. If you find one false, say at which input.
  Laid BY PROGRAM, IN A SANDBOX (cutbox-rows.mjs): the forced cells as the released guide's own fill.sh prints them over the translation 8fb854b06a2b031c… (all of the seat's roots in one cut). By AI agents, Wed Nov 11 2026. No macro, syntax, notation, axiom, sorry.
-/
import Derived.Test.YtejdbmeoaekhcaaChecked
import GoSem.Claim
import GoSem.ClaimJoined
import GoSem.ClaimMapViews
import Derived.JoinedTies
import Derived.KernelRfl
namespace Go.Proofs.Ytejdbmeoaekhcaa
/- THE CELL 'sum', in the pinned program and in every row, IS THE sha256 OF THE DUMP (.gsa) THAT YtejdbmeoaekhcaaProg.lean LOADS. Nothing in Lean hashes anything: it is a label: what it is worth is what the hold of that sum in a sandbox is worth. -/
noncomputable def Try.pinned : Pinned := { name := "ytejdbmeoaekhcaa", sum := "8fb854b06a2b031c4a4b76264a92d1907a909fa96c538b9bb949b81fe4a1ae2e", checked := Try.checked }
namespace Rows
def none {H : Type} : Left H := { results := [], args := [] }

/-- 'laws.FnExactIsNormal': WHATEVER THE INPUT: true; the input reads as it did. -/
def fnExactIsNormalSpec : ChangeSpec := { name := "fnExactIsNormal", fn := fun _ => fun
  | [d1, d2] => { results := [.lit (.bool true)], args := [d1, d2] }
  | _ => none }
def fnExactIsNormalRow : OpenClaim := { program := "ytejdbmeoaekhcaa", sum := "8fb854b06a2b031c4a4b76264a92d1907a909fa96c538b9bb949b81fe4a1ae2e", func := "loop.example/g01074/laws.FnExactIsNormal", spec := "fnExactIsNormal", unfollowed := true, recurses := true, loops := true, apart := false }
def FnExactIsNormalSaid : Prop := fnExactIsNormalRow.holds Try.pinned (OpenSpec.ofChange fnExactIsNormalSpec)

/-- ITS FALSE NEIGHBOUR: 'it returns false'. Refute it at one input. -/
def fnExactIsNormalWrong : ChangeSpec := { name := "fnExactIsNormal", fn := fun _ => fun
  | [d1, d2] => { results := [.lit (.bool false)], args := [d1, d2] }
  | _ => none }
def FnExactIsNormalWrongFalsely : Prop := fnExactIsNormalRow.holds Try.pinned (OpenSpec.ofChange fnExactIsNormalWrong)

/-- 'laws.FnExactStartNeed': WHATEVER THE INPUT: true; the input reads as it did. -/
def fnExactStartNeedSpec : ChangeSpec := { name := "fnExactStartNeed", fn := fun _ => fun
  | [d1, d2] => { results := [.lit (.bool true)], args := [d1, d2] }
  | _ => none }
def fnExactStartNeedRow : OpenClaim := { program := "ytejdbmeoaekhcaa", sum := "8fb854b06a2b031c4a4b76264a92d1907a909fa96c538b9bb949b81fe4a1ae2e", func := "loop.example/g01074/laws.FnExactStartNeed", spec := "fnExactStartNeed", unfollowed := true, recurses := true, loops := true, apart := false }
def FnExactStartNeedSaid : Prop := fnExactStartNeedRow.holds Try.pinned (OpenSpec.ofChange fnExactStartNeedSpec)

/-- ITS FALSE NEIGHBOUR: 'it returns false'. Refute it at one input. -/
def fnExactStartNeedWrong : ChangeSpec := { name := "fnExactStartNeed", fn := fun _ => fun
  | [d1, d2] => { results := [.lit (.bool false)], args := [d1, d2] }
  | _ => none }
def FnExactStartNeedWrongFalsely : Prop := fnExactStartNeedRow.holds Try.pinned (OpenSpec.ofChange fnExactStartNeedWrong)

/- THE SECOND FORM. 'bulk': how many values and letters a reading holds, each counted each time it is reached (what is shared counts as often as it is met; a slice's spare places count too). A statement '..UptoSaid' is the law's where the arguments, and the package variables that the reading takes, are together of bulk at most 1048576: NARROWER than '..Said'. Prove '..Said' where nothing that the law and all that it calls make is longer than what came in: it says more and counts as full. Else prove '..UptoSaid'. A law counts once. -/
mutual
def uptoBulk {H : Type} : DataW H → Nat
  | .lit (.string bytes) => bytes.length + 1
  | .lit _ => 1
  | .nil => 1
  | .ptr d => uptoBulk d + 1
  | .slice elems spare => uptoBulkAll elems + uptoBulkAll spare + 1
  | .agg parts => uptoBulkAll parts + 1
  | .iface _ d => uptoBulk d + 1
  | .map entries => uptoBulkEntries entries + 1
  | .held _ => 1
def uptoBulkAll {H : Type} : List (DataW H) → Nat
  | [] => 0
  | d :: r => uptoBulk d + uptoBulkAll r
def uptoBulkEntries {H : Type} : List (Lit × DataW H) → Nat
  | [] => 0
  | x :: r => uptoBulkEntry x + uptoBulkEntries r
def uptoBulkEntry {H : Type} : Lit × DataW H → Nat
  | (.string bytes, d) => bytes.length + uptoBulk d + 1
  | (_, d) => uptoBulk d + 1
 end
def uptoSmall : (H : Type) → List (DataW H) → Bool := fun _ ds => decide (uptoBulkAll ds ≤ 1048576)
def OpenSpec.upto (s : _root_.Go.ChangeSpec) : _root_.Go.OpenSpec := { _root_.Go.OpenSpec.ofChange s with cond := some uptoSmall }

/-- 'laws.FnExactIsNormal', WHERE WHAT IT READS IS OF BULK AT MOST 1048576: true; the input reads as it did. -/
def fnExactIsNormalUptoRow : OpenClaim := { program := "ytejdbmeoaekhcaa", sum := "8fb854b06a2b031c4a4b76264a92d1907a909fa96c538b9bb949b81fe4a1ae2e", func := "loop.example/g01074/laws.FnExactIsNormal", spec := "fnExactIsNormal", unfollowed := true, recurses := true, loops := true, apart := false, narrowed := true }
def FnExactIsNormalUptoSaid : Prop := fnExactIsNormalUptoRow.holds Try.pinned (OpenSpec.upto fnExactIsNormalSpec)

/-- 'laws.FnExactStartNeed', WHERE WHAT IT READS IS OF BULK AT MOST 1048576: true; the input reads as it did. -/
def fnExactStartNeedUptoRow : OpenClaim := { program := "ytejdbmeoaekhcaa", sum := "8fb854b06a2b031c4a4b76264a92d1907a909fa96c538b9bb949b81fe4a1ae2e", func := "loop.example/g01074/laws.FnExactStartNeed", spec := "fnExactStartNeed", unfollowed := true, recurses := true, loops := true, apart := false, narrowed := true }
def FnExactStartNeedUptoSaid : Prop := fnExactStartNeedUptoRow.holds Try.pinned (OpenSpec.upto fnExactStartNeedSpec)

end Rows
end Go.Proofs.Ytejdbmeoaekhcaa
