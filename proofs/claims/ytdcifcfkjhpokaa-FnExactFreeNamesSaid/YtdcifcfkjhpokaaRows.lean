/-
  NARROWER THAN 'FOR EVERY INPUT', by the rows' own cells (each row's printed sentence says how): FnExactValidTerm: loops · FnExactTermSize: loops · FnExactBoxDepth: loops · FnExactUsesOf: loops · FnExactAlphaSame: loops · FnExactFreeNames: loops · FnExactLevelsOf: loops · FnExactSameProgram: loops · FnExactValidProgram: loops · FnExactMainDef: loops.
  DERIVED. THE GIVEN ROWS OF THIS SEAT. 10 by the template 'for every input the law returns true; each argument reads behind the call as it read before'; 0 by the template 'total and deterministic' (their statements: YtdcifcfkjhpokaaTotals.lean).
  GIVEN WITH THE SEED: the statements are not yours to turn. If you find one false, say at which input.
  Laid BY PROGRAM, IN A SANDBOX (cutbox-rows.mjs): the forced cells as the released guide's own fill.sh prints them over the translation 1919006420283c59… (all of the seat's roots in one cut). By AI agents, Wed Nov 11 2026. No macro, syntax, notation, axiom, sorry.
-/
import Derived.Test.YtdcifcfkjhpokaaChecked
import GoSem.Claim
import GoSem.ClaimJoined
import GoSem.ClaimMapViews
import Derived.JoinedTies
import Derived.KernelRfl
namespace Go.Proofs.Ytdcifcfkjhpokaa
/- THE CELL 'sum', in the pinned program and in every row, IS THE sha256 OF THE DUMP (.gsa) THAT YtdcifcfkjhpokaaProg.lean LOADS. Nothing in Lean hashes anything: it is a label: what it is worth is what the hold of that sum in a sandbox is worth. -/
noncomputable def Try.pinned : Pinned := { name := "ytdcifcfkjhpokaa", sum := "1919006420283c594fb5842cbd53d34f29daa058fe221d7080cf34d1bee3c403", checked := Try.checked }
namespace Rows
def none {H : Type} : Left H := { results := [], args := [] }

/-- 'laws.FnExactValidTerm': WHATEVER THE INPUT: true; the input reads as it did. -/
def fnExactValidTermSpec : ChangeSpec := { name := "fnExactValidTerm", fn := fun _ => fun
  | [d] => { results := [.lit (.bool true)], args := [d] }
  | _ => none }
def fnExactValidTermRow : OpenClaim := { program := "ytdcifcfkjhpokaa", sum := "1919006420283c594fb5842cbd53d34f29daa058fe221d7080cf34d1bee3c403", func := "loop.example/g01074/laws.FnExactValidTerm", spec := "fnExactValidTerm", unfollowed := true, recurses := true, loops := true, apart := false }
def FnExactValidTermSaid : Prop := fnExactValidTermRow.holds Try.pinned (OpenSpec.ofChange fnExactValidTermSpec)

/-- ITS FALSE NEIGHBOUR: 'it returns false'. Refute it at one input. -/
def fnExactValidTermWrong : ChangeSpec := { name := "fnExactValidTerm", fn := fun _ => fun
  | [d] => { results := [.lit (.bool false)], args := [d] }
  | _ => none }
def FnExactValidTermWrongFalsely : Prop := fnExactValidTermRow.holds Try.pinned (OpenSpec.ofChange fnExactValidTermWrong)

/-- 'laws.FnExactTermSize': WHATEVER THE INPUT: true; the input reads as it did. -/
def fnExactTermSizeSpec : ChangeSpec := { name := "fnExactTermSize", fn := fun _ => fun
  | [d] => { results := [.lit (.bool true)], args := [d] }
  | _ => none }
def fnExactTermSizeRow : OpenClaim := { program := "ytdcifcfkjhpokaa", sum := "1919006420283c594fb5842cbd53d34f29daa058fe221d7080cf34d1bee3c403", func := "loop.example/g01074/laws.FnExactTermSize", spec := "fnExactTermSize", unfollowed := true, recurses := true, loops := true, apart := false }
def FnExactTermSizeSaid : Prop := fnExactTermSizeRow.holds Try.pinned (OpenSpec.ofChange fnExactTermSizeSpec)

/-- ITS FALSE NEIGHBOUR: 'it returns false'. Refute it at one input. -/
def fnExactTermSizeWrong : ChangeSpec := { name := "fnExactTermSize", fn := fun _ => fun
  | [d] => { results := [.lit (.bool false)], args := [d] }
  | _ => none }
def FnExactTermSizeWrongFalsely : Prop := fnExactTermSizeRow.holds Try.pinned (OpenSpec.ofChange fnExactTermSizeWrong)

/-- 'laws.FnExactBoxDepth': WHATEVER THE INPUT: true; the input reads as it did. -/
def fnExactBoxDepthSpec : ChangeSpec := { name := "fnExactBoxDepth", fn := fun _ => fun
  | [d] => { results := [.lit (.bool true)], args := [d] }
  | _ => none }
def fnExactBoxDepthRow : OpenClaim := { program := "ytdcifcfkjhpokaa", sum := "1919006420283c594fb5842cbd53d34f29daa058fe221d7080cf34d1bee3c403", func := "loop.example/g01074/laws.FnExactBoxDepth", spec := "fnExactBoxDepth", unfollowed := true, recurses := true, loops := true, apart := false }
def FnExactBoxDepthSaid : Prop := fnExactBoxDepthRow.holds Try.pinned (OpenSpec.ofChange fnExactBoxDepthSpec)

/-- ITS FALSE NEIGHBOUR: 'it returns false'. Refute it at one input. -/
def fnExactBoxDepthWrong : ChangeSpec := { name := "fnExactBoxDepth", fn := fun _ => fun
  | [d] => { results := [.lit (.bool false)], args := [d] }
  | _ => none }
def FnExactBoxDepthWrongFalsely : Prop := fnExactBoxDepthRow.holds Try.pinned (OpenSpec.ofChange fnExactBoxDepthWrong)

/-- 'laws.FnExactUsesOf': WHATEVER THE INPUT: true; the input reads as it did. -/
def fnExactUsesOfSpec : ChangeSpec := { name := "fnExactUsesOf", fn := fun _ => fun
  | [d1, d2] => { results := [.lit (.bool true)], args := [d1, d2] }
  | _ => none }
def fnExactUsesOfRow : OpenClaim := { program := "ytdcifcfkjhpokaa", sum := "1919006420283c594fb5842cbd53d34f29daa058fe221d7080cf34d1bee3c403", func := "loop.example/g01074/laws.FnExactUsesOf", spec := "fnExactUsesOf", unfollowed := true, recurses := true, loops := true, apart := false }
def FnExactUsesOfSaid : Prop := fnExactUsesOfRow.holds Try.pinned (OpenSpec.ofChange fnExactUsesOfSpec)

/-- ITS FALSE NEIGHBOUR: 'it returns false'. Refute it at one input. -/
def fnExactUsesOfWrong : ChangeSpec := { name := "fnExactUsesOf", fn := fun _ => fun
  | [d1, d2] => { results := [.lit (.bool false)], args := [d1, d2] }
  | _ => none }
def FnExactUsesOfWrongFalsely : Prop := fnExactUsesOfRow.holds Try.pinned (OpenSpec.ofChange fnExactUsesOfWrong)

/-- 'laws.FnExactAlphaSame': WHATEVER THE INPUT: true; the input reads as it did. -/
def fnExactAlphaSameSpec : ChangeSpec := { name := "fnExactAlphaSame", fn := fun _ => fun
  | [d1, d2] => { results := [.lit (.bool true)], args := [d1, d2] }
  | _ => none }
def fnExactAlphaSameRow : OpenClaim := { program := "ytdcifcfkjhpokaa", sum := "1919006420283c594fb5842cbd53d34f29daa058fe221d7080cf34d1bee3c403", func := "loop.example/g01074/laws.FnExactAlphaSame", spec := "fnExactAlphaSame", unfollowed := true, recurses := true, loops := true, apart := false }
def FnExactAlphaSameSaid : Prop := fnExactAlphaSameRow.holds Try.pinned (OpenSpec.ofChange fnExactAlphaSameSpec)

/-- ITS FALSE NEIGHBOUR: 'it returns false'. Refute it at one input. -/
def fnExactAlphaSameWrong : ChangeSpec := { name := "fnExactAlphaSame", fn := fun _ => fun
  | [d1, d2] => { results := [.lit (.bool false)], args := [d1, d2] }
  | _ => none }
def FnExactAlphaSameWrongFalsely : Prop := fnExactAlphaSameRow.holds Try.pinned (OpenSpec.ofChange fnExactAlphaSameWrong)

/-- 'laws.FnExactFreeNames': WHATEVER THE INPUT: true; the input reads as it did. -/
def fnExactFreeNamesSpec : ChangeSpec := { name := "fnExactFreeNames", fn := fun _ => fun
  | [d] => { results := [.lit (.bool true)], args := [d] }
  | _ => none }
def fnExactFreeNamesRow : OpenClaim := { program := "ytdcifcfkjhpokaa", sum := "1919006420283c594fb5842cbd53d34f29daa058fe221d7080cf34d1bee3c403", func := "loop.example/g01074/laws.FnExactFreeNames", spec := "fnExactFreeNames", unfollowed := true, recurses := true, loops := true, apart := false }
def FnExactFreeNamesSaid : Prop := fnExactFreeNamesRow.holds Try.pinned (OpenSpec.ofChange fnExactFreeNamesSpec)

/-- ITS FALSE NEIGHBOUR: 'it returns false'. Refute it at one input. -/
def fnExactFreeNamesWrong : ChangeSpec := { name := "fnExactFreeNames", fn := fun _ => fun
  | [d] => { results := [.lit (.bool false)], args := [d] }
  | _ => none }
def FnExactFreeNamesWrongFalsely : Prop := fnExactFreeNamesRow.holds Try.pinned (OpenSpec.ofChange fnExactFreeNamesWrong)

/-- 'laws.FnExactLevelsOf': WHATEVER THE INPUT: true; the input reads as it did. -/
def fnExactLevelsOfSpec : ChangeSpec := { name := "fnExactLevelsOf", fn := fun _ => fun
  | [d1, d2] => { results := [.lit (.bool true)], args := [d1, d2] }
  | _ => none }
def fnExactLevelsOfRow : OpenClaim := { program := "ytdcifcfkjhpokaa", sum := "1919006420283c594fb5842cbd53d34f29daa058fe221d7080cf34d1bee3c403", func := "loop.example/g01074/laws.FnExactLevelsOf", spec := "fnExactLevelsOf", unfollowed := true, recurses := true, loops := true, apart := false }
def FnExactLevelsOfSaid : Prop := fnExactLevelsOfRow.holds Try.pinned (OpenSpec.ofChange fnExactLevelsOfSpec)

/-- ITS FALSE NEIGHBOUR: 'it returns false'. Refute it at one input. -/
def fnExactLevelsOfWrong : ChangeSpec := { name := "fnExactLevelsOf", fn := fun _ => fun
  | [d1, d2] => { results := [.lit (.bool false)], args := [d1, d2] }
  | _ => none }
def FnExactLevelsOfWrongFalsely : Prop := fnExactLevelsOfRow.holds Try.pinned (OpenSpec.ofChange fnExactLevelsOfWrong)

/-- 'laws.FnExactSameProgram': WHATEVER THE INPUT: true; the input reads as it did. -/
def fnExactSameProgramSpec : ChangeSpec := { name := "fnExactSameProgram", fn := fun _ => fun
  | [d1, d2] => { results := [.lit (.bool true)], args := [d1, d2] }
  | _ => none }
def fnExactSameProgramRow : OpenClaim := { program := "ytdcifcfkjhpokaa", sum := "1919006420283c594fb5842cbd53d34f29daa058fe221d7080cf34d1bee3c403", func := "loop.example/g01074/laws.FnExactSameProgram", spec := "fnExactSameProgram", unfollowed := true, recurses := true, loops := true, apart := false }
def FnExactSameProgramSaid : Prop := fnExactSameProgramRow.holds Try.pinned (OpenSpec.ofChange fnExactSameProgramSpec)

/-- ITS FALSE NEIGHBOUR: 'it returns false'. Refute it at one input. -/
def fnExactSameProgramWrong : ChangeSpec := { name := "fnExactSameProgram", fn := fun _ => fun
  | [d1, d2] => { results := [.lit (.bool false)], args := [d1, d2] }
  | _ => none }
def FnExactSameProgramWrongFalsely : Prop := fnExactSameProgramRow.holds Try.pinned (OpenSpec.ofChange fnExactSameProgramWrong)

/-- 'laws.FnExactValidProgram': WHATEVER THE INPUT: true; the input reads as it did. -/
def fnExactValidProgramSpec : ChangeSpec := { name := "fnExactValidProgram", fn := fun _ => fun
  | [d] => { results := [.lit (.bool true)], args := [d] }
  | _ => none }
def fnExactValidProgramRow : OpenClaim := { program := "ytdcifcfkjhpokaa", sum := "1919006420283c594fb5842cbd53d34f29daa058fe221d7080cf34d1bee3c403", func := "loop.example/g01074/laws.FnExactValidProgram", spec := "fnExactValidProgram", unfollowed := true, recurses := true, loops := true, apart := false }
def FnExactValidProgramSaid : Prop := fnExactValidProgramRow.holds Try.pinned (OpenSpec.ofChange fnExactValidProgramSpec)

/-- ITS FALSE NEIGHBOUR: 'it returns false'. Refute it at one input. -/
def fnExactValidProgramWrong : ChangeSpec := { name := "fnExactValidProgram", fn := fun _ => fun
  | [d] => { results := [.lit (.bool false)], args := [d] }
  | _ => none }
def FnExactValidProgramWrongFalsely : Prop := fnExactValidProgramRow.holds Try.pinned (OpenSpec.ofChange fnExactValidProgramWrong)

/-- 'laws.FnExactMainDef': WHATEVER THE INPUT: true; the input reads as it did. -/
def fnExactMainDefSpec : ChangeSpec := { name := "fnExactMainDef", fn := fun _ => fun
  | [d] => { results := [.lit (.bool true)], args := [d] }
  | _ => none }
def fnExactMainDefRow : OpenClaim := { program := "ytdcifcfkjhpokaa", sum := "1919006420283c594fb5842cbd53d34f29daa058fe221d7080cf34d1bee3c403", func := "loop.example/g01074/laws.FnExactMainDef", spec := "fnExactMainDef", unfollowed := true, recurses := true, loops := true, apart := false }
def FnExactMainDefSaid : Prop := fnExactMainDefRow.holds Try.pinned (OpenSpec.ofChange fnExactMainDefSpec)

/-- ITS FALSE NEIGHBOUR: 'it returns false'. Refute it at one input. -/
def fnExactMainDefWrong : ChangeSpec := { name := "fnExactMainDef", fn := fun _ => fun
  | [d] => { results := [.lit (.bool false)], args := [d] }
  | _ => none }
def FnExactMainDefWrongFalsely : Prop := fnExactMainDefRow.holds Try.pinned (OpenSpec.ofChange fnExactMainDefWrong)

/- THE SECOND FORM. 'bulk': how many values and letters a reading holds, each counted each time it is reached (what is shared counts as often as it is met; a slice's spare places count too). A statement '..UptoSaid' is the law's where the arguments, and the package variables that the reading takes, are together of bulk at most 1048576: NARROWER than '..Said'. Prove '..Said' where nothing that the law and all that it calls make is longer than what came in: it says more and counts as full. Else prove '..UptoSaid'. A law counts once. -/
mutual
def uptoBulk {H : Type} : DataW H → Nat
  | .lit (.string bytes) => bytes.length + 1
  | .lit _ => 1
  | .nil => 1
  | .ptr d => uptoBulk d + 1
  | .slice elems spare => uptoBulkAll elems + uptoBulkAll spare + 1
  | .agg parts => uptoBulkAll parts + 1
  | .iface _ d => uptoBulk d + 1
  | .map entries => uptoBulkEntries entries + 1
  | .held _ => 1
def uptoBulkAll {H : Type} : List (DataW H) → Nat
  | [] => 0
  | d :: r => uptoBulk d + uptoBulkAll r
def uptoBulkEntries {H : Type} : List (Lit × DataW H) → Nat
  | [] => 0
  | x :: r => uptoBulkEntry x + uptoBulkEntries r
def uptoBulkEntry {H : Type} : Lit × DataW H → Nat
  | (.string bytes, d) => bytes.length + uptoBulk d + 1
  | (_, d) => uptoBulk d + 1
 end
def uptoSmall : (H : Type) → List (DataW H) → Bool := fun _ ds => decide (uptoBulkAll ds ≤ 1048576)
def OpenSpec.upto (s : _root_.Go.ChangeSpec) : _root_.Go.OpenSpec := { _root_.Go.OpenSpec.ofChange s with cond := some uptoSmall }

/-- 'laws.FnExactValidTerm', WHERE WHAT IT READS IS OF BULK AT MOST 1048576: true; the input reads as it did. -/
def fnExactValidTermUptoRow : OpenClaim := { program := "ytdcifcfkjhpokaa", sum := "1919006420283c594fb5842cbd53d34f29daa058fe221d7080cf34d1bee3c403", func := "loop.example/g01074/laws.FnExactValidTerm", spec := "fnExactValidTerm", unfollowed := true, recurses := true, loops := true, apart := false, narrowed := true }
def FnExactValidTermUptoSaid : Prop := fnExactValidTermUptoRow.holds Try.pinned (OpenSpec.upto fnExactValidTermSpec)

/-- 'laws.FnExactTermSize', WHERE WHAT IT READS IS OF BULK AT MOST 1048576: true; the input reads as it did. -/
def fnExactTermSizeUptoRow : OpenClaim := { program := "ytdcifcfkjhpokaa", sum := "1919006420283c594fb5842cbd53d34f29daa058fe221d7080cf34d1bee3c403", func := "loop.example/g01074/laws.FnExactTermSize", spec := "fnExactTermSize", unfollowed := true, recurses := true, loops := true, apart := false, narrowed := true }
def FnExactTermSizeUptoSaid : Prop := fnExactTermSizeUptoRow.holds Try.pinned (OpenSpec.upto fnExactTermSizeSpec)

/-- 'laws.FnExactBoxDepth', WHERE WHAT IT READS IS OF BULK AT MOST 1048576: true; the input reads as it did. -/
def fnExactBoxDepthUptoRow : OpenClaim := { program := "ytdcifcfkjhpokaa", sum := "1919006420283c594fb5842cbd53d34f29daa058fe221d7080cf34d1bee3c403", func := "loop.example/g01074/laws.FnExactBoxDepth", spec := "fnExactBoxDepth", unfollowed := true, recurses := true, loops := true, apart := false, narrowed := true }
def FnExactBoxDepthUptoSaid : Prop := fnExactBoxDepthUptoRow.holds Try.pinned (OpenSpec.upto fnExactBoxDepthSpec)

/-- 'laws.FnExactUsesOf', WHERE WHAT IT READS IS OF BULK AT MOST 1048576: true; the input reads as it did. -/
def fnExactUsesOfUptoRow : OpenClaim := { program := "ytdcifcfkjhpokaa", sum := "1919006420283c594fb5842cbd53d34f29daa058fe221d7080cf34d1bee3c403", func := "loop.example/g01074/laws.FnExactUsesOf", spec := "fnExactUsesOf", unfollowed := true, recurses := true, loops := true, apart := false, narrowed := true }
def FnExactUsesOfUptoSaid : Prop := fnExactUsesOfUptoRow.holds Try.pinned (OpenSpec.upto fnExactUsesOfSpec)

/-- 'laws.FnExactAlphaSame', WHERE WHAT IT READS IS OF BULK AT MOST 1048576: true; the input reads as it did. -/
def fnExactAlphaSameUptoRow : OpenClaim := { program := "ytdcifcfkjhpokaa", sum := "1919006420283c594fb5842cbd53d34f29daa058fe221d7080cf34d1bee3c403", func := "loop.example/g01074/laws.FnExactAlphaSame", spec := "fnExactAlphaSame", unfollowed := true, recurses := true, loops := true, apart := false, narrowed := true }
def FnExactAlphaSameUptoSaid : Prop := fnExactAlphaSameUptoRow.holds Try.pinned (OpenSpec.upto fnExactAlphaSameSpec)

/-- 'laws.FnExactFreeNames', WHERE WHAT IT READS IS OF BULK AT MOST 1048576: true; the input reads as it did. -/
def fnExactFreeNamesUptoRow : OpenClaim := { program := "ytdcifcfkjhpokaa", sum := "1919006420283c594fb5842cbd53d34f29daa058fe221d7080cf34d1bee3c403", func := "loop.example/g01074/laws.FnExactFreeNames", spec := "fnExactFreeNames", unfollowed := true, recurses := true, loops := true, apart := false, narrowed := true }
def FnExactFreeNamesUptoSaid : Prop := fnExactFreeNamesUptoRow.holds Try.pinned (OpenSpec.upto fnExactFreeNamesSpec)

/-- 'laws.FnExactLevelsOf', WHERE WHAT IT READS IS OF BULK AT MOST 1048576: true; the input reads as it did. -/
def fnExactLevelsOfUptoRow : OpenClaim := { program := "ytdcifcfkjhpokaa", sum := "1919006420283c594fb5842cbd53d34f29daa058fe221d7080cf34d1bee3c403", func := "loop.example/g01074/laws.FnExactLevelsOf", spec := "fnExactLevelsOf", unfollowed := true, recurses := true, loops := true, apart := false, narrowed := true }
def FnExactLevelsOfUptoSaid : Prop := fnExactLevelsOfUptoRow.holds Try.pinned (OpenSpec.upto fnExactLevelsOfSpec)

/-- 'laws.FnExactSameProgram', WHERE WHAT IT READS IS OF BULK AT MOST 1048576: true; the input reads as it did. -/
def fnExactSameProgramUptoRow : OpenClaim := { program := "ytdcifcfkjhpokaa", sum := "1919006420283c594fb5842cbd53d34f29daa058fe221d7080cf34d1bee3c403", func := "loop.example/g01074/laws.FnExactSameProgram", spec := "fnExactSameProgram", unfollowed := true, recurses := true, loops := true, apart := false, narrowed := true }
def FnExactSameProgramUptoSaid : Prop := fnExactSameProgramUptoRow.holds Try.pinned (OpenSpec.upto fnExactSameProgramSpec)

/-- 'laws.FnExactValidProgram', WHERE WHAT IT READS IS OF BULK AT MOST 1048576: true; the input reads as it did. -/
def fnExactValidProgramUptoRow : OpenClaim := { program := "ytdcifcfkjhpokaa", sum := "1919006420283c594fb5842cbd53d34f29daa058fe221d7080cf34d1bee3c403", func := "loop.example/g01074/laws.FnExactValidProgram", spec := "fnExactValidProgram", unfollowed := true, recurses := true, loops := true, apart := false, narrowed := true }
def FnExactValidProgramUptoSaid : Prop := fnExactValidProgramUptoRow.holds Try.pinned (OpenSpec.upto fnExactValidProgramSpec)

/-- 'laws.FnExactMainDef', WHERE WHAT IT READS IS OF BULK AT MOST 1048576: true; the input reads as it did. -/
def fnExactMainDefUptoRow : OpenClaim := { program := "ytdcifcfkjhpokaa", sum := "1919006420283c594fb5842cbd53d34f29daa058fe221d7080cf34d1bee3c403", func := "loop.example/g01074/laws.FnExactMainDef", spec := "fnExactMainDef", unfollowed := true, recurses := true, loops := true, apart := false, narrowed := true }
def FnExactMainDefUptoSaid : Prop := fnExactMainDefUptoRow.holds Try.pinned (OpenSpec.upto fnExactMainDefSpec)

end Rows
end Go.Proofs.Ytdcifcfkjhpokaa
