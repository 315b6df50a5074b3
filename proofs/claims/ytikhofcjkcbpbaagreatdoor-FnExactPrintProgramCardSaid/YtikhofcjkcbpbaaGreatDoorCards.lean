/-
  DERIVED. GIVEN WITH THE SEED: THE CARDS: each row of YtikhofcjkcbpbaaGreatDoorRows.lean that lists a variable, with what it lists TIED to the program's text (the seventh form; the later family's looks); each row that meets fmt, with fmt's text TOLD by the authors' own Lean function (tested against real Go, not proved from fmt's source: count such statements apart). THE CARD IS WHAT COUNTS. Prove the row's statement (the work); the ties are given (YtikhofcjkcbpbaaGreatDoorTie.lean); close each card by the builder's one call (the guide's Derived/Test/ToyasCard.lean, 'card_holds'). Laid BY PROGRAM, IN A SANDBOX (cutbox-door.mjs). By AI agents, Wed Nov 11 2026. No macro, syntax, notation, axiom, sorry.
-/
import Derived.Test.YtikhofcjkcbpbaaGreatDoorRows
import GoSem.ClaimSeven
namespace Go.Proofs.YtikhofcjkcbpbaaGreatDoor
namespace Rows

/-- THE TIED CARD OF 'laws.FnExactPrintTerm'. -/
def fnExactPrintTermCard : Claim7 := { stood := { row := fnExactPrintTermRow, standIns := [], harness := (true, "00d84c3a1825c038761feb4c1cadf91a2aaa4d20dcfd5862976e2cb543cd3467"), looks := false }, kinds := [], alts := [], laidByText := true, laidKinds := [.data, .data, .data], laidTests := true, laidLooks := .later }
def FnExactPrintTermCardSaid : Prop := Claim7.holds Tryz.pinned (.plain (OpenSpec.ofChange fnExactPrintTermSpec)) fnExactPrintTermCard

/-- THE TIED CARD OF 'laws.FnExactPrintProgram'. -/
def fnExactPrintProgramCard : Claim7 := { stood := { row := fnExactPrintProgramRow, standIns := [], harness := (true, "00d84c3a1825c038761feb4c1cadf91a2aaa4d20dcfd5862976e2cb543cd3467"), looks := false }, kinds := [], alts := [], laidByText := true, laidKinds := [.data, .data, .data], laidTests := true, laidLooks := .later }
def FnExactPrintProgramCardSaid : Prop := Claim7.holds Tryz.pinned (.plain (OpenSpec.ofChange fnExactPrintProgramSpec)) fnExactPrintProgramCard

/-- THE SECOND FORM's CARD OF 'laws.FnExactPrintTerm'. -/
def fnExactPrintTermUptoCard : Claim7 := { stood := { row := fnExactPrintTermUptoRow, standIns := [], harness := (true, "00d84c3a1825c038761feb4c1cadf91a2aaa4d20dcfd5862976e2cb543cd3467"), looks := false }, kinds := [], alts := [], laidByText := true, laidKinds := [.data, .data, .data], laidTests := true, laidLooks := .later }
def FnExactPrintTermUptoCardSaid : Prop := Claim7.holds Tryz.pinned (.plain (OpenSpec.upto fnExactPrintTermSpec)) fnExactPrintTermUptoCard

/-- THE SECOND FORM's CARD OF 'laws.FnExactPrintProgram'. -/
def fnExactPrintProgramUptoCard : Claim7 := { stood := { row := fnExactPrintProgramUptoRow, standIns := [], harness := (true, "00d84c3a1825c038761feb4c1cadf91a2aaa4d20dcfd5862976e2cb543cd3467"), looks := false }, kinds := [], alts := [], laidByText := true, laidKinds := [.data, .data, .data], laidTests := true, laidLooks := .later }
def FnExactPrintProgramUptoCardSaid : Prop := Claim7.holds Tryz.pinned (.plain (OpenSpec.upto fnExactPrintProgramSpec)) fnExactPrintProgramUptoCard
end Rows
end Go.Proofs.YtikhofcjkcbpbaaGreatDoor
