/-
  DERIVED. GIVEN WITH THE SEED: THE CARDS: each row of YtikhofcjkcbpbaaDoorRows.lean that lists a variable, with what it lists TIED to the program's text (the seventh form; the later family's looks); each row that meets fmt, with fmt's text TOLD by the authors' own Lean function (tested against real Go, not proved from fmt's source: count such statements apart). THE CARD IS WHAT COUNTS. Prove the row's statement (the work); the ties are given (YtikhofcjkcbpbaaDoorTie.lean); close each card by the builder's one call (the guide's Derived/Test/ToyasCard.lean, 'card_holds'). Laid BY PROGRAM, IN A SANDBOX (cutbox-door.mjs). By AI agents, Wed Nov 11 2026. No macro, syntax, notation, axiom, sorry.
-/
import Derived.Test.YtikhofcjkcbpbaaDoorRows
import GoSem.ClaimSeven
namespace Go.Proofs.YtikhofcjkcbpbaaDoor
namespace Rows

/-- THE TIED CARD OF 'laws.FnExactDecimal'. -/
def fnExactDecimalCard : Claim7 := { stood := { row := fnExactDecimalRow, standIns := [], harness := (true, "a0dc48bf532d0e80220836fc314d6586ad80deb8f9d7a41ef67cc68b4094d219"), looks := true }, kinds := [], alts := [], laidByText := true, laidKinds := [.data, .data, .data], laidTests := true, laidLooks := .later }
def FnExactDecimalCardSaid : Prop := Claim7.holds Tryd.pinned (.plain (OpenSpec.ofChange fnExactDecimalSpec)) fnExactDecimalCard

/-- THE TIED CARD OF 'laws.FnExactReadDecimal'. -/
def fnExactReadDecimalCard : Claim7 := { stood := { row := fnExactReadDecimalRow, standIns := [], harness := (true, "a0dc48bf532d0e80220836fc314d6586ad80deb8f9d7a41ef67cc68b4094d219"), looks := true }, kinds := [], alts := [], laidByText := true, laidKinds := [.data, .data, .data, .sentinel, .sentinel], laidTests := true, laidLooks := .later }
def FnExactReadDecimalCardSaid : Prop := Claim7.holds Tryd.pinned (.plain (OpenSpec.ofChange fnExactReadDecimalSpec)) fnExactReadDecimalCard

/-- THE TIED CARD OF 'laws.FnExactCoreText'. -/
def fnExactCoreTextCard : Claim7 := { stood := { row := fnExactCoreTextRow, standIns := [], harness := (true, "a0dc48bf532d0e80220836fc314d6586ad80deb8f9d7a41ef67cc68b4094d219"), looks := true }, kinds := [], alts := [], laidByText := true, laidKinds := [.data, .data, .data], laidTests := true, laidLooks := .later }
def FnExactCoreTextCardSaid : Prop := Claim7.holds Tryd.pinned (.plain (OpenSpec.ofChange fnExactCoreTextSpec)) fnExactCoreTextCard

/-- THE TIED CARD OF 'laws.FnExactTokens'. -/
def fnExactTokensCard : Claim7 := { stood := { row := fnExactTokensRow, standIns := [], harness := (true, "a0dc48bf532d0e80220836fc314d6586ad80deb8f9d7a41ef67cc68b4094d219"), looks := true }, kinds := [], alts := [], laidByText := true, laidKinds := [.data, .data, .data, .sentinel, .sentinel], laidTests := true, laidLooks := .later }
def FnExactTokensCardSaid : Prop := Claim7.holds Tryd.pinned (.plain (OpenSpec.ofChange fnExactTokensSpec)) fnExactTokensCard

/-- THE SECOND FORM's CARD OF 'laws.FnExactDecimal'. -/
def fnExactDecimalUptoCard : Claim7 := { stood := { row := fnExactDecimalUptoRow, standIns := [], harness := (true, "a0dc48bf532d0e80220836fc314d6586ad80deb8f9d7a41ef67cc68b4094d219"), looks := true }, kinds := [], alts := [], laidByText := true, laidKinds := [.data, .data, .data], laidTests := true, laidLooks := .later }
def FnExactDecimalUptoCardSaid : Prop := Claim7.holds Tryd.pinned (.plain (OpenSpec.upto fnExactDecimalSpec)) fnExactDecimalUptoCard

/-- THE SECOND FORM's CARD OF 'laws.FnExactReadDecimal'. -/
def fnExactReadDecimalUptoCard : Claim7 := { stood := { row := fnExactReadDecimalUptoRow, standIns := [], harness := (true, "a0dc48bf532d0e80220836fc314d6586ad80deb8f9d7a41ef67cc68b4094d219"), looks := true }, kinds := [], alts := [], laidByText := true, laidKinds := [.data, .data, .data, .sentinel, .sentinel], laidTests := true, laidLooks := .later }
def FnExactReadDecimalUptoCardSaid : Prop := Claim7.holds Tryd.pinned (.plain (OpenSpec.upto fnExactReadDecimalSpec)) fnExactReadDecimalUptoCard

/-- THE SECOND FORM's CARD OF 'laws.FnExactCoreText'. -/
def fnExactCoreTextUptoCard : Claim7 := { stood := { row := fnExactCoreTextUptoRow, standIns := [], harness := (true, "a0dc48bf532d0e80220836fc314d6586ad80deb8f9d7a41ef67cc68b4094d219"), looks := true }, kinds := [], alts := [], laidByText := true, laidKinds := [.data, .data, .data], laidTests := true, laidLooks := .later }
def FnExactCoreTextUptoCardSaid : Prop := Claim7.holds Tryd.pinned (.plain (OpenSpec.upto fnExactCoreTextSpec)) fnExactCoreTextUptoCard

/-- THE SECOND FORM's CARD OF 'laws.FnExactTokens'. -/
def fnExactTokensUptoCard : Claim7 := { stood := { row := fnExactTokensUptoRow, standIns := [], harness := (true, "a0dc48bf532d0e80220836fc314d6586ad80deb8f9d7a41ef67cc68b4094d219"), looks := true }, kinds := [], alts := [], laidByText := true, laidKinds := [.data, .data, .data, .sentinel, .sentinel], laidTests := true, laidLooks := .later }
def FnExactTokensUptoCardSaid : Prop := Claim7.holds Tryd.pinned (.plain (OpenSpec.upto fnExactTokensSpec)) fnExactTokensUptoCard
end Rows
end Go.Proofs.YtikhofcjkcbpbaaDoor
