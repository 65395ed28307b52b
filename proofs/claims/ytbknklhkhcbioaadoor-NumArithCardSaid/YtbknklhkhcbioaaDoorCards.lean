/-
  DERIVED. GIVEN WITH THE SEED: THE CARDS: each row of YtbknklhkhcbioaaDoorRows.lean that lists a variable, with what it lists TIED to the program's text (the seventh form; the later family's looks); each row that meets fmt, with fmt's text TOLD by the authors' own Lean function (tested against real Go, not proved from fmt's source: count such statements apart). THE CARD IS WHAT COUNTS. Prove the row's statement (the work); the ties are given (YtbknklhkhcbioaaDoorTie.lean); close each card by the builder's one call (the guide's Derived/Test/ToyasCard.lean, 'card_holds'). Laid BY PROGRAM, IN A SANDBOX (cutbox-door.mjs). By AI agents, Wed Nov 11 2026. No macro, syntax, notation, axiom, sorry.
-/
import Derived.Test.YtbknklhkhcbioaaDoorRows
import GoSem.ClaimSeven
namespace Go.Proofs.YtbknklhkhcbioaaDoor
namespace Rows

/-- THE TIED CARD OF 'graphdblaw01.NumText'. -/
def numTextCard : Claim7 := { stood := { row := numTextRow, standIns := [], harness := (true, "d988eb06dffa9097a414c07df0c7e9d92482d25d6c00f0491431c9c0373533f0"), looks := true }, kinds := [], alts := [], laidByText := true, laidKinds := [.data, .data, .data, .sentinel, .sentinel], laidTests := true, laidLooks := .later }
def NumTextCardSaid : Prop := Claim7.holds Tryd.pinned (.plain (OpenSpec.ofChange numTextSpec)) numTextCard

/-- THE TIED CARD OF 'graphdblaw01.NumBack'. -/
def numBackCard : Claim7 := { stood := { row := numBackRow, standIns := [], harness := (true, "d988eb06dffa9097a414c07df0c7e9d92482d25d6c00f0491431c9c0373533f0"), looks := true }, kinds := [], alts := [], laidByText := true, laidKinds := [.data, .data, .data, .sentinel, .sentinel], laidTests := true, laidLooks := .later }
def NumBackCardSaid : Prop := Claim7.holds Tryd.pinned (.plain (OpenSpec.ofChange numBackSpec)) numBackCard

/-- THE TIED CARD OF 'graphdblaw01.NumDivides'. -/
def numDividesCard : Claim7 := { stood := { row := numDividesRow, standIns := [], harness := (true, "d988eb06dffa9097a414c07df0c7e9d92482d25d6c00f0491431c9c0373533f0"), looks := true }, kinds := [], alts := [], laidByText := true, laidKinds := [.data, .data, .data, .sentinel, .sentinel], laidTests := true, laidLooks := .later }
def NumDividesCardSaid : Prop := Claim7.holds Tryd.pinned (.plain (OpenSpec.ofChange numDividesSpec)) numDividesCard

/-- THE TIED CARD OF 'graphdblaw01.NumArith'. -/
def numArithCard : Claim7 := { stood := { row := numArithRow, standIns := [], harness := (true, "d988eb06dffa9097a414c07df0c7e9d92482d25d6c00f0491431c9c0373533f0"), looks := true }, kinds := [], alts := [], laidByText := true, laidKinds := [.data, .data, .data, .sentinel, .sentinel], laidTests := true, laidLooks := .later }
def NumArithCardSaid : Prop := Claim7.holds Tryd.pinned (.plain (OpenSpec.ofChange numArithSpec)) numArithCard

/-- THE TIED CARD OF 'graphdblaw01.NumRing'. -/
def numRingCard : Claim7 := { stood := { row := numRingRow, standIns := [], harness := (true, "d988eb06dffa9097a414c07df0c7e9d92482d25d6c00f0491431c9c0373533f0"), looks := true }, kinds := [], alts := [], laidByText := true, laidKinds := [.data, .data, .data, .sentinel, .sentinel], laidTests := true, laidLooks := .later }
def NumRingCardSaid : Prop := Claim7.holds Tryd.pinned (.plain (OpenSpec.ofChange numRingSpec)) numRingCard

/-- THE TIED CARD OF 'graphdblaw01.NumRange'. -/
def numRangeCard : Claim7 := { stood := { row := numRangeRow, standIns := [], harness := (true, "d988eb06dffa9097a414c07df0c7e9d92482d25d6c00f0491431c9c0373533f0"), looks := true }, kinds := [], alts := [], laidByText := true, laidKinds := [.data, .data, .data, .sentinel, .sentinel], laidTests := true, laidLooks := .later }
def NumRangeCardSaid : Prop := Claim7.holds Tryd.pinned (.plain (OpenSpec.ofChange numRangeSpec)) numRangeCard

/-- THE SECOND FORM's CARD OF 'graphdblaw01.NumText'. -/
def numTextUptoCard : Claim7 := { stood := { row := numTextUptoRow, standIns := [], harness := (true, "d988eb06dffa9097a414c07df0c7e9d92482d25d6c00f0491431c9c0373533f0"), looks := true }, kinds := [], alts := [], laidByText := true, laidKinds := [.data, .data, .data, .sentinel, .sentinel], laidTests := true, laidLooks := .later }
def NumTextUptoCardSaid : Prop := Claim7.holds Tryd.pinned (.plain (OpenSpec.upto numTextSpec)) numTextUptoCard

/-- THE SECOND FORM's CARD OF 'graphdblaw01.NumBack'. -/
def numBackUptoCard : Claim7 := { stood := { row := numBackUptoRow, standIns := [], harness := (true, "d988eb06dffa9097a414c07df0c7e9d92482d25d6c00f0491431c9c0373533f0"), looks := true }, kinds := [], alts := [], laidByText := true, laidKinds := [.data, .data, .data, .sentinel, .sentinel], laidTests := true, laidLooks := .later }
def NumBackUptoCardSaid : Prop := Claim7.holds Tryd.pinned (.plain (OpenSpec.upto numBackSpec)) numBackUptoCard

/-- THE SECOND FORM's CARD OF 'graphdblaw01.NumDivides'. -/
def numDividesUptoCard : Claim7 := { stood := { row := numDividesUptoRow, standIns := [], harness := (true, "d988eb06dffa9097a414c07df0c7e9d92482d25d6c00f0491431c9c0373533f0"), looks := true }, kinds := [], alts := [], laidByText := true, laidKinds := [.data, .data, .data, .sentinel, .sentinel], laidTests := true, laidLooks := .later }
def NumDividesUptoCardSaid : Prop := Claim7.holds Tryd.pinned (.plain (OpenSpec.upto numDividesSpec)) numDividesUptoCard

/-- THE SECOND FORM's CARD OF 'graphdblaw01.NumArith'. -/
def numArithUptoCard : Claim7 := { stood := { row := numArithUptoRow, standIns := [], harness := (true, "d988eb06dffa9097a414c07df0c7e9d92482d25d6c00f0491431c9c0373533f0"), looks := true }, kinds := [], alts := [], laidByText := true, laidKinds := [.data, .data, .data, .sentinel, .sentinel], laidTests := true, laidLooks := .later }
def NumArithUptoCardSaid : Prop := Claim7.holds Tryd.pinned (.plain (OpenSpec.upto numArithSpec)) numArithUptoCard

/-- THE SECOND FORM's CARD OF 'graphdblaw01.NumRing'. -/
def numRingUptoCard : Claim7 := { stood := { row := numRingUptoRow, standIns := [], harness := (true, "d988eb06dffa9097a414c07df0c7e9d92482d25d6c00f0491431c9c0373533f0"), looks := true }, kinds := [], alts := [], laidByText := true, laidKinds := [.data, .data, .data, .sentinel, .sentinel], laidTests := true, laidLooks := .later }
def NumRingUptoCardSaid : Prop := Claim7.holds Tryd.pinned (.plain (OpenSpec.upto numRingSpec)) numRingUptoCard

/-- THE SECOND FORM's CARD OF 'graphdblaw01.NumRange'. -/
def numRangeUptoCard : Claim7 := { stood := { row := numRangeUptoRow, standIns := [], harness := (true, "d988eb06dffa9097a414c07df0c7e9d92482d25d6c00f0491431c9c0373533f0"), looks := true }, kinds := [], alts := [], laidByText := true, laidKinds := [.data, .data, .data, .sentinel, .sentinel], laidTests := true, laidLooks := .later }
def NumRangeUptoCardSaid : Prop := Claim7.holds Tryd.pinned (.plain (OpenSpec.upto numRangeSpec)) numRangeUptoCard
end Rows
end Go.Proofs.YtbknklhkhcbioaaDoor
