/-
  DERIVED. GIVEN WITH THE SEED: THE CARDS: each row of YtanclhcoiagcfaaDoorRows.lean that lists a variable, with what it lists TIED to the program's text (the seventh form; the later family's looks); each row that meets fmt, with fmt's text TOLD by the authors' own Lean function (tested against real Go, not proved from fmt's source: count such statements apart). THE CARD IS WHAT COUNTS. Prove the row's statement (the work); the ties are given (YtanclhcoiagcfaaDoorTie.lean); close each card by the builder's one call (the guide's Derived/Test/ToyasCard.lean, 'card_holds'). Laid BY PROGRAM, IN A SANDBOX (cutbox-door.mjs). By AI agents, Wed Nov 11 2026. No macro, syntax, notation, axiom, sorry.
-/
import Derived.Test.YtanclhcoiagcfaaDoorRows
import GoSem.ClaimSeven
namespace Go.Proofs.YtanclhcoiagcfaaDoor
namespace Rows

/-- THE TIED CARD OF 'graphdblaw09.SchemaOrder'. -/
def schemaOrderCard : Claim7 := { stood := { row := schemaOrderRow, standIns := [], harness := (true, "67ef99370f43cebffb7ea1b1b01fed65e43f99d1776c8d0a3da6a4700997f803"), looks := true }, kinds := [], alts := [], laidByText := true, laidKinds := [.data, .data, .data, .data, .sentinel, .sentinel, .pinned], laidTests := true, laidLooks := .later }
def SchemaOrderCardSaid : Prop := Claim7.holds Tryd.pinned (.plain (OpenSpec.ofChange schemaOrderSpec)) schemaOrderCard

/-- THE TIED CARD OF 'graphdblaw09.SchemaUndo'. -/
def schemaUndoCard : Claim7 := { stood := { row := schemaUndoRow, standIns := [], harness := (true, "67ef99370f43cebffb7ea1b1b01fed65e43f99d1776c8d0a3da6a4700997f803"), looks := true }, kinds := [], alts := [], laidByText := true, laidKinds := [.data, .data, .data, .data, .sentinel, .sentinel, .pinned], laidTests := true, laidLooks := .later }
def SchemaUndoCardSaid : Prop := Claim7.holds Tryd.pinned (.plain (OpenSpec.ofChange schemaUndoSpec)) schemaUndoCard

/-- THE TIED CARD OF 'graphdblaw09.SchemaBack'. -/
def schemaBackCard : Claim7 := { stood := { row := schemaBackRow, standIns := [], harness := (true, "67ef99370f43cebffb7ea1b1b01fed65e43f99d1776c8d0a3da6a4700997f803"), looks := true }, kinds := [], alts := [], laidByText := true, laidKinds := [.data, .data, .data, .data, .sentinel, .sentinel, .pinned], laidTests := true, laidLooks := .later }
def SchemaBackCardSaid : Prop := Claim7.holds Tryd.pinned (.plain (OpenSpec.ofChange schemaBackSpec)) schemaBackCard

/-- THE SECOND FORM's CARD OF 'graphdblaw09.SchemaOrder'. -/
def schemaOrderUptoCard : Claim7 := { stood := { row := schemaOrderUptoRow, standIns := [], harness := (true, "67ef99370f43cebffb7ea1b1b01fed65e43f99d1776c8d0a3da6a4700997f803"), looks := true }, kinds := [], alts := [], laidByText := true, laidKinds := [.data, .data, .data, .data, .sentinel, .sentinel, .pinned], laidTests := true, laidLooks := .later }
def SchemaOrderUptoCardSaid : Prop := Claim7.holds Tryd.pinned (.plain (OpenSpec.upto schemaOrderSpec)) schemaOrderUptoCard

/-- THE SECOND FORM's CARD OF 'graphdblaw09.SchemaUndo'. -/
def schemaUndoUptoCard : Claim7 := { stood := { row := schemaUndoUptoRow, standIns := [], harness := (true, "67ef99370f43cebffb7ea1b1b01fed65e43f99d1776c8d0a3da6a4700997f803"), looks := true }, kinds := [], alts := [], laidByText := true, laidKinds := [.data, .data, .data, .data, .sentinel, .sentinel, .pinned], laidTests := true, laidLooks := .later }
def SchemaUndoUptoCardSaid : Prop := Claim7.holds Tryd.pinned (.plain (OpenSpec.upto schemaUndoSpec)) schemaUndoUptoCard

/-- THE SECOND FORM's CARD OF 'graphdblaw09.SchemaBack'. -/
def schemaBackUptoCard : Claim7 := { stood := { row := schemaBackUptoRow, standIns := [], harness := (true, "67ef99370f43cebffb7ea1b1b01fed65e43f99d1776c8d0a3da6a4700997f803"), looks := true }, kinds := [], alts := [], laidByText := true, laidKinds := [.data, .data, .data, .data, .sentinel, .sentinel, .pinned], laidTests := true, laidLooks := .later }
def SchemaBackUptoCardSaid : Prop := Claim7.holds Tryd.pinned (.plain (OpenSpec.upto schemaBackSpec)) schemaBackUptoCard
end Rows
end Go.Proofs.YtanclhcoiagcfaaDoor
