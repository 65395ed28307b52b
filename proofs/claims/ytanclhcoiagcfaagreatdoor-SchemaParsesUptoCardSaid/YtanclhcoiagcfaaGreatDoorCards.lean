/-
  DERIVED. GIVEN WITH THE SEED: THE CARDS: each row of YtanclhcoiagcfaaGreatDoorRows.lean that lists a variable, with what it lists TIED to the program's text (the seventh form; the later family's looks); each row that meets fmt, with fmt's text TOLD by the authors' own Lean function (tested against real Go, not proved from fmt's source: count such statements apart). THE CARD IS WHAT COUNTS. Prove the row's statement (the work); the ties are given (YtanclhcoiagcfaaGreatDoorTie.lean); close each card by the builder's one call (the guide's Derived/Test/ToyasCard.lean, 'card_holds'). Laid BY PROGRAM, IN A SANDBOX (cutbox-door.mjs). By AI agents, Wed Nov 11 2026. No macro, syntax, notation, axiom, sorry.
-/
import Derived.Test.YtanclhcoiagcfaaGreatDoorRows
import GoSem.ClaimSeven
namespace Go.Proofs.YtanclhcoiagcfaaGreatDoor
namespace Rows

/-- THE TIED CARD OF 'graphdblaw09.SchemaChecks'. -/
def schemaChecksCard : Claim7 := { stood := { row := schemaChecksRow, standIns := [], harness := (true, "559b6ec6b7a80906ef3234f426c1c228770ef41d949d9e81e000be509d37b03d"), looks := true }, kinds := [], alts := [], laidByText := true, laidKinds := [.data, .data, .data, .data, .sentinel, .sentinel, .pinned], laidTests := true, laidLooks := .later }
def SchemaChecksCardSaid : Prop := Claim7.holds Tryz.pinned (.plain (OpenSpec.ofChange schemaChecksSpec)) schemaChecksCard

/-- THE TIED CARD OF 'graphdblaw09.SchemaAdds'. -/
def schemaAddsCard : Claim7 := { stood := { row := schemaAddsRow, standIns := [], harness := (true, "559b6ec6b7a80906ef3234f426c1c228770ef41d949d9e81e000be509d37b03d"), looks := true }, kinds := [], alts := [], laidByText := true, laidKinds := [.data, .data, .data, .data, .sentinel, .sentinel, .pinned], laidTests := true, laidLooks := .later }
def SchemaAddsCardSaid : Prop := Claim7.holds Tryz.pinned (.plain (OpenSpec.ofChange schemaAddsSpec)) schemaAddsCard

/-- THE TIED CARD OF 'graphdblaw09.SchemaParses'. -/
def schemaParsesCard : Claim7 := { stood := { row := schemaParsesRow, standIns := [], harness := (true, "559b6ec6b7a80906ef3234f426c1c228770ef41d949d9e81e000be509d37b03d"), looks := true }, kinds := [], alts := [], laidByText := true, laidKinds := [.data, .data, .data, .data, .sentinel, .sentinel, .pinned], laidTests := true, laidLooks := .later }
def SchemaParsesCardSaid : Prop := Claim7.holds Tryz.pinned (.plain (OpenSpec.ofChange schemaParsesSpec)) schemaParsesCard

/-- THE SECOND FORM's CARD OF 'graphdblaw09.SchemaChecks'. -/
def schemaChecksUptoCard : Claim7 := { stood := { row := schemaChecksUptoRow, standIns := [], harness := (true, "559b6ec6b7a80906ef3234f426c1c228770ef41d949d9e81e000be509d37b03d"), looks := true }, kinds := [], alts := [], laidByText := true, laidKinds := [.data, .data, .data, .data, .sentinel, .sentinel, .pinned], laidTests := true, laidLooks := .later }
def SchemaChecksUptoCardSaid : Prop := Claim7.holds Tryz.pinned (.plain (OpenSpec.upto schemaChecksSpec)) schemaChecksUptoCard

/-- THE SECOND FORM's CARD OF 'graphdblaw09.SchemaAdds'. -/
def schemaAddsUptoCard : Claim7 := { stood := { row := schemaAddsUptoRow, standIns := [], harness := (true, "559b6ec6b7a80906ef3234f426c1c228770ef41d949d9e81e000be509d37b03d"), looks := true }, kinds := [], alts := [], laidByText := true, laidKinds := [.data, .data, .data, .data, .sentinel, .sentinel, .pinned], laidTests := true, laidLooks := .later }
def SchemaAddsUptoCardSaid : Prop := Claim7.holds Tryz.pinned (.plain (OpenSpec.upto schemaAddsSpec)) schemaAddsUptoCard

/-- THE SECOND FORM's CARD OF 'graphdblaw09.SchemaParses'. -/
def schemaParsesUptoCard : Claim7 := { stood := { row := schemaParsesUptoRow, standIns := [], harness := (true, "559b6ec6b7a80906ef3234f426c1c228770ef41d949d9e81e000be509d37b03d"), looks := true }, kinds := [], alts := [], laidByText := true, laidKinds := [.data, .data, .data, .data, .sentinel, .sentinel, .pinned], laidTests := true, laidLooks := .later }
def SchemaParsesUptoCardSaid : Prop := Claim7.holds Tryz.pinned (.plain (OpenSpec.upto schemaParsesSpec)) schemaParsesUptoCard
end Rows
end Go.Proofs.YtanclhcoiagcfaaGreatDoor
