/-
  DERIVED. GIVEN WITH THE SEED: THE CARDS: each row of YtbjddimafilflaaGreatDoorRows.lean that lists a variable, with what it lists TIED to the program's text (the seventh form; the later family's looks); each row that meets fmt, with fmt's text TOLD by the authors' own Lean function (tested against real Go, not proved from fmt's source: count such statements apart). THE CARD IS WHAT COUNTS. Prove the row's statement (the work); the ties are given (YtbjddimafilflaaGreatDoorTie.lean); close each card by the builder's one call (the guide's Derived/Test/ToyasCard.lean, 'card_holds'). Laid BY PROGRAM, IN A SANDBOX (cutbox-door.mjs). By AI agents, Wed Nov 11 2026. No macro, syntax, notation, axiom, sorry.
-/
import Derived.Test.YtbjddimafilflaaGreatDoorRows
import GoSem.ClaimSeven
namespace Go.Proofs.YtbjddimafilflaaGreatDoor
namespace Rows

/-- THE TIED CARD OF 'graphdblaw34.JoinCommutes'. -/
def joinCommutesCard : Claim7 := { stood := { row := joinCommutesRow, standIns := [], harness := (true, "5f44eea1e023032db8401728b11b98f365592c9c931d201a1c566f164c52f8a5"), looks := false }, kinds := [], alts := [], laidByText := true, laidKinds := [.data], laidTests := true, laidLooks := .later }
def JoinCommutesCardSaid : Prop := Claim7.holds Tryz.pinned (.plain (OpenSpec.ofChange joinCommutesSpec)) joinCommutesCard

/-- THE TIED CARD OF 'graphdblaw34.JoinAssociates'. -/
def joinAssociatesCard : Claim7 := { stood := { row := joinAssociatesRow, standIns := [], harness := (true, "5f44eea1e023032db8401728b11b98f365592c9c931d201a1c566f164c52f8a5"), looks := false }, kinds := [], alts := [], laidByText := true, laidKinds := [.data], laidTests := true, laidLooks := .later }
def JoinAssociatesCardSaid : Prop := Claim7.holds Tryz.pinned (.plain (OpenSpec.ofChange joinAssociatesSpec)) joinAssociatesCard

/-- THE TIED CARD OF 'graphdblaw34.JoinNeutral'. -/
def joinNeutralCard : Claim7 := { stood := { row := joinNeutralRow, standIns := [], harness := (true, "5f44eea1e023032db8401728b11b98f365592c9c931d201a1c566f164c52f8a5"), looks := false }, kinds := [], alts := [], laidByText := true, laidKinds := [.data], laidTests := true, laidLooks := .later }
def JoinNeutralCardSaid : Prop := Claim7.holds Tryz.pinned (.plain (OpenSpec.ofChange joinNeutralSpec)) joinNeutralCard

/-- THE TIED CARD OF 'graphdblaw34.JoinTells'. -/
def joinTellsCard : Claim7 := { stood := { row := joinTellsRow, standIns := [], harness := (true, "5f44eea1e023032db8401728b11b98f365592c9c931d201a1c566f164c52f8a5"), looks := false }, kinds := [], alts := [], laidByText := true, laidKinds := [.data], laidTests := true, laidLooks := .later }
def JoinTellsCardSaid : Prop := Claim7.holds Tryz.pinned (.plain (OpenSpec.ofChange joinTellsSpec)) joinTellsCard

/-- THE TIED CARD OF 'graphdblaw34.JoinHalves'. -/
def joinHalvesCard : Claim7 := { stood := { row := joinHalvesRow, standIns := [], harness := (true, "5f44eea1e023032db8401728b11b98f365592c9c931d201a1c566f164c52f8a5"), looks := false }, kinds := [], alts := [], laidByText := true, laidKinds := [.data], laidTests := true, laidLooks := .later }
def JoinHalvesCardSaid : Prop := Claim7.holds Tryz.pinned (.plain (OpenSpec.ofChange joinHalvesSpec)) joinHalvesCard

/-- THE TIED CARD OF 'graphdblaw34.JoinSplits'. -/
def joinSplitsCard : Claim7 := { stood := { row := joinSplitsRow, standIns := [], harness := (true, "5f44eea1e023032db8401728b11b98f365592c9c931d201a1c566f164c52f8a5"), looks := false }, kinds := [], alts := [], laidByText := true, laidKinds := [.data], laidTests := true, laidLooks := .later }
def JoinSplitsCardSaid : Prop := Claim7.holds Tryz.pinned (.plain (OpenSpec.ofChange joinSplitsSpec)) joinSplitsCard

/-- THE SECOND FORM's CARD OF 'graphdblaw34.JoinCommutes'. -/
def joinCommutesUptoCard : Claim7 := { stood := { row := joinCommutesUptoRow, standIns := [], harness := (true, "5f44eea1e023032db8401728b11b98f365592c9c931d201a1c566f164c52f8a5"), looks := false }, kinds := [], alts := [], laidByText := true, laidKinds := [.data], laidTests := true, laidLooks := .later }
def JoinCommutesUptoCardSaid : Prop := Claim7.holds Tryz.pinned (.plain (OpenSpec.upto joinCommutesSpec)) joinCommutesUptoCard

/-- THE SECOND FORM's CARD OF 'graphdblaw34.JoinAssociates'. -/
def joinAssociatesUptoCard : Claim7 := { stood := { row := joinAssociatesUptoRow, standIns := [], harness := (true, "5f44eea1e023032db8401728b11b98f365592c9c931d201a1c566f164c52f8a5"), looks := false }, kinds := [], alts := [], laidByText := true, laidKinds := [.data], laidTests := true, laidLooks := .later }
def JoinAssociatesUptoCardSaid : Prop := Claim7.holds Tryz.pinned (.plain (OpenSpec.upto joinAssociatesSpec)) joinAssociatesUptoCard

/-- THE SECOND FORM's CARD OF 'graphdblaw34.JoinNeutral'. -/
def joinNeutralUptoCard : Claim7 := { stood := { row := joinNeutralUptoRow, standIns := [], harness := (true, "5f44eea1e023032db8401728b11b98f365592c9c931d201a1c566f164c52f8a5"), looks := false }, kinds := [], alts := [], laidByText := true, laidKinds := [.data], laidTests := true, laidLooks := .later }
def JoinNeutralUptoCardSaid : Prop := Claim7.holds Tryz.pinned (.plain (OpenSpec.upto joinNeutralSpec)) joinNeutralUptoCard

/-- THE SECOND FORM's CARD OF 'graphdblaw34.JoinTells'. -/
def joinTellsUptoCard : Claim7 := { stood := { row := joinTellsUptoRow, standIns := [], harness := (true, "5f44eea1e023032db8401728b11b98f365592c9c931d201a1c566f164c52f8a5"), looks := false }, kinds := [], alts := [], laidByText := true, laidKinds := [.data], laidTests := true, laidLooks := .later }
def JoinTellsUptoCardSaid : Prop := Claim7.holds Tryz.pinned (.plain (OpenSpec.upto joinTellsSpec)) joinTellsUptoCard

/-- THE SECOND FORM's CARD OF 'graphdblaw34.JoinHalves'. -/
def joinHalvesUptoCard : Claim7 := { stood := { row := joinHalvesUptoRow, standIns := [], harness := (true, "5f44eea1e023032db8401728b11b98f365592c9c931d201a1c566f164c52f8a5"), looks := false }, kinds := [], alts := [], laidByText := true, laidKinds := [.data], laidTests := true, laidLooks := .later }
def JoinHalvesUptoCardSaid : Prop := Claim7.holds Tryz.pinned (.plain (OpenSpec.upto joinHalvesSpec)) joinHalvesUptoCard

/-- THE SECOND FORM's CARD OF 'graphdblaw34.JoinSplits'. -/
def joinSplitsUptoCard : Claim7 := { stood := { row := joinSplitsUptoRow, standIns := [], harness := (true, "5f44eea1e023032db8401728b11b98f365592c9c931d201a1c566f164c52f8a5"), looks := false }, kinds := [], alts := [], laidByText := true, laidKinds := [.data], laidTests := true, laidLooks := .later }
def JoinSplitsUptoCardSaid : Prop := Claim7.holds Tryz.pinned (.plain (OpenSpec.upto joinSplitsSpec)) joinSplitsUptoCard
end Rows
end Go.Proofs.YtbjddimafilflaaGreatDoor
