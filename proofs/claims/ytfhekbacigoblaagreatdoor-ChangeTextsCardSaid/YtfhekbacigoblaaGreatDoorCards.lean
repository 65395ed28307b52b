/-
  DERIVED. GIVEN WITH THE SEED: THE CARDS: each row of YtfhekbacigoblaaGreatDoorRows.lean that lists a variable, with what it lists TIED to the program's text (the seventh form; the later family's looks); each row that meets fmt, with fmt's text TOLD by the authors' own Lean function (tested against real Go, not proved from fmt's source: count such statements apart). THE CARD IS WHAT COUNTS. Prove the row's statement (the work); the ties are given (YtfhekbacigoblaaGreatDoorTie.lean); close each card by the builder's one call (the guide's Derived/Test/ToyasCard.lean, 'card_holds'). Laid BY PROGRAM, IN A SANDBOX (cutbox-door.mjs). By AI agents, Wed Nov 11 2026. No macro, syntax, notation, axiom, sorry.
-/
import Derived.Test.YtfhekbacigoblaaGreatDoorRows
import GoSem.ClaimSeven
namespace Go.Proofs.YtfhekbacigoblaaGreatDoor
namespace Rows

/-- THE TIED CARD OF 'graphdblaw08.ChangeApplies'. -/
def changeAppliesCard : Claim7 := { stood := { row := changeAppliesRow, standIns := [], harness := (true, "8b9ac7c6677acb8327d53b7b13a7188b3174b95cdd6af874e7417f448d7e924d"), looks := true }, kinds := [], alts := [], laidByText := true, laidKinds := [.data, .data, .data, .data, .data, .pinned], laidTests := true, laidLooks := .later }
def ChangeAppliesCardSaid : Prop := Claim7.holds Tryz.pinned (.plain (OpenSpec.ofChange changeAppliesSpec)) changeAppliesCard

/-- THE TIED CARD OF 'graphdblaw08.ChangeKeeps'. -/
def changeKeepsCard : Claim7 := { stood := { row := changeKeepsRow, standIns := [], harness := (true, "8b9ac7c6677acb8327d53b7b13a7188b3174b95cdd6af874e7417f448d7e924d"), looks := true }, kinds := [], alts := [], laidByText := true, laidKinds := [.data, .data, .data, .data, .data, .pinned], laidTests := true, laidLooks := .later }
def ChangeKeepsCardSaid : Prop := Claim7.holds Tryz.pinned (.plain (OpenSpec.ofChange changeKeepsSpec)) changeKeepsCard

/-- THE TIED CARD OF 'graphdblaw08.ChangeAll'. -/
def changeAllCard : Claim7 := { stood := { row := changeAllRow, standIns := [], harness := (true, "8b9ac7c6677acb8327d53b7b13a7188b3174b95cdd6af874e7417f448d7e924d"), looks := true }, kinds := [], alts := [], laidByText := true, laidKinds := [.data, .data, .data, .data, .data, .pinned], laidTests := true, laidLooks := .later }
def ChangeAllCardSaid : Prop := Claim7.holds Tryz.pinned (.plain (OpenSpec.ofChange changeAllSpec)) changeAllCard

/-- THE TIED CARD OF 'graphdblaw08.ChangeInverse'. -/
def changeInverseCard : Claim7 := { stood := { row := changeInverseRow, standIns := [], harness := (true, "8b9ac7c6677acb8327d53b7b13a7188b3174b95cdd6af874e7417f448d7e924d"), looks := true }, kinds := [], alts := [], laidByText := true, laidKinds := [.data, .data, .data, .data, .data, .pinned], laidTests := true, laidLooks := .later }
def ChangeInverseCardSaid : Prop := Claim7.holds Tryz.pinned (.plain (OpenSpec.ofChange changeInverseSpec)) changeInverseCard

/-- THE TIED CARD OF 'graphdblaw08.ChangeRestores'. -/
def changeRestoresCard : Claim7 := { stood := { row := changeRestoresRow, standIns := [], harness := (true, "8b9ac7c6677acb8327d53b7b13a7188b3174b95cdd6af874e7417f448d7e924d"), looks := true }, kinds := [], alts := [], laidByText := true, laidKinds := [.data, .data, .data, .data, .data, .pinned], laidTests := true, laidLooks := .later }
def ChangeRestoresCardSaid : Prop := Claim7.holds Tryz.pinned (.plain (OpenSpec.ofChange changeRestoresSpec)) changeRestoresCard

/-- THE TIED CARD OF 'graphdblaw08.ChangeTexts'. -/
def changeTextsCard : Claim7 := { stood := { row := changeTextsRow, standIns := [], harness := (true, "8b9ac7c6677acb8327d53b7b13a7188b3174b95cdd6af874e7417f448d7e924d"), looks := true }, kinds := [], alts := [], laidByText := true, laidKinds := [.data, .data, .data, .data, .data, .pinned], laidTests := true, laidLooks := .later }
def ChangeTextsCardSaid : Prop := Claim7.holds Tryz.pinned (.plain (OpenSpec.ofChange changeTextsSpec)) changeTextsCard

/-- THE SECOND FORM's CARD OF 'graphdblaw08.ChangeApplies'. -/
def changeAppliesUptoCard : Claim7 := { stood := { row := changeAppliesUptoRow, standIns := [], harness := (true, "8b9ac7c6677acb8327d53b7b13a7188b3174b95cdd6af874e7417f448d7e924d"), looks := true }, kinds := [], alts := [], laidByText := true, laidKinds := [.data, .data, .data, .data, .data, .pinned], laidTests := true, laidLooks := .later }
def ChangeAppliesUptoCardSaid : Prop := Claim7.holds Tryz.pinned (.plain (OpenSpec.upto changeAppliesSpec)) changeAppliesUptoCard

/-- THE SECOND FORM's CARD OF 'graphdblaw08.ChangeKeeps'. -/
def changeKeepsUptoCard : Claim7 := { stood := { row := changeKeepsUptoRow, standIns := [], harness := (true, "8b9ac7c6677acb8327d53b7b13a7188b3174b95cdd6af874e7417f448d7e924d"), looks := true }, kinds := [], alts := [], laidByText := true, laidKinds := [.data, .data, .data, .data, .data, .pinned], laidTests := true, laidLooks := .later }
def ChangeKeepsUptoCardSaid : Prop := Claim7.holds Tryz.pinned (.plain (OpenSpec.upto changeKeepsSpec)) changeKeepsUptoCard

/-- THE SECOND FORM's CARD OF 'graphdblaw08.ChangeAll'. -/
def changeAllUptoCard : Claim7 := { stood := { row := changeAllUptoRow, standIns := [], harness := (true, "8b9ac7c6677acb8327d53b7b13a7188b3174b95cdd6af874e7417f448d7e924d"), looks := true }, kinds := [], alts := [], laidByText := true, laidKinds := [.data, .data, .data, .data, .data, .pinned], laidTests := true, laidLooks := .later }
def ChangeAllUptoCardSaid : Prop := Claim7.holds Tryz.pinned (.plain (OpenSpec.upto changeAllSpec)) changeAllUptoCard

/-- THE SECOND FORM's CARD OF 'graphdblaw08.ChangeInverse'. -/
def changeInverseUptoCard : Claim7 := { stood := { row := changeInverseUptoRow, standIns := [], harness := (true, "8b9ac7c6677acb8327d53b7b13a7188b3174b95cdd6af874e7417f448d7e924d"), looks := true }, kinds := [], alts := [], laidByText := true, laidKinds := [.data, .data, .data, .data, .data, .pinned], laidTests := true, laidLooks := .later }
def ChangeInverseUptoCardSaid : Prop := Claim7.holds Tryz.pinned (.plain (OpenSpec.upto changeInverseSpec)) changeInverseUptoCard

/-- THE SECOND FORM's CARD OF 'graphdblaw08.ChangeRestores'. -/
def changeRestoresUptoCard : Claim7 := { stood := { row := changeRestoresUptoRow, standIns := [], harness := (true, "8b9ac7c6677acb8327d53b7b13a7188b3174b95cdd6af874e7417f448d7e924d"), looks := true }, kinds := [], alts := [], laidByText := true, laidKinds := [.data, .data, .data, .data, .data, .pinned], laidTests := true, laidLooks := .later }
def ChangeRestoresUptoCardSaid : Prop := Claim7.holds Tryz.pinned (.plain (OpenSpec.upto changeRestoresSpec)) changeRestoresUptoCard

/-- THE SECOND FORM's CARD OF 'graphdblaw08.ChangeTexts'. -/
def changeTextsUptoCard : Claim7 := { stood := { row := changeTextsUptoRow, standIns := [], harness := (true, "8b9ac7c6677acb8327d53b7b13a7188b3174b95cdd6af874e7417f448d7e924d"), looks := true }, kinds := [], alts := [], laidByText := true, laidKinds := [.data, .data, .data, .data, .data, .pinned], laidTests := true, laidLooks := .later }
def ChangeTextsUptoCardSaid : Prop := Claim7.holds Tryz.pinned (.plain (OpenSpec.upto changeTextsSpec)) changeTextsUptoCard
end Rows
end Go.Proofs.YtfhekbacigoblaaGreatDoor
