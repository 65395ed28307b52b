/-
  DERIVED. GIVEN WITH THE SEED: THE CARDS: each row of YtigmdddeplnciaaGreatDoorRows.lean that lists a variable, with what it lists TIED to the program's text (the seventh form; the later family's looks); each row that meets fmt, with fmt's text TOLD by the authors' own Lean function (tested against real Go, not proved from fmt's source: count such statements apart). THE CARD IS WHAT COUNTS. Prove the row's statement (the work); the ties are given (YtigmdddeplnciaaGreatDoorTie.lean); close each card by the builder's one call (the guide's Derived/Test/ToyasCard.lean, 'card_holds'). Laid BY PROGRAM, IN A SANDBOX (cutbox-door.mjs). By AI agents, Wed Nov 11 2026. No macro, syntax, notation, axiom, sorry.
-/
import Derived.Test.YtigmdddeplnciaaGreatDoorRows
import GoSem.ClaimSeven
namespace Go.Proofs.YtigmdddeplnciaaGreatDoor
namespace Rows

/-- THE TIED CARD OF 'graphdblaw24.PathsFrom'. -/
def pathsFromCard : Claim7 := { stood := { row := pathsFromRow, standIns := [], harness := (true, "38dff7a109e832abd0b4d61ca005f9b151f3ebb2e3da5d4cd6b32ff94ddda10b"), looks := false }, kinds := [], alts := [], laidByText := true, laidKinds := [.data], laidTests := true, laidLooks := .later }
def PathsFromCardSaid : Prop := Claim7.holds Tryz.pinned (.plain (OpenSpec.ofChange pathsFromSpec)) pathsFromCard

/-- THE TIED CARD OF 'graphdblaw24.PathsIs'. -/
def pathsIsCard : Claim7 := { stood := { row := pathsIsRow, standIns := [], harness := (true, "38dff7a109e832abd0b4d61ca005f9b151f3ebb2e3da5d4cd6b32ff94ddda10b"), looks := false }, kinds := [], alts := [], laidByText := true, laidKinds := [.data], laidTests := true, laidLooks := .later }
def PathsIsCardSaid : Prop := Claim7.holds Tryz.pinned (.plain (OpenSpec.ofChange pathsIsSpec)) pathsIsCard

/-- THE TIED CARD OF 'graphdblaw24.PathsOrder'. -/
def pathsOrderCard : Claim7 := { stood := { row := pathsOrderRow, standIns := [], harness := (true, "38dff7a109e832abd0b4d61ca005f9b151f3ebb2e3da5d4cd6b32ff94ddda10b"), looks := false }, kinds := [], alts := [], laidByText := true, laidKinds := [.data], laidTests := true, laidLooks := .later }
def PathsOrderCardSaid : Prop := Claim7.holds Tryz.pinned (.plain (OpenSpec.ofChange pathsOrderSpec)) pathsOrderCard

/-- THE TIED CARD OF 'graphdblaw24.PathsSound'. -/
def pathsSoundCard : Claim7 := { stood := { row := pathsSoundRow, standIns := [], harness := (true, "38dff7a109e832abd0b4d61ca005f9b151f3ebb2e3da5d4cd6b32ff94ddda10b"), looks := false }, kinds := [], alts := [], laidByText := true, laidKinds := [.data], laidTests := true, laidLooks := .later }
def PathsSoundCardSaid : Prop := Claim7.holds Tryz.pinned (.plain (OpenSpec.ofChange pathsSoundSpec)) pathsSoundCard

/-- THE TIED CARD OF 'graphdblaw24.PathsModes'. -/
def pathsModesCard : Claim7 := { stood := { row := pathsModesRow, standIns := [], harness := (true, "38dff7a109e832abd0b4d61ca005f9b151f3ebb2e3da5d4cd6b32ff94ddda10b"), looks := false }, kinds := [], alts := [], laidByText := true, laidKinds := [.data], laidTests := true, laidLooks := .later }
def PathsModesCardSaid : Prop := Claim7.holds Tryz.pinned (.plain (OpenSpec.ofChange pathsModesSpec)) pathsModesCard

/-- THE SECOND FORM's CARD OF 'graphdblaw24.PathsFrom'. -/
def pathsFromUptoCard : Claim7 := { stood := { row := pathsFromUptoRow, standIns := [], harness := (true, "38dff7a109e832abd0b4d61ca005f9b151f3ebb2e3da5d4cd6b32ff94ddda10b"), looks := false }, kinds := [], alts := [], laidByText := true, laidKinds := [.data], laidTests := true, laidLooks := .later }
def PathsFromUptoCardSaid : Prop := Claim7.holds Tryz.pinned (.plain (OpenSpec.upto pathsFromSpec)) pathsFromUptoCard

/-- THE SECOND FORM's CARD OF 'graphdblaw24.PathsIs'. -/
def pathsIsUptoCard : Claim7 := { stood := { row := pathsIsUptoRow, standIns := [], harness := (true, "38dff7a109e832abd0b4d61ca005f9b151f3ebb2e3da5d4cd6b32ff94ddda10b"), looks := false }, kinds := [], alts := [], laidByText := true, laidKinds := [.data], laidTests := true, laidLooks := .later }
def PathsIsUptoCardSaid : Prop := Claim7.holds Tryz.pinned (.plain (OpenSpec.upto pathsIsSpec)) pathsIsUptoCard

/-- THE SECOND FORM's CARD OF 'graphdblaw24.PathsOrder'. -/
def pathsOrderUptoCard : Claim7 := { stood := { row := pathsOrderUptoRow, standIns := [], harness := (true, "38dff7a109e832abd0b4d61ca005f9b151f3ebb2e3da5d4cd6b32ff94ddda10b"), looks := false }, kinds := [], alts := [], laidByText := true, laidKinds := [.data], laidTests := true, laidLooks := .later }
def PathsOrderUptoCardSaid : Prop := Claim7.holds Tryz.pinned (.plain (OpenSpec.upto pathsOrderSpec)) pathsOrderUptoCard

/-- THE SECOND FORM's CARD OF 'graphdblaw24.PathsSound'. -/
def pathsSoundUptoCard : Claim7 := { stood := { row := pathsSoundUptoRow, standIns := [], harness := (true, "38dff7a109e832abd0b4d61ca005f9b151f3ebb2e3da5d4cd6b32ff94ddda10b"), looks := false }, kinds := [], alts := [], laidByText := true, laidKinds := [.data], laidTests := true, laidLooks := .later }
def PathsSoundUptoCardSaid : Prop := Claim7.holds Tryz.pinned (.plain (OpenSpec.upto pathsSoundSpec)) pathsSoundUptoCard

/-- THE SECOND FORM's CARD OF 'graphdblaw24.PathsModes'. -/
def pathsModesUptoCard : Claim7 := { stood := { row := pathsModesUptoRow, standIns := [], harness := (true, "38dff7a109e832abd0b4d61ca005f9b151f3ebb2e3da5d4cd6b32ff94ddda10b"), looks := false }, kinds := [], alts := [], laidByText := true, laidKinds := [.data], laidTests := true, laidLooks := .later }
def PathsModesUptoCardSaid : Prop := Claim7.holds Tryz.pinned (.plain (OpenSpec.upto pathsModesSpec)) pathsModesUptoCard
end Rows
end Go.Proofs.YtigmdddeplnciaaGreatDoor
