/-
  DERIVED. GIVEN WITH THE SEED: THE CARDS: each row of YtgojggmjajlbpaaGreatDoorRows.lean that lists a variable, with what it lists TIED to the program's text (the seventh form; the later family's looks); each row that meets fmt, with fmt's text TOLD by the authors' own Lean function (tested against real Go, not proved from fmt's source: count such statements apart). THE CARD IS WHAT COUNTS. Prove the row's statement (the work); the ties are given (YtgojggmjajlbpaaGreatDoorTie.lean); close each card by the builder's one call (the guide's Derived/Test/ToyasCard.lean, 'card_holds'). Laid BY PROGRAM, IN A SANDBOX (cutbox-door.mjs). By AI agents, Wed Nov 11 2026. No macro, syntax, notation, axiom, sorry.
-/
import Derived.Test.YtgojggmjajlbpaaGreatDoorRows
import GoSem.ClaimSeven
namespace Go.Proofs.YtgojggmjajlbpaaGreatDoor
namespace Rows

/-- THE TIED CARD OF 'graphdblaw47.ZsetReads'. -/
def zsetReadsCard : Claim7 := { stood := { row := zsetReadsRow, standIns := [], harness := (true, "3fc83ccc9ca1d7be31f2a03f56df1f8b9aa731ee7e8325d47747768d1f22161b"), looks := false }, kinds := [], alts := [], laidByText := true, laidKinds := [.data, .data, .data, .data], laidTests := true, laidLooks := .later }
def ZsetReadsCardSaid : Prop := Claim7.holds Tryz.pinned (.plain (OpenSpec.ofChange zsetReadsSpec)) zsetReadsCard

/-- THE TIED CARD OF 'graphdblaw47.ZsetSums'. -/
def zsetSumsCard : Claim7 := { stood := { row := zsetSumsRow, standIns := [], harness := (true, "3fc83ccc9ca1d7be31f2a03f56df1f8b9aa731ee7e8325d47747768d1f22161b"), looks := false }, kinds := [], alts := [], laidByText := true, laidKinds := [.data, .data, .data, .data], laidTests := true, laidLooks := .later }
def ZsetSumsCardSaid : Prop := Claim7.holds Tryz.pinned (.plain (OpenSpec.ofChange zsetSumsSpec)) zsetSumsCard

/-- THE TIED CARD OF 'graphdblaw47.ZsetGroup'. -/
def zsetGroupCard : Claim7 := { stood := { row := zsetGroupRow, standIns := [], harness := (true, "3fc83ccc9ca1d7be31f2a03f56df1f8b9aa731ee7e8325d47747768d1f22161b"), looks := false }, kinds := [], alts := [], laidByText := true, laidKinds := [.data, .data, .data, .data], laidTests := true, laidLooks := .later }
def ZsetGroupCardSaid : Prop := Claim7.holds Tryz.pinned (.plain (OpenSpec.ofChange zsetGroupSpec)) zsetGroupCard

/-- THE TIED CARD OF 'graphdblaw47.ZsetCounts'. -/
def zsetCountsCard : Claim7 := { stood := { row := zsetCountsRow, standIns := [], harness := (true, "3fc83ccc9ca1d7be31f2a03f56df1f8b9aa731ee7e8325d47747768d1f22161b"), looks := false }, kinds := [], alts := [], laidByText := true, laidKinds := [.data, .data, .data, .data], laidTests := true, laidLooks := .later }
def ZsetCountsCardSaid : Prop := Claim7.holds Tryz.pinned (.plain (OpenSpec.ofChange zsetCountsSpec)) zsetCountsCard

/-- THE TIED CARD OF 'graphdblaw47.ZsetBack'. -/
def zsetBackCard : Claim7 := { stood := { row := zsetBackRow, standIns := [], harness := (true, "3fc83ccc9ca1d7be31f2a03f56df1f8b9aa731ee7e8325d47747768d1f22161b"), looks := false }, kinds := [], alts := [], laidByText := true, laidKinds := [.data, .data, .data, .data], laidTests := true, laidLooks := .later }
def ZsetBackCardSaid : Prop := Claim7.holds Tryz.pinned (.plain (OpenSpec.ofChange zsetBackSpec)) zsetBackCard

/-- THE SECOND FORM's CARD OF 'graphdblaw47.ZsetReads'. -/
def zsetReadsUptoCard : Claim7 := { stood := { row := zsetReadsUptoRow, standIns := [], harness := (true, "3fc83ccc9ca1d7be31f2a03f56df1f8b9aa731ee7e8325d47747768d1f22161b"), looks := false }, kinds := [], alts := [], laidByText := true, laidKinds := [.data, .data, .data, .data], laidTests := true, laidLooks := .later }
def ZsetReadsUptoCardSaid : Prop := Claim7.holds Tryz.pinned (.plain (OpenSpec.upto zsetReadsSpec)) zsetReadsUptoCard

/-- THE SECOND FORM's CARD OF 'graphdblaw47.ZsetSums'. -/
def zsetSumsUptoCard : Claim7 := { stood := { row := zsetSumsUptoRow, standIns := [], harness := (true, "3fc83ccc9ca1d7be31f2a03f56df1f8b9aa731ee7e8325d47747768d1f22161b"), looks := false }, kinds := [], alts := [], laidByText := true, laidKinds := [.data, .data, .data, .data], laidTests := true, laidLooks := .later }
def ZsetSumsUptoCardSaid : Prop := Claim7.holds Tryz.pinned (.plain (OpenSpec.upto zsetSumsSpec)) zsetSumsUptoCard

/-- THE SECOND FORM's CARD OF 'graphdblaw47.ZsetGroup'. -/
def zsetGroupUptoCard : Claim7 := { stood := { row := zsetGroupUptoRow, standIns := [], harness := (true, "3fc83ccc9ca1d7be31f2a03f56df1f8b9aa731ee7e8325d47747768d1f22161b"), looks := false }, kinds := [], alts := [], laidByText := true, laidKinds := [.data, .data, .data, .data], laidTests := true, laidLooks := .later }
def ZsetGroupUptoCardSaid : Prop := Claim7.holds Tryz.pinned (.plain (OpenSpec.upto zsetGroupSpec)) zsetGroupUptoCard

/-- THE SECOND FORM's CARD OF 'graphdblaw47.ZsetCounts'. -/
def zsetCountsUptoCard : Claim7 := { stood := { row := zsetCountsUptoRow, standIns := [], harness := (true, "3fc83ccc9ca1d7be31f2a03f56df1f8b9aa731ee7e8325d47747768d1f22161b"), looks := false }, kinds := [], alts := [], laidByText := true, laidKinds := [.data, .data, .data, .data], laidTests := true, laidLooks := .later }
def ZsetCountsUptoCardSaid : Prop := Claim7.holds Tryz.pinned (.plain (OpenSpec.upto zsetCountsSpec)) zsetCountsUptoCard

/-- THE SECOND FORM's CARD OF 'graphdblaw47.ZsetBack'. -/
def zsetBackUptoCard : Claim7 := { stood := { row := zsetBackUptoRow, standIns := [], harness := (true, "3fc83ccc9ca1d7be31f2a03f56df1f8b9aa731ee7e8325d47747768d1f22161b"), looks := false }, kinds := [], alts := [], laidByText := true, laidKinds := [.data, .data, .data, .data], laidTests := true, laidLooks := .later }
def ZsetBackUptoCardSaid : Prop := Claim7.holds Tryz.pinned (.plain (OpenSpec.upto zsetBackSpec)) zsetBackUptoCard
end Rows
end Go.Proofs.YtgojggmjajlbpaaGreatDoor
