/-
  DERIVED. GIVEN WITH THE SEED: THE CARDS: each row of YtlkpmbkmmfoakaaGreatDoorRows.lean that lists a variable, with what it lists TIED to the program's text (the seventh form; the later family's looks); each row that meets fmt, with fmt's text TOLD by the authors' own Lean function (tested against real Go, not proved from fmt's source: count such statements apart). THE CARD IS WHAT COUNTS. Prove the row's statement (the work); the ties are given (YtlkpmbkmmfoakaaGreatDoorTie.lean); close each card by the builder's one call (the guide's Derived/Test/ToyasCard.lean, 'card_holds'). Laid BY PROGRAM, IN A SANDBOX (cutbox-door.mjs). By AI agents, Wed Nov 11 2026. No macro, syntax, notation, axiom, sorry.
-/
import Derived.Test.YtlkpmbkmmfoakaaGreatDoorRows
import GoSem.ClaimSeven
namespace Go.Proofs.YtlkpmbkmmfoakaaGreatDoor
namespace Rows

/-- THE TIED CARD OF 'graphdblaw51.RankStep'. -/
def rankStepCard : Claim7 := { stood := { row := rankStepRow, standIns := [], harness := (true, "c13dcec822c57c952e42f95eee5b54bd37f3720cabc9da8d752c09229eb9f800"), looks := false }, kinds := [], alts := [], laidByText := true, laidKinds := [.data], laidTests := true, laidLooks := .later }
def RankStepCardSaid : Prop := Claim7.holds Tryz.pinned (.plain (OpenSpec.ofChange rankStepSpec)) rankStepCard

/-- THE TIED CARD OF 'graphdblaw51.RankRun'. -/
def rankRunCard : Claim7 := { stood := { row := rankRunRow, standIns := [], harness := (true, "c13dcec822c57c952e42f95eee5b54bd37f3720cabc9da8d752c09229eb9f800"), looks := false }, kinds := [], alts := [], laidByText := true, laidKinds := [.data], laidTests := true, laidLooks := .later }
def RankRunCardSaid : Prop := Claim7.holds Tryz.pinned (.plain (OpenSpec.ofChange rankRunSpec)) rankRunCard

/-- THE SECOND FORM's CARD OF 'graphdblaw51.RankStep'. -/
def rankStepUptoCard : Claim7 := { stood := { row := rankStepUptoRow, standIns := [], harness := (true, "c13dcec822c57c952e42f95eee5b54bd37f3720cabc9da8d752c09229eb9f800"), looks := false }, kinds := [], alts := [], laidByText := true, laidKinds := [.data], laidTests := true, laidLooks := .later }
def RankStepUptoCardSaid : Prop := Claim7.holds Tryz.pinned (.plain (OpenSpec.upto rankStepSpec)) rankStepUptoCard

/-- THE SECOND FORM's CARD OF 'graphdblaw51.RankRun'. -/
def rankRunUptoCard : Claim7 := { stood := { row := rankRunUptoRow, standIns := [], harness := (true, "c13dcec822c57c952e42f95eee5b54bd37f3720cabc9da8d752c09229eb9f800"), looks := false }, kinds := [], alts := [], laidByText := true, laidKinds := [.data], laidTests := true, laidLooks := .later }
def RankRunUptoCardSaid : Prop := Claim7.holds Tryz.pinned (.plain (OpenSpec.upto rankRunSpec)) rankRunUptoCard
end Rows
end Go.Proofs.YtlkpmbkmmfoakaaGreatDoor
