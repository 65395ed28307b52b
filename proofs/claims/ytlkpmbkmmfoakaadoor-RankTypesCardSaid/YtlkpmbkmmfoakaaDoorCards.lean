/-
  DERIVED. GIVEN WITH THE SEED: THE CARDS: each row of YtlkpmbkmmfoakaaDoorRows.lean that lists a variable, with what it lists TIED to the program's text (the seventh form; the later family's looks); each row that meets fmt, with fmt's text TOLD by the authors' own Lean function (tested against real Go, not proved from fmt's source: count such statements apart). THE CARD IS WHAT COUNTS. Prove the row's statement (the work); the ties are given (YtlkpmbkmmfoakaaDoorTie.lean); close each card by the builder's one call (the guide's Derived/Test/ToyasCard.lean, 'card_holds'). Laid BY PROGRAM, IN A SANDBOX (cutbox-door.mjs). By AI agents, Wed Nov 11 2026. No macro, syntax, notation, axiom, sorry.
-/
import Derived.Test.YtlkpmbkmmfoakaaDoorRows
import GoSem.ClaimSeven
namespace Go.Proofs.YtlkpmbkmmfoakaaDoor
namespace Rows

/-- THE TIED CARD OF 'graphdblaw51.RankReads'. -/
def rankReadsCard : Claim7 := { stood := { row := rankReadsRow, standIns := [], harness := (true, "71cb78ac1302377c0f0b13c72f09dc4e80657eb66ec2724710e0bd1c13d382a0"), looks := false }, kinds := [], alts := [], laidByText := true, laidKinds := [.data], laidTests := true, laidLooks := .later }
def RankReadsCardSaid : Prop := Claim7.holds Tryd.pinned (.plain (OpenSpec.ofChange rankReadsSpec)) rankReadsCard

/-- THE TIED CARD OF 'graphdblaw51.RankTotal'. -/
def rankTotalCard : Claim7 := { stood := { row := rankTotalRow, standIns := [], harness := (true, "71cb78ac1302377c0f0b13c72f09dc4e80657eb66ec2724710e0bd1c13d382a0"), looks := false }, kinds := [], alts := [], laidByText := true, laidKinds := [.data], laidTests := true, laidLooks := .later }
def RankTotalCardSaid : Prop := Claim7.holds Tryd.pinned (.plain (OpenSpec.ofChange rankTotalSpec)) rankTotalCard

/-- THE TIED CARD OF 'graphdblaw51.RankEven'. -/
def rankEvenCard : Claim7 := { stood := { row := rankEvenRow, standIns := [], harness := (true, "71cb78ac1302377c0f0b13c72f09dc4e80657eb66ec2724710e0bd1c13d382a0"), looks := false }, kinds := [], alts := [], laidByText := true, laidKinds := [.data], laidTests := true, laidLooks := .later }
def RankEvenCardSaid : Prop := Claim7.holds Tryd.pinned (.plain (OpenSpec.ofChange rankEvenSpec)) rankEvenCard

/-- THE TIED CARD OF 'graphdblaw51.RankTypes'. -/
def rankTypesCard : Claim7 := { stood := { row := rankTypesRow, standIns := [], harness := (true, "71cb78ac1302377c0f0b13c72f09dc4e80657eb66ec2724710e0bd1c13d382a0"), looks := false }, kinds := [], alts := [], laidByText := true, laidKinds := [.data], laidTests := true, laidLooks := .later }
def RankTypesCardSaid : Prop := Claim7.holds Tryd.pinned (.plain (OpenSpec.ofChange rankTypesSpec)) rankTypesCard

/-- THE SECOND FORM's CARD OF 'graphdblaw51.RankReads'. -/
def rankReadsUptoCard : Claim7 := { stood := { row := rankReadsUptoRow, standIns := [], harness := (true, "71cb78ac1302377c0f0b13c72f09dc4e80657eb66ec2724710e0bd1c13d382a0"), looks := false }, kinds := [], alts := [], laidByText := true, laidKinds := [.data], laidTests := true, laidLooks := .later }
def RankReadsUptoCardSaid : Prop := Claim7.holds Tryd.pinned (.plain (OpenSpec.upto rankReadsSpec)) rankReadsUptoCard

/-- THE SECOND FORM's CARD OF 'graphdblaw51.RankTotal'. -/
def rankTotalUptoCard : Claim7 := { stood := { row := rankTotalUptoRow, standIns := [], harness := (true, "71cb78ac1302377c0f0b13c72f09dc4e80657eb66ec2724710e0bd1c13d382a0"), looks := false }, kinds := [], alts := [], laidByText := true, laidKinds := [.data], laidTests := true, laidLooks := .later }
def RankTotalUptoCardSaid : Prop := Claim7.holds Tryd.pinned (.plain (OpenSpec.upto rankTotalSpec)) rankTotalUptoCard

/-- THE SECOND FORM's CARD OF 'graphdblaw51.RankEven'. -/
def rankEvenUptoCard : Claim7 := { stood := { row := rankEvenUptoRow, standIns := [], harness := (true, "71cb78ac1302377c0f0b13c72f09dc4e80657eb66ec2724710e0bd1c13d382a0"), looks := false }, kinds := [], alts := [], laidByText := true, laidKinds := [.data], laidTests := true, laidLooks := .later }
def RankEvenUptoCardSaid : Prop := Claim7.holds Tryd.pinned (.plain (OpenSpec.upto rankEvenSpec)) rankEvenUptoCard

/-- THE SECOND FORM's CARD OF 'graphdblaw51.RankTypes'. -/
def rankTypesUptoCard : Claim7 := { stood := { row := rankTypesUptoRow, standIns := [], harness := (true, "71cb78ac1302377c0f0b13c72f09dc4e80657eb66ec2724710e0bd1c13d382a0"), looks := false }, kinds := [], alts := [], laidByText := true, laidKinds := [.data], laidTests := true, laidLooks := .later }
def RankTypesUptoCardSaid : Prop := Claim7.holds Tryd.pinned (.plain (OpenSpec.upto rankTypesSpec)) rankTypesUptoCard
end Rows
end Go.Proofs.YtlkpmbkmmfoakaaDoor
