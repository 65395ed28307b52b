/-
  NARROWER THAN 'FOR EVERY INPUT', by the rows' own cells (each row's printed sentence says how): RankReads: laid · RankTotal: loops, laid · RankEven: loops, laid · RankTypes: loops, laid.
  DERIVED. THE GIVEN ROWS OF THIS SEAT. 4 by the template 'for every input the law returns true; each argument reads behind the call as it read before'; 0 by the template 'total and deterministic' (their statements: YtlkpmbkmmfoakaaDoorTotals.lean).
  GIVEN WITH THE SEED: the statements are not yours to turn. If you find one false, say at which input.
  Laid BY PROGRAM, IN A SANDBOX (cutbox-rows.mjs): the forced cells as the released guide's own fill.sh prints them over the translation 44bb911f795d33ba… (all of the seat's roots in one cut). By AI agents, Wed Nov 11 2026. No macro, syntax, notation, axiom, sorry.
-/
import Derived.Test.YtlkpmbkmmfoakaaDoorChecked
import GoSem.Claim
import GoSem.ClaimJoined
import GoSem.ClaimMapViews
import Derived.JoinedTies
import Derived.KernelRfl
namespace Go.Proofs.YtlkpmbkmmfoakaaDoor
/- THE CELL 'sum', in the pinned program and in every row, IS THE sha256 OF THE DUMP (.gsa) THAT YtlkpmbkmmfoakaaDoorProg.lean LOADS. Nothing in Lean hashes anything: it is a label: what it is worth is what the hold of that sum in a sandbox is worth. -/
noncomputable def Tryd.pinned : Pinned := { name := "ytlkpmbkmmfoakaadoor", sum := "44bb911f795d33ba714f840985f04cb1fce8ffc8149bfe8ab3799cdcf30d6cfe", checked := Tryd.checked }
namespace Rows
def none {H : Type} : Left H := { results := [], args := [] }

/- WHAT THE LISTED PACKAGE-LEVEL VARIABLES READ AS WHEN THE CALL BEGINS. Each datum BY PROGRAM (the guide's laid-datum.mjs) off the statement by which the dump's own 'gosem.cut.vars' lays the variable. In a bare row this is a premise. The card (YtlkpmbkmmfoakaaDoorCards.lean) ties it to the program's text. -/
def laid_graphdb_frac_zero {H : Type} : DataW H := .agg [.lit (.int .i64 0), .lit (.int .i64 1)]

/-- 'graphdblaw51.RankReads': WHATEVER THE INPUT: true; the input reads as it did. -/
def rankReadsSpec : ChangeSpec := { name := "rankReads", fn := fun _ => fun
  | [d] => { results := [.lit (.bool true)], args := [d] }
  | _ => none }
def rankReadsRow : OpenClaim := { program := "ytlkpmbkmmfoakaadoor", sum := "44bb911f795d33ba714f840985f04cb1fce8ffc8149bfe8ab3799cdcf30d6cfe", func := "graphdb/graphdblaw51.RankReads", spec := "rankReads", inPlace := ["math/bits.Add64", "math/bits.Sub64"], unfollowed := true, recurses := true, named := ["graphdb/frac.zero", "math/bits.divideError", "math/bits.overflowError"], apart := false, laid := [("graphdb/frac.zero", laid_graphdb_frac_zero)] }
def RankReadsSaid : Prop := rankReadsRow.holds Tryd.pinned (OpenSpec.ofChange rankReadsSpec)

/-- ITS FALSE NEIGHBOUR: 'it returns false'. Refute it at one input. -/
def rankReadsWrong : ChangeSpec := { name := "rankReads", fn := fun _ => fun
  | [d] => { results := [.lit (.bool false)], args := [d] }
  | _ => none }
def RankReadsWrongFalsely : Prop := rankReadsRow.holds Tryd.pinned (OpenSpec.ofChange rankReadsWrong)

/-- 'graphdblaw51.RankTotal': WHATEVER THE INPUT: true; the input reads as it did. -/
def rankTotalSpec : ChangeSpec := { name := "rankTotal", fn := fun _ => fun
  | [d1, d2, d3, d4] => { results := [.lit (.bool true)], args := [d1, d2, d3, d4] }
  | _ => none }
def rankTotalRow : OpenClaim := { program := "ytlkpmbkmmfoakaadoor", sum := "44bb911f795d33ba714f840985f04cb1fce8ffc8149bfe8ab3799cdcf30d6cfe", func := "graphdb/graphdblaw51.RankTotal", spec := "rankTotal", inPlace := ["math/bits.Add64", "math/bits.Sub64"], unfollowed := true, recurses := true, named := ["graphdb/frac.zero", "math/bits.divideError", "math/bits.overflowError"], loops := true, apart := false, laid := [("graphdb/frac.zero", laid_graphdb_frac_zero)] }
def RankTotalSaid : Prop := rankTotalRow.holds Tryd.pinned (OpenSpec.ofChange rankTotalSpec)

/-- ITS FALSE NEIGHBOUR: 'it returns false'. Refute it at one input. -/
def rankTotalWrong : ChangeSpec := { name := "rankTotal", fn := fun _ => fun
  | [d1, d2, d3, d4] => { results := [.lit (.bool false)], args := [d1, d2, d3, d4] }
  | _ => none }
def RankTotalWrongFalsely : Prop := rankTotalRow.holds Tryd.pinned (OpenSpec.ofChange rankTotalWrong)

/-- 'graphdblaw51.RankEven': WHATEVER THE INPUT: true; the input reads as it did. -/
def rankEvenSpec : ChangeSpec := { name := "rankEven", fn := fun _ => fun
  | [d1, d2, d3] => { results := [.lit (.bool true)], args := [d1, d2, d3] }
  | _ => none }
def rankEvenRow : OpenClaim := { program := "ytlkpmbkmmfoakaadoor", sum := "44bb911f795d33ba714f840985f04cb1fce8ffc8149bfe8ab3799cdcf30d6cfe", func := "graphdb/graphdblaw51.RankEven", spec := "rankEven", inPlace := ["math/bits.Add64", "math/bits.Sub64"], unfollowed := true, recurses := true, named := ["graphdb/frac.zero", "math/bits.divideError", "math/bits.overflowError"], loops := true, apart := false, laid := [("graphdb/frac.zero", laid_graphdb_frac_zero)] }
def RankEvenSaid : Prop := rankEvenRow.holds Tryd.pinned (OpenSpec.ofChange rankEvenSpec)

/-- ITS FALSE NEIGHBOUR: 'it returns false'. Refute it at one input. -/
def rankEvenWrong : ChangeSpec := { name := "rankEven", fn := fun _ => fun
  | [d1, d2, d3] => { results := [.lit (.bool false)], args := [d1, d2, d3] }
  | _ => none }
def RankEvenWrongFalsely : Prop := rankEvenRow.holds Tryd.pinned (OpenSpec.ofChange rankEvenWrong)

/-- 'graphdblaw51.RankTypes': WHATEVER THE INPUT: true; the input reads as it did. -/
def rankTypesSpec : ChangeSpec := { name := "rankTypes", fn := fun _ => fun
  | [d1, d2, d3, d4] => { results := [.lit (.bool true)], args := [d1, d2, d3, d4] }
  | _ => none }
def rankTypesRow : OpenClaim := { program := "ytlkpmbkmmfoakaadoor", sum := "44bb911f795d33ba714f840985f04cb1fce8ffc8149bfe8ab3799cdcf30d6cfe", func := "graphdb/graphdblaw51.RankTypes", spec := "rankTypes", inPlace := ["math/bits.Add64", "math/bits.Sub64"], unfollowed := true, recurses := true, named := ["graphdb/frac.zero", "math/bits.divideError", "math/bits.overflowError"], loops := true, apart := false, laid := [("graphdb/frac.zero", laid_graphdb_frac_zero)] }
def RankTypesSaid : Prop := rankTypesRow.holds Tryd.pinned (OpenSpec.ofChange rankTypesSpec)

/-- ITS FALSE NEIGHBOUR: 'it returns false'. Refute it at one input. -/
def rankTypesWrong : ChangeSpec := { name := "rankTypes", fn := fun _ => fun
  | [d1, d2, d3, d4] => { results := [.lit (.bool false)], args := [d1, d2, d3, d4] }
  | _ => none }
def RankTypesWrongFalsely : Prop := rankTypesRow.holds Tryd.pinned (OpenSpec.ofChange rankTypesWrong)

/- THE SECOND FORM. 'bulk': how many values and letters a reading holds, each counted each time it is reached (what is shared counts as often as it is met; a slice's spare places count too). A statement '..UptoSaid' is the law's where the arguments, and the package variables that the reading takes, are together of bulk at most 1048576: NARROWER than '..Said'. Prove '..Said' where nothing that the law and all that it calls make is longer than what came in: it says more and counts as full. Else prove '..UptoSaid'. A law counts once. -/
mutual
def uptoBulk {H : Type} : DataW H → Nat
  | .lit (.string bytes) => bytes.length + 1
  | .lit _ => 1
  | .nil => 1
  | .ptr d => uptoBulk d + 1
  | .slice elems spare => uptoBulkAll elems + uptoBulkAll spare + 1
  | .agg parts => uptoBulkAll parts + 1
  | .iface _ d => uptoBulk d + 1
  | .map entries => uptoBulkEntries entries + 1
  | .held _ => 1
def uptoBulkAll {H : Type} : List (DataW H) → Nat
  | [] => 0
  | d :: r => uptoBulk d + uptoBulkAll r
def uptoBulkEntries {H : Type} : List (Lit × DataW H) → Nat
  | [] => 0
  | x :: r => uptoBulkEntry x + uptoBulkEntries r
def uptoBulkEntry {H : Type} : Lit × DataW H → Nat
  | (.string bytes, d) => bytes.length + uptoBulk d + 1
  | (_, d) => uptoBulk d + 1
 end
def uptoSmall : (H : Type) → List (DataW H) → Bool := fun _ ds => decide (uptoBulkAll ds ≤ 1048576)
def OpenSpec.upto (s : _root_.Go.ChangeSpec) : _root_.Go.OpenSpec := { _root_.Go.OpenSpec.ofChange s with cond := some uptoSmall }

/-- 'graphdblaw51.RankReads', WHERE WHAT IT READS IS OF BULK AT MOST 1048576: true; the input reads as it did. -/
def rankReadsUptoRow : OpenClaim := { program := "ytlkpmbkmmfoakaadoor", sum := "44bb911f795d33ba714f840985f04cb1fce8ffc8149bfe8ab3799cdcf30d6cfe", func := "graphdb/graphdblaw51.RankReads", spec := "rankReads", inPlace := ["math/bits.Add64", "math/bits.Sub64"], unfollowed := true, recurses := true, named := ["graphdb/frac.zero", "math/bits.divideError", "math/bits.overflowError"], apart := false, laid := [("graphdb/frac.zero", laid_graphdb_frac_zero)], narrowed := true }
def RankReadsUptoSaid : Prop := rankReadsUptoRow.holds Tryd.pinned (OpenSpec.upto rankReadsSpec)

/-- 'graphdblaw51.RankTotal', WHERE WHAT IT READS IS OF BULK AT MOST 1048576: true; the input reads as it did. -/
def rankTotalUptoRow : OpenClaim := { program := "ytlkpmbkmmfoakaadoor", sum := "44bb911f795d33ba714f840985f04cb1fce8ffc8149bfe8ab3799cdcf30d6cfe", func := "graphdb/graphdblaw51.RankTotal", spec := "rankTotal", inPlace := ["math/bits.Add64", "math/bits.Sub64"], unfollowed := true, recurses := true, named := ["graphdb/frac.zero", "math/bits.divideError", "math/bits.overflowError"], loops := true, apart := false, laid := [("graphdb/frac.zero", laid_graphdb_frac_zero)], narrowed := true }
def RankTotalUptoSaid : Prop := rankTotalUptoRow.holds Tryd.pinned (OpenSpec.upto rankTotalSpec)

/-- 'graphdblaw51.RankEven', WHERE WHAT IT READS IS OF BULK AT MOST 1048576: true; the input reads as it did. -/
def rankEvenUptoRow : OpenClaim := { program := "ytlkpmbkmmfoakaadoor", sum := "44bb911f795d33ba714f840985f04cb1fce8ffc8149bfe8ab3799cdcf30d6cfe", func := "graphdb/graphdblaw51.RankEven", spec := "rankEven", inPlace := ["math/bits.Add64", "math/bits.Sub64"], unfollowed := true, recurses := true, named := ["graphdb/frac.zero", "math/bits.divideError", "math/bits.overflowError"], loops := true, apart := false, laid := [("graphdb/frac.zero", laid_graphdb_frac_zero)], narrowed := true }
def RankEvenUptoSaid : Prop := rankEvenUptoRow.holds Tryd.pinned (OpenSpec.upto rankEvenSpec)

/-- 'graphdblaw51.RankTypes', WHERE WHAT IT READS IS OF BULK AT MOST 1048576: true; the input reads as it did. -/
def rankTypesUptoRow : OpenClaim := { program := "ytlkpmbkmmfoakaadoor", sum := "44bb911f795d33ba714f840985f04cb1fce8ffc8149bfe8ab3799cdcf30d6cfe", func := "graphdb/graphdblaw51.RankTypes", spec := "rankTypes", inPlace := ["math/bits.Add64", "math/bits.Sub64"], unfollowed := true, recurses := true, named := ["graphdb/frac.zero", "math/bits.divideError", "math/bits.overflowError"], loops := true, apart := false, laid := [("graphdb/frac.zero", laid_graphdb_frac_zero)], narrowed := true }
def RankTypesUptoSaid : Prop := rankTypesUptoRow.holds Tryd.pinned (OpenSpec.upto rankTypesSpec)

end Rows
end Go.Proofs.YtlkpmbkmmfoakaaDoor
