/-
  NARROWER THAN 'FOR EVERY INPUT', by the rows' own cells (each row's printed sentence says how): RankStep: loops, laid · RankRun: loops, laid.
  DERIVED. THE GIVEN ROWS OF THIS SEAT. 2 by the template 'for every input the law returns true; each argument reads behind the call as it read before'; 0 by the template 'total and deterministic' (their statements: YtlkpmbkmmfoakaaGreatDoorTotals.lean).
  GIVEN WITH THE SEED: the statements are not yours to turn. If you find one false, say at which input.
  Laid BY PROGRAM, IN A SANDBOX (cutbox-rows.mjs): the forced cells as the released guide's own fill.sh prints them over the translation c4bf80746903af6e… (all of the seat's roots in one cut). By AI agents, Wed Nov 11 2026. No macro, syntax, notation, axiom, sorry.
-/
import Derived.Test.YtlkpmbkmmfoakaaGreatDoorChecked
import GoSem.Claim
import GoSem.ClaimJoined
import GoSem.ClaimMapViews
import Derived.JoinedTies
import Derived.KernelRfl
namespace Go.Proofs.YtlkpmbkmmfoakaaGreatDoor
/- THE CELL 'sum', in the pinned program and in every row, IS THE sha256 OF THE DUMP (.gsa) THAT YtlkpmbkmmfoakaaGreatDoorProg.lean LOADS. Nothing in Lean hashes anything: it is a label: what it is worth is what the hold of that sum in a sandbox is worth. -/
noncomputable def Tryz.pinned : Pinned := { name := "ytlkpmbkmmfoakaagreatdoor", sum := "c4bf80746903af6e97306c4676e831fa3f077b7214ac233cfd4ffaf0247aa290", checked := Tryz.checked }
namespace Rows
def none {H : Type} : Left H := { results := [], args := [] }

/- WHAT THE LISTED PACKAGE-LEVEL VARIABLES READ AS WHEN THE CALL BEGINS. Each datum BY PROGRAM (the guide's laid-datum.mjs) off the statement by which the dump's own 'gosem.cut.vars' lays the variable. In a bare row this is a premise. The card (YtlkpmbkmmfoakaaGreatDoorCards.lean) ties it to the program's text. -/
def laid_graphdb_frac_zero {H : Type} : DataW H := .agg [.lit (.int .i64 0), .lit (.int .i64 1)]

/-- 'graphdblaw51.RankStep': WHATEVER THE INPUT: true; the input reads as it did. -/
def rankStepSpec : ChangeSpec := { name := "rankStep", fn := fun _ => fun
  | [d1, d2, d3, d4] => { results := [.lit (.bool true)], args := [d1, d2, d3, d4] }
  | _ => none }
def rankStepRow : OpenClaim := { program := "ytlkpmbkmmfoakaagreatdoor", sum := "c4bf80746903af6e97306c4676e831fa3f077b7214ac233cfd4ffaf0247aa290", func := "graphdb/graphdblaw51.RankStep", spec := "rankStep", inPlace := ["math/bits.Add64", "math/bits.Sub64"], unfollowed := true, recurses := true, named := ["graphdb/frac.zero", "math/bits.divideError", "math/bits.overflowError"], loops := true, apart := false, laid := [("graphdb/frac.zero", laid_graphdb_frac_zero)] }
def RankStepSaid : Prop := rankStepRow.holds Tryz.pinned (OpenSpec.ofChange rankStepSpec)

/-- ITS FALSE NEIGHBOUR: 'it returns false'. Refute it at one input. -/
def rankStepWrong : ChangeSpec := { name := "rankStep", fn := fun _ => fun
  | [d1, d2, d3, d4] => { results := [.lit (.bool false)], args := [d1, d2, d3, d4] }
  | _ => none }
def RankStepWrongFalsely : Prop := rankStepRow.holds Tryz.pinned (OpenSpec.ofChange rankStepWrong)

/-- 'graphdblaw51.RankRun': WHATEVER THE INPUT: true; the input reads as it did. -/
def rankRunSpec : ChangeSpec := { name := "rankRun", fn := fun _ => fun
  | [d1, d2, d3, d4] => { results := [.lit (.bool true)], args := [d1, d2, d3, d4] }
  | _ => none }
def rankRunRow : OpenClaim := { program := "ytlkpmbkmmfoakaagreatdoor", sum := "c4bf80746903af6e97306c4676e831fa3f077b7214ac233cfd4ffaf0247aa290", func := "graphdb/graphdblaw51.RankRun", spec := "rankRun", inPlace := ["math/bits.Add64", "math/bits.Sub64"], unfollowed := true, recurses := true, named := ["graphdb/frac.zero", "math/bits.divideError", "math/bits.overflowError"], loops := true, apart := false, laid := [("graphdb/frac.zero", laid_graphdb_frac_zero)] }
def RankRunSaid : Prop := rankRunRow.holds Tryz.pinned (OpenSpec.ofChange rankRunSpec)

/-- ITS FALSE NEIGHBOUR: 'it returns false'. Refute it at one input. -/
def rankRunWrong : ChangeSpec := { name := "rankRun", fn := fun _ => fun
  | [d1, d2, d3, d4] => { results := [.lit (.bool false)], args := [d1, d2, d3, d4] }
  | _ => none }
def RankRunWrongFalsely : Prop := rankRunRow.holds Tryz.pinned (OpenSpec.ofChange rankRunWrong)

/- THE SECOND FORM. 'bulk': how many values and letters a reading holds, each counted each time it is reached (what is shared counts as often as it is met; a slice's spare places count too). A statement '..UptoSaid' is the law's where the arguments, and the package variables that the reading takes, are together of bulk at most 1048576: NARROWER than '..Said'. Prove '..Said' where nothing that the law and all that it calls make is longer than what came in: it says more and counts as full. Else prove '..UptoSaid'. A law counts once. -/
mutual
def uptoBulk {H : Type} : DataW H → Nat
  | .lit (.string bytes) => bytes.length + 1
  | .lit _ => 1
  | .nil => 1
  | .ptr d => uptoBulk d + 1
  | .slice elems spare => uptoBulkAll elems + uptoBulkAll spare + 1
  | .agg parts => uptoBulkAll parts + 1
  | .iface _ d => uptoBulk d + 1
  | .map entries => uptoBulkEntries entries + 1
  | .held _ => 1
def uptoBulkAll {H : Type} : List (DataW H) → Nat
  | [] => 0
  | d :: r => uptoBulk d + uptoBulkAll r
def uptoBulkEntries {H : Type} : List (Lit × DataW H) → Nat
  | [] => 0
  | x :: r => uptoBulkEntry x + uptoBulkEntries r
def uptoBulkEntry {H : Type} : Lit × DataW H → Nat
  | (.string bytes, d) => bytes.length + uptoBulk d + 1
  | (_, d) => uptoBulk d + 1
 end
def uptoSmall : (H : Type) → List (DataW H) → Bool := fun _ ds => decide (uptoBulkAll ds ≤ 1048576)
def OpenSpec.upto (s : _root_.Go.ChangeSpec) : _root_.Go.OpenSpec := { _root_.Go.OpenSpec.ofChange s with cond := some uptoSmall }

/-- 'graphdblaw51.RankStep', WHERE WHAT IT READS IS OF BULK AT MOST 1048576: true; the input reads as it did. -/
def rankStepUptoRow : OpenClaim := { program := "ytlkpmbkmmfoakaagreatdoor", sum := "c4bf80746903af6e97306c4676e831fa3f077b7214ac233cfd4ffaf0247aa290", func := "graphdb/graphdblaw51.RankStep", spec := "rankStep", inPlace := ["math/bits.Add64", "math/bits.Sub64"], unfollowed := true, recurses := true, named := ["graphdb/frac.zero", "math/bits.divideError", "math/bits.overflowError"], loops := true, apart := false, laid := [("graphdb/frac.zero", laid_graphdb_frac_zero)], narrowed := true }
def RankStepUptoSaid : Prop := rankStepUptoRow.holds Tryz.pinned (OpenSpec.upto rankStepSpec)

/-- 'graphdblaw51.RankRun', WHERE WHAT IT READS IS OF BULK AT MOST 1048576: true; the input reads as it did. -/
def rankRunUptoRow : OpenClaim := { program := "ytlkpmbkmmfoakaagreatdoor", sum := "c4bf80746903af6e97306c4676e831fa3f077b7214ac233cfd4ffaf0247aa290", func := "graphdb/graphdblaw51.RankRun", spec := "rankRun", inPlace := ["math/bits.Add64", "math/bits.Sub64"], unfollowed := true, recurses := true, named := ["graphdb/frac.zero", "math/bits.divideError", "math/bits.overflowError"], loops := true, apart := false, laid := [("graphdb/frac.zero", laid_graphdb_frac_zero)], narrowed := true }
def RankRunUptoSaid : Prop := rankRunUptoRow.holds Tryz.pinned (OpenSpec.upto rankRunSpec)

end Rows
end Go.Proofs.YtlkpmbkmmfoakaaGreatDoor
