/-
  NARROWER THAN 'FOR EVERY INPUT', by the rows' own cells (each row's printed sentence says how): JoinCommutes: loops, laid · JoinAssociates: loops, laid · JoinNeutral: loops, laid · JoinTells: loops, laid · JoinHalves: loops, laid · JoinSplits: loops, laid.
  DERIVED. THE GIVEN ROWS OF THIS SEAT. 6 by the template 'for every input the law returns true; each argument reads behind the call as it read before'; 0 by the template 'total and deterministic' (their statements: YtbjddimafilflaaGreatDoorTotals.lean).
  GIVEN WITH THE SEED: the statements are not yours to turn. If you find one false, say at which input.
  Laid BY PROGRAM, IN A SANDBOX (cutbox-rows.mjs): the forced cells as the released guide's own fill.sh prints them over the translation 878ceeec1a5dfbc8… (all of the seat's roots in one cut). By AI agents, Wed Nov 11 2026. No macro, syntax, notation, axiom, sorry.
-/
import Derived.Test.YtbjddimafilflaaGreatDoorChecked
import GoSem.Claim
import GoSem.ClaimJoined
import GoSem.ClaimMapViews
import Derived.JoinedTies
import Derived.KernelRfl
namespace Go.Proofs.YtbjddimafilflaaGreatDoor
/- THE CELL 'sum', in the pinned program and in every row, IS THE sha256 OF THE DUMP (.gsa) THAT YtbjddimafilflaaGreatDoorProg.lean LOADS. Nothing in Lean hashes anything: it is a label: what it is worth is what the hold of that sum in a sandbox is worth. -/
noncomputable def Tryz.pinned : Pinned := { name := "ytbjddimafilflaagreatdoor", sum := "878ceeec1a5dfbc82e4f379c930d6858bed65b353b7a098243b88f96c2af2e19", checked := Tryz.checked }
namespace Rows
def none {H : Type} : Left H := { results := [], args := [] }

/- WHAT THE LISTED PACKAGE-LEVEL VARIABLES READ AS WHEN THE CALL BEGINS. Each datum BY PROGRAM (the guide's laid-datum.mjs) off the statement by which the dump's own 'gosem.cut.vars' lays the variable. In a bare row this is a premise. The card (YtbjddimafilflaaGreatDoorCards.lean) ties it to the program's text. -/
def laid_graphdb_frac_zero {H : Type} : DataW H := .agg [.lit (.int .i64 0), .lit (.int .i64 1)]

/-- 'graphdblaw34.JoinCommutes': WHATEVER THE INPUT: true; the input reads as it did. -/
def joinCommutesSpec : ChangeSpec := { name := "joinCommutes", fn := fun _ => fun
  | [d1, d2] => { results := [.lit (.bool true)], args := [d1, d2] }
  | _ => none }
def joinCommutesRow : OpenClaim := { program := "ytbjddimafilflaagreatdoor", sum := "878ceeec1a5dfbc82e4f379c930d6858bed65b353b7a098243b88f96c2af2e19", func := "graphdb/graphdblaw34.JoinCommutes", spec := "joinCommutes", inPlace := ["math/bits.Add64", "math/bits.Sub64"], unfollowed := true, recurses := true, named := ["graphdb/frac.zero"], loops := true, apart := false, laid := [("graphdb/frac.zero", laid_graphdb_frac_zero)] }
def JoinCommutesSaid : Prop := joinCommutesRow.holds Tryz.pinned (OpenSpec.ofChange joinCommutesSpec)

/-- ITS FALSE NEIGHBOUR: 'it returns false'. Refute it at one input. -/
def joinCommutesWrong : ChangeSpec := { name := "joinCommutes", fn := fun _ => fun
  | [d1, d2] => { results := [.lit (.bool false)], args := [d1, d2] }
  | _ => none }
def JoinCommutesWrongFalsely : Prop := joinCommutesRow.holds Tryz.pinned (OpenSpec.ofChange joinCommutesWrong)

/-- 'graphdblaw34.JoinAssociates': WHATEVER THE INPUT: true; the input reads as it did. -/
def joinAssociatesSpec : ChangeSpec := { name := "joinAssociates", fn := fun _ => fun
  | [d1, d2, d3] => { results := [.lit (.bool true)], args := [d1, d2, d3] }
  | _ => none }
def joinAssociatesRow : OpenClaim := { program := "ytbjddimafilflaagreatdoor", sum := "878ceeec1a5dfbc82e4f379c930d6858bed65b353b7a098243b88f96c2af2e19", func := "graphdb/graphdblaw34.JoinAssociates", spec := "joinAssociates", inPlace := ["math/bits.Add64", "math/bits.Sub64"], unfollowed := true, recurses := true, named := ["graphdb/frac.zero"], loops := true, apart := false, laid := [("graphdb/frac.zero", laid_graphdb_frac_zero)] }
def JoinAssociatesSaid : Prop := joinAssociatesRow.holds Tryz.pinned (OpenSpec.ofChange joinAssociatesSpec)

/-- ITS FALSE NEIGHBOUR: 'it returns false'. Refute it at one input. -/
def joinAssociatesWrong : ChangeSpec := { name := "joinAssociates", fn := fun _ => fun
  | [d1, d2, d3] => { results := [.lit (.bool false)], args := [d1, d2, d3] }
  | _ => none }
def JoinAssociatesWrongFalsely : Prop := joinAssociatesRow.holds Tryz.pinned (OpenSpec.ofChange joinAssociatesWrong)

/-- 'graphdblaw34.JoinNeutral': WHATEVER THE INPUT: true; the input reads as it did. -/
def joinNeutralSpec : ChangeSpec := { name := "joinNeutral", fn := fun _ => fun
  | [d] => { results := [.lit (.bool true)], args := [d] }
  | _ => none }
def joinNeutralRow : OpenClaim := { program := "ytbjddimafilflaagreatdoor", sum := "878ceeec1a5dfbc82e4f379c930d6858bed65b353b7a098243b88f96c2af2e19", func := "graphdb/graphdblaw34.JoinNeutral", spec := "joinNeutral", inPlace := ["math/bits.Add64", "math/bits.Sub64"], unfollowed := true, recurses := true, named := ["graphdb/frac.zero"], loops := true, apart := false, laid := [("graphdb/frac.zero", laid_graphdb_frac_zero)] }
def JoinNeutralSaid : Prop := joinNeutralRow.holds Tryz.pinned (OpenSpec.ofChange joinNeutralSpec)

/-- ITS FALSE NEIGHBOUR: 'it returns false'. Refute it at one input. -/
def joinNeutralWrong : ChangeSpec := { name := "joinNeutral", fn := fun _ => fun
  | [d] => { results := [.lit (.bool false)], args := [d] }
  | _ => none }
def JoinNeutralWrongFalsely : Prop := joinNeutralRow.holds Tryz.pinned (OpenSpec.ofChange joinNeutralWrong)

/-- 'graphdblaw34.JoinTells': WHATEVER THE INPUT: true; the input reads as it did. -/
def joinTellsSpec : ChangeSpec := { name := "joinTells", fn := fun _ => fun
  | [d1, d2] => { results := [.lit (.bool true)], args := [d1, d2] }
  | _ => none }
def joinTellsRow : OpenClaim := { program := "ytbjddimafilflaagreatdoor", sum := "878ceeec1a5dfbc82e4f379c930d6858bed65b353b7a098243b88f96c2af2e19", func := "graphdb/graphdblaw34.JoinTells", spec := "joinTells", inPlace := ["math/bits.Add64", "math/bits.Sub64"], unfollowed := true, recurses := true, named := ["graphdb/frac.zero"], loops := true, apart := false, laid := [("graphdb/frac.zero", laid_graphdb_frac_zero)] }
def JoinTellsSaid : Prop := joinTellsRow.holds Tryz.pinned (OpenSpec.ofChange joinTellsSpec)

/-- ITS FALSE NEIGHBOUR: 'it returns false'. Refute it at one input. -/
def joinTellsWrong : ChangeSpec := { name := "joinTells", fn := fun _ => fun
  | [d1, d2] => { results := [.lit (.bool false)], args := [d1, d2] }
  | _ => none }
def JoinTellsWrongFalsely : Prop := joinTellsRow.holds Tryz.pinned (OpenSpec.ofChange joinTellsWrong)

/-- 'graphdblaw34.JoinHalves': WHATEVER THE INPUT: true; the input reads as it did. -/
def joinHalvesSpec : ChangeSpec := { name := "joinHalves", fn := fun _ => fun
  | [d1, d2] => { results := [.lit (.bool true)], args := [d1, d2] }
  | _ => none }
def joinHalvesRow : OpenClaim := { program := "ytbjddimafilflaagreatdoor", sum := "878ceeec1a5dfbc82e4f379c930d6858bed65b353b7a098243b88f96c2af2e19", func := "graphdb/graphdblaw34.JoinHalves", spec := "joinHalves", inPlace := ["math/bits.Add64", "math/bits.Sub64"], unfollowed := true, recurses := true, named := ["graphdb/frac.zero"], loops := true, apart := false, laid := [("graphdb/frac.zero", laid_graphdb_frac_zero)] }
def JoinHalvesSaid : Prop := joinHalvesRow.holds Tryz.pinned (OpenSpec.ofChange joinHalvesSpec)

/-- ITS FALSE NEIGHBOUR: 'it returns false'. Refute it at one input. -/
def joinHalvesWrong : ChangeSpec := { name := "joinHalves", fn := fun _ => fun
  | [d1, d2] => { results := [.lit (.bool false)], args := [d1, d2] }
  | _ => none }
def JoinHalvesWrongFalsely : Prop := joinHalvesRow.holds Tryz.pinned (OpenSpec.ofChange joinHalvesWrong)

/-- 'graphdblaw34.JoinSplits': WHATEVER THE INPUT: true; the input reads as it did. -/
def joinSplitsSpec : ChangeSpec := { name := "joinSplits", fn := fun _ => fun
  | [d1, d2] => { results := [.lit (.bool true)], args := [d1, d2] }
  | _ => none }
def joinSplitsRow : OpenClaim := { program := "ytbjddimafilflaagreatdoor", sum := "878ceeec1a5dfbc82e4f379c930d6858bed65b353b7a098243b88f96c2af2e19", func := "graphdb/graphdblaw34.JoinSplits", spec := "joinSplits", inPlace := ["math/bits.Add64", "math/bits.Sub64"], unfollowed := true, recurses := true, named := ["graphdb/frac.zero"], loops := true, apart := false, laid := [("graphdb/frac.zero", laid_graphdb_frac_zero)] }
def JoinSplitsSaid : Prop := joinSplitsRow.holds Tryz.pinned (OpenSpec.ofChange joinSplitsSpec)

/-- ITS FALSE NEIGHBOUR: 'it returns false'. Refute it at one input. -/
def joinSplitsWrong : ChangeSpec := { name := "joinSplits", fn := fun _ => fun
  | [d1, d2] => { results := [.lit (.bool false)], args := [d1, d2] }
  | _ => none }
def JoinSplitsWrongFalsely : Prop := joinSplitsRow.holds Tryz.pinned (OpenSpec.ofChange joinSplitsWrong)

/- THE SECOND FORM. 'bulk': how many values and letters a reading holds, each counted each time it is reached (what is shared counts as often as it is met; a slice's spare places count too). A statement '..UptoSaid' is the law's where the arguments, and the package variables that the reading takes, are together of bulk at most 1048576: NARROWER than '..Said'. Prove '..Said' where nothing that the law and all that it calls make is longer than what came in: it says more and counts as full. Else prove '..UptoSaid'. A law counts once. -/
mutual
def uptoBulk {H : Type} : DataW H → Nat
  | .lit (.string bytes) => bytes.length + 1
  | .lit _ => 1
  | .nil => 1
  | .ptr d => uptoBulk d + 1
  | .slice elems spare => uptoBulkAll elems + uptoBulkAll spare + 1
  | .agg parts => uptoBulkAll parts + 1
  | .iface _ d => uptoBulk d + 1
  | .map entries => uptoBulkEntries entries + 1
  | .held _ => 1
def uptoBulkAll {H : Type} : List (DataW H) → Nat
  | [] => 0
  | d :: r => uptoBulk d + uptoBulkAll r
def uptoBulkEntries {H : Type} : List (Lit × DataW H) → Nat
  | [] => 0
  | x :: r => uptoBulkEntry x + uptoBulkEntries r
def uptoBulkEntry {H : Type} : Lit × DataW H → Nat
  | (.string bytes, d) => bytes.length + uptoBulk d + 1
  | (_, d) => uptoBulk d + 1
 end
def uptoSmall : (H : Type) → List (DataW H) → Bool := fun _ ds => decide (uptoBulkAll ds ≤ 1048576)
def OpenSpec.upto (s : _root_.Go.ChangeSpec) : _root_.Go.OpenSpec := { _root_.Go.OpenSpec.ofChange s with cond := some uptoSmall }

/-- 'graphdblaw34.JoinCommutes', WHERE WHAT IT READS IS OF BULK AT MOST 1048576: true; the input reads as it did. -/
def joinCommutesUptoRow : OpenClaim := { program := "ytbjddimafilflaagreatdoor", sum := "878ceeec1a5dfbc82e4f379c930d6858bed65b353b7a098243b88f96c2af2e19", func := "graphdb/graphdblaw34.JoinCommutes", spec := "joinCommutes", inPlace := ["math/bits.Add64", "math/bits.Sub64"], unfollowed := true, recurses := true, named := ["graphdb/frac.zero"], loops := true, apart := false, laid := [("graphdb/frac.zero", laid_graphdb_frac_zero)], narrowed := true }
def JoinCommutesUptoSaid : Prop := joinCommutesUptoRow.holds Tryz.pinned (OpenSpec.upto joinCommutesSpec)

/-- 'graphdblaw34.JoinAssociates', WHERE WHAT IT READS IS OF BULK AT MOST 1048576: true; the input reads as it did. -/
def joinAssociatesUptoRow : OpenClaim := { program := "ytbjddimafilflaagreatdoor", sum := "878ceeec1a5dfbc82e4f379c930d6858bed65b353b7a098243b88f96c2af2e19", func := "graphdb/graphdblaw34.JoinAssociates", spec := "joinAssociates", inPlace := ["math/bits.Add64", "math/bits.Sub64"], unfollowed := true, recurses := true, named := ["graphdb/frac.zero"], loops := true, apart := false, laid := [("graphdb/frac.zero", laid_graphdb_frac_zero)], narrowed := true }
def JoinAssociatesUptoSaid : Prop := joinAssociatesUptoRow.holds Tryz.pinned (OpenSpec.upto joinAssociatesSpec)

/-- 'graphdblaw34.JoinNeutral', WHERE WHAT IT READS IS OF BULK AT MOST 1048576: true; the input reads as it did. -/
def joinNeutralUptoRow : OpenClaim := { program := "ytbjddimafilflaagreatdoor", sum := "878ceeec1a5dfbc82e4f379c930d6858bed65b353b7a098243b88f96c2af2e19", func := "graphdb/graphdblaw34.JoinNeutral", spec := "joinNeutral", inPlace := ["math/bits.Add64", "math/bits.Sub64"], unfollowed := true, recurses := true, named := ["graphdb/frac.zero"], loops := true, apart := false, laid := [("graphdb/frac.zero", laid_graphdb_frac_zero)], narrowed := true }
def JoinNeutralUptoSaid : Prop := joinNeutralUptoRow.holds Tryz.pinned (OpenSpec.upto joinNeutralSpec)

/-- 'graphdblaw34.JoinTells', WHERE WHAT IT READS IS OF BULK AT MOST 1048576: true; the input reads as it did. -/
def joinTellsUptoRow : OpenClaim := { program := "ytbjddimafilflaagreatdoor", sum := "878ceeec1a5dfbc82e4f379c930d6858bed65b353b7a098243b88f96c2af2e19", func := "graphdb/graphdblaw34.JoinTells", spec := "joinTells", inPlace := ["math/bits.Add64", "math/bits.Sub64"], unfollowed := true, recurses := true, named := ["graphdb/frac.zero"], loops := true, apart := false, laid := [("graphdb/frac.zero", laid_graphdb_frac_zero)], narrowed := true }
def JoinTellsUptoSaid : Prop := joinTellsUptoRow.holds Tryz.pinned (OpenSpec.upto joinTellsSpec)

/-- 'graphdblaw34.JoinHalves', WHERE WHAT IT READS IS OF BULK AT MOST 1048576: true; the input reads as it did. -/
def joinHalvesUptoRow : OpenClaim := { program := "ytbjddimafilflaagreatdoor", sum := "878ceeec1a5dfbc82e4f379c930d6858bed65b353b7a098243b88f96c2af2e19", func := "graphdb/graphdblaw34.JoinHalves", spec := "joinHalves", inPlace := ["math/bits.Add64", "math/bits.Sub64"], unfollowed := true, recurses := true, named := ["graphdb/frac.zero"], loops := true, apart := false, laid := [("graphdb/frac.zero", laid_graphdb_frac_zero)], narrowed := true }
def JoinHalvesUptoSaid : Prop := joinHalvesUptoRow.holds Tryz.pinned (OpenSpec.upto joinHalvesSpec)

/-- 'graphdblaw34.JoinSplits', WHERE WHAT IT READS IS OF BULK AT MOST 1048576: true; the input reads as it did. -/
def joinSplitsUptoRow : OpenClaim := { program := "ytbjddimafilflaagreatdoor", sum := "878ceeec1a5dfbc82e4f379c930d6858bed65b353b7a098243b88f96c2af2e19", func := "graphdb/graphdblaw34.JoinSplits", spec := "joinSplits", inPlace := ["math/bits.Add64", "math/bits.Sub64"], unfollowed := true, recurses := true, named := ["graphdb/frac.zero"], loops := true, apart := false, laid := [("graphdb/frac.zero", laid_graphdb_frac_zero)], narrowed := true }
def JoinSplitsUptoSaid : Prop := joinSplitsUptoRow.holds Tryz.pinned (OpenSpec.upto joinSplitsSpec)

end Rows
end Go.Proofs.YtbjddimafilflaaGreatDoor
