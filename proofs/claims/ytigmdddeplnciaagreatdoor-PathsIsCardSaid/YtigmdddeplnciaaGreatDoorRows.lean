/-
  NARROWER THAN 'FOR EVERY INPUT', by the rows' own cells (each row's printed sentence says how): PathsFrom: loops, laid · PathsIs: loops, laid · PathsOrder: loops, laid · PathsSound: loops, laid · PathsModes: loops, laid.
  DERIVED. THE GIVEN ROWS OF THIS SEAT. 5 by the template 'for every input the law returns true; each argument reads behind the call as it read before'; 0 by the template 'total and deterministic' (their statements: YtigmdddeplnciaaGreatDoorTotals.lean).
  GIVEN WITH THE SEED: the statements are not yours to turn. If you find one false, say at which input.
  Laid BY PROGRAM, IN A SANDBOX (cutbox-rows.mjs): the forced cells as the released guide's own fill.sh prints them over the translation 2e4f21db22aa577c… (all of the seat's roots in one cut). By AI agents, Wed Nov 11 2026. No macro, syntax, notation, axiom, sorry.
-/
import Derived.Test.YtigmdddeplnciaaGreatDoorChecked
import GoSem.Claim
import GoSem.ClaimJoined
import GoSem.ClaimMapViews
import Derived.JoinedTies
import Derived.KernelRfl
namespace Go.Proofs.YtigmdddeplnciaaGreatDoor
/- THE CELL 'sum', in the pinned program and in every row, IS THE sha256 OF THE DUMP (.gsa) THAT YtigmdddeplnciaaGreatDoorProg.lean LOADS. Nothing in Lean hashes anything: it is a label: what it is worth is what the hold of that sum in a sandbox is worth. -/
noncomputable def Tryz.pinned : Pinned := { name := "ytigmdddeplnciaagreatdoor", sum := "2e4f21db22aa577c603f3f3f8514c90a551170068fcccbc93fd38b4c5a22282c", checked := Tryz.checked }
namespace Rows
def none {H : Type} : Left H := { results := [], args := [] }

/- WHAT THE LISTED PACKAGE-LEVEL VARIABLES READ AS WHEN THE CALL BEGINS. Each datum BY PROGRAM (the guide's laid-datum.mjs) off the statement by which the dump's own 'gosem.cut.vars' lays the variable. In a bare row this is a premise. The card (YtigmdddeplnciaaGreatDoorCards.lean) ties it to the program's text. -/
def laid_graphdb_frac_zero {H : Type} : DataW H := .agg [.lit (.int .i64 0), .lit (.int .i64 1)]

/-- 'graphdblaw24.PathsFrom': WHATEVER THE INPUT: true; the input reads as it did. -/
def pathsFromSpec : ChangeSpec := { name := "pathsFrom", fn := fun _ => fun
  | [d] => { results := [.lit (.bool true)], args := [d] }
  | _ => none }
def pathsFromRow : OpenClaim := { program := "ytigmdddeplnciaagreatdoor", sum := "2e4f21db22aa577c603f3f3f8514c90a551170068fcccbc93fd38b4c5a22282c", func := "graphdb/graphdblaw24.PathsFrom", spec := "pathsFrom", inPlace := ["math/bits.Add64", "math/bits.Sub64"], unfollowed := true, recurses := true, named := ["graphdb/frac.zero"], loops := true, apart := false, laid := [("graphdb/frac.zero", laid_graphdb_frac_zero)] }
def PathsFromSaid : Prop := pathsFromRow.holds Tryz.pinned (OpenSpec.ofChange pathsFromSpec)

/-- ITS FALSE NEIGHBOUR: 'it returns false'. Refute it at one input. -/
def pathsFromWrong : ChangeSpec := { name := "pathsFrom", fn := fun _ => fun
  | [d] => { results := [.lit (.bool false)], args := [d] }
  | _ => none }
def PathsFromWrongFalsely : Prop := pathsFromRow.holds Tryz.pinned (OpenSpec.ofChange pathsFromWrong)

/-- 'graphdblaw24.PathsIs': WHATEVER THE INPUT: true; the input reads as it did. -/
def pathsIsSpec : ChangeSpec := { name := "pathsIs", fn := fun _ => fun
  | [d1, d2] => { results := [.lit (.bool true)], args := [d1, d2] }
  | _ => none }
def pathsIsRow : OpenClaim := { program := "ytigmdddeplnciaagreatdoor", sum := "2e4f21db22aa577c603f3f3f8514c90a551170068fcccbc93fd38b4c5a22282c", func := "graphdb/graphdblaw24.PathsIs", spec := "pathsIs", inPlace := ["math/bits.Add64", "math/bits.Sub64"], unfollowed := true, recurses := true, named := ["graphdb/frac.zero"], loops := true, apart := false, laid := [("graphdb/frac.zero", laid_graphdb_frac_zero)] }
def PathsIsSaid : Prop := pathsIsRow.holds Tryz.pinned (OpenSpec.ofChange pathsIsSpec)

/-- ITS FALSE NEIGHBOUR: 'it returns false'. Refute it at one input. -/
def pathsIsWrong : ChangeSpec := { name := "pathsIs", fn := fun _ => fun
  | [d1, d2] => { results := [.lit (.bool false)], args := [d1, d2] }
  | _ => none }
def PathsIsWrongFalsely : Prop := pathsIsRow.holds Tryz.pinned (OpenSpec.ofChange pathsIsWrong)

/-- 'graphdblaw24.PathsOrder': WHATEVER THE INPUT: true; the input reads as it did. -/
def pathsOrderSpec : ChangeSpec := { name := "pathsOrder", fn := fun _ => fun
  | [d1, d2, d3] => { results := [.lit (.bool true)], args := [d1, d2, d3] }
  | _ => none }
def pathsOrderRow : OpenClaim := { program := "ytigmdddeplnciaagreatdoor", sum := "2e4f21db22aa577c603f3f3f8514c90a551170068fcccbc93fd38b4c5a22282c", func := "graphdb/graphdblaw24.PathsOrder", spec := "pathsOrder", inPlace := ["math/bits.Add64", "math/bits.Sub64"], unfollowed := true, recurses := true, named := ["graphdb/frac.zero"], loops := true, apart := false, laid := [("graphdb/frac.zero", laid_graphdb_frac_zero)] }
def PathsOrderSaid : Prop := pathsOrderRow.holds Tryz.pinned (OpenSpec.ofChange pathsOrderSpec)

/-- ITS FALSE NEIGHBOUR: 'it returns false'. Refute it at one input. -/
def pathsOrderWrong : ChangeSpec := { name := "pathsOrder", fn := fun _ => fun
  | [d1, d2, d3] => { results := [.lit (.bool false)], args := [d1, d2, d3] }
  | _ => none }
def PathsOrderWrongFalsely : Prop := pathsOrderRow.holds Tryz.pinned (OpenSpec.ofChange pathsOrderWrong)

/-- 'graphdblaw24.PathsSound': WHATEVER THE INPUT: true; the input reads as it did. -/
def pathsSoundSpec : ChangeSpec := { name := "pathsSound", fn := fun _ => fun
  | [d] => { results := [.lit (.bool true)], args := [d] }
  | _ => none }
def pathsSoundRow : OpenClaim := { program := "ytigmdddeplnciaagreatdoor", sum := "2e4f21db22aa577c603f3f3f8514c90a551170068fcccbc93fd38b4c5a22282c", func := "graphdb/graphdblaw24.PathsSound", spec := "pathsSound", inPlace := ["math/bits.Add64", "math/bits.Sub64"], unfollowed := true, recurses := true, named := ["graphdb/frac.zero"], loops := true, apart := false, laid := [("graphdb/frac.zero", laid_graphdb_frac_zero)] }
def PathsSoundSaid : Prop := pathsSoundRow.holds Tryz.pinned (OpenSpec.ofChange pathsSoundSpec)

/-- ITS FALSE NEIGHBOUR: 'it returns false'. Refute it at one input. -/
def pathsSoundWrong : ChangeSpec := { name := "pathsSound", fn := fun _ => fun
  | [d] => { results := [.lit (.bool false)], args := [d] }
  | _ => none }
def PathsSoundWrongFalsely : Prop := pathsSoundRow.holds Tryz.pinned (OpenSpec.ofChange pathsSoundWrong)

/-- 'graphdblaw24.PathsModes': WHATEVER THE INPUT: true; the input reads as it did. -/
def pathsModesSpec : ChangeSpec := { name := "pathsModes", fn := fun _ => fun
  | [d] => { results := [.lit (.bool true)], args := [d] }
  | _ => none }
def pathsModesRow : OpenClaim := { program := "ytigmdddeplnciaagreatdoor", sum := "2e4f21db22aa577c603f3f3f8514c90a551170068fcccbc93fd38b4c5a22282c", func := "graphdb/graphdblaw24.PathsModes", spec := "pathsModes", inPlace := ["math/bits.Add64", "math/bits.Sub64"], unfollowed := true, recurses := true, named := ["graphdb/frac.zero"], loops := true, apart := false, laid := [("graphdb/frac.zero", laid_graphdb_frac_zero)] }
def PathsModesSaid : Prop := pathsModesRow.holds Tryz.pinned (OpenSpec.ofChange pathsModesSpec)

/-- ITS FALSE NEIGHBOUR: 'it returns false'. Refute it at one input. -/
def pathsModesWrong : ChangeSpec := { name := "pathsModes", fn := fun _ => fun
  | [d] => { results := [.lit (.bool false)], args := [d] }
  | _ => none }
def PathsModesWrongFalsely : Prop := pathsModesRow.holds Tryz.pinned (OpenSpec.ofChange pathsModesWrong)

/- THE SECOND FORM. 'bulk': how many values and letters a reading holds, each counted each time it is reached (what is shared counts as often as it is met; a slice's spare places count too). A statement '..UptoSaid' is the law's where the arguments, and the package variables that the reading takes, are together of bulk at most 1048576: NARROWER than '..Said'. Prove '..Said' where nothing that the law and all that it calls make is longer than what came in: it says more and counts as full. Else prove '..UptoSaid'. A law counts once. -/
mutual
def uptoBulk {H : Type} : DataW H → Nat
  | .lit (.string bytes) => bytes.length + 1
  | .lit _ => 1
  | .nil => 1
  | .ptr d => uptoBulk d + 1
  | .slice elems spare => uptoBulkAll elems + uptoBulkAll spare + 1
  | .agg parts => uptoBulkAll parts + 1
  | .iface _ d => uptoBulk d + 1
  | .map entries => uptoBulkEntries entries + 1
  | .held _ => 1
def uptoBulkAll {H : Type} : List (DataW H) → Nat
  | [] => 0
  | d :: r => uptoBulk d + uptoBulkAll r
def uptoBulkEntries {H : Type} : List (Lit × DataW H) → Nat
  | [] => 0
  | x :: r => uptoBulkEntry x + uptoBulkEntries r
def uptoBulkEntry {H : Type} : Lit × DataW H → Nat
  | (.string bytes, d) => bytes.length + uptoBulk d + 1
  | (_, d) => uptoBulk d + 1
 end
def uptoSmall : (H : Type) → List (DataW H) → Bool := fun _ ds => decide (uptoBulkAll ds ≤ 1048576)
def OpenSpec.upto (s : _root_.Go.ChangeSpec) : _root_.Go.OpenSpec := { _root_.Go.OpenSpec.ofChange s with cond := some uptoSmall }

/-- 'graphdblaw24.PathsFrom', WHERE WHAT IT READS IS OF BULK AT MOST 1048576: true; the input reads as it did. -/
def pathsFromUptoRow : OpenClaim := { program := "ytigmdddeplnciaagreatdoor", sum := "2e4f21db22aa577c603f3f3f8514c90a551170068fcccbc93fd38b4c5a22282c", func := "graphdb/graphdblaw24.PathsFrom", spec := "pathsFrom", inPlace := ["math/bits.Add64", "math/bits.Sub64"], unfollowed := true, recurses := true, named := ["graphdb/frac.zero"], loops := true, apart := false, laid := [("graphdb/frac.zero", laid_graphdb_frac_zero)], narrowed := true }
def PathsFromUptoSaid : Prop := pathsFromUptoRow.holds Tryz.pinned (OpenSpec.upto pathsFromSpec)

/-- 'graphdblaw24.PathsIs', WHERE WHAT IT READS IS OF BULK AT MOST 1048576: true; the input reads as it did. -/
def pathsIsUptoRow : OpenClaim := { program := "ytigmdddeplnciaagreatdoor", sum := "2e4f21db22aa577c603f3f3f8514c90a551170068fcccbc93fd38b4c5a22282c", func := "graphdb/graphdblaw24.PathsIs", spec := "pathsIs", inPlace := ["math/bits.Add64", "math/bits.Sub64"], unfollowed := true, recurses := true, named := ["graphdb/frac.zero"], loops := true, apart := false, laid := [("graphdb/frac.zero", laid_graphdb_frac_zero)], narrowed := true }
def PathsIsUptoSaid : Prop := pathsIsUptoRow.holds Tryz.pinned (OpenSpec.upto pathsIsSpec)

/-- 'graphdblaw24.PathsOrder', WHERE WHAT IT READS IS OF BULK AT MOST 1048576: true; the input reads as it did. -/
def pathsOrderUptoRow : OpenClaim := { program := "ytigmdddeplnciaagreatdoor", sum := "2e4f21db22aa577c603f3f3f8514c90a551170068fcccbc93fd38b4c5a22282c", func := "graphdb/graphdblaw24.PathsOrder", spec := "pathsOrder", inPlace := ["math/bits.Add64", "math/bits.Sub64"], unfollowed := true, recurses := true, named := ["graphdb/frac.zero"], loops := true, apart := false, laid := [("graphdb/frac.zero", laid_graphdb_frac_zero)], narrowed := true }
def PathsOrderUptoSaid : Prop := pathsOrderUptoRow.holds Tryz.pinned (OpenSpec.upto pathsOrderSpec)

/-- 'graphdblaw24.PathsSound', WHERE WHAT IT READS IS OF BULK AT MOST 1048576: true; the input reads as it did. -/
def pathsSoundUptoRow : OpenClaim := { program := "ytigmdddeplnciaagreatdoor", sum := "2e4f21db22aa577c603f3f3f8514c90a551170068fcccbc93fd38b4c5a22282c", func := "graphdb/graphdblaw24.PathsSound", spec := "pathsSound", inPlace := ["math/bits.Add64", "math/bits.Sub64"], unfollowed := true, recurses := true, named := ["graphdb/frac.zero"], loops := true, apart := false, laid := [("graphdb/frac.zero", laid_graphdb_frac_zero)], narrowed := true }
def PathsSoundUptoSaid : Prop := pathsSoundUptoRow.holds Tryz.pinned (OpenSpec.upto pathsSoundSpec)

/-- 'graphdblaw24.PathsModes', WHERE WHAT IT READS IS OF BULK AT MOST 1048576: true; the input reads as it did. -/
def pathsModesUptoRow : OpenClaim := { program := "ytigmdddeplnciaagreatdoor", sum := "2e4f21db22aa577c603f3f3f8514c90a551170068fcccbc93fd38b4c5a22282c", func := "graphdb/graphdblaw24.PathsModes", spec := "pathsModes", inPlace := ["math/bits.Add64", "math/bits.Sub64"], unfollowed := true, recurses := true, named := ["graphdb/frac.zero"], loops := true, apart := false, laid := [("graphdb/frac.zero", laid_graphdb_frac_zero)], narrowed := true }
def PathsModesUptoSaid : Prop := pathsModesUptoRow.holds Tryz.pinned (OpenSpec.upto pathsModesSpec)

end Rows
end Go.Proofs.YtigmdddeplnciaaGreatDoor
