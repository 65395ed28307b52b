/-
  NARROWER THAN 'FOR EVERY INPUT', by the rows' own cells (each row's printed sentence says how): ColumnSteps: loops.
  DERIVED. THE GIVEN ROWS OF THIS SEAT. 4 by the template 'for every input the law returns true; each argument reads behind the call as it read before'; 0 by the template 'total and deterministic' (their statements: YtnheioehadldmaaTotals.lean).
  GIVEN WITH THE SEED: the statements are not yours to turn. If you find one false, say at which input.
  Laid BY PROGRAM, IN A SANDBOX (cutbox-rows.mjs): the forced cells as the released guide's own fill.sh prints them over the translation 90c4faa5dc2ac49d… (all of the seat's roots in one cut). By AI agents, Wed Nov 11 2026. No macro, syntax, notation, axiom, sorry.
-/
import Derived.Test.YtnheioehadldmaaChecked
import GoSem.Claim
import GoSem.ClaimJoined
import GoSem.ClaimMapViews
import Derived.JoinedTies
import Derived.KernelRfl
namespace Go.Proofs.Ytnheioehadldmaa
/- THE CELL 'sum', in the pinned program and in every row, IS THE sha256 OF THE DUMP (.gsa) THAT YtnheioehadldmaaProg.lean LOADS. Nothing in Lean hashes anything: it is a label: what it is worth is what the hold of that sum in a sandbox is worth. -/
noncomputable def Try.pinned : Pinned := { name := "ytnheioehadldmaa", sum := "90c4faa5dc2ac49d28c7065b34fefa75eda1db54a094382d9501f4200ca13a77", checked := Try.checked }
namespace Rows
def none {H : Type} : Left H := { results := [], args := [] }

/-- 'graphdblaw12.ColumnOfs': WHATEVER THE INPUT: true; the input reads as it did. -/
def columnOfsSpec : ChangeSpec := { name := "columnOfs", fn := fun _ => fun
  | [d] => { results := [.lit (.bool true)], args := [d] }
  | _ => none }
def columnOfsRow : OpenClaim := { program := "ytnheioehadldmaa", sum := "90c4faa5dc2ac49d28c7065b34fefa75eda1db54a094382d9501f4200ca13a77", func := "graphdb/graphdblaw12.ColumnOfs", spec := "columnOfs", unfollowed := true, recurses := true, apart := false }
def ColumnOfsSaid : Prop := columnOfsRow.holds Try.pinned (OpenSpec.ofChange columnOfsSpec)

/-- ITS FALSE NEIGHBOUR: 'it returns false'. Refute it at one input. -/
def columnOfsWrong : ChangeSpec := { name := "columnOfs", fn := fun _ => fun
  | [d] => { results := [.lit (.bool false)], args := [d] }
  | _ => none }
def ColumnOfsWrongFalsely : Prop := columnOfsRow.holds Try.pinned (OpenSpec.ofChange columnOfsWrong)

/-- 'graphdblaw12.ColumnReads': WHATEVER THE INPUT: true; the input reads as it did. -/
def columnReadsSpec : ChangeSpec := { name := "columnReads", fn := fun _ => fun
  | [d1, d2] => { results := [.lit (.bool true)], args := [d1, d2] }
  | _ => none }
def columnReadsRow : OpenClaim := { program := "ytnheioehadldmaa", sum := "90c4faa5dc2ac49d28c7065b34fefa75eda1db54a094382d9501f4200ca13a77", func := "graphdb/graphdblaw12.ColumnReads", spec := "columnReads", unfollowed := true, recurses := true, apart := false }
def ColumnReadsSaid : Prop := columnReadsRow.holds Try.pinned (OpenSpec.ofChange columnReadsSpec)

/-- ITS FALSE NEIGHBOUR: 'it returns false'. Refute it at one input. -/
def columnReadsWrong : ChangeSpec := { name := "columnReads", fn := fun _ => fun
  | [d1, d2] => { results := [.lit (.bool false)], args := [d1, d2] }
  | _ => none }
def ColumnReadsWrongFalsely : Prop := columnReadsRow.holds Try.pinned (OpenSpec.ofChange columnReadsWrong)

/-- 'graphdblaw12.ColumnBack': WHATEVER THE INPUT: true; the input reads as it did. -/
def columnBackSpec : ChangeSpec := { name := "columnBack", fn := fun _ => fun
  | [d1, d2] => { results := [.lit (.bool true)], args := [d1, d2] }
  | _ => none }
def columnBackRow : OpenClaim := { program := "ytnheioehadldmaa", sum := "90c4faa5dc2ac49d28c7065b34fefa75eda1db54a094382d9501f4200ca13a77", func := "graphdb/graphdblaw12.ColumnBack", spec := "columnBack", unfollowed := true, recurses := true, apart := false }
def ColumnBackSaid : Prop := columnBackRow.holds Try.pinned (OpenSpec.ofChange columnBackSpec)

/-- ITS FALSE NEIGHBOUR: 'it returns false'. Refute it at one input. -/
def columnBackWrong : ChangeSpec := { name := "columnBack", fn := fun _ => fun
  | [d1, d2] => { results := [.lit (.bool false)], args := [d1, d2] }
  | _ => none }
def ColumnBackWrongFalsely : Prop := columnBackRow.holds Try.pinned (OpenSpec.ofChange columnBackWrong)

/-- 'graphdblaw12.ColumnSteps': WHATEVER THE INPUT: true; the input reads as it did. -/
def columnStepsSpec : ChangeSpec := { name := "columnSteps", fn := fun _ => fun
  | [d1, d2] => { results := [.lit (.bool true)], args := [d1, d2] }
  | _ => none }
def columnStepsRow : OpenClaim := { program := "ytnheioehadldmaa", sum := "90c4faa5dc2ac49d28c7065b34fefa75eda1db54a094382d9501f4200ca13a77", func := "graphdb/graphdblaw12.ColumnSteps", spec := "columnSteps", unfollowed := true, recurses := true, loops := true, apart := false }
def ColumnStepsSaid : Prop := columnStepsRow.holds Try.pinned (OpenSpec.ofChange columnStepsSpec)

/-- ITS FALSE NEIGHBOUR: 'it returns false'. Refute it at one input. -/
def columnStepsWrong : ChangeSpec := { name := "columnSteps", fn := fun _ => fun
  | [d1, d2] => { results := [.lit (.bool false)], args := [d1, d2] }
  | _ => none }
def ColumnStepsWrongFalsely : Prop := columnStepsRow.holds Try.pinned (OpenSpec.ofChange columnStepsWrong)

/- THE SECOND FORM. 'bulk': how many values and letters a reading holds, each counted each time it is reached (what is shared counts as often as it is met; a slice's spare places count too). A statement '..UptoSaid' is the law's where the arguments, and the package variables that the reading takes, are together of bulk at most 1048576: NARROWER than '..Said'. Prove '..Said' where nothing that the law and all that it calls make is longer than what came in: it says more and counts as full. Else prove '..UptoSaid'. A law counts once. -/
mutual
def uptoBulk {H : Type} : DataW H → Nat
  | .lit (.string bytes) => bytes.length + 1
  | .lit _ => 1
  | .nil => 1
  | .ptr d => uptoBulk d + 1
  | .slice elems spare => uptoBulkAll elems + uptoBulkAll spare + 1
  | .agg parts => uptoBulkAll parts + 1
  | .iface _ d => uptoBulk d + 1
  | .map entries => uptoBulkEntries entries + 1
  | .held _ => 1
def uptoBulkAll {H : Type} : List (DataW H) → Nat
  | [] => 0
  | d :: r => uptoBulk d + uptoBulkAll r
def uptoBulkEntries {H : Type} : List (Lit × DataW H) → Nat
  | [] => 0
  | x :: r => uptoBulkEntry x + uptoBulkEntries r
def uptoBulkEntry {H : Type} : Lit × DataW H → Nat
  | (.string bytes, d) => bytes.length + uptoBulk d + 1
  | (_, d) => uptoBulk d + 1
 end
def uptoSmall : (H : Type) → List (DataW H) → Bool := fun _ ds => decide (uptoBulkAll ds ≤ 1048576)
def OpenSpec.upto (s : _root_.Go.ChangeSpec) : _root_.Go.OpenSpec := { _root_.Go.OpenSpec.ofChange s with cond := some uptoSmall }

/-- 'graphdblaw12.ColumnOfs', WHERE WHAT IT READS IS OF BULK AT MOST 1048576: true; the input reads as it did. -/
def columnOfsUptoRow : OpenClaim := { program := "ytnheioehadldmaa", sum := "90c4faa5dc2ac49d28c7065b34fefa75eda1db54a094382d9501f4200ca13a77", func := "graphdb/graphdblaw12.ColumnOfs", spec := "columnOfs", unfollowed := true, recurses := true, apart := false, narrowed := true }
def ColumnOfsUptoSaid : Prop := columnOfsUptoRow.holds Try.pinned (OpenSpec.upto columnOfsSpec)

/-- 'graphdblaw12.ColumnReads', WHERE WHAT IT READS IS OF BULK AT MOST 1048576: true; the input reads as it did. -/
def columnReadsUptoRow : OpenClaim := { program := "ytnheioehadldmaa", sum := "90c4faa5dc2ac49d28c7065b34fefa75eda1db54a094382d9501f4200ca13a77", func := "graphdb/graphdblaw12.ColumnReads", spec := "columnReads", unfollowed := true, recurses := true, apart := false, narrowed := true }
def ColumnReadsUptoSaid : Prop := columnReadsUptoRow.holds Try.pinned (OpenSpec.upto columnReadsSpec)

/-- 'graphdblaw12.ColumnBack', WHERE WHAT IT READS IS OF BULK AT MOST 1048576: true; the input reads as it did. -/
def columnBackUptoRow : OpenClaim := { program := "ytnheioehadldmaa", sum := "90c4faa5dc2ac49d28c7065b34fefa75eda1db54a094382d9501f4200ca13a77", func := "graphdb/graphdblaw12.ColumnBack", spec := "columnBack", unfollowed := true, recurses := true, apart := false, narrowed := true }
def ColumnBackUptoSaid : Prop := columnBackUptoRow.holds Try.pinned (OpenSpec.upto columnBackSpec)

/-- 'graphdblaw12.ColumnSteps', WHERE WHAT IT READS IS OF BULK AT MOST 1048576: true; the input reads as it did. -/
def columnStepsUptoRow : OpenClaim := { program := "ytnheioehadldmaa", sum := "90c4faa5dc2ac49d28c7065b34fefa75eda1db54a094382d9501f4200ca13a77", func := "graphdb/graphdblaw12.ColumnSteps", spec := "columnSteps", unfollowed := true, recurses := true, loops := true, apart := false, narrowed := true }
def ColumnStepsUptoSaid : Prop := columnStepsUptoRow.holds Try.pinned (OpenSpec.upto columnStepsSpec)

end Rows
end Go.Proofs.Ytnheioehadldmaa
