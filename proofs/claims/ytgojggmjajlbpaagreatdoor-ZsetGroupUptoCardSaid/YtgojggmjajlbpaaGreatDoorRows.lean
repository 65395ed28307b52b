/-
  NARROWER THAN 'FOR EVERY INPUT', by the rows' own cells (each row's printed sentence says how): ZsetReads: loops, laid · ZsetSums: loops, laid · ZsetGroup: loops, laid · ZsetCounts: loops, laid · ZsetBack: loops, laid.
  DERIVED. THE GIVEN ROWS OF THIS SEAT. 5 by the template 'for every input the law returns true; each argument reads behind the call as it read before'; 0 by the template 'total and deterministic' (their statements: YtgojggmjajlbpaaGreatDoorTotals.lean).
  GIVEN WITH THE SEED: the statements are not yours to turn. If you find one false, say at which input.
  Laid BY PROGRAM, IN A SANDBOX (cutbox-rows.mjs): the forced cells as the released guide's own fill.sh prints them over the translation 6d02f5ec5e3a7599… (all of the seat's roots in one cut). By AI agents, Wed Nov 11 2026. No macro, syntax, notation, axiom, sorry.
-/
import Derived.Test.YtgojggmjajlbpaaGreatDoorChecked
import GoSem.Claim
import GoSem.ClaimJoined
import GoSem.ClaimMapViews
import Derived.JoinedTies
import Derived.KernelRfl
namespace Go.Proofs.YtgojggmjajlbpaaGreatDoor
/- THE CELL 'sum', in the pinned program and in every row, IS THE sha256 OF THE DUMP (.gsa) THAT YtgojggmjajlbpaaGreatDoorProg.lean LOADS. Nothing in Lean hashes anything: it is a label: what it is worth is what the hold of that sum in a sandbox is worth. -/
noncomputable def Tryz.pinned : Pinned := { name := "ytgojggmjajlbpaagreatdoor", sum := "6d02f5ec5e3a75995752ec134f499f7b0485a13c6193e6096a6fa8366e0c95ef", checked := Tryz.checked }
namespace Rows
def none {H : Type} : Left H := { results := [], args := [] }

/- WHAT THE LISTED PACKAGE-LEVEL VARIABLES READ AS WHEN THE CALL BEGINS. Each datum BY PROGRAM (the guide's laid-datum.mjs) off the statement by which the dump's own 'gosem.cut.vars' lays the variable. In a bare row this is a premise. The card (YtgojggmjajlbpaaGreatDoorCards.lean) ties it to the program's text. -/
def laid_math_bits_deBruijn32tab {H : Type} : DataW H := .agg [.lit (.int .u8 0), .lit (.int .u8 1), .lit (.int .u8 28), .lit (.int .u8 2), .lit (.int .u8 29), .lit (.int .u8 14), .lit (.int .u8 24), .lit (.int .u8 3), .lit (.int .u8 30), .lit (.int .u8 22), .lit (.int .u8 20), .lit (.int .u8 15), .lit (.int .u8 25), .lit (.int .u8 17), .lit (.int .u8 4), .lit (.int .u8 8), .lit (.int .u8 31), .lit (.int .u8 27), .lit (.int .u8 13), .lit (.int .u8 23), .lit (.int .u8 21), .lit (.int .u8 19), .lit (.int .u8 16), .lit (.int .u8 7), .lit (.int .u8 26), .lit (.int .u8 12), .lit (.int .u8 18), .lit (.int .u8 6), .lit (.int .u8 11), .lit (.int .u8 5), .lit (.int .u8 10), .lit (.int .u8 9)]
def laid_math_bits_deBruijn64tab {H : Type} : DataW H := .agg [.lit (.int .u8 0), .lit (.int .u8 1), .lit (.int .u8 56), .lit (.int .u8 2), .lit (.int .u8 57), .lit (.int .u8 49), .lit (.int .u8 28), .lit (.int .u8 3), .lit (.int .u8 61), .lit (.int .u8 58), .lit (.int .u8 42), .lit (.int .u8 50), .lit (.int .u8 38), .lit (.int .u8 29), .lit (.int .u8 17), .lit (.int .u8 4), .lit (.int .u8 62), .lit (.int .u8 47), .lit (.int .u8 59), .lit (.int .u8 36), .lit (.int .u8 45), .lit (.int .u8 43), .lit (.int .u8 51), .lit (.int .u8 22), .lit (.int .u8 53), .lit (.int .u8 39), .lit (.int .u8 33), .lit (.int .u8 30), .lit (.int .u8 24), .lit (.int .u8 18), .lit (.int .u8 12), .lit (.int .u8 5), .lit (.int .u8 63), .lit (.int .u8 55), .lit (.int .u8 48), .lit (.int .u8 27), .lit (.int .u8 60), .lit (.int .u8 41), .lit (.int .u8 37), .lit (.int .u8 16), .lit (.int .u8 46), .lit (.int .u8 35), .lit (.int .u8 44), .lit (.int .u8 21), .lit (.int .u8 52), .lit (.int .u8 32), .lit (.int .u8 23), .lit (.int .u8 11), .lit (.int .u8 54), .lit (.int .u8 26), .lit (.int .u8 40), .lit (.int .u8 15), .lit (.int .u8 34), .lit (.int .u8 20), .lit (.int .u8 31), .lit (.int .u8 10), .lit (.int .u8 25), .lit (.int .u8 14), .lit (.int .u8 19), .lit (.int .u8 9), .lit (.int .u8 13), .lit (.int .u8 8), .lit (.int .u8 7), .lit (.int .u8 6)]
def laid_internal_strconv_uint64pow10 {H : Type} : DataW H := .agg [.lit (.int .u64 1), .lit (.int .u64 10), .lit (.int .u64 100), .lit (.int .u64 1000), .lit (.int .u64 10000), .lit (.int .u64 100000), .lit (.int .u64 1000000), .lit (.int .u64 10000000), .lit (.int .u64 100000000), .lit (.int .u64 1000000000), .lit (.int .u64 10000000000), .lit (.int .u64 100000000000), .lit (.int .u64 1000000000000), .lit (.int .u64 10000000000000), .lit (.int .u64 100000000000000), .lit (.int .u64 1000000000000000), .lit (.int .u64 10000000000000000), .lit (.int .u64 100000000000000000), .lit (.int .u64 1000000000000000000), .lit (.int .u64 10000000000000000000)]
def laid_graphdb_frac_zero {H : Type} : DataW H := .agg [.lit (.int .i64 0), .lit (.int .i64 1)]

/-- 'graphdblaw47.ZsetReads': WHATEVER THE INPUT: true; the input reads as it did. -/
def zsetReadsSpec : ChangeSpec := { name := "zsetReads", fn := fun _ => fun
  | [d1, d2] => { results := [.lit (.bool true)], args := [d1, d2] }
  | _ => none }
def zsetReadsRow : OpenClaim := { program := "ytgojggmjajlbpaagreatdoor", sum := "6d02f5ec5e3a75995752ec134f499f7b0485a13c6193e6096a6fa8366e0c95ef", func := "graphdb/graphdblaw47.ZsetReads", spec := "zsetReads", inPlace := ["math/bits.Add64", "math/bits.Sub64"], unfollowed := true, recurses := true, named := ["internal/strconv.uint64pow10", "math/bits.deBruijn32tab", "math/bits.deBruijn64tab", "graphdb/frac.zero"], loops := true, apart := false, laid := [("math/bits.deBruijn32tab", laid_math_bits_deBruijn32tab), ("math/bits.deBruijn64tab", laid_math_bits_deBruijn64tab), ("internal/strconv.uint64pow10", laid_internal_strconv_uint64pow10), ("graphdb/frac.zero", laid_graphdb_frac_zero)] }
def ZsetReadsSaid : Prop := zsetReadsRow.holds Tryz.pinned (OpenSpec.ofChange zsetReadsSpec)

/-- ITS FALSE NEIGHBOUR: 'it returns false'. Refute it at one input. -/
def zsetReadsWrong : ChangeSpec := { name := "zsetReads", fn := fun _ => fun
  | [d1, d2] => { results := [.lit (.bool false)], args := [d1, d2] }
  | _ => none }
def ZsetReadsWrongFalsely : Prop := zsetReadsRow.holds Tryz.pinned (OpenSpec.ofChange zsetReadsWrong)

/-- 'graphdblaw47.ZsetSums': WHATEVER THE INPUT: true; the input reads as it did. -/
def zsetSumsSpec : ChangeSpec := { name := "zsetSums", fn := fun _ => fun
  | [d1, d2] => { results := [.lit (.bool true)], args := [d1, d2] }
  | _ => none }
def zsetSumsRow : OpenClaim := { program := "ytgojggmjajlbpaagreatdoor", sum := "6d02f5ec5e3a75995752ec134f499f7b0485a13c6193e6096a6fa8366e0c95ef", func := "graphdb/graphdblaw47.ZsetSums", spec := "zsetSums", inPlace := ["math/bits.Add64", "math/bits.Sub64"], unfollowed := true, recurses := true, named := ["internal/strconv.uint64pow10", "math/bits.deBruijn32tab", "math/bits.deBruijn64tab", "graphdb/frac.zero"], loops := true, apart := false, laid := [("math/bits.deBruijn32tab", laid_math_bits_deBruijn32tab), ("math/bits.deBruijn64tab", laid_math_bits_deBruijn64tab), ("internal/strconv.uint64pow10", laid_internal_strconv_uint64pow10), ("graphdb/frac.zero", laid_graphdb_frac_zero)] }
def ZsetSumsSaid : Prop := zsetSumsRow.holds Tryz.pinned (OpenSpec.ofChange zsetSumsSpec)

/-- ITS FALSE NEIGHBOUR: 'it returns false'. Refute it at one input. -/
def zsetSumsWrong : ChangeSpec := { name := "zsetSums", fn := fun _ => fun
  | [d1, d2] => { results := [.lit (.bool false)], args := [d1, d2] }
  | _ => none }
def ZsetSumsWrongFalsely : Prop := zsetSumsRow.holds Tryz.pinned (OpenSpec.ofChange zsetSumsWrong)

/-- 'graphdblaw47.ZsetGroup': WHATEVER THE INPUT: true; the input reads as it did. -/
def zsetGroupSpec : ChangeSpec := { name := "zsetGroup", fn := fun _ => fun
  | [d1, d2, d3] => { results := [.lit (.bool true)], args := [d1, d2, d3] }
  | _ => none }
def zsetGroupRow : OpenClaim := { program := "ytgojggmjajlbpaagreatdoor", sum := "6d02f5ec5e3a75995752ec134f499f7b0485a13c6193e6096a6fa8366e0c95ef", func := "graphdb/graphdblaw47.ZsetGroup", spec := "zsetGroup", inPlace := ["math/bits.Add64", "math/bits.Sub64"], unfollowed := true, recurses := true, named := ["internal/strconv.uint64pow10", "math/bits.deBruijn32tab", "math/bits.deBruijn64tab", "graphdb/frac.zero"], loops := true, apart := false, laid := [("math/bits.deBruijn32tab", laid_math_bits_deBruijn32tab), ("math/bits.deBruijn64tab", laid_math_bits_deBruijn64tab), ("internal/strconv.uint64pow10", laid_internal_strconv_uint64pow10), ("graphdb/frac.zero", laid_graphdb_frac_zero)] }
def ZsetGroupSaid : Prop := zsetGroupRow.holds Tryz.pinned (OpenSpec.ofChange zsetGroupSpec)

/-- ITS FALSE NEIGHBOUR: 'it returns false'. Refute it at one input. -/
def zsetGroupWrong : ChangeSpec := { name := "zsetGroup", fn := fun _ => fun
  | [d1, d2, d3] => { results := [.lit (.bool false)], args := [d1, d2, d3] }
  | _ => none }
def ZsetGroupWrongFalsely : Prop := zsetGroupRow.holds Tryz.pinned (OpenSpec.ofChange zsetGroupWrong)

/-- 'graphdblaw47.ZsetCounts': WHATEVER THE INPUT: true; the input reads as it did. -/
def zsetCountsSpec : ChangeSpec := { name := "zsetCounts", fn := fun _ => fun
  | [d1, d2, d3] => { results := [.lit (.bool true)], args := [d1, d2, d3] }
  | _ => none }
def zsetCountsRow : OpenClaim := { program := "ytgojggmjajlbpaagreatdoor", sum := "6d02f5ec5e3a75995752ec134f499f7b0485a13c6193e6096a6fa8366e0c95ef", func := "graphdb/graphdblaw47.ZsetCounts", spec := "zsetCounts", inPlace := ["math/bits.Add64", "math/bits.Sub64"], unfollowed := true, recurses := true, named := ["internal/strconv.uint64pow10", "math/bits.deBruijn32tab", "math/bits.deBruijn64tab", "graphdb/frac.zero"], loops := true, apart := false, laid := [("math/bits.deBruijn32tab", laid_math_bits_deBruijn32tab), ("math/bits.deBruijn64tab", laid_math_bits_deBruijn64tab), ("internal/strconv.uint64pow10", laid_internal_strconv_uint64pow10), ("graphdb/frac.zero", laid_graphdb_frac_zero)] }
def ZsetCountsSaid : Prop := zsetCountsRow.holds Tryz.pinned (OpenSpec.ofChange zsetCountsSpec)

/-- ITS FALSE NEIGHBOUR: 'it returns false'. Refute it at one input. -/
def zsetCountsWrong : ChangeSpec := { name := "zsetCounts", fn := fun _ => fun
  | [d1, d2, d3] => { results := [.lit (.bool false)], args := [d1, d2, d3] }
  | _ => none }
def ZsetCountsWrongFalsely : Prop := zsetCountsRow.holds Tryz.pinned (OpenSpec.ofChange zsetCountsWrong)

/-- 'graphdblaw47.ZsetBack': WHATEVER THE INPUT: true; the input reads as it did. -/
def zsetBackSpec : ChangeSpec := { name := "zsetBack", fn := fun _ => fun
  | [d] => { results := [.lit (.bool true)], args := [d] }
  | _ => none }
def zsetBackRow : OpenClaim := { program := "ytgojggmjajlbpaagreatdoor", sum := "6d02f5ec5e3a75995752ec134f499f7b0485a13c6193e6096a6fa8366e0c95ef", func := "graphdb/graphdblaw47.ZsetBack", spec := "zsetBack", inPlace := ["math/bits.Add64", "math/bits.Sub64"], unfollowed := true, recurses := true, named := ["internal/strconv.uint64pow10", "math/bits.deBruijn32tab", "math/bits.deBruijn64tab", "graphdb/frac.zero"], loops := true, apart := false, laid := [("math/bits.deBruijn32tab", laid_math_bits_deBruijn32tab), ("math/bits.deBruijn64tab", laid_math_bits_deBruijn64tab), ("internal/strconv.uint64pow10", laid_internal_strconv_uint64pow10), ("graphdb/frac.zero", laid_graphdb_frac_zero)] }
def ZsetBackSaid : Prop := zsetBackRow.holds Tryz.pinned (OpenSpec.ofChange zsetBackSpec)

/-- ITS FALSE NEIGHBOUR: 'it returns false'. Refute it at one input. -/
def zsetBackWrong : ChangeSpec := { name := "zsetBack", fn := fun _ => fun
  | [d] => { results := [.lit (.bool false)], args := [d] }
  | _ => none }
def ZsetBackWrongFalsely : Prop := zsetBackRow.holds Tryz.pinned (OpenSpec.ofChange zsetBackWrong)

/- THE SECOND FORM. 'bulk': how many values and letters a reading holds, each counted each time it is reached (what is shared counts as often as it is met; a slice's spare places count too). A statement '..UptoSaid' is the law's where the arguments, and the package variables that the reading takes, are together of bulk at most 1048576: NARROWER than '..Said'. Prove '..Said' where nothing that the law and all that it calls make is longer than what came in: it says more and counts as full. Else prove '..UptoSaid'. A law counts once. -/
mutual
def uptoBulk {H : Type} : DataW H → Nat
  | .lit (.string bytes) => bytes.length + 1
  | .lit _ => 1
  | .nil => 1
  | .ptr d => uptoBulk d + 1
  | .slice elems spare => uptoBulkAll elems + uptoBulkAll spare + 1
  | .agg parts => uptoBulkAll parts + 1
  | .iface _ d => uptoBulk d + 1
  | .map entries => uptoBulkEntries entries + 1
  | .held _ => 1
def uptoBulkAll {H : Type} : List (DataW H) → Nat
  | [] => 0
  | d :: r => uptoBulk d + uptoBulkAll r
def uptoBulkEntries {H : Type} : List (Lit × DataW H) → Nat
  | [] => 0
  | x :: r => uptoBulkEntry x + uptoBulkEntries r
def uptoBulkEntry {H : Type} : Lit × DataW H → Nat
  | (.string bytes, d) => bytes.length + uptoBulk d + 1
  | (_, d) => uptoBulk d + 1
 end
def uptoSmall : (H : Type) → List (DataW H) → Bool := fun _ ds => decide (uptoBulkAll ds ≤ 1048576)
def OpenSpec.upto (s : _root_.Go.ChangeSpec) : _root_.Go.OpenSpec := { _root_.Go.OpenSpec.ofChange s with cond := some uptoSmall }

/-- 'graphdblaw47.ZsetReads', WHERE WHAT IT READS IS OF BULK AT MOST 1048576: true; the input reads as it did. -/
def zsetReadsUptoRow : OpenClaim := { program := "ytgojggmjajlbpaagreatdoor", sum := "6d02f5ec5e3a75995752ec134f499f7b0485a13c6193e6096a6fa8366e0c95ef", func := "graphdb/graphdblaw47.ZsetReads", spec := "zsetReads", inPlace := ["math/bits.Add64", "math/bits.Sub64"], unfollowed := true, recurses := true, named := ["internal/strconv.uint64pow10", "math/bits.deBruijn32tab", "math/bits.deBruijn64tab", "graphdb/frac.zero"], loops := true, apart := false, laid := [("math/bits.deBruijn32tab", laid_math_bits_deBruijn32tab), ("math/bits.deBruijn64tab", laid_math_bits_deBruijn64tab), ("internal/strconv.uint64pow10", laid_internal_strconv_uint64pow10), ("graphdb/frac.zero", laid_graphdb_frac_zero)], narrowed := true }
def ZsetReadsUptoSaid : Prop := zsetReadsUptoRow.holds Tryz.pinned (OpenSpec.upto zsetReadsSpec)

/-- 'graphdblaw47.ZsetSums', WHERE WHAT IT READS IS OF BULK AT MOST 1048576: true; the input reads as it did. -/
def zsetSumsUptoRow : OpenClaim := { program := "ytgojggmjajlbpaagreatdoor", sum := "6d02f5ec5e3a75995752ec134f499f7b0485a13c6193e6096a6fa8366e0c95ef", func := "graphdb/graphdblaw47.ZsetSums", spec := "zsetSums", inPlace := ["math/bits.Add64", "math/bits.Sub64"], unfollowed := true, recurses := true, named := ["internal/strconv.uint64pow10", "math/bits.deBruijn32tab", "math/bits.deBruijn64tab", "graphdb/frac.zero"], loops := true, apart := false, laid := [("math/bits.deBruijn32tab", laid_math_bits_deBruijn32tab), ("math/bits.deBruijn64tab", laid_math_bits_deBruijn64tab), ("internal/strconv.uint64pow10", laid_internal_strconv_uint64pow10), ("graphdb/frac.zero", laid_graphdb_frac_zero)], narrowed := true }
def ZsetSumsUptoSaid : Prop := zsetSumsUptoRow.holds Tryz.pinned (OpenSpec.upto zsetSumsSpec)

/-- 'graphdblaw47.ZsetGroup', WHERE WHAT IT READS IS OF BULK AT MOST 1048576: true; the input reads as it did. -/
def zsetGroupUptoRow : OpenClaim := { program := "ytgojggmjajlbpaagreatdoor", sum := "6d02f5ec5e3a75995752ec134f499f7b0485a13c6193e6096a6fa8366e0c95ef", func := "graphdb/graphdblaw47.ZsetGroup", spec := "zsetGroup", inPlace := ["math/bits.Add64", "math/bits.Sub64"], unfollowed := true, recurses := true, named := ["internal/strconv.uint64pow10", "math/bits.deBruijn32tab", "math/bits.deBruijn64tab", "graphdb/frac.zero"], loops := true, apart := false, laid := [("math/bits.deBruijn32tab", laid_math_bits_deBruijn32tab), ("math/bits.deBruijn64tab", laid_math_bits_deBruijn64tab), ("internal/strconv.uint64pow10", laid_internal_strconv_uint64pow10), ("graphdb/frac.zero", laid_graphdb_frac_zero)], narrowed := true }
def ZsetGroupUptoSaid : Prop := zsetGroupUptoRow.holds Tryz.pinned (OpenSpec.upto zsetGroupSpec)

/-- 'graphdblaw47.ZsetCounts', WHERE WHAT IT READS IS OF BULK AT MOST 1048576: true; the input reads as it did. -/
def zsetCountsUptoRow : OpenClaim := { program := "ytgojggmjajlbpaagreatdoor", sum := "6d02f5ec5e3a75995752ec134f499f7b0485a13c6193e6096a6fa8366e0c95ef", func := "graphdb/graphdblaw47.ZsetCounts", spec := "zsetCounts", inPlace := ["math/bits.Add64", "math/bits.Sub64"], unfollowed := true, recurses := true, named := ["internal/strconv.uint64pow10", "math/bits.deBruijn32tab", "math/bits.deBruijn64tab", "graphdb/frac.zero"], loops := true, apart := false, laid := [("math/bits.deBruijn32tab", laid_math_bits_deBruijn32tab), ("math/bits.deBruijn64tab", laid_math_bits_deBruijn64tab), ("internal/strconv.uint64pow10", laid_internal_strconv_uint64pow10), ("graphdb/frac.zero", laid_graphdb_frac_zero)], narrowed := true }
def ZsetCountsUptoSaid : Prop := zsetCountsUptoRow.holds Tryz.pinned (OpenSpec.upto zsetCountsSpec)

/-- 'graphdblaw47.ZsetBack', WHERE WHAT IT READS IS OF BULK AT MOST 1048576: true; the input reads as it did. -/
def zsetBackUptoRow : OpenClaim := { program := "ytgojggmjajlbpaagreatdoor", sum := "6d02f5ec5e3a75995752ec134f499f7b0485a13c6193e6096a6fa8366e0c95ef", func := "graphdb/graphdblaw47.ZsetBack", spec := "zsetBack", inPlace := ["math/bits.Add64", "math/bits.Sub64"], unfollowed := true, recurses := true, named := ["internal/strconv.uint64pow10", "math/bits.deBruijn32tab", "math/bits.deBruijn64tab", "graphdb/frac.zero"], loops := true, apart := false, laid := [("math/bits.deBruijn32tab", laid_math_bits_deBruijn32tab), ("math/bits.deBruijn64tab", laid_math_bits_deBruijn64tab), ("internal/strconv.uint64pow10", laid_internal_strconv_uint64pow10), ("graphdb/frac.zero", laid_graphdb_frac_zero)], narrowed := true }
def ZsetBackUptoSaid : Prop := zsetBackUptoRow.holds Tryz.pinned (OpenSpec.upto zsetBackSpec)

end Rows
end Go.Proofs.YtgojggmjajlbpaaGreatDoor
