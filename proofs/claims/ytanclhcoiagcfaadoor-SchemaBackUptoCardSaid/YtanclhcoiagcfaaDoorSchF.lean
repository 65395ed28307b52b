/- THE WALKS over the two Orders. -/
import Derived.Test.YtanclhcoiagcfaaDoorSchE
namespace Go.Proofs.YtanclhcoiagcfaaDoor
open Go.RowKit

def RuleP.val (r : RuleP) : Value := .agg #[.int .i64 r.kind, .int .i64 r.n, .string r.name, .string r.key, .string r.frm, .string r.tov]

end Go.Proofs.YtanclhcoiagcfaaDoor
