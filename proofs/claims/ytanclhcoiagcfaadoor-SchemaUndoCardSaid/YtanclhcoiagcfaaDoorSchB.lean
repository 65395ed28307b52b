/- THE WALK over the reference's name. -/
import Derived.Test.YtanclhcoiagcfaaDoorSchA
namespace Go.Proofs.YtanclhcoiagcfaaDoor
open Go.RowKit

end Go.Proofs.YtanclhcoiagcfaaDoor
