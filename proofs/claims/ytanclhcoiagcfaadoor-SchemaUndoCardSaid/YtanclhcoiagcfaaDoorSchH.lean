/- THE WALKS over the reference's number and Check. -/
import Derived.Test.YtanclhcoiagcfaaDoorSchG
namespace Go.Proofs.YtanclhcoiagcfaaDoor
open Go.RowKit

end Go.Proofs.YtanclhcoiagcfaaDoor
