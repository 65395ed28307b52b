/- THE LAW Parses. -/
import Derived.Test.YtanclhcoiagcfaaDoorSchZc
namespace Go.Proofs.YtanclhcoiagcfaaDoor
open Go.RowKit

theorem parsed_uniq {t : List UInt8} {r r' : RuleP} {e e' : Int} (h : ParsedR t r e) (h' : ParsedR t r' e') : r = r' ∧ e = e' := by
  rcases h with ⟨he, hc, ht⟩ | ⟨he, hr, hn⟩
  · rcases h' with ⟨he', hc', ht'⟩ | ⟨he', hr', hn'⟩
    · exact ⟨textL_inj hc hc' (ht.trans ht'.symm), he.trans he'.symm⟩
    · exact absurd ht (hn' r hc)
  · rcases h' with ⟨he', hc', ht'⟩ | ⟨he', hr', hn'⟩
    · exact absurd ht' (hn r' hc')
    · exact ⟨hr.trans hr'.symm, he.trans he'.symm⟩

end Go.Proofs.YtanclhcoiagcfaaDoor
