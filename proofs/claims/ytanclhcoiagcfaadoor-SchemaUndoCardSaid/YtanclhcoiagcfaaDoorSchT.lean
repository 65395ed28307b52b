/- THE WALKS over the reference's digits and Text. -/
import Derived.Test.YtanclhcoiagcfaaDoorSchS
import Derived.Test.YtanclhcoiagcfaaDoorNumT
namespace Go.Proofs.YtanclhcoiagcfaaDoor
open Go.RowKit

theorem decDigits_big {m : Nat} (h : 9 < m) : Lib.decDigits m = Lib.decDigits (m / 10) ++ [digB m] := by
  rw [decDigits_rec, if_neg (by omega)]; rfl
theorem decDigits_one {m : Nat} (h : m ≤ 9) : Lib.decDigits m = [digB m] := by
  rw [decDigits_rec, if_pos (by omega)]; unfold digB; rw [Nat.mod_eq_of_lt (by omega)]

end Go.Proofs.YtanclhcoiagcfaaDoor
