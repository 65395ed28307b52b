/- THE WALKS over the small functions of the reference. -/
import Derived.Test.YtanclhcoiagcfaaDoorSchC
namespace Go.Proofs.YtanclhcoiagcfaaDoor
open Go.RowKit

theorem word_cases (l : List UInt8) : l = [98, 111, 111, 108] ∨ (l ≠ [98, 111, 111, 108] ∧ l = [105, 110, 116]) ∨ (l ≠ [98, 111, 111, 108] ∧ l ≠ [105, 110, 116] ∧ l = [115, 116, 114]) ∨ (l ≠ [98, 111, 111, 108] ∧ l ≠ [105, 110, 116] ∧ l ≠ [115, 116, 114]) := by
  by_cases h1 : l = [98, 111, 111, 108]
  · exact .inl h1
  · by_cases h2 : l = [105, 110, 116]
    · exact .inr (.inl ⟨h1, h2⟩)
    · by_cases h3 : l = [115, 116, 114]
      · exact .inr (.inr (.inl ⟨h1, h2, h3⟩))
      · exact .inr (.inr (.inr ⟨h1, h2, h3⟩))

theorem beq_list (s : ByteArray) (l : List UInt8) : (s.toList == l) = decide (s.data.toList = l) := by
  rw [ByteArray.toList_eq, Bool.eq_iff_iff]; simp

def starB (s : ByteArray) : ByteArray := asB (starL s.data.toList)

end Go.Proofs.YtanclhcoiagcfaaDoor
