/- THE LAW Len. -/
import Derived.Test.YtanclhcoiagcfaaGreatDoorSchZc
namespace Go.Proofs.YtanclhcoiagcfaaGreatDoor
open Go.RowKit



theorem addR_le (s : List RuleP) (r : RuleP) (h : s.length ≤ 200) : (addR s r).1.length ≤ 1000 := by
  by_cases h0 : (addR s r).2 = 0
  · rw [(add_ok h0).2.2.2.2, insR_len]; omega
  · unfold addR at *
    repeat' split at h0
    all_goals simp_all
theorem dropR_le (s : List RuleP) (r : RuleP) (h : s.length ≤ 200) : (dropR s r).1.length ≤ 1000 := by
  by_cases h0 : (dropR s r).2 = 0
  · obtain ⟨-, -, -, h1⟩ := drop_ok h0
    have h2 := (undo_drop h0).2.1
    omega
  · unfold dropR at *
    repeat' split at h0
    all_goals simp_all


end Go.Proofs.YtanclhcoiagcfaaGreatDoor
