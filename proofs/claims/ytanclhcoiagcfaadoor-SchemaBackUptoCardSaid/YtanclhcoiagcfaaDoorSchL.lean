/- THE WALK over the reference's Valid. -/
import Derived.Test.YtanclhcoiagcfaaDoorSchK
namespace Go.Proofs.YtanclhcoiagcfaaDoor
open Go.RowKit

theorem valid_no {s : List RuleP} {k : Nat} (hk : k < s.length) (h : stepB s k = false) : validB s = false := by
  unfold validB
  rw [Bool.and_eq_false_iff]
  exact .inr (List.all_eq_false.2 ⟨k, List.mem_range.2 hk, by rw [h]; simp⟩)
theorem valid_yes {s : List RuleP} (h : ∀ j, j < s.length → stepB s j = true) : validB s = decide (s.length ≤ 40) := by
  unfold validB
  rw [List.all_eq_true.2 (fun j hj => h j (List.mem_range.1 hj)), Bool.and_true]
theorem valid_long {s : List RuleP} (h : ¬ s.length ≤ 40) : validB s = false := by
  unfold validB; rw [decide_eq_false h]; rfl
theorem step_chk {s : List RuleP} {k : Nat} (h : chkR s[k]! ≠ 0) : stepB s k = false := by unfold stepB; rw [decide_eq_false h]; rfl
theorem step_zero {s : List RuleP} (h : chkR s[0]! = 0) : stepB s 0 = true := by unfold stepB; rw [decide_eq_true h]; rfl
theorem step_low {s : List RuleP} {k : Nat} (h : chkR s[k]! = 0) (hk : 0 < k) : stepB s k = decide (ordR s[k - 1]! s[k]! < 0) := by
  unfold stepB; rw [decide_eq_true h, decide_eq_false (show ¬ k = 0 by omega)]; simp

theorem mk_one {a V : World} {b o : Nat} {r : RuleP} (h : CellsR a b o r) (e : Ext a V) : V.cell? ⟨b, o, none⟩ = some (.int .i64 r.kind) ∧ V.cell? ⟨b, o + 1, none⟩ = some (.int .i64 r.n) ∧ V.cell? ⟨b, o + 2, none⟩ = some (.string r.name) ∧ V.cell? ⟨b, o + 3, none⟩ = some (.string r.key) ∧ V.cell? ⟨b, o + 4, none⟩ = some (.string r.frm) ∧ V.cell? ⟨b, o + 5, none⟩ = some (.string r.tov) ∧ Ext a V :=
  let ⟨h0, h1, h2, h3, h4, h5⟩ := h.ext e
  ⟨h0, h1, h2, h3, h4, h5, e⟩

theorem step_more {s : List RuleP} {k : Nat} (h : ∀ j, j < k → stepB s j = true) (hk : stepB s k = true) : ∀ j, j < k + 1 → stepB s j = true := by
  intro j hj
  by_cases e : j = k
  · subst e; exact hk
  · exact h j (by omega)

end Go.Proofs.YtanclhcoiagcfaaDoor
