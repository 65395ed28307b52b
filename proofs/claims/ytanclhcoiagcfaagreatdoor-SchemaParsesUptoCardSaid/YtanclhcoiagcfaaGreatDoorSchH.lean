/- THE WALKS over the reference's number and Check. -/
import Derived.Test.YtanclhcoiagcfaaGreatDoorSchG
namespace Go.Proofs.YtanclhcoiagcfaaGreatDoor
open Go.RowKit

set_option maxRecDepth 100000 in
set_option maxHeartbeats 3200000 in
theorem r9_number (a : RuleP) (w : World) : Calls Tryz.prog 25 #[a.val] w fun e w' => e = .returned (.bool (numB a.kind a.n)) ∧ Below w.heap.size w w' := by
  obtain ⟨ak, an, anm, aky, afr, ato⟩ := a
  have HO := Lib.hid (show numB ak an = if ak = 3 ∨ ak = 5 then decide (an = 1) || decide (an = 2) || decide (an = 4) else if ak = 7 then decide (0 ≤ an) && decide (an ≤ 4000) else decide (an = 0) from rfl)
  show Calls Tryz.prog 25 #[.agg #[.int .i64 ak, .int .i64 an, .string anm, .string aky, .string afr, .string ato]] w fun e w' => e = .returned (.bool (numB ak an)) ∧ Below w.heap.size w w'
  generalize numB ak an = o at HO ⊢
  go_enter Tryz.func25, Tryz.ntmps25
  go_wp2
  all_goals
    go_ret
    refine ⟨ret_bool ?_, (by repeat (first | with_reducible exact Below.refl _ _ | with_reducible assumption | with_reducible refine below_drewS ?_ | (with_reducible refine Below.setCell ?_ (by first | omega | (simp; done) | (simp; omega)) _) | (with_reducible refine Below.alloc ?_ (by first | exact Nat.le_refl _ | omega | (simp; done) | (simp; omega)) _)))⟩
    have ho := HO.out
    clear HO
    try simp only [beq_iff_eq, beq_eq_false_iff_ne, ne_eq] at *
    rw [Bool.eq_iff_iff]
    subst ho
    (repeat' split)
    all_goals first | (simp; done) | (simp; omega) | (exfalso; omega) | (simp_all; done) | (simp_all; omega)

end Go.Proofs.YtanclhcoiagcfaaGreatDoor
