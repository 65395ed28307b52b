/- THE WALK over schema.Order. -/
import Derived.Test.YtanclhcoiagcfaaDoorSchF
import Derived.Deep.RegionHeld3
namespace Go.Proofs.YtanclhcoiagcfaaDoor
open Go.RowKit

theorem below_drewS {n : Nat} {w w' : World} (h : Below n w w') : Below n w w'.drew := h.trans ⟨rfl, rfl, rfl, Nat.le_refl _, fun _ _ => rfl⟩

set_option maxRecDepth 100000 in
set_option maxHeartbeats 6400000 in
theorem s_Order (a b : RuleP) (w : World) : Calls Tryd.prog 6 #[a.val, b.val] w fun e w' => e = .returned (.int .i64 (ordR a b)) ∧ Below w.heap.size w w' := by
  obtain ⟨ak, an, anm, aky, afr, ato⟩ := a
  obtain ⟨bk, bn, bnm, bky, bfr, bto⟩ := b
  have HO := Lib.hid (show ordR ⟨ak, an, anm, aky, afr, ato⟩ ⟨bk, bn, bnm, bky, bfr, bto⟩ = orL [Lib.compareInt ak bk, cmpS anm bnm, cmpS aky bky, Lib.compareInt an bn, cmpS afr bfr, cmpS ato bto] from (orL_six _ _ _ _ _ _).symm)
  generalize ordR ⟨ak, an, anm, aky, afr, ato⟩ ⟨bk, bn, bnm, bky, bfr, bto⟩ = o at HO ⊢
  show Calls Tryd.prog 6 #[.agg #[.int .i64 ak, .int .i64 an, .string anm, .string aky, .string afr, .string ato], .agg #[.int .i64 bk, .int .i64 bn, .string bnm, .string bky, .string bfr, .string bto]] w _
  go_enter Tryd.func6, Tryd.ntmps6
  go_wp2_with fail
  go_region_held3 (fun V => V.cell? ⟨w.heap.size, 0, none⟩ = some (.int .i64 ak) ∧ V.cell? ⟨w.heap.size, 1, none⟩ = some (.int .i64 an) ∧ V.cell? ⟨w.heap.size, 2, none⟩ = some (.string anm) ∧ V.cell? ⟨w.heap.size, 3, none⟩ = some (.string aky) ∧ V.cell? ⟨w.heap.size, 4, none⟩ = some (.string afr) ∧ V.cell? ⟨w.heap.size, 5, none⟩ = some (.string ato) ∧ V.cell? ⟨w.heap.size + 1, 0, none⟩ = some (.int .i64 bk) ∧ V.cell? ⟨w.heap.size + 1, 1, none⟩ = some (.int .i64 bn) ∧ V.cell? ⟨w.heap.size + 1, 2, none⟩ = some (.string bnm) ∧ V.cell? ⟨w.heap.size + 1, 3, none⟩ = some (.string bky) ∧ V.cell? ⟨w.heap.size + 1, 4, none⟩ = some (.string bfr) ∧ V.cell? ⟨w.heap.size + 1, 5, none⟩ = some (.string bto) ∧ Below w.heap.size w V) ((exact ⟨(by first | (go_simp; done) | assumption), (by first | (go_simp; done) | assumption), (by first | (go_simp; done) | assumption), (by first | (go_simp; done) | assumption), (by first | (go_simp; done) | assumption), (by first | (go_simp; done) | assumption), (by first | (go_simp; done) | assumption), (by first | (go_simp; done) | assumption), (by first | (go_simp; done) | assumption), (by first | (go_simp; done) | assumption), (by first | (go_simp; done) | assumption), (by first | (go_simp; done) | assumption), (by repeat (first | with_reducible exact Below.refl _ _ | with_reducible assumption | with_reducible refine below_drewS ?_ | with_reducible refine below_drewN' ?_ _ | (with_reducible refine Below.setCell ?_ (by first | omega | (simp; done) | (simp; omega)) _) | (with_reducible refine Below.alloc ?_ (by first | exact Nat.le_refl _ | omega | (simp; done) | (simp; omega)) _)))⟩)) (first | (go_at_call 16; refine (c_cmp_int _ _ _).mono ?_; rintro e w' ⟨rfl, rfl⟩) | (go_at_call 17; refine (c_cmp_str _ _ _).mono ?_; rintro e w' ⟨rfl, rfl⟩) | (go_at_call 15; refine Calls.mono (c_or_int _ [Lib.compareInt ak bk, cmpS anm bnm, cmpS aky bky, Lib.compareInt an bn, cmpS afr bfr, cmpS ato bto] _ (by simp) ?hcs) ?_; (case hcs => (intro j hj; have hj6 : j = 0 ∨ j = 1 ∨ j = 2 ∨ j = 3 ∨ j = 4 ∨ j = 5 := (by simp at hj; omega); rcases hj6 with rfl | rfl | rfl | rfl | rfl | rfl <;> (go_simp; done))); rintro e w' ⟨rfl, rfl⟩))
  all_goals
    clear ‹_ ∧ _›
    go_wp2
    go_ret
    exact ⟨ret_i64 HO.out.symm, (by repeat (first | with_reducible exact Below.refl _ _ | with_reducible assumption | with_reducible refine below_drewS ?_ | with_reducible refine below_drewN' ?_ _ | (with_reducible refine Below.setCell ?_ (by first | omega | (simp; done) | (simp; omega)) _) | (with_reducible refine Below.alloc ?_ (by first | exact Nat.le_refl _ | omega | (simp; done) | (simp; omega)) _)))⟩

end Go.Proofs.YtanclhcoiagcfaaDoor
