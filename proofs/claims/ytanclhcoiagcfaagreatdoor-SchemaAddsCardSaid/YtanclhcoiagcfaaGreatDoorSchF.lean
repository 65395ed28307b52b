/- THE WALKS over the two Orders. -/
import Derived.Test.YtanclhcoiagcfaaGreatDoorSchE
namespace Go.Proofs.YtanclhcoiagcfaaGreatDoor
open Go.RowKit

def RuleP.val (r : RuleP) : Value := .agg #[.int .i64 r.kind, .int .i64 r.n, .string r.name, .string r.key, .string r.frm, .string r.tov]

set_option maxRecDepth 100000 in
set_option maxHeartbeats 3200000 in
theorem r9_Order (a b : RuleP) (w : World) : Calls Tryz.prog 40 #[a.val, b.val] w fun e w' => e = .returned (.int .i64 (ordR a b)) ∧ Below w.heap.size w w' := by
  obtain ⟨ak, an, anm, aky, afr, ato⟩ := a
  obtain ⟨bk, bn, bnm, bky, bfr, bto⟩ := b
  have HT := Lib.hid (fun (x y : ByteArray) w => r9_texts x y w)
  have HO := Lib.hid (show ordR ⟨ak, an, anm, aky, afr, ato⟩ ⟨bk, bn, bnm, bky, bfr, bto⟩ = thenC (Lib.compareInt ak bk) (thenC (cmpS anm bnm) (thenC (cmpS aky bky) (thenC (Lib.compareInt an bn) (thenC (cmpS afr bfr) (cmpS ato bto))))) from rfl)
  generalize ordR ⟨ak, an, anm, aky, afr, ato⟩ ⟨bk, bn, bnm, bky, bfr, bto⟩ = o at HO ⊢
  show Calls Tryz.prog 40 #[.agg #[.int .i64 ak, .int .i64 an, .string anm, .string aky, .string afr, .string ato], .agg #[.int .i64 bk, .int .i64 bn, .string bnm, .string bky, .string bfr, .string bto]] w _
  go_enter Tryz.func40, Tryz.ntmps40
  go_wp2_with (go_at_call 59; refine (HT.out _ _ _).mono ?_; rintro e w' ⟨rfl, rfl⟩)
  all_goals
    go_ret
    refine ⟨ret_i64 ?_, (by repeat (first | with_reducible exact Below.refl _ _ | with_reducible assumption | with_reducible refine below_drewN' ?_ _ | (with_reducible refine Below.setCell ?_ (by first | (simp; done) | (simp; omega)) _) | (with_reducible refine Below.alloc ?_ (by first | exact Nat.le_refl _ | (simp; done) | (simp; omega)) _)))⟩
    have ho := HO.out
    clear HO HT
    simp only [bne_iff_ne, ne_eq, bne_eq_false_iff_eq] at *
    unfold thenC Lib.compareInt at ho
    (repeat' split at ho) <;> omega

end Go.Proofs.YtanclhcoiagcfaaGreatDoor
