/- PARTS OF THE WALKS, joined: FracCmp, FracTe, MapOf, RkA, RkB. -/
import Derived.Test.YtlkpmbkmmfoakaaDoorU09
import Derived.Maps.OwnSet
import Derived.Maps.OwnOps
import Derived.Test.YtlkpmbkmmfoakaaDoorU00
import Derived.Test.YtlkpmbkmmfoakaaDoorU08
import Derived.Test.YtlkpmbkmmfoakaaDoorU04
import Derived.Test.YtlkpmbkmmfoakaaDoorU06
/- THE WALK over the reference's Cmp, by itself. -/
namespace Go.Proofs.YtlkpmbkmmfoakaaDoor
open Go.RowKit
theorem wrap_neg_sgn (c : Int) : IntKind.i64.wrap (-sgn c) = sgn (-c) := by
  rw [sgn_negT]; rcases sgn_casesT c with h | h | h <;> rw [h] <;> decide
set_option maxRecDepth 100000 in
set_option maxHeartbeats 6400000 in
theorem r3_Cmp (an ad bn bd : Int) (w : World) :
    Calls Tryd.prog 16 #[.agg #[.int .i64 an, .int .i64 ad], .agg #[.int .i64 bn, .int .i64 bd]] w fun e w' => e = .returned (.int .i64 (cmpS an ad bn bd)) ∧ Below w.heap.size w w' := by
  obtain ⟨⟨x1, x2⟩, x3, x4⟩ := fix_bounds an ad
  obtain ⟨⟨y1, y2⟩, y3, y4⟩ := fix_bounds bn bd
  have B1 := fixD_pos an ad
  have D1 := fixD_pos bn bd
  have HR : Hid (cmpS an ad bn bd = sgn (fixN an ad * fixD bn bd + -fixN bn bd * fixD an ad)) := by
    show _ = _
    unfold cmpS; congr 1; rw [Int.neg_mul]; omega
  generalize cmpS an ad bn bd = R at *
  obtain ⟨A, hA⟩ : ∃ A, Hid (fixN an ad = A) := ⟨_, rfl⟩
  obtain ⟨B, hB⟩ : ∃ B, Hid (fixD an ad = B) := ⟨_, rfl⟩
  obtain ⟨C, hC⟩ : ∃ C, Hid (fixN bn bd = C) := ⟨_, rfl⟩
  obtain ⟨D, hD⟩ : ∃ D, Hid (fixD bn bd = D) := ⟨_, rfl⟩
  rw [hA.out, hB.out, hC.out, hD.out] at HR
  rw [hA.out] at x1 x2
  rw [hB.out] at x3 x4 B1
  rw [hC.out] at y1 y2
  rw [hD.out] at y3 y4 D1
  cases ha : validB an ad <;> cases hb : validB bn bd
  · have hSt : Hid (∀ V, CmpSt w 0 1 0 1 V → CmpSt w A B C D V) := by
      intro V hV
      rw [← hA.out, ← hB.out, ← hC.out, ← hD.out, (fix_no ha).1, (fix_no ha).2, (fix_no hb).1, (fix_no hb).2]
      exact hV
    go_enter Tryd.func16, Tryd.ntmps16
    go_wp2_with fail
    refine (r3_Valid _ _ _).mono ?_
    rintro e w' ⟨rfl, hbb⟩
    obtain ⟨hc, hf⟩ := bcell hbb
    have c0 : w'.cell? ⟨w.heap.size, 0, none⟩ = some (.int .i64 an) := (hc _ _ (by first | omega | (simp; done) | (simp; omega))).trans (by go_simp); have f0 : w'.frozen? ⟨w.heap.size, 0, none⟩ = false := (hf _ _ (by first | omega | (simp; done) | (simp; omega))).trans (by go_simp); have c1 : w'.cell? ⟨w.heap.size, 1, none⟩ = some (.int .i64 ad) := (hc _ _ (by first | omega | (simp; done) | (simp; omega))).trans (by go_simp); have f1 : w'.frozen? ⟨w.heap.size, 1, none⟩ = false := (hf _ _ (by first | omega | (simp; done) | (simp; omega))).trans (by go_simp); have c2 : w'.cell? ⟨w.heap.size + 1, 0, none⟩ = some (.int .i64 bn) := (hc _ _ (by first | omega | (simp; done) | (simp; omega))).trans (by go_simp); have f2 : w'.frozen? ⟨w.heap.size + 1, 0, none⟩ = false := (hf _ _ (by first | omega | (simp; done) | (simp; omega))).trans (by go_simp); have c3 : w'.cell? ⟨w.heap.size + 1, 1, none⟩ = some (.int .i64 bd) := (hc _ _ (by first | omega | (simp; done) | (simp; omega))).trans (by go_simp); have f3 : w'.frozen? ⟨w.heap.size + 1, 1, none⟩ = false := (hf _ _ (by first | omega | (simp; done) | (simp; omega))).trans (by go_simp); have hz : w.heap.size + 1 < w'.heap.size := (by have hs := hbb.size; first | omega | (simp at hs; done) | (simp at hs; omega)); have hbA : Below w.heap.size w w' := Below.trans (b := _) (by repeat (first | with_reducible exact Below.refl _ _ | with_reducible assumption | with_reducible refine below_drewN' ?_ _ | (with_reducible refine Below.setCell ?_ (by first | (simp; done) | (simp; omega)) _) | (with_reducible refine Below.alloc ?_ (by first | exact Nat.le_refl _ | (simp; done) | (simp; omega)) _))) (hbb.mono (by first | omega | (simp; done) | (simp; omega))); clear hc hf hbb
    go_wp2_with fail
    refine (r3_Valid _ _ _).mono ?_
    rintro e w' ⟨rfl, hbb⟩
    obtain ⟨hc, hf⟩ := bcell hbb
    have c0 : w'.cell? ⟨w.heap.size, 0, none⟩ = some (.int .i64 0) := (hc _ _ (by first | omega | (simp; done) | (simp; omega))).trans (by go_simp); have f0 : w'.frozen? ⟨w.heap.size, 0, none⟩ = false := (hf _ _ (by first | omega | (simp; done) | (simp; omega))).trans (by go_simp); have c1 : w'.cell? ⟨w.heap.size, 1, none⟩ = some (.int .i64 1) := (hc _ _ (by first | omega | (simp; done) | (simp; omega))).trans (by go_simp); have f1 : w'.frozen? ⟨w.heap.size, 1, none⟩ = false := (hf _ _ (by first | omega | (simp; done) | (simp; omega))).trans (by go_simp); have c2 : w'.cell? ⟨w.heap.size + 1, 0, none⟩ = some (.int .i64 bn) := (hc _ _ (by first | omega | (simp; done) | (simp; omega))).trans (by go_simp); have f2 : w'.frozen? ⟨w.heap.size + 1, 0, none⟩ = false := (hf _ _ (by first | omega | (simp; done) | (simp; omega))).trans (by go_simp); have c3 : w'.cell? ⟨w.heap.size + 1, 1, none⟩ = some (.int .i64 bd) := (hc _ _ (by first | omega | (simp; done) | (simp; omega))).trans (by go_simp); have f3 : w'.frozen? ⟨w.heap.size + 1, 1, none⟩ = false := (hf _ _ (by first | omega | (simp; done) | (simp; omega))).trans (by go_simp); have hz : w.heap.size + 1 < w'.heap.size := (by have hs := hbb.size; first | omega | (simp at hs; done) | (simp at hs; omega)); have hbA : Below w.heap.size w w' := Below.trans (b := _) (by repeat (first | with_reducible exact Below.refl _ _ | with_reducible assumption | with_reducible refine below_drewN' ?_ _ | (with_reducible refine Below.setCell ?_ (by first | (simp; done) | (simp; omega)) _) | (with_reducible refine Below.alloc ?_ (by first | exact Nat.le_refl _ | (simp; done) | (simp; omega)) _))) (hbb.mono (by first | omega | (simp; done) | (simp; omega))); clear hc hf hbb
    go_wp2_with fail
    refine forget_world (CmpSt w 0 1 0 1) ⟨(by repeat (first | with_reducible exact Below.refl _ _ | with_reducible assumption | with_reducible refine below_drewN' ?_ _ | (with_reducible refine Below.setCell ?_ (by first | (simp; done) | (simp; omega)) _) | (with_reducible refine Below.alloc ?_ (by first | exact Nat.le_refl _ | (simp; done) | (simp; omega)) _))), by first | (go_simp; done) | (simp; omega), by go_simp, by go_simp, by go_simp, by go_simp⟩ ?_
    clear c0 c1 c2 c3 f0 f1 f2 f3 hz hbA
    intro V hV
    have hV2 := hSt.out V hV
    clear hV hSt hA hB hC hD ha hb
    have J1 := wrap_neg_sgn C
    go_region_held3 (fun V => V.cell? ⟨w.heap.size, 0, none⟩ = some (.int .i64 A) ∧ V.cell? ⟨w.heap.size, 1, none⟩ = some (.int .i64 B) ∧ V.cell? ⟨w.heap.size + 1, 0, none⟩ = some (.int .i64 C) ∧ V.cell? ⟨w.heap.size + 1, 1, none⟩ = some (.int .i64 D) ∧ CmpSt w A B C D V) (first | exact (CmpSt.drew hV2).conj | exact CmpSt.conj (by assumption)) (first | (go_at_call 37; refine (r3_sign _ _).mono ?_; rintro e w' ⟨rfl, rfl⟩; have hst := ‹_ ∧ _ ∧ _ ∧ _ ∧ CmpSt _ _ _ _ _ _›.2.2.2.2) | (go_at_call 38; refine (r3_size _ _ (by omega) (by omega)).mono ?_; rintro e w' ⟨rfl, rfl⟩; have hst := ‹_ ∧ _ ∧ _ ∧ _ ∧ CmpSt _ _ _ _ _ _›.2.2.2.2) | (go_at_call 40; refine (r3_times_i _ _ _ ⟨by omega, by omega⟩ ⟨by omega, by omega⟩).mono ?_; rintro e w' ⟨gg, ff, rfl, hlt, hrow, hsm, hval, hbb⟩; have hst := CmpSt.step (‹_ ∧ _ ∧ _ ∧ _ ∧ CmpSt _ _ _ _ _ _›.2.2.2.2) hbb; have HVAL := Lib.hid hval; clear hval) | (go_at_call 39; refine Calls.mono (r3_sum_of A (-C) D B _ _ ?fx0 ?fy0 _ ?hx0 ?hy0 ?sx0 ?sy0 ?vx0 ?vy0 ⟨x1, x2⟩ ⟨by omega, by omega⟩ ⟨D1, y4⟩ ⟨B1, x4⟩) ?_; (case hx0 => first | assumption | exact RowW.step (by assumption) (by assumption)); (case hy0 => first | assumption | exact RowW.step (by assumption) (by assumption)); (case sx0 => assumption); (case sy0 => assumption); (case vx0 => assumption); (case vy0 => exact Lib.hid ((Hid.out HVAL).trans (by rw [Int.natAbs_natCast, Int.natAbs_neg]))); rintro e w' ⟨gg, ff, rfl, hrow, hsm, hval, hbb⟩; have hst := CmpSt.step (‹_ ∧ _ ∧ _ ∧ _ ∧ CmpSt _ _ _ _ _ _›.2.2.2.2) hbb; have HVAL := Lib.hid hval; clear hval))
    all_goals go_wp2_with fail
    all_goals go_ret
    all_goals exact ⟨ret_int HR.out.symm, (‹_ ∧ _ ∧ _ ∧ _ ∧ CmpSt _ _ _ _ _ _›.2.2.2.2).1⟩
  · have hSt : Hid (∀ V, CmpSt w 0 1 bn bd V → CmpSt w A B C D V) := by
      intro V hV
      rw [← hA.out, ← hB.out, ← hC.out, ← hD.out, (fix_no ha).1, (fix_no ha).2, (fix_yes hb).1, (fix_yes hb).2]
      exact hV
    go_enter Tryd.func16, Tryd.ntmps16
    go_wp2_with fail
    refine (r3_Valid _ _ _).mono ?_
    rintro e w' ⟨rfl, hbb⟩
    obtain ⟨hc, hf⟩ := bcell hbb
    have c0 : w'.cell? ⟨w.heap.size, 0, none⟩ = some (.int .i64 an) := (hc _ _ (by first | omega | (simp; done) | (simp; omega))).trans (by go_simp); have f0 : w'.frozen? ⟨w.heap.size, 0, none⟩ = false := (hf _ _ (by first | omega | (simp; done) | (simp; omega))).trans (by go_simp); have c1 : w'.cell? ⟨w.heap.size, 1, none⟩ = some (.int .i64 ad) := (hc _ _ (by first | omega | (simp; done) | (simp; omega))).trans (by go_simp); have f1 : w'.frozen? ⟨w.heap.size, 1, none⟩ = false := (hf _ _ (by first | omega | (simp; done) | (simp; omega))).trans (by go_simp); have c2 : w'.cell? ⟨w.heap.size + 1, 0, none⟩ = some (.int .i64 bn) := (hc _ _ (by first | omega | (simp; done) | (simp; omega))).trans (by go_simp); have f2 : w'.frozen? ⟨w.heap.size + 1, 0, none⟩ = false := (hf _ _ (by first | omega | (simp; done) | (simp; omega))).trans (by go_simp); have c3 : w'.cell? ⟨w.heap.size + 1, 1, none⟩ = some (.int .i64 bd) := (hc _ _ (by first | omega | (simp; done) | (simp; omega))).trans (by go_simp); have f3 : w'.frozen? ⟨w.heap.size + 1, 1, none⟩ = false := (hf _ _ (by first | omega | (simp; done) | (simp; omega))).trans (by go_simp); have hz : w.heap.size + 1 < w'.heap.size := (by have hs := hbb.size; first | omega | (simp at hs; done) | (simp at hs; omega)); have hbA : Below w.heap.size w w' := Below.trans (b := _) (by repeat (first | with_reducible exact Below.refl _ _ | with_reducible assumption | with_reducible refine below_drewN' ?_ _ | (with_reducible refine Below.setCell ?_ (by first | (simp; done) | (simp; omega)) _) | (with_reducible refine Below.alloc ?_ (by first | exact Nat.le_refl _ | (simp; done) | (simp; omega)) _))) (hbb.mono (by first | omega | (simp; done) | (simp; omega))); clear hc hf hbb
    go_wp2_with fail
    refine (r3_Valid _ _ _).mono ?_
    rintro e w' ⟨rfl, hbb⟩
    obtain ⟨hc, hf⟩ := bcell hbb
    have c0 : w'.cell? ⟨w.heap.size, 0, none⟩ = some (.int .i64 0) := (hc _ _ (by first | omega | (simp; done) | (simp; omega))).trans (by go_simp); have f0 : w'.frozen? ⟨w.heap.size, 0, none⟩ = false := (hf _ _ (by first | omega | (simp; done) | (simp; omega))).trans (by go_simp); have c1 : w'.cell? ⟨w.heap.size, 1, none⟩ = some (.int .i64 1) := (hc _ _ (by first | omega | (simp; done) | (simp; omega))).trans (by go_simp); have f1 : w'.frozen? ⟨w.heap.size, 1, none⟩ = false := (hf _ _ (by first | omega | (simp; done) | (simp; omega))).trans (by go_simp); have c2 : w'.cell? ⟨w.heap.size + 1, 0, none⟩ = some (.int .i64 bn) := (hc _ _ (by first | omega | (simp; done) | (simp; omega))).trans (by go_simp); have f2 : w'.frozen? ⟨w.heap.size + 1, 0, none⟩ = false := (hf _ _ (by first | omega | (simp; done) | (simp; omega))).trans (by go_simp); have c3 : w'.cell? ⟨w.heap.size + 1, 1, none⟩ = some (.int .i64 bd) := (hc _ _ (by first | omega | (simp; done) | (simp; omega))).trans (by go_simp); have f3 : w'.frozen? ⟨w.heap.size + 1, 1, none⟩ = false := (hf _ _ (by first | omega | (simp; done) | (simp; omega))).trans (by go_simp); have hz : w.heap.size + 1 < w'.heap.size := (by have hs := hbb.size; first | omega | (simp at hs; done) | (simp at hs; omega)); have hbA : Below w.heap.size w w' := Below.trans (b := _) (by repeat (first | with_reducible exact Below.refl _ _ | with_reducible assumption | with_reducible refine below_drewN' ?_ _ | (with_reducible refine Below.setCell ?_ (by first | (simp; done) | (simp; omega)) _) | (with_reducible refine Below.alloc ?_ (by first | exact Nat.le_refl _ | (simp; done) | (simp; omega)) _))) (hbb.mono (by first | omega | (simp; done) | (simp; omega))); clear hc hf hbb
    go_wp2_with fail
    refine forget_world (CmpSt w 0 1 bn bd) ⟨(by repeat (first | with_reducible exact Below.refl _ _ | with_reducible assumption | with_reducible refine below_drewN' ?_ _ | (with_reducible refine Below.setCell ?_ (by first | (simp; done) | (simp; omega)) _) | (with_reducible refine Below.alloc ?_ (by first | exact Nat.le_refl _ | (simp; done) | (simp; omega)) _))), by first | (go_simp; done) | (simp; omega), by go_simp, by go_simp, by go_simp, by go_simp⟩ ?_
    clear c0 c1 c2 c3 f0 f1 f2 f3 hz hbA
    intro V hV
    have hV2 := hSt.out V hV
    clear hV hSt hA hB hC hD ha hb
    have J1 := wrap_neg_sgn C
    go_region_held3 (fun V => V.cell? ⟨w.heap.size, 0, none⟩ = some (.int .i64 A) ∧ V.cell? ⟨w.heap.size, 1, none⟩ = some (.int .i64 B) ∧ V.cell? ⟨w.heap.size + 1, 0, none⟩ = some (.int .i64 C) ∧ V.cell? ⟨w.heap.size + 1, 1, none⟩ = some (.int .i64 D) ∧ CmpSt w A B C D V) (first | exact (CmpSt.drew hV2).conj | exact CmpSt.conj (by assumption)) (first | (go_at_call 37; refine (r3_sign _ _).mono ?_; rintro e w' ⟨rfl, rfl⟩; have hst := ‹_ ∧ _ ∧ _ ∧ _ ∧ CmpSt _ _ _ _ _ _›.2.2.2.2) | (go_at_call 38; refine (r3_size _ _ (by omega) (by omega)).mono ?_; rintro e w' ⟨rfl, rfl⟩; have hst := ‹_ ∧ _ ∧ _ ∧ _ ∧ CmpSt _ _ _ _ _ _›.2.2.2.2) | (go_at_call 40; refine (r3_times_i _ _ _ ⟨by omega, by omega⟩ ⟨by omega, by omega⟩).mono ?_; rintro e w' ⟨gg, ff, rfl, hlt, hrow, hsm, hval, hbb⟩; have hst := CmpSt.step (‹_ ∧ _ ∧ _ ∧ _ ∧ CmpSt _ _ _ _ _ _›.2.2.2.2) hbb; have HVAL := Lib.hid hval; clear hval) | (go_at_call 39; refine Calls.mono (r3_sum_of A (-C) D B _ _ ?fx1 ?fy1 _ ?hx1 ?hy1 ?sx1 ?sy1 ?vx1 ?vy1 ⟨x1, x2⟩ ⟨by omega, by omega⟩ ⟨D1, y4⟩ ⟨B1, x4⟩) ?_; (case hx1 => first | assumption | exact RowW.step (by assumption) (by assumption)); (case hy1 => first | assumption | exact RowW.step (by assumption) (by assumption)); (case sx1 => assumption); (case sy1 => assumption); (case vx1 => assumption); (case vy1 => exact Lib.hid ((Hid.out HVAL).trans (by rw [Int.natAbs_natCast, Int.natAbs_neg]))); rintro e w' ⟨gg, ff, rfl, hrow, hsm, hval, hbb⟩; have hst := CmpSt.step (‹_ ∧ _ ∧ _ ∧ _ ∧ CmpSt _ _ _ _ _ _›.2.2.2.2) hbb; have HVAL := Lib.hid hval; clear hval))
    all_goals go_wp2_with fail
    all_goals go_ret
    all_goals exact ⟨ret_int HR.out.symm, (‹_ ∧ _ ∧ _ ∧ _ ∧ CmpSt _ _ _ _ _ _›.2.2.2.2).1⟩
  · have hSt : Hid (∀ V, CmpSt w an ad 0 1 V → CmpSt w A B C D V) := by
      intro V hV
      rw [← hA.out, ← hB.out, ← hC.out, ← hD.out, (fix_yes ha).1, (fix_yes ha).2, (fix_no hb).1, (fix_no hb).2]
      exact hV
    go_enter Tryd.func16, Tryd.ntmps16
    go_wp2_with fail
    refine (r3_Valid _ _ _).mono ?_
    rintro e w' ⟨rfl, hbb⟩
    obtain ⟨hc, hf⟩ := bcell hbb
    have c0 : w'.cell? ⟨w.heap.size, 0, none⟩ = some (.int .i64 an) := (hc _ _ (by first | omega | (simp; done) | (simp; omega))).trans (by go_simp); have f0 : w'.frozen? ⟨w.heap.size, 0, none⟩ = false := (hf _ _ (by first | omega | (simp; done) | (simp; omega))).trans (by go_simp); have c1 : w'.cell? ⟨w.heap.size, 1, none⟩ = some (.int .i64 ad) := (hc _ _ (by first | omega | (simp; done) | (simp; omega))).trans (by go_simp); have f1 : w'.frozen? ⟨w.heap.size, 1, none⟩ = false := (hf _ _ (by first | omega | (simp; done) | (simp; omega))).trans (by go_simp); have c2 : w'.cell? ⟨w.heap.size + 1, 0, none⟩ = some (.int .i64 bn) := (hc _ _ (by first | omega | (simp; done) | (simp; omega))).trans (by go_simp); have f2 : w'.frozen? ⟨w.heap.size + 1, 0, none⟩ = false := (hf _ _ (by first | omega | (simp; done) | (simp; omega))).trans (by go_simp); have c3 : w'.cell? ⟨w.heap.size + 1, 1, none⟩ = some (.int .i64 bd) := (hc _ _ (by first | omega | (simp; done) | (simp; omega))).trans (by go_simp); have f3 : w'.frozen? ⟨w.heap.size + 1, 1, none⟩ = false := (hf _ _ (by first | omega | (simp; done) | (simp; omega))).trans (by go_simp); have hz : w.heap.size + 1 < w'.heap.size := (by have hs := hbb.size; first | omega | (simp at hs; done) | (simp at hs; omega)); have hbA : Below w.heap.size w w' := Below.trans (b := _) (by repeat (first | with_reducible exact Below.refl _ _ | with_reducible assumption | with_reducible refine below_drewN' ?_ _ | (with_reducible refine Below.setCell ?_ (by first | (simp; done) | (simp; omega)) _) | (with_reducible refine Below.alloc ?_ (by first | exact Nat.le_refl _ | (simp; done) | (simp; omega)) _))) (hbb.mono (by first | omega | (simp; done) | (simp; omega))); clear hc hf hbb
    go_wp2_with fail
    refine (r3_Valid _ _ _).mono ?_
    rintro e w' ⟨rfl, hbb⟩
    obtain ⟨hc, hf⟩ := bcell hbb
    have c0 : w'.cell? ⟨w.heap.size, 0, none⟩ = some (.int .i64 an) := (hc _ _ (by first | omega | (simp; done) | (simp; omega))).trans (by go_simp); have f0 : w'.frozen? ⟨w.heap.size, 0, none⟩ = false := (hf _ _ (by first | omega | (simp; done) | (simp; omega))).trans (by go_simp); have c1 : w'.cell? ⟨w.heap.size, 1, none⟩ = some (.int .i64 ad) := (hc _ _ (by first | omega | (simp; done) | (simp; omega))).trans (by go_simp); have f1 : w'.frozen? ⟨w.heap.size, 1, none⟩ = false := (hf _ _ (by first | omega | (simp; done) | (simp; omega))).trans (by go_simp); have c2 : w'.cell? ⟨w.heap.size + 1, 0, none⟩ = some (.int .i64 bn) := (hc _ _ (by first | omega | (simp; done) | (simp; omega))).trans (by go_simp); have f2 : w'.frozen? ⟨w.heap.size + 1, 0, none⟩ = false := (hf _ _ (by first | omega | (simp; done) | (simp; omega))).trans (by go_simp); have c3 : w'.cell? ⟨w.heap.size + 1, 1, none⟩ = some (.int .i64 bd) := (hc _ _ (by first | omega | (simp; done) | (simp; omega))).trans (by go_simp); have f3 : w'.frozen? ⟨w.heap.size + 1, 1, none⟩ = false := (hf _ _ (by first | omega | (simp; done) | (simp; omega))).trans (by go_simp); have hz : w.heap.size + 1 < w'.heap.size := (by have hs := hbb.size; first | omega | (simp at hs; done) | (simp at hs; omega)); have hbA : Below w.heap.size w w' := Below.trans (b := _) (by repeat (first | with_reducible exact Below.refl _ _ | with_reducible assumption | with_reducible refine below_drewN' ?_ _ | (with_reducible refine Below.setCell ?_ (by first | (simp; done) | (simp; omega)) _) | (with_reducible refine Below.alloc ?_ (by first | exact Nat.le_refl _ | (simp; done) | (simp; omega)) _))) (hbb.mono (by first | omega | (simp; done) | (simp; omega))); clear hc hf hbb
    go_wp2_with fail
    refine forget_world (CmpSt w an ad 0 1) ⟨(by repeat (first | with_reducible exact Below.refl _ _ | with_reducible assumption | with_reducible refine below_drewN' ?_ _ | (with_reducible refine Below.setCell ?_ (by first | (simp; done) | (simp; omega)) _) | (with_reducible refine Below.alloc ?_ (by first | exact Nat.le_refl _ | (simp; done) | (simp; omega)) _))), by first | (go_simp; done) | (simp; omega), by go_simp, by go_simp, by go_simp, by go_simp⟩ ?_
    clear c0 c1 c2 c3 f0 f1 f2 f3 hz hbA
    intro V hV
    have hV2 := hSt.out V hV
    clear hV hSt hA hB hC hD ha hb
    have J1 := wrap_neg_sgn C
    go_region_held3 (fun V => V.cell? ⟨w.heap.size, 0, none⟩ = some (.int .i64 A) ∧ V.cell? ⟨w.heap.size, 1, none⟩ = some (.int .i64 B) ∧ V.cell? ⟨w.heap.size + 1, 0, none⟩ = some (.int .i64 C) ∧ V.cell? ⟨w.heap.size + 1, 1, none⟩ = some (.int .i64 D) ∧ CmpSt w A B C D V) (first | exact (CmpSt.drew hV2).conj | exact CmpSt.conj (by assumption)) (first | (go_at_call 37; refine (r3_sign _ _).mono ?_; rintro e w' ⟨rfl, rfl⟩; have hst := ‹_ ∧ _ ∧ _ ∧ _ ∧ CmpSt _ _ _ _ _ _›.2.2.2.2) | (go_at_call 38; refine (r3_size _ _ (by omega) (by omega)).mono ?_; rintro e w' ⟨rfl, rfl⟩; have hst := ‹_ ∧ _ ∧ _ ∧ _ ∧ CmpSt _ _ _ _ _ _›.2.2.2.2) | (go_at_call 40; refine (r3_times_i _ _ _ ⟨by omega, by omega⟩ ⟨by omega, by omega⟩).mono ?_; rintro e w' ⟨gg, ff, rfl, hlt, hrow, hsm, hval, hbb⟩; have hst := CmpSt.step (‹_ ∧ _ ∧ _ ∧ _ ∧ CmpSt _ _ _ _ _ _›.2.2.2.2) hbb; have HVAL := Lib.hid hval; clear hval) | (go_at_call 39; refine Calls.mono (r3_sum_of A (-C) D B _ _ ?fx2 ?fy2 _ ?hx2 ?hy2 ?sx2 ?sy2 ?vx2 ?vy2 ⟨x1, x2⟩ ⟨by omega, by omega⟩ ⟨D1, y4⟩ ⟨B1, x4⟩) ?_; (case hx2 => first | assumption | exact RowW.step (by assumption) (by assumption)); (case hy2 => first | assumption | exact RowW.step (by assumption) (by assumption)); (case sx2 => assumption); (case sy2 => assumption); (case vx2 => assumption); (case vy2 => exact Lib.hid ((Hid.out HVAL).trans (by rw [Int.natAbs_natCast, Int.natAbs_neg]))); rintro e w' ⟨gg, ff, rfl, hrow, hsm, hval, hbb⟩; have hst := CmpSt.step (‹_ ∧ _ ∧ _ ∧ _ ∧ CmpSt _ _ _ _ _ _›.2.2.2.2) hbb; have HVAL := Lib.hid hval; clear hval))
    all_goals go_wp2_with fail
    all_goals go_ret
    all_goals exact ⟨ret_int HR.out.symm, (‹_ ∧ _ ∧ _ ∧ _ ∧ CmpSt _ _ _ _ _ _›.2.2.2.2).1⟩
  · have hSt : Hid (∀ V, CmpSt w an ad bn bd V → CmpSt w A B C D V) := by
      intro V hV
      rw [← hA.out, ← hB.out, ← hC.out, ← hD.out, (fix_yes ha).1, (fix_yes ha).2, (fix_yes hb).1, (fix_yes hb).2]
      exact hV
    go_enter Tryd.func16, Tryd.ntmps16
    go_wp2_with fail
    refine (r3_Valid _ _ _).mono ?_
    rintro e w' ⟨rfl, hbb⟩
    obtain ⟨hc, hf⟩ := bcell hbb
    have c0 : w'.cell? ⟨w.heap.size, 0, none⟩ = some (.int .i64 an) := (hc _ _ (by first | omega | (simp; done) | (simp; omega))).trans (by go_simp); have f0 : w'.frozen? ⟨w.heap.size, 0, none⟩ = false := (hf _ _ (by first | omega | (simp; done) | (simp; omega))).trans (by go_simp); have c1 : w'.cell? ⟨w.heap.size, 1, none⟩ = some (.int .i64 ad) := (hc _ _ (by first | omega | (simp; done) | (simp; omega))).trans (by go_simp); have f1 : w'.frozen? ⟨w.heap.size, 1, none⟩ = false := (hf _ _ (by first | omega | (simp; done) | (simp; omega))).trans (by go_simp); have c2 : w'.cell? ⟨w.heap.size + 1, 0, none⟩ = some (.int .i64 bn) := (hc _ _ (by first | omega | (simp; done) | (simp; omega))).trans (by go_simp); have f2 : w'.frozen? ⟨w.heap.size + 1, 0, none⟩ = false := (hf _ _ (by first | omega | (simp; done) | (simp; omega))).trans (by go_simp); have c3 : w'.cell? ⟨w.heap.size + 1, 1, none⟩ = some (.int .i64 bd) := (hc _ _ (by first | omega | (simp; done) | (simp; omega))).trans (by go_simp); have f3 : w'.frozen? ⟨w.heap.size + 1, 1, none⟩ = false := (hf _ _ (by first | omega | (simp; done) | (simp; omega))).trans (by go_simp); have hz : w.heap.size + 1 < w'.heap.size := (by have hs := hbb.size; first | omega | (simp at hs; done) | (simp at hs; omega)); have hbA : Below w.heap.size w w' := Below.trans (b := _) (by repeat (first | with_reducible exact Below.refl _ _ | with_reducible assumption | with_reducible refine below_drewN' ?_ _ | (with_reducible refine Below.setCell ?_ (by first | (simp; done) | (simp; omega)) _) | (with_reducible refine Below.alloc ?_ (by first | exact Nat.le_refl _ | (simp; done) | (simp; omega)) _))) (hbb.mono (by first | omega | (simp; done) | (simp; omega))); clear hc hf hbb
    go_wp2_with fail
    refine (r3_Valid _ _ _).mono ?_
    rintro e w' ⟨rfl, hbb⟩
    obtain ⟨hc, hf⟩ := bcell hbb
    have c0 : w'.cell? ⟨w.heap.size, 0, none⟩ = some (.int .i64 an) := (hc _ _ (by first | omega | (simp; done) | (simp; omega))).trans (by go_simp); have f0 : w'.frozen? ⟨w.heap.size, 0, none⟩ = false := (hf _ _ (by first | omega | (simp; done) | (simp; omega))).trans (by go_simp); have c1 : w'.cell? ⟨w.heap.size, 1, none⟩ = some (.int .i64 ad) := (hc _ _ (by first | omega | (simp; done) | (simp; omega))).trans (by go_simp); have f1 : w'.frozen? ⟨w.heap.size, 1, none⟩ = false := (hf _ _ (by first | omega | (simp; done) | (simp; omega))).trans (by go_simp); have c2 : w'.cell? ⟨w.heap.size + 1, 0, none⟩ = some (.int .i64 bn) := (hc _ _ (by first | omega | (simp; done) | (simp; omega))).trans (by go_simp); have f2 : w'.frozen? ⟨w.heap.size + 1, 0, none⟩ = false := (hf _ _ (by first | omega | (simp; done) | (simp; omega))).trans (by go_simp); have c3 : w'.cell? ⟨w.heap.size + 1, 1, none⟩ = some (.int .i64 bd) := (hc _ _ (by first | omega | (simp; done) | (simp; omega))).trans (by go_simp); have f3 : w'.frozen? ⟨w.heap.size + 1, 1, none⟩ = false := (hf _ _ (by first | omega | (simp; done) | (simp; omega))).trans (by go_simp); have hz : w.heap.size + 1 < w'.heap.size := (by have hs := hbb.size; first | omega | (simp at hs; done) | (simp at hs; omega)); have hbA : Below w.heap.size w w' := Below.trans (b := _) (by repeat (first | with_reducible exact Below.refl _ _ | with_reducible assumption | with_reducible refine below_drewN' ?_ _ | (with_reducible refine Below.setCell ?_ (by first | (simp; done) | (simp; omega)) _) | (with_reducible refine Below.alloc ?_ (by first | exact Nat.le_refl _ | (simp; done) | (simp; omega)) _))) (hbb.mono (by first | omega | (simp; done) | (simp; omega))); clear hc hf hbb
    go_wp2_with fail
    refine forget_world (CmpSt w an ad bn bd) ⟨(by repeat (first | with_reducible exact Below.refl _ _ | with_reducible assumption | with_reducible refine below_drewN' ?_ _ | (with_reducible refine Below.setCell ?_ (by first | (simp; done) | (simp; omega)) _) | (with_reducible refine Below.alloc ?_ (by first | exact Nat.le_refl _ | (simp; done) | (simp; omega)) _))), by first | (go_simp; done) | (simp; omega), by go_simp, by go_simp, by go_simp, by go_simp⟩ ?_
    clear c0 c1 c2 c3 f0 f1 f2 f3 hz hbA
    intro V hV
    have hV2 := hSt.out V hV
    clear hV hSt hA hB hC hD ha hb
    have J1 := wrap_neg_sgn C
    go_region_held3 (fun V => V.cell? ⟨w.heap.size, 0, none⟩ = some (.int .i64 A) ∧ V.cell? ⟨w.heap.size, 1, none⟩ = some (.int .i64 B) ∧ V.cell? ⟨w.heap.size + 1, 0, none⟩ = some (.int .i64 C) ∧ V.cell? ⟨w.heap.size + 1, 1, none⟩ = some (.int .i64 D) ∧ CmpSt w A B C D V) (first | exact (CmpSt.drew hV2).conj | exact CmpSt.conj (by assumption)) (first | (go_at_call 37; refine (r3_sign _ _).mono ?_; rintro e w' ⟨rfl, rfl⟩; have hst := ‹_ ∧ _ ∧ _ ∧ _ ∧ CmpSt _ _ _ _ _ _›.2.2.2.2) | (go_at_call 38; refine (r3_size _ _ (by omega) (by omega)).mono ?_; rintro e w' ⟨rfl, rfl⟩; have hst := ‹_ ∧ _ ∧ _ ∧ _ ∧ CmpSt _ _ _ _ _ _›.2.2.2.2) | (go_at_call 40; refine (r3_times_i _ _ _ ⟨by omega, by omega⟩ ⟨by omega, by omega⟩).mono ?_; rintro e w' ⟨gg, ff, rfl, hlt, hrow, hsm, hval, hbb⟩; have hst := CmpSt.step (‹_ ∧ _ ∧ _ ∧ _ ∧ CmpSt _ _ _ _ _ _›.2.2.2.2) hbb; have HVAL := Lib.hid hval; clear hval) | (go_at_call 39; refine Calls.mono (r3_sum_of A (-C) D B _ _ ?fx3 ?fy3 _ ?hx3 ?hy3 ?sx3 ?sy3 ?vx3 ?vy3 ⟨x1, x2⟩ ⟨by omega, by omega⟩ ⟨D1, y4⟩ ⟨B1, x4⟩) ?_; (case hx3 => first | assumption | exact RowW.step (by assumption) (by assumption)); (case hy3 => first | assumption | exact RowW.step (by assumption) (by assumption)); (case sx3 => assumption); (case sy3 => assumption); (case vx3 => assumption); (case vy3 => exact Lib.hid ((Hid.out HVAL).trans (by rw [Int.natAbs_natCast, Int.natAbs_neg]))); rintro e w' ⟨gg, ff, rfl, hrow, hsm, hval, hbb⟩; have hst := CmpSt.step (‹_ ∧ _ ∧ _ ∧ _ ∧ CmpSt _ _ _ _ _ _›.2.2.2.2) hbb; have HVAL := Lib.hid hval; clear hval))
    all_goals go_wp2_with fail
    all_goals go_ret
    all_goals exact ⟨ret_int HR.out.symm, (‹_ ∧ _ ∧ _ ∧ _ ∧ CmpSt _ _ _ _ _ _›.2.2.2.2).1⟩
end Go.Proofs.YtlkpmbkmmfoakaaDoor

/- THE WALKS over the reference's Div, Cmp. -/
namespace Go.Proofs.YtlkpmbkmmfoakaaDoor
open Go.RowKit
theorem sgn_mul_wrap {bn bd : Int} (h : 1 ≤ bd ∧ bd ≤ 1000000000000000) : IntKind.i64.wrap (sgn bn * bd) = sgn bn * bd := by
  rcases sgn_casesT bn with h1 | h1 | h1 <;> rw [h1] <;> exact IntWalk.i64_in _ ⟨by omega, by omega⟩
set_option maxRecDepth 100000 in
set_option maxHeartbeats 3200000 in
theorem r3_Div (an ad bn bd : Int) (w : World) :
    Calls Tryd.prog 15 #[.agg #[.int .i64 an, .int .i64 ad], .agg #[.int .i64 bn, .int .i64 bd]] w (FracIs (divS an ad bn bd) w) := by
  have st0 := Lib.hid (RAddSt.start (w := w) (an := an) (ad := ad) (bn := bn) (bd := bd))
  cases hb : validB bn bd
  · have HO : Hid (divS an ad bn bd = (0, 0, false)) := by show _ = _; unfold divS; rw [hb]; rfl
    go_enter Tryd.func15, Tryd.ntmps15
    go_wp2_with fail
    refine (r3_Valid _ _ _).mono ?_
    rintro e w1 ⟨rfl, hb1⟩
    have st1 := Lib.hid (st0.out.step hb1)
    clear hb1
    obtain ⟨-, -, z2, z3, z4, z5, ⟨z6, z7⟩, z8, z9⟩ := st1.out
    go_wp2_with fail
    refine bodyPost_ret (v := .tuple #[.agg #[.int .i64 0, .int .i64 0], .bool false]) (by simp [results, Tryd.results15, go_sem, z6, z8]) rfl ?_
    rw [HO.out]
    have hbb := st1.out.1
    exact ⟨rfl, (by repeat (first | with_reducible exact Below.refl _ _ | with_reducible assumption | with_reducible refine below_drewN' ?_ _ | (with_reducible refine Below.setCell ?_ (by first | (simp; done) | (simp; omega)) _) | (with_reducible refine Below.alloc ?_ (by first | exact Nat.le_refl _ | (simp; done) | (simp; omega)) _)))⟩
  · obtain ⟨b1, b2, ⟨b3, b4⟩, -⟩ := validB_iff.1 hb
    by_cases h0 : bn = 0
    · have HO : Hid (divS an ad bn bd = (0, 0, false)) := by show _ = _; unfold divS; rw [hb, h0]; rfl
      have h1 : (bn == 0) = true := beq_iff_eq.2 h0
      clear h0
      go_enter Tryd.func15, Tryd.ntmps15
      go_wp2_with fail
      refine (r3_Valid _ _ _).mono ?_
      rintro e w1 ⟨rfl, hb1⟩
      have st1 := Lib.hid (st0.out.step hb1)
      clear hb1
      obtain ⟨-, -, z2, z3, z4, z5, ⟨z6, z7⟩, z8, z9⟩ := st1.out
      go_wp2_with fail
      refine bodyPost_ret (v := .tuple #[.agg #[.int .i64 0, .int .i64 0], .bool false]) (by simp [results, Tryd.results15, go_sem, z6, z8]) rfl ?_
      rw [HO.out]
      have hbb := st1.out.1
      exact ⟨rfl, (by repeat (first | with_reducible exact Below.refl _ _ | with_reducible assumption | with_reducible refine below_drewN' ?_ _ | (with_reducible refine Below.setCell ?_ (by first | (simp; done) | (simp; omega)) _) | (with_reducible refine Below.alloc ?_ (by first | exact Nat.le_refl _ | (simp; done) | (simp; omega)) _)))⟩
    · have h1 : (bn == 0) = false := beq_eq_false_iff_ne.2 h0
      have HO : Hid (divS an ad bn bd = mulS an ad (sgn bn * bd) bn.natAbs) := by
        show _ = _
        unfold divS
        rw [hb, bne_iff_ne.2 h0]
        simp only [Bool.and_self, if_true]
        unfold sgn
        by_cases hn : bn < 0
        · rw [if_pos hn, if_pos hn, show ((bn.natAbs : Nat) : Int) = -bn from by omega, Int.neg_one_mul]
        · rw [if_neg hn, if_neg hn, if_pos (by omega), show ((bn.natAbs : Nat) : Int) = bn from by omega, Int.one_mul]
      have J := sgn_mul_wrap (bn := bn) ⟨b1, b2⟩
      obtain ⟨⟨x, y, r⟩, hR⟩ : ∃ r, Hid (mulS an ad (sgn bn * bd) bn.natAbs = r) := ⟨_, rfl⟩
      rw [hR.out] at HO
      have HM := Lib.hid (fun w => r3_Mul an ad (sgn bn * bd) bn.natAbs w)
      rw [hR.out] at HM
      clear h0
      go_enter Tryd.func15, Tryd.ntmps15
      go_wp2_with fail
      refine (r3_Valid _ _ _).mono ?_
      rintro e w1 ⟨rfl, hb1⟩
      have st1 := Lib.hid (st0.out.step hb1)
      clear hb1
      obtain ⟨z0, z1, z2, z3, z4, z5, -⟩ := st1.out
      go_wp2_with fail
      go_region_held3 (fun V => V.cell? ⟨w.heap.size, 0, none⟩ = some (.int .i64 an) ∧ V.cell? ⟨w.heap.size, 1, none⟩ = some (.int .i64 ad) ∧ V.cell? ⟨w.heap.size + 1, 0, none⟩ = some (.int .i64 bn) ∧ V.cell? ⟨w.heap.size + 1, 1, none⟩ = some (.int .i64 bd) ∧ (Below w.heap.size w V ∧ w.heap.size + 1 + 1 < V.heap.size)) (first | exact ⟨z2, z3, z4, z5, below_drew' z0, z1⟩ | exact ⟨by go_simp, by go_simp, by go_simp, by go_simp, (by repeat (first | with_reducible exact Below.refl _ _ | with_reducible assumption | with_reducible refine below_drewN' ?_ _ | (with_reducible refine Below.setCell ?_ (by first | (simp; done) | (simp; omega)) _) | (with_reducible refine Below.alloc ?_ (by first | exact Nat.le_refl _ | (simp; done) | (simp; omega)) _))), by simpa⟩) (first | (go_at_call 37; refine (r3_sign _ _).mono ?_; rintro e w' ⟨rfl, rfl⟩) | (go_at_call 38; refine (r3_size _ _ (by omega) (by omega)).mono ?_; rintro e w' ⟨rfl, rfl⟩) | (go_at_call 36; refine (HM.out _).mono ?_; rintro e w' ⟨rfl, hbb⟩; obtain ⟨y0, y1, y2, y3, y4, y5, ⟨y6, y7⟩, y8, y9⟩ := RAddSt.step (RAddSt.drew st1.out) hbb))
      all_goals go_wp2_with fail
      all_goals refine bodyPost_ret (v := .tuple #[.agg #[.int .i64 x, .int .i64 y], .bool r]) (by simp [results, Tryd.results15, go_sem, y6, y8]) rfl ?_
      all_goals rw [HO.out]
      all_goals exact ⟨rfl, (by repeat (first | with_reducible exact Below.refl _ _ | with_reducible assumption | with_reducible refine below_drewN' ?_ _ | (with_reducible refine Below.setCell ?_ (by first | (simp; done) | (simp; omega)) _) | (with_reducible refine Below.alloc ?_ (by first | exact Nat.le_refl _ | (simp; done) | (simp; omega)) _)))⟩
end Go.Proofs.YtlkpmbkmmfoakaaDoor

/- MAPS THAT A CALL OWNS, element by element, elements of any type: what lies at each key. -/
namespace Go.Proofs.YtlkpmbkmmfoakaaDoor
open Go.RowKit Go.ChangeMaps
open Go.Maps (Keyed has IsMap)
/-- block b is a map of at most n entries; g: what lies at each key -/
def MapOf (P : Program) (k : TypeId) (w : World) (b n : Nat) (g : Lit → Option Value) : Prop :=
  ∃ D : DataW Value, w.ownsMap P k (fun v => some (.held v, [])) b n D ∧ IsMap D ∧ ∀ kl, match g kl with
    | none => has D kl = false
    | some v => has D kl = true ∧ ∀ z, D.atKey kl z = .held v
section
variable {P : Program} {k e t : TypeId} {w w' : World} {b n : Nat} {g : Lit → Option Value}
theorem MapOf.made (P : Program) (k : TypeId) (w : World) : MapOf P k (w.alloc (.map #[] 0)) w.heap.size 0 (fun _ => none) :=
  ⟨.map [], World.ownsMap_made w P k _, Maps.isMap_empty, fun _ => rfl⟩
theorem MapOf.lt (h : MapOf P k w b n g) : b < w.heap.size := let ⟨_, h1, _⟩ := h; h1.lt
theorem MapOf.grown {row : Option Nat} (h : MapOf P k w b n g) (hg : w.grownBy w' row) (hne : some b ≠ row) : MapOf P k w' b n g :=
  let ⟨D, h1, h2, h3⟩ := h
  ⟨D, h1.kept hg hne, h2, h3⟩
theorem MapOf.ext (h : MapOf P k w b n g) (x : Ext w w') : MapOf P k w' b n g :=
  h.grown (row := none) ⟨x.os, x.tape, x.output, x.size, fun i hi _ => x.block i hi⟩ (by simp)
theorem MapOf.mono {n' : Nat} (h : MapOf P k w b n g) (hn : n ≤ n') : MapOf P k w b n' g :=
  let ⟨D, h1, h2, h3⟩ := h
  ⟨D, h1.mono hn, h2, h3⟩
theorem MapOf.look (h : MapOf P k w b n g) (K : Keyed P k) (ht : P.underlying t = some (.map k e)) {z : Value} (hz : (zeroValue e).run P w = .ok z w) {key : Value} {kl : Lit} (hkey : keyOf P k key = some kl) :
    (Instr.lookup t (.map (some b)) key false).run P w = .ok ((g kl).getD z) w := by
  obtain ⟨D, h1, h2, h3⟩ := h
  obtain ⟨v, ps, hrun, hR⟩ := h1.lookup K ht hz (zd := .held z) (zp := []) rfl hkey
  rw [hrun]
  have h4 := h3 kl
  injection hR with hR
  rw [Prod.mk.injEq] at hR
  cases hg : g kl with
  | none =>
    rw [hg] at h4
    rw [Maps.atKey_of_not_has h4] at hR
    injection hR.1 with e1
    rw [e1]; rfl
  | some u =>
    rw [hg] at h4
    rw [h4.2] at hR
    injection hR.1 with e1
    rw [e1]; rfl
open Classical in
noncomputable def putM (g : Lit → Option Value) (kl : Lit) (v : Value) : Lit → Option Value := fun x => if x = kl then some v else g x
theorem putM_same (g : Lit → Option Value) (kl : Lit) (v : Value) : putM g kl v kl = some v := by unfold putM; rw [if_pos rfl]
theorem putM_other (g : Lit → Option Value) {kl x : Lit} (v : Value) (h : x ≠ kl) : putM g kl v x = g x := by unfold putM; rw [if_neg h]
theorem MapOf.put (h : MapOf P k w b n g) (K : Keyed P k) (ht : P.underlying t = some (.map k e)) (hn : n < maxLen) {key : Value} {kl : Lit} (hkey : keyOf P k key = some kl) (val : Value) :
    ∃ w', (Instr.mapUpdate t (.map (some b)) key val).run P w = .ok () w' ∧ MapOf P k w' b (n + 1) (putM g kl val) ∧ w.grownBy w' (some b) := by
  obtain ⟨D, h1, h2, h3⟩ := h
  obtain ⟨w', r0, r1, r2⟩ := h1.update K ht hn hkey (val := val) (d := .held val) (ps := []) rfl
  refine ⟨w', r0, ⟨_, r1, h2.put _ _, fun x => ?_⟩, r2⟩
  by_cases hx : x = kl
  · subst hx
    rw [putM_same]
    exact ⟨Maps.has_put_same h2 (K.key hkey) _, fun z => Maps.atKey_put_same h2 (K.key hkey) _ z⟩
  · rw [putM_other _ _ hx]
    have h4 := h3 x
    cases hg : g x with
    | none => rw [hg] at h4; exact (Maps.has_put_other hx _).trans h4
    | some u => rw [hg] at h4; exact ⟨(Maps.has_put_other hx _).trans h4.1, fun z => (Maps.atKey_put_other hx _ z).trans (h4.2 z)⟩
end
theorem wpList_put {P : Program} {w : World} {ops : Array Oper} {rest : List Oper} {o : Oper} {a : Act} {Q : Exit → Act → World → Prop} (hg : o.guard = none) (m x v : Operand) (t : TypeId) (hop : o.op = Op.mapUpdate t m x v)
    {k e : TypeId} (K : Keyed P k) (ht : P.underlying t = some (.map k e)) (b n : Nat) (g : Lit → Option Value) (hm : a.eval m = .map (some b)) (hown : MapOf P k w b n g) (hn : n < maxLen) (key val : Value) (kl : Lit) (hx : a.eval x = key) (hv : a.eval v = val) (hkey : keyOf P k key = some kl)
    (hK : ∀ w', MapOf P k w' b (n + 1) (putM g kl val) → w.grownBy w' (some b) → wpList P ops Q rest (a.put o.dst undef) w') : wpList P ops Q (o :: rest) a w := by
  refine wpList_plain hg fun K' hK' => ?_
  obtain ⟨w', hrun, r1, r2⟩ := hown.put K ht hn hkey val
  unfold Oper.wp
  simp [execOp, hop, hm, hx, hv, hrun, Result.andThen]
  exact hK' _ _ (hK w' r1 r2)
theorem wpList_look {P : Program} {w : World} {ops : Array Oper} {rest : List Oper} {o : Oper} {a : Act} {Q : Exit → Act → World → Prop} (hg : o.guard = none) (m x : Operand) (t : TypeId) (hop : o.op = Op.lookup t m x false)
    {k e : TypeId} (K : Keyed P k) (ht : P.underlying t = some (.map k e)) {z : Value} (hz : (zeroValue e).run P w = .ok z w) (b n : Nat) (g : Lit → Option Value) (hm : a.eval m = .map (some b)) (hown : MapOf P k w b n g) (key : Value) (kl : Lit) (hx : a.eval x = key) (hkey : keyOf P k key = some kl)
    (hK : wpList P ops Q rest (a.put o.dst ((g kl).getD z)) w) : wpList P ops Q (o :: rest) a w := by
  refine wpList_plain hg fun K' hK' => ?_
  have hrun := hown.look K ht hz hkey
  unfold Oper.wp
  simp [execOp, hop, hm, hx, hrun, Result.andThen]
  exact hK' _ _ hK
/-- a store into a map as a step of a drawn region -/
theorem step_put {P : Program} {ops : Array Oper} {o : Oper} {a : Act} {w : World} {K' : Act → World → Prop} {Q : Exit → Act → World → Prop} {E : Prop} (hg : o.guard = none) (m x v : Operand) (t : TypeId) (hop : o.op = Op.mapUpdate t m x v)
    {k e : TypeId} (K : Keyed P k) (ht : P.underlying t = some (.map k e)) (b n : Nat) (g : Lit → Option Value) (hm : a.eval m = .map (some b)) (hown : MapOf P k w b n g) (hn : n < maxLen) (key val : Value) (kl : Lit) (hx : a.eval x = key) (hv : a.eval v = val) (hkey : keyOf P k key = some kl)
    (hK : ∀ w', MapOf P k w' b (n + 1) (putM g kl val) → w.grownBy w' (some b) → K' (a.put o.dst undef) w') : if Region.wanted o (yielded ops a.tmps) = true then Oper.wp P o a w K' Q else E := by
  rw [if_pos (by unfold Region.wanted; rw [hg])]
  obtain ⟨w', hrun, r1, r2⟩ := hown.put K ht hn hkey val
  unfold Oper.wp
  simp [execOp, hop, hm, hx, hv, hrun, Result.andThen]
  exact hK w' r1 r2
end Go.Proofs.YtlkpmbkmmfoakaaDoor

/- SHARES: plain and in memory; the walks over the small functions of rank. -/
namespace Go.Proofs.YtlkpmbkmmfoakaaDoor
open Go.RowKit
structure Sh where
  id : Int
  n : Int
  d : Int
deriving DecidableEq
instance : Inhabited Sh := ⟨⟨0, 0, 0⟩⟩
abbrev Fr := Int × Int
def addO (a b : Fr) : Option Fr := if (addS a.1 a.2 b.1 b.2).2.2 then some ((addS a.1 a.2 b.1 b.2).1, (addS a.1 a.2 b.1 b.2).2.1) else none
def subO (a b : Fr) : Option Fr := if (subS a.1 a.2 b.1 b.2).2.2 then some ((subS a.1 a.2 b.1 b.2).1, (subS a.1 a.2 b.1 b.2).2.1) else none
def mulO (a b : Fr) : Option Fr := if (mulS a.1 a.2 b.1 b.2).2.2 then some ((mulS a.1 a.2 b.1 b.2).1, (mulS a.1 a.2 b.1 b.2).2.1) else none
def divO (a b : Fr) : Option Fr := if (divS a.1 a.2 b.1 b.2).2.2 then some ((divS a.1 a.2 b.1 b.2).1, (divS a.1 a.2 b.1 b.2).2.1) else none
/-- what the calculator gives: 0 where there is no result -/
def orZ (o : Option Fr) : Fr := o.getD (0, 1)
theorem orZ_some (f : Fr) : orZ (some f) = f := rfl
def ShC (w : World) (ok : Nat → Prop) (b o : Nat) (s : Sh) : Prop := ok b ∧ w.cell? ⟨b, o, none⟩ = some (.int .i64 s.id) ∧ w.cell? ⟨b, o + 1, none⟩ = some (.int .i64 s.n) ∧ w.cell? ⟨b, o + 2, none⟩ = some (.int .i64 s.d)
def Shares (w : World) (ok : Nat → Prop) (A : Option Addr) (l : List Sh) : Prop := SliceR (ShC w ok) 3 A l
theorem Shares.keep {w w' : World} {ok ok' : Nat → Prop} {A : Option Addr} {l : List Sh} (h : Shares w ok A l) (hk : ∀ b o x, ok b → w.cell? ⟨b, o, none⟩ = some x → w'.cell? ⟨b, o, none⟩ = some x ∧ ok' b) : Shares w' ok' A l := SliceR.mono h (fun _ _ _ _ hx => ⟨(hk _ _ _ hx.1 hx.2.1).2, (hk _ _ _ hx.1 hx.2.1).1, (hk _ _ _ hx.1 hx.2.2.1).1, (hk _ _ _ hx.1 hx.2.2.2).1⟩)
theorem Shares.ext {w w' : World} {ok : Nat → Prop} {A : Option Addr} {l : List Sh} (h : Shares w ok A l) (e : Ext w w') : Shares w' ok A l := h.keep (fun _ _ _ hb hc => ⟨e.cell hc, hb⟩)
theorem Shares.at_ {w : World} {ok : Nat → Prop} {A : Option Addr} {l : List Sh} (h : Shares w ok A l) {i : Nat} (hi : i < l.length) : ∃ b o, A = some ⟨b, o, none⟩ ∧ ∀ k, k < l.length → ShC w ok b (o + k * 3) l[k]! := by
  obtain ⟨b, o, hA, hc⟩ := h.2 (by omega)
  exact ⟨b, o, hA, fun k hk => by rw [getElem!_pos l k hk]; exact hc k hk⟩
def dampB (f : Fr) : Bool := validB f.1 f.2 && decide (0 ≤ f.1) && decide (f.1 ≤ f.2)
def fitsB (g : GraphG) (l : List Sh) : Bool := decide (l.length = g.nodes.length) && (List.range l.length).all (fun i => decide (l[i]!.id = g.nodes[i]!.id) && validB l[i]!.n l[i]!.d)
theorem fitsB_iff {g : GraphG} {l : List Sh} : fitsB g l = true ↔ l.length = g.nodes.length ∧ ∀ i < l.length, l[i]!.id = g.nodes[i]!.id ∧ validB l[i]!.n l[i]!.d = true := by
  unfold fitsB
  simp only [Bool.and_eq_true, decide_eq_true_iff, List.all_eq_true, List.mem_range]
theorem fitsB_no {g : GraphG} {l : List Sh} (h : ¬ (l.length = g.nodes.length ∧ ∀ i < l.length, l[i]!.id = g.nodes[i]!.id ∧ validB l[i]!.n l[i]!.d = true)) : fitsB g l = false := by
  cases hb : fitsB g l
  · rfl
  · exact absurd (fitsB_iff.1 hb) h
theorem of_below {w w' : World} (h : Below w.heap.size w w') : Ext w w' := h
/-- block cb alone may have turned -/
def Kp (cb : Nat) (a b : World) : Prop := a.grownBy b (some cb)
theorem Kp.refl (cb : Nat) (a : World) : Kp cb a a := World.grownBy.refl _ _
theorem Kp.of_ext {cb : Nat} {a b : World} (h : Ext a b) : Kp cb a b := ⟨h.os, h.tape, h.output, h.size, fun k hk _ => h.block k hk⟩
theorem Kp.trans {cb : Nat} {a b c : World} (h : Kp cb a b) (k : Kp cb b c) : Kp cb a c :=
  ⟨k.os.trans h.os, k.tape.trans h.tape, k.output.trans h.output, Nat.le_trans h.size k.size, fun i hi hne => (k.block i (Nat.lt_of_lt_of_le hi h.size) hne).trans (h.block i hi hne)⟩
theorem Kp.drew {cb : Nat} {a b : World} (h : Kp cb a b) : Kp cb a b.drew := h.trans (Kp.of_ext ((Ext.refl _).drew))
theorem Kp.drewN {cb : Nat} {a b : World} (h : Kp cb a b) (n : Nat) : Kp cb a (b.drewN n) := h.trans (Kp.of_ext ((Ext.refl _).drewN n))
theorem Kp.alloc {cb : Nat} {a b : World} (h : Kp cb a b) (o : Obj) : Kp cb a (b.alloc o) := h.trans (Kp.of_ext ((Ext.refl _).alloc o))
theorem Kp.cell {cb : Nat} {a b : World} (h : Kp cb a b) {p : Addr} {v : Value} (hc : a.cell? p = some v) (hp : p.block ≠ cb) : b.cell? p = some v := World.grownBy.cell h hc (fun e => hp (Option.some.inj e))
theorem Kp.ext {cb : Nat} {a b c : World} (h : Ext a b) (k : Kp cb b c) (hb : a.heap.size ≤ cb) : Ext a c := h.grown k (fun i hi => by rw [← Option.some.inj hi]; exact hb)
theorem Kp.map {cb : Nat} {a b : World} {P : Program} {k : TypeId} {m n : Nat} {g : Lit → Option Value} (h : Kp cb a b) (hm : MapOf P k a m n g) (hne : m ≠ cb) : MapOf P k b m n g := hm.grown h (fun e => hne (Option.some.inj e))
theorem rk_whole (n : Int) (w : World) : Calls Tryd.prog 23 #[.int .i64 n] w fun e w' => e = .returned (.agg #[.int .i64 n, .int .i64 1]) ∧ Ext w w' := by
  go_enter Tryd.func23, Tryd.ntmps23
  go_wp2_with fail
  first
  | (go_ret; exact ⟨rfl, Ext.refl _⟩)
  | exact bodyPost_ret (v := .agg #[.int .i64 n, .int .i64 1]) (by simp [results, Tryd.results23, go_sem]) rfl ⟨rfl, (by with_reducible repeat (first | exact Ext.refl _ | assumption | refine Ext.drew ?_ | refine Ext.drewN ?_ _ | refine Ext.alloc ?_ _))⟩
set_option maxRecDepth 100000 in
theorem rk_damping (n d : Int) (w : World) : Calls Tryd.prog 35 #[.agg #[.int .i64 n, .int .i64 d]] w fun e w' => e = .returned (.bool (dampB (n, d))) ∧ Ext w w' := by
  have HQ := Lib.hid (show dampB (n, d) = (validB n d && decide (0 ≤ n) && decide (n ≤ d)) from rfl)
  have HC := Lib.hid (fun W => frac_Valid n d W)
  generalize dampB (n, d) = R at *
  generalize validB n d = q at *
  cases q
  · go_enter Tryd.func35, Tryd.ntmps35
    go_wp2_with (go_at_call 46; ((with_reducible refine (HC.out _).mono ?_); rintro e w1 ⟨rfl, hb⟩; replace hb : Ext w w1 := Ext.trans ((by with_reducible repeat (first | exact Ext.refl _ | assumption | refine Ext.drew ?_ | refine Ext.drewN ?_ _ | refine Ext.alloc ?_ _))) (of_below hb)))
    go_ret
    exact ⟨ret_bool (by rw [HQ.out]; rfl), hb⟩
  · by_cases h1 : 0 ≤ n
    · by_cases h2 : n ≤ d
      all_goals
        have HR := Lib.hid (show R = decide (n ≤ d) by rw [HQ.out, decide_eq_true h1]; rfl)
        go_enter Tryd.func35, Tryd.ntmps35
        go_wp2_with (go_at_call 46; ((with_reducible refine (HC.out _).mono ?_); rintro e w1 ⟨rfl, hb⟩; obtain ⟨hc1, -⟩ := bcell hb; replace hb : Ext w w1 := Ext.trans ((by with_reducible repeat (first | exact Ext.refl _ | assumption | refine Ext.drew ?_ | refine Ext.drewN ?_ _ | refine Ext.alloc ?_ _))) (of_below hb); have c0 : w1.cell? ⟨w.heap.size, 0, none⟩ = some (.int .i64 n) := (hc1 _ _ (by simp)).trans (by go_simp); have c1 : w1.cell? ⟨w.heap.size, 1, none⟩ = some (.int .i64 d) := (hc1 _ _ (by simp)).trans (by go_simp); clear hc1))
        go_ret
        first | exact ⟨ret_bool HR.out.symm, hb⟩ | exact ⟨ret_bool (by rw [HR.out, decide_eq_true h2]), hb⟩
    · have HR := Lib.hid (show R = false by rw [HQ.out, decide_eq_false h1]; simp)
      go_enter Tryd.func35, Tryd.ntmps35
      go_wp2_with (go_at_call 46; ((with_reducible refine (HC.out _).mono ?_); rintro e w1 ⟨rfl, hb⟩; obtain ⟨hc1, -⟩ := bcell hb; replace hb : Ext w w1 := Ext.trans ((by with_reducible repeat (first | exact Ext.refl _ | assumption | refine Ext.drew ?_ | refine Ext.drewN ?_ _ | refine Ext.alloc ?_ _))) (of_below hb); have c0 : w1.cell? ⟨w.heap.size, 0, none⟩ = some (.int .i64 n) := (hc1 _ _ (by simp)).trans (by go_simp); have c1 : w1.cell? ⟨w.heap.size, 1, none⟩ = some (.int .i64 d) := (hc1 _ _ (by simp)).trans (by go_simp); clear hc1))
      go_ret
      exact ⟨ret_bool HR.out.symm, hb⟩
/-- the calculator: a cell that tells whether an operation has had no result -/
structure CalcAt (w : World) (cb : Nat) (ov : Bool) : Prop where
  cell : w.cell? ⟨cb, 0, none⟩ = some (.bool ov)
  free : w.frozen? ⟨cb, 0, none⟩ = false
theorem frozen_heap {a b : World} {p : Addr} (h : b.heap[p.block]? = a.heap[p.block]?) : b.frozen? p = a.frozen? p := by unfold World.frozen?; rw [h]
theorem CalcAt.ext {w w' : World} {cb : Nat} {ov : Bool} (h : CalcAt w cb ov) (e : Ext w w') : CalcAt w' cb ov := by
  have hlt := block_lt_of_cell h.cell
  exact ⟨e.cell h.cell, by rw [frozen_heap (a := w) (e.block cb hlt)]; exact h.free⟩
theorem cell_other {w : World} {b c o p : Nat} {v : Value} (h : b ≠ c) : (w.setCell ⟨c, o, none⟩ v).cell? ⟨b, p, none⟩ = w.cell? ⟨b, p, none⟩ := World.cell?_setCell_far w ⟨c, o, none⟩ ⟨b, p, none⟩ v (Ne.symm h)
theorem kp_set {w : World} {cb o : Nat} {u : Value} (_h : w.cell? ⟨cb, o, none⟩ = some u) (v : Value) : Kp cb w (w.setCell ⟨cb, o, none⟩ v) := ⟨rfl, rfl, rfl, by simp, fun k _ hk => Below.heap_setCell _ _ _ k (fun e => hk (by rw [e]))⟩
theorem Kp.set {cb : Nat} {a b : World} {g o : Nat} (h : Kp cb a b) (hg : a.heap.size ≤ g) (v : Value) : Kp cb a (b.setCell ⟨g, o, none⟩ v) := ⟨h.os, h.tape, h.output, Nat.le_trans h.size (by simp), fun k hk hne => (Below.heap_setCell _ _ _ k (fun e => by rw [e] at hk; simp at hk; omega)).trans (h.block k hk hne)⟩
theorem Kp.set2 {cb : Nat} {a b : World} {g : Nat} (h : Kp cb a b) (hg hg' : a.heap.size ≤ g) (u v : Value) : Kp cb a ((b.setCell ⟨g, 0, none⟩ u).setCell ⟨g, 1, none⟩ v) := (h.set hg u).set hg' v
theorem CalcAt.set_far {w : World} {cb g o : Nat} {ov : Bool} (h : CalcAt w cb ov) (hne : cb ≠ g) (v : Value) : CalcAt (w.setCell ⟨g, o, none⟩ v) cb ov := ⟨(cell_other hne).trans h.cell, by rw [World.frozen?_setCell]; exact h.free⟩
set_option maxRecDepth 100000 in
theorem rk_result (cb : Nat) (ov ok : Bool) (n d : Int) (w : World) (hc : CalcAt w cb ov) :
    Calls Tryd.prog 95 #[.pointer (some ⟨cb, 0, none⟩), .agg #[.int .i64 n, .int .i64 d], .bool ok] w fun e w' => e = .returned (.agg #[.int .i64 (if ok then n else 0), .int .i64 (if ok then d else 1)]) ∧ CalcAt w' cb (ov || !ok) ∧ Kp cb w w' := by
  obtain ⟨h1, h2⟩ := hc
  have hlt := block_lt_of_cell h1
  obtain ⟨q, w2, hq, hw2, z0, z1, z2, z3, y2, y3, hx⟩ : ∃ (q : Nat) (w2 : World), q = w.heap.size ∧ w2 = (w.alloc (.cells #[.int .i64 n, .int .i64 d] 25)).alloc (.cells #[.int .i64 0, .int .i64 0] 25) ∧ w2.cell? ⟨q, 0, none⟩ = some (.int .i64 n) ∧ w2.cell? ⟨q, 1, none⟩ = some (.int .i64 d) ∧ w2.cell? ⟨q + 1, 0, none⟩ = some (.int .i64 0) ∧ w2.cell? ⟨q + 1, 1, none⟩ = some (.int .i64 0) ∧ w2.frozen? ⟨q + 1, 0, none⟩ = false ∧ w2.frozen? ⟨q + 1, 1, none⟩ = false ∧ Ext w w2 :=
    ⟨_, _, rfl, rfl, by go_simp, by go_simp, by go_simp, by go_simp, by go_simp, by go_simp, (by with_reducible repeat (first | exact Ext.refl _ | assumption | refine Ext.drew ?_ | refine Ext.drewN ?_ _ | refine Ext.alloc ?_ _))⟩
  have hne : cb ≠ q + 1 := by simp at hlt; omega
  have hne2 : cb ≠ q := by simp at hlt; omega
  have HW := Lib.hid hw2
  have HG := Lib.hid hq
  have HLE := Lib.hid (show w.heap.size ≤ q + 1 by omega)
  have k1 := hx.cell h1
  have k2 : w2.frozen? ⟨cb, 0, none⟩ = false := by rw [frozen_heap (a := w) (hx.block cb (by simpa using hlt))]; exact h2
  clear hw2 hq h1 h2 hlt
  cases ok
  · have HST := Lib.hid (show (w2.setCell ⟨cb, 0, none⟩ (.bool true)).cell? ⟨cb, 0, none⟩ = some (.bool true) by go_simp)
    have HSF := Lib.hid (show (w2.setCell ⟨cb, 0, none⟩ (.bool true)).frozen? ⟨cb, 0, none⟩ = false by rw [World.frozen?_setCell]; exact k2)
    have HKP := Lib.hid (show Kp cb w (w2.setCell ⟨cb, 0, none⟩ (.bool true)) from (Kp.of_ext hx).trans (kp_set k1 _))
    have m2 : (w2.setCell ⟨cb, 0, none⟩ (.bool true)).cell? ⟨q + 1, 0, none⟩ = some (.int .i64 0) := (cell_other hne.symm).trans z2
    have m3 : (w2.setCell ⟨cb, 0, none⟩ (.bool true)).cell? ⟨q + 1, 1, none⟩ = some (.int .i64 0) := (cell_other hne.symm).trans z3
    have l2 : (w2.setCell ⟨cb, 0, none⟩ (.bool true)).frozen? ⟨q + 1, 0, none⟩ = false := by rw [World.frozen?_setCell]; exact y2
    have l3 : (w2.setCell ⟨cb, 0, none⟩ (.bool true)).frozen? ⟨q + 1, 1, none⟩ = false := by rw [World.frozen?_setCell]; exact y3
    obtain ⟨w3, hw3⟩ : ∃ w3, w3 = w2.setCell ⟨cb, 0, none⟩ (.bool true) := ⟨_, rfl⟩
    rw [← hw3] at HST HSF HKP m2 m3 l2 l3
    have HW3 := Lib.hid hw3
    clear hw3
    go_enter Tryd.func95, Tryd.ntmps95
    go_upto_region 1 with (fail)
    rw [← HW.out, ← HG.out]
    clear HW HG
    go_upto_region 3 with (fail)
    rw [← HW3.out]
    clear HW3
    go_wp2_with (go_at_call 23; ((with_reducible refine (rk_whole _ _).mono ?_); rintro e w8 ⟨rfl, hx8⟩; have r2 := hx8.cell m2; have r3 := hx8.cell m3; have s2 := (frozen_heap (p := ⟨q + 1, 0, none⟩) (hx8.block _ (block_lt_of_cell m2))).trans l2; have s3 := (frozen_heap (p := ⟨q + 1, 1, none⟩) (hx8.block _ (block_lt_of_cell m3))).trans l3))
    refine bodyPost_ret (v := .agg #[.int .i64 0, .int .i64 1]) (by simp [results, Tryd.results95, go_sem, *]) rfl ?_
    refine ⟨rfl, ?_, (HKP.out.trans (Kp.of_ext hx8)).set2 HLE.out HLE.out _ _⟩
    have hc := CalcAt.ext (w' := w8) ⟨HST.out, HSF.out⟩ hx8
    exact (hc.set_far hne _).set_far hne _
  · go_enter Tryd.func95, Tryd.ntmps95
    go_upto_region 1 with (fail)
    rw [← HW.out, ← HG.out]
    clear HW HG
    go_wp2_with fail
    refine bodyPost_ret (v := .agg #[.int .i64 n, .int .i64 d]) (by simp [results, Tryd.results95, go_sem, *]) rfl ?_
    refine ⟨rfl, ?_, (Kp.of_ext hx).set2 HLE.out HLE.out _ _⟩
    exact (CalcAt.set_far ⟨k1, k2⟩ hne _).set_far hne _
set_option maxRecDepth 100000 in
set_option maxHeartbeats 800000 in
theorem rk_add (cb : Nat) (ov : Bool) (a b : Fr) (w : World) (hz : ZeroAt w) (hc : CalcAt w cb ov) :
    Calls Tryd.prog 68 #[.pointer (some ⟨cb, 0, none⟩), .agg #[.int .i64 a.1, .int .i64 a.2], .agg #[.int .i64 b.1, .int .i64 b.2]] w fun e w' => e = .returned (.agg #[.int .i64 (orZ (addO a b)).1, .int .i64 (orZ (addO a b)).2]) ∧ CalcAt w' cb (ov || (addO a b).isNone) ∧ Kp cb w w' := by
  have hlt := block_lt_of_cell hc.cell
  obtain ⟨q, w3, hq, hw3, z0, z1, z2, z3, z4, z5, y4, y5, hx⟩ : ∃ (q : Nat) (w3 : World), q = w.heap.size ∧ w3 = ((w.alloc (.cells #[.int .i64 a.1, .int .i64 a.2] 25)).alloc (.cells #[.int .i64 b.1, .int .i64 b.2] 25)).alloc (.cells #[.int .i64 0, .int .i64 0] 25) ∧ w3.cell? ⟨q, 0, none⟩ = some (.int .i64 a.1) ∧ w3.cell? ⟨q, 1, none⟩ = some (.int .i64 a.2) ∧ w3.cell? ⟨q + 1, 0, none⟩ = some (.int .i64 b.1) ∧ w3.cell? ⟨q + 1, 1, none⟩ = some (.int .i64 b.2) ∧ w3.cell? ⟨q + 1 + 1, 0, none⟩ = some (.int .i64 0) ∧ w3.cell? ⟨q + 1 + 1, 1, none⟩ = some (.int .i64 0) ∧ w3.frozen? ⟨q + 1 + 1, 0, none⟩ = false ∧ w3.frozen? ⟨q + 1 + 1, 1, none⟩ = false ∧ Ext w w3 :=
    ⟨_, _, rfl, rfl, by go_simp, by go_simp, by go_simp, by go_simp, by go_simp, by go_simp, by go_simp, by go_simp, (by with_reducible repeat (first | exact Ext.refl _ | assumption | refine Ext.drew ?_ | refine Ext.drewN ?_ _ | refine Ext.alloc ?_ _))⟩
  have hne : cb ≠ q + 1 + 1 := by simp at hlt; omega
  have HW := Lib.hid hw3
  have HG := Lib.hid hq
  have HLE := Lib.hid (show w.heap.size ≤ q + 1 + 1 by omega)
  have HC3 := Lib.hid (hc.ext hx)
  have HOP := Lib.hid (fun W (e : Ext w3 W) => frac_Add a.1 a.2 b.1 b.2 W (hz.ext (hx.trans e)))
  have HV := Lib.hid (show orZ (addO a b) = if (addS a.1 a.2 b.1 b.2).2.2 then ((addS a.1 a.2 b.1 b.2).1, (addS a.1 a.2 b.1 b.2).2.1) else (0, 1) by unfold orZ addO; split <;> rfl)
  have HN := Lib.hid (show (addO a b).isNone = !(addS a.1 a.2 b.1 b.2).2.2 by unfold addO; split <;> simp_all)
  generalize addO a b = z at *
  generalize addS a.1 a.2 b.1 b.2 = r at *
  generalize orZ z = oz at *
  obtain ⟨r1, r2, r3⟩ := r
  dsimp only at HV HN
  have HR := Lib.hid (fun W (h : CalcAt W cb ov) => rk_result cb ov r3 r1 r2 W h)
  have HV1 := Lib.hid (show (if r3 then r1 else 0) = oz.1 by rw [HV.out]; split <;> rfl)
  have HV2 := Lib.hid (show (if r3 then r2 else 1) = oz.2 by rw [HV.out]; split <;> rfl)
  rw [HV1.out, HV2.out] at HR
  clear hw3 hq hc hlt HV1 HV2 HV
  go_enter Tryd.func68, Tryd.ntmps68
  go_upto_region 1 with (fail)
  rw [← HW.out, ← HG.out]
  clear HW HG
  go_wp2_with (first | (go_at_call 24; ((with_reducible refine (HOP.out _ (by with_reducible repeat (first | exact Ext.refl _ | assumption | refine Ext.drew ?_ | refine Ext.drewN ?_ _ | refine Ext.alloc ?_ _))).mono ?_); rintro e w4 ⟨rfl, hb⟩; replace hb := of_below hb; have r4 := hb.cell z4; have r5 := hb.cell z5; have s4 := (frozen_heap (p := ⟨q + 1 + 1, 0, none⟩) (hb.block _ (block_lt_of_cell z4))).trans y4; have s5 := (frozen_heap (p := ⟨q + 1 + 1, 1, none⟩) (hb.block _ (block_lt_of_cell z5))).trans y5)) | (go_at_call 95; ((with_reducible refine (HR.out _ (HC3.out.ext hb)).mono ?_); rintro e w5 ⟨rfl, hc5, hk5⟩; have t4 := hk5.cell r4 hne.symm; have t5 := hk5.cell r5 hne.symm; have u4 := (frozen_heap (p := ⟨q + 1 + 1, 0, none⟩) (hk5.block _ (block_lt_of_cell r4) (fun e => hne (Option.some.inj e).symm))).trans s4; have u5 := (frozen_heap (p := ⟨q + 1 + 1, 1, none⟩) (hk5.block _ (block_lt_of_cell r5) (fun e => hne (Option.some.inj e).symm))).trans s5)))
  refine bodyPost_ret (v := .agg #[.int .i64 oz.1, .int .i64 oz.2]) (by simp [results, Tryd.results68, go_sem, t4, t5]) rfl ?_
  refine ⟨rfl, ?_, (((Kp.of_ext hx).trans (Kp.of_ext hb)).trans hk5).set2 HLE.out HLE.out _ _⟩
  rw [HN.out]
  exact (hc5.set_far hne _).set_far hne _
set_option maxRecDepth 100000 in
set_option maxHeartbeats 800000 in
theorem rk_sub (cb : Nat) (ov : Bool) (a b : Fr) (w : World) (hz : ZeroAt w) (hb1 : -9223372036854775808 ≤ b.1) (hb2 : b.1 ≤ 9223372036854775807) (hc : CalcAt w cb ov) :
    Calls Tryd.prog 70 #[.pointer (some ⟨cb, 0, none⟩), .agg #[.int .i64 a.1, .int .i64 a.2], .agg #[.int .i64 b.1, .int .i64 b.2]] w fun e w' => e = .returned (.agg #[.int .i64 (orZ (subO a b)).1, .int .i64 (orZ (subO a b)).2]) ∧ CalcAt w' cb (ov || (subO a b).isNone) ∧ Kp cb w w' := by
  have hlt := block_lt_of_cell hc.cell
  obtain ⟨q, w3, hq, hw3, z0, z1, z2, z3, z4, z5, y4, y5, hx⟩ : ∃ (q : Nat) (w3 : World), q = w.heap.size ∧ w3 = ((w.alloc (.cells #[.int .i64 a.1, .int .i64 a.2] 25)).alloc (.cells #[.int .i64 b.1, .int .i64 b.2] 25)).alloc (.cells #[.int .i64 0, .int .i64 0] 25) ∧ w3.cell? ⟨q, 0, none⟩ = some (.int .i64 a.1) ∧ w3.cell? ⟨q, 1, none⟩ = some (.int .i64 a.2) ∧ w3.cell? ⟨q + 1, 0, none⟩ = some (.int .i64 b.1) ∧ w3.cell? ⟨q + 1, 1, none⟩ = some (.int .i64 b.2) ∧ w3.cell? ⟨q + 1 + 1, 0, none⟩ = some (.int .i64 0) ∧ w3.cell? ⟨q + 1 + 1, 1, none⟩ = some (.int .i64 0) ∧ w3.frozen? ⟨q + 1 + 1, 0, none⟩ = false ∧ w3.frozen? ⟨q + 1 + 1, 1, none⟩ = false ∧ Ext w w3 :=
    ⟨_, _, rfl, rfl, by go_simp, by go_simp, by go_simp, by go_simp, by go_simp, by go_simp, by go_simp, by go_simp, (by with_reducible repeat (first | exact Ext.refl _ | assumption | refine Ext.drew ?_ | refine Ext.drewN ?_ _ | refine Ext.alloc ?_ _))⟩
  have hne : cb ≠ q + 1 + 1 := by simp at hlt; omega
  have HW := Lib.hid hw3
  have HG := Lib.hid hq
  have HLE := Lib.hid (show w.heap.size ≤ q + 1 + 1 by omega)
  have HC3 := Lib.hid (hc.ext hx)
  have HOP := Lib.hid (fun W (e : Ext w3 W) => frac_Sub a.1 a.2 b.1 b.2 W (hz.ext (hx.trans e)) hb1 hb2)
  have HV := Lib.hid (show orZ (subO a b) = if (subS a.1 a.2 b.1 b.2).2.2 then ((subS a.1 a.2 b.1 b.2).1, (subS a.1 a.2 b.1 b.2).2.1) else (0, 1) by unfold orZ subO; split <;> rfl)
  have HN := Lib.hid (show (subO a b).isNone = !(subS a.1 a.2 b.1 b.2).2.2 by unfold subO; split <;> simp_all)
  generalize subO a b = z at *
  generalize subS a.1 a.2 b.1 b.2 = r at *
  generalize orZ z = oz at *
  obtain ⟨r1, r2, r3⟩ := r
  dsimp only at HV HN
  have HR := Lib.hid (fun W (h : CalcAt W cb ov) => rk_result cb ov r3 r1 r2 W h)
  have HV1 := Lib.hid (show (if r3 then r1 else 0) = oz.1 by rw [HV.out]; split <;> rfl)
  have HV2 := Lib.hid (show (if r3 then r2 else 1) = oz.2 by rw [HV.out]; split <;> rfl)
  rw [HV1.out, HV2.out] at HR
  clear hw3 hq hc hlt HV1 HV2 HV
  go_enter Tryd.func70, Tryd.ntmps70
  go_upto_region 1 with (fail)
  rw [← HW.out, ← HG.out]
  clear HW HG
  go_wp2_with (first | (go_at_call 97; ((with_reducible refine (HOP.out _ (by with_reducible repeat (first | exact Ext.refl _ | assumption | refine Ext.drew ?_ | refine Ext.drewN ?_ _ | refine Ext.alloc ?_ _))).mono ?_); rintro e w4 ⟨rfl, hb⟩; replace hb := of_below hb; have r4 := hb.cell z4; have r5 := hb.cell z5; have s4 := (frozen_heap (p := ⟨q + 1 + 1, 0, none⟩) (hb.block _ (block_lt_of_cell z4))).trans y4; have s5 := (frozen_heap (p := ⟨q + 1 + 1, 1, none⟩) (hb.block _ (block_lt_of_cell z5))).trans y5)) | (go_at_call 95; ((with_reducible refine (HR.out _ (HC3.out.ext hb)).mono ?_); rintro e w5 ⟨rfl, hc5, hk5⟩; have t4 := hk5.cell r4 hne.symm; have t5 := hk5.cell r5 hne.symm; have u4 := (frozen_heap (p := ⟨q + 1 + 1, 0, none⟩) (hk5.block _ (block_lt_of_cell r4) (fun e => hne (Option.some.inj e).symm))).trans s4; have u5 := (frozen_heap (p := ⟨q + 1 + 1, 1, none⟩) (hk5.block _ (block_lt_of_cell r5) (fun e => hne (Option.some.inj e).symm))).trans s5)))
  refine bodyPost_ret (v := .agg #[.int .i64 oz.1, .int .i64 oz.2]) (by simp [results, Tryd.results70, go_sem, t4, t5]) rfl ?_
  refine ⟨rfl, ?_, (((Kp.of_ext hx).trans (Kp.of_ext hb)).trans hk5).set2 HLE.out HLE.out _ _⟩
  rw [HN.out]
  exact (hc5.set_far hne _).set_far hne _
set_option maxRecDepth 100000 in
set_option maxHeartbeats 800000 in
theorem rk_mul (cb : Nat) (ov : Bool) (a b : Fr) (w : World) (_hz : ZeroAt w) (hc : CalcAt w cb ov) :
    Calls Tryd.prog 71 #[.pointer (some ⟨cb, 0, none⟩), .agg #[.int .i64 a.1, .int .i64 a.2], .agg #[.int .i64 b.1, .int .i64 b.2]] w fun e w' => e = .returned (.agg #[.int .i64 (orZ (mulO a b)).1, .int .i64 (orZ (mulO a b)).2]) ∧ CalcAt w' cb (ov || (mulO a b).isNone) ∧ Kp cb w w' := by
  have hlt := block_lt_of_cell hc.cell
  obtain ⟨q, w3, hq, hw3, z0, z1, z2, z3, z4, z5, y4, y5, hx⟩ : ∃ (q : Nat) (w3 : World), q = w.heap.size ∧ w3 = ((w.alloc (.cells #[.int .i64 a.1, .int .i64 a.2] 25)).alloc (.cells #[.int .i64 b.1, .int .i64 b.2] 25)).alloc (.cells #[.int .i64 0, .int .i64 0] 25) ∧ w3.cell? ⟨q, 0, none⟩ = some (.int .i64 a.1) ∧ w3.cell? ⟨q, 1, none⟩ = some (.int .i64 a.2) ∧ w3.cell? ⟨q + 1, 0, none⟩ = some (.int .i64 b.1) ∧ w3.cell? ⟨q + 1, 1, none⟩ = some (.int .i64 b.2) ∧ w3.cell? ⟨q + 1 + 1, 0, none⟩ = some (.int .i64 0) ∧ w3.cell? ⟨q + 1 + 1, 1, none⟩ = some (.int .i64 0) ∧ w3.frozen? ⟨q + 1 + 1, 0, none⟩ = false ∧ w3.frozen? ⟨q + 1 + 1, 1, none⟩ = false ∧ Ext w w3 :=
    ⟨_, _, rfl, rfl, by go_simp, by go_simp, by go_simp, by go_simp, by go_simp, by go_simp, by go_simp, by go_simp, (by with_reducible repeat (first | exact Ext.refl _ | assumption | refine Ext.drew ?_ | refine Ext.drewN ?_ _ | refine Ext.alloc ?_ _))⟩
  have hne : cb ≠ q + 1 + 1 := by simp at hlt; omega
  have HW := Lib.hid hw3
  have HG := Lib.hid hq
  have HLE := Lib.hid (show w.heap.size ≤ q + 1 + 1 by omega)
  have HC3 := Lib.hid (hc.ext hx)
  have HOP := Lib.hid (fun W (e : Ext w3 W) => frac_Mul a.1 a.2 b.1 b.2 W)
  have HV := Lib.hid (show orZ (mulO a b) = if (mulS a.1 a.2 b.1 b.2).2.2 then ((mulS a.1 a.2 b.1 b.2).1, (mulS a.1 a.2 b.1 b.2).2.1) else (0, 1) by unfold orZ mulO; split <;> rfl)
  have HN := Lib.hid (show (mulO a b).isNone = !(mulS a.1 a.2 b.1 b.2).2.2 by unfold mulO; split <;> simp_all)
  generalize mulO a b = z at *
  generalize mulS a.1 a.2 b.1 b.2 = r at *
  generalize orZ z = oz at *
  obtain ⟨r1, r2, r3⟩ := r
  dsimp only at HV HN
  have HR := Lib.hid (fun W (h : CalcAt W cb ov) => rk_result cb ov r3 r1 r2 W h)
  have HV1 := Lib.hid (show (if r3 then r1 else 0) = oz.1 by rw [HV.out]; split <;> rfl)
  have HV2 := Lib.hid (show (if r3 then r2 else 1) = oz.2 by rw [HV.out]; split <;> rfl)
  rw [HV1.out, HV2.out] at HR
  clear hw3 hq hc hlt HV1 HV2 HV
  go_enter Tryd.func71, Tryd.ntmps71
  go_upto_region 1 with (fail)
  rw [← HW.out, ← HG.out]
  clear HW HG
  go_wp2_with (first | (go_at_call 98; ((with_reducible refine (HOP.out _ (by with_reducible repeat (first | exact Ext.refl _ | assumption | refine Ext.drew ?_ | refine Ext.drewN ?_ _ | refine Ext.alloc ?_ _))).mono ?_); rintro e w4 ⟨rfl, hb⟩; replace hb := of_below hb; have r4 := hb.cell z4; have r5 := hb.cell z5; have s4 := (frozen_heap (p := ⟨q + 1 + 1, 0, none⟩) (hb.block _ (block_lt_of_cell z4))).trans y4; have s5 := (frozen_heap (p := ⟨q + 1 + 1, 1, none⟩) (hb.block _ (block_lt_of_cell z5))).trans y5)) | (go_at_call 95; ((with_reducible refine (HR.out _ (HC3.out.ext hb)).mono ?_); rintro e w5 ⟨rfl, hc5, hk5⟩; have t4 := hk5.cell r4 hne.symm; have t5 := hk5.cell r5 hne.symm; have u4 := (frozen_heap (p := ⟨q + 1 + 1, 0, none⟩) (hk5.block _ (block_lt_of_cell r4) (fun e => hne (Option.some.inj e).symm))).trans s4; have u5 := (frozen_heap (p := ⟨q + 1 + 1, 1, none⟩) (hk5.block _ (block_lt_of_cell r5) (fun e => hne (Option.some.inj e).symm))).trans s5)))
  refine bodyPost_ret (v := .agg #[.int .i64 oz.1, .int .i64 oz.2]) (by simp [results, Tryd.results71, go_sem, t4, t5]) rfl ?_
  refine ⟨rfl, ?_, (((Kp.of_ext hx).trans (Kp.of_ext hb)).trans hk5).set2 HLE.out HLE.out _ _⟩
  rw [HN.out]
  exact (hc5.set_far hne _).set_far hne _
set_option maxRecDepth 100000 in
set_option maxHeartbeats 800000 in
theorem rk_div (cb : Nat) (ov : Bool) (a : Fr) (m : Int) (w : World) (hc : CalcAt w cb ov) :
    Calls Tryd.prog 69 #[.pointer (some ⟨cb, 0, none⟩), .agg #[.int .i64 a.1, .int .i64 a.2], .int .i64 m] w fun e w' => e = .returned (.agg #[.int .i64 (orZ (divO a (m, 1))).1, .int .i64 (orZ (divO a (m, 1))).2]) ∧ CalcAt w' cb (ov || (divO a (m, 1)).isNone) ∧ Kp cb w w' := by
  have hlt := block_lt_of_cell hc.cell
  obtain ⟨q, w2, hq, hw2, z0, z1, z4, z5, y4, y5, hx⟩ : ∃ (q : Nat) (w2 : World), q = w.heap.size ∧ w2 = (w.alloc (.cells #[.int .i64 a.1, .int .i64 a.2] 25)).alloc (.cells #[.int .i64 0, .int .i64 0] 25) ∧ w2.cell? ⟨q, 0, none⟩ = some (.int .i64 a.1) ∧ w2.cell? ⟨q, 1, none⟩ = some (.int .i64 a.2) ∧ w2.cell? ⟨q + 1, 0, none⟩ = some (.int .i64 0) ∧ w2.cell? ⟨q + 1, 1, none⟩ = some (.int .i64 0) ∧ w2.frozen? ⟨q + 1, 0, none⟩ = false ∧ w2.frozen? ⟨q + 1, 1, none⟩ = false ∧ Ext w w2 :=
    ⟨_, _, rfl, rfl, by go_simp, by go_simp, by go_simp, by go_simp, by go_simp, by go_simp, (by with_reducible repeat (first | exact Ext.refl _ | assumption | refine Ext.drew ?_ | refine Ext.drewN ?_ _ | refine Ext.alloc ?_ _))⟩
  have hne : cb ≠ q + 1 := by simp at hlt; omega
  have hne0 : q ≠ cb := by simp at hlt; omega
  have HW := Lib.hid hw2
  have HG := Lib.hid hq
  have hle : w.heap.size ≤ q + 1 := by omega
  have HLE := Lib.hid hle
  have HC3 := Lib.hid (hc.ext hx)
  have HOP := Lib.hid (fun W => frac_Div a.1 a.2 m 1 W)
  have HWH := Lib.hid (fun W => rk_whole m W)
  have HV := Lib.hid (show orZ (divO a (m, 1)) = if (divS a.1 a.2 m 1).2.2 then ((divS a.1 a.2 m 1).1, (divS a.1 a.2 m 1).2.1) else (0, 1) by unfold orZ divO; split <;> rfl)
  have HN := Lib.hid (show (divO a (m, 1)).isNone = !(divS a.1 a.2 m 1).2.2 by unfold divO; split <;> simp_all)
  generalize divO a (m, 1) = z at *
  generalize divS a.1 a.2 m 1 = r at *
  generalize orZ z = oz at *
  obtain ⟨r1, r2, r3⟩ := r
  dsimp only at HV HN
  have HR := Lib.hid (fun W (h : CalcAt W cb ov) => rk_result cb ov r3 r1 r2 W h)
  have HV1 := Lib.hid (show (if r3 then r1 else 0) = oz.1 by rw [HV.out]; split <;> rfl)
  have HV2 := Lib.hid (show (if r3 then r2 else 1) = oz.2 by rw [HV.out]; split <;> rfl)
  rw [HV1.out, HV2.out] at HR
  have MK1 := Lib.hid (fun V (k : Kp cb w2 V) => (⟨k.cell z0 hne0, k.cell z1 hne0, (Kp.of_ext hx).trans k⟩ : V.cell? ⟨q, 0, none⟩ = some (.int .i64 a.1) ∧ V.cell? ⟨q, 1, none⟩ = some (.int .i64 a.2) ∧ Kp cb w V))
  have MK2 := Lib.hid (fun V u v (k : Kp cb w2 V) => (⟨(cell_other (by omega)).trans ((cell_other (by omega)).trans (k.cell z0 hne0)), (cell_other (by omega)).trans ((cell_other (by omega)).trans (k.cell z1 hne0)), ((Kp.of_ext hx).trans k).set2 hle hle _ _⟩ : ((V.setCell ⟨q + 1, 0, none⟩ u).setCell ⟨q + 1, 1, none⟩ v).cell? ⟨q, 0, none⟩ = some (.int .i64 a.1) ∧ ((V.setCell ⟨q + 1, 0, none⟩ u).setCell ⟨q + 1, 1, none⟩ v).cell? ⟨q, 1, none⟩ = some (.int .i64 a.2) ∧ Kp cb w ((V.setCell ⟨q + 1, 0, none⟩ u).setCell ⟨q + 1, 1, none⟩ v)))
  have HZ := Lib.hid (fun V (k : Kp cb w2 V) => (⟨k.cell z4 hne.symm, k.cell z5 hne.symm, (frozen_heap (p := ⟨q + 1, 0, none⟩) (k.block _ (block_lt_of_cell z4) (fun e => hne (Option.some.inj e).symm))).trans y4, (frozen_heap (p := ⟨q + 1, 1, none⟩) (k.block _ (block_lt_of_cell z5) (fun e => hne (Option.some.inj e).symm))).trans y5⟩ : V.cell? ⟨q + 1, 0, none⟩ = some (.int .i64 0) ∧ V.cell? ⟨q + 1, 1, none⟩ = some (.int .i64 0) ∧ V.frozen? ⟨q + 1, 0, none⟩ = false ∧ V.frozen? ⟨q + 1, 1, none⟩ = false))
  clear hw2 hq hc hlt HV1 HV2 HV hle z0 z1 z4 z5 y4 y5
  go_enter Tryd.func69, Tryd.ntmps69
  go_upto_region 1 with (fail)
  rw [← HW.out, ← HG.out]
  clear HW HG
  refine wp_region_held_drew (S := (fun V => V.cell? ⟨q, 0, none⟩ = some (.int .i64 a.1) ∧ V.cell? ⟨q, 1, none⟩ = some (.int .i64 a.2) ∧ Kp cb w V)) (by kernel_rfl) ?hs1 (fun hHeld => ?go1)
  case hs1 => (first | with_reducible exact MK2.out _ _ _ (by with_reducible repeat (first | exact Kp.refl _ _ | assumption | refine Kp.drew ?_ | refine Kp.drewN ?_ _ | refine Kp.alloc ?_ _)) | exact MK1.out _ (by with_reducible repeat (first | exact Kp.refl _ _ | assumption | refine Kp.drew ?_ | refine Kp.drewN ?_ _ | refine Kp.alloc ?_ _)))
  refine wpAnyH_take (i := 0) (oi := ⟨(some 7), (.move (.tmp 0)), 95, "rank.go:37", #[], none⟩) (v := ?v2) rfl (by kernel_rfl) (by kernel_rfl) (by kernel_rfl) (fun _ _ _ h => h) (Or.inl ⟨rfl, ?hy2⟩) hHeld ?rest2
  case hy2 => (intro w _; go_simp <;> rfl)
  (try simp only [PU])
  refine wpAnyH_take (i := 1) (oi := ⟨(some 8), (.load 25 (.tmp 4)), 25, "rank.go:37", #[], none⟩) (v := ?v3) rfl (by kernel_rfl) (by kernel_rfl) (by kernel_rfl) (fun _ _ _ h => h) (Or.inl ⟨rfl, ?hy3⟩) hHeld ?rest3
  case hy3 => (intro w hSw; (try dsimp only at hSw); go_simp <;> first | with_reducible rfl | rw [if_neg (by omega)] | rw [if_pos (by omega)])
  (try simp only [PU])
  refine wpAnyH_take (i := 2) (oi := ⟨(some 9), (.move (.tmp 2)), 3, "rank.go:37", #[], none⟩) (v := ?v4) rfl (by kernel_rfl) (by kernel_rfl) (by kernel_rfl) (fun _ _ _ h => h) (Or.inl ⟨rfl, ?hy4⟩) hHeld ?rest4
  case hy4 => (intro w _; go_simp <;> rfl)
  (try simp only [PU])
  refine wpAnyH_ready (rs := [3]) (by kernel_rfl) (by simp) ?_
  refine AllReadyH.cons (o := ⟨(some 10), (.call { callee := (.value (.func 23)), args := #[(.tmp 9)], argTypes := #[3] }), 25, "rank.go:37", #[⟨2, .data⟩], none⟩) rfl (fun K hK => ?step5x0) ?more5x0
  case more5x0 => exact AllReadyH.nil
  go_simp
  (refine (HWH.out _).mono ?_; rintro e w3 ⟨rfl, hb3⟩; replace hb3 : Ext w2 w3 := Ext.trans (by with_reducible repeat (first | exact Ext.refl _ | assumption | refine Ext.drew ?_ | refine Ext.drewN ?_ _ | refine Ext.alloc ?_ _)) hb3; have hk3 : Kp cb w2 w3 := Kp.of_ext hb3)
  refine hK.out _ _ ?hS5x0 (fun hHeld5 => ?rest5x0)
  case hS5x0 => first | (first | with_reducible exact MK2.out _ _ _ (by with_reducible repeat (first | exact Kp.refl _ _ | assumption | refine Kp.drew ?_ | refine Kp.drewN ?_ _ | refine Kp.alloc ?_ _)) | exact MK1.out _ (by with_reducible repeat (first | exact Kp.refl _ _ | assumption | refine Kp.drew ?_ | refine Kp.drewN ?_ _ | refine Kp.alloc ?_ _))) | ((try dsimp only); (first | with_reducible exact MK2.out _ _ _ (by with_reducible repeat (first | exact Kp.refl _ _ | assumption | refine Kp.drew ?_ | refine Kp.drewN ?_ _ | refine Kp.alloc ?_ _)) | exact MK1.out _ (by with_reducible repeat (first | exact Kp.refl _ _ | assumption | refine Kp.drew ?_ | refine Kp.drewN ?_ _ | refine Kp.alloc ?_ _))))
  clear hK K
  clear hHeld
  (try simp only [PU])
  refine wpAnyH_ready (rs := [4]) (by kernel_rfl) (by simp) ?_
  refine AllReadyH.cons (o := ⟨(some 11), (.call { callee := (.value (.func 96)), args := #[(.tmp 8), (.tmp 10)], argTypes := #[25, 25] }), 26, "rank.go:37", #[⟨1, .data⟩, ⟨3, .data⟩, ⟨3, .chain⟩], none⟩) rfl (fun K hK => ?step6x0) ?more6x0
  case more6x0 => exact AllReadyH.nil
  go_simp
  (refine (HOP.out _).mono ?_; rintro e w4 ⟨rfl, hb4⟩; replace hb4 : Ext w2 w4 := Ext.trans (by with_reducible repeat (first | exact Ext.refl _ | assumption | refine Ext.drew ?_ | refine Ext.drewN ?_ _ | refine Ext.alloc ?_ _)) (of_below hb4); have hk4 : Kp cb w2 w4 := Kp.of_ext hb4; try dsimp only)
  refine hK.out _ _ ?hS6x0 (fun hHeld6 => ?rest6x0)
  case hS6x0 => first | (first | with_reducible exact MK2.out _ _ _ (by with_reducible repeat (first | exact Kp.refl _ _ | assumption | refine Kp.drew ?_ | refine Kp.drewN ?_ _ | refine Kp.alloc ?_ _)) | exact MK1.out _ (by with_reducible repeat (first | exact Kp.refl _ _ | assumption | refine Kp.drew ?_ | refine Kp.drewN ?_ _ | refine Kp.alloc ?_ _))) | ((try dsimp only); (first | with_reducible exact MK2.out _ _ _ (by with_reducible repeat (first | exact Kp.refl _ _ | assumption | refine Kp.drew ?_ | refine Kp.drewN ?_ _ | refine Kp.alloc ?_ _)) | exact MK1.out _ (by with_reducible repeat (first | exact Kp.refl _ _ | assumption | refine Kp.drew ?_ | refine Kp.drewN ?_ _ | refine Kp.alloc ?_ _))))
  clear hK K
  clear hHeld5
  (try simp only [PU])
  refine wpAnyH_take (i := 5) (oi := ⟨(some 12), (.extract (.tmp 11) 0), 25, "rank.go:37", #[⟨4, .data⟩], none⟩) (v := ?v7) rfl (by kernel_rfl) (by kernel_rfl) (by kernel_rfl) (fun _ _ _ h => h) (Or.inl ⟨rfl, ?hy7⟩) hHeld6 ?rest7
  case hy7 => (intro w _; go_simp <;> rfl)
  (try simp only [PU])
  refine wpAnyH_take (i := 6) (oi := ⟨(some 13), (.extract (.tmp 11) 1), 4, "rank.go:37", #[⟨4, .data⟩], none⟩) (v := ?v8) rfl (by kernel_rfl) (by kernel_rfl) (by kernel_rfl) (fun _ _ _ h => h) (Or.inl ⟨rfl, ?hy8⟩) hHeld6 ?rest8
  case hy8 => (intro w _; go_simp <;> rfl)
  (try simp only [PU])
  refine wpAnyH_ready (rs := [7]) (by kernel_rfl) (by simp) ?_
  refine AllReadyH.cons (o := ⟨(some 14), (.call { callee := (.value (.func 95)), args := #[(.tmp 7), (.tmp 12), (.tmp 13)], argTypes := #[95, 25, 4] }), 25, "rank.go:37", #[⟨0, .data⟩, ⟨5, .data⟩, ⟨6, .data⟩, ⟨4, .chain⟩], none⟩) rfl (fun K hK => ?step9x0) ?more9x0
  case more9x0 => exact AllReadyH.nil
  go_simp
  (refine (HR.out _ (HC3.out.ext (by with_reducible repeat (first | exact Ext.refl _ | assumption | refine Ext.drew ?_ | refine Ext.drewN ?_ _ | refine Ext.alloc ?_ _)))).mono ?_; rintro e w5 ⟨rfl, hc5, hk5⟩; replace hk5 : Kp cb w2 w5 := Kp.trans (by with_reducible repeat (first | exact Kp.refl _ _ | assumption | refine Kp.drew ?_ | refine Kp.drewN ?_ _ | refine Kp.alloc ?_ _)) hk5; obtain ⟨t4, t5, u4, u5⟩ := HZ.out w5 hk5)
  refine hK.out _ _ ?hS9x0 (fun hHeld9 => ?rest9x0)
  case hS9x0 => first | (first | with_reducible exact MK2.out _ _ _ (by with_reducible repeat (first | exact Kp.refl _ _ | assumption | refine Kp.drew ?_ | refine Kp.drewN ?_ _ | refine Kp.alloc ?_ _)) | exact MK1.out _ (by with_reducible repeat (first | exact Kp.refl _ _ | assumption | refine Kp.drew ?_ | refine Kp.drewN ?_ _ | refine Kp.alloc ?_ _))) | ((try dsimp only); (first | with_reducible exact MK2.out _ _ _ (by with_reducible repeat (first | exact Kp.refl _ _ | assumption | refine Kp.drew ?_ | refine Kp.drewN ?_ _ | refine Kp.alloc ?_ _)) | exact MK1.out _ (by with_reducible repeat (first | exact Kp.refl _ _ | assumption | refine Kp.drew ?_ | refine Kp.drewN ?_ _ | refine Kp.alloc ?_ _))))
  clear hK K
  clear hHeld6
  (try simp only [PU])
  refine wpAnyH_ready (rs := [8]) (by kernel_rfl) (by simp) ?_
  refine AllReadyH.cons (o := ⟨none, (.store 25 (.tmp 6) (.tmp 14)), 0, "rank.go:37", #[⟨7, .data⟩, ⟨7, .chain⟩, ⟨0, .phase⟩, ⟨1, .phase⟩, ⟨2, .phase⟩, ⟨3, .phase⟩, ⟨4, .phase⟩, ⟨5, .phase⟩, ⟨6, .phase⟩, ⟨7, .phase⟩], none⟩) rfl (fun K hK => ?step10x0) ?more10x0
  case more10x0 => exact AllReadyH.nil
  go_simp
  refine hK.out _ _ ?hS10x0 (fun hHeld10 => ?rest10x0)
  case hS10x0 => first | (first | with_reducible exact MK2.out _ _ _ (by with_reducible repeat (first | exact Kp.refl _ _ | assumption | refine Kp.drew ?_ | refine Kp.drewN ?_ _ | refine Kp.alloc ?_ _)) | exact MK1.out _ (by with_reducible repeat (first | exact Kp.refl _ _ | assumption | refine Kp.drew ?_ | refine Kp.drewN ?_ _ | refine Kp.alloc ?_ _))) | ((try dsimp only); (first | with_reducible exact MK2.out _ _ _ (by with_reducible repeat (first | exact Kp.refl _ _ | assumption | refine Kp.drew ?_ | refine Kp.drewN ?_ _ | refine Kp.alloc ?_ _)) | exact MK1.out _ (by with_reducible repeat (first | exact Kp.refl _ _ | assumption | refine Kp.drew ?_ | refine Kp.drewN ?_ _ | refine Kp.alloc ?_ _))))
  clear hK K
  clear hHeld9
  refine wpAnyH_done (by kernel_rfl) ?_ _
  clear hHeld10
  go_wp2_with fail
  refine bodyPost_ret (v := .agg #[.int .i64 oz.1, .int .i64 oz.2]) (by simp [results, Tryd.results69, go_sem, t4, t5]) rfl ?_
  refine ⟨rfl, ?_, ((Kp.of_ext hx).trans hk5).set2 HLE.out HLE.out _ _⟩
  rw [HN.out]
  exact (hc5.set_far hne _).set_far hne _
end Go.Proofs.YtlkpmbkmmfoakaaDoor

/- THE WALKS over the checks of shares, degrees, shares of nodes, Start. -/
namespace Go.Proofs.YtlkpmbkmmfoakaaDoor
open Go.RowKit
theorem box_share (w : World) (x : Sh) (t : TypeId) : ∃ (q : Nat) (w1 : World), q = w.heap.size ∧ w1 = w.alloc (.cells #[.int .i64 x.id, .int .i64 x.n, .int .i64 x.d] t) ∧ w1.cell? ⟨q, 0, none⟩ = some (.int .i64 x.id) ∧ w1.cell? ⟨q, 1, none⟩ = some (.int .i64 x.n) ∧ w1.cell? ⟨q, 2, none⟩ = some (.int .i64 x.d) ∧ Ext w w1 :=
  ⟨_, _, rfl, rfl, by go_simp, by go_simp, by go_simp, (Ext.refl _).alloc _⟩
set_option maxRecDepth 100000 in
set_option maxHeartbeats 1600000 in
theorem rk_fits (g : GraphG) (l : List Sh) (ok ok' : Nat → Prop) (A B S : Option Addr) (c d e : Nat) (w : World) (hg : Nodes w ok A g.nodes) (hl : Shares w ok' S l) :
    Calls Tryd.prog 44 #[.agg #[.slice A g.nodes.length c, .slice B g.edges.length d, .int .i64 g.nn, .int .i64 g.ne], .slice S l.length e] w fun e w' => e = .returned (.bool (fitsB g l)) ∧ Ext w w' := by
  have hm := hl.len
  have hmn := hg.len
  obtain ⟨q, w1, hq, hw1, g0, g1, g2, g3, hx1⟩ := box_graph w A B c d g 34
  have HW1 := Lib.hid hw1
  have HG := Lib.hid hq
  have HN := Lib.hid (hg.ext hx1)
  have HL := Lib.hid (hl.ext hx1)
  have HNO := Lib.hid (fitsB_no (g := g) (l := l))
  have HYE := Lib.hid (fitsB_iff (g := g) (l := l)).2
  generalize fitsB g l = R at *
  clear hw1 hq hg hl
  by_cases hlen : l.length = g.nodes.length
  · have HLEN := Lib.hid hlen
    have hln1 : l.length ≤ g.nodes.length := by omega
    have hne : ((l.length : Int) != (g.nodes.length : Int)) = false := by simp [hlen]
    clear hlen
    go_enter Tryd.func44, Tryd.ntmps44
    go_upto_region 1 with (fail)
    rw [← HW1.out, ← HG.out]
    clear HW1 HG
    go_wp2_with fail
    clear hne
    go_loopw [15] (fun u W => ∃ k : Nat, u = .int .i64 k ∧ k ≤ l.length ∧ Hid (∀ t < k, l[t]!.id = g.nodes[t]!.id ∧ validB l[t]!.n l[t]!.d = true) ∧ Ext w1 W) (fun u _ => l.length - (intOf u).toNat)
    case atStart => exact ⟨0, rfl, Nat.zero_le _, Lib.hid (fun t ht => absurd ht (by omega)), Ext.refl _⟩
    case round =>
      obtain ⟨k, rfl, hk, hgd, hE⟩ := hrel
      by_cases hlt : k < l.length
      · obtain ⟨bs, os, rfl, hcs⟩ := HL.out.at_ hlt
        obtain ⟨bn, on, rfl, hcn⟩ := HN.out.at_ (i := k) (by omega)
        obtain ⟨-, a0, a1, a2⟩ := hcs k hlt
        obtain ⟨-, b0, -⟩ := hcn k (by omega)
        replace a0 := hE.cell a0
        replace a1 := hE.cell a1
        replace a2 := hE.cell a2
        replace b0 := hE.cell b0
        have G0 := hE.cell g0
        have HS := Lib.hid (fun (h : l[k]!.id = g.nodes[k]!.id ∧ validB l[k]!.n l[k]!.d = true) t (ht : t < k + 1) => (if e : t = k then (by rw [e]; exact h) else hgd.out t (by omega) : l[t]!.id = g.nodes[t]!.id ∧ validB l[t]!.n l[t]!.d = true))
        have HX := Lib.hid (fun (h : ¬ (l[k]!.id = g.nodes[k]!.id ∧ validB l[k]!.n l[k]!.d = true)) => HNO.out (fun hh => h (hh.2 k hlt)))
        have q1 : (k : Int) < (g.nodes.length : Int) := by omega
        have q2 : k < g.nodes.length := by omega
        obtain ⟨q2x, w2, hq2, hw2, n0, n1, n2, hx2⟩ := box_share wr l[k]! 42
        have HW2 := Lib.hid hw2
        have HQ2 := Lib.hid hq2
        have B0 := hx2.cell b0
        have GG0 := hx2.cell G0
        have HC := Lib.hid (fun W => frac_Valid l[k]!.n l[k]!.d W)
        have hE2 := hE.trans hx2
        clear hcs hcn hgd hw2 hq2 HYE HNO
        generalize l[k]! = x at *
        generalize g.nodes[k]!.id = y at *
        generalize validB x.n x.d = v at *
        by_cases he : x.id = y
        · have he2 : (x.id != y) = false := by rw [he]; exact bne_self_eq_false' (a := y)
          cases v
          · have HT := Lib.hid (HX.out (fun h => by cases h.2))
            clear HS HX he
            go_upto_region 6 with (fail)
            rw [← HW2.out, ← HQ2.out]
            clear HW2 HQ2 G0 b0
            have MKR1 := Lib.hid (fun V (e : Ext w2 V) => (⟨e.cell n0, e.cell n1, e.cell n2, e.cell GG0, e.cell B0, e⟩ : V.cell? ⟨q2x, 0, none⟩ = some (.int .i64 x.id) ∧ V.cell? ⟨q2x, 1, none⟩ = some (.int .i64 x.n) ∧ V.cell? ⟨q2x, 2, none⟩ = some (.int .i64 x.d) ∧ V.cell? ⟨q, 0, none⟩ = some (.slice (some ⟨bn, on, none⟩) g.nodes.length c) ∧ V.cell? ⟨bn, on + k * 3, none⟩ = some (.int .i64 y) ∧ Ext w2 V))
            refine wp_region_held_drew (S := (fun V => V.cell? ⟨q2x, 0, none⟩ = some (.int .i64 x.id) ∧ V.cell? ⟨q2x, 1, none⟩ = some (.int .i64 x.n) ∧ V.cell? ⟨q2x, 2, none⟩ = some (.int .i64 x.d) ∧ V.cell? ⟨q, 0, none⟩ = some (.slice (some ⟨bn, on, none⟩) g.nodes.length c) ∧ V.cell? ⟨bn, on + k * 3, none⟩ = some (.int .i64 y) ∧ Ext w2 V)) (by kernel_rfl) ?hs1 (fun hHeld => ?go1)
            case hs1 => (exact MKR1.out _ (by with_reducible repeat (first | exact Ext.refl _ | assumption | refine Ext.drew ?_ | refine Ext.drewN ?_ _ | refine Ext.alloc ?_ _)))
            refine wpAnyH_take (i := 0) (oi := ⟨(some 20), (.fieldAddr 42 (.tmp 6) 0), 0, "rank.go:60", #[], none⟩) (v := ?v2) rfl (by kernel_rfl) (by kernel_rfl) (by kernel_rfl) (fun _ _ _ h => h) (Or.inl ⟨rfl, ?hy2⟩) hHeld ?rest2
            case hy2 => (intro w _; go_simp <;> rfl)
            (try simp only [PU])
            refine wpAnyH_take (i := 1) (oi := ⟨(some 21), (.load 3 (.tmp 20)), 3, "rank.go:60", #[⟨0, .data⟩], none⟩) (v := ?v3) rfl (by kernel_rfl) (by kernel_rfl) (by kernel_rfl) (fun _ _ _ h => h) (Or.inl ⟨rfl, ?hy3⟩) hHeld ?rest3
            case hy3 => (intro w hSw; (try dsimp only at hSw); go_simp <;> first | with_reducible rfl | rw [if_neg (by omega)] | rw [if_pos (by omega)])
            (try simp only [PU])
            refine wpAnyH_take (i := 2) (oi := ⟨(some 22), (.fieldAddr 34 (.tmp 2) 0), 0, "rank.go:60", #[], none⟩) (v := ?v4) rfl (by kernel_rfl) (by kernel_rfl) (by kernel_rfl) (fun _ _ _ h => h) (Or.inl ⟨rfl, ?hy4⟩) hHeld ?rest4
            case hy4 => (intro w _; go_simp <;> rfl)
            (try simp only [PU])
            refine wpAnyH_take (i := 3) (oi := ⟨(some 23), (.load 31 (.tmp 22)), 31, "rank.go:60", #[⟨2, .data⟩], none⟩) (v := ?v5) rfl (by kernel_rfl) (by kernel_rfl) (by kernel_rfl) (fun _ _ _ h => h) (Or.inl ⟨rfl, ?hy5⟩) hHeld ?rest5
            case hy5 => (intro w hSw; (try dsimp only at hSw); go_simp <;> first | with_reducible rfl | rw [if_neg (by omega)] | rw [if_pos (by omega)])
            (try simp only [PU])
            refine wpAnyH_take (i := 4) (oi := ⟨(some 24), (.move (.tmp 5)), 3, "rank.go:60", #[], none⟩) (v := ?v6) rfl (by kernel_rfl) (by kernel_rfl) (by kernel_rfl) (fun _ _ _ h => h) (Or.inl ⟨rfl, ?hy6⟩) hHeld ?rest6
            case hy6 => (intro w _; go_simp <;> rfl)
            (try simp only [PU])
            refine wpAnyH_take (i := 5) (oi := ⟨(some 25), (.indexAddr 31 (.tmp 23) (.tmp 24)), 0, "rank.go:60", #[⟨3, .data⟩, ⟨4, .data⟩], none⟩) (v := ?v7) rfl (by kernel_rfl) (by kernel_rfl) (by kernel_rfl) (fun _ _ _ h => h) (Or.inl ⟨rfl, ?hy7⟩) hHeld ?rest7
            case hy7 => (intro w _; go_simp <;> first | with_reducible rfl | rw [if_neg (by omega)] | rw [if_pos (by omega)])
            (try simp only [PU])
            refine wpAnyH_take (i := 6) (oi := ⟨(some 26), (.fieldAddr 45 (.tmp 25) 0), 0, "rank.go:60", #[⟨5, .data⟩], none⟩) (v := ?v8) rfl (by kernel_rfl) (by kernel_rfl) (by kernel_rfl) (fun _ _ _ h => h) (Or.inl ⟨rfl, ?hy8⟩) hHeld ?rest8
            case hy8 => (intro w _; go_simp <;> rfl)
            (try simp only [PU])
            refine wpAnyH_take (i := 7) (oi := ⟨(some 27), (.load 3 (.tmp 26)), 3, "rank.go:60", #[⟨6, .data⟩], none⟩) (v := ?v9) rfl (by kernel_rfl) (by kernel_rfl) (by kernel_rfl) (fun _ _ _ h => h) (Or.inl ⟨rfl, ?hy9⟩) hHeld ?rest9
            case hy9 => (intro w hSw; (try dsimp only at hSw); go_simp <;> first | with_reducible rfl | rw [if_neg (by omega)] | rw [if_pos (by omega)])
            (try simp only [PU])
            refine wpAnyH_take (i := 8) (oi := ⟨(some 28), (.binOp .neq 3 (.tmp 21) (.tmp 27) 3), 4, "rank.go:60", #[⟨1, .data⟩, ⟨7, .data⟩], none⟩) (v := ?v10) rfl (by kernel_rfl) (by kernel_rfl) (by kernel_rfl) (fun _ _ _ h => h) (Or.inl ⟨rfl, ?hy10⟩) hHeld ?rest10
            case hy10 => (intro w _; go_simp <;> first | with_reducible rfl | rw [if_neg (by omega)] | rw [if_pos (by omega)])
            (try simp only [PU])
            refine wpAnyH_take (i := 9) (oi := ⟨(some 29), (.move (.tmp 28)), 4, "rank.go:60", #[⟨8, .data⟩], none⟩) (v := ?v11) rfl (by kernel_rfl) (by kernel_rfl) (by kernel_rfl) (fun _ _ _ h => h) (Or.inl ⟨rfl, ?hy11⟩) hHeld ?rest11
            case hy11 => (intro w _; go_simp <;> rfl)
            (try simp only [PU])
            refine wpAnyH_take (i := 10) (oi := ⟨(some 30), (.fieldAddr 42 (.tmp 6) 1), 0, "rank.go:60", #[⟨9, .guard⟩], (some (9, false))⟩) (v := ?v12) rfl (by kernel_rfl) (by kernel_rfl) (by kernel_rfl) (fun _ _ _ h => h) (Or.inl ⟨rfl, ?hy12⟩) hHeld ?rest12
            case hy12 => (intro w _; go_simp <;> rfl)
            (try simp only [PU])
            refine wpAnyH_take (i := 11) (oi := ⟨(some 31), (.load 25 (.tmp 30)), 25, "rank.go:60", #[⟨10, .data⟩, ⟨9, .guard⟩], (some (9, false))⟩) (v := ?v13) rfl (by kernel_rfl) (by kernel_rfl) (by kernel_rfl) (fun _ _ _ h => h) (Or.inl ⟨rfl, ?hy13⟩) hHeld ?rest13
            case hy13 => (intro w hSw; (try dsimp only at hSw); go_simp <;> first | with_reducible rfl | rw [if_neg (by omega)] | rw [if_pos (by omega)])
            (try simp only [PU])
            refine wpAnyH_ready (rs := [12]) (by kernel_rfl) (by simp) ?_
            refine AllReadyH.cons (o := ⟨(some 32), (.call { callee := (.value (.func 46)), args := #[(.tmp 31)], argTypes := #[25] }), 4, "rank.go:60", #[⟨11, .data⟩, ⟨9, .chain⟩, ⟨9, .guard⟩], (some (9, false))⟩) rfl (fun K hK => ?step14x0) ?more14x0
            case more14x0 => exact AllReadyH.nil
            go_simp
            (refine (HC.out _).mono ?_; rintro e w3 ⟨rfl, hb3⟩; replace hb3 : Ext w2 w3 := Ext.trans (by with_reducible repeat (first | exact Ext.refl _ | assumption | refine Ext.drew ?_ | refine Ext.drewN ?_ _ | refine Ext.alloc ?_ _)) (of_below hb3))
            refine hK.out _ _ ?hS14x0 (fun hHeld14 => ?rest14x0)
            case hS14x0 => first | (exact MKR1.out _ (by with_reducible repeat (first | exact Ext.refl _ | assumption | refine Ext.drew ?_ | refine Ext.drewN ?_ _ | refine Ext.alloc ?_ _))) | ((try dsimp only); (exact MKR1.out _ (by with_reducible repeat (first | exact Ext.refl _ | assumption | refine Ext.drew ?_ | refine Ext.drewN ?_ _ | refine Ext.alloc ?_ _))))
            clear hK K
            clear hHeld
            (try simp only [PU])
            refine wpAnyH_take (i := 13) (oi := ⟨(some 33), (.unOp .not 4 (.tmp 32)), 4, "rank.go:60", #[⟨12, .data⟩, ⟨9, .guard⟩], (some (9, false))⟩) (v := ?v15) rfl (by kernel_rfl) (by kernel_rfl) (by kernel_rfl) (fun _ _ _ h => h) (Or.inl ⟨rfl, ?hy15⟩) hHeld14 ?rest15
            case hy15 => (intro w _; go_simp <;> first | with_reducible rfl | rw [if_neg (by omega)] | rw [if_pos (by omega)])
            (try simp only [PU])
            refine wpAnyH_take (i := 14) (oi := ⟨(some 34), (.pick (.tmp 29) (.const (.bool true)) (.tmp 33)), 4, "rank.go:60", #[⟨9, .data⟩, ⟨13, .data⟩], none⟩) (v := ?v16) rfl (by kernel_rfl) (by kernel_rfl) (by kernel_rfl) (fun _ _ _ h => h) (Or.inl ⟨rfl, ?hy16⟩) hHeld14 ?rest16
            case hy16 => (intro w _; go_simp <;> rfl)
            (try simp only [PU])
            refine wpAnyH_done (by kernel_rfl) ?_ _
            clear hHeld14
            clear MKR1
            go_wp2_with fail
            go_ret
            exact ⟨ret_bool HT.out.symm, hx1.trans (hE2.trans (by with_reducible repeat (first | exact Ext.refl _ | assumption | refine Ext.drew ?_ | refine Ext.drewN ?_ _ | refine Ext.alloc ?_ _)))⟩
          · have HT := Lib.hid (HS.out ⟨he, rfl⟩)
            clear HS HX he
            go_upto_region 6 with (fail)
            rw [← HW2.out, ← HQ2.out]
            clear HW2 HQ2 G0 b0
            have MKR2 := Lib.hid (fun V (e : Ext w2 V) => (⟨e.cell n0, e.cell n1, e.cell n2, e.cell GG0, e.cell B0, e⟩ : V.cell? ⟨q2x, 0, none⟩ = some (.int .i64 x.id) ∧ V.cell? ⟨q2x, 1, none⟩ = some (.int .i64 x.n) ∧ V.cell? ⟨q2x, 2, none⟩ = some (.int .i64 x.d) ∧ V.cell? ⟨q, 0, none⟩ = some (.slice (some ⟨bn, on, none⟩) g.nodes.length c) ∧ V.cell? ⟨bn, on + k * 3, none⟩ = some (.int .i64 y) ∧ Ext w2 V))
            refine wp_region_held_drew (S := (fun V => V.cell? ⟨q2x, 0, none⟩ = some (.int .i64 x.id) ∧ V.cell? ⟨q2x, 1, none⟩ = some (.int .i64 x.n) ∧ V.cell? ⟨q2x, 2, none⟩ = some (.int .i64 x.d) ∧ V.cell? ⟨q, 0, none⟩ = some (.slice (some ⟨bn, on, none⟩) g.nodes.length c) ∧ V.cell? ⟨bn, on + k * 3, none⟩ = some (.int .i64 y) ∧ Ext w2 V)) (by kernel_rfl) ?hs17 (fun hHeld => ?go17)
            case hs17 => (exact MKR2.out _ (by with_reducible repeat (first | exact Ext.refl _ | assumption | refine Ext.drew ?_ | refine Ext.drewN ?_ _ | refine Ext.alloc ?_ _)))
            refine wpAnyH_take (i := 0) (oi := ⟨(some 20), (.fieldAddr 42 (.tmp 6) 0), 0, "rank.go:60", #[], none⟩) (v := ?v18) rfl (by kernel_rfl) (by kernel_rfl) (by kernel_rfl) (fun _ _ _ h => h) (Or.inl ⟨rfl, ?hy18⟩) hHeld ?rest18
            case hy18 => (intro w _; go_simp <;> rfl)
            (try simp only [PU])
            refine wpAnyH_take (i := 1) (oi := ⟨(some 21), (.load 3 (.tmp 20)), 3, "rank.go:60", #[⟨0, .data⟩], none⟩) (v := ?v19) rfl (by kernel_rfl) (by kernel_rfl) (by kernel_rfl) (fun _ _ _ h => h) (Or.inl ⟨rfl, ?hy19⟩) hHeld ?rest19
            case hy19 => (intro w hSw; (try dsimp only at hSw); go_simp <;> first | with_reducible rfl | rw [if_neg (by omega)] | rw [if_pos (by omega)])
            (try simp only [PU])
            refine wpAnyH_take (i := 2) (oi := ⟨(some 22), (.fieldAddr 34 (.tmp 2) 0), 0, "rank.go:60", #[], none⟩) (v := ?v20) rfl (by kernel_rfl) (by kernel_rfl) (by kernel_rfl) (fun _ _ _ h => h) (Or.inl ⟨rfl, ?hy20⟩) hHeld ?rest20
            case hy20 => (intro w _; go_simp <;> rfl)
            (try simp only [PU])
            refine wpAnyH_take (i := 3) (oi := ⟨(some 23), (.load 31 (.tmp 22)), 31, "rank.go:60", #[⟨2, .data⟩], none⟩) (v := ?v21) rfl (by kernel_rfl) (by kernel_rfl) (by kernel_rfl) (fun _ _ _ h => h) (Or.inl ⟨rfl, ?hy21⟩) hHeld ?rest21
            case hy21 => (intro w hSw; (try dsimp only at hSw); go_simp <;> first | with_reducible rfl | rw [if_neg (by omega)] | rw [if_pos (by omega)])
            (try simp only [PU])
            refine wpAnyH_take (i := 4) (oi := ⟨(some 24), (.move (.tmp 5)), 3, "rank.go:60", #[], none⟩) (v := ?v22) rfl (by kernel_rfl) (by kernel_rfl) (by kernel_rfl) (fun _ _ _ h => h) (Or.inl ⟨rfl, ?hy22⟩) hHeld ?rest22
            case hy22 => (intro w _; go_simp <;> rfl)
            (try simp only [PU])
            refine wpAnyH_take (i := 5) (oi := ⟨(some 25), (.indexAddr 31 (.tmp 23) (.tmp 24)), 0, "rank.go:60", #[⟨3, .data⟩, ⟨4, .data⟩], none⟩) (v := ?v23) rfl (by kernel_rfl) (by kernel_rfl) (by kernel_rfl) (fun _ _ _ h => h) (Or.inl ⟨rfl, ?hy23⟩) hHeld ?rest23
            case hy23 => (intro w _; go_simp <;> first | with_reducible rfl | rw [if_neg (by omega)] | rw [if_pos (by omega)])
            (try simp only [PU])
            refine wpAnyH_take (i := 6) (oi := ⟨(some 26), (.fieldAddr 45 (.tmp 25) 0), 0, "rank.go:60", #[⟨5, .data⟩], none⟩) (v := ?v24) rfl (by kernel_rfl) (by kernel_rfl) (by kernel_rfl) (fun _ _ _ h => h) (Or.inl ⟨rfl, ?hy24⟩) hHeld ?rest24
            case hy24 => (intro w _; go_simp <;> rfl)
            (try simp only [PU])
            refine wpAnyH_take (i := 7) (oi := ⟨(some 27), (.load 3 (.tmp 26)), 3, "rank.go:60", #[⟨6, .data⟩], none⟩) (v := ?v25) rfl (by kernel_rfl) (by kernel_rfl) (by kernel_rfl) (fun _ _ _ h => h) (Or.inl ⟨rfl, ?hy25⟩) hHeld ?rest25
            case hy25 => (intro w hSw; (try dsimp only at hSw); go_simp <;> first | with_reducible rfl | rw [if_neg (by omega)] | rw [if_pos (by omega)])
            (try simp only [PU])
            refine wpAnyH_take (i := 8) (oi := ⟨(some 28), (.binOp .neq 3 (.tmp 21) (.tmp 27) 3), 4, "rank.go:60", #[⟨1, .data⟩, ⟨7, .data⟩], none⟩) (v := ?v26) rfl (by kernel_rfl) (by kernel_rfl) (by kernel_rfl) (fun _ _ _ h => h) (Or.inl ⟨rfl, ?hy26⟩) hHeld ?rest26
            case hy26 => (intro w _; go_simp <;> first | with_reducible rfl | rw [if_neg (by omega)] | rw [if_pos (by omega)])
            (try simp only [PU])
            refine wpAnyH_take (i := 9) (oi := ⟨(some 29), (.move (.tmp 28)), 4, "rank.go:60", #[⟨8, .data⟩], none⟩) (v := ?v27) rfl (by kernel_rfl) (by kernel_rfl) (by kernel_rfl) (fun _ _ _ h => h) (Or.inl ⟨rfl, ?hy27⟩) hHeld ?rest27
            case hy27 => (intro w _; go_simp <;> rfl)
            (try simp only [PU])
            refine wpAnyH_take (i := 10) (oi := ⟨(some 30), (.fieldAddr 42 (.tmp 6) 1), 0, "rank.go:60", #[⟨9, .guard⟩], (some (9, false))⟩) (v := ?v28) rfl (by kernel_rfl) (by kernel_rfl) (by kernel_rfl) (fun _ _ _ h => h) (Or.inl ⟨rfl, ?hy28⟩) hHeld ?rest28
            case hy28 => (intro w _; go_simp <;> rfl)
            (try simp only [PU])
            refine wpAnyH_take (i := 11) (oi := ⟨(some 31), (.load 25 (.tmp 30)), 25, "rank.go:60", #[⟨10, .data⟩, ⟨9, .guard⟩], (some (9, false))⟩) (v := ?v29) rfl (by kernel_rfl) (by kernel_rfl) (by kernel_rfl) (fun _ _ _ h => h) (Or.inl ⟨rfl, ?hy29⟩) hHeld ?rest29
            case hy29 => (intro w hSw; (try dsimp only at hSw); go_simp <;> first | with_reducible rfl | rw [if_neg (by omega)] | rw [if_pos (by omega)])
            (try simp only [PU])
            refine wpAnyH_ready (rs := [12]) (by kernel_rfl) (by simp) ?_
            refine AllReadyH.cons (o := ⟨(some 32), (.call { callee := (.value (.func 46)), args := #[(.tmp 31)], argTypes := #[25] }), 4, "rank.go:60", #[⟨11, .data⟩, ⟨9, .chain⟩, ⟨9, .guard⟩], (some (9, false))⟩) rfl (fun K hK => ?step30x0) ?more30x0
            case more30x0 => exact AllReadyH.nil
            go_simp
            (refine (HC.out _).mono ?_; rintro e w3 ⟨rfl, hb3⟩; replace hb3 : Ext w2 w3 := Ext.trans (by with_reducible repeat (first | exact Ext.refl _ | assumption | refine Ext.drew ?_ | refine Ext.drewN ?_ _ | refine Ext.alloc ?_ _)) (of_below hb3))
            refine hK.out _ _ ?hS30x0 (fun hHeld30 => ?rest30x0)
            case hS30x0 => first | (exact MKR2.out _ (by with_reducible repeat (first | exact Ext.refl _ | assumption | refine Ext.drew ?_ | refine Ext.drewN ?_ _ | refine Ext.alloc ?_ _))) | ((try dsimp only); (exact MKR2.out _ (by with_reducible repeat (first | exact Ext.refl _ | assumption | refine Ext.drew ?_ | refine Ext.drewN ?_ _ | refine Ext.alloc ?_ _))))
            clear hK K
            clear hHeld
            (try simp only [PU])
            refine wpAnyH_take (i := 13) (oi := ⟨(some 33), (.unOp .not 4 (.tmp 32)), 4, "rank.go:60", #[⟨12, .data⟩, ⟨9, .guard⟩], (some (9, false))⟩) (v := ?v31) rfl (by kernel_rfl) (by kernel_rfl) (by kernel_rfl) (fun _ _ _ h => h) (Or.inl ⟨rfl, ?hy31⟩) hHeld30 ?rest31
            case hy31 => (intro w _; go_simp <;> first | with_reducible rfl | rw [if_neg (by omega)] | rw [if_pos (by omega)])
            (try simp only [PU])
            refine wpAnyH_take (i := 14) (oi := ⟨(some 34), (.pick (.tmp 29) (.const (.bool true)) (.tmp 33)), 4, "rank.go:60", #[⟨9, .data⟩, ⟨13, .data⟩], none⟩) (v := ?v32) rfl (by kernel_rfl) (by kernel_rfl) (by kernel_rfl) (fun _ _ _ h => h) (Or.inl ⟨rfl, ?hy32⟩) hHeld30 ?rest32
            case hy32 => (intro w _; go_simp <;> rfl)
            (try simp only [PU])
            refine wpAnyH_done (by kernel_rfl) ?_ _
            clear hHeld30
            clear MKR2
            go_wp2_with fail
            go_roundw
            case rel => exact ⟨k + 1, by go_num, by omega, HT, hE2.trans (by with_reducible repeat (first | exact Ext.refl _ | assumption | refine Ext.drew ?_ | refine Ext.drewN ?_ _ | refine Ext.alloc ?_ _))⟩
            case measure => simp [intOf]; omega
        · have he2 : (x.id != y) = true := bne_iff_ne.2 he
          have HT := Lib.hid (HX.out (fun h => he h.1))
          clear HS HX he
          go_upto_region 6 with (fail)
          rw [← HW2.out, ← HQ2.out]
          clear HW2 HQ2 G0 b0
          have MKR3 := Lib.hid (fun V (e : Ext w2 V) => (⟨e.cell n0, e.cell GG0, e.cell B0, e⟩ : V.cell? ⟨q2x, 0, none⟩ = some (.int .i64 x.id) ∧ V.cell? ⟨q, 0, none⟩ = some (.slice (some ⟨bn, on, none⟩) g.nodes.length c) ∧ V.cell? ⟨bn, on + k * 3, none⟩ = some (.int .i64 y) ∧ Ext w2 V))
          refine wp_region_held_drew (S := (fun V => V.cell? ⟨q2x, 0, none⟩ = some (.int .i64 x.id) ∧ V.cell? ⟨q, 0, none⟩ = some (.slice (some ⟨bn, on, none⟩) g.nodes.length c) ∧ V.cell? ⟨bn, on + k * 3, none⟩ = some (.int .i64 y) ∧ Ext w2 V)) (by kernel_rfl) ?hs33 (fun hHeld => ?go33)
          case hs33 => (exact MKR3.out _ (by with_reducible repeat (first | exact Ext.refl _ | assumption | refine Ext.drew ?_ | refine Ext.drewN ?_ _ | refine Ext.alloc ?_ _)))
          refine wpAnyH_take (i := 0) (oi := ⟨(some 20), (.fieldAddr 42 (.tmp 6) 0), 0, "rank.go:60", #[], none⟩) (v := ?v34) rfl (by kernel_rfl) (by kernel_rfl) (by kernel_rfl) (fun _ _ _ h => h) (Or.inl ⟨rfl, ?hy34⟩) hHeld ?rest34
          case hy34 => (intro w _; go_simp <;> rfl)
          (try simp only [PU])
          refine wpAnyH_take (i := 1) (oi := ⟨(some 21), (.load 3 (.tmp 20)), 3, "rank.go:60", #[⟨0, .data⟩], none⟩) (v := ?v35) rfl (by kernel_rfl) (by kernel_rfl) (by kernel_rfl) (fun _ _ _ h => h) (Or.inl ⟨rfl, ?hy35⟩) hHeld ?rest35
          case hy35 => (intro w hSw; (try dsimp only at hSw); go_simp <;> first | with_reducible rfl | rw [if_neg (by omega)] | rw [if_pos (by omega)])
          (try simp only [PU])
          refine wpAnyH_take (i := 2) (oi := ⟨(some 22), (.fieldAddr 34 (.tmp 2) 0), 0, "rank.go:60", #[], none⟩) (v := ?v36) rfl (by kernel_rfl) (by kernel_rfl) (by kernel_rfl) (fun _ _ _ h => h) (Or.inl ⟨rfl, ?hy36⟩) hHeld ?rest36
          case hy36 => (intro w _; go_simp <;> rfl)
          (try simp only [PU])
          refine wpAnyH_take (i := 3) (oi := ⟨(some 23), (.load 31 (.tmp 22)), 31, "rank.go:60", #[⟨2, .data⟩], none⟩) (v := ?v37) rfl (by kernel_rfl) (by kernel_rfl) (by kernel_rfl) (fun _ _ _ h => h) (Or.inl ⟨rfl, ?hy37⟩) hHeld ?rest37
          case hy37 => (intro w hSw; (try dsimp only at hSw); go_simp <;> first | with_reducible rfl | rw [if_neg (by omega)] | rw [if_pos (by omega)])
          (try simp only [PU])
          refine wpAnyH_take (i := 4) (oi := ⟨(some 24), (.move (.tmp 5)), 3, "rank.go:60", #[], none⟩) (v := ?v38) rfl (by kernel_rfl) (by kernel_rfl) (by kernel_rfl) (fun _ _ _ h => h) (Or.inl ⟨rfl, ?hy38⟩) hHeld ?rest38
          case hy38 => (intro w _; go_simp <;> rfl)
          (try simp only [PU])
          refine wpAnyH_take (i := 5) (oi := ⟨(some 25), (.indexAddr 31 (.tmp 23) (.tmp 24)), 0, "rank.go:60", #[⟨3, .data⟩, ⟨4, .data⟩], none⟩) (v := ?v39) rfl (by kernel_rfl) (by kernel_rfl) (by kernel_rfl) (fun _ _ _ h => h) (Or.inl ⟨rfl, ?hy39⟩) hHeld ?rest39
          case hy39 => (intro w _; go_simp <;> first | with_reducible rfl | rw [if_neg (by omega)] | rw [if_pos (by omega)])
          (try simp only [PU])
          refine wpAnyH_take (i := 6) (oi := ⟨(some 26), (.fieldAddr 45 (.tmp 25) 0), 0, "rank.go:60", #[⟨5, .data⟩], none⟩) (v := ?v40) rfl (by kernel_rfl) (by kernel_rfl) (by kernel_rfl) (fun _ _ _ h => h) (Or.inl ⟨rfl, ?hy40⟩) hHeld ?rest40
          case hy40 => (intro w _; go_simp <;> rfl)
          (try simp only [PU])
          refine wpAnyH_take (i := 7) (oi := ⟨(some 27), (.load 3 (.tmp 26)), 3, "rank.go:60", #[⟨6, .data⟩], none⟩) (v := ?v41) rfl (by kernel_rfl) (by kernel_rfl) (by kernel_rfl) (fun _ _ _ h => h) (Or.inl ⟨rfl, ?hy41⟩) hHeld ?rest41
          case hy41 => (intro w hSw; (try dsimp only at hSw); go_simp <;> first | with_reducible rfl | rw [if_neg (by omega)] | rw [if_pos (by omega)])
          (try simp only [PU])
          refine wpAnyH_take (i := 8) (oi := ⟨(some 28), (.binOp .neq 3 (.tmp 21) (.tmp 27) 3), 4, "rank.go:60", #[⟨1, .data⟩, ⟨7, .data⟩], none⟩) (v := ?v42) rfl (by kernel_rfl) (by kernel_rfl) (by kernel_rfl) (fun _ _ _ h => h) (Or.inl ⟨rfl, ?hy42⟩) hHeld ?rest42
          case hy42 => (intro w _; go_simp <;> first | with_reducible rfl | rw [if_neg (by omega)] | rw [if_pos (by omega)])
          (try simp only [PU])
          refine wpAnyH_take (i := 9) (oi := ⟨(some 29), (.move (.tmp 28)), 4, "rank.go:60", #[⟨8, .data⟩], none⟩) (v := ?v43) rfl (by kernel_rfl) (by kernel_rfl) (by kernel_rfl) (fun _ _ _ h => h) (Or.inl ⟨rfl, ?hy43⟩) hHeld ?rest43
          case hy43 => (intro w _; go_simp <;> rfl)
          (try simp only [PU])
          refine wpAnyH_take (i := 10) (oi := ⟨(some 30), (.fieldAddr 42 (.tmp 6) 1), 0, "rank.go:60", #[⟨9, .guard⟩], (some (9, false))⟩) (v := undef) rfl (by kernel_rfl) (by kernel_rfl) (by kernel_rfl) (fun _ _ _ h => h) (Or.inr ⟨rfl, rfl⟩) hHeld ?rest44
          (try simp only [PU])
          refine wpAnyH_take (i := 11) (oi := ⟨(some 31), (.load 25 (.tmp 30)), 25, "rank.go:60", #[⟨10, .data⟩, ⟨9, .guard⟩], (some (9, false))⟩) (v := undef) rfl (by kernel_rfl) (by kernel_rfl) (by kernel_rfl) (fun _ _ _ h => h) (Or.inr ⟨rfl, rfl⟩) hHeld ?rest45
          (try simp only [PU])
          refine wpAnyH_take (i := 12) (oi := ⟨(some 32), (.call { callee := (.value (.func 46)), args := #[(.tmp 31)], argTypes := #[25] }), 4, "rank.go:60", #[⟨11, .data⟩, ⟨9, .chain⟩, ⟨9, .guard⟩], (some (9, false))⟩) (v := undef) rfl (by kernel_rfl) (by kernel_rfl) (by kernel_rfl) (fun _ _ _ h => h) (Or.inr ⟨rfl, rfl⟩) hHeld ?rest46
          (try simp only [PU])
          refine wpAnyH_take (i := 13) (oi := ⟨(some 33), (.unOp .not 4 (.tmp 32)), 4, "rank.go:60", #[⟨12, .data⟩, ⟨9, .guard⟩], (some (9, false))⟩) (v := undef) rfl (by kernel_rfl) (by kernel_rfl) (by kernel_rfl) (fun _ _ _ h => h) (Or.inr ⟨rfl, rfl⟩) hHeld ?rest47
          (try simp only [PU])
          refine wpAnyH_take (i := 14) (oi := ⟨(some 34), (.pick (.tmp 29) (.const (.bool true)) (.tmp 33)), 4, "rank.go:60", #[⟨9, .data⟩, ⟨13, .data⟩], none⟩) (v := ?v48) rfl (by kernel_rfl) (by kernel_rfl) (by kernel_rfl) (fun _ _ _ h => h) (Or.inl ⟨rfl, ?hy48⟩) hHeld ?rest48
          case hy48 => (intro w _; go_simp <;> rfl)
          (try simp only [PU])
          refine wpAnyH_done (by kernel_rfl) ?_ _
          clear hHeld
          clear MKR3
          go_wp2_with fail
          go_ret
          exact ⟨ret_bool HT.out.symm, hx1.trans (hE2.trans (by with_reducible repeat (first | exact Ext.refl _ | assumption | refine Ext.drew ?_ | refine Ext.drewN ?_ _ | refine Ext.alloc ?_ _)))⟩
      · have HT := Lib.hid (HYE.out ⟨HLEN.out, fun t ht => hgd.out t (by omega)⟩)
        clear HYE HNO hgd
        go_wp2_with fail
        go_ret
        exact ⟨ret_bool HT.out.symm, hx1.trans hE⟩
  · have HT := Lib.hid (HNO.out (fun h => hlen h.1))
    have hne : ((l.length : Int) != (g.nodes.length : Int)) = true := by rw [bne_iff_ne]; omega
    clear HYE HNO hlen
    go_enter Tryd.func44, Tryd.ntmps44
    go_upto_region 1 with (fail)
    rw [← HW1.out, ← HG.out]
    clear HW1 HG
    go_wp2_with fail
    go_ret
    exact ⟨ret_bool HT.out.symm, hx1⟩
end Go.Proofs.YtlkpmbkmmfoakaaDoor
