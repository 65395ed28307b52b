/- PARTS OF THE WALKS, joined: FracCmp, Rc, Rd. -/
import Derived.Test.YtbjddimafilflaaGreatDoorP12
import Derived.Test.YtbjddimafilflaaGreatDoorP11
/- THE WALK over the reference's Cmp, by itself. -/
namespace Go.Proofs.YtbjddimafilflaaGreatDoor
open Go.RowKit
theorem sgn_casesT (x : Int) : sgn x = -1 ∨ sgn x = 0 ∨ sgn x = 1 := by
  unfold sgn; split <;> (try split) <;> omega
theorem sgn_negT (x : Int) : sgn (-x) = -sgn x := by
  unfold sgn; split <;> split <;> (try split) <;> omega
theorem fixD_pos (n d : Int) : 1 ≤ fixD n d := by
  unfold fixD
  cases h : validB n d
  · simp
  · exact (validB_iff.1 h).1
theorem wrap_neg_sgn (c : Int) : IntKind.i64.wrap (-sgn c) = sgn (-c) := by
  rw [sgn_negT]; rcases sgn_casesT c with h | h | h <;> rw [h] <;> decide
set_option maxRecDepth 100000 in
set_option maxHeartbeats 6400000 in
theorem r3_Cmp (an ad bn bd : Int) (w : World) :
    Calls Tryz.prog 87 #[.agg #[.int .i64 an, .int .i64 ad], .agg #[.int .i64 bn, .int .i64 bd]] w fun e w' => e = .returned (.int .i64 (cmpS an ad bn bd)) ∧ Below w.heap.size w w' := by
  obtain ⟨⟨x1, x2⟩, x3, x4⟩ := fix_bounds an ad
  obtain ⟨⟨y1, y2⟩, y3, y4⟩ := fix_bounds bn bd
  have B1 := fixD_pos an ad
  have D1 := fixD_pos bn bd
  have HR : Hid (cmpS an ad bn bd = sgn (fixN an ad * fixD bn bd + -fixN bn bd * fixD an ad)) := by
    show _ = _
    unfold cmpS; congr 1; rw [Int.neg_mul]; omega
  generalize cmpS an ad bn bd = R at *
  obtain ⟨A, hA⟩ : ∃ A, Hid (fixN an ad = A) := ⟨_, rfl⟩
  obtain ⟨B, hB⟩ : ∃ B, Hid (fixD an ad = B) := ⟨_, rfl⟩
  obtain ⟨C, hC⟩ : ∃ C, Hid (fixN bn bd = C) := ⟨_, rfl⟩
  obtain ⟨D, hD⟩ : ∃ D, Hid (fixD bn bd = D) := ⟨_, rfl⟩
  rw [hA.out, hB.out, hC.out, hD.out] at HR
  rw [hA.out] at x1 x2
  rw [hB.out] at x3 x4 B1
  rw [hC.out] at y1 y2
  rw [hD.out] at y3 y4 D1
  cases ha : validB an ad <;> cases hb : validB bn bd
  · have hSt : Hid (∀ V, CmpSt w 0 1 0 1 V → CmpSt w A B C D V) := by
      intro V hV
      rw [← hA.out, ← hB.out, ← hC.out, ← hD.out, (fix_no ha).1, (fix_no ha).2, (fix_no hb).1, (fix_no hb).2]
      exact hV
    go_enter Tryz.func87, Tryz.ntmps87
    go_wp2_with fail
    refine (r3_Valid _ _ _).mono ?_
    rintro e w' ⟨rfl, hbb⟩
    obtain ⟨hc, hf⟩ := bcell hbb
    have c0 : w'.cell? ⟨w.heap.size, 0, none⟩ = some (.int .i64 an) := (hc _ _ (by first | omega | (simp; done) | (simp; omega))).trans (by go_simp); have f0 : w'.frozen? ⟨w.heap.size, 0, none⟩ = false := (hf _ _ (by first | omega | (simp; done) | (simp; omega))).trans (by go_simp); have c1 : w'.cell? ⟨w.heap.size, 1, none⟩ = some (.int .i64 ad) := (hc _ _ (by first | omega | (simp; done) | (simp; omega))).trans (by go_simp); have f1 : w'.frozen? ⟨w.heap.size, 1, none⟩ = false := (hf _ _ (by first | omega | (simp; done) | (simp; omega))).trans (by go_simp); have c2 : w'.cell? ⟨w.heap.size + 1, 0, none⟩ = some (.int .i64 bn) := (hc _ _ (by first | omega | (simp; done) | (simp; omega))).trans (by go_simp); have f2 : w'.frozen? ⟨w.heap.size + 1, 0, none⟩ = false := (hf _ _ (by first | omega | (simp; done) | (simp; omega))).trans (by go_simp); have c3 : w'.cell? ⟨w.heap.size + 1, 1, none⟩ = some (.int .i64 bd) := (hc _ _ (by first | omega | (simp; done) | (simp; omega))).trans (by go_simp); have f3 : w'.frozen? ⟨w.heap.size + 1, 1, none⟩ = false := (hf _ _ (by first | omega | (simp; done) | (simp; omega))).trans (by go_simp); have hz : w.heap.size + 1 < w'.heap.size := (by have hs := hbb.size; first | omega | (simp at hs; done) | (simp at hs; omega)); have hbA : Below w.heap.size w w' := Below.trans (b := _) (by repeat (first | with_reducible exact Below.refl _ _ | with_reducible assumption | with_reducible refine below_drewN' ?_ _ | (with_reducible refine Below.setCell ?_ (by first | (simp; done) | (simp; omega)) _) | (with_reducible refine Below.alloc ?_ (by first | exact Nat.le_refl _ | (simp; done) | (simp; omega)) _))) (hbb.mono (by first | omega | (simp; done) | (simp; omega))); clear hc hf hbb
    go_wp2_with fail
    refine (r3_Valid _ _ _).mono ?_
    rintro e w' ⟨rfl, hbb⟩
    obtain ⟨hc, hf⟩ := bcell hbb
    have c0 : w'.cell? ⟨w.heap.size, 0, none⟩ = some (.int .i64 0) := (hc _ _ (by first | omega | (simp; done) | (simp; omega))).trans (by go_simp); have f0 : w'.frozen? ⟨w.heap.size, 0, none⟩ = false := (hf _ _ (by first | omega | (simp; done) | (simp; omega))).trans (by go_simp); have c1 : w'.cell? ⟨w.heap.size, 1, none⟩ = some (.int .i64 1) := (hc _ _ (by first | omega | (simp; done) | (simp; omega))).trans (by go_simp); have f1 : w'.frozen? ⟨w.heap.size, 1, none⟩ = false := (hf _ _ (by first | omega | (simp; done) | (simp; omega))).trans (by go_simp); have c2 : w'.cell? ⟨w.heap.size + 1, 0, none⟩ = some (.int .i64 bn) := (hc _ _ (by first | omega | (simp; done) | (simp; omega))).trans (by go_simp); have f2 : w'.frozen? ⟨w.heap.size + 1, 0, none⟩ = false := (hf _ _ (by first | omega | (simp; done) | (simp; omega))).trans (by go_simp); have c3 : w'.cell? ⟨w.heap.size + 1, 1, none⟩ = some (.int .i64 bd) := (hc _ _ (by first | omega | (simp; done) | (simp; omega))).trans (by go_simp); have f3 : w'.frozen? ⟨w.heap.size + 1, 1, none⟩ = false := (hf _ _ (by first | omega | (simp; done) | (simp; omega))).trans (by go_simp); have hz : w.heap.size + 1 < w'.heap.size := (by have hs := hbb.size; first | omega | (simp at hs; done) | (simp at hs; omega)); have hbA : Below w.heap.size w w' := Below.trans (b := _) (by repeat (first | with_reducible exact Below.refl _ _ | with_reducible assumption | with_reducible refine below_drewN' ?_ _ | (with_reducible refine Below.setCell ?_ (by first | (simp; done) | (simp; omega)) _) | (with_reducible refine Below.alloc ?_ (by first | exact Nat.le_refl _ | (simp; done) | (simp; omega)) _))) (hbb.mono (by first | omega | (simp; done) | (simp; omega))); clear hc hf hbb
    go_wp2_with fail
    refine forget_world (CmpSt w 0 1 0 1) ⟨(by repeat (first | with_reducible exact Below.refl _ _ | with_reducible assumption | with_reducible refine below_drewN' ?_ _ | (with_reducible refine Below.setCell ?_ (by first | (simp; done) | (simp; omega)) _) | (with_reducible refine Below.alloc ?_ (by first | exact Nat.le_refl _ | (simp; done) | (simp; omega)) _))), by first | (go_simp; done) | (simp; omega), by go_simp, by go_simp, by go_simp, by go_simp⟩ ?_
    clear c0 c1 c2 c3 f0 f1 f2 f3 hz hbA
    intro V hV
    have hV2 := hSt.out V hV
    clear hV hSt hA hB hC hD ha hb
    have J1 := wrap_neg_sgn C
    go_region_held3 (fun V => V.cell? ⟨w.heap.size, 0, none⟩ = some (.int .i64 A) ∧ V.cell? ⟨w.heap.size, 1, none⟩ = some (.int .i64 B) ∧ V.cell? ⟨w.heap.size + 1, 0, none⟩ = some (.int .i64 C) ∧ V.cell? ⟨w.heap.size + 1, 1, none⟩ = some (.int .i64 D) ∧ CmpSt w A B C D V) (first | exact (CmpSt.drew hV2).conj | exact CmpSt.conj (by assumption)) (first | (go_at_call 101; refine (r3_sign _ _).mono ?_; rintro e w' ⟨rfl, rfl⟩; have hst := ‹_ ∧ _ ∧ _ ∧ _ ∧ CmpSt _ _ _ _ _ _›.2.2.2.2) | (go_at_call 103; refine (r3_size _ _ (by omega) (by omega)).mono ?_; rintro e w' ⟨rfl, rfl⟩; have hst := ‹_ ∧ _ ∧ _ ∧ _ ∧ CmpSt _ _ _ _ _ _›.2.2.2.2) | (go_at_call 102; refine (r3_times_i _ _ _ ⟨by omega, by omega⟩ ⟨by omega, by omega⟩).mono ?_; rintro e w' ⟨gg, ff, rfl, hlt, hrow, hsm, hval, hbb⟩; have hst := CmpSt.step (‹_ ∧ _ ∧ _ ∧ _ ∧ CmpSt _ _ _ _ _ _›.2.2.2.2) hbb; have HVAL := Lib.hid hval; clear hval) | (go_at_call 100; refine Calls.mono (r3_sum_of A (-C) D B _ _ ?fx0 ?fy0 _ ?hx0 ?hy0 ?sx0 ?sy0 ?vx0 ?vy0 ⟨x1, x2⟩ ⟨by omega, by omega⟩ ⟨D1, y4⟩ ⟨B1, x4⟩) ?_; (case hx0 => first | assumption | exact RowW.step (by assumption) (by assumption)); (case hy0 => first | assumption | exact RowW.step (by assumption) (by assumption)); (case sx0 => assumption); (case sy0 => assumption); (case vx0 => assumption); (case vy0 => exact Lib.hid ((Hid.out HVAL).trans (by rw [Int.natAbs_natCast, Int.natAbs_neg]))); rintro e w' ⟨gg, ff, rfl, hrow, hsm, hval, hbb⟩; have hst := CmpSt.step (‹_ ∧ _ ∧ _ ∧ _ ∧ CmpSt _ _ _ _ _ _›.2.2.2.2) hbb; have HVAL := Lib.hid hval; clear hval))
    all_goals go_wp2_with fail
    all_goals go_ret
    all_goals exact ⟨ret_int HR.out.symm, (‹_ ∧ _ ∧ _ ∧ _ ∧ CmpSt _ _ _ _ _ _›.2.2.2.2).1⟩
  · have hSt : Hid (∀ V, CmpSt w 0 1 bn bd V → CmpSt w A B C D V) := by
      intro V hV
      rw [← hA.out, ← hB.out, ← hC.out, ← hD.out, (fix_no ha).1, (fix_no ha).2, (fix_yes hb).1, (fix_yes hb).2]
      exact hV
    go_enter Tryz.func87, Tryz.ntmps87
    go_wp2_with fail
    refine (r3_Valid _ _ _).mono ?_
    rintro e w' ⟨rfl, hbb⟩
    obtain ⟨hc, hf⟩ := bcell hbb
    have c0 : w'.cell? ⟨w.heap.size, 0, none⟩ = some (.int .i64 an) := (hc _ _ (by first | omega | (simp; done) | (simp; omega))).trans (by go_simp); have f0 : w'.frozen? ⟨w.heap.size, 0, none⟩ = false := (hf _ _ (by first | omega | (simp; done) | (simp; omega))).trans (by go_simp); have c1 : w'.cell? ⟨w.heap.size, 1, none⟩ = some (.int .i64 ad) := (hc _ _ (by first | omega | (simp; done) | (simp; omega))).trans (by go_simp); have f1 : w'.frozen? ⟨w.heap.size, 1, none⟩ = false := (hf _ _ (by first | omega | (simp; done) | (simp; omega))).trans (by go_simp); have c2 : w'.cell? ⟨w.heap.size + 1, 0, none⟩ = some (.int .i64 bn) := (hc _ _ (by first | omega | (simp; done) | (simp; omega))).trans (by go_simp); have f2 : w'.frozen? ⟨w.heap.size + 1, 0, none⟩ = false := (hf _ _ (by first | omega | (simp; done) | (simp; omega))).trans (by go_simp); have c3 : w'.cell? ⟨w.heap.size + 1, 1, none⟩ = some (.int .i64 bd) := (hc _ _ (by first | omega | (simp; done) | (simp; omega))).trans (by go_simp); have f3 : w'.frozen? ⟨w.heap.size + 1, 1, none⟩ = false := (hf _ _ (by first | omega | (simp; done) | (simp; omega))).trans (by go_simp); have hz : w.heap.size + 1 < w'.heap.size := (by have hs := hbb.size; first | omega | (simp at hs; done) | (simp at hs; omega)); have hbA : Below w.heap.size w w' := Below.trans (b := _) (by repeat (first | with_reducible exact Below.refl _ _ | with_reducible assumption | with_reducible refine below_drewN' ?_ _ | (with_reducible refine Below.setCell ?_ (by first | (simp; done) | (simp; omega)) _) | (with_reducible refine Below.alloc ?_ (by first | exact Nat.le_refl _ | (simp; done) | (simp; omega)) _))) (hbb.mono (by first | omega | (simp; done) | (simp; omega))); clear hc hf hbb
    go_wp2_with fail
    refine (r3_Valid _ _ _).mono ?_
    rintro e w' ⟨rfl, hbb⟩
    obtain ⟨hc, hf⟩ := bcell hbb
    have c0 : w'.cell? ⟨w.heap.size, 0, none⟩ = some (.int .i64 0) := (hc _ _ (by first | omega | (simp; done) | (simp; omega))).trans (by go_simp); have f0 : w'.frozen? ⟨w.heap.size, 0, none⟩ = false := (hf _ _ (by first | omega | (simp; done) | (simp; omega))).trans (by go_simp); have c1 : w'.cell? ⟨w.heap.size, 1, none⟩ = some (.int .i64 1) := (hc _ _ (by first | omega | (simp; done) | (simp; omega))).trans (by go_simp); have f1 : w'.frozen? ⟨w.heap.size, 1, none⟩ = false := (hf _ _ (by first | omega | (simp; done) | (simp; omega))).trans (by go_simp); have c2 : w'.cell? ⟨w.heap.size + 1, 0, none⟩ = some (.int .i64 bn) := (hc _ _ (by first | omega | (simp; done) | (simp; omega))).trans (by go_simp); have f2 : w'.frozen? ⟨w.heap.size + 1, 0, none⟩ = false := (hf _ _ (by first | omega | (simp; done) | (simp; omega))).trans (by go_simp); have c3 : w'.cell? ⟨w.heap.size + 1, 1, none⟩ = some (.int .i64 bd) := (hc _ _ (by first | omega | (simp; done) | (simp; omega))).trans (by go_simp); have f3 : w'.frozen? ⟨w.heap.size + 1, 1, none⟩ = false := (hf _ _ (by first | omega | (simp; done) | (simp; omega))).trans (by go_simp); have hz : w.heap.size + 1 < w'.heap.size := (by have hs := hbb.size; first | omega | (simp at hs; done) | (simp at hs; omega)); have hbA : Below w.heap.size w w' := Below.trans (b := _) (by repeat (first | with_reducible exact Below.refl _ _ | with_reducible assumption | with_reducible refine below_drewN' ?_ _ | (with_reducible refine Below.setCell ?_ (by first | (simp; done) | (simp; omega)) _) | (with_reducible refine Below.alloc ?_ (by first | exact Nat.le_refl _ | (simp; done) | (simp; omega)) _))) (hbb.mono (by first | omega | (simp; done) | (simp; omega))); clear hc hf hbb
    go_wp2_with fail
    refine forget_world (CmpSt w 0 1 bn bd) ⟨(by repeat (first | with_reducible exact Below.refl _ _ | with_reducible assumption | with_reducible refine below_drewN' ?_ _ | (with_reducible refine Below.setCell ?_ (by first | (simp; done) | (simp; omega)) _) | (with_reducible refine Below.alloc ?_ (by first | exact Nat.le_refl _ | (simp; done) | (simp; omega)) _))), by first | (go_simp; done) | (simp; omega), by go_simp, by go_simp, by go_simp, by go_simp⟩ ?_
    clear c0 c1 c2 c3 f0 f1 f2 f3 hz hbA
    intro V hV
    have hV2 := hSt.out V hV
    clear hV hSt hA hB hC hD ha hb
    have J1 := wrap_neg_sgn C
    go_region_held3 (fun V => V.cell? ⟨w.heap.size, 0, none⟩ = some (.int .i64 A) ∧ V.cell? ⟨w.heap.size, 1, none⟩ = some (.int .i64 B) ∧ V.cell? ⟨w.heap.size + 1, 0, none⟩ = some (.int .i64 C) ∧ V.cell? ⟨w.heap.size + 1, 1, none⟩ = some (.int .i64 D) ∧ CmpSt w A B C D V) (first | exact (CmpSt.drew hV2).conj | exact CmpSt.conj (by assumption)) (first | (go_at_call 101; refine (r3_sign _ _).mono ?_; rintro e w' ⟨rfl, rfl⟩; have hst := ‹_ ∧ _ ∧ _ ∧ _ ∧ CmpSt _ _ _ _ _ _›.2.2.2.2) | (go_at_call 103; refine (r3_size _ _ (by omega) (by omega)).mono ?_; rintro e w' ⟨rfl, rfl⟩; have hst := ‹_ ∧ _ ∧ _ ∧ _ ∧ CmpSt _ _ _ _ _ _›.2.2.2.2) | (go_at_call 102; refine (r3_times_i _ _ _ ⟨by omega, by omega⟩ ⟨by omega, by omega⟩).mono ?_; rintro e w' ⟨gg, ff, rfl, hlt, hrow, hsm, hval, hbb⟩; have hst := CmpSt.step (‹_ ∧ _ ∧ _ ∧ _ ∧ CmpSt _ _ _ _ _ _›.2.2.2.2) hbb; have HVAL := Lib.hid hval; clear hval) | (go_at_call 100; refine Calls.mono (r3_sum_of A (-C) D B _ _ ?fx1 ?fy1 _ ?hx1 ?hy1 ?sx1 ?sy1 ?vx1 ?vy1 ⟨x1, x2⟩ ⟨by omega, by omega⟩ ⟨D1, y4⟩ ⟨B1, x4⟩) ?_; (case hx1 => first | assumption | exact RowW.step (by assumption) (by assumption)); (case hy1 => first | assumption | exact RowW.step (by assumption) (by assumption)); (case sx1 => assumption); (case sy1 => assumption); (case vx1 => assumption); (case vy1 => exact Lib.hid ((Hid.out HVAL).trans (by rw [Int.natAbs_natCast, Int.natAbs_neg]))); rintro e w' ⟨gg, ff, rfl, hrow, hsm, hval, hbb⟩; have hst := CmpSt.step (‹_ ∧ _ ∧ _ ∧ _ ∧ CmpSt _ _ _ _ _ _›.2.2.2.2) hbb; have HVAL := Lib.hid hval; clear hval))
    all_goals go_wp2_with fail
    all_goals go_ret
    all_goals exact ⟨ret_int HR.out.symm, (‹_ ∧ _ ∧ _ ∧ _ ∧ CmpSt _ _ _ _ _ _›.2.2.2.2).1⟩
  · have hSt : Hid (∀ V, CmpSt w an ad 0 1 V → CmpSt w A B C D V) := by
      intro V hV
      rw [← hA.out, ← hB.out, ← hC.out, ← hD.out, (fix_yes ha).1, (fix_yes ha).2, (fix_no hb).1, (fix_no hb).2]
      exact hV
    go_enter Tryz.func87, Tryz.ntmps87
    go_wp2_with fail
    refine (r3_Valid _ _ _).mono ?_
    rintro e w' ⟨rfl, hbb⟩
    obtain ⟨hc, hf⟩ := bcell hbb
    have c0 : w'.cell? ⟨w.heap.size, 0, none⟩ = some (.int .i64 an) := (hc _ _ (by first | omega | (simp; done) | (simp; omega))).trans (by go_simp); have f0 : w'.frozen? ⟨w.heap.size, 0, none⟩ = false := (hf _ _ (by first | omega | (simp; done) | (simp; omega))).trans (by go_simp); have c1 : w'.cell? ⟨w.heap.size, 1, none⟩ = some (.int .i64 ad) := (hc _ _ (by first | omega | (simp; done) | (simp; omega))).trans (by go_simp); have f1 : w'.frozen? ⟨w.heap.size, 1, none⟩ = false := (hf _ _ (by first | omega | (simp; done) | (simp; omega))).trans (by go_simp); have c2 : w'.cell? ⟨w.heap.size + 1, 0, none⟩ = some (.int .i64 bn) := (hc _ _ (by first | omega | (simp; done) | (simp; omega))).trans (by go_simp); have f2 : w'.frozen? ⟨w.heap.size + 1, 0, none⟩ = false := (hf _ _ (by first | omega | (simp; done) | (simp; omega))).trans (by go_simp); have c3 : w'.cell? ⟨w.heap.size + 1, 1, none⟩ = some (.int .i64 bd) := (hc _ _ (by first | omega | (simp; done) | (simp; omega))).trans (by go_simp); have f3 : w'.frozen? ⟨w.heap.size + 1, 1, none⟩ = false := (hf _ _ (by first | omega | (simp; done) | (simp; omega))).trans (by go_simp); have hz : w.heap.size + 1 < w'.heap.size := (by have hs := hbb.size; first | omega | (simp at hs; done) | (simp at hs; omega)); have hbA : Below w.heap.size w w' := Below.trans (b := _) (by repeat (first | with_reducible exact Below.refl _ _ | with_reducible assumption | with_reducible refine below_drewN' ?_ _ | (with_reducible refine Below.setCell ?_ (by first | (simp; done) | (simp; omega)) _) | (with_reducible refine Below.alloc ?_ (by first | exact Nat.le_refl _ | (simp; done) | (simp; omega)) _))) (hbb.mono (by first | omega | (simp; done) | (simp; omega))); clear hc hf hbb
    go_wp2_with fail
    refine (r3_Valid _ _ _).mono ?_
    rintro e w' ⟨rfl, hbb⟩
    obtain ⟨hc, hf⟩ := bcell hbb
    have c0 : w'.cell? ⟨w.heap.size, 0, none⟩ = some (.int .i64 an) := (hc _ _ (by first | omega | (simp; done) | (simp; omega))).trans (by go_simp); have f0 : w'.frozen? ⟨w.heap.size, 0, none⟩ = false := (hf _ _ (by first | omega | (simp; done) | (simp; omega))).trans (by go_simp); have c1 : w'.cell? ⟨w.heap.size, 1, none⟩ = some (.int .i64 ad) := (hc _ _ (by first | omega | (simp; done) | (simp; omega))).trans (by go_simp); have f1 : w'.frozen? ⟨w.heap.size, 1, none⟩ = false := (hf _ _ (by first | omega | (simp; done) | (simp; omega))).trans (by go_simp); have c2 : w'.cell? ⟨w.heap.size + 1, 0, none⟩ = some (.int .i64 bn) := (hc _ _ (by first | omega | (simp; done) | (simp; omega))).trans (by go_simp); have f2 : w'.frozen? ⟨w.heap.size + 1, 0, none⟩ = false := (hf _ _ (by first | omega | (simp; done) | (simp; omega))).trans (by go_simp); have c3 : w'.cell? ⟨w.heap.size + 1, 1, none⟩ = some (.int .i64 bd) := (hc _ _ (by first | omega | (simp; done) | (simp; omega))).trans (by go_simp); have f3 : w'.frozen? ⟨w.heap.size + 1, 1, none⟩ = false := (hf _ _ (by first | omega | (simp; done) | (simp; omega))).trans (by go_simp); have hz : w.heap.size + 1 < w'.heap.size := (by have hs := hbb.size; first | omega | (simp at hs; done) | (simp at hs; omega)); have hbA : Below w.heap.size w w' := Below.trans (b := _) (by repeat (first | with_reducible exact Below.refl _ _ | with_reducible assumption | with_reducible refine below_drewN' ?_ _ | (with_reducible refine Below.setCell ?_ (by first | (simp; done) | (simp; omega)) _) | (with_reducible refine Below.alloc ?_ (by first | exact Nat.le_refl _ | (simp; done) | (simp; omega)) _))) (hbb.mono (by first | omega | (simp; done) | (simp; omega))); clear hc hf hbb
    go_wp2_with fail
    refine forget_world (CmpSt w an ad 0 1) ⟨(by repeat (first | with_reducible exact Below.refl _ _ | with_reducible assumption | with_reducible refine below_drewN' ?_ _ | (with_reducible refine Below.setCell ?_ (by first | (simp; done) | (simp; omega)) _) | (with_reducible refine Below.alloc ?_ (by first | exact Nat.le_refl _ | (simp; done) | (simp; omega)) _))), by first | (go_simp; done) | (simp; omega), by go_simp, by go_simp, by go_simp, by go_simp⟩ ?_
    clear c0 c1 c2 c3 f0 f1 f2 f3 hz hbA
    intro V hV
    have hV2 := hSt.out V hV
    clear hV hSt hA hB hC hD ha hb
    have J1 := wrap_neg_sgn C
    go_region_held3 (fun V => V.cell? ⟨w.heap.size, 0, none⟩ = some (.int .i64 A) ∧ V.cell? ⟨w.heap.size, 1, none⟩ = some (.int .i64 B) ∧ V.cell? ⟨w.heap.size + 1, 0, none⟩ = some (.int .i64 C) ∧ V.cell? ⟨w.heap.size + 1, 1, none⟩ = some (.int .i64 D) ∧ CmpSt w A B C D V) (first | exact (CmpSt.drew hV2).conj | exact CmpSt.conj (by assumption)) (first | (go_at_call 101; refine (r3_sign _ _).mono ?_; rintro e w' ⟨rfl, rfl⟩; have hst := ‹_ ∧ _ ∧ _ ∧ _ ∧ CmpSt _ _ _ _ _ _›.2.2.2.2) | (go_at_call 103; refine (r3_size _ _ (by omega) (by omega)).mono ?_; rintro e w' ⟨rfl, rfl⟩; have hst := ‹_ ∧ _ ∧ _ ∧ _ ∧ CmpSt _ _ _ _ _ _›.2.2.2.2) | (go_at_call 102; refine (r3_times_i _ _ _ ⟨by omega, by omega⟩ ⟨by omega, by omega⟩).mono ?_; rintro e w' ⟨gg, ff, rfl, hlt, hrow, hsm, hval, hbb⟩; have hst := CmpSt.step (‹_ ∧ _ ∧ _ ∧ _ ∧ CmpSt _ _ _ _ _ _›.2.2.2.2) hbb; have HVAL := Lib.hid hval; clear hval) | (go_at_call 100; refine Calls.mono (r3_sum_of A (-C) D B _ _ ?fx2 ?fy2 _ ?hx2 ?hy2 ?sx2 ?sy2 ?vx2 ?vy2 ⟨x1, x2⟩ ⟨by omega, by omega⟩ ⟨D1, y4⟩ ⟨B1, x4⟩) ?_; (case hx2 => first | assumption | exact RowW.step (by assumption) (by assumption)); (case hy2 => first | assumption | exact RowW.step (by assumption) (by assumption)); (case sx2 => assumption); (case sy2 => assumption); (case vx2 => assumption); (case vy2 => exact Lib.hid ((Hid.out HVAL).trans (by rw [Int.natAbs_natCast, Int.natAbs_neg]))); rintro e w' ⟨gg, ff, rfl, hrow, hsm, hval, hbb⟩; have hst := CmpSt.step (‹_ ∧ _ ∧ _ ∧ _ ∧ CmpSt _ _ _ _ _ _›.2.2.2.2) hbb; have HVAL := Lib.hid hval; clear hval))
    all_goals go_wp2_with fail
    all_goals go_ret
    all_goals exact ⟨ret_int HR.out.symm, (‹_ ∧ _ ∧ _ ∧ _ ∧ CmpSt _ _ _ _ _ _›.2.2.2.2).1⟩
  · have hSt : Hid (∀ V, CmpSt w an ad bn bd V → CmpSt w A B C D V) := by
      intro V hV
      rw [← hA.out, ← hB.out, ← hC.out, ← hD.out, (fix_yes ha).1, (fix_yes ha).2, (fix_yes hb).1, (fix_yes hb).2]
      exact hV
    go_enter Tryz.func87, Tryz.ntmps87
    go_wp2_with fail
    refine (r3_Valid _ _ _).mono ?_
    rintro e w' ⟨rfl, hbb⟩
    obtain ⟨hc, hf⟩ := bcell hbb
    have c0 : w'.cell? ⟨w.heap.size, 0, none⟩ = some (.int .i64 an) := (hc _ _ (by first | omega | (simp; done) | (simp; omega))).trans (by go_simp); have f0 : w'.frozen? ⟨w.heap.size, 0, none⟩ = false := (hf _ _ (by first | omega | (simp; done) | (simp; omega))).trans (by go_simp); have c1 : w'.cell? ⟨w.heap.size, 1, none⟩ = some (.int .i64 ad) := (hc _ _ (by first | omega | (simp; done) | (simp; omega))).trans (by go_simp); have f1 : w'.frozen? ⟨w.heap.size, 1, none⟩ = false := (hf _ _ (by first | omega | (simp; done) | (simp; omega))).trans (by go_simp); have c2 : w'.cell? ⟨w.heap.size + 1, 0, none⟩ = some (.int .i64 bn) := (hc _ _ (by first | omega | (simp; done) | (simp; omega))).trans (by go_simp); have f2 : w'.frozen? ⟨w.heap.size + 1, 0, none⟩ = false := (hf _ _ (by first | omega | (simp; done) | (simp; omega))).trans (by go_simp); have c3 : w'.cell? ⟨w.heap.size + 1, 1, none⟩ = some (.int .i64 bd) := (hc _ _ (by first | omega | (simp; done) | (simp; omega))).trans (by go_simp); have f3 : w'.frozen? ⟨w.heap.size + 1, 1, none⟩ = false := (hf _ _ (by first | omega | (simp; done) | (simp; omega))).trans (by go_simp); have hz : w.heap.size + 1 < w'.heap.size := (by have hs := hbb.size; first | omega | (simp at hs; done) | (simp at hs; omega)); have hbA : Below w.heap.size w w' := Below.trans (b := _) (by repeat (first | with_reducible exact Below.refl _ _ | with_reducible assumption | with_reducible refine below_drewN' ?_ _ | (with_reducible refine Below.setCell ?_ (by first | (simp; done) | (simp; omega)) _) | (with_reducible refine Below.alloc ?_ (by first | exact Nat.le_refl _ | (simp; done) | (simp; omega)) _))) (hbb.mono (by first | omega | (simp; done) | (simp; omega))); clear hc hf hbb
    go_wp2_with fail
    refine (r3_Valid _ _ _).mono ?_
    rintro e w' ⟨rfl, hbb⟩
    obtain ⟨hc, hf⟩ := bcell hbb
    have c0 : w'.cell? ⟨w.heap.size, 0, none⟩ = some (.int .i64 an) := (hc _ _ (by first | omega | (simp; done) | (simp; omega))).trans (by go_simp); have f0 : w'.frozen? ⟨w.heap.size, 0, none⟩ = false := (hf _ _ (by first | omega | (simp; done) | (simp; omega))).trans (by go_simp); have c1 : w'.cell? ⟨w.heap.size, 1, none⟩ = some (.int .i64 ad) := (hc _ _ (by first | omega | (simp; done) | (simp; omega))).trans (by go_simp); have f1 : w'.frozen? ⟨w.heap.size, 1, none⟩ = false := (hf _ _ (by first | omega | (simp; done) | (simp; omega))).trans (by go_simp); have c2 : w'.cell? ⟨w.heap.size + 1, 0, none⟩ = some (.int .i64 bn) := (hc _ _ (by first | omega | (simp; done) | (simp; omega))).trans (by go_simp); have f2 : w'.frozen? ⟨w.heap.size + 1, 0, none⟩ = false := (hf _ _ (by first | omega | (simp; done) | (simp; omega))).trans (by go_simp); have c3 : w'.cell? ⟨w.heap.size + 1, 1, none⟩ = some (.int .i64 bd) := (hc _ _ (by first | omega | (simp; done) | (simp; omega))).trans (by go_simp); have f3 : w'.frozen? ⟨w.heap.size + 1, 1, none⟩ = false := (hf _ _ (by first | omega | (simp; done) | (simp; omega))).trans (by go_simp); have hz : w.heap.size + 1 < w'.heap.size := (by have hs := hbb.size; first | omega | (simp at hs; done) | (simp at hs; omega)); have hbA : Below w.heap.size w w' := Below.trans (b := _) (by repeat (first | with_reducible exact Below.refl _ _ | with_reducible assumption | with_reducible refine below_drewN' ?_ _ | (with_reducible refine Below.setCell ?_ (by first | (simp; done) | (simp; omega)) _) | (with_reducible refine Below.alloc ?_ (by first | exact Nat.le_refl _ | (simp; done) | (simp; omega)) _))) (hbb.mono (by first | omega | (simp; done) | (simp; omega))); clear hc hf hbb
    go_wp2_with fail
    refine forget_world (CmpSt w an ad bn bd) ⟨(by repeat (first | with_reducible exact Below.refl _ _ | with_reducible assumption | with_reducible refine below_drewN' ?_ _ | (with_reducible refine Below.setCell ?_ (by first | (simp; done) | (simp; omega)) _) | (with_reducible refine Below.alloc ?_ (by first | exact Nat.le_refl _ | (simp; done) | (simp; omega)) _))), by first | (go_simp; done) | (simp; omega), by go_simp, by go_simp, by go_simp, by go_simp⟩ ?_
    clear c0 c1 c2 c3 f0 f1 f2 f3 hz hbA
    intro V hV
    have hV2 := hSt.out V hV
    clear hV hSt hA hB hC hD ha hb
    have J1 := wrap_neg_sgn C
    go_region_held3 (fun V => V.cell? ⟨w.heap.size, 0, none⟩ = some (.int .i64 A) ∧ V.cell? ⟨w.heap.size, 1, none⟩ = some (.int .i64 B) ∧ V.cell? ⟨w.heap.size + 1, 0, none⟩ = some (.int .i64 C) ∧ V.cell? ⟨w.heap.size + 1, 1, none⟩ = some (.int .i64 D) ∧ CmpSt w A B C D V) (first | exact (CmpSt.drew hV2).conj | exact CmpSt.conj (by assumption)) (first | (go_at_call 101; refine (r3_sign _ _).mono ?_; rintro e w' ⟨rfl, rfl⟩; have hst := ‹_ ∧ _ ∧ _ ∧ _ ∧ CmpSt _ _ _ _ _ _›.2.2.2.2) | (go_at_call 103; refine (r3_size _ _ (by omega) (by omega)).mono ?_; rintro e w' ⟨rfl, rfl⟩; have hst := ‹_ ∧ _ ∧ _ ∧ _ ∧ CmpSt _ _ _ _ _ _›.2.2.2.2) | (go_at_call 102; refine (r3_times_i _ _ _ ⟨by omega, by omega⟩ ⟨by omega, by omega⟩).mono ?_; rintro e w' ⟨gg, ff, rfl, hlt, hrow, hsm, hval, hbb⟩; have hst := CmpSt.step (‹_ ∧ _ ∧ _ ∧ _ ∧ CmpSt _ _ _ _ _ _›.2.2.2.2) hbb; have HVAL := Lib.hid hval; clear hval) | (go_at_call 100; refine Calls.mono (r3_sum_of A (-C) D B _ _ ?fx3 ?fy3 _ ?hx3 ?hy3 ?sx3 ?sy3 ?vx3 ?vy3 ⟨x1, x2⟩ ⟨by omega, by omega⟩ ⟨D1, y4⟩ ⟨B1, x4⟩) ?_; (case hx3 => first | assumption | exact RowW.step (by assumption) (by assumption)); (case hy3 => first | assumption | exact RowW.step (by assumption) (by assumption)); (case sx3 => assumption); (case sy3 => assumption); (case vx3 => assumption); (case vy3 => exact Lib.hid ((Hid.out HVAL).trans (by rw [Int.natAbs_natCast, Int.natAbs_neg]))); rintro e w' ⟨gg, ff, rfl, hrow, hsm, hval, hbb⟩; have hst := CmpSt.step (‹_ ∧ _ ∧ _ ∧ _ ∧ CmpSt _ _ _ _ _ _›.2.2.2.2) hbb; have HVAL := Lib.hid hval; clear hval))
    all_goals go_wp2_with fail
    all_goals go_ret
    all_goals exact ⟨ret_int HR.out.symm, (‹_ ∧ _ ∧ _ ∧ _ ∧ CmpSt _ _ _ _ _ _›.2.2.2.2).1⟩
end Go.Proofs.YtbjddimafilflaaGreatDoor

/- THE WALKS over the reference's yes, ints, strs, class, Number. -/
namespace Go.Proofs.YtbjddimafilflaaGreatDoor
open Go.RowKit
theorem r4_yes (b : Bool) (w : World) : Calls Tryz.prog 83 #[.bool b] w fun e w' => e = .returned (.int .i64 (if b then 2 else 0)) ∧ w' = w := by
  cases b <;>
  · go_enter Tryz.func83, Tryz.ntmps83
    go_wp2
    go_ret
    exact ⟨rfl, rfl⟩
theorem r4_ints (x y : Int) (w : World) : Calls Tryz.prog 69 #[.int .i64 x, .int .i64 y] w fun e w' => e = .returned (.int .i64 (Lib.compareInt x y)) ∧ w' = w := by
  rcases Int.lt_trichotomy x y with h | h | h
  · have HV := Lib.hid (show Lib.compareInt x y = -1 by unfold Lib.compareInt; rw [if_pos h])
    go_enter Tryz.func69, Tryz.ntmps69
    go_wp2
    go_ret
    exact ⟨ret_i64 HV.out.symm, rfl⟩
  · have HV := Lib.hid (show Lib.compareInt x y = 0 by unfold Lib.compareInt; rw [if_neg (by omega), if_neg (by omega)])
    have h1 : ¬ x < y := by omega
    have h2 : ¬ y < x := by omega
    clear h
    go_enter Tryz.func69, Tryz.ntmps69
    go_wp2
    go_ret
    exact ⟨ret_i64 HV.out.symm, rfl⟩
  · have HV := Lib.hid (show Lib.compareInt x y = 1 by unfold Lib.compareInt; rw [if_neg (by omega), if_pos h])
    have h1 : ¬ x < y := by omega
    go_enter Tryz.func69, Tryz.ntmps69
    go_wp2
    go_ret
    exact ⟨ret_i64 HV.out.symm, rfl⟩
theorem r4_strs (a b : ByteArray) (w : World) : Calls Tryz.prog 98 #[.string a, .string b] w fun e w' => e = .returned (.int .i64 (cmpT a b)) ∧ w' = w := by
  rcases cmpT_tri a b with ⟨h, h1, -⟩ | ⟨h, h1⟩ | ⟨h, h1, -⟩
  · have HV := Lib.hid h1
    clear h1
    go_enter Tryz.func98, Tryz.ntmps98
    go_wp2
    go_ret
    exact ⟨ret_i64 HV.out.symm, rfl⟩
  · subst h
    have HV := Lib.hid h1
    have h2 := less_irrefl a.toList
    clear h1
    go_enter Tryz.func98, Tryz.ntmps98
    go_wp2
    go_ret
    exact ⟨ret_i64 HV.out.symm, rfl⟩
  · have HV := Lib.hid h1
    have h2 := less_asymm h
    have h3 : (a.toList == b.toList) = false := by
      rw [beq_eq_false_iff_ne]
      intro e
      rw [e, less_irrefl] at h; cases h
    clear h1
    go_enter Tryz.func98, Tryz.ntmps98
    go_wp2
    go_ret
    exact ⟨ret_i64 HV.out.symm, rfl⟩
/-- the reference's numbers of the classes -/
def clsR (k : Int) : Int := if k = 0 then 0 else if k = 1 then 1 else if k = 2 then 2 else if k = 3 then 2 else if k = 4 then 3 else if k = 5 then 4 else if k = 6 then 5 else if k = 8 then 6 else 7
theorem clsR_cmp {k k' : Int} (h : 0 ≤ k ∧ k ≤ 8) (h' : 0 ≤ k' ∧ k' ≤ 8) : Lib.compareInt (clsR k) (clsR k') = Lib.compareInt (cls k) (cls k') := by
  have a : k = 0 ∨ k = 1 ∨ k = 2 ∨ k = 3 ∨ k = 4 ∨ k = 5 ∨ k = 6 ∨ k = 7 ∨ k = 8 := by omega
  have b : k' = 0 ∨ k' = 1 ∨ k' = 2 ∨ k' = 3 ∨ k' = 4 ∨ k' = 5 ∨ k' = 6 ∨ k' = 7 ∨ k' = 8 := by omega
  rcases a with rfl | rfl | rfl | rfl | rfl | rfl | rfl | rfl | rfl <;> rcases b with rfl | rfl | rfl | rfl | rfl | rfl | rfl | rfl | rfl <;> rfl
set_option maxHeartbeats 800000 in
theorem r4_class (k : Int) (w : World) : Calls Tryz.prog 85 #[.int .i64 k] w fun e w' => e = .returned (.int .i64 (clsR k)) ∧ w' = w := by
  go_enter Tryz.func85, Tryz.ntmps85
  go_wp2
  all_goals
    go_ret
    refine ⟨ret_i64 ?_, rfl⟩
    unfold clsR
    simp_all
/-- the fraction of a number; 0/0 of what is none -/
def numN (v : Val) : Int := if cls v.kind = 2 then v.n else 0
def numD (v : Val) : Int := if cls v.kind = 2 then dnV v.kind v.d else 0
set_option maxRecDepth 100000 in
set_option maxHeartbeats 1600000 in
theorem r4_Number2 (v : Val) (ok : Nat → Prop) (A : Option Addr) (c : Nat) (w : World) (hv : Vals w ok A v.l) (hs : szV v) (hV : validV v = true) (hk : v.kind = 2) :
    Calls Tryz.prog 86 #[.agg #[.int .i64 2, .int .i64 v.n, .int .i64 v.d, .string v.s, .slice A v.l.length c]] w fun e w' => e = .returned (.tuple #[.agg #[.int .i64 v.n, .int .i64 1], .bool true]) ∧ Ext w w' := by
  obtain ⟨g, w1, hg, hw1, ⟨c0, c1, c2, c3, c4⟩, hx, -⟩ := box5 w v.kind v.n v.d v.s A v.l.length c 40
  have hz : g < w1.heap.size := block_lt_of_cell c0
  obtain ⟨w2, hw2, hx2⟩ : ∃ w2, w2 = w1.alloc (.cells #[.int .i64 0, .int .i64 0] 94) ∧ Ext w1 w2 := ⟨_, rfl, (Ext.refl _).alloc _⟩
  have C := r4_Valid v ok A c w2 (hv.ext (hx.trans hx2)) hs
  rw [hV] at C
  have HB := Lib.hid (show w2.heap[w1.heap.size]? = some (.cells #[.int .i64 0, .int .i64 0] 94) by rw [hw2]; exact heap_alloc_new _ _)
  obtain ⟨g2, hg2⟩ : ∃ g2, g2 = w1.heap.size := ⟨_, rfl⟩
  rw [← hg2] at HB
  have hle : w1.heap.size ≤ g2 := by omega
  have HW1 := Lib.hid hw1
  have HW2 := Lib.hid hw2
  have HG := Lib.hid hg
  have HG2 := Lib.hid (show g2 = w.heap.size + 1 by rw [hg2, hw1]; go_simp)
  replace c0 := hx2.cell c0
  replace c1 := hx2.cell c1
  replace c2 := hx2.cell c2
  replace c3 := hx2.cell c3
  replace c4 := hx2.cell c4
  have hw1' := HW1.out
  rw [hk] at c0 C hw1'
  replace HW1 := Lib.hid hw1'
  clear hw1'
  clear hk
  have HC := Lib.hid C
  clear hw1 hw2 hg hv hV C hg2 hs
  go_enter Tryz.func86, Tryz.ntmps86
  go_upto_region 1 with (fail)
  rw [← HW1.out, ← HW2.out, ← HG2.out, ← HG.out]
  clear HW1 HG HW2 HG2
  go_wp2_with fail
  refine (HC.out).mono ?_
  rintro e w3 ⟨rfl, hE⟩
  have hb1 := hE.heap HB.out
  replace c0 := hE.cell c0
  replace c1 := hE.cell c1
  replace c2 := hE.cell c2
  have f0 : w3.frozen? ⟨g2, 0, none⟩ = false := by simp [World.frozen?, hb1]
  have f1 : w3.frozen? ⟨g2, 1, none⟩ = false := by simp [World.frozen?, hb1]
  have e0 : w3.cell? ⟨g2, 0, none⟩ = some (.int .i64 0) := by rw [cell_of_row w3 g2 0 _ _ _ hb1]; rfl
  have e1 : w3.cell? ⟨g2, 1, none⟩ = some (.int .i64 0) := by rw [cell_of_row w3 g2 1 _ _ _ hb1]; rfl
  clear hb1 HB HC c3 c4
  go_wp2_with fail
  have hle2 : w.heap.size ≤ g2 := Nat.le_trans hx.le hle
  exact bodyPost_ret (v := .tuple #[.agg #[.int .i64 v.n, .int .i64 1], .bool true]) (by simp [results, Tryz.results86, go_sem, e0, e1]) rfl ⟨rfl, (hx.trans (hx2.trans hE)).setCell hle2 _ |>.setCell hle2 _⟩
set_option maxRecDepth 100000 in
set_option maxHeartbeats 1600000 in
theorem r4_Number3 (v : Val) (ok : Nat → Prop) (A : Option Addr) (c : Nat) (w : World) (hv : Vals w ok A v.l) (hs : szV v) (hV : validV v = true) (hk : v.kind = 3) :
    Calls Tryz.prog 86 #[.agg #[.int .i64 3, .int .i64 v.n, .int .i64 v.d, .string v.s, .slice A v.l.length c]] w fun e w' => e = .returned (.tuple #[.agg #[.int .i64 v.n, .int .i64 v.d], .bool true]) ∧ Ext w w' := by
  obtain ⟨g, w1, hg, hw1, ⟨c0, c1, c2, c3, c4⟩, hx, -⟩ := box5 w v.kind v.n v.d v.s A v.l.length c 40
  have hz : g < w1.heap.size := block_lt_of_cell c0
  obtain ⟨w2, hw2, hx2⟩ : ∃ w2, w2 = w1.alloc (.cells #[.int .i64 0, .int .i64 0] 94) ∧ Ext w1 w2 := ⟨_, rfl, (Ext.refl _).alloc _⟩
  have C := r4_Valid v ok A c w2 (hv.ext (hx.trans hx2)) hs
  rw [hV] at C
  have HB := Lib.hid (show w2.heap[w1.heap.size]? = some (.cells #[.int .i64 0, .int .i64 0] 94) by rw [hw2]; exact heap_alloc_new _ _)
  obtain ⟨g2, hg2⟩ : ∃ g2, g2 = w1.heap.size := ⟨_, rfl⟩
  rw [← hg2] at HB
  have hle : w1.heap.size ≤ g2 := by omega
  have HW1 := Lib.hid hw1
  have HW2 := Lib.hid hw2
  have HG := Lib.hid hg
  have HG2 := Lib.hid (show g2 = w.heap.size + 1 by rw [hg2, hw1]; go_simp)
  replace c0 := hx2.cell c0
  replace c1 := hx2.cell c1
  replace c2 := hx2.cell c2
  replace c3 := hx2.cell c3
  replace c4 := hx2.cell c4
  have hw1' := HW1.out
  rw [hk] at c0 C hw1'
  replace HW1 := Lib.hid hw1'
  clear hw1'
  clear hk
  have HC := Lib.hid C
  clear hw1 hw2 hg hv hV C hg2 hs
  go_enter Tryz.func86, Tryz.ntmps86
  go_upto_region 1 with (fail)
  rw [← HW1.out, ← HW2.out, ← HG2.out, ← HG.out]
  clear HW1 HG HW2 HG2
  go_wp2_with fail
  refine (HC.out).mono ?_
  rintro e w3 ⟨rfl, hE⟩
  have hb1 := hE.heap HB.out
  replace c0 := hE.cell c0
  replace c1 := hE.cell c1
  replace c2 := hE.cell c2
  have f0 : w3.frozen? ⟨g2, 0, none⟩ = false := by simp [World.frozen?, hb1]
  have f1 : w3.frozen? ⟨g2, 1, none⟩ = false := by simp [World.frozen?, hb1]
  have e0 : w3.cell? ⟨g2, 0, none⟩ = some (.int .i64 0) := by rw [cell_of_row w3 g2 0 _ _ _ hb1]; rfl
  have e1 : w3.cell? ⟨g2, 1, none⟩ = some (.int .i64 0) := by rw [cell_of_row w3 g2 1 _ _ _ hb1]; rfl
  clear hb1 HB HC c3 c4
  go_wp2_with fail
  have hle2 : w.heap.size ≤ g2 := Nat.le_trans hx.le hle
  exact bodyPost_ret (v := .tuple #[.agg #[.int .i64 v.n, .int .i64 v.d], .bool true]) (by simp [results, Tryz.results86, go_sem, e0, e1]) rfl ⟨rfl, (hx.trans (hx2.trans hE)).setCell hle2 _ |>.setCell hle2 _⟩
set_option maxRecDepth 100000 in
set_option maxHeartbeats 1600000 in
theorem r4_Number0 (v : Val) (ok : Nat → Prop) (A : Option Addr) (c : Nat) (w : World) (hv : Vals w ok A v.l) (hs : szV v) (hV : validV v = true) (hk : v.kind ≠ 2 ∧ v.kind ≠ 3) :
    Calls Tryz.prog 86 #[.agg #[.int .i64 v.kind, .int .i64 v.n, .int .i64 v.d, .string v.s, .slice A v.l.length c]] w fun e w' => e = .returned (.tuple #[.agg #[.int .i64 0, .int .i64 0], .bool false]) ∧ Ext w w' := by
  obtain ⟨g, w1, hg, hw1, ⟨c0, c1, c2, c3, c4⟩, hx, -⟩ := box5 w v.kind v.n v.d v.s A v.l.length c 40
  have hz : g < w1.heap.size := block_lt_of_cell c0
  obtain ⟨w2, hw2, hx2⟩ : ∃ w2, w2 = w1.alloc (.cells #[.int .i64 0, .int .i64 0] 94) ∧ Ext w1 w2 := ⟨_, rfl, (Ext.refl _).alloc _⟩
  have C := r4_Valid v ok A c w2 (hv.ext (hx.trans hx2)) hs
  rw [hV] at C
  have HB := Lib.hid (show w2.heap[w1.heap.size]? = some (.cells #[.int .i64 0, .int .i64 0] 94) by rw [hw2]; exact heap_alloc_new _ _)
  obtain ⟨g2, hg2⟩ : ∃ g2, g2 = w1.heap.size := ⟨_, rfl⟩
  rw [← hg2] at HB
  have hle : w1.heap.size ≤ g2 := by omega
  have HW1 := Lib.hid hw1
  have HW2 := Lib.hid hw2
  have HG := Lib.hid hg
  have HG2 := Lib.hid (show g2 = w.heap.size + 1 by rw [hg2, hw1]; go_simp)
  replace c0 := hx2.cell c0
  replace c1 := hx2.cell c1
  replace c2 := hx2.cell c2
  replace c3 := hx2.cell c3
  replace c4 := hx2.cell c4
  have hk2 : (v.kind == 2) = false := by simpa using hk.1
  have hk3 : (v.kind == 3) = false := by simpa using hk.2
  clear hk
  have HC := Lib.hid C
  clear hw1 hw2 hg hv hV C hg2 hs
  go_enter Tryz.func86, Tryz.ntmps86
  go_upto_region 1 with (fail)
  rw [← HW1.out, ← HW2.out, ← HG2.out, ← HG.out]
  clear HW1 HG HW2 HG2
  go_wp2_with fail
  refine (HC.out).mono ?_
  rintro e w3 ⟨rfl, hE⟩
  have hb1 := hE.heap HB.out
  replace c0 := hE.cell c0
  replace c1 := hE.cell c1
  replace c2 := hE.cell c2
  have f0 : w3.frozen? ⟨g2, 0, none⟩ = false := by simp [World.frozen?, hb1]
  have f1 : w3.frozen? ⟨g2, 1, none⟩ = false := by simp [World.frozen?, hb1]
  have e0 : w3.cell? ⟨g2, 0, none⟩ = some (.int .i64 0) := by rw [cell_of_row w3 g2 0 _ _ _ hb1]; rfl
  have e1 : w3.cell? ⟨g2, 1, none⟩ = some (.int .i64 0) := by rw [cell_of_row w3 g2 1 _ _ _ hb1]; rfl
  clear hb1 HB HC c3 c4
  go_wp2_with fail
  have hle2 : w.heap.size ≤ g2 := Nat.le_trans hx.le hle
  exact bodyPost_ret (v := .tuple #[.agg #[.int .i64 0, .int .i64 0], .bool false]) (by simp [results, Tryz.results86, go_sem, e0, e1]) rfl ⟨rfl, (hx.trans (hx2.trans hE)).setCell hle2 _ |>.setCell hle2 _⟩
theorem r4_Number (v : Val) (ok : Nat → Prop) (A : Option Addr) (c : Nat) (w : World) (hv : Vals w ok A v.l) (hs : szV v) (hV : validV v = true) :
    Calls Tryz.prog 86 #[.agg #[.int .i64 v.kind, .int .i64 v.n, .int .i64 v.d, .string v.s, .slice A v.l.length c]] w fun e w' => e = .returned (.tuple #[.agg #[.int .i64 (numN v), .int .i64 (numD v)], .bool (decide (cls v.kind = 2))]) ∧ Ext w w' := by
  by_cases h2 : v.kind = 2
  · have e1 : cls v.kind = 2 := cls_two.2 (.inl h2)
    have := r4_Number2 v ok A c w hv hs hV h2
    unfold numN numD dnV
    rw [if_pos e1, if_pos e1, decide_eq_true e1, h2]
    exact this
  · by_cases h3 : v.kind = 3
    · have e1 : cls v.kind = 2 := cls_two.2 (.inr h3)
      have := r4_Number3 v ok A c w hv hs hV h3
      unfold numN numD dnV
      rw [if_pos e1, if_pos e1, decide_eq_true e1, h3]
      exact this
    · have e1 : ¬ cls v.kind = 2 := fun e => (cls_two.1 e).elim h2 h3
      unfold numN numD
      rw [if_neg e1, if_neg e1, decide_eq_false e1]
      exact r4_Number0 v ok A c w hv hs hV ⟨h2, h3⟩
end Go.Proofs.YtbjddimafilflaaGreatDoor

/- THE WALKS over the reference's lists, fields, Order, OrderRows. -/
namespace Go.Proofs.YtbjddimafilflaaGreatDoor
open Go.RowKit
theorem cmpI_len (m n : Nat) : Lib.compareInt (m : Int) (n : Int) = if m < n then -1 else if n < m then 1 else 0 := by
  unfold Lib.compareInt
  repeat' split
  all_goals omega
theorem ordL_len {a b : List Val} {k : Nat} (h : ¬ (k < a.length ∧ k < b.length)) (ha : k ≤ a.length) (hb : k ≤ b.length) : ordL (a.drop k) (b.drop k) = Lib.compareInt (a.length : Int) (b.length : Int) := by
  rw [cmpI_len]
  by_cases h1 : k < a.length
  · rw [List.drop_eq_getElem_cons h1, List.drop_of_length_le (by omega : b.length ≤ k), ordL, if_neg (by omega), if_pos (by omega)]
  · by_cases h2 : k < b.length
    · rw [List.drop_of_length_le (by omega : a.length ≤ k), List.drop_eq_getElem_cons h2, ordL, if_pos (by omega)]
    · rw [List.drop_of_length_le (by omega : a.length ≤ k), List.drop_of_length_le (by omega : b.length ≤ k), ordL, if_neg (by omega), if_neg (by omega)]
set_option maxRecDepth 100000 in
set_option maxHeartbeats 6400000 in
theorem r4_lists (a b : List Val) (ok ok' : Nat → Prop) (A B : Option Addr) (c d : Nat) (w : World) (ha : Vals w ok A a) (hb : Vals w ok' B b) (hsa : szL a) (hsb : szL b) (ih : ∀ x ∈ a, ∀ y ∈ b, ∀ (Ax By : Option Addr) (cx dy : Nat) (W : World), Vals W ok Ax x.l → Vals W ok' By y.l → szV x → szV y → Calls Tryz.prog 68 #[.agg #[.int .i64 x.kind, .int .i64 x.n, .int .i64 x.d, .string x.s, .slice Ax x.l.length cx], .agg #[.int .i64 y.kind, .int .i64 y.n, .int .i64 y.d, .string y.s, .slice By y.l.length dy]] W fun e W' => e = .returned (.int .i64 (ordV x y)) ∧ Ext W W') :
    Calls Tryz.prog 56 #[.slice A a.length c, .slice B b.length d] w fun e w' => e = .returned (.int .i64 (ordL a b)) ∧ Ext w w' := by
  have hma := ha.len
  have hmb := hb.len
  have HA := Lib.hid ha
  have HB := Lib.hid hb
  have HF := Lib.hid (fun x hx y hy Ax By cx dy W h1 h2 => ih x hx y hy Ax By cx dy W h1 h2 (szL_mem hsa hx) (szL_mem hsb hy))
  obtain ⟨R, hR⟩ : ∃ R, R = ordL a b := ⟨_, rfl⟩
  rw [← hR]
  have HR := Lib.hid (show R = ordL (a.drop 0) (b.drop 0) from hR)
  clear ha hb ih hR hsa hsb
  go_enter Tryz.func56, Tryz.ntmps56
  go_wp2
  go_loopw [5] (fun u W => ∃ k : Nat, u = .int .i64 k ∧ k ≤ a.length ∧ k ≤ b.length ∧ Hid (R = ordL (a.drop k) (b.drop k)) ∧ Ext w W) (fun u _ => a.length - (intOf u).toNat)
  case atStart => exact ⟨0, rfl, Nat.zero_le _, Nat.zero_le _, HR, Ext.refl _⟩
  case round =>
    obtain ⟨k, rfl, hk, hkb, hS, hE⟩ := hrel
    by_cases hlt : k < a.length
    · by_cases hltb : k < b.length
      · obtain ⟨ba, oa, rfl, hca⟩ := HA.out.2 (by omega)
        obtain ⟨-, A', c', h5, -, hv'⟩ := VCells.iff.1 (hca k hlt)
        obtain ⟨bb, ob, rfl, hcb⟩ := HB.out.2 (by omega)
        obtain ⟨-, B', d', h6, -, hv2⟩ := VCells.iff.1 (hcb k hltb)
        have HC := Lib.hid (fun W (e : Ext wr W) => HF.out a[k] (List.getElem_mem hlt) b[k] (List.getElem_mem hltb) A' B' c' d' W (hv'.ext (hE.trans e)) (hv2.ext (hE.trans e)))
        have HD := Lib.hid (show ordL (a.drop k) (b.drop k) = thenC (ordV a[k] b[k]) (ordL (a.drop (k + 1)) (b.drop (k + 1))) by rw [List.drop_eq_getElem_cons hlt, List.drop_eq_getElem_cons hltb, ordL])
        replace h5 := h5.ext hE
        replace h6 := h6.ext hE
        clear hca hcb hv' hv2
        generalize a[k] = x at *
        generalize b[k] = y at *
        generalize ordV x y = z at HC HD
        have MK := Lib.hid (fun V (e : Ext wr V) => (⟨(h5.ext e).1, (h5.ext e).2.1, (h5.ext e).2.2.1, (h5.ext e).2.2.2.1, (h5.ext e).2.2.2.2, (h6.ext e).1, (h6.ext e).2.1, (h6.ext e).2.2.1, (h6.ext e).2.2.2.1, (h6.ext e).2.2.2.2, e⟩ : V.cell? ⟨ba, oa + k * 5, none⟩ = some (.int .i64 x.kind) ∧ V.cell? ⟨ba, oa + k * 5 + 1, none⟩ = some (.int .i64 x.n) ∧ V.cell? ⟨ba, oa + k * 5 + 2, none⟩ = some (.int .i64 x.d) ∧ V.cell? ⟨ba, oa + k * 5 + 3, none⟩ = some (.string x.s) ∧ V.cell? ⟨ba, oa + k * 5 + 4, none⟩ = some (.slice A' x.l.length c') ∧ V.cell? ⟨bb, ob + k * 5, none⟩ = some (.int .i64 y.kind) ∧ V.cell? ⟨bb, ob + k * 5 + 1, none⟩ = some (.int .i64 y.n) ∧ V.cell? ⟨bb, ob + k * 5 + 2, none⟩ = some (.int .i64 y.d) ∧ V.cell? ⟨bb, ob + k * 5 + 3, none⟩ = some (.string y.s) ∧ V.cell? ⟨bb, ob + k * 5 + 4, none⟩ = some (.slice B' y.l.length d') ∧ Ext wr V))
        clear h5 h6
        have q0 : (0 : Int) ≤ (k : Int) := by omega
        have q1 : (k : Int) < (a.length : Int) := by omega
        have q2 : (k : Int) < (b.length : Int) := by omega
        by_cases hz0 : z = 0
        · have HT := Lib.hid (show R = ordL (a.drop (k + 1)) (b.drop (k + 1)) by rw [hS.out, HD.out, hz0]; rfl)
          subst hz0
          go_wp2_with fail
          go_region_held3 (fun V => V.cell? ⟨ba, oa + k * 5, none⟩ = some (.int .i64 x.kind) ∧ V.cell? ⟨ba, oa + k * 5 + 1, none⟩ = some (.int .i64 x.n) ∧ V.cell? ⟨ba, oa + k * 5 + 2, none⟩ = some (.int .i64 x.d) ∧ V.cell? ⟨ba, oa + k * 5 + 3, none⟩ = some (.string x.s) ∧ V.cell? ⟨ba, oa + k * 5 + 4, none⟩ = some (.slice A' x.l.length c') ∧ V.cell? ⟨bb, ob + k * 5, none⟩ = some (.int .i64 y.kind) ∧ V.cell? ⟨bb, ob + k * 5 + 1, none⟩ = some (.int .i64 y.n) ∧ V.cell? ⟨bb, ob + k * 5 + 2, none⟩ = some (.int .i64 y.d) ∧ V.cell? ⟨bb, ob + k * 5 + 3, none⟩ = some (.string y.s) ∧ V.cell? ⟨bb, ob + k * 5 + 4, none⟩ = some (.slice B' y.l.length d') ∧ Ext wr V) ((exact MK.out _ (by repeat (first | with_reducible exact Ext.refl _ | with_reducible assumption | with_reducible refine Ext.drew ?_ | with_reducible refine Ext.drewN ?_ _ | with_reducible refine Ext.alloc ?_ _)))) ((go_at_call 68; ((with_reducible refine (HC.out _ (by repeat (first | with_reducible exact Ext.refl _ | with_reducible assumption | with_reducible refine Ext.drew ?_ | with_reducible refine Ext.drewN ?_ _ | with_reducible refine Ext.alloc ?_ _))).mono ?_); rintro e w' ⟨rfl, hb⟩; replace hb : Ext wr w' := Ext.trans (by repeat (first | with_reducible exact Ext.refl _ | with_reducible assumption | with_reducible refine Ext.drew ?_ | with_reducible refine Ext.drewN ?_ _ | with_reducible refine Ext.alloc ?_ _)) hb)))
          all_goals
            clear ‹_ ∧ _›
            go_wp2_with fail
            go_roundw
            case rel => exact ⟨k + 1, by go_num, by omega, by omega, HT, hE.trans (by repeat (first | with_reducible exact Ext.refl _ | with_reducible assumption | with_reducible refine Ext.drew ?_ | with_reducible refine Ext.drewN ?_ _ | with_reducible refine Ext.alloc ?_ _))⟩
            case measure => simp [intOf]; omega
        · have HT := Lib.hid (show R = z by rw [hS.out, HD.out, thenC_ne hz0])
          have hz' : (z != 0) = true := by simpa using hz0
          clear hz0
          go_wp2_with fail
          go_region_held3 (fun V => V.cell? ⟨ba, oa + k * 5, none⟩ = some (.int .i64 x.kind) ∧ V.cell? ⟨ba, oa + k * 5 + 1, none⟩ = some (.int .i64 x.n) ∧ V.cell? ⟨ba, oa + k * 5 + 2, none⟩ = some (.int .i64 x.d) ∧ V.cell? ⟨ba, oa + k * 5 + 3, none⟩ = some (.string x.s) ∧ V.cell? ⟨ba, oa + k * 5 + 4, none⟩ = some (.slice A' x.l.length c') ∧ V.cell? ⟨bb, ob + k * 5, none⟩ = some (.int .i64 y.kind) ∧ V.cell? ⟨bb, ob + k * 5 + 1, none⟩ = some (.int .i64 y.n) ∧ V.cell? ⟨bb, ob + k * 5 + 2, none⟩ = some (.int .i64 y.d) ∧ V.cell? ⟨bb, ob + k * 5 + 3, none⟩ = some (.string y.s) ∧ V.cell? ⟨bb, ob + k * 5 + 4, none⟩ = some (.slice B' y.l.length d') ∧ Ext wr V) ((exact MK.out _ (by repeat (first | with_reducible exact Ext.refl _ | with_reducible assumption | with_reducible refine Ext.drew ?_ | with_reducible refine Ext.drewN ?_ _ | with_reducible refine Ext.alloc ?_ _)))) ((go_at_call 68; ((with_reducible refine (HC.out _ (by repeat (first | with_reducible exact Ext.refl _ | with_reducible assumption | with_reducible refine Ext.drew ?_ | with_reducible refine Ext.drewN ?_ _ | with_reducible refine Ext.alloc ?_ _))).mono ?_); rintro e w' ⟨rfl, hb⟩; replace hb : Ext wr w' := Ext.trans (by repeat (first | with_reducible exact Ext.refl _ | with_reducible assumption | with_reducible refine Ext.drew ?_ | with_reducible refine Ext.drewN ?_ _ | with_reducible refine Ext.alloc ?_ _)) hb)))
          all_goals
            clear ‹_ ∧ _›
            go_wp2_with fail
            go_ret
            exact ⟨ret_i64 HT.out.symm, hE.trans (by repeat (first | with_reducible exact Ext.refl _ | with_reducible assumption | with_reducible refine Ext.drew ?_ | with_reducible refine Ext.drewN ?_ _ | with_reducible refine Ext.alloc ?_ _))⟩
      · have HT := Lib.hid (show R = Lib.compareInt (a.length : Int) (b.length : Int) by rw [hS.out, ordL_len (by omega) hk hkb])
        go_wp2_with (go_at_call 69; refine (r4_ints _ _ _).mono ?_; rintro e w' ⟨rfl, rfl⟩)
        go_ret
        exact ⟨ret_i64 HT.out.symm, hE⟩
    · have HT := Lib.hid (show R = Lib.compareInt (a.length : Int) (b.length : Int) by rw [hS.out, ordL_len (by omega) hk hkb])
      go_wp2_with (go_at_call 69; refine (r4_ints _ _ _).mono ?_; rintro e w' ⟨rfl, rfl⟩)
      go_ret
      exact ⟨ret_i64 HT.out.symm, hE⟩
end Go.Proofs.YtbjddimafilflaaGreatDoor
