/- PARTS OF THE WALKS, joined: FracCmp, Rc, Rd, Re, Rf, Clone. -/
import Derived.Test.YtigmdddeplnciaaGreatDoorV07
import Derived.Test.YtigmdddeplnciaaGreatDoorV05
import Derived.WalkSpells
import Derived.Deep.Cut
/- THE WALK over the reference's Cmp, by itself. -/
namespace Go.Proofs.YtigmdddeplnciaaGreatDoor
open Go.RowKit
theorem sgn_casesT (x : Int) : sgn x = -1 ∨ sgn x = 0 ∨ sgn x = 1 := by
  unfold sgn; split <;> (try split) <;> omega
theorem sgn_negT (x : Int) : sgn (-x) = -sgn x := by
  unfold sgn; split <;> split <;> (try split) <;> omega
theorem wrap_neg_sgn (c : Int) : IntKind.i64.wrap (-sgn c) = sgn (-c) := by
  rw [sgn_negT]; rcases sgn_casesT c with h | h | h <;> rw [h] <;> decide
set_option maxRecDepth 100000 in
set_option maxHeartbeats 6400000 in
theorem r3_Cmp (an ad bn bd : Int) (w : World) :
    Calls Tryz.prog 53 #[.agg #[.int .i64 an, .int .i64 ad], .agg #[.int .i64 bn, .int .i64 bd]] w fun e w' => e = .returned (.int .i64 (cmpS an ad bn bd)) ∧ Below w.heap.size w w' := by
  obtain ⟨⟨x1, x2⟩, x3, x4⟩ := fix_bounds an ad
  obtain ⟨⟨y1, y2⟩, y3, y4⟩ := fix_bounds bn bd
  have B1 := fixD_pos an ad
  have D1 := fixD_pos bn bd
  have HR : Hid (cmpS an ad bn bd = sgn (fixN an ad * fixD bn bd + -fixN bn bd * fixD an ad)) := by
    show _ = _
    unfold cmpS; congr 1; rw [Int.neg_mul]; omega
  generalize cmpS an ad bn bd = R at *
  obtain ⟨A, hA⟩ : ∃ A, Hid (fixN an ad = A) := ⟨_, rfl⟩
  obtain ⟨B, hB⟩ : ∃ B, Hid (fixD an ad = B) := ⟨_, rfl⟩
  obtain ⟨C, hC⟩ : ∃ C, Hid (fixN bn bd = C) := ⟨_, rfl⟩
  obtain ⟨D, hD⟩ : ∃ D, Hid (fixD bn bd = D) := ⟨_, rfl⟩
  rw [hA.out, hB.out, hC.out, hD.out] at HR
  rw [hA.out] at x1 x2
  rw [hB.out] at x3 x4 B1
  rw [hC.out] at y1 y2
  rw [hD.out] at y3 y4 D1
  cases ha : validB an ad <;> cases hb : validB bn bd
  · have hSt : Hid (∀ V, CmpSt w 0 1 0 1 V → CmpSt w A B C D V) := by
      intro V hV
      rw [← hA.out, ← hB.out, ← hC.out, ← hD.out, (fix_no ha).1, (fix_no ha).2, (fix_no hb).1, (fix_no hb).2]
      exact hV
    go_enter Tryz.func53, Tryz.ntmps53
    go_wp2_with fail
    refine (r3_Valid _ _ _).mono ?_
    rintro e w' ⟨rfl, hbb⟩
    obtain ⟨hc, hf⟩ := bcell hbb
    have c0 : w'.cell? ⟨w.heap.size, 0, none⟩ = some (.int .i64 an) := (hc _ _ (by first | omega | (simp; done) | (simp; omega))).trans (by go_simp); have f0 : w'.frozen? ⟨w.heap.size, 0, none⟩ = false := (hf _ _ (by first | omega | (simp; done) | (simp; omega))).trans (by go_simp); have c1 : w'.cell? ⟨w.heap.size, 1, none⟩ = some (.int .i64 ad) := (hc _ _ (by first | omega | (simp; done) | (simp; omega))).trans (by go_simp); have f1 : w'.frozen? ⟨w.heap.size, 1, none⟩ = false := (hf _ _ (by first | omega | (simp; done) | (simp; omega))).trans (by go_simp); have c2 : w'.cell? ⟨w.heap.size + 1, 0, none⟩ = some (.int .i64 bn) := (hc _ _ (by first | omega | (simp; done) | (simp; omega))).trans (by go_simp); have f2 : w'.frozen? ⟨w.heap.size + 1, 0, none⟩ = false := (hf _ _ (by first | omega | (simp; done) | (simp; omega))).trans (by go_simp); have c3 : w'.cell? ⟨w.heap.size + 1, 1, none⟩ = some (.int .i64 bd) := (hc _ _ (by first | omega | (simp; done) | (simp; omega))).trans (by go_simp); have f3 : w'.frozen? ⟨w.heap.size + 1, 1, none⟩ = false := (hf _ _ (by first | omega | (simp; done) | (simp; omega))).trans (by go_simp); have hz : w.heap.size + 1 < w'.heap.size := (by have hs := hbb.size; first | omega | (simp at hs; done) | (simp at hs; omega)); have hbA : Below w.heap.size w w' := Below.trans (b := _) (by repeat (first | with_reducible exact Below.refl _ _ | with_reducible assumption | with_reducible refine below_drewN' ?_ _ | (with_reducible refine Below.setCell ?_ (by first | (simp; done) | (simp; omega)) _) | (with_reducible refine Below.alloc ?_ (by first | exact Nat.le_refl _ | (simp; done) | (simp; omega)) _))) (hbb.mono (by first | omega | (simp; done) | (simp; omega))); clear hc hf hbb
    go_wp2_with fail
    refine (r3_Valid _ _ _).mono ?_
    rintro e w' ⟨rfl, hbb⟩
    obtain ⟨hc, hf⟩ := bcell hbb
    have c0 : w'.cell? ⟨w.heap.size, 0, none⟩ = some (.int .i64 0) := (hc _ _ (by first | omega | (simp; done) | (simp; omega))).trans (by go_simp); have f0 : w'.frozen? ⟨w.heap.size, 0, none⟩ = false := (hf _ _ (by first | omega | (simp; done) | (simp; omega))).trans (by go_simp); have c1 : w'.cell? ⟨w.heap.size, 1, none⟩ = some (.int .i64 1) := (hc _ _ (by first | omega | (simp; done) | (simp; omega))).trans (by go_simp); have f1 : w'.frozen? ⟨w.heap.size, 1, none⟩ = false := (hf _ _ (by first | omega | (simp; done) | (simp; omega))).trans (by go_simp); have c2 : w'.cell? ⟨w.heap.size + 1, 0, none⟩ = some (.int .i64 bn) := (hc _ _ (by first | omega | (simp; done) | (simp; omega))).trans (by go_simp); have f2 : w'.frozen? ⟨w.heap.size + 1, 0, none⟩ = false := (hf _ _ (by first | omega | (simp; done) | (simp; omega))).trans (by go_simp); have c3 : w'.cell? ⟨w.heap.size + 1, 1, none⟩ = some (.int .i64 bd) := (hc _ _ (by first | omega | (simp; done) | (simp; omega))).trans (by go_simp); have f3 : w'.frozen? ⟨w.heap.size + 1, 1, none⟩ = false := (hf _ _ (by first | omega | (simp; done) | (simp; omega))).trans (by go_simp); have hz : w.heap.size + 1 < w'.heap.size := (by have hs := hbb.size; first | omega | (simp at hs; done) | (simp at hs; omega)); have hbA : Below w.heap.size w w' := Below.trans (b := _) (by repeat (first | with_reducible exact Below.refl _ _ | with_reducible assumption | with_reducible refine below_drewN' ?_ _ | (with_reducible refine Below.setCell ?_ (by first | (simp; done) | (simp; omega)) _) | (with_reducible refine Below.alloc ?_ (by first | exact Nat.le_refl _ | (simp; done) | (simp; omega)) _))) (hbb.mono (by first | omega | (simp; done) | (simp; omega))); clear hc hf hbb
    go_wp2_with fail
    refine forget_world (CmpSt w 0 1 0 1) ⟨(by repeat (first | with_reducible exact Below.refl _ _ | with_reducible assumption | with_reducible refine below_drewN' ?_ _ | (with_reducible refine Below.setCell ?_ (by first | (simp; done) | (simp; omega)) _) | (with_reducible refine Below.alloc ?_ (by first | exact Nat.le_refl _ | (simp; done) | (simp; omega)) _))), by first | (go_simp; done) | (simp; omega), by go_simp, by go_simp, by go_simp, by go_simp⟩ ?_
    clear c0 c1 c2 c3 f0 f1 f2 f3 hz hbA
    intro V hV
    have hV2 := hSt.out V hV
    clear hV hSt hA hB hC hD ha hb
    have J1 := wrap_neg_sgn C
    go_region_held3 (fun V => V.cell? ⟨w.heap.size, 0, none⟩ = some (.int .i64 A) ∧ V.cell? ⟨w.heap.size, 1, none⟩ = some (.int .i64 B) ∧ V.cell? ⟨w.heap.size + 1, 0, none⟩ = some (.int .i64 C) ∧ V.cell? ⟨w.heap.size + 1, 1, none⟩ = some (.int .i64 D) ∧ CmpSt w A B C D V) (first | exact (CmpSt.drew hV2).conj | exact CmpSt.conj (by assumption)) (first | (go_at_call 84; refine (r3_sign _ _).mono ?_; rintro e w' ⟨rfl, rfl⟩; have hst := ‹_ ∧ _ ∧ _ ∧ _ ∧ CmpSt _ _ _ _ _ _›.2.2.2.2) | (go_at_call 86; refine (r3_size _ _ (by omega) (by omega)).mono ?_; rintro e w' ⟨rfl, rfl⟩; have hst := ‹_ ∧ _ ∧ _ ∧ _ ∧ CmpSt _ _ _ _ _ _›.2.2.2.2) | (go_at_call 85; refine (r3_times_i _ _ _ ⟨by omega, by omega⟩ ⟨by omega, by omega⟩).mono ?_; rintro e w' ⟨gg, ff, rfl, hlt, hrow, hsm, hval, hbb⟩; have hst := CmpSt.step (‹_ ∧ _ ∧ _ ∧ _ ∧ CmpSt _ _ _ _ _ _›.2.2.2.2) hbb; have HVAL := Lib.hid hval; clear hval) | (go_at_call 83; refine Calls.mono (r3_sum_of A (-C) D B _ _ ?fx0 ?fy0 _ ?hx0 ?hy0 ?sx0 ?sy0 ?vx0 ?vy0 ⟨x1, x2⟩ ⟨by omega, by omega⟩ ⟨D1, y4⟩ ⟨B1, x4⟩) ?_; (case hx0 => first | assumption | exact RowW.step (by assumption) (by assumption)); (case hy0 => first | assumption | exact RowW.step (by assumption) (by assumption)); (case sx0 => assumption); (case sy0 => assumption); (case vx0 => assumption); (case vy0 => exact Lib.hid ((Hid.out HVAL).trans (by rw [Int.natAbs_natCast, Int.natAbs_neg]))); rintro e w' ⟨gg, ff, rfl, hrow, hsm, hval, hbb⟩; have hst := CmpSt.step (‹_ ∧ _ ∧ _ ∧ _ ∧ CmpSt _ _ _ _ _ _›.2.2.2.2) hbb; have HVAL := Lib.hid hval; clear hval))
    all_goals go_wp2_with fail
    all_goals go_ret
    all_goals exact ⟨ret_int HR.out.symm, (‹_ ∧ _ ∧ _ ∧ _ ∧ CmpSt _ _ _ _ _ _›.2.2.2.2).1⟩
  · have hSt : Hid (∀ V, CmpSt w 0 1 bn bd V → CmpSt w A B C D V) := by
      intro V hV
      rw [← hA.out, ← hB.out, ← hC.out, ← hD.out, (fix_no ha).1, (fix_no ha).2, (fix_yes hb).1, (fix_yes hb).2]
      exact hV
    go_enter Tryz.func53, Tryz.ntmps53
    go_wp2_with fail
    refine (r3_Valid _ _ _).mono ?_
    rintro e w' ⟨rfl, hbb⟩
    obtain ⟨hc, hf⟩ := bcell hbb
    have c0 : w'.cell? ⟨w.heap.size, 0, none⟩ = some (.int .i64 an) := (hc _ _ (by first | omega | (simp; done) | (simp; omega))).trans (by go_simp); have f0 : w'.frozen? ⟨w.heap.size, 0, none⟩ = false := (hf _ _ (by first | omega | (simp; done) | (simp; omega))).trans (by go_simp); have c1 : w'.cell? ⟨w.heap.size, 1, none⟩ = some (.int .i64 ad) := (hc _ _ (by first | omega | (simp; done) | (simp; omega))).trans (by go_simp); have f1 : w'.frozen? ⟨w.heap.size, 1, none⟩ = false := (hf _ _ (by first | omega | (simp; done) | (simp; omega))).trans (by go_simp); have c2 : w'.cell? ⟨w.heap.size + 1, 0, none⟩ = some (.int .i64 bn) := (hc _ _ (by first | omega | (simp; done) | (simp; omega))).trans (by go_simp); have f2 : w'.frozen? ⟨w.heap.size + 1, 0, none⟩ = false := (hf _ _ (by first | omega | (simp; done) | (simp; omega))).trans (by go_simp); have c3 : w'.cell? ⟨w.heap.size + 1, 1, none⟩ = some (.int .i64 bd) := (hc _ _ (by first | omega | (simp; done) | (simp; omega))).trans (by go_simp); have f3 : w'.frozen? ⟨w.heap.size + 1, 1, none⟩ = false := (hf _ _ (by first | omega | (simp; done) | (simp; omega))).trans (by go_simp); have hz : w.heap.size + 1 < w'.heap.size := (by have hs := hbb.size; first | omega | (simp at hs; done) | (simp at hs; omega)); have hbA : Below w.heap.size w w' := Below.trans (b := _) (by repeat (first | with_reducible exact Below.refl _ _ | with_reducible assumption | with_reducible refine below_drewN' ?_ _ | (with_reducible refine Below.setCell ?_ (by first | (simp; done) | (simp; omega)) _) | (with_reducible refine Below.alloc ?_ (by first | exact Nat.le_refl _ | (simp; done) | (simp; omega)) _))) (hbb.mono (by first | omega | (simp; done) | (simp; omega))); clear hc hf hbb
    go_wp2_with fail
    refine (r3_Valid _ _ _).mono ?_
    rintro e w' ⟨rfl, hbb⟩
    obtain ⟨hc, hf⟩ := bcell hbb
    have c0 : w'.cell? ⟨w.heap.size, 0, none⟩ = some (.int .i64 0) := (hc _ _ (by first | omega | (simp; done) | (simp; omega))).trans (by go_simp); have f0 : w'.frozen? ⟨w.heap.size, 0, none⟩ = false := (hf _ _ (by first | omega | (simp; done) | (simp; omega))).trans (by go_simp); have c1 : w'.cell? ⟨w.heap.size, 1, none⟩ = some (.int .i64 1) := (hc _ _ (by first | omega | (simp; done) | (simp; omega))).trans (by go_simp); have f1 : w'.frozen? ⟨w.heap.size, 1, none⟩ = false := (hf _ _ (by first | omega | (simp; done) | (simp; omega))).trans (by go_simp); have c2 : w'.cell? ⟨w.heap.size + 1, 0, none⟩ = some (.int .i64 bn) := (hc _ _ (by first | omega | (simp; done) | (simp; omega))).trans (by go_simp); have f2 : w'.frozen? ⟨w.heap.size + 1, 0, none⟩ = false := (hf _ _ (by first | omega | (simp; done) | (simp; omega))).trans (by go_simp); have c3 : w'.cell? ⟨w.heap.size + 1, 1, none⟩ = some (.int .i64 bd) := (hc _ _ (by first | omega | (simp; done) | (simp; omega))).trans (by go_simp); have f3 : w'.frozen? ⟨w.heap.size + 1, 1, none⟩ = false := (hf _ _ (by first | omega | (simp; done) | (simp; omega))).trans (by go_simp); have hz : w.heap.size + 1 < w'.heap.size := (by have hs := hbb.size; first | omega | (simp at hs; done) | (simp at hs; omega)); have hbA : Below w.heap.size w w' := Below.trans (b := _) (by repeat (first | with_reducible exact Below.refl _ _ | with_reducible assumption | with_reducible refine below_drewN' ?_ _ | (with_reducible refine Below.setCell ?_ (by first | (simp; done) | (simp; omega)) _) | (with_reducible refine Below.alloc ?_ (by first | exact Nat.le_refl _ | (simp; done) | (simp; omega)) _))) (hbb.mono (by first | omega | (simp; done) | (simp; omega))); clear hc hf hbb
    go_wp2_with fail
    refine forget_world (CmpSt w 0 1 bn bd) ⟨(by repeat (first | with_reducible exact Below.refl _ _ | with_reducible assumption | with_reducible refine below_drewN' ?_ _ | (with_reducible refine Below.setCell ?_ (by first | (simp; done) | (simp; omega)) _) | (with_reducible refine Below.alloc ?_ (by first | exact Nat.le_refl _ | (simp; done) | (simp; omega)) _))), by first | (go_simp; done) | (simp; omega), by go_simp, by go_simp, by go_simp, by go_simp⟩ ?_
    clear c0 c1 c2 c3 f0 f1 f2 f3 hz hbA
    intro V hV
    have hV2 := hSt.out V hV
    clear hV hSt hA hB hC hD ha hb
    have J1 := wrap_neg_sgn C
    go_region_held3 (fun V => V.cell? ⟨w.heap.size, 0, none⟩ = some (.int .i64 A) ∧ V.cell? ⟨w.heap.size, 1, none⟩ = some (.int .i64 B) ∧ V.cell? ⟨w.heap.size + 1, 0, none⟩ = some (.int .i64 C) ∧ V.cell? ⟨w.heap.size + 1, 1, none⟩ = some (.int .i64 D) ∧ CmpSt w A B C D V) (first | exact (CmpSt.drew hV2).conj | exact CmpSt.conj (by assumption)) (first | (go_at_call 84; refine (r3_sign _ _).mono ?_; rintro e w' ⟨rfl, rfl⟩; have hst := ‹_ ∧ _ ∧ _ ∧ _ ∧ CmpSt _ _ _ _ _ _›.2.2.2.2) | (go_at_call 86; refine (r3_size _ _ (by omega) (by omega)).mono ?_; rintro e w' ⟨rfl, rfl⟩; have hst := ‹_ ∧ _ ∧ _ ∧ _ ∧ CmpSt _ _ _ _ _ _›.2.2.2.2) | (go_at_call 85; refine (r3_times_i _ _ _ ⟨by omega, by omega⟩ ⟨by omega, by omega⟩).mono ?_; rintro e w' ⟨gg, ff, rfl, hlt, hrow, hsm, hval, hbb⟩; have hst := CmpSt.step (‹_ ∧ _ ∧ _ ∧ _ ∧ CmpSt _ _ _ _ _ _›.2.2.2.2) hbb; have HVAL := Lib.hid hval; clear hval) | (go_at_call 83; refine Calls.mono (r3_sum_of A (-C) D B _ _ ?fx1 ?fy1 _ ?hx1 ?hy1 ?sx1 ?sy1 ?vx1 ?vy1 ⟨x1, x2⟩ ⟨by omega, by omega⟩ ⟨D1, y4⟩ ⟨B1, x4⟩) ?_; (case hx1 => first | assumption | exact RowW.step (by assumption) (by assumption)); (case hy1 => first | assumption | exact RowW.step (by assumption) (by assumption)); (case sx1 => assumption); (case sy1 => assumption); (case vx1 => assumption); (case vy1 => exact Lib.hid ((Hid.out HVAL).trans (by rw [Int.natAbs_natCast, Int.natAbs_neg]))); rintro e w' ⟨gg, ff, rfl, hrow, hsm, hval, hbb⟩; have hst := CmpSt.step (‹_ ∧ _ ∧ _ ∧ _ ∧ CmpSt _ _ _ _ _ _›.2.2.2.2) hbb; have HVAL := Lib.hid hval; clear hval))
    all_goals go_wp2_with fail
    all_goals go_ret
    all_goals exact ⟨ret_int HR.out.symm, (‹_ ∧ _ ∧ _ ∧ _ ∧ CmpSt _ _ _ _ _ _›.2.2.2.2).1⟩
  · have hSt : Hid (∀ V, CmpSt w an ad 0 1 V → CmpSt w A B C D V) := by
      intro V hV
      rw [← hA.out, ← hB.out, ← hC.out, ← hD.out, (fix_yes ha).1, (fix_yes ha).2, (fix_no hb).1, (fix_no hb).2]
      exact hV
    go_enter Tryz.func53, Tryz.ntmps53
    go_wp2_with fail
    refine (r3_Valid _ _ _).mono ?_
    rintro e w' ⟨rfl, hbb⟩
    obtain ⟨hc, hf⟩ := bcell hbb
    have c0 : w'.cell? ⟨w.heap.size, 0, none⟩ = some (.int .i64 an) := (hc _ _ (by first | omega | (simp; done) | (simp; omega))).trans (by go_simp); have f0 : w'.frozen? ⟨w.heap.size, 0, none⟩ = false := (hf _ _ (by first | omega | (simp; done) | (simp; omega))).trans (by go_simp); have c1 : w'.cell? ⟨w.heap.size, 1, none⟩ = some (.int .i64 ad) := (hc _ _ (by first | omega | (simp; done) | (simp; omega))).trans (by go_simp); have f1 : w'.frozen? ⟨w.heap.size, 1, none⟩ = false := (hf _ _ (by first | omega | (simp; done) | (simp; omega))).trans (by go_simp); have c2 : w'.cell? ⟨w.heap.size + 1, 0, none⟩ = some (.int .i64 bn) := (hc _ _ (by first | omega | (simp; done) | (simp; omega))).trans (by go_simp); have f2 : w'.frozen? ⟨w.heap.size + 1, 0, none⟩ = false := (hf _ _ (by first | omega | (simp; done) | (simp; omega))).trans (by go_simp); have c3 : w'.cell? ⟨w.heap.size + 1, 1, none⟩ = some (.int .i64 bd) := (hc _ _ (by first | omega | (simp; done) | (simp; omega))).trans (by go_simp); have f3 : w'.frozen? ⟨w.heap.size + 1, 1, none⟩ = false := (hf _ _ (by first | omega | (simp; done) | (simp; omega))).trans (by go_simp); have hz : w.heap.size + 1 < w'.heap.size := (by have hs := hbb.size; first | omega | (simp at hs; done) | (simp at hs; omega)); have hbA : Below w.heap.size w w' := Below.trans (b := _) (by repeat (first | with_reducible exact Below.refl _ _ | with_reducible assumption | with_reducible refine below_drewN' ?_ _ | (with_reducible refine Below.setCell ?_ (by first | (simp; done) | (simp; omega)) _) | (with_reducible refine Below.alloc ?_ (by first | exact Nat.le_refl _ | (simp; done) | (simp; omega)) _))) (hbb.mono (by first | omega | (simp; done) | (simp; omega))); clear hc hf hbb
    go_wp2_with fail
    refine (r3_Valid _ _ _).mono ?_
    rintro e w' ⟨rfl, hbb⟩
    obtain ⟨hc, hf⟩ := bcell hbb
    have c0 : w'.cell? ⟨w.heap.size, 0, none⟩ = some (.int .i64 an) := (hc _ _ (by first | omega | (simp; done) | (simp; omega))).trans (by go_simp); have f0 : w'.frozen? ⟨w.heap.size, 0, none⟩ = false := (hf _ _ (by first | omega | (simp; done) | (simp; omega))).trans (by go_simp); have c1 : w'.cell? ⟨w.heap.size, 1, none⟩ = some (.int .i64 ad) := (hc _ _ (by first | omega | (simp; done) | (simp; omega))).trans (by go_simp); have f1 : w'.frozen? ⟨w.heap.size, 1, none⟩ = false := (hf _ _ (by first | omega | (simp; done) | (simp; omega))).trans (by go_simp); have c2 : w'.cell? ⟨w.heap.size + 1, 0, none⟩ = some (.int .i64 bn) := (hc _ _ (by first | omega | (simp; done) | (simp; omega))).trans (by go_simp); have f2 : w'.frozen? ⟨w.heap.size + 1, 0, none⟩ = false := (hf _ _ (by first | omega | (simp; done) | (simp; omega))).trans (by go_simp); have c3 : w'.cell? ⟨w.heap.size + 1, 1, none⟩ = some (.int .i64 bd) := (hc _ _ (by first | omega | (simp; done) | (simp; omega))).trans (by go_simp); have f3 : w'.frozen? ⟨w.heap.size + 1, 1, none⟩ = false := (hf _ _ (by first | omega | (simp; done) | (simp; omega))).trans (by go_simp); have hz : w.heap.size + 1 < w'.heap.size := (by have hs := hbb.size; first | omega | (simp at hs; done) | (simp at hs; omega)); have hbA : Below w.heap.size w w' := Below.trans (b := _) (by repeat (first | with_reducible exact Below.refl _ _ | with_reducible assumption | with_reducible refine below_drewN' ?_ _ | (with_reducible refine Below.setCell ?_ (by first | (simp; done) | (simp; omega)) _) | (with_reducible refine Below.alloc ?_ (by first | exact Nat.le_refl _ | (simp; done) | (simp; omega)) _))) (hbb.mono (by first | omega | (simp; done) | (simp; omega))); clear hc hf hbb
    go_wp2_with fail
    refine forget_world (CmpSt w an ad 0 1) ⟨(by repeat (first | with_reducible exact Below.refl _ _ | with_reducible assumption | with_reducible refine below_drewN' ?_ _ | (with_reducible refine Below.setCell ?_ (by first | (simp; done) | (simp; omega)) _) | (with_reducible refine Below.alloc ?_ (by first | exact Nat.le_refl _ | (simp; done) | (simp; omega)) _))), by first | (go_simp; done) | (simp; omega), by go_simp, by go_simp, by go_simp, by go_simp⟩ ?_
    clear c0 c1 c2 c3 f0 f1 f2 f3 hz hbA
    intro V hV
    have hV2 := hSt.out V hV
    clear hV hSt hA hB hC hD ha hb
    have J1 := wrap_neg_sgn C
    go_region_held3 (fun V => V.cell? ⟨w.heap.size, 0, none⟩ = some (.int .i64 A) ∧ V.cell? ⟨w.heap.size, 1, none⟩ = some (.int .i64 B) ∧ V.cell? ⟨w.heap.size + 1, 0, none⟩ = some (.int .i64 C) ∧ V.cell? ⟨w.heap.size + 1, 1, none⟩ = some (.int .i64 D) ∧ CmpSt w A B C D V) (first | exact (CmpSt.drew hV2).conj | exact CmpSt.conj (by assumption)) (first | (go_at_call 84; refine (r3_sign _ _).mono ?_; rintro e w' ⟨rfl, rfl⟩; have hst := ‹_ ∧ _ ∧ _ ∧ _ ∧ CmpSt _ _ _ _ _ _›.2.2.2.2) | (go_at_call 86; refine (r3_size _ _ (by omega) (by omega)).mono ?_; rintro e w' ⟨rfl, rfl⟩; have hst := ‹_ ∧ _ ∧ _ ∧ _ ∧ CmpSt _ _ _ _ _ _›.2.2.2.2) | (go_at_call 85; refine (r3_times_i _ _ _ ⟨by omega, by omega⟩ ⟨by omega, by omega⟩).mono ?_; rintro e w' ⟨gg, ff, rfl, hlt, hrow, hsm, hval, hbb⟩; have hst := CmpSt.step (‹_ ∧ _ ∧ _ ∧ _ ∧ CmpSt _ _ _ _ _ _›.2.2.2.2) hbb; have HVAL := Lib.hid hval; clear hval) | (go_at_call 83; refine Calls.mono (r3_sum_of A (-C) D B _ _ ?fx2 ?fy2 _ ?hx2 ?hy2 ?sx2 ?sy2 ?vx2 ?vy2 ⟨x1, x2⟩ ⟨by omega, by omega⟩ ⟨D1, y4⟩ ⟨B1, x4⟩) ?_; (case hx2 => first | assumption | exact RowW.step (by assumption) (by assumption)); (case hy2 => first | assumption | exact RowW.step (by assumption) (by assumption)); (case sx2 => assumption); (case sy2 => assumption); (case vx2 => assumption); (case vy2 => exact Lib.hid ((Hid.out HVAL).trans (by rw [Int.natAbs_natCast, Int.natAbs_neg]))); rintro e w' ⟨gg, ff, rfl, hrow, hsm, hval, hbb⟩; have hst := CmpSt.step (‹_ ∧ _ ∧ _ ∧ _ ∧ CmpSt _ _ _ _ _ _›.2.2.2.2) hbb; have HVAL := Lib.hid hval; clear hval))
    all_goals go_wp2_with fail
    all_goals go_ret
    all_goals exact ⟨ret_int HR.out.symm, (‹_ ∧ _ ∧ _ ∧ _ ∧ CmpSt _ _ _ _ _ _›.2.2.2.2).1⟩
  · have hSt : Hid (∀ V, CmpSt w an ad bn bd V → CmpSt w A B C D V) := by
      intro V hV
      rw [← hA.out, ← hB.out, ← hC.out, ← hD.out, (fix_yes ha).1, (fix_yes ha).2, (fix_yes hb).1, (fix_yes hb).2]
      exact hV
    go_enter Tryz.func53, Tryz.ntmps53
    go_wp2_with fail
    refine (r3_Valid _ _ _).mono ?_
    rintro e w' ⟨rfl, hbb⟩
    obtain ⟨hc, hf⟩ := bcell hbb
    have c0 : w'.cell? ⟨w.heap.size, 0, none⟩ = some (.int .i64 an) := (hc _ _ (by first | omega | (simp; done) | (simp; omega))).trans (by go_simp); have f0 : w'.frozen? ⟨w.heap.size, 0, none⟩ = false := (hf _ _ (by first | omega | (simp; done) | (simp; omega))).trans (by go_simp); have c1 : w'.cell? ⟨w.heap.size, 1, none⟩ = some (.int .i64 ad) := (hc _ _ (by first | omega | (simp; done) | (simp; omega))).trans (by go_simp); have f1 : w'.frozen? ⟨w.heap.size, 1, none⟩ = false := (hf _ _ (by first | omega | (simp; done) | (simp; omega))).trans (by go_simp); have c2 : w'.cell? ⟨w.heap.size + 1, 0, none⟩ = some (.int .i64 bn) := (hc _ _ (by first | omega | (simp; done) | (simp; omega))).trans (by go_simp); have f2 : w'.frozen? ⟨w.heap.size + 1, 0, none⟩ = false := (hf _ _ (by first | omega | (simp; done) | (simp; omega))).trans (by go_simp); have c3 : w'.cell? ⟨w.heap.size + 1, 1, none⟩ = some (.int .i64 bd) := (hc _ _ (by first | omega | (simp; done) | (simp; omega))).trans (by go_simp); have f3 : w'.frozen? ⟨w.heap.size + 1, 1, none⟩ = false := (hf _ _ (by first | omega | (simp; done) | (simp; omega))).trans (by go_simp); have hz : w.heap.size + 1 < w'.heap.size := (by have hs := hbb.size; first | omega | (simp at hs; done) | (simp at hs; omega)); have hbA : Below w.heap.size w w' := Below.trans (b := _) (by repeat (first | with_reducible exact Below.refl _ _ | with_reducible assumption | with_reducible refine below_drewN' ?_ _ | (with_reducible refine Below.setCell ?_ (by first | (simp; done) | (simp; omega)) _) | (with_reducible refine Below.alloc ?_ (by first | exact Nat.le_refl _ | (simp; done) | (simp; omega)) _))) (hbb.mono (by first | omega | (simp; done) | (simp; omega))); clear hc hf hbb
    go_wp2_with fail
    refine (r3_Valid _ _ _).mono ?_
    rintro e w' ⟨rfl, hbb⟩
    obtain ⟨hc, hf⟩ := bcell hbb
    have c0 : w'.cell? ⟨w.heap.size, 0, none⟩ = some (.int .i64 an) := (hc _ _ (by first | omega | (simp; done) | (simp; omega))).trans (by go_simp); have f0 : w'.frozen? ⟨w.heap.size, 0, none⟩ = false := (hf _ _ (by first | omega | (simp; done) | (simp; omega))).trans (by go_simp); have c1 : w'.cell? ⟨w.heap.size, 1, none⟩ = some (.int .i64 ad) := (hc _ _ (by first | omega | (simp; done) | (simp; omega))).trans (by go_simp); have f1 : w'.frozen? ⟨w.heap.size, 1, none⟩ = false := (hf _ _ (by first | omega | (simp; done) | (simp; omega))).trans (by go_simp); have c2 : w'.cell? ⟨w.heap.size + 1, 0, none⟩ = some (.int .i64 bn) := (hc _ _ (by first | omega | (simp; done) | (simp; omega))).trans (by go_simp); have f2 : w'.frozen? ⟨w.heap.size + 1, 0, none⟩ = false := (hf _ _ (by first | omega | (simp; done) | (simp; omega))).trans (by go_simp); have c3 : w'.cell? ⟨w.heap.size + 1, 1, none⟩ = some (.int .i64 bd) := (hc _ _ (by first | omega | (simp; done) | (simp; omega))).trans (by go_simp); have f3 : w'.frozen? ⟨w.heap.size + 1, 1, none⟩ = false := (hf _ _ (by first | omega | (simp; done) | (simp; omega))).trans (by go_simp); have hz : w.heap.size + 1 < w'.heap.size := (by have hs := hbb.size; first | omega | (simp at hs; done) | (simp at hs; omega)); have hbA : Below w.heap.size w w' := Below.trans (b := _) (by repeat (first | with_reducible exact Below.refl _ _ | with_reducible assumption | with_reducible refine below_drewN' ?_ _ | (with_reducible refine Below.setCell ?_ (by first | (simp; done) | (simp; omega)) _) | (with_reducible refine Below.alloc ?_ (by first | exact Nat.le_refl _ | (simp; done) | (simp; omega)) _))) (hbb.mono (by first | omega | (simp; done) | (simp; omega))); clear hc hf hbb
    go_wp2_with fail
    refine forget_world (CmpSt w an ad bn bd) ⟨(by repeat (first | with_reducible exact Below.refl _ _ | with_reducible assumption | with_reducible refine below_drewN' ?_ _ | (with_reducible refine Below.setCell ?_ (by first | (simp; done) | (simp; omega)) _) | (with_reducible refine Below.alloc ?_ (by first | exact Nat.le_refl _ | (simp; done) | (simp; omega)) _))), by first | (go_simp; done) | (simp; omega), by go_simp, by go_simp, by go_simp, by go_simp⟩ ?_
    clear c0 c1 c2 c3 f0 f1 f2 f3 hz hbA
    intro V hV
    have hV2 := hSt.out V hV
    clear hV hSt hA hB hC hD ha hb
    have J1 := wrap_neg_sgn C
    go_region_held3 (fun V => V.cell? ⟨w.heap.size, 0, none⟩ = some (.int .i64 A) ∧ V.cell? ⟨w.heap.size, 1, none⟩ = some (.int .i64 B) ∧ V.cell? ⟨w.heap.size + 1, 0, none⟩ = some (.int .i64 C) ∧ V.cell? ⟨w.heap.size + 1, 1, none⟩ = some (.int .i64 D) ∧ CmpSt w A B C D V) (first | exact (CmpSt.drew hV2).conj | exact CmpSt.conj (by assumption)) (first | (go_at_call 84; refine (r3_sign _ _).mono ?_; rintro e w' ⟨rfl, rfl⟩; have hst := ‹_ ∧ _ ∧ _ ∧ _ ∧ CmpSt _ _ _ _ _ _›.2.2.2.2) | (go_at_call 86; refine (r3_size _ _ (by omega) (by omega)).mono ?_; rintro e w' ⟨rfl, rfl⟩; have hst := ‹_ ∧ _ ∧ _ ∧ _ ∧ CmpSt _ _ _ _ _ _›.2.2.2.2) | (go_at_call 85; refine (r3_times_i _ _ _ ⟨by omega, by omega⟩ ⟨by omega, by omega⟩).mono ?_; rintro e w' ⟨gg, ff, rfl, hlt, hrow, hsm, hval, hbb⟩; have hst := CmpSt.step (‹_ ∧ _ ∧ _ ∧ _ ∧ CmpSt _ _ _ _ _ _›.2.2.2.2) hbb; have HVAL := Lib.hid hval; clear hval) | (go_at_call 83; refine Calls.mono (r3_sum_of A (-C) D B _ _ ?fx3 ?fy3 _ ?hx3 ?hy3 ?sx3 ?sy3 ?vx3 ?vy3 ⟨x1, x2⟩ ⟨by omega, by omega⟩ ⟨D1, y4⟩ ⟨B1, x4⟩) ?_; (case hx3 => first | assumption | exact RowW.step (by assumption) (by assumption)); (case hy3 => first | assumption | exact RowW.step (by assumption) (by assumption)); (case sx3 => assumption); (case sy3 => assumption); (case vx3 => assumption); (case vy3 => exact Lib.hid ((Hid.out HVAL).trans (by rw [Int.natAbs_natCast, Int.natAbs_neg]))); rintro e w' ⟨gg, ff, rfl, hrow, hsm, hval, hbb⟩; have hst := CmpSt.step (‹_ ∧ _ ∧ _ ∧ _ ∧ CmpSt _ _ _ _ _ _›.2.2.2.2) hbb; have HVAL := Lib.hid hval; clear hval))
    all_goals go_wp2_with fail
    all_goals go_ret
    all_goals exact ⟨ret_int HR.out.symm, (‹_ ∧ _ ∧ _ ∧ _ ∧ CmpSt _ _ _ _ _ _›.2.2.2.2).1⟩
end Go.Proofs.YtigmdddeplnciaaGreatDoor

/- THE WALKS over the reference's yes, ints, strs, class, Number. -/
namespace Go.Proofs.YtigmdddeplnciaaGreatDoor
open Go.RowKit
theorem r4_yes (b : Bool) (w : World) : Calls Tryz.prog 48 #[.bool b] w fun e w' => e = .returned (.int .i64 (if b then 2 else 0)) ∧ w' = w := by
  cases b <;>
  · go_enter Tryz.func48, Tryz.ntmps48
    go_wp2
    go_ret
    exact ⟨rfl, rfl⟩
theorem r4_ints (x y : Int) (w : World) : Calls Tryz.prog 50 #[.int .i64 x, .int .i64 y] w fun e w' => e = .returned (.int .i64 (Lib.compareInt x y)) ∧ w' = w := by
  rcases Int.lt_trichotomy x y with h | h | h
  · have HV := Lib.hid (show Lib.compareInt x y = -1 by unfold Lib.compareInt; rw [if_pos h])
    go_enter Tryz.func50, Tryz.ntmps50
    go_wp2
    go_ret
    exact ⟨ret_i64 HV.out.symm, rfl⟩
  · have HV := Lib.hid (show Lib.compareInt x y = 0 by unfold Lib.compareInt; rw [if_neg (by omega), if_neg (by omega)])
    have h1 : ¬ x < y := by omega
    have h2 : ¬ y < x := by omega
    clear h
    go_enter Tryz.func50, Tryz.ntmps50
    go_wp2
    go_ret
    exact ⟨ret_i64 HV.out.symm, rfl⟩
  · have HV := Lib.hid (show Lib.compareInt x y = 1 by unfold Lib.compareInt; rw [if_neg (by omega), if_pos h])
    have h1 : ¬ x < y := by omega
    go_enter Tryz.func50, Tryz.ntmps50
    go_wp2
    go_ret
    exact ⟨ret_i64 HV.out.symm, rfl⟩
theorem r4_strs (a b : ByteArray) (w : World) : Calls Tryz.prog 80 #[.string a, .string b] w fun e w' => e = .returned (.int .i64 (cmpT a b)) ∧ w' = w := by
  rcases cmpT_tri a b with ⟨h, h1, -⟩ | ⟨h, h1⟩ | ⟨h, h1, -⟩
  · have HV := Lib.hid h1
    clear h1
    go_enter Tryz.func80, Tryz.ntmps80
    go_wp2
    go_ret
    exact ⟨ret_i64 HV.out.symm, rfl⟩
  · subst h
    have HV := Lib.hid h1
    have h2 := less_irrefl a.toList
    clear h1
    go_enter Tryz.func80, Tryz.ntmps80
    go_wp2
    go_ret
    exact ⟨ret_i64 HV.out.symm, rfl⟩
  · have HV := Lib.hid h1
    have h2 := less_asymm h
    have h3 : (a.toList == b.toList) = false := by
      rw [beq_eq_false_iff_ne]
      intro e
      rw [e, less_irrefl] at h; cases h
    clear h1
    go_enter Tryz.func80, Tryz.ntmps80
    go_wp2
    go_ret
    exact ⟨ret_i64 HV.out.symm, rfl⟩
/-- the reference's numbers of the classes -/
def clsR (k : Int) : Int := if k = 0 then 0 else if k = 1 then 1 else if k = 2 then 2 else if k = 3 then 2 else if k = 4 then 3 else if k = 5 then 4 else if k = 6 then 5 else if k = 8 then 6 else 7
theorem clsR_cmp {k k' : Int} (h : 0 ≤ k ∧ k ≤ 8) (h' : 0 ≤ k' ∧ k' ≤ 8) : Lib.compareInt (clsR k) (clsR k') = Lib.compareInt (cls k) (cls k') := by
  have a : k = 0 ∨ k = 1 ∨ k = 2 ∨ k = 3 ∨ k = 4 ∨ k = 5 ∨ k = 6 ∨ k = 7 ∨ k = 8 := by omega
  have b : k' = 0 ∨ k' = 1 ∨ k' = 2 ∨ k' = 3 ∨ k' = 4 ∨ k' = 5 ∨ k' = 6 ∨ k' = 7 ∨ k' = 8 := by omega
  rcases a with rfl | rfl | rfl | rfl | rfl | rfl | rfl | rfl | rfl <;> rcases b with rfl | rfl | rfl | rfl | rfl | rfl | rfl | rfl | rfl <;> rfl
set_option maxHeartbeats 800000 in
theorem r4_class (k : Int) (w : World) : Calls Tryz.prog 51 #[.int .i64 k] w fun e w' => e = .returned (.int .i64 (clsR k)) ∧ w' = w := by
  go_enter Tryz.func51, Tryz.ntmps51
  go_wp2
  all_goals
    go_ret
    refine ⟨ret_i64 ?_, rfl⟩
    unfold clsR
    simp_all
/-- the fraction of a number; 0/0 of what is none -/
def numN (v : Val) : Int := if cls v.kind = 2 then v.n else 0
def numD (v : Val) : Int := if cls v.kind = 2 then dnV v.kind v.d else 0
set_option maxRecDepth 100000 in
set_option maxHeartbeats 1600000 in
theorem r4_Number2 (v : Val) (ok : Nat → Prop) (A : Option Addr) (c : Nat) (w : World) (hv : Vals w ok A v.l) (hs : szV v) (hV : validV v = true) (hk : v.kind = 2) :
    Calls Tryz.prog 52 #[.agg #[.int .i64 2, .int .i64 v.n, .int .i64 v.d, .string v.s, .slice A v.l.length c]] w fun e w' => e = .returned (.tuple #[.agg #[.int .i64 v.n, .int .i64 1], .bool true]) ∧ Ext w w' := by
  obtain ⟨g, w1, hg, hw1, ⟨c0, c1, c2, c3, c4⟩, hx, -⟩ := box5 w v.kind v.n v.d v.s A v.l.length c 37
  have hz : g < w1.heap.size := block_lt_of_cell c0
  obtain ⟨w2, hw2, hx2⟩ : ∃ w2, w2 = w1.alloc (.cells #[.int .i64 0, .int .i64 0] 78) ∧ Ext w1 w2 := ⟨_, rfl, (Ext.refl _).alloc _⟩
  have C := r4_Valid v ok A c w2 (hv.ext (hx.trans hx2)) hs
  rw [hV] at C
  have HB := Lib.hid (show w2.heap[w1.heap.size]? = some (.cells #[.int .i64 0, .int .i64 0] 78) by rw [hw2]; exact heap_alloc_new _ _)
  obtain ⟨g2, hg2⟩ : ∃ g2, g2 = w1.heap.size := ⟨_, rfl⟩
  rw [← hg2] at HB
  have hle : w1.heap.size ≤ g2 := by omega
  have HW1 := Lib.hid hw1
  have HW2 := Lib.hid hw2
  have HG := Lib.hid hg
  have HG2 := Lib.hid (show g2 = w.heap.size + 1 by rw [hg2, hw1]; go_simp)
  replace c0 := hx2.cell c0
  replace c1 := hx2.cell c1
  replace c2 := hx2.cell c2
  replace c3 := hx2.cell c3
  replace c4 := hx2.cell c4
  have hw1' := HW1.out
  rw [hk] at c0 C hw1'
  replace HW1 := Lib.hid hw1'
  clear hw1'
  clear hk
  have HC := Lib.hid C
  clear hw1 hw2 hg hv hV C hg2 hs
  go_enter Tryz.func52, Tryz.ntmps52
  go_upto_region 1 with (fail)
  rw [← HW1.out, ← HW2.out, ← HG2.out, ← HG.out]
  clear HW1 HG HW2 HG2
  go_wp2_with fail
  refine (HC.out).mono ?_
  rintro e w3 ⟨rfl, hE⟩
  have hb1 := hE.heap HB.out
  replace c0 := hE.cell c0
  replace c1 := hE.cell c1
  replace c2 := hE.cell c2
  have f0 : w3.frozen? ⟨g2, 0, none⟩ = false := by simp [World.frozen?, hb1]
  have f1 : w3.frozen? ⟨g2, 1, none⟩ = false := by simp [World.frozen?, hb1]
  have e0 : w3.cell? ⟨g2, 0, none⟩ = some (.int .i64 0) := by rw [cell_of_row w3 g2 0 _ _ _ hb1]; rfl
  have e1 : w3.cell? ⟨g2, 1, none⟩ = some (.int .i64 0) := by rw [cell_of_row w3 g2 1 _ _ _ hb1]; rfl
  clear hb1 HB HC c3 c4
  go_wp2_with fail
  have hle2 : w.heap.size ≤ g2 := Nat.le_trans hx.le hle
  exact bodyPost_ret (v := .tuple #[.agg #[.int .i64 v.n, .int .i64 1], .bool true]) (by simp [results, Tryz.results52, go_sem, e0, e1]) rfl ⟨rfl, (hx.trans (hx2.trans hE)).setCell hle2 _ |>.setCell hle2 _⟩
set_option maxRecDepth 100000 in
set_option maxHeartbeats 1600000 in
theorem r4_Number3 (v : Val) (ok : Nat → Prop) (A : Option Addr) (c : Nat) (w : World) (hv : Vals w ok A v.l) (hs : szV v) (hV : validV v = true) (hk : v.kind = 3) :
    Calls Tryz.prog 52 #[.agg #[.int .i64 3, .int .i64 v.n, .int .i64 v.d, .string v.s, .slice A v.l.length c]] w fun e w' => e = .returned (.tuple #[.agg #[.int .i64 v.n, .int .i64 v.d], .bool true]) ∧ Ext w w' := by
  obtain ⟨g, w1, hg, hw1, ⟨c0, c1, c2, c3, c4⟩, hx, -⟩ := box5 w v.kind v.n v.d v.s A v.l.length c 37
  have hz : g < w1.heap.size := block_lt_of_cell c0
  obtain ⟨w2, hw2, hx2⟩ : ∃ w2, w2 = w1.alloc (.cells #[.int .i64 0, .int .i64 0] 78) ∧ Ext w1 w2 := ⟨_, rfl, (Ext.refl _).alloc _⟩
  have C := r4_Valid v ok A c w2 (hv.ext (hx.trans hx2)) hs
  rw [hV] at C
  have HB := Lib.hid (show w2.heap[w1.heap.size]? = some (.cells #[.int .i64 0, .int .i64 0] 78) by rw [hw2]; exact heap_alloc_new _ _)
  obtain ⟨g2, hg2⟩ : ∃ g2, g2 = w1.heap.size := ⟨_, rfl⟩
  rw [← hg2] at HB
  have hle : w1.heap.size ≤ g2 := by omega
  have HW1 := Lib.hid hw1
  have HW2 := Lib.hid hw2
  have HG := Lib.hid hg
  have HG2 := Lib.hid (show g2 = w.heap.size + 1 by rw [hg2, hw1]; go_simp)
  replace c0 := hx2.cell c0
  replace c1 := hx2.cell c1
  replace c2 := hx2.cell c2
  replace c3 := hx2.cell c3
  replace c4 := hx2.cell c4
  have hw1' := HW1.out
  rw [hk] at c0 C hw1'
  replace HW1 := Lib.hid hw1'
  clear hw1'
  clear hk
  have HC := Lib.hid C
  clear hw1 hw2 hg hv hV C hg2 hs
  go_enter Tryz.func52, Tryz.ntmps52
  go_upto_region 1 with (fail)
  rw [← HW1.out, ← HW2.out, ← HG2.out, ← HG.out]
  clear HW1 HG HW2 HG2
  go_wp2_with fail
  refine (HC.out).mono ?_
  rintro e w3 ⟨rfl, hE⟩
  have hb1 := hE.heap HB.out
  replace c0 := hE.cell c0
  replace c1 := hE.cell c1
  replace c2 := hE.cell c2
  have f0 : w3.frozen? ⟨g2, 0, none⟩ = false := by simp [World.frozen?, hb1]
  have f1 : w3.frozen? ⟨g2, 1, none⟩ = false := by simp [World.frozen?, hb1]
  have e0 : w3.cell? ⟨g2, 0, none⟩ = some (.int .i64 0) := by rw [cell_of_row w3 g2 0 _ _ _ hb1]; rfl
  have e1 : w3.cell? ⟨g2, 1, none⟩ = some (.int .i64 0) := by rw [cell_of_row w3 g2 1 _ _ _ hb1]; rfl
  clear hb1 HB HC c3 c4
  go_wp2_with fail
  have hle2 : w.heap.size ≤ g2 := Nat.le_trans hx.le hle
  exact bodyPost_ret (v := .tuple #[.agg #[.int .i64 v.n, .int .i64 v.d], .bool true]) (by simp [results, Tryz.results52, go_sem, e0, e1]) rfl ⟨rfl, (hx.trans (hx2.trans hE)).setCell hle2 _ |>.setCell hle2 _⟩
set_option maxRecDepth 100000 in
set_option maxHeartbeats 1600000 in
theorem r4_Number0 (v : Val) (ok : Nat → Prop) (A : Option Addr) (c : Nat) (w : World) (hv : Vals w ok A v.l) (hs : szV v) (hV : validV v = true) (hk : v.kind ≠ 2 ∧ v.kind ≠ 3) :
    Calls Tryz.prog 52 #[.agg #[.int .i64 v.kind, .int .i64 v.n, .int .i64 v.d, .string v.s, .slice A v.l.length c]] w fun e w' => e = .returned (.tuple #[.agg #[.int .i64 0, .int .i64 0], .bool false]) ∧ Ext w w' := by
  obtain ⟨g, w1, hg, hw1, ⟨c0, c1, c2, c3, c4⟩, hx, -⟩ := box5 w v.kind v.n v.d v.s A v.l.length c 37
  have hz : g < w1.heap.size := block_lt_of_cell c0
  obtain ⟨w2, hw2, hx2⟩ : ∃ w2, w2 = w1.alloc (.cells #[.int .i64 0, .int .i64 0] 78) ∧ Ext w1 w2 := ⟨_, rfl, (Ext.refl _).alloc _⟩
  have C := r4_Valid v ok A c w2 (hv.ext (hx.trans hx2)) hs
  rw [hV] at C
  have HB := Lib.hid (show w2.heap[w1.heap.size]? = some (.cells #[.int .i64 0, .int .i64 0] 78) by rw [hw2]; exact heap_alloc_new _ _)
  obtain ⟨g2, hg2⟩ : ∃ g2, g2 = w1.heap.size := ⟨_, rfl⟩
  rw [← hg2] at HB
  have hle : w1.heap.size ≤ g2 := by omega
  have HW1 := Lib.hid hw1
  have HW2 := Lib.hid hw2
  have HG := Lib.hid hg
  have HG2 := Lib.hid (show g2 = w.heap.size + 1 by rw [hg2, hw1]; go_simp)
  replace c0 := hx2.cell c0
  replace c1 := hx2.cell c1
  replace c2 := hx2.cell c2
  replace c3 := hx2.cell c3
  replace c4 := hx2.cell c4
  have hk2 : (v.kind == 2) = false := by simpa using hk.1
  have hk3 : (v.kind == 3) = false := by simpa using hk.2
  clear hk
  have HC := Lib.hid C
  clear hw1 hw2 hg hv hV C hg2 hs
  go_enter Tryz.func52, Tryz.ntmps52
  go_upto_region 1 with (fail)
  rw [← HW1.out, ← HW2.out, ← HG2.out, ← HG.out]
  clear HW1 HG HW2 HG2
  go_wp2_with fail
  refine (HC.out).mono ?_
  rintro e w3 ⟨rfl, hE⟩
  have hb1 := hE.heap HB.out
  replace c0 := hE.cell c0
  replace c1 := hE.cell c1
  replace c2 := hE.cell c2
  have f0 : w3.frozen? ⟨g2, 0, none⟩ = false := by simp [World.frozen?, hb1]
  have f1 : w3.frozen? ⟨g2, 1, none⟩ = false := by simp [World.frozen?, hb1]
  have e0 : w3.cell? ⟨g2, 0, none⟩ = some (.int .i64 0) := by rw [cell_of_row w3 g2 0 _ _ _ hb1]; rfl
  have e1 : w3.cell? ⟨g2, 1, none⟩ = some (.int .i64 0) := by rw [cell_of_row w3 g2 1 _ _ _ hb1]; rfl
  clear hb1 HB HC c3 c4
  go_wp2_with fail
  have hle2 : w.heap.size ≤ g2 := Nat.le_trans hx.le hle
  exact bodyPost_ret (v := .tuple #[.agg #[.int .i64 0, .int .i64 0], .bool false]) (by simp [results, Tryz.results52, go_sem, e0, e1]) rfl ⟨rfl, (hx.trans (hx2.trans hE)).setCell hle2 _ |>.setCell hle2 _⟩
theorem r4_Number (v : Val) (ok : Nat → Prop) (A : Option Addr) (c : Nat) (w : World) (hv : Vals w ok A v.l) (hs : szV v) (hV : validV v = true) :
    Calls Tryz.prog 52 #[.agg #[.int .i64 v.kind, .int .i64 v.n, .int .i64 v.d, .string v.s, .slice A v.l.length c]] w fun e w' => e = .returned (.tuple #[.agg #[.int .i64 (numN v), .int .i64 (numD v)], .bool (decide (cls v.kind = 2))]) ∧ Ext w w' := by
  by_cases h2 : v.kind = 2
  · have e1 : cls v.kind = 2 := cls_two.2 (.inl h2)
    have := r4_Number2 v ok A c w hv hs hV h2
    unfold numN numD dnV
    rw [if_pos e1, if_pos e1, decide_eq_true e1, h2]
    exact this
  · by_cases h3 : v.kind = 3
    · have e1 : cls v.kind = 2 := cls_two.2 (.inr h3)
      have := r4_Number3 v ok A c w hv hs hV h3
      unfold numN numD dnV
      rw [if_pos e1, if_pos e1, decide_eq_true e1, h3]
      exact this
    · have e1 : ¬ cls v.kind = 2 := fun e => (cls_two.1 e).elim h2 h3
      unfold numN numD
      rw [if_neg e1, if_neg e1, decide_eq_false e1]
      exact r4_Number0 v ok A c w hv hs hV ⟨h2, h3⟩
end Go.Proofs.YtigmdddeplnciaaGreatDoor

/- THE WALKS over the reference's lists, fields, Order, OrderRows. -/
namespace Go.Proofs.YtigmdddeplnciaaGreatDoor
open Go.RowKit
theorem cmpI_len (m n : Nat) : Lib.compareInt (m : Int) (n : Int) = if m < n then -1 else if n < m then 1 else 0 := by
  unfold Lib.compareInt
  repeat' split
  all_goals omega
theorem ordL_len {a b : List Val} {k : Nat} (h : ¬ (k < a.length ∧ k < b.length)) (ha : k ≤ a.length) (hb : k ≤ b.length) : ordL (a.drop k) (b.drop k) = Lib.compareInt (a.length : Int) (b.length : Int) := by
  rw [cmpI_len]
  by_cases h1 : k < a.length
  · rw [List.drop_eq_getElem_cons h1, List.drop_of_length_le (by omega : b.length ≤ k), ordL, if_neg (by omega), if_pos (by omega)]
  · by_cases h2 : k < b.length
    · rw [List.drop_of_length_le (by omega : a.length ≤ k), List.drop_eq_getElem_cons h2, ordL, if_pos (by omega)]
    · rw [List.drop_of_length_le (by omega : a.length ≤ k), List.drop_of_length_le (by omega : b.length ≤ k), ordL, if_neg (by omega), if_neg (by omega)]
set_option maxRecDepth 100000 in
set_option maxHeartbeats 6400000 in
theorem r4_lists (a b : List Val) (ok ok' : Nat → Prop) (A B : Option Addr) (c d : Nat) (w : World) (ha : Vals w ok A a) (hb : Vals w ok' B b) (hsa : szL a) (hsb : szL b) (ih : ∀ x ∈ a, ∀ y ∈ b, ∀ (Ax By : Option Addr) (cx dy : Nat) (W : World), Vals W ok Ax x.l → Vals W ok' By y.l → szV x → szV y → Calls Tryz.prog 22 #[.agg #[.int .i64 x.kind, .int .i64 x.n, .int .i64 x.d, .string x.s, .slice Ax x.l.length cx], .agg #[.int .i64 y.kind, .int .i64 y.n, .int .i64 y.d, .string y.s, .slice By y.l.length dy]] W fun e W' => e = .returned (.int .i64 (ordV x y)) ∧ Ext W W') :
    Calls Tryz.prog 81 #[.slice A a.length c, .slice B b.length d] w fun e w' => e = .returned (.int .i64 (ordL a b)) ∧ Ext w w' := by
  have hma := ha.len
  have hmb := hb.len
  have HA := Lib.hid ha
  have HB := Lib.hid hb
  have HF := Lib.hid (fun x hx y hy Ax By cx dy W h1 h2 => ih x hx y hy Ax By cx dy W h1 h2 (szL_mem hsa hx) (szL_mem hsb hy))
  obtain ⟨R, hR⟩ : ∃ R, R = ordL a b := ⟨_, rfl⟩
  rw [← hR]
  have HR := Lib.hid (show R = ordL (a.drop 0) (b.drop 0) from hR)
  clear ha hb ih hR hsa hsb
  go_enter Tryz.func81, Tryz.ntmps81
  go_wp2
  go_loopw [5] (fun u W => ∃ k : Nat, u = .int .i64 k ∧ k ≤ a.length ∧ k ≤ b.length ∧ Hid (R = ordL (a.drop k) (b.drop k)) ∧ Ext w W) (fun u _ => a.length - (intOf u).toNat)
  case atStart => exact ⟨0, rfl, Nat.zero_le _, Nat.zero_le _, HR, Ext.refl _⟩
  case round =>
    obtain ⟨k, rfl, hk, hkb, hS, hE⟩ := hrel
    by_cases hlt : k < a.length
    · by_cases hltb : k < b.length
      · obtain ⟨ba, oa, rfl, hca⟩ := HA.out.2 (by omega)
        obtain ⟨-, A', c', h5, -, hv'⟩ := VCells.iff.1 (hca k hlt)
        obtain ⟨bb, ob, rfl, hcb⟩ := HB.out.2 (by omega)
        obtain ⟨-, B', d', h6, -, hv2⟩ := VCells.iff.1 (hcb k hltb)
        have HC := Lib.hid (fun W (e : Ext wr W) => HF.out a[k] (List.getElem_mem hlt) b[k] (List.getElem_mem hltb) A' B' c' d' W (hv'.ext (hE.trans e)) (hv2.ext (hE.trans e)))
        have HD := Lib.hid (show ordL (a.drop k) (b.drop k) = thenC (ordV a[k] b[k]) (ordL (a.drop (k + 1)) (b.drop (k + 1))) by rw [List.drop_eq_getElem_cons hlt, List.drop_eq_getElem_cons hltb, ordL])
        replace h5 := h5.ext hE
        replace h6 := h6.ext hE
        clear hca hcb hv' hv2
        generalize a[k] = x at *
        generalize b[k] = y at *
        generalize ordV x y = z at HC HD
        have MK := Lib.hid (fun V (e : Ext wr V) => (⟨(h5.ext e).1, (h5.ext e).2.1, (h5.ext e).2.2.1, (h5.ext e).2.2.2.1, (h5.ext e).2.2.2.2, (h6.ext e).1, (h6.ext e).2.1, (h6.ext e).2.2.1, (h6.ext e).2.2.2.1, (h6.ext e).2.2.2.2, e⟩ : V.cell? ⟨ba, oa + k * 5, none⟩ = some (.int .i64 x.kind) ∧ V.cell? ⟨ba, oa + k * 5 + 1, none⟩ = some (.int .i64 x.n) ∧ V.cell? ⟨ba, oa + k * 5 + 2, none⟩ = some (.int .i64 x.d) ∧ V.cell? ⟨ba, oa + k * 5 + 3, none⟩ = some (.string x.s) ∧ V.cell? ⟨ba, oa + k * 5 + 4, none⟩ = some (.slice A' x.l.length c') ∧ V.cell? ⟨bb, ob + k * 5, none⟩ = some (.int .i64 y.kind) ∧ V.cell? ⟨bb, ob + k * 5 + 1, none⟩ = some (.int .i64 y.n) ∧ V.cell? ⟨bb, ob + k * 5 + 2, none⟩ = some (.int .i64 y.d) ∧ V.cell? ⟨bb, ob + k * 5 + 3, none⟩ = some (.string y.s) ∧ V.cell? ⟨bb, ob + k * 5 + 4, none⟩ = some (.slice B' y.l.length d') ∧ Ext wr V))
        clear h5 h6
        have q0 : (0 : Int) ≤ (k : Int) := by omega
        have q1 : (k : Int) < (a.length : Int) := by omega
        have q2 : (k : Int) < (b.length : Int) := by omega
        by_cases hz0 : z = 0
        · have HT := Lib.hid (show R = ordL (a.drop (k + 1)) (b.drop (k + 1)) by rw [hS.out, HD.out, hz0]; rfl)
          subst hz0
          go_wp2_with fail
          go_region_held3 (fun V => V.cell? ⟨ba, oa + k * 5, none⟩ = some (.int .i64 x.kind) ∧ V.cell? ⟨ba, oa + k * 5 + 1, none⟩ = some (.int .i64 x.n) ∧ V.cell? ⟨ba, oa + k * 5 + 2, none⟩ = some (.int .i64 x.d) ∧ V.cell? ⟨ba, oa + k * 5 + 3, none⟩ = some (.string x.s) ∧ V.cell? ⟨ba, oa + k * 5 + 4, none⟩ = some (.slice A' x.l.length c') ∧ V.cell? ⟨bb, ob + k * 5, none⟩ = some (.int .i64 y.kind) ∧ V.cell? ⟨bb, ob + k * 5 + 1, none⟩ = some (.int .i64 y.n) ∧ V.cell? ⟨bb, ob + k * 5 + 2, none⟩ = some (.int .i64 y.d) ∧ V.cell? ⟨bb, ob + k * 5 + 3, none⟩ = some (.string y.s) ∧ V.cell? ⟨bb, ob + k * 5 + 4, none⟩ = some (.slice B' y.l.length d') ∧ Ext wr V) ((exact MK.out _ (by solve_by_elim [X0, X1, X2, X3]))) ((go_at_call 22; ((with_reducible refine (HC.out _ (by solve_by_elim [X0, X1, X2, X3])).mono ?_); rintro e w' ⟨rfl, hb⟩; replace hb : Ext wr w' := Ext.trans (by solve_by_elim [X0, X1, X2, X3]) hb)))
          all_goals
            clear ‹_ ∧ _›
            go_wp2_with fail
            go_roundw
            case rel => exact ⟨k + 1, by go_num, by omega, by omega, HT, hE.trans (by solve_by_elim [X0, X1, X2, X3])⟩
            case measure => simp [intOf]; omega
        · have HT := Lib.hid (show R = z by rw [hS.out, HD.out, thenC_ne hz0])
          have hz' : (z != 0) = true := by simpa using hz0
          clear hz0
          go_wp2_with fail
          go_region_held3 (fun V => V.cell? ⟨ba, oa + k * 5, none⟩ = some (.int .i64 x.kind) ∧ V.cell? ⟨ba, oa + k * 5 + 1, none⟩ = some (.int .i64 x.n) ∧ V.cell? ⟨ba, oa + k * 5 + 2, none⟩ = some (.int .i64 x.d) ∧ V.cell? ⟨ba, oa + k * 5 + 3, none⟩ = some (.string x.s) ∧ V.cell? ⟨ba, oa + k * 5 + 4, none⟩ = some (.slice A' x.l.length c') ∧ V.cell? ⟨bb, ob + k * 5, none⟩ = some (.int .i64 y.kind) ∧ V.cell? ⟨bb, ob + k * 5 + 1, none⟩ = some (.int .i64 y.n) ∧ V.cell? ⟨bb, ob + k * 5 + 2, none⟩ = some (.int .i64 y.d) ∧ V.cell? ⟨bb, ob + k * 5 + 3, none⟩ = some (.string y.s) ∧ V.cell? ⟨bb, ob + k * 5 + 4, none⟩ = some (.slice B' y.l.length d') ∧ Ext wr V) ((exact MK.out _ (by solve_by_elim [X0, X1, X2, X3]))) ((go_at_call 22; ((with_reducible refine (HC.out _ (by solve_by_elim [X0, X1, X2, X3])).mono ?_); rintro e w' ⟨rfl, hb⟩; replace hb : Ext wr w' := Ext.trans (by solve_by_elim [X0, X1, X2, X3]) hb)))
          all_goals
            clear ‹_ ∧ _›
            go_wp2_with fail
            go_ret
            exact ⟨ret_i64 HT.out.symm, hE.trans (by solve_by_elim [X0, X1, X2, X3])⟩
      · have HT := Lib.hid (show R = Lib.compareInt (a.length : Int) (b.length : Int) by rw [hS.out, ordL_len (by omega) hk hkb])
        go_wp2_with (go_at_call 50; refine (r4_ints _ _ _).mono ?_; rintro e w' ⟨rfl, rfl⟩)
        go_ret
        exact ⟨ret_i64 HT.out.symm, hE⟩
    · have HT := Lib.hid (show R = Lib.compareInt (a.length : Int) (b.length : Int) by rw [hS.out, ordL_len (by omega) hk hkb])
      go_wp2_with (go_at_call 50; refine (r4_ints _ _ _).mono ?_; rintro e w' ⟨rfl, rfl⟩)
      go_ret
      exact ⟨ret_i64 HT.out.symm, hE⟩
end Go.Proofs.YtigmdddeplnciaaGreatDoor

/- THE WALKS over the reference's fields, Order, OrderRows. -/
namespace Go.Proofs.YtigmdddeplnciaaGreatDoor
open Go.RowKit
set_option maxRecDepth 100000 in
set_option maxHeartbeats 6400000 in
theorem r4_fields (a b : Val) (ok ok' : Nat → Prop) (A B : Option Addr) (c d : Nat) (w : World) (ha : Vals w ok A a.l) (hb : Vals w ok' B b.l) (hsa : szV a) (hsb : szV b) (ih : ∀ x ∈ a.l, ∀ y ∈ b.l, ∀ (Ax By : Option Addr) (cx dy : Nat) (W : World), Vals W ok Ax x.l → Vals W ok' By y.l → szV x → szV y → Calls Tryz.prog 22 #[.agg #[.int .i64 x.kind, .int .i64 x.n, .int .i64 x.d, .string x.s, .slice Ax x.l.length cx], .agg #[.int .i64 y.kind, .int .i64 y.n, .int .i64 y.d, .string y.s, .slice By y.l.length dy]] W fun e W' => e = .returned (.int .i64 (ordV x y)) ∧ Ext W W') :
    Calls Tryz.prog 49 #[.agg #[.int .i64 a.kind, .int .i64 a.n, .int .i64 a.d, .string a.s, .slice A a.l.length c], .agg #[.int .i64 b.kind, .int .i64 b.n, .int .i64 b.d, .string b.s, .slice B b.l.length d]] w fun e w' => e = .returned (.int .i64 (ordI a b)) ∧ Ext w w' := by
  have HL := Lib.hid (fun W (e : Ext w W) => r4_lists a.l b.l ok ok' A B c d W (ha.ext e) (hb.ext e) (szV_iff.1 hsa).2 (szV_iff.1 hsb).2 ih)
  have hma := ha.len
  have hmb := hb.len
  clear ha hb ih hsa hsb
  obtain ⟨g1, g2, w2, hg1, hg2, hw2, h1, h2, hx, -, -, hl1, hl2⟩ := two_vals w a b A B c d 37
  have HG1 := Lib.hid hg1
  have HG2 := Lib.hid hg2
  have HW2 := Lib.hid hw2
  have MK := Lib.hid (fun V (e : Ext w2 V) => (⟨(h1.ext e).1, (h1.ext e).2.1, (h1.ext e).2.2.1, (h1.ext e).2.2.2.1, (h1.ext e).2.2.2.2, (h2.ext e).1, (h2.ext e).2.1, (h2.ext e).2.2.1, (h2.ext e).2.2.2.1, (h2.ext e).2.2.2.2, e⟩ : V.cell? ⟨g1, 0, none⟩ = some (.int .i64 a.kind) ∧ V.cell? ⟨g1, 1, none⟩ = some (.int .i64 a.n) ∧ V.cell? ⟨g1, 2, none⟩ = some (.int .i64 a.d) ∧ V.cell? ⟨g1, 3, none⟩ = some (.string a.s) ∧ V.cell? ⟨g1, 4, none⟩ = some (.slice A a.l.length c) ∧ V.cell? ⟨g2, 0, none⟩ = some (.int .i64 b.kind) ∧ V.cell? ⟨g2, 1, none⟩ = some (.int .i64 b.n) ∧ V.cell? ⟨g2, 2, none⟩ = some (.int .i64 b.d) ∧ V.cell? ⟨g2, 3, none⟩ = some (.string b.s) ∧ V.cell? ⟨g2, 4, none⟩ = some (.slice B b.l.length d) ∧ Ext w2 V))
  clear hg1 hg2 hw2 h1 h2
  replace HL := Lib.hid (fun W (e : Ext w2 W) => HL.out W (hx.trans e))
  have HO := Lib.hid (show ordI a b = thenC (Lib.compareInt a.kind b.kind) (thenC (Lib.compareInt a.n b.n) (thenC (Lib.compareInt a.d b.d) (thenC (cmpT a.s b.s) (ordL a.l b.l)))) from rfl)
  generalize ordI a b = o at HO ⊢
  obtain ⟨a0, a1, a2, a3, a4, b0, b1, b2, b3, b4, -⟩ := MK.out w2 (Ext.refl _)
  generalize hz1 : Lib.compareInt a.kind b.kind = z1 at HO
  generalize hz2 : Lib.compareInt a.n b.n = z2 at HO
  generalize hz3 : Lib.compareInt a.d b.d = z3 at HO
  generalize hz4 : cmpT a.s b.s = z4 at HO
  generalize hz5 : ordL a.l b.l = z5 at HO HL
  have C1 := Lib.hid (fun W => (r4_ints a.kind b.kind W).mono (fun e w' h => (⟨h.1.trans (by rw [hz1]), h.2⟩ : e = .returned (.int .i64 z1) ∧ w' = W)))
  have C2 := Lib.hid (fun W => (r4_ints a.n b.n W).mono (fun e w' h => (⟨h.1.trans (by rw [hz2]), h.2⟩ : e = .returned (.int .i64 z2) ∧ w' = W)))
  have C3 := Lib.hid (fun W => (r4_ints a.d b.d W).mono (fun e w' h => (⟨h.1.trans (by rw [hz3]), h.2⟩ : e = .returned (.int .i64 z3) ∧ w' = W)))
  have C4 := Lib.hid (fun W => (r4_strs a.s b.s W).mono (fun e w' h => (⟨h.1.trans (by rw [hz4]), h.2⟩ : e = .returned (.int .i64 z4) ∧ w' = W)))
  clear hz1 hz2 hz3 hz4 hz5
  go_enter Tryz.func49, Tryz.ntmps49
  go_upto_region 1 with (fail)
  rw [← HW2.out, ← HG2.out, ← HG1.out]
  clear HW2 HG2 HG1
  go_wp2_with fail
  refine (C1.out _).mono ?_
  rintro e w' ⟨rfl, rfl⟩
  by_cases k1 : z1 = 0
  · subst k1
    go_wp2_with fail
    refine (C2.out _).mono ?_
    rintro e w' ⟨rfl, rfl⟩
    by_cases k2 : z2 = 0
    · subst k2
      go_wp2_with fail
      refine (C3.out _).mono ?_
      rintro e w' ⟨rfl, rfl⟩
      by_cases k3 : z3 = 0
      · subst k3
        go_wp2_with fail
        refine (C4.out _).mono ?_
        rintro e w' ⟨rfl, rfl⟩
        by_cases k4 : z4 = 0
        · subst k4
          go_wp2_with fail
          refine (HL.out _ (Ext.refl _)).mono ?_
          rintro e w' ⟨rfl, hb⟩
          go_wp2_with fail
          go_ret
          exact ⟨ret_i64 HO.out.symm, hx.trans hb⟩
        · have k4' : (z4 != 0) = true := by simpa using k4
          have HT := Lib.hid (HO.out.trans (show _ = z4 by rw [thenC_zero, thenC_zero, thenC_zero, thenC_ne k4]))
          clear k4
          go_wp2_with fail
          go_ret
          exact ⟨ret_i64 HT.out.symm, hx⟩
      · have k4' : (z3 != 0) = true := by simpa using k3
        have HT := Lib.hid (HO.out.trans (show _ = z3 by rw [thenC_zero, thenC_zero, thenC_ne k3]))
        clear k3
        go_wp2_with fail
        go_ret
        exact ⟨ret_i64 HT.out.symm, hx⟩
    · have k4' : (z2 != 0) = true := by simpa using k2
      have HT := Lib.hid (HO.out.trans (show _ = z2 by rw [thenC_zero, thenC_ne k2]))
      clear k2
      go_wp2_with fail
      go_ret
      exact ⟨ret_i64 HT.out.symm, hx⟩
  · have k4' : (z1 != 0) = true := by simpa using k1
    have HT := Lib.hid (HO.out.trans (show _ = z1 by rw [thenC_ne k1]))
    clear k1
    go_wp2_with fail
    go_ret
    exact ⟨ret_i64 HT.out.symm, hx⟩
theorem ordI_U {a b : Val} (ha : validV a = true) (hb : validV b = true) (hc : cls a.kind = cls b.kind) (h2 : cls a.kind ≠ 2) : ordU a b = ordI a b := by
  have fa := validV_facts ha
  have fb := validV_facts hb
  have hk := cls_inj fa.rng fb.rng hc h2
  have k2 : a.kind ≠ 2 := fun h => h2 (cls_two.2 (.inl h))
  have k3 : a.kind ≠ 3 := fun h => h2 (cls_two.2 (.inr h))
  obtain ⟨d1, n1, s1⟩ := fa.oth k2 k3
  obtain ⟨d2, n2, s2⟩ := fb.oth (hk ▸ k2) (hk ▸ k3)
  unfold ordU ordI
  rw [if_neg h2, hc, hk, d1, d2, TotC.int.refl, TotC.int.refl, TotC.int.refl, thenC_zero, thenC_zero, thenC_zero]
  by_cases h4 : a.kind = 4
  · rw [n1 h4, n2 (hk ▸ h4), TotC.int.refl, thenC_zero, thenC_zero]
  · rw [size_nil (s1 h4), size_nil (s2 (hk ▸ h4)), TotC.str.refl, thenC_zero, thenC_zero]
set_option maxRecDepth 100000 in
set_option maxHeartbeats 6400000 in
theorem r4_OrderStep (a b : Val) (ok ok' : Nat → Prop) (A B : Option Addr) (c d : Nat) (w : World) (ha : Vals w ok A a.l) (hb : Vals w ok' B b.l) (hsa : szV a) (hsb : szV b) (ih : ∀ x ∈ a.l, ∀ y ∈ b.l, ∀ (Ax By : Option Addr) (cx dy : Nat) (W : World), Vals W ok Ax x.l → Vals W ok' By y.l → szV x → szV y → Calls Tryz.prog 22 #[.agg #[.int .i64 x.kind, .int .i64 x.n, .int .i64 x.d, .string x.s, .slice Ax x.l.length cx], .agg #[.int .i64 y.kind, .int .i64 y.n, .int .i64 y.d, .string y.s, .slice By y.l.length dy]] W fun e W' => e = .returned (.int .i64 (ordV x y)) ∧ Ext W W') :
    Calls Tryz.prog 22 #[.agg #[.int .i64 a.kind, .int .i64 a.n, .int .i64 a.d, .string a.s, .slice A a.l.length c], .agg #[.int .i64 b.kind, .int .i64 b.n, .int .i64 b.d, .string b.s, .slice B b.l.length d]] w fun e w' => e = .returned (.int .i64 (ordV a b)) ∧ Ext w w' := by
  have HO := Lib.hid (ordV_eq a b)
  have HFD := Lib.hid (fun W (e : Ext w W) => r4_fields a b ok ok' A B c d W (ha.ext e) (hb.ext e) hsa hsb ih)
  have HVa := Lib.hid (fun W (e : Ext w W) => r4_Valid a ok A c W (ha.ext e) hsa)
  have HVb := Lib.hid (fun W (e : Ext w W) => r4_Valid b ok' B d W (hb.ext e) hsb)
  have HNa := Lib.hid (fun h W (e : Ext w W) => r4_Number a ok A c W (ha.ext e) hsa h)
  have HNb := Lib.hid (fun h W (e : Ext w W) => r4_Number b ok' B d W (hb.ext e) hsb h)
  have FAB := Lib.hid (fun ha hb => (⟨validV_facts (v := a) ha, validV_facts (v := b) hb⟩ : VFacts a ∧ VFacts b))
  have HIU := Lib.hid (fun h1 h2 h3 h4 => ordI_U (a := a) (b := b) h1 h2 h3 h4)
  have hma := ha.len
  have hmb := hb.len
  clear ha hb ih hsa hsb
  obtain ⟨g1, g2, w2, hg1, hg2, hw2, h1, h2, hx, -, -, hl1, hl2⟩ := two_vals w a b A B c d 37
  have HG1 := Lib.hid hg1
  have HG2 := Lib.hid hg2
  have HW2 := Lib.hid hw2
  have MK := Lib.hid (fun V (e : Ext w2 V) => (⟨(h1.ext e).1, (h1.ext e).2.1, (h1.ext e).2.2.1, (h1.ext e).2.2.2.1, (h1.ext e).2.2.2.2, (h2.ext e).1, (h2.ext e).2.1, (h2.ext e).2.2.1, (h2.ext e).2.2.2.1, (h2.ext e).2.2.2.2, e⟩ : V.cell? ⟨g1, 0, none⟩ = some (.int .i64 a.kind) ∧ V.cell? ⟨g1, 1, none⟩ = some (.int .i64 a.n) ∧ V.cell? ⟨g1, 2, none⟩ = some (.int .i64 a.d) ∧ V.cell? ⟨g1, 3, none⟩ = some (.string a.s) ∧ V.cell? ⟨g1, 4, none⟩ = some (.slice A a.l.length c) ∧ V.cell? ⟨g2, 0, none⟩ = some (.int .i64 b.kind) ∧ V.cell? ⟨g2, 1, none⟩ = some (.int .i64 b.n) ∧ V.cell? ⟨g2, 2, none⟩ = some (.int .i64 b.d) ∧ V.cell? ⟨g2, 3, none⟩ = some (.string b.s) ∧ V.cell? ⟨g2, 4, none⟩ = some (.slice B b.l.length d) ∧ Ext w2 V))
  clear hg1 hg2 hw2 h1 h2
  replace HFD := Lib.hid (fun W (e : Ext w2 W) => HFD.out W (hx.trans e))
  replace HVa := Lib.hid (fun W (e : Ext w2 W) => HVa.out W (hx.trans e))
  replace HVb := Lib.hid (fun W (e : Ext w2 W) => HVb.out W (hx.trans e))
  replace HNa := Lib.hid (fun h W (e : Ext w2 W) => HNa.out h W (hx.trans e))
  replace HNb := Lib.hid (fun h W (e : Ext w2 W) => HNb.out h W (hx.trans e))
  generalize validV a = p at *
  generalize validV b = q at *
  cases p
  · cases q
    · have HO' := Lib.hid (show ordV a b = ordI a b by rw [HO.out, if_neg (by simp), if_neg (by simp)])
      rw [HO'.out]
      clear HO HO' HIU FAB HNa HNb
      go_enter Tryz.func22, Tryz.ntmps22
      go_upto_region 1 with (fail)
      rw [← HW2.out, ← HG2.out, ← HG1.out]
      clear HW2 HG2 HG1
      go_region_held3 (fun V => V.cell? ⟨g1, 0, none⟩ = some (.int .i64 a.kind) ∧ V.cell? ⟨g1, 1, none⟩ = some (.int .i64 a.n) ∧ V.cell? ⟨g1, 2, none⟩ = some (.int .i64 a.d) ∧ V.cell? ⟨g1, 3, none⟩ = some (.string a.s) ∧ V.cell? ⟨g1, 4, none⟩ = some (.slice A a.l.length c) ∧ V.cell? ⟨g2, 0, none⟩ = some (.int .i64 b.kind) ∧ V.cell? ⟨g2, 1, none⟩ = some (.int .i64 b.n) ∧ V.cell? ⟨g2, 2, none⟩ = some (.int .i64 b.d) ∧ V.cell? ⟨g2, 3, none⟩ = some (.string b.s) ∧ V.cell? ⟨g2, 4, none⟩ = some (.slice B b.l.length d) ∧ Ext w2 V) ((exact MK.out _ (by solve_by_elim [X0, X1, X2, X3]))) ((go_at_call 47; (first | (with_reducible refine (HVa.out _ (by solve_by_elim [X0, X1, X2, X3])).mono ?_) | (with_reducible refine (HVb.out _ (by solve_by_elim [X0, X1, X2, X3])).mono ?_)); rintro e w' ⟨rfl, hb⟩; replace hb : Ext w2 w' := Ext.trans (by solve_by_elim [X0, X1, X2, X3]) hb))
      obtain ⟨a0, a1, a2, a3, a4, b0, b1, b2, b3, b4, hEw⟩ := ‹_ ∧ _›
      go_wp2_with fail
      refine (HFD.out _ (by solve_by_elim [X0, X1, X2, X3])).mono ?_
      rintro e w9 ⟨rfl, h9⟩
      have h9' : Ext w2 w9 := Ext.trans (by solve_by_elim [X0, X1, X2, X3]) h9
      clear a0 a1 a2 a3 a4 b0 b1 b2 b3 b4 hEw h9
      go_wp2_with fail
      go_ret
      exact ⟨rfl, hx.trans h9'⟩
    · have HO' := Lib.hid (show ordV a b = 1 by rw [HO.out, if_neg (by simp), if_pos rfl])
      rw [HO'.out]
      clear HO HO' HIU FAB HNa HNb HFD
      go_enter Tryz.func22, Tryz.ntmps22
      go_upto_region 1 with (fail)
      rw [← HW2.out, ← HG2.out, ← HG1.out]
      clear HW2 HG2 HG1
      go_region_held3 (fun V => V.cell? ⟨g1, 0, none⟩ = some (.int .i64 a.kind) ∧ V.cell? ⟨g1, 1, none⟩ = some (.int .i64 a.n) ∧ V.cell? ⟨g1, 2, none⟩ = some (.int .i64 a.d) ∧ V.cell? ⟨g1, 3, none⟩ = some (.string a.s) ∧ V.cell? ⟨g1, 4, none⟩ = some (.slice A a.l.length c) ∧ V.cell? ⟨g2, 0, none⟩ = some (.int .i64 b.kind) ∧ V.cell? ⟨g2, 1, none⟩ = some (.int .i64 b.n) ∧ V.cell? ⟨g2, 2, none⟩ = some (.int .i64 b.d) ∧ V.cell? ⟨g2, 3, none⟩ = some (.string b.s) ∧ V.cell? ⟨g2, 4, none⟩ = some (.slice B b.l.length d) ∧ Ext w2 V) ((exact MK.out _ (by solve_by_elim [X0, X1, X2, X3]))) ((go_at_call 47; (first | (with_reducible refine (HVa.out _ (by solve_by_elim [X0, X1, X2, X3])).mono ?_) | (with_reducible refine (HVb.out _ (by solve_by_elim [X0, X1, X2, X3])).mono ?_)); rintro e w' ⟨rfl, hb⟩; replace hb : Ext w2 w' := Ext.trans (by solve_by_elim [X0, X1, X2, X3]) hb))
      clear ‹_ ∧ _›
      go_wp2_with (go_at_call 48; refine (r4_yes _ _).mono ?_; rintro e w' ⟨rfl, rfl⟩)
      go_ret
      exact ⟨rfl, hx.trans (by solve_by_elim [X0, X1, X2, X3])⟩
  · cases q
    · have HO' := Lib.hid (show ordV a b = -1 by rw [HO.out, if_pos rfl, if_neg (by simp)])
      rw [HO'.out]
      clear HO HO' HIU FAB HNa HNb HFD
      go_enter Tryz.func22, Tryz.ntmps22
      go_upto_region 1 with (fail)
      rw [← HW2.out, ← HG2.out, ← HG1.out]
      clear HW2 HG2 HG1
      go_region_held3 (fun V => V.cell? ⟨g1, 0, none⟩ = some (.int .i64 a.kind) ∧ V.cell? ⟨g1, 1, none⟩ = some (.int .i64 a.n) ∧ V.cell? ⟨g1, 2, none⟩ = some (.int .i64 a.d) ∧ V.cell? ⟨g1, 3, none⟩ = some (.string a.s) ∧ V.cell? ⟨g1, 4, none⟩ = some (.slice A a.l.length c) ∧ V.cell? ⟨g2, 0, none⟩ = some (.int .i64 b.kind) ∧ V.cell? ⟨g2, 1, none⟩ = some (.int .i64 b.n) ∧ V.cell? ⟨g2, 2, none⟩ = some (.int .i64 b.d) ∧ V.cell? ⟨g2, 3, none⟩ = some (.string b.s) ∧ V.cell? ⟨g2, 4, none⟩ = some (.slice B b.l.length d) ∧ Ext w2 V) ((exact MK.out _ (by solve_by_elim [X0, X1, X2, X3]))) ((go_at_call 47; (first | (with_reducible refine (HVa.out _ (by solve_by_elim [X0, X1, X2, X3])).mono ?_) | (with_reducible refine (HVb.out _ (by solve_by_elim [X0, X1, X2, X3])).mono ?_)); rintro e w' ⟨rfl, hb⟩; replace hb : Ext w2 w' := Ext.trans (by solve_by_elim [X0, X1, X2, X3]) hb))
      clear ‹_ ∧ _›
      go_wp2_with (go_at_call 48; refine (r4_yes _ _).mono ?_; rintro e w' ⟨rfl, rfl⟩)
      go_ret
      exact ⟨rfl, hx.trans (by solve_by_elim [X0, X1, X2, X3])⟩
    · have HO' := Lib.hid (show ordV a b = ordU a b by rw [HO.out, if_pos rfl, if_pos rfl])
      rw [HO'.out]
      obtain ⟨fa, fb⟩ := FAB.out (by simp) (by simp)
      have HCL := Lib.hid (clsR_cmp fa.rng fb.rng)
      have HU := Lib.hid (show ordU a b = thenC (Lib.compareInt (cls a.kind) (cls b.kind)) (if cls a.kind = 2 then cmpQ a.n (dnV a.kind a.d) b.n (dnV b.kind b.d) else thenC (cmpT a.s b.s) (thenC (Lib.compareInt a.n b.n) (ordL a.l b.l))) from rfl)
      by_cases hcl : cls a.kind = cls b.kind
      · have hcz : Lib.compareInt (clsR a.kind) (clsR b.kind) = 0 := by rw [HCL.out]; exact (TotC.int.zero _ _).2 hcl
        have hcz' : (Lib.compareInt (clsR a.kind) (clsR b.kind) != 0) = false := by rw [hcz]; rfl
        have CA := Lib.hid (HNa.out (by simp))
        have CB := Lib.hid (HNb.out (by simp))
        by_cases h2 : cls a.kind = 2
        · have HT := Lib.hid (show ordU a b = cmpS a.n (dnV a.kind a.d) b.n (dnV b.kind b.d) by rw [HU.out, (TotC.int.zero _ _).2 hcl, if_pos h2, cmpS_q (dnV_num fa h2) (dnV_num fb (hcl ▸ h2))]; rfl)
          have HN1 := Lib.hid (fun W (e : Ext w2 W) => (CA.out W e).mono (fun e w' h => (⟨h.1.trans (by unfold numN numD; rw [if_pos h2, if_pos h2, decide_eq_true h2]), h.2⟩ : e = .returned (.tuple #[.agg #[.int .i64 a.n, .int .i64 (dnV a.kind a.d)], .bool true]) ∧ Ext W w')))
          have HN2 := Lib.hid (fun W (e : Ext w2 W) => (CB.out W e).mono (fun e w' h => (⟨h.1.trans (by unfold numN numD; rw [if_pos (hcl ▸ h2), if_pos (hcl ▸ h2), decide_eq_true (hcl ▸ h2)]), h.2⟩ : e = .returned (.tuple #[.agg #[.int .i64 b.n, .int .i64 (dnV b.kind b.d)], .bool true]) ∧ Ext W w')))
          rw [HT.out]
          clear HO HO' HIU FAB HNa HNb HFD fa fb HCL HU hcl h2 hcz CA CB HT
          generalize dnV a.kind a.d = da at *
          generalize dnV b.kind b.d = db at *
          go_enter Tryz.func22, Tryz.ntmps22
          go_upto_region 1 with (fail)
          rw [← HW2.out, ← HG2.out, ← HG1.out]
          clear HW2 HG2 HG1
          go_region_held3 (fun V => V.cell? ⟨g1, 0, none⟩ = some (.int .i64 a.kind) ∧ V.cell? ⟨g1, 1, none⟩ = some (.int .i64 a.n) ∧ V.cell? ⟨g1, 2, none⟩ = some (.int .i64 a.d) ∧ V.cell? ⟨g1, 3, none⟩ = some (.string a.s) ∧ V.cell? ⟨g1, 4, none⟩ = some (.slice A a.l.length c) ∧ V.cell? ⟨g2, 0, none⟩ = some (.int .i64 b.kind) ∧ V.cell? ⟨g2, 1, none⟩ = some (.int .i64 b.n) ∧ V.cell? ⟨g2, 2, none⟩ = some (.int .i64 b.d) ∧ V.cell? ⟨g2, 3, none⟩ = some (.string b.s) ∧ V.cell? ⟨g2, 4, none⟩ = some (.slice B b.l.length d) ∧ Ext w2 V) ((exact MK.out _ (by solve_by_elim [X0, X1, X2, X3]))) ((go_at_call 47; (first | (with_reducible refine (HVa.out _ (by solve_by_elim [X0, X1, X2, X3])).mono ?_) | (with_reducible refine (HVb.out _ (by solve_by_elim [X0, X1, X2, X3])).mono ?_)); rintro e w' ⟨rfl, hb⟩; replace hb : Ext w2 w' := Ext.trans (by solve_by_elim [X0, X1, X2, X3]) hb))
          obtain ⟨a0, a1, a2, a3, a4, b0, b1, b2, b3, b4, hEw⟩ := ‹_ ∧ _›
          go_wp2_with fail
          clear a0 a1 a2 a3 a4 b0 b1 b2 b3 b4
          go_region_held3 (fun V => V.cell? ⟨g1, 0, none⟩ = some (.int .i64 a.kind) ∧ V.cell? ⟨g1, 1, none⟩ = some (.int .i64 a.n) ∧ V.cell? ⟨g1, 2, none⟩ = some (.int .i64 a.d) ∧ V.cell? ⟨g1, 3, none⟩ = some (.string a.s) ∧ V.cell? ⟨g1, 4, none⟩ = some (.slice A a.l.length c) ∧ V.cell? ⟨g2, 0, none⟩ = some (.int .i64 b.kind) ∧ V.cell? ⟨g2, 1, none⟩ = some (.int .i64 b.n) ∧ V.cell? ⟨g2, 2, none⟩ = some (.int .i64 b.d) ∧ V.cell? ⟨g2, 3, none⟩ = some (.string b.s) ∧ V.cell? ⟨g2, 4, none⟩ = some (.slice B b.l.length d) ∧ Ext w2 V) ((exact MK.out _ (by solve_by_elim [X0, X1, X2, X3]))) ((first | (go_at_call 51; refine (r4_class _ _).mono ?_; rintro e w' ⟨rfl, rfl⟩) | (go_at_call 50; refine (r4_ints _ _ _).mono ?_; rintro e w' ⟨rfl, rfl⟩)))
          obtain ⟨a0, a1, a2, a3, a4, b0, b1, b2, b3, b4, hEv⟩ := (by assumption : World.cell? _ ⟨g1, 0, none⟩ = some (.int .i64 a.kind) ∧ World.cell? _ ⟨g1, 1, none⟩ = some (.int .i64 a.n) ∧ World.cell? _ ⟨g1, 2, none⟩ = some (.int .i64 a.d) ∧ World.cell? _ ⟨g1, 3, none⟩ = some (.string a.s) ∧ World.cell? _ ⟨g1, 4, none⟩ = some (.slice A a.l.length c) ∧ World.cell? _ ⟨g2, 0, none⟩ = some (.int .i64 b.kind) ∧ World.cell? _ ⟨g2, 1, none⟩ = some (.int .i64 b.n) ∧ World.cell? _ ⟨g2, 2, none⟩ = some (.int .i64 b.d) ∧ World.cell? _ ⟨g2, 3, none⟩ = some (.string b.s) ∧ World.cell? _ ⟨g2, 4, none⟩ = some (.slice B b.l.length d) ∧ Ext w2 _)
          go_wp2_with fail
          refine (HN1.out _ (by solve_by_elim [X0, X1, X2, X3])).mono ?_
          rintro e w6 ⟨rfl, h6⟩
          have hE6 : Ext w2 w6 := Ext.trans (by solve_by_elim [X0, X1, X2, X3]) h6
          obtain ⟨g6, w7, hg6, hw7, p0, p1, h7, -⟩ := box2 w6 a.n da 78
          have hE7 := hE6.trans h7
          have HG6 := Lib.hid hg6
          have HW7 := Lib.hid hw7
          clear a0 a1 a2 a3 a4 b0 b1 b2 b3 b4 h6 hg6 hw7 h7 hEv
          obtain ⟨a0, a1, a2, a3, a4, b0, b1, b2, b3, b4, -⟩ := MK.out w7 (hE7)
          go_upto_region 10 with (fail)
          rw [← HW7.out, ← HG6.out]
          clear HW7 HG6
          go_wp2_with fail
          refine (HN2.out w7 hE7).mono ?_
          rintro e w8 ⟨rfl, h8⟩
          obtain ⟨g8, w9, hg8, hw9, q0, q1, h9, -⟩ := box2 w8 b.n db 78
          replace p0 := (h8.trans h9).cell p0
          replace p1 := (h8.trans h9).cell p1
          have hE9 := hE7.trans (h8.trans h9)
          have HG8 := Lib.hid hg8
          have HW9 := Lib.hid hw9
          clear a0 a1 a2 a3 a4 b0 b1 b2 b3 b4 hg8 hw9 h8 h9 hE6 hE7
          obtain ⟨a0, a1, a2, a3, a4, b0, b1, b2, b3, b4, -⟩ := MK.out w9 (hE9)
          go_upto_region 11 with (fail)
          rw [← HW9.out, ← HG8.out]
          clear HW9 HG8
          go_wp2_with fail
          refine (r3_Cmp _ _ _ _ _).mono ?_
          rintro e w10 ⟨rfl, h10⟩
          have h10' : Ext w9 w10 := h10
          clear a0 a1 a2 a3 a4 b0 b1 b2 b3 b4
          go_wp2
          go_ret
          exact ⟨rfl, hx.trans (hE9.trans h10')⟩
        · have HT := Lib.hid (HIU.out (by simp) (by simp) hcl h2)
          have HN1 := Lib.hid (fun W (e : Ext w2 W) => (CA.out W e).mono (fun e w' h => (⟨h.1.trans (by unfold numN numD; rw [if_neg h2, if_neg h2, decide_eq_false h2]), h.2⟩ : e = .returned (.tuple #[.agg #[.int .i64 0, .int .i64 0], .bool false]) ∧ Ext W w')))
          have HN2 := Lib.hid (fun W (e : Ext w2 W) => (CB.out W e).mono (fun e w' h => (⟨h.1.trans (by unfold numN numD; rw [if_neg (hcl ▸ h2), if_neg (hcl ▸ h2), decide_eq_false (hcl ▸ h2)]), h.2⟩ : e = .returned (.tuple #[.agg #[.int .i64 0, .int .i64 0], .bool false]) ∧ Ext W w')))
          rw [HT.out]
          clear HO HO' HIU FAB HNa HNb fa fb HCL HU hcl h2 hcz CA CB HT
          go_enter Tryz.func22, Tryz.ntmps22
          go_upto_region 1 with (fail)
          rw [← HW2.out, ← HG2.out, ← HG1.out]
          clear HW2 HG2 HG1
          go_region_held3 (fun V => V.cell? ⟨g1, 0, none⟩ = some (.int .i64 a.kind) ∧ V.cell? ⟨g1, 1, none⟩ = some (.int .i64 a.n) ∧ V.cell? ⟨g1, 2, none⟩ = some (.int .i64 a.d) ∧ V.cell? ⟨g1, 3, none⟩ = some (.string a.s) ∧ V.cell? ⟨g1, 4, none⟩ = some (.slice A a.l.length c) ∧ V.cell? ⟨g2, 0, none⟩ = some (.int .i64 b.kind) ∧ V.cell? ⟨g2, 1, none⟩ = some (.int .i64 b.n) ∧ V.cell? ⟨g2, 2, none⟩ = some (.int .i64 b.d) ∧ V.cell? ⟨g2, 3, none⟩ = some (.string b.s) ∧ V.cell? ⟨g2, 4, none⟩ = some (.slice B b.l.length d) ∧ Ext w2 V) ((exact MK.out _ (by solve_by_elim [X0, X1, X2, X3]))) ((go_at_call 47; (first | (with_reducible refine (HVa.out _ (by solve_by_elim [X0, X1, X2, X3])).mono ?_) | (with_reducible refine (HVb.out _ (by solve_by_elim [X0, X1, X2, X3])).mono ?_)); rintro e w' ⟨rfl, hb⟩; replace hb : Ext w2 w' := Ext.trans (by solve_by_elim [X0, X1, X2, X3]) hb))
          obtain ⟨a0, a1, a2, a3, a4, b0, b1, b2, b3, b4, hEw⟩ := ‹_ ∧ _›
          go_wp2_with fail
          clear a0 a1 a2 a3 a4 b0 b1 b2 b3 b4
          go_region_held3 (fun V => V.cell? ⟨g1, 0, none⟩ = some (.int .i64 a.kind) ∧ V.cell? ⟨g1, 1, none⟩ = some (.int .i64 a.n) ∧ V.cell? ⟨g1, 2, none⟩ = some (.int .i64 a.d) ∧ V.cell? ⟨g1, 3, none⟩ = some (.string a.s) ∧ V.cell? ⟨g1, 4, none⟩ = some (.slice A a.l.length c) ∧ V.cell? ⟨g2, 0, none⟩ = some (.int .i64 b.kind) ∧ V.cell? ⟨g2, 1, none⟩ = some (.int .i64 b.n) ∧ V.cell? ⟨g2, 2, none⟩ = some (.int .i64 b.d) ∧ V.cell? ⟨g2, 3, none⟩ = some (.string b.s) ∧ V.cell? ⟨g2, 4, none⟩ = some (.slice B b.l.length d) ∧ Ext w2 V) ((exact MK.out _ (by solve_by_elim [X0, X1, X2, X3]))) ((first | (go_at_call 51; refine (r4_class _ _).mono ?_; rintro e w' ⟨rfl, rfl⟩) | (go_at_call 50; refine (r4_ints _ _ _).mono ?_; rintro e w' ⟨rfl, rfl⟩)))
          obtain ⟨a0, a1, a2, a3, a4, b0, b1, b2, b3, b4, hEv⟩ := (by assumption : World.cell? _ ⟨g1, 0, none⟩ = some (.int .i64 a.kind) ∧ World.cell? _ ⟨g1, 1, none⟩ = some (.int .i64 a.n) ∧ World.cell? _ ⟨g1, 2, none⟩ = some (.int .i64 a.d) ∧ World.cell? _ ⟨g1, 3, none⟩ = some (.string a.s) ∧ World.cell? _ ⟨g1, 4, none⟩ = some (.slice A a.l.length c) ∧ World.cell? _ ⟨g2, 0, none⟩ = some (.int .i64 b.kind) ∧ World.cell? _ ⟨g2, 1, none⟩ = some (.int .i64 b.n) ∧ World.cell? _ ⟨g2, 2, none⟩ = some (.int .i64 b.d) ∧ World.cell? _ ⟨g2, 3, none⟩ = some (.string b.s) ∧ World.cell? _ ⟨g2, 4, none⟩ = some (.slice B b.l.length d) ∧ Ext w2 _)
          go_wp2_with fail
          refine (HN1.out _ (by solve_by_elim [X0, X1, X2, X3])).mono ?_
          rintro e w6 ⟨rfl, h6⟩
          have hE6 : Ext w2 w6 := Ext.trans (by solve_by_elim [X0, X1, X2, X3]) h6
          obtain ⟨g6, w7, hg6, hw7, p0, p1, h7, -⟩ := box2 w6 0 0 78
          have hE7 := hE6.trans h7
          have HG6 := Lib.hid hg6
          have HW7 := Lib.hid hw7
          clear a0 a1 a2 a3 a4 b0 b1 b2 b3 b4 h6 hg6 hw7 h7 hEv
          obtain ⟨a0, a1, a2, a3, a4, b0, b1, b2, b3, b4, -⟩ := MK.out w7 (hE7)
          go_upto_region 10 with (fail)
          rw [← HW7.out, ← HG6.out]
          clear HW7 HG6
          go_wp2_with fail
          refine (HN2.out w7 hE7).mono ?_
          rintro e w8 ⟨rfl, h8⟩
          obtain ⟨g8, w9, hg8, hw9, q0, q1, h9, -⟩ := box2 w8 0 0 78
          replace p0 := (h8.trans h9).cell p0
          replace p1 := (h8.trans h9).cell p1
          have hE9 := hE7.trans (h8.trans h9)
          have HG8 := Lib.hid hg8
          have HW9 := Lib.hid hw9
          clear a0 a1 a2 a3 a4 b0 b1 b2 b3 b4 hg8 hw9 h8 h9 hE6 hE7
          obtain ⟨a0, a1, a2, a3, a4, b0, b1, b2, b3, b4, -⟩ := MK.out w9 (hE9)
          go_upto_region 11 with (fail)
          rw [← HW9.out, ← HG8.out]
          clear HW9 HG8
          go_wp2_with fail
          refine (HFD.out w9 hE9).mono ?_
          rintro e w10 ⟨rfl, h10⟩
          clear a0 a1 a2 a3 a4 b0 b1 b2 b3 b4
          go_wp2
          go_ret
          exact ⟨rfl, hx.trans (hE9.trans h10)⟩
      · have hcz : Lib.compareInt (clsR a.kind) (clsR b.kind) ≠ 0 := by rw [HCL.out]; exact fun h => hcl ((TotC.int.zero _ _).1 h)
        have hcz' : (Lib.compareInt (clsR a.kind) (clsR b.kind) != 0) = true := by simpa using hcz
        have HT := Lib.hid (show ordU a b = Lib.compareInt (clsR a.kind) (clsR b.kind) by rw [HU.out, ← HCL.out, thenC_ne hcz])
        rw [HT.out]
        clear HO HO' HIU FAB HNa HNb HFD fa fb HCL HU hcl hcz HT
        go_enter Tryz.func22, Tryz.ntmps22
        go_upto_region 1 with (fail)
        rw [← HW2.out, ← HG2.out, ← HG1.out]
        clear HW2 HG2 HG1
        go_region_held3 (fun V => V.cell? ⟨g1, 0, none⟩ = some (.int .i64 a.kind) ∧ V.cell? ⟨g1, 1, none⟩ = some (.int .i64 a.n) ∧ V.cell? ⟨g1, 2, none⟩ = some (.int .i64 a.d) ∧ V.cell? ⟨g1, 3, none⟩ = some (.string a.s) ∧ V.cell? ⟨g1, 4, none⟩ = some (.slice A a.l.length c) ∧ V.cell? ⟨g2, 0, none⟩ = some (.int .i64 b.kind) ∧ V.cell? ⟨g2, 1, none⟩ = some (.int .i64 b.n) ∧ V.cell? ⟨g2, 2, none⟩ = some (.int .i64 b.d) ∧ V.cell? ⟨g2, 3, none⟩ = some (.string b.s) ∧ V.cell? ⟨g2, 4, none⟩ = some (.slice B b.l.length d) ∧ Ext w2 V) ((exact MK.out _ (by solve_by_elim [X0, X1, X2, X3]))) ((go_at_call 47; (first | (with_reducible refine (HVa.out _ (by solve_by_elim [X0, X1, X2, X3])).mono ?_) | (with_reducible refine (HVb.out _ (by solve_by_elim [X0, X1, X2, X3])).mono ?_)); rintro e w' ⟨rfl, hb⟩; replace hb : Ext w2 w' := Ext.trans (by solve_by_elim [X0, X1, X2, X3]) hb))
        obtain ⟨a0, a1, a2, a3, a4, b0, b1, b2, b3, b4, hEw⟩ := ‹_ ∧ _›
        go_wp2_with fail
        clear a0 a1 a2 a3 a4 b0 b1 b2 b3 b4
        go_region_held3 (fun V => V.cell? ⟨g1, 0, none⟩ = some (.int .i64 a.kind) ∧ V.cell? ⟨g1, 1, none⟩ = some (.int .i64 a.n) ∧ V.cell? ⟨g1, 2, none⟩ = some (.int .i64 a.d) ∧ V.cell? ⟨g1, 3, none⟩ = some (.string a.s) ∧ V.cell? ⟨g1, 4, none⟩ = some (.slice A a.l.length c) ∧ V.cell? ⟨g2, 0, none⟩ = some (.int .i64 b.kind) ∧ V.cell? ⟨g2, 1, none⟩ = some (.int .i64 b.n) ∧ V.cell? ⟨g2, 2, none⟩ = some (.int .i64 b.d) ∧ V.cell? ⟨g2, 3, none⟩ = some (.string b.s) ∧ V.cell? ⟨g2, 4, none⟩ = some (.slice B b.l.length d) ∧ Ext w2 V) ((exact MK.out _ (by solve_by_elim [X0, X1, X2, X3]))) ((first | (go_at_call 51; refine (r4_class _ _).mono ?_; rintro e w' ⟨rfl, rfl⟩) | (go_at_call 50; refine (r4_ints _ _ _).mono ?_; rintro e w' ⟨rfl, rfl⟩)))
        all_goals
          clear ‹_ ∧ _›
          go_wp2
          go_ret
          exact ⟨rfl, hx.trans (by solve_by_elim [X0, X1, X2, X3])⟩
theorem r4_OrderN : ∀ (N : Nat) (a b : Val) (ok ok' : Nat → Prop) (A B : Option Addr) (c d : Nat) (w : World), wtV a ≤ N → Vals w ok A a.l → Vals w ok' B b.l → szV a → szV b →
    Calls Tryz.prog 22 #[.agg #[.int .i64 a.kind, .int .i64 a.n, .int .i64 a.d, .string a.s, .slice A a.l.length c], .agg #[.int .i64 b.kind, .int .i64 b.n, .int .i64 b.d, .string b.s, .slice B b.l.length d]] w fun e w' => e = .returned (.int .i64 (ordV a b)) ∧ Ext w w'
  | 0, a, b, ok, ok', A, B, c, d, w, hN, _, _, _, _ => by unfold wtV at hN; omega
  | N + 1, a, b, ok, ok', A, B, c, d, w, hN, ha, hb, hsa, hsb =>
    r4_OrderStep a b ok ok' A B c d w ha hb hsa hsb (fun x hx y _ Ax By cx dy W hx' hy' h1 h2 => r4_OrderN N x y ok ok' Ax By cx dy W (wt_kid hx hN) hx' hy' h1 h2)
theorem r4_Order (a b : Val) (ok ok' : Nat → Prop) (A B : Option Addr) (c d : Nat) (w : World) (ha : Vals w ok A a.l) (hb : Vals w ok' B b.l) (hsa : szV a) (hsb : szV b) :
    Calls Tryz.prog 22 #[.agg #[.int .i64 a.kind, .int .i64 a.n, .int .i64 a.d, .string a.s, .slice A a.l.length c], .agg #[.int .i64 b.kind, .int .i64 b.n, .int .i64 b.d, .string b.s, .slice B b.l.length d]] w fun e w' => e = .returned (.int .i64 (ordV a b)) ∧ Ext w w' :=
  r4_OrderN (wtV a) a b ok ok' A B c d w (Nat.le_refl _) ha hb hsa hsb
end Go.Proofs.YtigmdddeplnciaaGreatDoor

/- THE WALK over the reference's Copy. -/
namespace Go.Proofs.YtigmdddeplnciaaGreatDoor
open Go.RowKit
theorem T_val : ElT Tryz.prog 32 37 5 64 :=
  ⟨Tryz.underlying32, ⟨.agg #[.int .i64 0, .int .i64 0, .int .i64 0, .string ⟨#[]⟩, .slice none 0 0], by kernel_rfl, rfl⟩, by decide⟩
/-- the cells of the first k elements of copies: each its element's cells, its list copied into new memory -/
def CopyTo (w : World) (ok : Nat → Prop) (l : List Val) (cs : List (List Value)) : Prop :=
  ∀ i (h : i < cs.length), ∃ (h' : i < l.length) (A : Option Addr) (c : Nat), cs[i] = (l[i]).cells A c ∧ (l[i]).l.length ≤ c ∧ Vals w ok A (l[i]).l
theorem CopyTo.nil (w : World) (ok : Nat → Prop) (l : List Val) : CopyTo w ok l [] := fun i h => absurd h (by simp)
theorem CopyTo.keep {w w' : World} {ok ok' : Nat → Prop} {l : List Val} {cs : List (List Value)} (h : CopyTo w ok l cs) (hk : ∀ b o x, ok b → w.cell? ⟨b, o, none⟩ = some x → w'.cell? ⟨b, o, none⟩ = some x) (ho : ∀ b, ok b → ok' b) : CopyTo w' ok' l cs := fun i hi => by
  obtain ⟨h', A, c, h1, h2, h3⟩ := h i hi
  exact ⟨h', A, c, h1, h2, h3.keep hk ho⟩
theorem CopyTo.keep' {w w' : World} {ok ok' : Nat → Prop} {l : List Val} {cs : List (List Value)} (h : CopyTo w ok l cs) (hk : ∀ b o x, ok b → w.cell? ⟨b, o, none⟩ = some x → w'.cell? ⟨b, o, none⟩ = some x ∧ ok' b) : CopyTo w' ok' l cs := fun i hi => by
  obtain ⟨h', A, c, h1, h2, h3⟩ := h i hi
  exact ⟨h', A, c, h1, h2, h3.keep' hk⟩
/-- where copies may lie: in new memory, outside the row's own block -/
def okB (base : Nat) (v : Value) (b : Nat) : Prop := base ≤ b ∧ some b ≠ v.ownBlock
theorem CopyTo.ext {a w : World} {ok : Nat → Prop} {l : List Val} {cs : List (List Value)} (h : CopyTo a ok l cs) (e : Ext a w) : CopyTo w ok l cs := h.keep (fun _ _ _ _ hc => e.cell hc) (fun _ h => h)
theorem CopyTo.push {w : World} {ok : Nat → Prop} {l : List Val} {cs : List (List Value)} (h : CopyTo w ok l cs) (hl : cs.length < l.length) {A : Option Addr} {c : Nat} (hc : (l[cs.length]).l.length ≤ c) (hv : Vals w ok A (l[cs.length]).l) : CopyTo w ok l (cs ++ [(l[cs.length]).cells A c]) := fun i hi => by
  rcases Nat.lt_or_ge i cs.length with h1 | h1
  · obtain ⟨h', A', c', e1, e2, e3⟩ := h i h1
    exact ⟨h', A', c', by rw [List.getElem_append_left h1]; exact e1, e2, e3⟩
  · have hi' : i = cs.length := by simp at hi; omega
    subst hi'
    exact ⟨hl, A, c, by simp, hc, hv⟩
theorem CopyTo.size {w : World} {ok : Nat → Prop} {l : List Val} {cs : List (List Value)} (h : CopyTo w ok l cs) : ∀ x ∈ cs, x.length = 5 := fun x hx => by
  obtain ⟨i, hi, rfl⟩ := List.getElem_of_mem hx
  obtain ⟨_, A, c, e, _⟩ := h i hi
  rw [e]; rfl
theorem CopyTo.done {w : World} {ok : Nat → Prop} {base : Nat} {v : Value} {l : List Val} {cs : List (List Value)} (h : CopyTo w ok l cs) (hown : w.ownsRow base 37 5 v l.length cs.flatten) (hl : cs.length = l.length) (hm : l.length ≤ 140737488355328) (hok : ∀ b, ok b → base ≤ b) :
    ∃ A c, v = .slice A l.length c ∧ l.length ≤ c ∧ Vals w (fun b => base ≤ b) A l := by
  refine own_sliceR hown rfl hl h.size hm (fun g hg _ k hk hk' hcell => ?_)
  obtain ⟨h', A, c, e, h2, h3⟩ := h k hk'
  rw [e] at hcell
  refine VCells.iff.2 ⟨hg, A, c, ⟨?_, ?_, ?_, ?_, ?_⟩, h2, h3.to hok⟩
  · exact hcell 0 _ rfl
  · exact hcell 1 _ rfl
  · exact hcell 2 _ rfl
  · exact hcell 3 _ rfl
  · exact hcell 4 _ rfl
end Go.Proofs.YtigmdddeplnciaaGreatDoor

/- THE WALKS over slices.Clone, at each element type; a value slice's cells in one row. -/
namespace Go.Proofs.YtigmdddeplnciaaGreatDoor
open Go.RowKit
theorem CopyTo.cons {w : World} {ok : Nat → Prop} {l : List Val} {cs : List (List Value)} (h : CopyTo w ok l cs) (v : Val) {A : Option Addr} {c : Nat} (hc : v.l.length ≤ c) (hv : Vals w ok A v.l) : CopyTo w ok (v :: l) (v.cells A c :: cs) := fun i hi => by
  cases i with
  | zero => exact ⟨by simp, A, c, rfl, hc, hv⟩
  | succ i =>
    obtain ⟨h', A', c', e1, e2, e3⟩ := h i (by simpa using hi)
    exact ⟨by simpa using h', A', c', e1, e2, e3⟩
theorem LCells.flat {w : World} {ok : Nat → Prop} : ∀ {l : List Val} {b o : Nat}, LCells w ok b o l → ∃ cs, cs.length = l.length ∧ CopyTo w ok l cs ∧ ∀ j u, cs.flatten[j]? = some u → w.cell? ⟨b, o + j, none⟩ = some u
  | [], b, o, _ => ⟨[], rfl, CopyTo.nil _ _ _, fun j u h => by simp at h⟩
  | v :: vs, b, o, h => by
    rw [LCells] at h
    obtain ⟨cs, h1, h2, h3⟩ := LCells.flat h.2
    obtain ⟨-, A, c, ⟨c0, c1, c2, c3, c4⟩, hle, hv⟩ := VCells.iff.1 h.1
    refine ⟨v.cells A c :: cs, by simp [h1], h2.cons v hle hv, fun j u hu => ?_⟩
    rw [List.flatten_cons] at hu
    by_cases hj : j < 5
    · rw [List.getElem?_append_left (by simpa [Val.cells] using hj)] at hu
      have hj' : j = 0 ∨ j = 1 ∨ j = 2 ∨ j = 3 ∨ j = 4 := by omega
      rcases hj' with rfl | rfl | rfl | rfl | rfl <;> (simp [Val.cells] at hu; subst hu; assumption)
    · rw [List.getElem?_append_right (by simp [Val.cells]; omega)] at hu
      have := h3 _ u hu
      rw [show o + 5 + (j - (v.cells A c).length) = o + j by simp [Val.cells]; omega] at this
      exact this
theorem Vals.flat {w : World} {ok : Nat → Prop} {A : Option Addr} {l : List Val} (h : Vals w ok A l) : ∃ cs, cs.length = l.length ∧ CopyTo w ok l cs ∧ ∀ ad, A = some ad → ∀ j u, cs.flatten[j]? = some u → w.cell? (ad.add j) = some u := by
  rcases Nat.eq_zero_or_pos l.length with h0 | h0
  · have : l = [] := List.eq_nil_of_length_eq_zero h0
    subst this
    exact ⟨[], rfl, CopyTo.nil _ _ _, fun _ _ j u hu => by simp at hu⟩
  · obtain ⟨b, o, rfl, hc⟩ := h.2 h0
    obtain ⟨cs, h1, h2, h3⟩ := LCells.flat (LCells.iff.2 hc)
    refine ⟨cs, h1, h2, fun ad e j u hu => ?_⟩
    injection e with e
    subst e
    rw [Addr.add_mid]; exact h3 j u hu
theorem flatten_len {cs : List (List Value)} {n : Nat} (h : ∀ x ∈ cs, x.length = n) : cs.flatten.length = cs.length * n := by
  induction cs with
  | nil => simp
  | cons x cs ih => rw [List.flatten_cons, List.length_append, h x (by simp), ih (fun y hy => h y (List.mem_cons_of_mem _ hy)), List.length_cons, Nat.add_mul]; omega
theorem CopyTo.one {w : World} {ok : Nat → Prop} {l : List Val} {cs : List (List Value)} (h : CopyTo w ok l cs) : ∀ u ∈ cs.flatten, u.oneCell' = true := fun u hu => by
  obtain ⟨x, hx, hu⟩ := List.mem_flatten.1 hu
  obtain ⟨i, hi, rfl⟩ := List.getElem_of_mem hx
  obtain ⟨_, A, c, e, _⟩ := h i hi
  rw [e] at hu
  exact Val.cells_one _ _ _ u hu
set_option maxRecDepth 100000 in
theorem c_Clone_val (n : Nat) (A : Option Addr) (c : Nat) (news : List Value) (w : World) (hA : A = none → n = 0) (hl : news.length = n * 5) (hs : ∀ ad, A = some ad → ∀ j u, news[j]? = some u → w.cell? (ad.add j) = some u) (h1 : ∀ u ∈ news, u.oneCell' = true) (hn : n ≤ 8000000) :
    Calls Tryz.prog 129 #[.slice A n c] w fun e w' => ∃ v, e = .returned v ∧ w'.ownsRow w.heap.size 37 5 v n news ∧ Ext w w' := by
  have hq := fun W => Lib.run_eql_slice_nil (P := Tryz.prog) W 32 37 A n c 0 0 Tryz.underlying32
  cases A with
  | none =>
    have h0 := hA rfl
    subst h0
    have HS := Lib.hid (List.eq_nil_of_length_eq_zero (show news.length = 0 by omega))
    clear hA hs hl
    simp only [Option.isNone_none] at hq
    go_enter Tryz.func129, Tryz.ntmps129
    go_wp2
    go_ret
    refine ⟨_, rfl, ?_, Ext.refl _⟩
    rw [HS.out]
    exact World.ownsRow_nil _ _ _ _
  | some ad =>
    have HF := Lib.hid (hs ad rfl)
    have HL := Lib.hid hl
    clear hs hA hl
    simp only [Option.isNone_some] at hq
    go_enter Tryz.func129, Tryz.ntmps129
    go_wp2_with (at_builtin; refine own_append T_val rfl (.tmp 5) (.tmp 6) rfl w _ 0 [] rfl (World.ownsRow_made w #[] 0 (Nat.le_refl _) (by unfold maxLen; omega) rfl) ((Ext.refl _).alloc _) ad n c news rfl HL.out (fun j u hu => ((Ext.refl w).alloc _).cell (HF.out j u hu)) h1 (by omega) (by decide) ?_; intro v' w' hown' hE')
    go_wp2_with fail
    go_ret
    exact ⟨v', rfl, by rw [Nat.zero_add, List.nil_append] at hown'; exact hown', hE'⟩
end Go.Proofs.YtigmdddeplnciaaGreatDoor
