/- THE WALKS over package frac: Mul, Div. -/
import Derived.Test.YtemmgehaddghfaaDoorFracH
namespace Go.Proofs.YtemmgehaddghfaaDoor
open Go.RowKit

theorem cutS_mul {A B C D : Int} (hA : inB A = true) (hB : inB B = true) (hC : inB C = true) (hD : inB D = true) : cutS (A * B) (C * D) = if mulB A B && mulB C D then (mulV A B, mulV C D, true) else (0, 0, false) := by
  unfold cutS mulB
  rw [show bothB A B = true from by unfold bothB; rw [hA, hB]; rfl, show bothB C D = true from by unfold bothB; rw [hC, hD]; rfl, Bool.true_and, Bool.true_and]
  cases h1 : inB (A * B) <;> cases h2 : inB (C * D) <;> try rfl
  rw [mul_yes, mul_yes] <;> (unfold mulB bothB; simp [*])

set_option maxHeartbeats 1600000 in
theorem frac_Mul_yes (an ad bn bd : Int) (w : World) (ha : validB an ad = true) (hb : validB bn bd = true) :
    Calls Tryd.prog 18 #[.agg #[.int .i64 an, .int .i64 ad], .agg #[.int .i64 bn, .int .i64 bd]] w (FracIs (mulS an ad bn bd) w) := by
  obtain ⟨a1, a2, ⟨a3, a4⟩, a5⟩ := validB_iff.1 ha
  obtain ⟨b1, b2, ⟨b3, b4⟩, b5⟩ := validB_iff.1 hb
  have hO : mulS an ad bn bd = _ := mulS_formula ha hb
  obtain ⟨g1, g2⟩ := cgcd_bounds (n := an) (show bd ≠ 0 by omega) ⟨by omega, by omega⟩
  obtain ⟨k1, k2⟩ := cgcd_bounds (n := bn) (show ad ≠ 0 by omega) ⟨by omega, by omega⟩
  obtain ⟨q1, -, -, q4, q5⟩ := quo_facts g1 (cgcd_left an bd) ⟨a3, a4⟩
  obtain ⟨p1, -, -, p4, p5⟩ := quo_facts g1 (cgcd_right an bd) ⟨by omega, by omega⟩
  obtain ⟨r1, -, -, r4, r5⟩ := quo_facts k1 (cgcd_left bn ad) ⟨b3, b4⟩
  obtain ⟨s1, -, -, s4, s5⟩ := quo_facts k1 (cgcd_right bn ad) ⟨by omega, by omega⟩
  have hg : gcdV an bd = cgcd an bd := gcdV_yes (inB_true.2 ⟨a3, a4⟩) (inB_true.2 ⟨by omega, by omega⟩)
  have hk : gcdV bn ad = cgcd bn ad := gcdV_yes (inB_true.2 ⟨b3, b4⟩) (inB_true.2 ⟨by omega, by omega⟩)
  generalize cgcd an bd = g at *
  generalize cgcd bn ad = k at *
  generalize an / g = A at *
  generalize bd / g = D at *
  generalize bn / k = B at *
  generalize ad / k = C at *
  rw [cutS_mul (inB_true.2 ⟨q4, q5⟩) (inB_true.2 ⟨r4, r5⟩) (inB_true.2 ⟨s4, s5⟩) (inB_true.2 ⟨p4, p5⟩)] at hO
  have HO := Lib.hid hO
  have hg0 : (g == 0) = false := beq_eq_false_iff_ne.2 (by omega)
  have hk0 : (k == 0) = false := beq_eq_false_iff_ne.2 (by omega)
  clear hO a5 b5
  go_enter Tryd.func18, Tryd.ntmps18
  go_wp2_with (go_at_call 11; refine (frac_Valid _ _ _).mono ?_; rintro e w' ⟨rfl, hbb⟩; obtain ⟨hc, hf⟩ := bcell hbb; have c0 : w'.cell? ⟨w.heap.size, 0, none⟩ = some (.int .i64 an) := (hc _ _ (by first | omega | (simp; done) | (simp; omega))).trans (by go_simp); have f0 : w'.frozen? ⟨w.heap.size, 0, none⟩ = false := (hf _ _ (by first | omega | (simp; done) | (simp; omega))).trans (by go_simp); have c1 : w'.cell? ⟨w.heap.size, 1, none⟩ = some (.int .i64 ad) := (hc _ _ (by first | omega | (simp; done) | (simp; omega))).trans (by go_simp); have f1 : w'.frozen? ⟨w.heap.size, 1, none⟩ = false := (hf _ _ (by first | omega | (simp; done) | (simp; omega))).trans (by go_simp); have c2 : w'.cell? ⟨w.heap.size + 1, 0, none⟩ = some (.int .i64 bn) := (hc _ _ (by first | omega | (simp; done) | (simp; omega))).trans (by go_simp); have f2 : w'.frozen? ⟨w.heap.size + 1, 0, none⟩ = false := (hf _ _ (by first | omega | (simp; done) | (simp; omega))).trans (by go_simp); have c3 : w'.cell? ⟨w.heap.size + 1, 1, none⟩ = some (.int .i64 bd) := (hc _ _ (by first | omega | (simp; done) | (simp; omega))).trans (by go_simp); have f3 : w'.frozen? ⟨w.heap.size + 1, 1, none⟩ = false := (hf _ _ (by first | omega | (simp; done) | (simp; omega))).trans (by go_simp); have c4 : w'.cell? ⟨w.heap.size + 1 + 1, 0, none⟩ = some (.int .i64 0) := (hc _ _ (by first | omega | (simp; done) | (simp; omega))).trans (by go_simp); have f4 : w'.frozen? ⟨w.heap.size + 1 + 1, 0, none⟩ = false := (hf _ _ (by first | omega | (simp; done) | (simp; omega))).trans (by go_simp); have c5 : w'.cell? ⟨w.heap.size + 1 + 1, 1, none⟩ = some (.int .i64 0) := (hc _ _ (by first | omega | (simp; done) | (simp; omega))).trans (by go_simp); have f5 : w'.frozen? ⟨w.heap.size + 1 + 1, 1, none⟩ = false := (hf _ _ (by first | omega | (simp; done) | (simp; omega))).trans (by go_simp); have hz : w.heap.size + 1 + 1 < w'.heap.size := (by have hs := hbb.size; first | omega | (simp at hs; done) | (simp at hs; omega)); have hbA : Below w.heap.size w w' := Below.trans (b := _) (by repeat (first | with_reducible exact Below.refl _ _ | with_reducible assumption | with_reducible refine below_drewN' ?_ _ | (with_reducible refine Below.setCell ?_ (by first | (simp; done) | (simp; omega)) _) | (with_reducible refine Below.alloc ?_ (by first | exact Nat.le_refl _ | (simp; done) | (simp; omega)) _))) (hbb.mono (by first | omega | (simp; done) | (simp; omega))); clear hc hf hbb)
  refine forget_world (fun W => (Below w.heap.size w W ∧ w.heap.size + 1 + 1 < W.heap.size) ∧ (W.cell? ⟨w.heap.size, 0, none⟩ = some (.int .i64 an) ∧ W.frozen? ⟨w.heap.size, 0, none⟩ = false) ∧ (W.cell? ⟨w.heap.size, 1, none⟩ = some (.int .i64 ad) ∧ W.frozen? ⟨w.heap.size, 1, none⟩ = false) ∧ (W.cell? ⟨w.heap.size + 1, 0, none⟩ = some (.int .i64 bn) ∧ W.frozen? ⟨w.heap.size + 1, 0, none⟩ = false) ∧ (W.cell? ⟨w.heap.size + 1, 1, none⟩ = some (.int .i64 bd) ∧ W.frozen? ⟨w.heap.size + 1, 1, none⟩ = false) ∧ (W.cell? ⟨w.heap.size + 1 + 1, 0, none⟩ = some (.int .i64 0) ∧ W.frozen? ⟨w.heap.size + 1 + 1, 0, none⟩ = false) ∧ (W.cell? ⟨w.heap.size + 1 + 1, 1, none⟩ = some (.int .i64 0) ∧ W.frozen? ⟨w.heap.size + 1 + 1, 1, none⟩ = false)) ⟨⟨(by repeat (first | with_reducible exact Below.refl _ _ | with_reducible assumption | with_reducible refine below_drewN' ?_ _ | (with_reducible refine Below.setCell ?_ (by first | (simp; done) | (simp; omega)) _) | (with_reducible refine Below.alloc ?_ (by first | exact Nat.le_refl _ | (simp; done) | (simp; omega)) _))), by go_simp⟩, ⟨by go_simp, by go_simp⟩, ⟨by go_simp, by go_simp⟩, ⟨by go_simp, by go_simp⟩, ⟨by go_simp, by go_simp⟩, ⟨by go_simp, by go_simp⟩, ⟨by go_simp, by go_simp⟩⟩ ?_
  rintro W ⟨⟨hbB, hzB⟩, ⟨d0, g0⟩, ⟨d1, g1⟩, ⟨d2, g2⟩, ⟨d3, g3⟩, ⟨d4, g4⟩, ⟨d5, g5⟩⟩
  go_quiet ((go_at_call 34; exact Calls.quiet_of (num_Gcd _ _ _)))
  go_wp2_with fail
  cases hp : mulB A B <;> cases hq : mulB C D
  all_goals
    go_quiet ((go_at_call 42; refine (num_Mul _ _ _).mono ?_; rintro e w' ⟨rfl, rfl⟩; exact ⟨rfl, _, rfl⟩))
    go_wp2_with fail
    go_quiet ((go_at_call 42; refine (num_Mul _ _ _).mono ?_; rintro e w' ⟨rfl, rfl⟩; exact ⟨rfl, _, rfl⟩))
    go_wp2_with fail
    rw [hp, hq] at HO
  · refine bodyPost_ret (v := .tuple #[.agg #[.int .i64 0, .int .i64 0], .bool false]) (by simp [results, Tryd.results18, go_sem, d4, d5]) rfl ?_
    rw [HO.out]
    exact ⟨rfl, (by repeat (first | with_reducible exact Below.refl _ _ | with_reducible assumption | with_reducible refine below_drewN' ?_ _ | (with_reducible refine Below.setCell ?_ (by first | (simp; done) | (simp; omega)) _) | (with_reducible refine Below.alloc ?_ (by first | exact Nat.le_refl _ | (simp; done) | (simp; omega)) _)))⟩
  · refine bodyPost_ret (v := .tuple #[.agg #[.int .i64 0, .int .i64 0], .bool false]) (by simp [results, Tryd.results18, go_sem, d4, d5]) rfl ?_
    rw [HO.out]
    exact ⟨rfl, (by repeat (first | with_reducible exact Below.refl _ _ | with_reducible assumption | with_reducible refine below_drewN' ?_ _ | (with_reducible refine Below.setCell ?_ (by first | (simp; done) | (simp; omega)) _) | (with_reducible refine Below.alloc ?_ (by first | exact Nat.le_refl _ | (simp; done) | (simp; omega)) _)))⟩
  · refine bodyPost_ret (v := .tuple #[.agg #[.int .i64 0, .int .i64 0], .bool false]) (by simp [results, Tryd.results18, go_sem, d4, d5]) rfl ?_
    rw [HO.out]
    exact ⟨rfl, (by repeat (first | with_reducible exact Below.refl _ _ | with_reducible assumption | with_reducible refine below_drewN' ?_ _ | (with_reducible refine Below.setCell ?_ (by first | (simp; done) | (simp; omega)) _) | (with_reducible refine Below.alloc ?_ (by first | exact Nat.le_refl _ | (simp; done) | (simp; omega)) _)))⟩
  · refine bodyPost_ret (v := .tuple #[.agg #[.int .i64 (mulV A B), .int .i64 (mulV C D)], .bool true]) (by simp [results, Tryd.results18, go_sem, d4, d5]) rfl ?_
    rw [HO.out]
    exact ⟨rfl, (by repeat (first | with_reducible exact Below.refl _ _ | with_reducible assumption | with_reducible refine below_drewN' ?_ _ | (with_reducible refine Below.setCell ?_ (by first | (simp; done) | (simp; omega)) _) | (with_reducible refine Below.alloc ?_ (by first | exact Nat.le_refl _ | (simp; done) | (simp; omega)) _)))⟩

set_option maxHeartbeats 1600000 in
theorem frac_Mul_no (an ad bn bd : Int) (w : World) (h : validB an ad = false ∨ validB an ad = true ∧ validB bn bd = false) :
    Calls Tryd.prog 18 #[.agg #[.int .i64 an, .int .i64 ad], .agg #[.int .i64 bn, .int .i64 bd]] w (FracIs (mulS an ad bn bd) w) := by
  have HO : Hid (mulS an ad bn bd = (0, 0, false)) := by
    unfold mulS
    rcases h with h | ⟨h, h'⟩
    · rw [h]; rfl
    · rw [h, h']; rfl
  rcases h with ha | ⟨ha, hb⟩
  all_goals
    go_enter Tryd.func18, Tryd.ntmps18
    go_wp2_with (go_at_call 11; refine (frac_Valid _ _ _).mono ?_; rintro e w' ⟨rfl, hbb⟩; obtain ⟨hc, hf⟩ := bcell hbb; have c0 : w'.cell? ⟨w.heap.size, 0, none⟩ = some (.int .i64 an) := (hc _ _ (by first | omega | (simp; done) | (simp; omega))).trans (by go_simp); have f0 : w'.frozen? ⟨w.heap.size, 0, none⟩ = false := (hf _ _ (by first | omega | (simp; done) | (simp; omega))).trans (by go_simp); have c1 : w'.cell? ⟨w.heap.size, 1, none⟩ = some (.int .i64 ad) := (hc _ _ (by first | omega | (simp; done) | (simp; omega))).trans (by go_simp); have f1 : w'.frozen? ⟨w.heap.size, 1, none⟩ = false := (hf _ _ (by first | omega | (simp; done) | (simp; omega))).trans (by go_simp); have c2 : w'.cell? ⟨w.heap.size + 1, 0, none⟩ = some (.int .i64 bn) := (hc _ _ (by first | omega | (simp; done) | (simp; omega))).trans (by go_simp); have f2 : w'.frozen? ⟨w.heap.size + 1, 0, none⟩ = false := (hf _ _ (by first | omega | (simp; done) | (simp; omega))).trans (by go_simp); have c3 : w'.cell? ⟨w.heap.size + 1, 1, none⟩ = some (.int .i64 bd) := (hc _ _ (by first | omega | (simp; done) | (simp; omega))).trans (by go_simp); have f3 : w'.frozen? ⟨w.heap.size + 1, 1, none⟩ = false := (hf _ _ (by first | omega | (simp; done) | (simp; omega))).trans (by go_simp); have c4 : w'.cell? ⟨w.heap.size + 1 + 1, 0, none⟩ = some (.int .i64 0) := (hc _ _ (by first | omega | (simp; done) | (simp; omega))).trans (by go_simp); have f4 : w'.frozen? ⟨w.heap.size + 1 + 1, 0, none⟩ = false := (hf _ _ (by first | omega | (simp; done) | (simp; omega))).trans (by go_simp); have c5 : w'.cell? ⟨w.heap.size + 1 + 1, 1, none⟩ = some (.int .i64 0) := (hc _ _ (by first | omega | (simp; done) | (simp; omega))).trans (by go_simp); have f5 : w'.frozen? ⟨w.heap.size + 1 + 1, 1, none⟩ = false := (hf _ _ (by first | omega | (simp; done) | (simp; omega))).trans (by go_simp); have hz : w.heap.size + 1 + 1 < w'.heap.size := (by have hs := hbb.size; first | omega | (simp at hs; done) | (simp at hs; omega)); have hbA : Below w.heap.size w w' := Below.trans (b := _) (by repeat (first | with_reducible exact Below.refl _ _ | with_reducible assumption | with_reducible refine below_drewN' ?_ _ | (with_reducible refine Below.setCell ?_ (by first | (simp; done) | (simp; omega)) _) | (with_reducible refine Below.alloc ?_ (by first | exact Nat.le_refl _ | (simp; done) | (simp; omega)) _))) (hbb.mono (by first | omega | (simp; done) | (simp; omega))); clear hc hf hbb)
    refine bodyPost_ret (v := .tuple #[.agg #[.int .i64 0, .int .i64 0], .bool false]) (by simp [results, Tryd.results18, go_sem, c4, c5]) rfl ?_
    rw [HO.out]
    exact ⟨rfl, (by repeat (first | with_reducible exact Below.refl _ _ | with_reducible assumption | with_reducible refine below_drewN' ?_ _ | (with_reducible refine Below.setCell ?_ (by first | (simp; done) | (simp; omega)) _) | (with_reducible refine Below.alloc ?_ (by first | exact Nat.le_refl _ | (simp; done) | (simp; omega)) _)))⟩

theorem frac_Mul (an ad bn bd : Int) (w : World) :
    Calls Tryd.prog 18 #[.agg #[.int .i64 an, .int .i64 ad], .agg #[.int .i64 bn, .int .i64 bd]] w (FracIs (mulS an ad bn bd) w) := by
  cases ha : validB an ad
  · exact frac_Mul_no _ _ _ _ w (.inl ha)
  · cases hb : validB bn bd
    · exact frac_Mul_no _ _ _ _ w (.inr ⟨ha, hb⟩)
    · exact frac_Mul_yes _ _ _ _ w ha hb

end Go.Proofs.YtemmgehaddghfaaDoor
