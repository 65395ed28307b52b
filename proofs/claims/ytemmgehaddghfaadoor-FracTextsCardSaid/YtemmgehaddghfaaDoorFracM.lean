/- THE WALKS over package frac: Sub, Cmp, Floor. -/
import Derived.Test.YtemmgehaddghfaaDoorFracL
namespace Go.Proofs.YtemmgehaddghfaaDoor
open Go.RowKit

theorem below_ZeroAt {w V : World} (h : ZeroAt w) (hb : Below w.heap.size w V) : ZeroAt V := h.below hb

/-- the difference -/
def subS (an ad bn bd : Int) : Int × Int × Bool := addS an ad (-bn) bd

set_option maxHeartbeats 1600000 in
theorem frac_Sub (an ad bn bd : Int) (w : World) (hZ0 : ZeroAt w) (hb1 : -9223372036854775808 ≤ bn) (hb2 : bn ≤ 9223372036854775807) :
    Calls Tryd.prog 16 #[.agg #[.int .i64 an, .int .i64 ad], .agg #[.int .i64 bn, .int .i64 bd]] w (FracIs (subS an ad bn bd) w) := by
  have HZ0 := Lib.hid hZ0
  have HS : ∃ nb : Int, IntKind.i64.wrap (-bn) = nb ∧ Hid (subS an ad bn bd = addS an ad nb bd) := by
    by_cases hm : bn = -9223372036854775808
    · refine ⟨-9223372036854775808, ?_, ?_⟩
      · rw [hm]; decide
      · have v1 : validB (-bn) bd = false := validB_no3 (inB_false.2 (by omega))
        have v2 : validB (-9223372036854775808) bd = false := validB_no3 (inB_false.2 (by omega))
        show subS _ _ _ _ = _
        unfold subS addS
        rw [v1, v2, Bool.and_false]
        rfl
    · exact ⟨-bn, IntWalk.i64_in _ ⟨by omega, by omega⟩, Lib.hid rfl⟩
  obtain ⟨nb, hnb, HS⟩ := HS
  clear hZ0 hb1 hb2
  go_enter Tryd.func16, Tryd.ntmps16
  go_wp2_with (go_at_call 14; refine Calls.mono (frac_Add _ _ _ _ _ ?hz) ?_; (case hz => exact HZ0.out.below (by repeat (first | with_reducible exact Below.refl _ _ | with_reducible assumption | with_reducible refine below_drewN' ?_ _ | (with_reducible refine Below.setCell ?_ (by first | (simp; done) | (simp; omega)) _) | (with_reducible refine Below.alloc ?_ (by first | exact Nat.le_refl _ | (simp; done) | (simp; omega)) _)))); rintro e w' ⟨rfl, hbb⟩; obtain ⟨hc, hf⟩ := bcell hbb; have c0 : w'.cell? ⟨w.heap.size + 1 + 1, 0, none⟩ = some (.int .i64 0) := (hc _ _ (by first | omega | (simp; done) | (simp; omega))).trans (by go_simp); have f0 : w'.frozen? ⟨w.heap.size + 1 + 1, 0, none⟩ = false := (hf _ _ (by first | omega | (simp; done) | (simp; omega))).trans (by go_simp); have c1 : w'.cell? ⟨w.heap.size + 1 + 1, 1, none⟩ = some (.int .i64 0) := (hc _ _ (by first | omega | (simp; done) | (simp; omega))).trans (by go_simp); have f1 : w'.frozen? ⟨w.heap.size + 1 + 1, 1, none⟩ = false := (hf _ _ (by first | omega | (simp; done) | (simp; omega))).trans (by go_simp); have hz : w.heap.size + 1 + 1 < w'.heap.size := (by have hs := hbb.size; first | omega | (simp at hs; done) | (simp at hs; omega)); have hbA : Below w.heap.size w w' := Below.trans (b := _) (by repeat (first | with_reducible exact Below.refl _ _ | with_reducible assumption | with_reducible refine below_drewN' ?_ _ | (with_reducible refine Below.setCell ?_ (by first | (simp; done) | (simp; omega)) _) | (with_reducible refine Below.alloc ?_ (by first | exact Nat.le_refl _ | (simp; done) | (simp; omega)) _))) (hbb.mono (by first | omega | (simp; done) | (simp; omega))); clear hc hf hbb)
  refine bodyPost_ret (v := .tuple #[.agg #[.int .i64 (addS an ad nb bd).1, .int .i64 (addS an ad nb bd).2.1], .bool (addS an ad nb bd).2.2]) (by simp [results, Tryd.results16, go_sem, c0, c1]) rfl ?_
  rw [HS.out]
  exact ⟨rfl, (by repeat (first | with_reducible exact Below.refl _ _ | with_reducible assumption | with_reducible refine below_drewN' ?_ _ | (with_reducible refine Below.setCell ?_ (by first | (simp; done) | (simp; omega)) _) | (with_reducible refine Below.alloc ?_ (by first | exact Nat.le_refl _ | (simp; done) | (simp; omega)) _)))⟩

/-- the order -/
def fixN (n d : Int) : Int := if validB n d then n else 0
def fixD (n d : Int) : Int := if validB n d then d else 1
def cmpS (an ad bn bd : Int) : Int := sgn (fixN an ad * fixD bn bd - fixN bn bd * fixD an ad)

theorem fix_bounds (n d : Int) : (-1000000000000000 ≤ fixN n d ∧ fixN n d ≤ 1000000000000000) ∧ (-1000000000000000 ≤ fixD n d ∧ fixD n d ≤ 1000000000000000) := by
  unfold fixN fixD
  cases h : validB n d
  · simp
  · obtain ⟨h1, h2, h3, h4⟩ := validB_iff.1 h
    simp only [if_true]; omega

/-- what Cmp's frame holds behind its checks -/
def CmpSt (w : World) (A B C D : Int) (V : World) : Prop :=
  Below w.heap.size w V ∧ w.heap.size + 1 < V.heap.size ∧ V.cell? ⟨w.heap.size, 0, none⟩ = some (.int .i64 A) ∧ V.cell? ⟨w.heap.size, 1, none⟩ = some (.int .i64 B) ∧ V.cell? ⟨w.heap.size + 1, 0, none⟩ = some (.int .i64 C) ∧ V.cell? ⟨w.heap.size + 1, 1, none⟩ = some (.int .i64 D)

theorem CmpSt.step {w : World} {A B C D : Int} {V V' : World} (q : CmpSt w A B C D V) (hb : Below V.heap.size V V') : CmpSt w A B C D V' := by
  obtain ⟨q0, q1, q2, q3, q4, q5⟩ := q
  obtain ⟨hc, hf⟩ := bcell hb
  have hs := hb.size
  exact ⟨below_step q0 hb, by omega, (hc _ _ (by omega)).trans q2, (hc _ _ (by omega)).trans q3, (hc _ _ (by omega)).trans q4, (hc _ _ (by omega)).trans q5⟩

theorem CmpSt.conj {w : World} {A B C D : Int} {V : World} (q : CmpSt w A B C D V) : V.cell? ⟨w.heap.size, 0, none⟩ = some (.int .i64 A) ∧ V.cell? ⟨w.heap.size, 1, none⟩ = some (.int .i64 B) ∧ V.cell? ⟨w.heap.size + 1, 0, none⟩ = some (.int .i64 C) ∧ V.cell? ⟨w.heap.size + 1, 1, none⟩ = some (.int .i64 D) ∧ CmpSt w A B C D V :=
  ⟨q.2.2.1, q.2.2.2.1, q.2.2.2.2.1, q.2.2.2.2.2, q⟩

theorem CmpSt.drew {w : World} {A B C D : Int} {V : World} (q : CmpSt w A B C D V) : CmpSt w A B C D V.drew := q.step (below_drew' (Below.refl _ _))

theorem wval_product_neg (C B : Int) : wval (decide (0 < C) != decide (B < 0)) (C.natAbs * B.natAbs) = -C * B := by
  have h := wval_product (-C) B
  rw [Int.natAbs_neg] at h
  rw [show decide (0 < C) = decide (-C < 0) from decide_eq_decide.2 (by omega)]
  exact h

theorem fix_no {n d : Int} (h : validB n d = false) : fixN n d = 0 ∧ fixD n d = 1 := by unfold fixN fixD; rw [h]; exact ⟨rfl, rfl⟩

theorem fix_yes {n d : Int} (h : validB n d = true) : fixN n d = n ∧ fixD n d = d := by unfold fixN fixD; rw [h]; exact ⟨rfl, rfl⟩

set_option maxHeartbeats 3200000 in
theorem frac_Cmp (an ad bn bd : Int) (w : World) (hZ0 : ZeroAt w) :
    Calls Tryd.prog 22 #[.agg #[.int .i64 an, .int .i64 ad], .agg #[.int .i64 bn, .int .i64 bd]] w fun e w' => e = .returned (.int .i64 (cmpS an ad bn bd)) ∧ Below w.heap.size w w' := by
  obtain ⟨⟨x1, x2⟩, x3, x4⟩ := fix_bounds an ad
  obtain ⟨⟨y1, y2⟩, y3, y4⟩ := fix_bounds bn bd
  have HR : Hid (cmpS an ad bn bd = sgn (fixN an ad * fixD bn bd - fixN bn bd * fixD an ad)) := Lib.hid rfl
  generalize cmpS an ad bn bd = R at *
  obtain ⟨z0, z1, z2⟩ := hZ0
  obtain ⟨A, hA⟩ : ∃ A, Hid (fixN an ad = A) := ⟨_, rfl⟩
  obtain ⟨B, hB⟩ : ∃ B, Hid (fixD an ad = B) := ⟨_, rfl⟩
  obtain ⟨C, hC⟩ : ∃ C, Hid (fixN bn bd = C) := ⟨_, rfl⟩
  obtain ⟨D, hD⟩ : ∃ D, Hid (fixD bn bd = D) := ⟨_, rfl⟩
  rw [hA.out, hB.out, hC.out, hD.out] at HR
  rw [hA.out] at x1 x2
  rw [hB.out] at x3 x4
  rw [hC.out] at y1 y2
  rw [hD.out] at y3 y4
  have M1 := mul_lt_wide (a := A) (b := D) ⟨x1, x2⟩ ⟨y3, y4⟩
  have M2 := mul_lt_wide (a := -C) (b := B) ⟨by omega, by omega⟩ ⟨x3, x4⟩
  have hn0 : ¬ w.heap.size = 0 := by omega
  have hm0 : ¬ 0 = w.heap.size := by omega
  cases ha : validB an ad <;> cases hb : validB bn bd
  · have hSt : Hid (∀ V, CmpSt w 0 1 0 1 V → CmpSt w A B C D V) := by
      intro V hV
      rw [← hA.out, ← hB.out, ← hC.out, ← hD.out, (fix_no ha).1, (fix_no ha).2, (fix_no hb).1, (fix_no hb).2]
      exact hV
    go_enter Tryd.func22, Tryd.ntmps22
    go_wp2_with fail
    refine (frac_Valid _ _ _).mono ?_
    rintro e w' ⟨rfl, hbb⟩
    obtain ⟨hc, hf⟩ := bcell hbb
    have c0 : w'.cell? ⟨w.heap.size, 0, none⟩ = some (.int .i64 an) := (hc _ _ (by first | omega | (simp; done) | (simp; omega))).trans (by go_simp); have f0 : w'.frozen? ⟨w.heap.size, 0, none⟩ = false := (hf _ _ (by first | omega | (simp; done) | (simp; omega))).trans (by go_simp); have c1 : w'.cell? ⟨w.heap.size, 1, none⟩ = some (.int .i64 ad) := (hc _ _ (by first | omega | (simp; done) | (simp; omega))).trans (by go_simp); have f1 : w'.frozen? ⟨w.heap.size, 1, none⟩ = false := (hf _ _ (by first | omega | (simp; done) | (simp; omega))).trans (by go_simp); have c2 : w'.cell? ⟨w.heap.size + 1, 0, none⟩ = some (.int .i64 bn) := (hc _ _ (by first | omega | (simp; done) | (simp; omega))).trans (by go_simp); have f2 : w'.frozen? ⟨w.heap.size + 1, 0, none⟩ = false := (hf _ _ (by first | omega | (simp; done) | (simp; omega))).trans (by go_simp); have c3 : w'.cell? ⟨w.heap.size + 1, 1, none⟩ = some (.int .i64 bd) := (hc _ _ (by first | omega | (simp; done) | (simp; omega))).trans (by go_simp); have f3 : w'.frozen? ⟨w.heap.size + 1, 1, none⟩ = false := (hf _ _ (by first | omega | (simp; done) | (simp; omega))).trans (by go_simp); have k0 : w'.cell? ⟨0, 0, none⟩ = some (.int .i64 0) := (hc _ _ (by first | omega | (simp; done) | (simp; omega))).trans (by go_simp); have k1 : w'.cell? ⟨0, 1, none⟩ = some (.int .i64 1) := (hc _ _ (by first | omega | (simp; done) | (simp; omega))).trans (by go_simp); have hz : w.heap.size + 1 < w'.heap.size := (by have hs := hbb.size; first | omega | (simp at hs; done) | (simp at hs; omega)); have hbA : Below w.heap.size w w' := Below.trans (b := _) (by repeat (first | with_reducible exact Below.refl _ _ | with_reducible assumption | with_reducible refine below_drewN' ?_ _ | (with_reducible refine Below.setCell ?_ (by first | (simp; done) | (simp; omega)) _) | (with_reducible refine Below.alloc ?_ (by first | exact Nat.le_refl _ | (simp; done) | (simp; omega)) _))) (hbb.mono (by first | omega | (simp; done) | (simp; omega))); clear hc hf hbb
    go_wp2_with fail
    refine (frac_Valid _ _ _).mono ?_
    rintro e w' ⟨rfl, hbb⟩
    obtain ⟨hc, hf⟩ := bcell hbb
    have c0 : w'.cell? ⟨w.heap.size, 0, none⟩ = some (.int .i64 0) := (hc _ _ (by first | omega | (simp; done) | (simp; omega))).trans (by go_simp); have f0 : w'.frozen? ⟨w.heap.size, 0, none⟩ = false := (hf _ _ (by first | omega | (simp; done) | (simp; omega))).trans (by go_simp); have c1 : w'.cell? ⟨w.heap.size, 1, none⟩ = some (.int .i64 1) := (hc _ _ (by first | omega | (simp; done) | (simp; omega))).trans (by go_simp); have f1 : w'.frozen? ⟨w.heap.size, 1, none⟩ = false := (hf _ _ (by first | omega | (simp; done) | (simp; omega))).trans (by go_simp); have c2 : w'.cell? ⟨w.heap.size + 1, 0, none⟩ = some (.int .i64 bn) := (hc _ _ (by first | omega | (simp; done) | (simp; omega))).trans (by go_simp); have f2 : w'.frozen? ⟨w.heap.size + 1, 0, none⟩ = false := (hf _ _ (by first | omega | (simp; done) | (simp; omega))).trans (by go_simp); have c3 : w'.cell? ⟨w.heap.size + 1, 1, none⟩ = some (.int .i64 bd) := (hc _ _ (by first | omega | (simp; done) | (simp; omega))).trans (by go_simp); have f3 : w'.frozen? ⟨w.heap.size + 1, 1, none⟩ = false := (hf _ _ (by first | omega | (simp; done) | (simp; omega))).trans (by go_simp); have k0 : w'.cell? ⟨0, 0, none⟩ = some (.int .i64 0) := (hc _ _ (by first | omega | (simp; done) | (simp; omega))).trans (by go_simp); have k1 : w'.cell? ⟨0, 1, none⟩ = some (.int .i64 1) := (hc _ _ (by first | omega | (simp; done) | (simp; omega))).trans (by go_simp); have hz : w.heap.size + 1 < w'.heap.size := (by have hs := hbb.size; first | omega | (simp at hs; done) | (simp at hs; omega)); have hbA : Below w.heap.size w w' := Below.trans (b := _) (by repeat (first | with_reducible exact Below.refl _ _ | with_reducible assumption | with_reducible refine below_drewN' ?_ _ | (with_reducible refine Below.setCell ?_ (by first | (simp; done) | (simp; omega)) _) | (with_reducible refine Below.alloc ?_ (by first | exact Nat.le_refl _ | (simp; done) | (simp; omega)) _))) (hbb.mono (by first | omega | (simp; done) | (simp; omega))); clear hc hf hbb
    go_wp2_with fail
    refine forget_world (CmpSt w 0 1 0 1) ⟨(by repeat (first | with_reducible exact Below.refl _ _ | with_reducible assumption | with_reducible refine below_drewN' ?_ _ | (with_reducible refine Below.setCell ?_ (by first | (simp; done) | (simp; omega)) _) | (with_reducible refine Below.alloc ?_ (by first | exact Nat.le_refl _ | (simp; done) | (simp; omega)) _))), by first | (go_simp; done) | (simp; omega), by go_simp, by go_simp, by go_simp, by go_simp⟩ ?_
    clear c0 c1 c2 c3 f0 f1 f2 f3 k0 k1 hz hbA
    intro V hV
    have hV2 := hSt.out V hV
    clear hV hSt hA hB hC hD ha hb
    have J1 : IntKind.i64.wrap (-C) = -C := IntWalk.i64_in _ ⟨by omega, by omega⟩
    go_region_held3 (fun V => V.cell? ⟨w.heap.size, 0, none⟩ = some (.int .i64 A) ∧ V.cell? ⟨w.heap.size, 1, none⟩ = some (.int .i64 B) ∧ V.cell? ⟨w.heap.size + 1, 0, none⟩ = some (.int .i64 C) ∧ V.cell? ⟨w.heap.size + 1, 1, none⟩ = some (.int .i64 D) ∧ CmpSt w A B C D V) (first | exact (CmpSt.drew hV2).conj | exact CmpSt.conj (by assumption)) (first | (go_at_call 37; refine (frac_product _ _ _ ⟨by omega, by omega⟩ ⟨by omega, by omega⟩).mono ?_; rintro e w' ⟨h, l, rfl, HW, hbb⟩; have hst := CmpSt.step (‹_ ∧ _ ∧ _ ∧ _ ∧ CmpSt _ _ _ _ _ _›.2.2.2.2) hbb) | (go_at_call 38; refine Calls.mono (wide_plus (m1 := ?ma) (m2 := ?mb) _ _ _ _ _ _ _ (W1 := ?wa) (W2 := ?wb) ?wc) ?_; (case wa => assumption); (case wb => assumption); (case wc => exact Nat.lt_of_le_of_lt (Nat.add_le_add M1 M2) (by decide)); rintro e w' ⟨h, l, rfl, HP, hbb⟩; have hst := CmpSt.step (‹_ ∧ _ ∧ _ ∧ _ ∧ CmpSt _ _ _ _ _ _›.2.2.2.2) hbb) | (go_at_call 39; refine Calls.mono (wide_sign _ _ _ ?md _ ?wd) ?_; (case wd => assumption); rintro e w' ⟨rfl, hbb⟩; have hst := CmpSt.step (‹_ ∧ _ ∧ _ ∧ _ ∧ CmpSt _ _ _ _ _ _›.2.2.2.2) hbb))
    all_goals go_wp2_with fail
    all_goals go_ret
    all_goals refine ⟨ret_int ?_, (‹_ ∧ _ ∧ _ ∧ _ ∧ CmpSt _ _ _ _ _ _›.2.2.2.2).1⟩
    all_goals rw [HR.out, sgnW_sgn, wval_plus, wval_product, wval_product_neg]
    all_goals (congr 1; rw [Int.neg_mul]; omega)
  · have hSt : Hid (∀ V, CmpSt w 0 1 bn bd V → CmpSt w A B C D V) := by
      intro V hV
      rw [← hA.out, ← hB.out, ← hC.out, ← hD.out, (fix_no ha).1, (fix_no ha).2, (fix_yes hb).1, (fix_yes hb).2]
      exact hV
    go_enter Tryd.func22, Tryd.ntmps22
    go_wp2_with fail
    refine (frac_Valid _ _ _).mono ?_
    rintro e w' ⟨rfl, hbb⟩
    obtain ⟨hc, hf⟩ := bcell hbb
    have c0 : w'.cell? ⟨w.heap.size, 0, none⟩ = some (.int .i64 an) := (hc _ _ (by first | omega | (simp; done) | (simp; omega))).trans (by go_simp); have f0 : w'.frozen? ⟨w.heap.size, 0, none⟩ = false := (hf _ _ (by first | omega | (simp; done) | (simp; omega))).trans (by go_simp); have c1 : w'.cell? ⟨w.heap.size, 1, none⟩ = some (.int .i64 ad) := (hc _ _ (by first | omega | (simp; done) | (simp; omega))).trans (by go_simp); have f1 : w'.frozen? ⟨w.heap.size, 1, none⟩ = false := (hf _ _ (by first | omega | (simp; done) | (simp; omega))).trans (by go_simp); have c2 : w'.cell? ⟨w.heap.size + 1, 0, none⟩ = some (.int .i64 bn) := (hc _ _ (by first | omega | (simp; done) | (simp; omega))).trans (by go_simp); have f2 : w'.frozen? ⟨w.heap.size + 1, 0, none⟩ = false := (hf _ _ (by first | omega | (simp; done) | (simp; omega))).trans (by go_simp); have c3 : w'.cell? ⟨w.heap.size + 1, 1, none⟩ = some (.int .i64 bd) := (hc _ _ (by first | omega | (simp; done) | (simp; omega))).trans (by go_simp); have f3 : w'.frozen? ⟨w.heap.size + 1, 1, none⟩ = false := (hf _ _ (by first | omega | (simp; done) | (simp; omega))).trans (by go_simp); have k0 : w'.cell? ⟨0, 0, none⟩ = some (.int .i64 0) := (hc _ _ (by first | omega | (simp; done) | (simp; omega))).trans (by go_simp); have k1 : w'.cell? ⟨0, 1, none⟩ = some (.int .i64 1) := (hc _ _ (by first | omega | (simp; done) | (simp; omega))).trans (by go_simp); have hz : w.heap.size + 1 < w'.heap.size := (by have hs := hbb.size; first | omega | (simp at hs; done) | (simp at hs; omega)); have hbA : Below w.heap.size w w' := Below.trans (b := _) (by repeat (first | with_reducible exact Below.refl _ _ | with_reducible assumption | with_reducible refine below_drewN' ?_ _ | (with_reducible refine Below.setCell ?_ (by first | (simp; done) | (simp; omega)) _) | (with_reducible refine Below.alloc ?_ (by first | exact Nat.le_refl _ | (simp; done) | (simp; omega)) _))) (hbb.mono (by first | omega | (simp; done) | (simp; omega))); clear hc hf hbb
    go_wp2_with fail
    refine (frac_Valid _ _ _).mono ?_
    rintro e w' ⟨rfl, hbb⟩
    obtain ⟨hc, hf⟩ := bcell hbb
    have c0 : w'.cell? ⟨w.heap.size, 0, none⟩ = some (.int .i64 0) := (hc _ _ (by first | omega | (simp; done) | (simp; omega))).trans (by go_simp); have f0 : w'.frozen? ⟨w.heap.size, 0, none⟩ = false := (hf _ _ (by first | omega | (simp; done) | (simp; omega))).trans (by go_simp); have c1 : w'.cell? ⟨w.heap.size, 1, none⟩ = some (.int .i64 1) := (hc _ _ (by first | omega | (simp; done) | (simp; omega))).trans (by go_simp); have f1 : w'.frozen? ⟨w.heap.size, 1, none⟩ = false := (hf _ _ (by first | omega | (simp; done) | (simp; omega))).trans (by go_simp); have c2 : w'.cell? ⟨w.heap.size + 1, 0, none⟩ = some (.int .i64 bn) := (hc _ _ (by first | omega | (simp; done) | (simp; omega))).trans (by go_simp); have f2 : w'.frozen? ⟨w.heap.size + 1, 0, none⟩ = false := (hf _ _ (by first | omega | (simp; done) | (simp; omega))).trans (by go_simp); have c3 : w'.cell? ⟨w.heap.size + 1, 1, none⟩ = some (.int .i64 bd) := (hc _ _ (by first | omega | (simp; done) | (simp; omega))).trans (by go_simp); have f3 : w'.frozen? ⟨w.heap.size + 1, 1, none⟩ = false := (hf _ _ (by first | omega | (simp; done) | (simp; omega))).trans (by go_simp); have k0 : w'.cell? ⟨0, 0, none⟩ = some (.int .i64 0) := (hc _ _ (by first | omega | (simp; done) | (simp; omega))).trans (by go_simp); have k1 : w'.cell? ⟨0, 1, none⟩ = some (.int .i64 1) := (hc _ _ (by first | omega | (simp; done) | (simp; omega))).trans (by go_simp); have hz : w.heap.size + 1 < w'.heap.size := (by have hs := hbb.size; first | omega | (simp at hs; done) | (simp at hs; omega)); have hbA : Below w.heap.size w w' := Below.trans (b := _) (by repeat (first | with_reducible exact Below.refl _ _ | with_reducible assumption | with_reducible refine below_drewN' ?_ _ | (with_reducible refine Below.setCell ?_ (by first | (simp; done) | (simp; omega)) _) | (with_reducible refine Below.alloc ?_ (by first | exact Nat.le_refl _ | (simp; done) | (simp; omega)) _))) (hbb.mono (by first | omega | (simp; done) | (simp; omega))); clear hc hf hbb
    go_wp2_with fail
    refine forget_world (CmpSt w 0 1 bn bd) ⟨(by repeat (first | with_reducible exact Below.refl _ _ | with_reducible assumption | with_reducible refine below_drewN' ?_ _ | (with_reducible refine Below.setCell ?_ (by first | (simp; done) | (simp; omega)) _) | (with_reducible refine Below.alloc ?_ (by first | exact Nat.le_refl _ | (simp; done) | (simp; omega)) _))), by first | (go_simp; done) | (simp; omega), by go_simp, by go_simp, by go_simp, by go_simp⟩ ?_
    clear c0 c1 c2 c3 f0 f1 f2 f3 k0 k1 hz hbA
    intro V hV
    have hV2 := hSt.out V hV
    clear hV hSt hA hB hC hD ha hb
    have J1 : IntKind.i64.wrap (-C) = -C := IntWalk.i64_in _ ⟨by omega, by omega⟩
    go_region_held3 (fun V => V.cell? ⟨w.heap.size, 0, none⟩ = some (.int .i64 A) ∧ V.cell? ⟨w.heap.size, 1, none⟩ = some (.int .i64 B) ∧ V.cell? ⟨w.heap.size + 1, 0, none⟩ = some (.int .i64 C) ∧ V.cell? ⟨w.heap.size + 1, 1, none⟩ = some (.int .i64 D) ∧ CmpSt w A B C D V) (first | exact (CmpSt.drew hV2).conj | exact CmpSt.conj (by assumption)) (first | (go_at_call 37; refine (frac_product _ _ _ ⟨by omega, by omega⟩ ⟨by omega, by omega⟩).mono ?_; rintro e w' ⟨h, l, rfl, HW, hbb⟩; have hst := CmpSt.step (‹_ ∧ _ ∧ _ ∧ _ ∧ CmpSt _ _ _ _ _ _›.2.2.2.2) hbb) | (go_at_call 38; refine Calls.mono (wide_plus (m1 := ?ma) (m2 := ?mb) _ _ _ _ _ _ _ (W1 := ?wa) (W2 := ?wb) ?wc) ?_; (case wa => assumption); (case wb => assumption); (case wc => exact Nat.lt_of_le_of_lt (Nat.add_le_add M1 M2) (by decide)); rintro e w' ⟨h, l, rfl, HP, hbb⟩; have hst := CmpSt.step (‹_ ∧ _ ∧ _ ∧ _ ∧ CmpSt _ _ _ _ _ _›.2.2.2.2) hbb) | (go_at_call 39; refine Calls.mono (wide_sign _ _ _ ?md _ ?wd) ?_; (case wd => assumption); rintro e w' ⟨rfl, hbb⟩; have hst := CmpSt.step (‹_ ∧ _ ∧ _ ∧ _ ∧ CmpSt _ _ _ _ _ _›.2.2.2.2) hbb))
    all_goals go_wp2_with fail
    all_goals go_ret
    all_goals refine ⟨ret_int ?_, (‹_ ∧ _ ∧ _ ∧ _ ∧ CmpSt _ _ _ _ _ _›.2.2.2.2).1⟩
    all_goals rw [HR.out, sgnW_sgn, wval_plus, wval_product, wval_product_neg]
    all_goals (congr 1; rw [Int.neg_mul]; omega)
  · have hSt : Hid (∀ V, CmpSt w an ad 0 1 V → CmpSt w A B C D V) := by
      intro V hV
      rw [← hA.out, ← hB.out, ← hC.out, ← hD.out, (fix_yes ha).1, (fix_yes ha).2, (fix_no hb).1, (fix_no hb).2]
      exact hV
    go_enter Tryd.func22, Tryd.ntmps22
    go_wp2_with fail
    refine (frac_Valid _ _ _).mono ?_
    rintro e w' ⟨rfl, hbb⟩
    obtain ⟨hc, hf⟩ := bcell hbb
    have c0 : w'.cell? ⟨w.heap.size, 0, none⟩ = some (.int .i64 an) := (hc _ _ (by first | omega | (simp; done) | (simp; omega))).trans (by go_simp); have f0 : w'.frozen? ⟨w.heap.size, 0, none⟩ = false := (hf _ _ (by first | omega | (simp; done) | (simp; omega))).trans (by go_simp); have c1 : w'.cell? ⟨w.heap.size, 1, none⟩ = some (.int .i64 ad) := (hc _ _ (by first | omega | (simp; done) | (simp; omega))).trans (by go_simp); have f1 : w'.frozen? ⟨w.heap.size, 1, none⟩ = false := (hf _ _ (by first | omega | (simp; done) | (simp; omega))).trans (by go_simp); have c2 : w'.cell? ⟨w.heap.size + 1, 0, none⟩ = some (.int .i64 bn) := (hc _ _ (by first | omega | (simp; done) | (simp; omega))).trans (by go_simp); have f2 : w'.frozen? ⟨w.heap.size + 1, 0, none⟩ = false := (hf _ _ (by first | omega | (simp; done) | (simp; omega))).trans (by go_simp); have c3 : w'.cell? ⟨w.heap.size + 1, 1, none⟩ = some (.int .i64 bd) := (hc _ _ (by first | omega | (simp; done) | (simp; omega))).trans (by go_simp); have f3 : w'.frozen? ⟨w.heap.size + 1, 1, none⟩ = false := (hf _ _ (by first | omega | (simp; done) | (simp; omega))).trans (by go_simp); have k0 : w'.cell? ⟨0, 0, none⟩ = some (.int .i64 0) := (hc _ _ (by first | omega | (simp; done) | (simp; omega))).trans (by go_simp); have k1 : w'.cell? ⟨0, 1, none⟩ = some (.int .i64 1) := (hc _ _ (by first | omega | (simp; done) | (simp; omega))).trans (by go_simp); have hz : w.heap.size + 1 < w'.heap.size := (by have hs := hbb.size; first | omega | (simp at hs; done) | (simp at hs; omega)); have hbA : Below w.heap.size w w' := Below.trans (b := _) (by repeat (first | with_reducible exact Below.refl _ _ | with_reducible assumption | with_reducible refine below_drewN' ?_ _ | (with_reducible refine Below.setCell ?_ (by first | (simp; done) | (simp; omega)) _) | (with_reducible refine Below.alloc ?_ (by first | exact Nat.le_refl _ | (simp; done) | (simp; omega)) _))) (hbb.mono (by first | omega | (simp; done) | (simp; omega))); clear hc hf hbb
    go_wp2_with fail
    refine (frac_Valid _ _ _).mono ?_
    rintro e w' ⟨rfl, hbb⟩
    obtain ⟨hc, hf⟩ := bcell hbb
    have c0 : w'.cell? ⟨w.heap.size, 0, none⟩ = some (.int .i64 an) := (hc _ _ (by first | omega | (simp; done) | (simp; omega))).trans (by go_simp); have f0 : w'.frozen? ⟨w.heap.size, 0, none⟩ = false := (hf _ _ (by first | omega | (simp; done) | (simp; omega))).trans (by go_simp); have c1 : w'.cell? ⟨w.heap.size, 1, none⟩ = some (.int .i64 ad) := (hc _ _ (by first | omega | (simp; done) | (simp; omega))).trans (by go_simp); have f1 : w'.frozen? ⟨w.heap.size, 1, none⟩ = false := (hf _ _ (by first | omega | (simp; done) | (simp; omega))).trans (by go_simp); have c2 : w'.cell? ⟨w.heap.size + 1, 0, none⟩ = some (.int .i64 bn) := (hc _ _ (by first | omega | (simp; done) | (simp; omega))).trans (by go_simp); have f2 : w'.frozen? ⟨w.heap.size + 1, 0, none⟩ = false := (hf _ _ (by first | omega | (simp; done) | (simp; omega))).trans (by go_simp); have c3 : w'.cell? ⟨w.heap.size + 1, 1, none⟩ = some (.int .i64 bd) := (hc _ _ (by first | omega | (simp; done) | (simp; omega))).trans (by go_simp); have f3 : w'.frozen? ⟨w.heap.size + 1, 1, none⟩ = false := (hf _ _ (by first | omega | (simp; done) | (simp; omega))).trans (by go_simp); have k0 : w'.cell? ⟨0, 0, none⟩ = some (.int .i64 0) := (hc _ _ (by first | omega | (simp; done) | (simp; omega))).trans (by go_simp); have k1 : w'.cell? ⟨0, 1, none⟩ = some (.int .i64 1) := (hc _ _ (by first | omega | (simp; done) | (simp; omega))).trans (by go_simp); have hz : w.heap.size + 1 < w'.heap.size := (by have hs := hbb.size; first | omega | (simp at hs; done) | (simp at hs; omega)); have hbA : Below w.heap.size w w' := Below.trans (b := _) (by repeat (first | with_reducible exact Below.refl _ _ | with_reducible assumption | with_reducible refine below_drewN' ?_ _ | (with_reducible refine Below.setCell ?_ (by first | (simp; done) | (simp; omega)) _) | (with_reducible refine Below.alloc ?_ (by first | exact Nat.le_refl _ | (simp; done) | (simp; omega)) _))) (hbb.mono (by first | omega | (simp; done) | (simp; omega))); clear hc hf hbb
    go_wp2_with fail
    refine forget_world (CmpSt w an ad 0 1) ⟨(by repeat (first | with_reducible exact Below.refl _ _ | with_reducible assumption | with_reducible refine below_drewN' ?_ _ | (with_reducible refine Below.setCell ?_ (by first | (simp; done) | (simp; omega)) _) | (with_reducible refine Below.alloc ?_ (by first | exact Nat.le_refl _ | (simp; done) | (simp; omega)) _))), by first | (go_simp; done) | (simp; omega), by go_simp, by go_simp, by go_simp, by go_simp⟩ ?_
    clear c0 c1 c2 c3 f0 f1 f2 f3 k0 k1 hz hbA
    intro V hV
    have hV2 := hSt.out V hV
    clear hV hSt hA hB hC hD ha hb
    have J1 : IntKind.i64.wrap (-C) = -C := IntWalk.i64_in _ ⟨by omega, by omega⟩
    go_region_held3 (fun V => V.cell? ⟨w.heap.size, 0, none⟩ = some (.int .i64 A) ∧ V.cell? ⟨w.heap.size, 1, none⟩ = some (.int .i64 B) ∧ V.cell? ⟨w.heap.size + 1, 0, none⟩ = some (.int .i64 C) ∧ V.cell? ⟨w.heap.size + 1, 1, none⟩ = some (.int .i64 D) ∧ CmpSt w A B C D V) (first | exact (CmpSt.drew hV2).conj | exact CmpSt.conj (by assumption)) (first | (go_at_call 37; refine (frac_product _ _ _ ⟨by omega, by omega⟩ ⟨by omega, by omega⟩).mono ?_; rintro e w' ⟨h, l, rfl, HW, hbb⟩; have hst := CmpSt.step (‹_ ∧ _ ∧ _ ∧ _ ∧ CmpSt _ _ _ _ _ _›.2.2.2.2) hbb) | (go_at_call 38; refine Calls.mono (wide_plus (m1 := ?ma) (m2 := ?mb) _ _ _ _ _ _ _ (W1 := ?wa) (W2 := ?wb) ?wc) ?_; (case wa => assumption); (case wb => assumption); (case wc => exact Nat.lt_of_le_of_lt (Nat.add_le_add M1 M2) (by decide)); rintro e w' ⟨h, l, rfl, HP, hbb⟩; have hst := CmpSt.step (‹_ ∧ _ ∧ _ ∧ _ ∧ CmpSt _ _ _ _ _ _›.2.2.2.2) hbb) | (go_at_call 39; refine Calls.mono (wide_sign _ _ _ ?md _ ?wd) ?_; (case wd => assumption); rintro e w' ⟨rfl, hbb⟩; have hst := CmpSt.step (‹_ ∧ _ ∧ _ ∧ _ ∧ CmpSt _ _ _ _ _ _›.2.2.2.2) hbb))
    all_goals go_wp2_with fail
    all_goals go_ret
    all_goals refine ⟨ret_int ?_, (‹_ ∧ _ ∧ _ ∧ _ ∧ CmpSt _ _ _ _ _ _›.2.2.2.2).1⟩
    all_goals rw [HR.out, sgnW_sgn, wval_plus, wval_product, wval_product_neg]
    all_goals (congr 1; rw [Int.neg_mul]; omega)
  · have hSt : Hid (∀ V, CmpSt w an ad bn bd V → CmpSt w A B C D V) := by
      intro V hV
      rw [← hA.out, ← hB.out, ← hC.out, ← hD.out, (fix_yes ha).1, (fix_yes ha).2, (fix_yes hb).1, (fix_yes hb).2]
      exact hV
    go_enter Tryd.func22, Tryd.ntmps22
    go_wp2_with fail
    refine (frac_Valid _ _ _).mono ?_
    rintro e w' ⟨rfl, hbb⟩
    obtain ⟨hc, hf⟩ := bcell hbb
    have c0 : w'.cell? ⟨w.heap.size, 0, none⟩ = some (.int .i64 an) := (hc _ _ (by first | omega | (simp; done) | (simp; omega))).trans (by go_simp); have f0 : w'.frozen? ⟨w.heap.size, 0, none⟩ = false := (hf _ _ (by first | omega | (simp; done) | (simp; omega))).trans (by go_simp); have c1 : w'.cell? ⟨w.heap.size, 1, none⟩ = some (.int .i64 ad) := (hc _ _ (by first | omega | (simp; done) | (simp; omega))).trans (by go_simp); have f1 : w'.frozen? ⟨w.heap.size, 1, none⟩ = false := (hf _ _ (by first | omega | (simp; done) | (simp; omega))).trans (by go_simp); have c2 : w'.cell? ⟨w.heap.size + 1, 0, none⟩ = some (.int .i64 bn) := (hc _ _ (by first | omega | (simp; done) | (simp; omega))).trans (by go_simp); have f2 : w'.frozen? ⟨w.heap.size + 1, 0, none⟩ = false := (hf _ _ (by first | omega | (simp; done) | (simp; omega))).trans (by go_simp); have c3 : w'.cell? ⟨w.heap.size + 1, 1, none⟩ = some (.int .i64 bd) := (hc _ _ (by first | omega | (simp; done) | (simp; omega))).trans (by go_simp); have f3 : w'.frozen? ⟨w.heap.size + 1, 1, none⟩ = false := (hf _ _ (by first | omega | (simp; done) | (simp; omega))).trans (by go_simp); have k0 : w'.cell? ⟨0, 0, none⟩ = some (.int .i64 0) := (hc _ _ (by first | omega | (simp; done) | (simp; omega))).trans (by go_simp); have k1 : w'.cell? ⟨0, 1, none⟩ = some (.int .i64 1) := (hc _ _ (by first | omega | (simp; done) | (simp; omega))).trans (by go_simp); have hz : w.heap.size + 1 < w'.heap.size := (by have hs := hbb.size; first | omega | (simp at hs; done) | (simp at hs; omega)); have hbA : Below w.heap.size w w' := Below.trans (b := _) (by repeat (first | with_reducible exact Below.refl _ _ | with_reducible assumption | with_reducible refine below_drewN' ?_ _ | (with_reducible refine Below.setCell ?_ (by first | (simp; done) | (simp; omega)) _) | (with_reducible refine Below.alloc ?_ (by first | exact Nat.le_refl _ | (simp; done) | (simp; omega)) _))) (hbb.mono (by first | omega | (simp; done) | (simp; omega))); clear hc hf hbb
    go_wp2_with fail
    refine (frac_Valid _ _ _).mono ?_
    rintro e w' ⟨rfl, hbb⟩
    obtain ⟨hc, hf⟩ := bcell hbb
    have c0 : w'.cell? ⟨w.heap.size, 0, none⟩ = some (.int .i64 an) := (hc _ _ (by first | omega | (simp; done) | (simp; omega))).trans (by go_simp); have f0 : w'.frozen? ⟨w.heap.size, 0, none⟩ = false := (hf _ _ (by first | omega | (simp; done) | (simp; omega))).trans (by go_simp); have c1 : w'.cell? ⟨w.heap.size, 1, none⟩ = some (.int .i64 ad) := (hc _ _ (by first | omega | (simp; done) | (simp; omega))).trans (by go_simp); have f1 : w'.frozen? ⟨w.heap.size, 1, none⟩ = false := (hf _ _ (by first | omega | (simp; done) | (simp; omega))).trans (by go_simp); have c2 : w'.cell? ⟨w.heap.size + 1, 0, none⟩ = some (.int .i64 bn) := (hc _ _ (by first | omega | (simp; done) | (simp; omega))).trans (by go_simp); have f2 : w'.frozen? ⟨w.heap.size + 1, 0, none⟩ = false := (hf _ _ (by first | omega | (simp; done) | (simp; omega))).trans (by go_simp); have c3 : w'.cell? ⟨w.heap.size + 1, 1, none⟩ = some (.int .i64 bd) := (hc _ _ (by first | omega | (simp; done) | (simp; omega))).trans (by go_simp); have f3 : w'.frozen? ⟨w.heap.size + 1, 1, none⟩ = false := (hf _ _ (by first | omega | (simp; done) | (simp; omega))).trans (by go_simp); have k0 : w'.cell? ⟨0, 0, none⟩ = some (.int .i64 0) := (hc _ _ (by first | omega | (simp; done) | (simp; omega))).trans (by go_simp); have k1 : w'.cell? ⟨0, 1, none⟩ = some (.int .i64 1) := (hc _ _ (by first | omega | (simp; done) | (simp; omega))).trans (by go_simp); have hz : w.heap.size + 1 < w'.heap.size := (by have hs := hbb.size; first | omega | (simp at hs; done) | (simp at hs; omega)); have hbA : Below w.heap.size w w' := Below.trans (b := _) (by repeat (first | with_reducible exact Below.refl _ _ | with_reducible assumption | with_reducible refine below_drewN' ?_ _ | (with_reducible refine Below.setCell ?_ (by first | (simp; done) | (simp; omega)) _) | (with_reducible refine Below.alloc ?_ (by first | exact Nat.le_refl _ | (simp; done) | (simp; omega)) _))) (hbb.mono (by first | omega | (simp; done) | (simp; omega))); clear hc hf hbb
    go_wp2_with fail
    refine forget_world (CmpSt w an ad bn bd) ⟨(by repeat (first | with_reducible exact Below.refl _ _ | with_reducible assumption | with_reducible refine below_drewN' ?_ _ | (with_reducible refine Below.setCell ?_ (by first | (simp; done) | (simp; omega)) _) | (with_reducible refine Below.alloc ?_ (by first | exact Nat.le_refl _ | (simp; done) | (simp; omega)) _))), by first | (go_simp; done) | (simp; omega), by go_simp, by go_simp, by go_simp, by go_simp⟩ ?_
    clear c0 c1 c2 c3 f0 f1 f2 f3 k0 k1 hz hbA
    intro V hV
    have hV2 := hSt.out V hV
    clear hV hSt hA hB hC hD ha hb
    have J1 : IntKind.i64.wrap (-C) = -C := IntWalk.i64_in _ ⟨by omega, by omega⟩
    go_region_held3 (fun V => V.cell? ⟨w.heap.size, 0, none⟩ = some (.int .i64 A) ∧ V.cell? ⟨w.heap.size, 1, none⟩ = some (.int .i64 B) ∧ V.cell? ⟨w.heap.size + 1, 0, none⟩ = some (.int .i64 C) ∧ V.cell? ⟨w.heap.size + 1, 1, none⟩ = some (.int .i64 D) ∧ CmpSt w A B C D V) (first | exact (CmpSt.drew hV2).conj | exact CmpSt.conj (by assumption)) (first | (go_at_call 37; refine (frac_product _ _ _ ⟨by omega, by omega⟩ ⟨by omega, by omega⟩).mono ?_; rintro e w' ⟨h, l, rfl, HW, hbb⟩; have hst := CmpSt.step (‹_ ∧ _ ∧ _ ∧ _ ∧ CmpSt _ _ _ _ _ _›.2.2.2.2) hbb) | (go_at_call 38; refine Calls.mono (wide_plus (m1 := ?ma) (m2 := ?mb) _ _ _ _ _ _ _ (W1 := ?wa) (W2 := ?wb) ?wc) ?_; (case wa => assumption); (case wb => assumption); (case wc => exact Nat.lt_of_le_of_lt (Nat.add_le_add M1 M2) (by decide)); rintro e w' ⟨h, l, rfl, HP, hbb⟩; have hst := CmpSt.step (‹_ ∧ _ ∧ _ ∧ _ ∧ CmpSt _ _ _ _ _ _›.2.2.2.2) hbb) | (go_at_call 39; refine Calls.mono (wide_sign _ _ _ ?md _ ?wd) ?_; (case wd => assumption); rintro e w' ⟨rfl, hbb⟩; have hst := CmpSt.step (‹_ ∧ _ ∧ _ ∧ _ ∧ CmpSt _ _ _ _ _ _›.2.2.2.2) hbb))
    all_goals go_wp2_with fail
    all_goals go_ret
    all_goals refine ⟨ret_int ?_, (‹_ ∧ _ ∧ _ ∧ _ ∧ CmpSt _ _ _ _ _ _›.2.2.2.2).1⟩
    all_goals rw [HR.out, sgnW_sgn, wval_plus, wval_product, wval_product_neg]
    all_goals (congr 1; rw [Int.neg_mul]; omega)

/-- the greatest integer below -/
def floorS (n d : Int) : Int := if validB n d then n / d else 0

theorem tdiv_floor {n d : Int} (hd : 1 ≤ d) : n / d = if n.tmod d < 0 then n.tdiv d - 1 else n.tdiv d := by
  rcases Int.le_total 0 n with h | h
  · rw [if_neg (by rw [Int.tmod_eq_emod_of_nonneg h]; have := Int.emod_nonneg n (show d ≠ 0 by omega); omega), Int.tdiv_eq_ediv_of_nonneg h]
  · have e1 := Int.tmod_add_mul_tdiv n d
    have e2 := Int.emod_add_mul_ediv n d
    have b1 := Int.emod_nonneg n (show d ≠ 0 by omega)
    have b2 := Int.emod_lt_of_pos n (show 0 < d by omega)
    have e3 : n.tmod d = -((-n) % d) := by rw [← Int.tmod_eq_emod_of_nonneg (show 0 ≤ -n by omega), Int.neg_tmod, Int.neg_neg]
    have b5 := Int.emod_nonneg (-n) (show d ≠ 0 by omega)
    have b6 := Int.emod_lt_of_pos (-n) (show 0 < d by omega)
    have b3 : n.tmod d ≤ 0 := by omega
    have b4 : -d < n.tmod d := by omega
    clear e3 b5 b6
    generalize n.tdiv d = t at *
    generalize n / d = q at *
    generalize n.tmod d = r at *
    generalize n % d = s at *
    split
    · rename_i hr
      have : d * (t - 1 - q) = s - r - d := by grind
      have h1 : -d < d * (t - 1 - q) := by omega
      have h2 : d * (t - 1 - q) < d := by omega
      have : t - 1 - q = 0 := by
        rcases Int.lt_trichotomy (t - 1 - q) 0 with k | k | k
        · have := Int.mul_le_mul_of_nonneg_left (show t - 1 - q ≤ -1 by omega) (show 0 ≤ d by omega); omega
        · exact k
        · have := Int.mul_le_mul_of_nonneg_left (show 1 ≤ t - 1 - q by omega) (show 0 ≤ d by omega); omega
      omega
    · rename_i hr
      have : d * (t - q) = s - r := by grind
      have h2 : d * (t - q) < d := by omega
      have h1 : -d < d * (t - q) := by omega
      rcases Int.lt_trichotomy (t - q) 0 with k | k | k
      · have := Int.mul_le_mul_of_nonneg_left (show t - q ≤ -1 by omega) (show 0 ≤ d by omega); omega
      · omega
      · have := Int.mul_le_mul_of_nonneg_left (show 1 ≤ t - q by omega) (show 0 ≤ d by omega); omega

set_option maxHeartbeats 800000 in
theorem frac_Floor (n d : Int) (w : World) :
    Calls Tryd.prog 28 #[.agg #[.int .i64 n, .int .i64 d]] w fun e w' => e = .returned (.int .i64 (floorS n d)) ∧ Below w.heap.size w w' := by
  cases hv : validB n d
  · have HR : Hid (floorS n d = 0) := by show floorS n d = 0; unfold floorS; rw [hv]; rfl
    go_enter Tryd.func28, Tryd.ntmps28
    go_wp2_with fail
    refine (frac_Valid _ _ _).mono ?_
    rintro e w' ⟨rfl, hbb⟩
    have hb1 : Below w.heap.size w w' := Below.trans (b := _) (by repeat (first | with_reducible exact Below.refl _ _ | with_reducible assumption | with_reducible refine below_drewN' ?_ _ | (with_reducible refine Below.setCell ?_ (by first | (simp; done) | (simp; omega)) _) | (with_reducible refine Below.alloc ?_ (by first | exact Nat.le_refl _ | (simp; done) | (simp; omega)) _))) (hbb.mono (by simp))
    go_wp2_with fail
    go_ret
    exact ⟨ret_int HR.out.symm, hb1⟩
  · obtain ⟨h1, h2, ⟨h3, h4⟩, -⟩ := validB_iff.1 hv
    have HR : Hid (floorS n d = if n.tmod d < 0 then n.tdiv d - 1 else n.tdiv d) := by show floorS n d = _; unfold floorS; rw [hv]; exact tdiv_floor h1
    have hd0 : (d == 0) = false := beq_eq_false_iff_ne.2 (by omega)
    have hd00 : ¬ d = 0 := by omega
    have hq : (n.tdiv d).natAbs = n.natAbs / d.natAbs := Int.natAbs_tdiv n d
    have hq2 : n.natAbs / d.natAbs ≤ n.natAbs := Nat.div_le_self _ _
    obtain ⟨q, hq0⟩ : ∃ q, n.tdiv d = q := ⟨_, rfl⟩
    obtain ⟨r, hr0⟩ : ∃ r, n.tmod d = r := ⟨_, rfl⟩
    rw [hq0, hr0] at HR
    rw [hq0] at hq
    generalize n.natAbs / d.natAbs = z at *
    have q1 : -1000000000000000 ≤ q := by omega
    have q2 : q ≤ 1000000000000000 := by omega
    clear hq hq2
    go_enter Tryd.func28, Tryd.ntmps28
    go_wp2_with fail
    refine (frac_Valid _ _ _).mono ?_
    rintro e w' ⟨rfl, hbb⟩
    have hb1 : Below w.heap.size w w' := Below.trans (b := _) (by repeat (first | with_reducible exact Below.refl _ _ | with_reducible assumption | with_reducible refine below_drewN' ?_ _ | (with_reducible refine Below.setCell ?_ (by first | (simp; done) | (simp; omega)) _) | (with_reducible refine Below.alloc ?_ (by first | exact Nat.le_refl _ | (simp; done) | (simp; omega)) _))) (hbb.mono (by simp))
    obtain ⟨hc, hf⟩ := bcell hbb
    have c0 : w'.cell? ⟨w.heap.size, 0, none⟩ = some (.int .i64 n) := (hc _ _ (by simp)).trans (by go_simp)
    have c1 : w'.cell? ⟨w.heap.size, 1, none⟩ = some (.int .i64 d) := (hc _ _ (by simp)).trans (by go_simp)
    clear hc hf hbb
    go_wp2_with fail
    all_goals go_ret
    all_goals (refine ⟨ret_int ?_, hb1⟩; rw [HR.out])
    · exact (if_pos ‹_›).symm
    · exact (if_neg (by omega)).symm

end Go.Proofs.YtemmgehaddghfaaDoor
